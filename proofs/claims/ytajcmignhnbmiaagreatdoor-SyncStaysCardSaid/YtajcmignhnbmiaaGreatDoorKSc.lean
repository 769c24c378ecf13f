/- SyncStays, Meet, Shown, Copy, Alike: the walks, printed by our generator; each follows its model. Conditions: the model yields a value. -/
import Derived.Test.YtajcmignhnbmiaaGreatDoorKSb
import Derived.Test.YtajcmignhnbmiaaGreatDoorMd
namespace Go.Proofs.YtajcmignhnbmiaaGreatDoor
open Go Go.Vc Go.Md Go.M Go.Lx
set_option maxRecDepth 100000
set_option maxHeartbeats 4000000
set_option linter.unusedVariables false
theorem k69 {a : Option Addr} {n c : Nat} (hc : n ≤ c) : Ret Tryz.prog 69 [.slice a n c] (.slice (Yq a 0 n 8) n n) := by
  refine Qx (n := 9) Tryz.func69 rfl rfl rfl (fun wd => ?_)
  refine Jf ?_
  refine Jb ?_
  refine Ja rfl rfl rfl (Jc (v := .slice none 0 0) rfl) ?_
  refine Jg ?_
  refine Jf ?_
  refine Jb ?_
  refine Ja rfl rfl rfl (Je (v := .slice a n c) rfl) ?_
  refine Ja rfl rfl rfl (Je (v := .slice a n c) rfl) ?_
  refine Ja rfl rfl rfl (U5 Tryz.underlying58 rfl) ?_
  refine Ja rfl rfl rfl (Je (v := .slice a n c) rfl) ?_
  refine Ja rfl rfl rfl (U5 Tryz.underlying58 rfl) ?_
  refine Ja rfl rfl rfl (r_sliceHM (a := a) (m := n) (c := c) (h := (n : Int)) (q := (n : Int)) Tryz.underlying58 Tryz.sizeOf45 rfl rfl rfl (Int.natCast_nonneg n) (Int.le_refl _) (Int.ofNat_le.2 hc)) ?_
  refine Ja rfl rfl rfl (Jc (v := .slice (Yq a 0 n 8) n n) rfl) ?_
  refine Jg ?_
  refine Jp ?_
  exact J3 (v := .slice (Yq a 0 n 8) n n) rfl rfl (Yd rfl)
theorem k41 {a0 : T_sync_Replica} {v0_2 : Value} {pb0 : Nat} {r : (List T_sync_Fact)} {w : World} {h : Qd} (hw : Know h w Vd) (f0_2 : FrS h 8 v0_2 (a0.facts_.map Jd)) (hb0 : h pb0 = some (.cells (List.toArray [.int .i64 a0.device_, .int .i64 (a0.knows_ 0), .int .i64 (a0.knows_ 1), .int .i64 (a0.knows_ 2), .int .i64 (a0.knows_ 3), .int .i64 (a0.knows_ 4), .int .i64 (a0.knows_ 5), .int .i64 (a0.knows_ 6), .int .i64 (a0.knows_ 7), .int .i64 (a0.knows_ 8), .int .i64 (a0.knows_ 9), .int .i64 (a0.knows_ 10), .int .i64 (a0.knows_ 11), .int .i64 (a0.knows_ 12), .int .i64 (a0.knows_ 13), .int .i64 (a0.knows_ 14), .int .i64 (a0.knows_ 15), v0_2]) 60 (0, 0))) (H : Qk a0 = some r) : Does Tryz.prog 41 (List.toArray [.pointer (some ⟨pb0, 0, none⟩)]) w (fun v w' => ∃ x : (Option Addr × Nat), v = (.slice x.1 r.length x.2) ∧ Turn w w' Vd (J2 45 8 (.slice x.1 r.length x.2) r.length (r.map Jd))) := by
 refine enter (n := 9) Tryz.func41 rfl rfl rfl Vd [] (Sat.nil _ _) ?_
 refine Jf ?_
 refine Jb ?_
 refine Ja rfl rfl rfl (Jc (v := .slice none 0 0) rfl) ?_
 refine Jg ?_
 refine Jf ?_
 refine Jb ?_
 refine Ja rfl rfl rfl (Je (v := .pointer (some ⟨pb0, 0, none⟩)) rfl) ?_
 refine Ja rfl rfl rfl (Qm rfl) ?_
 refine Ja rfl rfl rfl (Jo Tryz.runUnderlying60 rfl Tryz.sizeOf58 rfl rfl) ?_
 refine Qo (fun w hF hS => Xo (v := v0_2) Tryz.isAgg58 rfl (hw.now hF _ _ hb0) rfl) rfl rfl rfl ?_
 obtain ⟨t7, h_t7, H3⟩ := Ji H; clear H
 refine Zq (Ql (rds := []) (G := fun x : (Option Addr × Nat) => .slice x.1 t7.length x.2) (C := fun x : (Option Addr × Nat) => Jz 45 8 (.slice x.1 t7.length x.2) t7.length (t7.map Jd)) (fun w L' hF hS hi => k70 (Jx w) (f0_2.mono (hw.now hF)) h_t7) Tryz.call70 rfl) rfl rfl rfl (fun p => ?_)
 refine Yv (fun w hF hS => k69 (capOf (i := 0) hS rfl) w) Tryz.call69 rfl rfl rfl ?_
 refine Ja rfl rfl rfl (Jc (v := .slice (Yq p.1 0 t7.length 8) t7.length t7.length) rfl) ?_
 refine Jg ?_
 refine Jp ?_
 obtain rfl := Option.some.inj H3
 refine Ww 0 rfl (imp_clipR _ _ _ _ _ _) ?_
 refine J3 (v := .slice (Yq p.1 0 t7.length 8) t7.length t7.length) rfl rfl (Yk (Yq p.1 0 t7.length 8, t7.length) (i := 0) rfl rfl (Imp.refl _))
theorem k17 {a0 : T_sync_Replica} {v0_2 : Value} {pb0 : Nat} {a1 : Int} {r : (Option T_sync_Replica) × Int} {w : World} {h : Qd} (hw : Know h w Vd) (f0_2 : FrS h 8 v0_2 (a0.facts_.map Jd)) (hb0 : h pb0 = some (.cells (List.toArray [.int .i64 a0.device_, .int .i64 (a0.knows_ 0), .int .i64 (a0.knows_ 1), .int .i64 (a0.knows_ 2), .int .i64 (a0.knows_ 3), .int .i64 (a0.knows_ 4), .int .i64 (a0.knows_ 5), .int .i64 (a0.knows_ 6), .int .i64 (a0.knows_ 7), .int .i64 (a0.knows_ 8), .int .i64 (a0.knows_ 9), .int .i64 (a0.knows_ 10), .int .i64 (a0.knows_ 11), .int .i64 (a0.knows_ 12), .int .i64 (a0.knows_ 13), .int .i64 (a0.knows_ 14), .int .i64 (a0.knows_ 15), v0_2]) 60 (0, 0))) (H : Wb a0 a1 = some r) : Does Tryz.prog 17 (List.toArray [.pointer (some ⟨pb0, 0, none⟩), .int .i64 a1]) w (fun v w' => ∃ x : Nat × (Option Addr × Nat), v = (.tuple #[optP r.1 x.1, .int .i64 r.2]) ∧ Turn w w' Vd (obxC (optP r.1 x.1) r.1 x.1 (fun z : T_sync_Replica => J0 (Jl x.1 [.int .i64 z.device_, .int .i64 (z.knows_ 0), .int .i64 (z.knows_ 1), .int .i64 (z.knows_ 2), .int .i64 (z.knows_ 3), .int .i64 (z.knows_ 4), .int .i64 (z.knows_ 5), .int .i64 (z.knows_ 6), .int .i64 (z.knows_ 7), .int .i64 (z.knows_ 8), .int .i64 (z.knows_ 9), .int .i64 (z.knows_ 10), .int .i64 (z.knows_ 11), .int .i64 (z.knows_ 12), .int .i64 (z.knows_ 13), .int .i64 (z.knows_ 14), .int .i64 (z.knows_ 15), .slice x.2.1 z.facts_.length x.2.2] 60) (J2 45 8 (.slice x.2.1 z.facts_.length x.2.2) z.facts_.length (z.facts_.map Jd))))) := by
 refine enter (n := 17) Tryz.func17 rfl rfl rfl Vd [] (Sat.nil _ _) ?_
 refine Jf ?_
 refine Jb ?_
 refine Ja rfl rfl rfl (Jc (v := .pointer none) rfl) ?_
 refine Ja rfl rfl rfl (Jc (v := .int .i64 0) rfl) ?_
 refine Jg ?_
 refine Jf ?_
 refine Jf ?_
 refine Jb ?_
 refine Ja rfl rfl rfl (Je (v := .int .i64 a1) rfl) ?_
 obtain ⟨t7, h_t7, H5⟩ := Ji H; clear H
 refine Q5 (k31 h_t7) Tryz.call31 rfl rfl rfl ?_
 refine Jg ?_
 refine Qg (b := t7) rfl (fun hb => ?_) (fun hb => ?_)
 ·have H6 := Jr hb H5; clear H5
  refine Jf ?_
  refine Jb ?_
  refine Ja rfl rfl rfl (Jc (v := .pointer none) rfl) ?_
  refine Ja rfl rfl rfl (Jc (v := .int .i64 2) rfl) ?_
  refine Jg ?_
  refine Jp ?_
  refine c_emp ?_
  refine Ww 0 rfl (imp_obxNil (b := 0) (fun z : T_sync_Replica => J0 (Jl 0 [.int .i64 z.device_, .int .i64 (z.knows_ 0), .int .i64 (z.knows_ 1), .int .i64 (z.knows_ 2), .int .i64 (z.knows_ 3), .int .i64 (z.knows_ 4), .int .i64 (z.knows_ 5), .int .i64 (z.knows_ 6), .int .i64 (z.knows_ 7), .int .i64 (z.knows_ 8), .int .i64 (z.knows_ 9), .int .i64 (z.knows_ 10), .int .i64 (z.knows_ 11), .int .i64 (z.knows_ 12), .int .i64 (z.knows_ 13), .int .i64 (z.knows_ 14), .int .i64 (z.knows_ 15), .slice ((none, 0) : Option Addr × Nat).1 z.facts_.length ((none, 0) : Option Addr × Nat).2] 60) (J2 45 8 (.slice ((none, 0) : Option Addr × Nat).1 z.facts_.length ((none, 0) : Option Addr × Nat).2) z.facts_.length (z.facts_.map Jd)))) ?_
  obtain rfl := Option.some.inj H6
  refine ret2 (v1 := optP (none : Option T_sync_Replica) 0) (v2 := .int .i64 2) rfl rfl rfl (Yk (0, ((none, 0) : Option Addr × Nat)) (i := 0) rfl rfl (Imp.refl _))
 ·have H7 := Jq hb H5; clear H5
  refine Jw ?_
  refine Jf ?_
  exact Yl (Kd.p :: Kd.p :: Kd.p :: Kd.p :: Kd.d [] _ :: Kd.p :: Kd.t 0 [] _ _ :: Kd.p :: Kd.nv 15 1 _ 60 :: Kd.p :: Kd.p :: []) 2 mixed (by
   refine Jt rfl rfl (Je (v := .int .i64 a1) rfl) ?_
   refine Jt rfl rfl (Je (v := .pointer (some ⟨pb0, 0, none⟩)) rfl) ?_
   refine Jt rfl rfl (Qm rfl) ?_
   refine Jt rfl rfl (Jo Tryz.runUnderlying60 rfl Tryz.sizeOf57 rfl rfl) ?_
   refine d_read (fun w hF => run_loadKN (vs := [.int .i64 (a0.knows_ 0), .int .i64 (a0.knows_ 1), .int .i64 (a0.knows_ 2), .int .i64 (a0.knows_ 3), .int .i64 (a0.knows_ 4), .int .i64 (a0.knows_ 5), .int .i64 (a0.knows_ 6), .int .i64 (a0.knows_ 7), .int .i64 (a0.knows_ 8), .int .i64 (a0.knows_ 9), .int .i64 (a0.knows_ 10), .int .i64 (a0.knows_ 11), .int .i64 (a0.knows_ 12), .int .i64 (a0.knows_ 13), .int .i64 (a0.knows_ 14), .int .i64 (a0.knows_ 15)]) Tryz.isAgg57 Tryz.sizeOf57 rfl (hw.now hF _ _ hb0) rfl) rfl rfl ?_
   refine Jt rfl rfl (Je (v := .pointer (some ⟨pb0, 0, none⟩)) rfl) ?_
   have h_t14 := Qq H7
   have H8 := Qi H7
   refine d_make (Cv := fun v => J2 45 8 v (val (Qk a0)).length ((val (Qk a0)).map Jd)) (none, 0) (Ql (G := fun x : (Option Addr × Nat) => .slice x.1 (val (Qk a0)).length x.2) (C := fun x : (Option Addr × Nat) => J2 45 8 (.slice x.1 (val (Qk a0)).length x.2) (val (Qk a0)).length ((val (Qk a0)).map Jd)) (fun w L' hF hS hi => k41 (Jx w) (f0_2.mono (hw.now hF)) (hw.now hF _ _ hb0) h_t14) Tryz.call41 rfl) (fun _ => rfl) rfl rfl rfl (fun p => ?_)
   refine Jt rfl rfl (W4 (pl := #[(0, 1), (1, 16), (17, 1)]) (ps := [(0, .int .i64 a1), (1, .agg #[.int .i64 (a0.knows_ 0), .int .i64 (a0.knows_ 1), .int .i64 (a0.knows_ 2), .int .i64 (a0.knows_ 3), .int .i64 (a0.knows_ 4), .int .i64 (a0.knows_ 5), .int .i64 (a0.knows_ 6), .int .i64 (a0.knows_ 7), .int .i64 (a0.knows_ 8), .int .i64 (a0.knows_ 9), .int .i64 (a0.knows_ 10), .int .i64 (a0.knows_ 11), .int .i64 (a0.knows_ 12), .int .i64 (a0.knows_ 13), .int .i64 (a0.knows_ 14), .int .i64 (a0.knows_ 15)]), (2, .slice p.1 (val (Qk a0)).length p.2)]) (cells := #[.int .i64 a1, .int .i64 (a0.knows_ 0), .int .i64 (a0.knows_ 1), .int .i64 (a0.knows_ 2), .int .i64 (a0.knows_ 3), .int .i64 (a0.knows_ 4), .int .i64 (a0.knows_ 5), .int .i64 (a0.knows_ 6), .int .i64 (a0.knows_ 7), .int .i64 (a0.knows_ 8), .int .i64 (a0.knows_ 9), .int .i64 (a0.knows_ 10), .int .i64 (a0.knows_ 11), .int .i64 (a0.knows_ 12), .int .i64 (a0.knows_ 13), .int .i64 (a0.knows_ 14), .int .i64 (a0.knows_ 15), .slice p.1 (val (Qk a0)).length p.2]) Tryz.zeroValue60 Tryz.runUnderlying60 (fun w => by kernel_rfl) rfl (by kernel_rfl)) ?_
   refine d_newV (q := 15) (cs := fun v_ => [(vcell v_ 0), (vcell v_ 1), (vcell v_ 2), (vcell v_ 3), (vcell v_ 4), (vcell v_ 5), (vcell v_ 6), (vcell v_ 7), (vcell v_ 8), (vcell v_ 9), (vcell v_ 10), (vcell v_ 11), (vcell v_ 12), (vcell v_ 13), (vcell v_ 14), (vcell v_ 15), (vcell v_ 16), (vcell v_ 17)]) (cs0 := [.int .i64 a1, .int .i64 (a0.knows_ 0), .int .i64 (a0.knows_ 1), .int .i64 (a0.knows_ 2), .int .i64 (a0.knows_ 3), .int .i64 (a0.knows_ 4), .int .i64 (a0.knows_ 5), .int .i64 (a0.knows_ 6), .int .i64 (a0.knows_ 7), .int .i64 (a0.knows_ 8), .int .i64 (a0.knows_ 9), .int .i64 (a0.knows_ 10), .int .i64 (a0.knows_ 11), .int .i64 (a0.knows_ 12), .int .i64 (a0.knows_ 13), .int .i64 (a0.knows_ 14), .int .i64 (a0.knows_ 15), .slice p.1 (val (Qk a0)).length p.2]) rfl rfl rfl rfl (run_box (cs := [.int .i64 a1, .int .i64 (a0.knows_ 0), .int .i64 (a0.knows_ 1), .int .i64 (a0.knows_ 2), .int .i64 (a0.knows_ 3), .int .i64 (a0.knows_ 4), .int .i64 (a0.knows_ 5), .int .i64 (a0.knows_ 6), .int .i64 (a0.knows_ 7), .int .i64 (a0.knows_ 8), .int .i64 (a0.knows_ 9), .int .i64 (a0.knows_ 10), .int .i64 (a0.knows_ 11), .int .i64 (a0.knows_ 12), .int .i64 (a0.knows_ 13), .int .i64 (a0.knows_ 14), .int .i64 (a0.knows_ 15), .slice p.1 (val (Qk a0)).length p.2]) rfl rfl) rfl (fun b1 => ?_)
   refine Jt rfl rfl (Jc (v := .pointer (some ⟨b1, 0, none⟩)) rfl) ?_
   refine Jt rfl rfl (Jc (v := .int .i64 0) rfl) ?_
   refine Wr ?_
   refine Jp ?_
   refine Qa 1 0 rfl rfl (by decide) ?_
   refine Ww 1 rfl (imp_obx (b := b1) (z := (⟨a1, a0.knows_, (val (Qk a0))⟩ : T_sync_Replica)) (fun z : T_sync_Replica => J0 (Jl b1 [.int .i64 z.device_, .int .i64 (z.knows_ 0), .int .i64 (z.knows_ 1), .int .i64 (z.knows_ 2), .int .i64 (z.knows_ 3), .int .i64 (z.knows_ 4), .int .i64 (z.knows_ 5), .int .i64 (z.knows_ 6), .int .i64 (z.knows_ 7), .int .i64 (z.knows_ 8), .int .i64 (z.knows_ 9), .int .i64 (z.knows_ 10), .int .i64 (z.knows_ 11), .int .i64 (z.knows_ 12), .int .i64 (z.knows_ 13), .int .i64 (z.knows_ 14), .int .i64 (z.knows_ 15), .slice p.1 z.facts_.length p.2] 60) (J2 45 8 (.slice p.1 z.facts_.length p.2) z.facts_.length (z.facts_.map Jd)))) ?_
   obtain rfl := Option.some.inj H8
   refine ret2 (v1 := optP (some (⟨a1, a0.knows_, (val (Qk a0))⟩ : T_sync_Replica)) b1) (v2 := .int .i64 0) rfl rfl rfl (Yk (b1, p) (i := 1) rfl rfl (Imp.refl _))
   ) (by kernel_rfl)
theorem k42 {a0 : (List T_sync_Fact)} {v0 : Value} {a1 : (List T_sync_Fact)} {v1 : Value} {r : Bool} {w : World} {h : Qd} (hw : Know h w Vd) (f0 : FrS h 8 v0 (a0.map Jd)) (f1 : FrS h 8 v1 (a1.map Jd)) (H : X2 a0 a1 = some r) : Does Tryz.prog 42 (List.toArray [v0, v1]) w (fun v w' => v = (.bool r) ∧ Grow w w') := by
 refine enter (n := 26) Tryz.func42 rfl rfl rfl Vd [] (Sat.nil _ _) ?_
 refine Jf ?_
 refine Jb ?_
 refine Ja rfl rfl rfl (Jc (v := .bool false) rfl) ?_
 refine Jg ?_
 refine Jf ?_
 refine Jf ?_
 refine Jb ?_
 refine Ja rfl rfl rfl (Je (v := v0) rfl) ?_
 refine Ja rfl rfl rfl (Uh Tryz.underlying58 rfl f0 rfl) ?_
 refine Ja rfl rfl rfl (Je (v := v1) rfl) ?_
 refine Ja rfl rfl rfl (Uh Tryz.underlying58 rfl f1 rfl) ?_
 refine Ja rfl rfl rfl (r_neq rfl rfl) ?_
 refine Jg ?_
 refine Qg (b := (decide ((a0.length : Int) ≠ (a1.length : Int)))) rfl (fun hb => ?_) (fun hb => ?_)
 ·have H11 := Jr hb H; clear H
  refine Jf ?_
  refine Jb ?_
  refine Ja rfl rfl rfl (Jc (v := .bool false) rfl) ?_
  refine Jg ?_
  refine Jp ?_
  obtain rfl := Option.some.inj H11
  refine J3 (v := .bool false) rfl rfl (Yd rfl)
 ·have H12 := Jq hb H; clear H
  refine Jw ?_
  refine Jf ?_
  refine Jf ?_
  refine Jb ?_
  refine Ja rfl rfl rfl (Je (v := v0) rfl) ?_
  refine Ja rfl rfl rfl (Uh Tryz.underlying58 rfl f0 rfl) ?_
  refine Ja rfl rfl rfl (Je (v := .int .i64 0) rfl) ?_
  refine Jg ?_
  refine J5 ?_
  refine Vn (σ := Int) (τ := Unit) (fun next1 s => Qz a0 a1 next1 s) (fun s t => [(0, v0), (1, v1), (12, .int .i64 (a0.length : Int)), (13, .int .i64 s)]) (fun s t => []) (fun s t => True) 0 () [] H12 (by exact trivial) (by exact ⟨rfl, rfl, rfl, rfl, trivial⟩) (by decide) rfl ?_
  rintro x13_2 _ m1 gg H13 _
  clear H12
  replace H13 : Qz a0 a1 (it (fun next1 s => Qz a0 a1 next1 s) m1) x13_2 = some r := H13
  generalize hn1 : it (fun next1 s => Qz a0 a1 next1 s) m1 = next1 at H13
  refine J8 [(0, v0), (1, v1), (12, .int .i64 (a0.length : Int)), (13, .int .i64 x13_2)] [] rfl rfl ?_
  refine Jf ?_
  refine Jb ?_
  refine Ja rfl rfl rfl (Zd rfl rfl) ?_
  refine Jg ?_
  refine Jf ?_
  refine Qg (b := (decide (x13_2 < (a0.length : Int)))) rfl (fun hb => ?_) (fun hb => ?_)
  ·have H14 := Jr hb H13; clear H13
   refine Jw ?_
   refine Jf ?_
   refine J5 ?_
   refine Jf ?_
   refine Jb ?_
   refine Ja rfl rfl rfl (Je (v := .int .i64 x13_2) rfl) ?_
   refine Ja rfl rfl rfl (Jc (v := .int .i64 x13_2) rfl) ?_
   refine Jg ?_
   refine Jf ?_
   exact Yl (Kd.p :: Kd.p :: Kd.p :: Kd.d [] _ :: Kd.p :: Kd.p :: Kd.p :: Kd.d [] _ :: Kd.p :: []) 0 mixed (by
    refine Jt rfl rfl (Je (v := v0) rfl) ?_
    refine Jt rfl rfl (Je (v := .int .i64 x13_2) rfl) ?_
    have h_t18 := Qq H14
    have H15 := Qi H14
    refine Jt rfl rfl (Z6 Tryz.underlying58 Tryz.sizeOf45 rfl rfl f0 h_t18) ?_
    refine d_read (fun w hF => X4 (f := Jd) (i := x13_2) (sz := 8) (j := 0) (vs := [.int .i64 (val (Q1 a0 x13_2)).Dot.Device, .int .i64 (val (Q1 a0 x13_2)).Dot.N, .int .i64 (val (Q1 a0 x13_2)).Time, .int .i64 (val (Q1 a0 x13_2)).Kind, .int .i64 (val (Q1 a0 x13_2)).Id, str (val (Q1 a0 x13_2)).Name, .int .i64 (val (Q1 a0 x13_2)).Num, str (val (Q1 a0 x13_2)).Text]) Tryz.isAgg45 Tryz.sizeOf45 rfl rfl (f0.row (hw.now hF)) h_t18 rfl) rfl rfl ?_
    refine Jt rfl rfl (Je (v := v1) rfl) ?_
    refine Jt rfl rfl (Je (v := .int .i64 x13_2) rfl) ?_
    have h_t22 := Qq H15
    have H16 := Qi H15
    refine Jt rfl rfl (Z6 Tryz.underlying58 Tryz.sizeOf45 rfl rfl f1 h_t22) ?_
    refine d_read (fun w hF => X4 (f := Jd) (i := x13_2) (sz := 8) (j := 0) (vs := [.int .i64 (val (Q1 a1 x13_2)).Dot.Device, .int .i64 (val (Q1 a1 x13_2)).Dot.N, .int .i64 (val (Q1 a1 x13_2)).Time, .int .i64 (val (Q1 a1 x13_2)).Kind, .int .i64 (val (Q1 a1 x13_2)).Id, str (val (Q1 a1 x13_2)).Name, .int .i64 (val (Q1 a1 x13_2)).Num, str (val (Q1 a1 x13_2)).Text]) Tryz.isAgg45 Tryz.sizeOf45 rfl rfl (f1.row (hw.now hF)) h_t22 rfl) rfl rfl ?_
    refine Jt rfl rfl (r_neqA (xs := #[.int .i64 (val (Q1 a0 x13_2)).Dot.Device, .int .i64 (val (Q1 a0 x13_2)).Dot.N, .int .i64 (val (Q1 a0 x13_2)).Time, .int .i64 (val (Q1 a0 x13_2)).Kind, .int .i64 (val (Q1 a0 x13_2)).Id, str (val (Q1 a0 x13_2)).Name, .int .i64 (val (Q1 a0 x13_2)).Num, str (val (Q1 a0 x13_2)).Text]) (ys := #[.int .i64 (val (Q1 a1 x13_2)).Dot.Device, .int .i64 (val (Q1 a1 x13_2)).Dot.N, .int .i64 (val (Q1 a1 x13_2)).Time, .int .i64 (val (Q1 a1 x13_2)).Kind, .int .i64 (val (Q1 a1 x13_2)).Id, str (val (Q1 a1 x13_2)).Name, .int .i64 (val (Q1 a1 x13_2)).Num, str (val (Q1 a1 x13_2)).Text]) Tryz.eqGuardType45 (fun w => run_eq_sync_Fact w (val (Q1 a0 x13_2)) (val (Q1 a1 x13_2))) rfl rfl) ?_
    refine Wr ?_
    refine Qg (b := (!(Us (val (Q1 a0 x13_2)) (val (Q1 a1 x13_2))))) rfl (fun hb => ?_) (fun hb => ?_)
    ·have H17 := Jr hb H16; clear H16
     refine Jf ?_
     refine Jb ?_
     refine Ja rfl rfl rfl (Jc (v := .bool false) rfl) ?_
     refine Jg ?_
     refine Jp ?_
     obtain rfl := Option.some.inj H17
     refine J3 (v := .bool false) rfl rfl (Yd rfl)
    ·have H18 := Jq hb H16; clear H16
     refine Jw ?_
     refine Jb ?_
     obtain ⟨t25, h_t25, H19⟩ := Ji H18; clear H18
     refine Ja rfl rfl rfl (Yj rfl rfl h_t25) ?_
     refine Ja rfl rfl rfl (Je (v := .int .i64 t25) rfl) ?_
     refine Jg ?_
     refine Js t25 () m1 [] (by exact ⟨rfl, rfl, rfl, rfl, trivial⟩) (by decide) rfl (by exact ⟨(by subst hn1; exact H19), trivial⟩) (Nat.lt_succ_self _)
    ) (by kernel_rfl)
  ·have H20 := Jq hb H13; clear H13
   refine Xi ?_
   refine Jf ?_
   refine Jb ?_
   refine Ja rfl rfl rfl (Jc (v := .bool true) rfl) ?_
   refine Jg ?_
   refine Jp ?_
   obtain rfl := Option.some.inj H20
   refine J3 (v := .bool true) rfl rfl (Yd rfl)
theorem k18 {a0 : T_sync_Replica} {v0_2 : Value} {pb0 : Nat} {a1 : T_sync_Replica} {v1_2 : Value} {pb1 : Nat} {r : Bool} {w : World} {h : Qd} (hw : Know h w Vd) (f0_2 : FrS h 8 v0_2 (a0.facts_.map Jd)) (hb0 : h pb0 = some (.cells (List.toArray [.int .i64 a0.device_, .int .i64 (a0.knows_ 0), .int .i64 (a0.knows_ 1), .int .i64 (a0.knows_ 2), .int .i64 (a0.knows_ 3), .int .i64 (a0.knows_ 4), .int .i64 (a0.knows_ 5), .int .i64 (a0.knows_ 6), .int .i64 (a0.knows_ 7), .int .i64 (a0.knows_ 8), .int .i64 (a0.knows_ 9), .int .i64 (a0.knows_ 10), .int .i64 (a0.knows_ 11), .int .i64 (a0.knows_ 12), .int .i64 (a0.knows_ 13), .int .i64 (a0.knows_ 14), .int .i64 (a0.knows_ 15), v0_2]) 60 (0, 0))) (f1_2 : FrS h 8 v1_2 (a1.facts_.map Jd)) (hb1 : h pb1 = some (.cells (List.toArray [.int .i64 a1.device_, .int .i64 (a1.knows_ 0), .int .i64 (a1.knows_ 1), .int .i64 (a1.knows_ 2), .int .i64 (a1.knows_ 3), .int .i64 (a1.knows_ 4), .int .i64 (a1.knows_ 5), .int .i64 (a1.knows_ 6), .int .i64 (a1.knows_ 7), .int .i64 (a1.knows_ 8), .int .i64 (a1.knows_ 9), .int .i64 (a1.knows_ 10), .int .i64 (a1.knows_ 11), .int .i64 (a1.knows_ 12), .int .i64 (a1.knows_ 13), .int .i64 (a1.knows_ 14), .int .i64 (a1.knows_ 15), v1_2]) 60 (0, 0))) (H : sync_Alike a0 a1 = some r) : Does Tryz.prog 18 (List.toArray [.pointer (some ⟨pb0, 0, none⟩), .pointer (some ⟨pb1, 0, none⟩)]) w (fun v w' => v = (.bool r) ∧ Grow w w') := by
 refine enter (n := 25) Tryz.func18 rfl rfl rfl Vd [] (Sat.nil _ _) ?_
 refine Jf ?_
 refine Jb ?_
 refine Ja rfl rfl rfl (Jc (v := .bool false) rfl) ?_
 refine Jg ?_
 refine Jf ?_
 exact Yl (Kd.p :: Kd.p :: Kd.p :: Kd.d [] _ :: Kd.p :: Kd.p :: Kd.p :: Kd.d [] _ :: Kd.p :: Kd.p :: Kd.p :: Kd.p :: Kd.p :: Kd.d [] _ :: Kd.p :: Kd.p :: Kd.p :: Kd.d [] _ :: Kd.d [] _ :: Kd.p :: Kd.p :: []) 0 mixed (by
  refine Jt rfl rfl (Je (v := .pointer (some ⟨pb0, 0, none⟩)) rfl) ?_
  refine Jt rfl rfl (Qm rfl) ?_
  refine Jt rfl rfl (Jo Tryz.runUnderlying60 rfl Tryz.sizeOf57 rfl rfl) ?_
  refine d_read (fun w hF => run_loadKN (vs := [.int .i64 (a0.knows_ 0), .int .i64 (a0.knows_ 1), .int .i64 (a0.knows_ 2), .int .i64 (a0.knows_ 3), .int .i64 (a0.knows_ 4), .int .i64 (a0.knows_ 5), .int .i64 (a0.knows_ 6), .int .i64 (a0.knows_ 7), .int .i64 (a0.knows_ 8), .int .i64 (a0.knows_ 9), .int .i64 (a0.knows_ 10), .int .i64 (a0.knows_ 11), .int .i64 (a0.knows_ 12), .int .i64 (a0.knows_ 13), .int .i64 (a0.knows_ 14), .int .i64 (a0.knows_ 15)]) Tryz.isAgg57 Tryz.sizeOf57 rfl (hw.now hF _ _ hb0) rfl) rfl rfl ?_
  refine Jt rfl rfl (Je (v := .pointer (some ⟨pb1, 0, none⟩)) rfl) ?_
  refine Jt rfl rfl (Qm rfl) ?_
  refine Jt rfl rfl (Jo Tryz.runUnderlying60 rfl Tryz.sizeOf57 rfl rfl) ?_
  refine d_read (fun w hF => run_loadKN (vs := [.int .i64 (a1.knows_ 0), .int .i64 (a1.knows_ 1), .int .i64 (a1.knows_ 2), .int .i64 (a1.knows_ 3), .int .i64 (a1.knows_ 4), .int .i64 (a1.knows_ 5), .int .i64 (a1.knows_ 6), .int .i64 (a1.knows_ 7), .int .i64 (a1.knows_ 8), .int .i64 (a1.knows_ 9), .int .i64 (a1.knows_ 10), .int .i64 (a1.knows_ 11), .int .i64 (a1.knows_ 12), .int .i64 (a1.knows_ 13), .int .i64 (a1.knows_ 14), .int .i64 (a1.knows_ 15)]) Tryz.isAgg57 Tryz.sizeOf57 rfl (hw.now hF _ _ hb1) rfl) rfl rfl ?_
  refine Jt rfl rfl (r_eqlA (xs := #[.int .i64 (a0.knows_ 0), .int .i64 (a0.knows_ 1), .int .i64 (a0.knows_ 2), .int .i64 (a0.knows_ 3), .int .i64 (a0.knows_ 4), .int .i64 (a0.knows_ 5), .int .i64 (a0.knows_ 6), .int .i64 (a0.knows_ 7), .int .i64 (a0.knows_ 8), .int .i64 (a0.knows_ 9), .int .i64 (a0.knows_ 10), .int .i64 (a0.knows_ 11), .int .i64 (a0.knows_ 12), .int .i64 (a0.knows_ 13), .int .i64 (a0.knows_ 14), .int .i64 (a0.knows_ 15)]) (ys := #[.int .i64 (a1.knows_ 0), .int .i64 (a1.knows_ 1), .int .i64 (a1.knows_ 2), .int .i64 (a1.knows_ 3), .int .i64 (a1.knows_ 4), .int .i64 (a1.knows_ 5), .int .i64 (a1.knows_ 6), .int .i64 (a1.knows_ 7), .int .i64 (a1.knows_ 8), .int .i64 (a1.knows_ 9), .int .i64 (a1.knows_ 10), .int .i64 (a1.knows_ 11), .int .i64 (a1.knows_ 12), .int .i64 (a1.knows_ 13), .int .i64 (a1.knows_ 14), .int .i64 (a1.knows_ 15)]) Tryz.eqGuardType57 (fun w => run_eq_sync_Knows w a0.knows_ a1.knows_) rfl rfl) ?_
  refine Jt rfl rfl (Je (v := .bool (U8 a0.knows_ a1.knows_)) rfl) ?_
  refine splitS (fun hb => ?_) (fun hb => ?_)
  ·have H4 := Jr hb H
   refine Jt rfl rfl (Je (v := .pointer (some ⟨pb0, 0, none⟩)) rfl) ?_
   refine Jt rfl rfl (Qm rfl) ?_
   refine Jt rfl rfl (Jo Tryz.runUnderlying60 rfl Tryz.sizeOf58 rfl rfl) ?_
   refine d_read (fun w hF => Xo (v := v0_2) Tryz.isAgg58 rfl (hw.now hF _ _ hb0) rfl) rfl rfl ?_
   refine Jt rfl rfl (Je (v := .pointer (some ⟨pb1, 0, none⟩)) rfl) ?_
   refine Jt rfl rfl (Qm rfl) ?_
   refine Jt rfl rfl (Jo Tryz.runUnderlying60 rfl Tryz.sizeOf58 rfl rfl) ?_
   refine d_read (fun w hF => Xo (v := v1_2) Tryz.isAgg58 rfl (hw.now hF _ _ hb1) rfl) rfl rfl ?_
   have h_t23 := Qq H4
   have H5 := Qi H4
   refine d_callD (fun w L' hF hS hi => k42 (Jx w) (f0_2.mono (hw.now hF)) (f1_2.mono (hw.now hF)) h_t23) Tryz.call42 rfl rfl ?_
   refine Jt rfl rfl (J7 (v := .bool (val (X2 a0.facts_ a1.facts_))) rfl rfl) ?_
   refine Jt rfl rfl (Jc (v := .bool (val (X2 a0.facts_ a1.facts_))) rfl) ?_
   refine Wr ?_
   refine Jp ?_
   obtain rfl := Option.some.inj H5
   refine J3 (v := .bool (val (X2 a0.facts_ a1.facts_))) rfl rfl (Yd rfl)
  ·have H6 := Jq hb H
   refine Qw rfl rfl ?_
   refine Qw rfl rfl ?_
   refine Qw rfl rfl ?_
   refine Qw rfl rfl ?_
   refine Qw rfl rfl ?_
   refine Qw rfl rfl ?_
   refine Qw rfl rfl ?_
   refine Qw rfl rfl ?_
   refine Qw rfl rfl ?_
   refine Jt rfl rfl (J1 (v := .bool false) rfl rfl) ?_
   refine Jt rfl rfl (Jc (v := .bool false) rfl) ?_
   refine Wr ?_
   refine Jp ?_
   obtain rfl := Option.some.inj H6
   refine J3 (v := .bool false) rfl rfl (Yd rfl)
  ) (by kernel_rfl)
theorem k47 {a0 : T_sync_Fact} {r : T_sync_Fact} (H : sync_one a0 = some r) : Ret Tryz.prog 47 [.agg #[.int .i64 a0.Dot.Device, .int .i64 a0.Dot.N, .int .i64 a0.Time, .int .i64 a0.Kind, .int .i64 a0.Id, str a0.Name, .int .i64 a0.Num, str a0.Text]] (.agg #[.int .i64 r.Dot.Device, .int .i64 r.Dot.N, .int .i64 r.Time, .int .i64 r.Kind, .int .i64 r.Id, str r.Name, .int .i64 r.Num, str r.Text]) := by
 refine Qx (n := 12) Tryz.func47 rfl rfl rfl (fun wd => ?_)
 refine Jf ?_
 refine Jb ?_
 refine Zo (cs := [.int .i64 a0.Dot.Device, .int .i64 a0.Dot.N, .int .i64 a0.Time, .int .i64 a0.Kind, .int .i64 a0.Id, str a0.Name, .int .i64 a0.Num, str a0.Text]) rfl rfl rfl rfl (fun b2 => ?_)
 refine Zv (cs := [.int .i64 0, .int .i64 0, .int .i64 0, .int .i64 0, .int .i64 0, str [], .int .i64 0, str []]) Tryz.zeroValue45 rfl rfl rfl (fun b3 => ?_)
 refine Jg ?_
 refine Jf ?_
 refine Jb ?_
 refine Ja rfl rfl rfl (Jo Tryz.runUnderlying45 rfl Tryz.sizeOf43 rfl rfl) ?_
 refine Ym (i := 0) (vs := [.int .i64 a0.Dot.Device, .int .i64 a0.Dot.N]) Tryz.isAgg43 Tryz.sizeOf43 rfl rfl rfl rfl rfl ?_
 refine Ja rfl rfl rfl (Jo Tryz.runUnderlying45 rfl Tryz.sizeOf3 rfl rfl) ?_
 refine Jv (i := 0) (v := .int .i64 a0.Kind) Tryz.isAgg3 rfl rfl rfl rfl rfl ?_
 refine Ja rfl rfl rfl (Jo Tryz.runUnderlying45 rfl Tryz.sizeOf3 rfl rfl) ?_
 refine Jv (i := 0) (v := .int .i64 a0.Id) Tryz.isAgg3 rfl rfl rfl rfl rfl ?_
 refine Ja rfl rfl rfl (Jo Tryz.runUnderlying45 rfl Tryz.sizeOf9 rfl rfl) ?_
 refine Jv (i := 0) (v := str a0.Name) Tryz.isAgg9 rfl rfl rfl rfl rfl ?_
 refine Ja rfl rfl rfl (W4 (pl := #[(0, 2), (2, 1), (3, 1), (4, 1), (5, 1), (6, 1), (7, 1)]) (ps := [(0, .agg #[.int .i64 a0.Dot.Device, .int .i64 a0.Dot.N]), (2, .int .i64 a0.Kind), (3, .int .i64 a0.Id), (4, str a0.Name)]) (cells := #[.int .i64 a0.Dot.Device, .int .i64 a0.Dot.N, .int .i64 0, .int .i64 a0.Kind, .int .i64 a0.Id, str a0.Name, .int .i64 0, str []]) Tryz.zeroValue45 Tryz.runUnderlying45 (fun w => by kernel_rfl) rfl rfl) ?_
 refine Xt (i := 1) (vs := [.int .i64 a0.Dot.Device, .int .i64 a0.Dot.N, .int .i64 0, .int .i64 a0.Kind, .int .i64 a0.Id, str a0.Name, .int .i64 0, str []]) (cs' := [.int .i64 a0.Dot.Device, .int .i64 a0.Dot.N, .int .i64 0, .int .i64 a0.Kind, .int .i64 a0.Id, str a0.Name, .int .i64 0, str []]) Tryz.sizeOf45 rfl rfl rfl rfl rfl rfl rfl rfl rfl ?_
 refine Jg ?_
 refine Jp ?_
 obtain rfl := Option.some.inj H
 refine retC (i := 1) (vs := [.int .i64 a0.Dot.Device, .int .i64 a0.Dot.N, .int .i64 0, .int .i64 a0.Kind, .int .i64 a0.Id, str a0.Name, .int .i64 0, str []]) Tryz.isAgg45 Tryz.sizeOf45 rfl rfl rfl rfl (Yd rfl)
theorem k23 {a0 : (List T_sync_Fact)} {v0 : Value} {r : (List (T_sync_Fact × Bool))} {w : World} {h : Qd} (hw : Know h w Vd) (f0 : FrS h 8 v0 (a0.map Jd)) (H : Q6 a0 = some r) : Does Tryz.prog 23 (List.toArray [v0]) w (fun v w' => ∃ x : Nat, v = (.map (some x)) ∧ Turn w w' Vd (mapC (fun x_ : T_sync_Fact => .agg #[.int .i64 x_.Dot.Device, .int .i64 x_.Dot.N, .int .i64 x_.Time, .int .i64 x_.Kind, .int .i64 x_.Id, str x_.Name, .int .i64 x_.Num, str x_.Text]) (fun x_ : Bool => .bool x_) x r)) := by
 refine enter (n := 18) Tryz.func23 rfl rfl rfl Vd [] (Sat.nil _ _) ?_
 refine Jf ?_
 refine Jb ?_
 refine Ja rfl rfl rfl (Jc (v := .map none) rfl) ?_
 refine Jg ?_
 refine Jf ?_
 refine Jb ?_
 refine Zq (rds := []) (makes_map (fk := (fun x_ : T_sync_Fact => .agg #[.int .i64 x_.Dot.Device, .int .i64 x_.Dot.N, .int .i64 x_.Time, .int .i64 x_.Kind, .int .i64 x_.Id, str x_.Name, .int .i64 x_.Num, str x_.Text])) (fv := (fun x_ : Bool => .bool x_))) rfl rfl rfl (fun b2 => ?_)
 refine Ja rfl rfl rfl (Jc (v := .map (some b2)) rfl) ?_
 refine Jg ?_
 refine Jf ?_
 refine Jf ?_
 refine Jb ?_
 refine Ja rfl rfl rfl (Je (v := v0) rfl) ?_
 refine Ja rfl rfl rfl (Uh Tryz.underlying58 rfl f0 rfl) ?_
 refine Ja rfl rfl rfl (Je (v := .int .i64 0) rfl) ?_
 refine Jg ?_
 refine J5 ?_
 refine Vn (σ := Int × (List (T_sync_Fact × Bool))) (τ := Unit) (fun next1 s => Wz a0 next1 s.1 s.2) (fun s t => [(3, .map (some b2)), (7, v0), (8, .int .i64 (a0.length : Int)), (9, .int .i64 s.1)]) (fun s t => [mapC (fun x_ : T_sync_Fact => .agg #[.int .i64 x_.Dot.Device, .int .i64 x_.Dot.N, .int .i64 x_.Time, .int .i64 x_.Kind, .int .i64 x_.Id, str x_.Name, .int .i64 x_.Num, str x_.Text]) (fun x_ : Bool => .bool x_) b2 s.2]) (fun s t => True) (0, ([] : (List (T_sync_Fact × Bool)))) () [0] H (by exact trivial) (by exact ⟨rfl, rfl, rfl, rfl, trivial⟩) (by decide) rfl ?_
 rintro ⟨x9_2, mp_2⟩ _ m1 gg H7 _
 clear H
 replace H7 : Wz a0 (it (fun next1 s => Wz a0 next1 s.1 s.2) m1) x9_2 mp_2 = some r := H7
 generalize hn1 : it (fun next1 s => Wz a0 next1 s.1 s.2) m1 = next1 at H7
 refine J8 [(3, .map (some b2)), (7, v0), (8, .int .i64 (a0.length : Int)), (9, .int .i64 x9_2)] [mapC (fun x_ : T_sync_Fact => .agg #[.int .i64 x_.Dot.Device, .int .i64 x_.Dot.N, .int .i64 x_.Time, .int .i64 x_.Kind, .int .i64 x_.Id, str x_.Name, .int .i64 x_.Num, str x_.Text]) (fun x_ : Bool => .bool x_) b2 mp_2] rfl rfl ?_
 refine Jf ?_
 refine Jb ?_
 refine Ja rfl rfl rfl (Zd rfl rfl) ?_
 refine Jg ?_
 refine Jf ?_
 refine Qg (b := (decide (x9_2 < (a0.length : Int)))) rfl (fun hb => ?_) (fun hb => ?_)
 ·have H8 := Jr hb H7; clear H7
  refine Jw ?_
  refine Jf ?_
  refine J5 ?_
  refine Jf ?_
  refine Jb ?_
  obtain ⟨t11, h_t11, H9⟩ := Ji H8; clear H8
  refine Ja rfl rfl rfl (Z6 Tryz.underlying58 Tryz.sizeOf45 rfl rfl f0 h_t11) ?_
  refine Qo (fun w hF hS => X4 (f := Jd) (i := x9_2) (sz := 8) (j := 0) (vs := [.int .i64 t11.Dot.Device, .int .i64 t11.Dot.N, .int .i64 t11.Time, .int .i64 t11.Kind, .int .i64 t11.Id, str t11.Name, .int .i64 t11.Num, str t11.Text]) Tryz.isAgg45 Tryz.sizeOf45 rfl rfl (f0.row (hw.now hF)) h_t11 rfl) rfl rfl rfl ?_
  refine Zv (cs := [.int .i64 0, .int .i64 0, .int .i64 0, .int .i64 0, .int .i64 0, str [], .int .i64 0, str []]) Tryz.zeroValue45 rfl rfl rfl (fun b3 => ?_)
  refine Xt (i := 1) (vs := [.int .i64 t11.Dot.Device, .int .i64 t11.Dot.N, .int .i64 t11.Time, .int .i64 t11.Kind, .int .i64 t11.Id, str t11.Name, .int .i64 t11.Num, str t11.Text]) (cs' := [.int .i64 t11.Dot.Device, .int .i64 t11.Dot.N, .int .i64 t11.Time, .int .i64 t11.Kind, .int .i64 t11.Id, str t11.Name, .int .i64 t11.Num, str t11.Text]) Tryz.sizeOf45 rfl rfl rfl rfl rfl rfl rfl rfl rfl ?_
  refine Jg ?_
  refine Jb ?_
  refine Ja rfl rfl rfl (Je (v := .map (some b2)) rfl) ?_
  refine Ym (i := 1) (vs := [.int .i64 t11.Dot.Device, .int .i64 t11.Dot.N, .int .i64 t11.Time, .int .i64 t11.Kind, .int .i64 t11.Id, str t11.Name, .int .i64 t11.Num, str t11.Text]) Tryz.isAgg45 Tryz.sizeOf45 rfl rfl rfl rfl rfl ?_
  obtain ⟨t15, h_t15, H10⟩ := Ji H9; clear H9
  refine Q5 (k47 h_t15) Tryz.call47 rfl rfl rfl ?_
  refine l_turn0 (turns_msetG (u := true) (i := 0) (rds := []) (fk := (fun x_ : T_sync_Fact => .agg #[.int .i64 x_.Dot.Device, .int .i64 x_.Dot.N, .int .i64 x_.Time, .int .i64 x_.Kind, .int .i64 x_.Id, str x_.Name, .int .i64 x_.Num, str x_.Text])) (fv := (fun x_ : Bool => .bool x_)) (k := t15) (v := true) keyG_T45 (.inr rfl) Tryz.underlying61  rfl rfl rfl rfl) rfl rfl (fun _ => ?_)
  refine Jg ?_
  refine Jb ?_
  obtain ⟨t16, h_t16, H11⟩ := Ji H10; clear H10
  refine Ja rfl rfl rfl (Yj rfl rfl h_t16) ?_
  refine Ja rfl rfl rfl (Je (v := .int .i64 t16) rfl) ?_
  refine Jg ?_
  refine Js (t16, (mSet mp_2 t15 true)) () m1 [0] (by exact ⟨rfl, rfl, rfl, rfl, trivial⟩) (by decide) rfl (by exact ⟨(by subst hn1; exact H11), trivial⟩) (Nat.lt_succ_self _)
 ·have H12 := Jq hb H7; clear H7
  refine Xi ?_
  refine Jf ?_
  refine Jb ?_
  refine Ja rfl rfl rfl (Je (v := .map (some b2)) rfl) ?_
  refine Ja rfl rfl rfl (Jc (v := .map (some b2)) rfl) ?_
  refine Jg ?_
  refine Jp ?_
  obtain rfl := Option.some.inj H12
  refine J3 (v := .map (some b2)) rfl rfl (Yk b2 (i := 0) rfl rfl (Imp.refl _))
theorem k48 {a0 : (Nat → Int)} {a1 : T_sync_Dot} {r : Bool} (H : Z1 a0 a1 = some r) : Ret Tryz.prog 48 [.agg #[.int .i64 (a0 0), .int .i64 (a0 1), .int .i64 (a0 2), .int .i64 (a0 3), .int .i64 (a0 4), .int .i64 (a0 5), .int .i64 (a0 6), .int .i64 (a0 7), .int .i64 (a0 8), .int .i64 (a0 9), .int .i64 (a0 10), .int .i64 (a0 11), .int .i64 (a0 12), .int .i64 (a0 13), .int .i64 (a0 14), .int .i64 (a0 15)], .agg #[.int .i64 a1.Device, .int .i64 a1.N]] (.bool r) := by
 refine Qx (n := 18) Tryz.func48 rfl rfl rfl (fun wd => ?_)
 refine Jf ?_
 refine Jb ?_
 refine Zo (cs := [.int .i64 (a0 0), .int .i64 (a0 1), .int .i64 (a0 2), .int .i64 (a0 3), .int .i64 (a0 4), .int .i64 (a0 5), .int .i64 (a0 6), .int .i64 (a0 7), .int .i64 (a0 8), .int .i64 (a0 9), .int .i64 (a0 10), .int .i64 (a0 11), .int .i64 (a0 12), .int .i64 (a0 13), .int .i64 (a0 14), .int .i64 (a0 15)]) rfl rfl rfl rfl (fun b2 => ?_)
 refine Zo (cs := [.int .i64 a1.Device, .int .i64 a1.N]) rfl rfl rfl rfl (fun b3 => ?_)
 refine Ja rfl rfl rfl (Jc (v := .bool false) rfl) ?_
 refine Jg ?_
 refine Jf ?_
 exact Yl (Kd.p :: Kd.d [1] _ :: Kd.d [] _ :: Kd.p :: Kd.p :: Kd.p :: Kd.d [1] _ :: Kd.p :: Kd.d [1] _ :: Kd.p :: Kd.d [0] _ :: Kd.p :: Kd.p :: Kd.p :: []) 0 mixed (by
  refine Jt rfl rfl (Jo Tryz.runUnderlying43 rfl Tryz.sizeOf3 rfl rfl) ?_
  refine Yn (i := 1) (v := .int .i64 a1.Device) Tryz.isAgg3 rfl rfl rfl rfl ?_
  have h_t7 := Qq H
  have H5 := Qi H
  refine d_call (k31 h_t7) Tryz.call31 rfl rfl ?_
  refine Jt rfl rfl (Zm rfl) ?_
  refine Jt rfl rfl (Je (v := .bool (!(val (Xm a1.Device 0 15)))) rfl) ?_
  refine splitS (fun hb => ?_) (fun hb => ?_)
  ·have H6 := Jr hb H5
   refine Jt rfl rfl (Jo Tryz.runUnderlying43 rfl Tryz.sizeOf3 rfl rfl) ?_
   refine Yn (i := 1) (v := .int .i64 a1.N) Tryz.isAgg3 rfl rfl rfl rfl ?_
   refine Jt rfl rfl (Jo Tryz.runUnderlying43 rfl Tryz.sizeOf3 rfl rfl) ?_
   refine Yn (i := 1) (v := .int .i64 a1.Device) Tryz.isAgg3 rfl rfl rfl rfl ?_
   have h_k14 := Qq H6
   have H7 := Qi H6
   refine Jt rfl rfl (Jaj Tryz.runUnderlying57 Tryz.sizeOf3 rfl rfl h_k14) ?_
   refine Yn (i := 0) (v := .int .i64 (a0 (val (Q3 16 a1.Device)))) Tryz.isAgg3 rfl rfl rfl (rg_arr (pre := []) (post := []) (f := fun j_ => [.int .i64 (a0 j_)]) (n := 16) (sz := 1) (q := 0) rfl rfl (fun _ => rfl) (gIx_lt h_k14) rfl) ?_
   refine Jt rfl rfl (r_leq rfl rfl) ?_
   refine Jt rfl rfl (J7 (v := .bool (decide (a1.N ≤ (a0 (val (Q3 16 a1.Device)))))) rfl rfl) ?_
   refine Jt rfl rfl (Jc (v := .bool (decide (a1.N ≤ (a0 (val (Q3 16 a1.Device)))))) rfl) ?_
   refine Wr ?_
   refine Jp ?_
   obtain rfl := Option.some.inj H7
   refine J3 (v := .bool (decide (a1.N ≤ (a0 (val (Q3 16 a1.Device)))))) rfl rfl (Yd rfl)
  ·have H8 := Jq hb H5
   refine Qw rfl rfl ?_
   refine Qw rfl rfl ?_
   refine Qw rfl rfl ?_
   refine Qw rfl rfl ?_
   refine Qw rfl rfl ?_
   refine Qw rfl rfl ?_
   refine Qw rfl rfl ?_
   refine Jt rfl rfl (J1 (v := .bool false) rfl rfl) ?_
   refine Jt rfl rfl (Jc (v := .bool false) rfl) ?_
   refine Wr ?_
   refine Jp ?_
   obtain rfl := Option.some.inj H8
   refine J3 (v := .bool false) rfl rfl (Yd rfl)
  ) (by kernel_rfl)
theorem k46 {a0 : (List T_sync_Fact)} {v0 : Value} {a1 : (List (T_sync_Fact × Bool))} {v1 : Value} {a2 : (Nat → Int)} {r : (List T_sync_Fact)} {w : World} {h : Qd} (hw : Know h w Vd) (f0 : FrS h 8 v0 (a0.map Jd)) (f1 : FrM h (fun x_ : T_sync_Fact => .agg #[.int .i64 x_.Dot.Device, .int .i64 x_.Dot.N, .int .i64 x_.Time, .int .i64 x_.Kind, .int .i64 x_.Id, str x_.Name, .int .i64 x_.Num, str x_.Text]) (fun x_ : Bool => .bool x_) v1 a1) (H : V3 a0 a1 a2 = some r) : Does Tryz.prog 46 (List.toArray [v0, v1, .agg #[.int .i64 (a2 0), .int .i64 (a2 1), .int .i64 (a2 2), .int .i64 (a2 3), .int .i64 (a2 4), .int .i64 (a2 5), .int .i64 (a2 6), .int .i64 (a2 7), .int .i64 (a2 8), .int .i64 (a2 9), .int .i64 (a2 10), .int .i64 (a2 11), .int .i64 (a2 12), .int .i64 (a2 13), .int .i64 (a2 14), .int .i64 (a2 15)]]) w (fun v w' => ∃ x : (Option Addr × Nat), v = (.slice x.1 r.length x.2) ∧ Turn w w' Vd (Jz 45 8 (.slice x.1 r.length x.2) r.length (r.map Jd))) := by
 refine enter (n := 33) Tryz.func46 rfl rfl rfl Vd [] (Sat.nil _ _) ?_
 refine Jf ?_
 refine Jb ?_
 refine Zo (cs := [.int .i64 (a2 0), .int .i64 (a2 1), .int .i64 (a2 2), .int .i64 (a2 3), .int .i64 (a2 4), .int .i64 (a2 5), .int .i64 (a2 6), .int .i64 (a2 7), .int .i64 (a2 8), .int .i64 (a2 9), .int .i64 (a2 10), .int .i64 (a2 11), .int .i64 (a2 12), .int .i64 (a2 13), .int .i64 (a2 14), .int .i64 (a2 15)]) rfl rfl rfl rfl (fun b4 => ?_)
 refine Ja rfl rfl rfl (Jc (v := .slice none 0 0) rfl) ?_
 refine Jg ?_
 refine Jf ?_
 refine Jb ?_
 refine Ja rfl rfl rfl (Jc (v := .slice none 0 0) rfl) ?_
 refine Jg ?_
 refine Jf ?_
 refine Jf ?_
 refine Jb ?_
 refine Ja rfl rfl rfl (Je (v := v0) rfl) ?_
 refine Ja rfl rfl rfl (Uh Tryz.underlying58 rfl f0 rfl) ?_
 refine Ja rfl rfl rfl (Je (v := .int .i64 0) rfl) ?_
 refine Jg ?_
 refine J5 ?_
 refine c_nilRow 45 8 ?_
 refine Vn (σ := Int × (List T_sync_Fact)) (τ := (Option Addr × Nat)) (fun next1 s => Wc a0 a1 a2 next1 s.1 s.2) (fun s t => [(1, v1), (5, .pointer (some ⟨b4, 0, none⟩)), (7, .slice t.1 s.2.length t.2), (10, v0), (11, .int .i64 (a0.length : Int)), (12, .int .i64 s.1)]) (fun s t => [Jl b4 [.int .i64 (a2 0), .int .i64 (a2 1), .int .i64 (a2 2), .int .i64 (a2 3), .int .i64 (a2 4), .int .i64 (a2 5), .int .i64 (a2 6), .int .i64 (a2 7), .int .i64 (a2 8), .int .i64 (a2 9), .int .i64 (a2 10), .int .i64 (a2 11), .int .i64 (a2 12), .int .i64 (a2 13), .int .i64 (a2 14), .int .i64 (a2 15)] 57, Jz 45 8 (.slice t.1 s.2.length t.2) s.2.length (s.2.map Jd)]) (fun s t => True) (0, ([] : List T_sync_Fact)) ((none, 0) : Option Addr × Nat) [0, 1] H (by exact trivial) (by exact ⟨rfl, rfl, rfl, rfl, rfl, rfl, trivial⟩) (by decide) rfl ?_
 rintro ⟨x12_2, l_2⟩ p m1 gg H15 _
 clear H
 replace H15 : Wc a0 a1 a2 (it (fun next1 s => Wc a0 a1 a2 next1 s.1 s.2) m1) x12_2 l_2 = some r := H15
 generalize hn1 : it (fun next1 s => Wc a0 a1 a2 next1 s.1 s.2) m1 = next1 at H15
 refine J8 [(1, v1), (5, .pointer (some ⟨b4, 0, none⟩)), (7, .slice p.1 l_2.length p.2), (10, v0), (11, .int .i64 (a0.length : Int)), (12, .int .i64 x12_2)] [Jl b4 [.int .i64 (a2 0), .int .i64 (a2 1), .int .i64 (a2 2), .int .i64 (a2 3), .int .i64 (a2 4), .int .i64 (a2 5), .int .i64 (a2 6), .int .i64 (a2 7), .int .i64 (a2 8), .int .i64 (a2 9), .int .i64 (a2 10), .int .i64 (a2 11), .int .i64 (a2 12), .int .i64 (a2 13), .int .i64 (a2 14), .int .i64 (a2 15)] 57, Jz 45 8 (.slice p.1 l_2.length p.2) l_2.length (l_2.map Jd)] rfl rfl ?_
 refine Jf ?_
 refine Jb ?_
 refine Ja rfl rfl rfl (Zd rfl rfl) ?_
 refine Jg ?_
 refine Jf ?_
 refine Qg (b := (decide (x12_2 < (a0.length : Int)))) rfl (fun hb => ?_) (fun hb => ?_)
 ·have H16 := Jr hb H15; clear H15
  refine Jw ?_
  refine Xu (r := r) (σ := (List T_sync_Fact)) (τ := (Option Addr × Nat)) (fun s => Vk x12_2 next1 s) (fun s t => [(1, v1), (5, .pointer (some ⟨b4, 0, none⟩)), (7, .slice t.1 s.length t.2), (10, v0), (11, .int .i64 (a0.length : Int)), (12, .int .i64 x12_2)]) (fun s t => [Jl b4 [.int .i64 (a2 0), .int .i64 (a2 1), .int .i64 (a2 2), .int .i64 (a2 3), .int .i64 (a2 4), .int .i64 (a2 5), .int .i64 (a2 6), .int .i64 (a2 7), .int .i64 (a2 8), .int .i64 (a2 9), .int .i64 (a2 10), .int .i64 (a2 11), .int .i64 (a2 12), .int .i64 (a2 13), .int .i64 (a2 14), .int .i64 (a2 15)] 57, Jz 45 8 (.slice t.1 s.length t.2) s.length (s.map Jd)]) (fun s t => True) ?_ ?_
  ·refine J5 ?_
   refine Jf ?_
   refine Jb ?_
   obtain ⟨t14, h_t14, H19⟩ := Ji H16; clear H16
   refine Ja rfl rfl rfl (Z6 Tryz.underlying58 Tryz.sizeOf45 rfl rfl f0 h_t14) ?_
   refine Qo (fun w hF hS => X4 (f := Jd) (i := x12_2) (sz := 8) (j := 0) (vs := [.int .i64 t14.Dot.Device, .int .i64 t14.Dot.N, .int .i64 t14.Time, .int .i64 t14.Kind, .int .i64 t14.Id, str t14.Name, .int .i64 t14.Num, str t14.Text]) Tryz.isAgg45 Tryz.sizeOf45 rfl rfl (f0.row (hw.now hF)) h_t14 rfl) rfl rfl rfl ?_
   refine Zv (cs := [.int .i64 0, .int .i64 0, .int .i64 0, .int .i64 0, .int .i64 0, str [], .int .i64 0, str []]) Tryz.zeroValue45 rfl rfl rfl (fun b5 => ?_)
   refine Xt (i := 2) (vs := [.int .i64 t14.Dot.Device, .int .i64 t14.Dot.N, .int .i64 t14.Time, .int .i64 t14.Kind, .int .i64 t14.Id, str t14.Name, .int .i64 t14.Num, str t14.Text]) (cs' := [.int .i64 t14.Dot.Device, .int .i64 t14.Dot.N, .int .i64 t14.Time, .int .i64 t14.Kind, .int .i64 t14.Id, str t14.Name, .int .i64 t14.Num, str t14.Text]) Tryz.sizeOf45 rfl rfl rfl rfl rfl rfl rfl rfl rfl ?_
   refine Jg ?_
   refine Jf ?_
   refine Jb ?_
   refine Ja rfl rfl rfl (Je (v := v1) rfl) ?_
   refine Ym (i := 2) (vs := [.int .i64 t14.Dot.Device, .int .i64 t14.Dot.N, .int .i64 t14.Time, .int .i64 t14.Kind, .int .i64 t14.Id, str t14.Name, .int .i64 t14.Num, str t14.Text]) Tryz.isAgg45 Tryz.sizeOf45 rfl rfl rfl rfl rfl ?_
   obtain ⟨t18, h_t18, H20⟩ := Ji H19; clear H19
   refine Q5 (k47 h_t18) Tryz.call47 rfl rfl rfl ?_
   refine Qo (fun w hF hS => run_lookupFG (fk := (fun x_ : T_sync_Fact => .agg #[.int .i64 x_.Dot.Device, .int .i64 x_.Dot.N, .int .i64 x_.Time, .int .i64 x_.Kind, .int .i64 x_.Id, str x_.Name, .int .i64 x_.Num, str x_.Text])) (fv := (fun x_ : Bool => .bool x_)) (k := t18) (z := false) keyG_T45 Tryz.underlying61  Tryz.zeroValue4 rfl rfl (f1.mono (hw.now hF))) rfl rfl rfl ?_
   refine Ja rfl rfl rfl (Je (v := .bool ((mGet a1 t18).getD false)) rfl) ?_
   refine split (fun hb => ?_) (fun hb => ?_)
   ·have H21 := Jr hb H20; clear H20
    refine Jk rfl rfl rfl ?_
    refine Jk rfl rfl rfl ?_
    refine Jk rfl rfl rfl ?_
    refine Jk rfl rfl rfl ?_
    refine Jk rfl rfl rfl ?_
    refine Ja rfl rfl rfl (J7 (v := .bool true) rfl rfl) ?_
    refine Jg ?_
    refine U3 rfl ?_
    refine Jb ?_
    refine Ja rfl rfl rfl (Je (v := .slice p.1 l_2.length p.2) rfl) ?_
    refine Ym (i := 2) (vs := [.int .i64 t14.Dot.Device, .int .i64 t14.Dot.N, .int .i64 t14.Time, .int .i64 t14.Kind, .int .i64 t14.Id, str t14.Name, .int .i64 t14.Num, str t14.Text]) Tryz.isAgg45 Tryz.sizeOf45 rfl rfl rfl rfl rfl ?_
    refine Y8 (vs := [.agg #[.int .i64 t14.Dot.Device, .int .i64 t14.Dot.N, .int .i64 t14.Time, .int .i64 t14.Kind, .int .i64 t14.Id, str t14.Name, .int .i64 t14.Num, str t14.Text]]) (cs := [.int .i64 t14.Dot.Device, .int .i64 t14.Dot.N, .int .i64 t14.Time, .int .i64 t14.Kind, .int .i64 t14.Id, str t14.Name, .int .i64 t14.Num, str t14.Text]) Tryz.underlying58 Tryz.sizeOf45 Tryz.zeroValue45 rfl rfl rfl rfl rfl rfl rfl (fun b6 => ?_)
    obtain ⟨l30, h_l30, H22⟩ := Ji H21; clear H21
    refine Q4 (Wi (i := 1) (hn := rfl) (rds := [3]) (p := p) (sz := 8) (by_ := 80) (f := Jd) (ys := l_2) (ls := ([t14] : List T_sync_Fact)) (V := .slice (some ⟨b6, 0, none⟩) 1 1) Tryz.underlying58 (Jae Tryz.typeInfo45) rfl rfl rfl rfl rfl rfl rfl rfl rfl rfl (fun w L' hF hS hi => row_box (i := 3) hS ((hi 3 (by simp)).trans rfl) rfl rfl) (fun _ => rfl) (fun _ => rfl) h_l30) rfl rfl rfl (fun p_3 => ?_)
    refine Ja rfl rfl rfl (Jc (v := .slice p_3.1 l30.length p_3.2) rfl) ?_
    refine Jg ?_
    refine Js l30 p_3 0 [0, 1] (by exact ⟨rfl, rfl, rfl, rfl, rfl, rfl, trivial⟩) (by decide) rfl (by exact ⟨H22, trivial⟩) (Nat.lt_succ_self _)
   ·have H23 := Jq hb H20; clear H20
    refine Ym (i := 0) (vs := [.int .i64 (a2 0), .int .i64 (a2 1), .int .i64 (a2 2), .int .i64 (a2 3), .int .i64 (a2 4), .int .i64 (a2 5), .int .i64 (a2 6), .int .i64 (a2 7), .int .i64 (a2 8), .int .i64 (a2 9), .int .i64 (a2 10), .int .i64 (a2 11), .int .i64 (a2 12), .int .i64 (a2 13), .int .i64 (a2 14), .int .i64 (a2 15)]) Tryz.isAgg57 Tryz.sizeOf57 rfl rfl rfl rfl rfl ?_
    refine Ja rfl rfl rfl (Jo Tryz.runUnderlying45 rfl Tryz.sizeOf43 rfl rfl) ?_
    refine Ym (i := 2) (vs := [.int .i64 t14.Dot.Device, .int .i64 t14.Dot.N]) Tryz.isAgg43 Tryz.sizeOf43 rfl rfl rfl rfl rfl ?_
    obtain ⟨t24, h_t24, H24⟩ := Ji H23; clear H23
    refine Q5 (k48 h_t24) Tryz.call48 rfl rfl rfl ?_
    refine Ja rfl rfl rfl (Zm rfl) ?_
    refine Ja rfl rfl rfl (J1 (v := .bool (!t24)) rfl rfl) ?_
    refine Jg ?_
    refine Qg (b := (!t24)) rfl (fun hb => ?_) (fun hb => ?_)
    ·have H25 := Jr hb H24; clear H24
     refine W7 [0, 1, 2] [Jl b4 [.int .i64 (a2 0), .int .i64 (a2 1), .int .i64 (a2 2), .int .i64 (a2 3), .int .i64 (a2 4), .int .i64 (a2 5), .int .i64 (a2 6), .int .i64 (a2 7), .int .i64 (a2 8), .int .i64 (a2 9), .int .i64 (a2 10), .int .i64 (a2 11), .int .i64 (a2 12), .int .i64 (a2 13), .int .i64 (a2 14), .int .i64 (a2 15)] 57, Jz 45 8 (.slice p.1 l_2.length p.2) l_2.length (l_2.map Jd), Jl b5 [.int .i64 t14.Dot.Device, .int .i64 t14.Dot.N, .int .i64 t14.Time, .int .i64 t14.Kind, .int .i64 t14.Id, str t14.Name, .int .i64 t14.Num, str t14.Text] 45] rfl (by decide) ?_
     refine Jb ?_
     refine Ja rfl rfl rfl (Je (v := .slice p.1 l_2.length p.2) rfl) ?_
     refine Ym (i := 2) (vs := [.int .i64 t14.Dot.Device, .int .i64 t14.Dot.N, .int .i64 t14.Time, .int .i64 t14.Kind, .int .i64 t14.Id, str t14.Name, .int .i64 t14.Num, str t14.Text]) Tryz.isAgg45 Tryz.sizeOf45 rfl rfl rfl rfl rfl ?_
     refine Y8 (vs := [.agg #[.int .i64 t14.Dot.Device, .int .i64 t14.Dot.N, .int .i64 t14.Time, .int .i64 t14.Kind, .int .i64 t14.Id, str t14.Name, .int .i64 t14.Num, str t14.Text]]) (cs := [.int .i64 t14.Dot.Device, .int .i64 t14.Dot.N, .int .i64 t14.Time, .int .i64 t14.Kind, .int .i64 t14.Id, str t14.Name, .int .i64 t14.Num, str t14.Text]) Tryz.underlying58 Tryz.sizeOf45 Tryz.zeroValue45 rfl rfl rfl rfl rfl rfl rfl (fun b7 => ?_)
     obtain ⟨l30_2, h_l30_2, H26⟩ := Ji H25; clear H25
     refine Q4 (Wi (i := 1) (hn := rfl) (rds := [3]) (p := p) (sz := 8) (by_ := 80) (f := Jd) (ys := l_2) (ls := ([t14] : List T_sync_Fact)) (V := .slice (some ⟨b7, 0, none⟩) 1 1) Tryz.underlying58 (Jae Tryz.typeInfo45) rfl rfl rfl rfl rfl rfl rfl rfl rfl rfl (fun w L' hF hS hi => row_box (i := 3) hS ((hi 3 (by simp)).trans rfl) rfl rfl) (fun _ => rfl) (fun _ => rfl) h_l30_2) rfl rfl rfl (fun p_4 => ?_)
     refine Ja rfl rfl rfl (Jc (v := .slice p_4.1 l30_2.length p_4.2) rfl) ?_
     refine Jg ?_
     refine Js l30_2 p_4 0 [0, 1] (by exact ⟨rfl, rfl, rfl, rfl, rfl, rfl, trivial⟩) (by decide) rfl (by exact ⟨H26, trivial⟩) (Nat.lt_succ_self _)
    ·have H27 := Jq hb H24; clear H24
     refine Jw ?_
     refine Js l_2 p 0 [0, 1] (by exact ⟨rfl, rfl, rfl, rfl, rfl, rfl, trivial⟩) (by decide) rfl (by exact ⟨H27, trivial⟩) (Nat.lt_succ_self _)
  ·rintro l_3 p_2 gg H17 _
   replace H17 : Vk x12_2 next1 l_3 = some r := H17
   refine J8 [(1, v1), (5, .pointer (some ⟨b4, 0, none⟩)), (7, .slice p_2.1 l_3.length p_2.2), (10, v0), (11, .int .i64 (a0.length : Int)), (12, .int .i64 x12_2)] [Jl b4 [.int .i64 (a2 0), .int .i64 (a2 1), .int .i64 (a2 2), .int .i64 (a2 3), .int .i64 (a2 4), .int .i64 (a2 5), .int .i64 (a2 6), .int .i64 (a2 7), .int .i64 (a2 8), .int .i64 (a2 9), .int .i64 (a2 10), .int .i64 (a2 11), .int .i64 (a2 12), .int .i64 (a2 13), .int .i64 (a2 14), .int .i64 (a2 15)] 57, Jz 45 8 (.slice p_2.1 l_3.length p_2.2) l_3.length (l_3.map Jd)] rfl rfl ?_
   refine Jb ?_
   obtain ⟨t31, h_t31, H18⟩ := Ji H17; clear H17
   refine Ja rfl rfl rfl (Yj rfl rfl h_t31) ?_
   refine Ja rfl rfl rfl (Je (v := .int .i64 t31) rfl) ?_
   refine Jg ?_
   refine Js (t31, l_3) p_2 m1 [0, 1] (by exact ⟨rfl, rfl, rfl, rfl, rfl, rfl, trivial⟩) (by decide) rfl (by exact ⟨(by subst hn1; exact H18), trivial⟩) (Nat.lt_succ_self _)
 ·have H28 := Jq hb H15; clear H15
  refine Xi ?_
  refine Jf ?_
  refine Jb ?_
  refine Ja rfl rfl rfl (Je (v := .slice p.1 l_2.length p.2) rfl) ?_
  refine Ja rfl rfl rfl (Jc (v := .slice p.1 l_2.length p.2) rfl) ?_
  refine Jg ?_
  refine Jp ?_
  obtain rfl := Option.some.inj H28
  refine J3 (v := .slice p.1 l_2.length p.2) rfl rfl (Yk p (i := 1) rfl rfl (Imp.refl _))
theorem k22 {a0 : T_sync_Replica} {pb0 : Nat} {p0_2 : Option Addr × Nat} {n0_2 : Nat} {a1 : (List T_sync_Fact)} {v1 : Value} {a2 : (List (T_sync_Fact × Bool))} {v2 : Value} {a3 : (Nat → Int)} {r : Int × T_sync_Replica} {w : World} {h : Qd} {S : Nat → Prop} (hcs : (J0 (Jl pb0 [.int .i64 a0.device_, .int .i64 (a0.knows_ 0), .int .i64 (a0.knows_ 1), .int .i64 (a0.knows_ 2), .int .i64 (a0.knows_ 3), .int .i64 (a0.knows_ 4), .int .i64 (a0.knows_ 5), .int .i64 (a0.knows_ 6), .int .i64 (a0.knows_ 7), .int .i64 (a0.knows_ 8), .int .i64 (a0.knows_ 9), .int .i64 (a0.knows_ 10), .int .i64 (a0.knows_ 11), .int .i64 (a0.knows_ 12), .int .i64 (a0.knows_ 13), .int .i64 (a0.knows_ 14), .int .i64 (a0.knows_ 15), .slice p0_2.1 n0_2 p0_2.2] 60) (J2 45 8 (.slice p0_2.1 n0_2 p0_2.2) n0_2 (a0.facts_.map Jd))).P S w) (hlt : ∀ b, S b → b < w.heap.size) (hw : Know h w S) (hn0_2 : n0_2 = a0.facts_.length) (f1 : FrS h 8 v1 (a1.map Jd)) (f2 : FrM h (fun x_ : T_sync_Fact => .agg #[.int .i64 x_.Dot.Device, .int .i64 x_.Dot.N, .int .i64 x_.Time, .int .i64 x_.Kind, .int .i64 x_.Id, str x_.Name, .int .i64 x_.Num, str x_.Text]) (fun x_ : Bool => .bool x_) v2 a2) (H : Jy a0 a1 a2 a3 = some r) : Does Tryz.prog 22 (List.toArray [.pointer (some ⟨pb0, 0, none⟩), v1, v2, .agg #[.int .i64 (a3 0), .int .i64 (a3 1), .int .i64 (a3 2), .int .i64 (a3 3), .int .i64 (a3 4), .int .i64 (a3 5), .int .i64 (a3 6), .int .i64 (a3 7), .int .i64 (a3 8), .int .i64 (a3 9), .int .i64 (a3 10), .int .i64 (a3 11), .int .i64 (a3 12), .int .i64 (a3 13), .int .i64 (a3 14), .int .i64 (a3 15)]]) w (fun v w' => ∃ x : (Option Addr × Nat), v = (.int .i64 r.1) ∧ Turn w w' S (J0 (Jl pb0 [.int .i64 r.2.device_, .int .i64 (r.2.knows_ 0), .int .i64 (r.2.knows_ 1), .int .i64 (r.2.knows_ 2), .int .i64 (r.2.knows_ 3), .int .i64 (r.2.knows_ 4), .int .i64 (r.2.knows_ 5), .int .i64 (r.2.knows_ 6), .int .i64 (r.2.knows_ 7), .int .i64 (r.2.knows_ 8), .int .i64 (r.2.knows_ 9), .int .i64 (r.2.knows_ 10), .int .i64 (r.2.knows_ 11), .int .i64 (r.2.knows_ 12), .int .i64 (r.2.knows_ 13), .int .i64 (r.2.knows_ 14), .int .i64 (r.2.knows_ 15), .slice x.1 r.2.facts_.length x.2] 60) (J2 45 8 (.slice x.1 r.2.facts_.length x.2) r.2.facts_.length (r.2.facts_.map Jd)))) := by
 refine enter (n := 84) Tryz.func22 rfl rfl rfl S [J0 (Jl pb0 [.int .i64 a0.device_, .int .i64 (a0.knows_ 0), .int .i64 (a0.knows_ 1), .int .i64 (a0.knows_ 2), .int .i64 (a0.knows_ 3), .int .i64 (a0.knows_ 4), .int .i64 (a0.knows_ 5), .int .i64 (a0.knows_ 6), .int .i64 (a0.knows_ 7), .int .i64 (a0.knows_ 8), .int .i64 (a0.knows_ 9), .int .i64 (a0.knows_ 10), .int .i64 (a0.knows_ 11), .int .i64 (a0.knows_ 12), .int .i64 (a0.knows_ 13), .int .i64 (a0.knows_ 14), .int .i64 (a0.knows_ 15), .slice p0_2.1 n0_2 p0_2.2] 60) (J2 45 8 (.slice p0_2.1 n0_2 p0_2.2) n0_2 (a0.facts_.map Jd))] (Sat.one hcs hlt) ?_
 refine Yo 0 rfl ?_
 refine Jf ?_
 refine Jb ?_
 refine Zo (cs := [.int .i64 (a3 0), .int .i64 (a3 1), .int .i64 (a3 2), .int .i64 (a3 3), .int .i64 (a3 4), .int .i64 (a3 5), .int .i64 (a3 6), .int .i64 (a3 7), .int .i64 (a3 8), .int .i64 (a3 9), .int .i64 (a3 10), .int .i64 (a3 11), .int .i64 (a3 12), .int .i64 (a3 13), .int .i64 (a3 14), .int .i64 (a3 15)]) rfl rfl rfl rfl (fun b3 => ?_)
 refine Ja rfl rfl rfl (Jc (v := .int .i64 0) rfl) ?_
 refine Jg ?_
 refine Jf ?_
 refine Jb ?_
 refine Ja rfl rfl rfl (Je (v := .pointer (some ⟨pb0, 0, none⟩)) rfl) ?_
 refine Ja rfl rfl rfl (Qm rfl) ?_
 refine Ja rfl rfl rfl (Jo Tryz.runUnderlying60 rfl Tryz.sizeOf58 rfl rfl) ?_
 refine Jv (i := 0) (v := .slice p0_2.1 n0_2 p0_2.2) Tryz.isAgg58 rfl rfl rfl rfl rfl ?_
 obtain ⟨t19, h_t19, H28⟩ := Ji H; clear H
 refine Zq (Ql (rds := [1]) (G := fun x : Nat => .map (some x)) (C := fun x : Nat => mapC (fun x_ : T_sync_Fact => .agg #[.int .i64 x_.Dot.Device, .int .i64 x_.Dot.N, .int .i64 x_.Time, .int .i64 x_.Kind, .int .i64 x_.Id, str x_.Name, .int .i64 x_.Num, str x_.Text]) (fun x_ : Bool => .bool x_) x t19) (fun w L' hF hS hi => k23 (Jx w) (Zp (i := 1) hn0_2 hS ((hi 1 (by simp)).trans rfl)) h_t19) Tryz.call23 rfl) rfl rfl rfl (fun p => ?_)
 refine Ja rfl rfl rfl (Jc (v := .map (some p)) rfl) ?_
 refine Jg ?_
 refine Jf ?_
 exact Yl (Kd.p :: Kd.p :: Kd.p :: Kd.d [0] _ :: Kd.p :: Kd.d [2] _ :: Kd.t 4 [1] _ _ :: Kd.p :: []) 1 mixed (by
  refine Jt rfl rfl (Je (v := .pointer (some ⟨pb0, 0, none⟩)) rfl) ?_
  refine Jt rfl rfl (Qm rfl) ?_
  refine Jt rfl rfl (Jo Tryz.runUnderlying60 rfl Tryz.sizeOf58 rfl rfl) ?_
  refine Yn (i := 0) (v := .slice p0_2.1 n0_2 p0_2.2) Tryz.isAgg58 rfl rfl rfl rfl ?_
  refine Jt rfl rfl (Je (v := v2) rfl) ?_
  refine d_loadN (i := 2) (vs := [.int .i64 (a3 0), .int .i64 (a3 1), .int .i64 (a3 2), .int .i64 (a3 3), .int .i64 (a3 4), .int .i64 (a3 5), .int .i64 (a3 6), .int .i64 (a3 7), .int .i64 (a3 8), .int .i64 (a3 9), .int .i64 (a3 10), .int .i64 (a3 11), .int .i64 (a3 12), .int .i64 (a3 13), .int .i64 (a3 14), .int .i64 (a3 15)]) Tryz.isAgg57 Tryz.sizeOf57 rfl rfl rfl rfl ?_
  have h_t26 := Qq H28
  have H29 := Qi H28
  refine d_make (Cv := fun v => Jz 45 8 v (val (V3 a0.facts_ a2 a3)).length ((val (V3 a0.facts_ a2 a3)).map Jd)) (none, 0) (Ql (G := fun x : (Option Addr × Nat) => .slice x.1 (val (V3 a0.facts_ a2 a3)).length x.2) (C := fun x : (Option Addr × Nat) => Jz 45 8 (.slice x.1 (val (V3 a0.facts_ a2 a3)).length x.2) (val (V3 a0.facts_ a2 a3)).length ((val (V3 a0.facts_ a2 a3)).map Jd)) (fun w L' hF hS hi => k46 (Jx w) (Zp (i := 1) hn0_2 hS ((hi 1 (by simp)).trans rfl)) (f2.mono (hw.now hF)) h_t26) Tryz.call46 rfl) (fun _ => rfl) rfl rfl rfl (fun p_2 => ?_)
  refine Jt rfl rfl (Jc (v := .slice p_2.1 (val (V3 a0.facts_ a2 a3)).length p_2.2) rfl) ?_
  refine Wr ?_
  refine Xu (r := r) (σ := (List T_sync_Fact)) (τ := (Option Addr × Nat)) (fun s => Zy a0 a3 s) (fun s t => [(0, .pointer (some ⟨pb0, 0, none⟩)), (7, .pointer (some ⟨b3, 0, none⟩)), (10, .slice t.1 s.length t.2)]) (fun s t => [Jl pb0 [.int .i64 a0.device_, .int .i64 (a0.knows_ 0), .int .i64 (a0.knows_ 1), .int .i64 (a0.knows_ 2), .int .i64 (a0.knows_ 3), .int .i64 (a0.knows_ 4), .int .i64 (a0.knows_ 5), .int .i64 (a0.knows_ 6), .int .i64 (a0.knows_ 7), .int .i64 (a0.knows_ 8), .int .i64 (a0.knows_ 9), .int .i64 (a0.knows_ 10), .int .i64 (a0.knows_ 11), .int .i64 (a0.knows_ 12), .int .i64 (a0.knows_ 13), .int .i64 (a0.knows_ 14), .int .i64 (a0.knows_ 15), .slice p0_2.1 n0_2 p0_2.2] 60, J2 45 8 (.slice p0_2.1 n0_2 p0_2.2) n0_2 (a0.facts_.map Jd), Jl b3 [.int .i64 (a3 0), .int .i64 (a3 1), .int .i64 (a3 2), .int .i64 (a3 3), .int .i64 (a3 4), .int .i64 (a3 5), .int .i64 (a3 6), .int .i64 (a3 7), .int .i64 (a3 8), .int .i64 (a3 9), .int .i64 (a3 10), .int .i64 (a3 11), .int .i64 (a3 12), .int .i64 (a3 13), .int .i64 (a3 14), .int .i64 (a3 15)] 57, Jz 45 8 (.slice t.1 s.length t.2) s.length (s.map Jd)]) (fun s t => True) ?_ ?_
  ·refine Jf ?_
   refine Jb ?_
   refine Ja rfl rfl rfl (Je (v := v1) rfl) ?_
   refine Ja rfl rfl rfl (Uh Tryz.underlying58 rfl f1 rfl) ?_
   refine Ja rfl rfl rfl (Je (v := .int .i64 0) rfl) ?_
   refine Jg ?_
   refine J5 ?_
   refine Vn (σ := Int × (List (T_sync_Fact × Bool)) × (List T_sync_Fact)) (τ := (Option Addr × Nat)) (fun next3 s => Xj a0 a1 a3 next3 s.1 s.2.1 s.2.2) (fun s t => [(0, .pointer (some ⟨pb0, 0, none⟩)), (7, .pointer (some ⟨b3, 0, none⟩)), (9, .map (some p)), (10, .slice t.1 s.2.2.length t.2), (27, v1), (28, .int .i64 (a1.length : Int)), (29, .int .i64 s.1)]) (fun s t => [Jl pb0 [.int .i64 a0.device_, .int .i64 (a0.knows_ 0), .int .i64 (a0.knows_ 1), .int .i64 (a0.knows_ 2), .int .i64 (a0.knows_ 3), .int .i64 (a0.knows_ 4), .int .i64 (a0.knows_ 5), .int .i64 (a0.knows_ 6), .int .i64 (a0.knows_ 7), .int .i64 (a0.knows_ 8), .int .i64 (a0.knows_ 9), .int .i64 (a0.knows_ 10), .int .i64 (a0.knows_ 11), .int .i64 (a0.knows_ 12), .int .i64 (a0.knows_ 13), .int .i64 (a0.knows_ 14), .int .i64 (a0.knows_ 15), .slice p0_2.1 n0_2 p0_2.2] 60, J2 45 8 (.slice p0_2.1 n0_2 p0_2.2) n0_2 (a0.facts_.map Jd), Jl b3 [.int .i64 (a3 0), .int .i64 (a3 1), .int .i64 (a3 2), .int .i64 (a3 3), .int .i64 (a3 4), .int .i64 (a3 5), .int .i64 (a3 6), .int .i64 (a3 7), .int .i64 (a3 8), .int .i64 (a3 9), .int .i64 (a3 10), .int .i64 (a3 11), .int .i64 (a3 12), .int .i64 (a3 13), .int .i64 (a3 14), .int .i64 (a3 15)] 57, mapC (fun x_ : T_sync_Fact => .agg #[.int .i64 x_.Dot.Device, .int .i64 x_.Dot.N, .int .i64 x_.Time, .int .i64 x_.Kind, .int .i64 x_.Id, str x_.Name, .int .i64 x_.Num, str x_.Text]) (fun x_ : Bool => .bool x_) p s.2.1, Jz 45 8 (.slice t.1 s.2.2.length t.2) s.2.2.length (s.2.2.map Jd)]) (fun s t => True) (0, t19, (val (V3 a0.facts_ a2 a3))) p_2 [0, 1, 2, 3, 4] H29 (by exact trivial) (by exact ⟨rfl, rfl, rfl, rfl, rfl, rfl, rfl, trivial⟩) (by decide) rfl ?_
   rintro ⟨x29_2, mp_2, l_3⟩ p_4 m3 gg H41 _
   clear H29
   replace H41 : Xj a0 a1 a3 (it (fun next3 s => Xj a0 a1 a3 next3 s.1 s.2.1 s.2.2) m3) x29_2 mp_2 l_3 = some r := H41
   generalize hn3 : it (fun next3 s => Xj a0 a1 a3 next3 s.1 s.2.1 s.2.2) m3 = next3 at H41
   refine J8 [(0, .pointer (some ⟨pb0, 0, none⟩)), (7, .pointer (some ⟨b3, 0, none⟩)), (9, .map (some p)), (10, .slice p_4.1 l_3.length p_4.2), (27, v1), (28, .int .i64 (a1.length : Int)), (29, .int .i64 x29_2)] [Jl pb0 [.int .i64 a0.device_, .int .i64 (a0.knows_ 0), .int .i64 (a0.knows_ 1), .int .i64 (a0.knows_ 2), .int .i64 (a0.knows_ 3), .int .i64 (a0.knows_ 4), .int .i64 (a0.knows_ 5), .int .i64 (a0.knows_ 6), .int .i64 (a0.knows_ 7), .int .i64 (a0.knows_ 8), .int .i64 (a0.knows_ 9), .int .i64 (a0.knows_ 10), .int .i64 (a0.knows_ 11), .int .i64 (a0.knows_ 12), .int .i64 (a0.knows_ 13), .int .i64 (a0.knows_ 14), .int .i64 (a0.knows_ 15), .slice p0_2.1 n0_2 p0_2.2] 60, J2 45 8 (.slice p0_2.1 n0_2 p0_2.2) n0_2 (a0.facts_.map Jd), Jl b3 [.int .i64 (a3 0), .int .i64 (a3 1), .int .i64 (a3 2), .int .i64 (a3 3), .int .i64 (a3 4), .int .i64 (a3 5), .int .i64 (a3 6), .int .i64 (a3 7), .int .i64 (a3 8), .int .i64 (a3 9), .int .i64 (a3 10), .int .i64 (a3 11), .int .i64 (a3 12), .int .i64 (a3 13), .int .i64 (a3 14), .int .i64 (a3 15)] 57, mapC (fun x_ : T_sync_Fact => .agg #[.int .i64 x_.Dot.Device, .int .i64 x_.Dot.N, .int .i64 x_.Time, .int .i64 x_.Kind, .int .i64 x_.Id, str x_.Name, .int .i64 x_.Num, str x_.Text]) (fun x_ : Bool => .bool x_) p mp_2, Jz 45 8 (.slice p_4.1 l_3.length p_4.2) l_3.length (l_3.map Jd)] rfl rfl ?_
   refine Jf ?_
   refine Jb ?_
   refine Ja rfl rfl rfl (Zd rfl rfl) ?_
   refine Jg ?_
   refine Jf ?_
   refine Qg (b := (decide (x29_2 < (a1.length : Int)))) rfl (fun hb => ?_) (fun hb => ?_)
   ·have H42 := Jr hb H41; clear H41
    refine Jw ?_
    refine Xu (r := r) (σ := (List (T_sync_Fact × Bool)) × (List T_sync_Fact)) (τ := (Option Addr × Nat)) (fun s => X9 x29_2 next3 s.1 s.2) (fun s t => [(0, .pointer (some ⟨pb0, 0, none⟩)), (7, .pointer (some ⟨b3, 0, none⟩)), (9, .map (some p)), (10, .slice t.1 s.2.length t.2), (27, v1), (28, .int .i64 (a1.length : Int)), (29, .int .i64 x29_2)]) (fun s t => [Jl pb0 [.int .i64 a0.device_, .int .i64 (a0.knows_ 0), .int .i64 (a0.knows_ 1), .int .i64 (a0.knows_ 2), .int .i64 (a0.knows_ 3), .int .i64 (a0.knows_ 4), .int .i64 (a0.knows_ 5), .int .i64 (a0.knows_ 6), .int .i64 (a0.knows_ 7), .int .i64 (a0.knows_ 8), .int .i64 (a0.knows_ 9), .int .i64 (a0.knows_ 10), .int .i64 (a0.knows_ 11), .int .i64 (a0.knows_ 12), .int .i64 (a0.knows_ 13), .int .i64 (a0.knows_ 14), .int .i64 (a0.knows_ 15), .slice p0_2.1 n0_2 p0_2.2] 60, J2 45 8 (.slice p0_2.1 n0_2 p0_2.2) n0_2 (a0.facts_.map Jd), Jl b3 [.int .i64 (a3 0), .int .i64 (a3 1), .int .i64 (a3 2), .int .i64 (a3 3), .int .i64 (a3 4), .int .i64 (a3 5), .int .i64 (a3 6), .int .i64 (a3 7), .int .i64 (a3 8), .int .i64 (a3 9), .int .i64 (a3 10), .int .i64 (a3 11), .int .i64 (a3 12), .int .i64 (a3 13), .int .i64 (a3 14), .int .i64 (a3 15)] 57, mapC (fun x_ : T_sync_Fact => .agg #[.int .i64 x_.Dot.Device, .int .i64 x_.Dot.N, .int .i64 x_.Time, .int .i64 x_.Kind, .int .i64 x_.Id, str x_.Name, .int .i64 x_.Num, str x_.Text]) (fun x_ : Bool => .bool x_) p s.1, Jz 45 8 (.slice t.1 s.2.length t.2) s.2.length (s.2.map Jd)]) (fun s t => True) ?_ ?_
    ·refine J5 ?_
     refine Jf ?_
     refine Jb ?_
     obtain ⟨t31, h_t31, H45⟩ := Ji H42; clear H42
     refine Ja rfl rfl rfl (Z6 Tryz.underlying58 Tryz.sizeOf45 rfl rfl f1 h_t31) ?_
     refine Qo (fun w hF hS => X4 (f := Jd) (i := x29_2) (sz := 8) (j := 0) (vs := [.int .i64 t31.Dot.Device, .int .i64 t31.Dot.N, .int .i64 t31.Time, .int .i64 t31.Kind, .int .i64 t31.Id, str t31.Name, .int .i64 t31.Num, str t31.Text]) Tryz.isAgg45 Tryz.sizeOf45 rfl rfl (f1.row (hw.now hF)) h_t31 rfl) rfl rfl rfl ?_
     refine Zv (cs := [.int .i64 0, .int .i64 0, .int .i64 0, .int .i64 0, .int .i64 0, str [], .int .i64 0, str []]) Tryz.zeroValue45 rfl rfl rfl (fun b4 => ?_)
     refine Xt (i := 5) (vs := [.int .i64 t31.Dot.Device, .int .i64 t31.Dot.N, .int .i64 t31.Time, .int .i64 t31.Kind, .int .i64 t31.Id, str t31.Name, .int .i64 t31.Num, str t31.Text]) (cs' := [.int .i64 t31.Dot.Device, .int .i64 t31.Dot.N, .int .i64 t31.Time, .int .i64 t31.Kind, .int .i64 t31.Id, str t31.Name, .int .i64 t31.Num, str t31.Text]) Tryz.sizeOf45 rfl rfl rfl rfl rfl rfl rfl rfl rfl ?_
     refine Jg ?_
     refine Jf ?_
     exact Yl (Kd.p :: Kd.d [5] _ :: Kd.d [] _ :: Kd.d [3] _ :: Kd.p :: Kd.p :: Kd.p :: Kd.p :: Kd.p :: Kd.d [0] _ :: Kd.p :: Kd.d [5] _ :: Kd.d [] _ :: Kd.p :: Kd.p :: []) 0 mixed (by
      refine Jt rfl rfl (Je (v := .map (some p)) rfl) ?_
      refine d_loadN (i := 5) (vs := [.int .i64 t31.Dot.Device, .int .i64 t31.Dot.N, .int .i64 t31.Time, .int .i64 t31.Kind, .int .i64 t31.Id, str t31.Name, .int .i64 t31.Num, str t31.Text]) Tryz.isAgg45 Tryz.sizeOf45 rfl rfl rfl rfl ?_
      have h_t35 := Qq H45
      have H46 := Qi H45
      refine d_call (k47 h_t35) Tryz.call47 rfl rfl ?_
      refine Jaf (fun w L' hF hS hi => run_lookupG (i := 3) (fk := (fun x_ : T_sync_Fact => .agg #[.int .i64 x_.Dot.Device, .int .i64 x_.Dot.N, .int .i64 x_.Time, .int .i64 x_.Kind, .int .i64 x_.Id, str x_.Name, .int .i64 x_.Num, str x_.Text])) (fv := (fun x_ : Bool => .bool x_)) (k := (val (sync_one t31))) (z := false) keyG_T45 Tryz.underlying61  Tryz.zeroValue4 rfl rfl hS ((hi 3 (by simp)).trans rfl)) rfl rfl ?_
      refine Jt rfl rfl (Zm rfl) ?_
      refine Jt rfl rfl (Je (v := .bool (!((mGet mp_2 (val (sync_one t31))).getD false))) rfl) ?_
      refine splitS (fun hb => ?_) (fun hb => ?_)
      ·have H47 := Jr hb H46
       refine Jt rfl rfl (Je (v := .pointer (some ⟨pb0, 0, none⟩)) rfl) ?_
       refine Jt rfl rfl (Qm rfl) ?_
       refine Jt rfl rfl (Jo Tryz.runUnderlying60 rfl Tryz.sizeOf57 rfl rfl) ?_
       refine d_loadN (i := 0) (vs := [.int .i64 (a0.knows_ 0), .int .i64 (a0.knows_ 1), .int .i64 (a0.knows_ 2), .int .i64 (a0.knows_ 3), .int .i64 (a0.knows_ 4), .int .i64 (a0.knows_ 5), .int .i64 (a0.knows_ 6), .int .i64 (a0.knows_ 7), .int .i64 (a0.knows_ 8), .int .i64 (a0.knows_ 9), .int .i64 (a0.knows_ 10), .int .i64 (a0.knows_ 11), .int .i64 (a0.knows_ 12), .int .i64 (a0.knows_ 13), .int .i64 (a0.knows_ 14), .int .i64 (a0.knows_ 15)]) Tryz.isAgg57 Tryz.sizeOf57 rfl rfl rfl rfl ?_
       refine Jt rfl rfl (Jo Tryz.runUnderlying45 rfl Tryz.sizeOf43 rfl rfl) ?_
       refine d_loadN (i := 5) (vs := [.int .i64 t31.Dot.Device, .int .i64 t31.Dot.N]) Tryz.isAgg43 Tryz.sizeOf43 rfl rfl rfl rfl ?_
       have h_t45 := Qq H47
       have H48 := Qi H47
       refine d_call (k48 h_t45) Tryz.call48 rfl rfl ?_
       refine Jt rfl rfl (Zm rfl) ?_
       refine Jt rfl rfl (J7 (v := .bool (!(val (Z1 a0.knows_ t31.Dot)))) rfl rfl) ?_
       refine Wr ?_
       refine Qg (b := (!(val (Z1 a0.knows_ t31.Dot)))) rfl (fun hb => ?_) (fun hb => ?_)
       ·have H49 := Jr hb H48; clear H48
        refine Jf ?_
        refine Jb ?_
        refine Ja rfl rfl rfl (Je (v := .slice p_4.1 l_3.length p_4.2) rfl) ?_
        refine Ym (i := 5) (vs := [.int .i64 t31.Dot.Device, .int .i64 t31.Dot.N, .int .i64 t31.Time, .int .i64 t31.Kind, .int .i64 t31.Id, str t31.Name, .int .i64 t31.Num, str t31.Text]) Tryz.isAgg45 Tryz.sizeOf45 rfl rfl rfl rfl rfl ?_
        refine Y8 (vs := [.agg #[.int .i64 t31.Dot.Device, .int .i64 t31.Dot.N, .int .i64 t31.Time, .int .i64 t31.Kind, .int .i64 t31.Id, str t31.Name, .int .i64 t31.Num, str t31.Text]]) (cs := [.int .i64 t31.Dot.Device, .int .i64 t31.Dot.N, .int .i64 t31.Time, .int .i64 t31.Kind, .int .i64 t31.Id, str t31.Name, .int .i64 t31.Num, str t31.Text]) Tryz.underlying58 Tryz.sizeOf45 Tryz.zeroValue45 rfl rfl rfl rfl rfl rfl rfl (fun b5 => ?_)
        obtain ⟨l51, h_l51, H50⟩ := Ji H49; clear H49
        refine Q4 (Wi (i := 4) (hn := rfl) (rds := [6]) (p := p_4) (sz := 8) (by_ := 80) (f := Jd) (ys := l_3) (ls := ([t31] : List T_sync_Fact)) (V := .slice (some ⟨b5, 0, none⟩) 1 1) Tryz.underlying58 (Jae Tryz.typeInfo45) rfl rfl rfl rfl rfl rfl rfl rfl rfl rfl (fun w L' hF hS hi => row_box (i := 6) hS ((hi 6 (by simp)).trans rfl) rfl rfl) (fun _ => rfl) (fun _ => rfl) h_l51) rfl rfl rfl (fun p_6 => ?_)
        refine Ja rfl rfl rfl (Jc (v := .slice p_6.1 l51.length p_6.2) rfl) ?_
        refine Jg ?_
        refine Jb ?_
        refine Ja rfl rfl rfl (Je (v := .map (some p)) rfl) ?_
        refine Ym (i := 5) (vs := [.int .i64 t31.Dot.Device, .int .i64 t31.Dot.N, .int .i64 t31.Time, .int .i64 t31.Kind, .int .i64 t31.Id, str t31.Name, .int .i64 t31.Num, str t31.Text]) Tryz.isAgg45 Tryz.sizeOf45 rfl rfl rfl rfl rfl ?_
        obtain ⟨t54, h_t54, H51⟩ := Ji H50; clear H50
        refine Q5 (k47 h_t54) Tryz.call47 rfl rfl rfl ?_
        refine l_turn0 (turns_msetG (u := true) (i := 3) (rds := []) (fk := (fun x_ : T_sync_Fact => .agg #[.int .i64 x_.Dot.Device, .int .i64 x_.Dot.N, .int .i64 x_.Time, .int .i64 x_.Kind, .int .i64 x_.Id, str x_.Name, .int .i64 x_.Num, str x_.Text])) (fv := (fun x_ : Bool => .bool x_)) (k := t54) (v := true) keyG_T45 (.inr rfl) Tryz.underlying61  rfl rfl rfl rfl) rfl rfl (fun _ => ?_)
        refine Jg ?_
        refine Js ((mSet mp_2 t54 true), l51) p_6 0 [0, 1, 2, 3, 4] (by exact ⟨rfl, rfl, rfl, rfl, rfl, rfl, rfl, trivial⟩) (by decide) rfl (by exact ⟨H51, trivial⟩) (Nat.lt_succ_self _)
       ·have H52 := Jq hb H48; clear H48
        refine Jw ?_
        refine Js (mp_2, l_3) p_4 0 [0, 1, 2, 3, 4] (by exact ⟨rfl, rfl, rfl, rfl, rfl, rfl, rfl, trivial⟩) (by decide) rfl (by exact ⟨H52, trivial⟩) (Nat.lt_succ_self _)
      ·have H53 := Jq hb H46
       refine Qw rfl rfl ?_
       refine Qw rfl rfl ?_
       refine Qw rfl rfl ?_
       refine Qw rfl rfl ?_
       refine Qw rfl rfl ?_
       refine Qw rfl rfl ?_
       refine Qw rfl rfl ?_
       refine Qw rfl rfl ?_
       refine Jt rfl rfl (J1 (v := .bool false) rfl rfl) ?_
       refine Wr ?_
       refine Jab rfl ?_
       refine Jw ?_
       refine Js (mp_2, l_3) p_4 0 [0, 1, 2, 3, 4] (by exact ⟨rfl, rfl, rfl, rfl, rfl, rfl, rfl, trivial⟩) (by decide) rfl (by exact ⟨H53, trivial⟩) (Nat.lt_succ_self _)
      ) (by kernel_rfl)
    ·rintro ⟨mp_3, l_4⟩ p_5 gg H43 _
     replace H43 : X9 x29_2 next3 mp_3 l_4 = some r := H43
     refine J8 [(0, .pointer (some ⟨pb0, 0, none⟩)), (7, .pointer (some ⟨b3, 0, none⟩)), (9, .map (some p)), (10, .slice p_5.1 l_4.length p_5.2), (27, v1), (28, .int .i64 (a1.length : Int)), (29, .int .i64 x29_2)] [Jl pb0 [.int .i64 a0.device_, .int .i64 (a0.knows_ 0), .int .i64 (a0.knows_ 1), .int .i64 (a0.knows_ 2), .int .i64 (a0.knows_ 3), .int .i64 (a0.knows_ 4), .int .i64 (a0.knows_ 5), .int .i64 (a0.knows_ 6), .int .i64 (a0.knows_ 7), .int .i64 (a0.knows_ 8), .int .i64 (a0.knows_ 9), .int .i64 (a0.knows_ 10), .int .i64 (a0.knows_ 11), .int .i64 (a0.knows_ 12), .int .i64 (a0.knows_ 13), .int .i64 (a0.knows_ 14), .int .i64 (a0.knows_ 15), .slice p0_2.1 n0_2 p0_2.2] 60, J2 45 8 (.slice p0_2.1 n0_2 p0_2.2) n0_2 (a0.facts_.map Jd), Jl b3 [.int .i64 (a3 0), .int .i64 (a3 1), .int .i64 (a3 2), .int .i64 (a3 3), .int .i64 (a3 4), .int .i64 (a3 5), .int .i64 (a3 6), .int .i64 (a3 7), .int .i64 (a3 8), .int .i64 (a3 9), .int .i64 (a3 10), .int .i64 (a3 11), .int .i64 (a3 12), .int .i64 (a3 13), .int .i64 (a3 14), .int .i64 (a3 15)] 57, mapC (fun x_ : T_sync_Fact => .agg #[.int .i64 x_.Dot.Device, .int .i64 x_.Dot.N, .int .i64 x_.Time, .int .i64 x_.Kind, .int .i64 x_.Id, str x_.Name, .int .i64 x_.Num, str x_.Text]) (fun x_ : Bool => .bool x_) p mp_3, Jz 45 8 (.slice p_5.1 l_4.length p_5.2) l_4.length (l_4.map Jd)] rfl rfl ?_
     refine Jb ?_
     obtain ⟨t55, h_t55, H44⟩ := Ji H43; clear H43
     refine Ja rfl rfl rfl (Yj rfl rfl h_t55) ?_
     refine Ja rfl rfl rfl (Je (v := .int .i64 t55) rfl) ?_
     refine Jg ?_
     refine Js (t55, mp_3, l_4) p_5 m3 [0, 1, 2, 3, 4] (by exact ⟨rfl, rfl, rfl, rfl, rfl, rfl, rfl, trivial⟩) (by decide) rfl (by exact ⟨(by subst hn3; exact H44), trivial⟩) (Nat.lt_succ_self _)
   ·have H54 := Jq hb H41; clear H41
    refine Xi ?_
    refine Js l_3 p_4 0 [0, 1, 2, 4] (by exact ⟨rfl, rfl, rfl, trivial⟩) (by decide) rfl (by exact ⟨H54, trivial⟩) (Nat.lt_succ_self _)
  ·rintro l p_3 gg H30 _
   replace H30 : Zy a0 a3 l = some r := H30
   refine J8 [(0, .pointer (some ⟨pb0, 0, none⟩)), (7, .pointer (some ⟨b3, 0, none⟩)), (10, .slice p_3.1 l.length p_3.2)] [Jl pb0 [.int .i64 a0.device_, .int .i64 (a0.knows_ 0), .int .i64 (a0.knows_ 1), .int .i64 (a0.knows_ 2), .int .i64 (a0.knows_ 3), .int .i64 (a0.knows_ 4), .int .i64 (a0.knows_ 5), .int .i64 (a0.knows_ 6), .int .i64 (a0.knows_ 7), .int .i64 (a0.knows_ 8), .int .i64 (a0.knows_ 9), .int .i64 (a0.knows_ 10), .int .i64 (a0.knows_ 11), .int .i64 (a0.knows_ 12), .int .i64 (a0.knows_ 13), .int .i64 (a0.knows_ 14), .int .i64 (a0.knows_ 15), .slice p0_2.1 n0_2 p0_2.2] 60, J2 45 8 (.slice p0_2.1 n0_2 p0_2.2) n0_2 (a0.facts_.map Jd), Jl b3 [.int .i64 (a3 0), .int .i64 (a3 1), .int .i64 (a3 2), .int .i64 (a3 3), .int .i64 (a3 4), .int .i64 (a3 5), .int .i64 (a3 6), .int .i64 (a3 7), .int .i64 (a3 8), .int .i64 (a3 9), .int .i64 (a3 10), .int .i64 (a3 11), .int .i64 (a3 12), .int .i64 (a3 13), .int .i64 (a3 14), .int .i64 (a3 15)] 57, Jz 45 8 (.slice p_3.1 l.length p_3.2) l.length (l.map Jd)] rfl rfl ?_
   refine Jf ?_
   refine Jf ?_
   refine Jb ?_
   refine Ja rfl rfl rfl (Je (v := .slice p_3.1 l.length p_3.2) rfl) ?_
   refine Ja rfl rfl rfl (U5 Tryz.underlying58 rfl) ?_
   refine Ja rfl rfl rfl (r_gtr rfl rfl) ?_
   refine Jg ?_
   refine Qg (b := (decide (5000 < (l.length : Int)))) rfl (fun hb => ?_) (fun hb => ?_)
   ·have H31 := Jr hb H30; clear H30
    refine Jf ?_
    refine Jb ?_
    refine Ja rfl rfl rfl (Jc (v := .int .i64 4) rfl) ?_
    refine Jg ?_
    refine Jp ?_
    obtain rfl := Option.some.inj H31
    refine Qa 0 1 rfl rfl (by decide) ?_
    refine J3 (v := .int .i64 4) rfl rfl (Yk p0_2 (i := 0) rfl (by first | rfl | rw [(show n0_2 = a0.facts_.length from hn0_2)]) (by first | exact Imp.refl _ | exact Imp.of (by rw [(show n0_2 = a0.facts_.length from hn0_2)])))
   ·have H32 := Jq hb H30; clear H30
    refine Jw ?_
    refine Jf ?_
    refine Jb ?_
    refine Ja rfl rfl rfl (Je (v := .slice p_3.1 l.length p_3.2) rfl) ?_
    refine Ww 3 rfl (imp_rowO _ _ _ _ _) ?_
    obtain ⟨t60, h_t60, H33⟩ := Ji H32; clear H32
    refine Q4 (J6 (i := 3) (rds := []) (G := fun x : Unit => .tuple #[]) (C := fun x : Unit => J2 45 8 (.slice p_3.1 l.length p_3.2) l.length (t60.map Jd)) rfl (fun w L' S hF hS hi hp hlt ho hA => k44 hp hlt (Qn w S) rfl h_t60) Tryz.call44 rfl) rfl rfl rfl (fun _ => ?_)
    refine c_know (fun w hF hS => lenOfO (i := 3) hS rfl) (fun hl_ => ?_)
    have hl : l.length = t60.length := by simpa using hl_.symm
    refine Jg ?_
    refine Jf ?_
    refine W7 [0, 1, 2, 3] [Jl pb0 [.int .i64 a0.device_, .int .i64 (a0.knows_ 0), .int .i64 (a0.knows_ 1), .int .i64 (a0.knows_ 2), .int .i64 (a0.knows_ 3), .int .i64 (a0.knows_ 4), .int .i64 (a0.knows_ 5), .int .i64 (a0.knows_ 6), .int .i64 (a0.knows_ 7), .int .i64 (a0.knows_ 8), .int .i64 (a0.knows_ 9), .int .i64 (a0.knows_ 10), .int .i64 (a0.knows_ 11), .int .i64 (a0.knows_ 12), .int .i64 (a0.knows_ 13), .int .i64 (a0.knows_ 14), .int .i64 (a0.knows_ 15), .slice p0_2.1 n0_2 p0_2.2] 60, J2 45 8 (.slice p0_2.1 n0_2 p0_2.2) n0_2 (a0.facts_.map Jd), Jl b3 [.int .i64 (a3 0), .int .i64 (a3 1), .int .i64 (a3 2), .int .i64 (a3 3), .int .i64 (a3 4), .int .i64 (a3 5), .int .i64 (a3 6), .int .i64 (a3 7), .int .i64 (a3 8), .int .i64 (a3 9), .int .i64 (a3 10), .int .i64 (a3 11), .int .i64 (a3 12), .int .i64 (a3 13), .int .i64 (a3 14), .int .i64 (a3 15)] 57, J2 45 8 (.slice p_3.1 l.length p_3.2) l.length (t60.map Jd)] rfl (by decide) ?_
    refine Jb ?_
    refine Ja rfl rfl rfl (Je (v := .pointer (some ⟨pb0, 0, none⟩)) rfl) ?_
    refine Ja rfl rfl rfl (Je (v := .slice p_3.1 l.length p_3.2) rfl) ?_
    refine Ja rfl rfl rfl (Qm rfl) ?_
    refine Ja rfl rfl rfl (Jo Tryz.runUnderlying60 rfl Tryz.sizeOf58 rfl rfl) ?_
    refine Xt (i := 0) (vs := [.slice p_3.1 l.length p_3.2]) (cs' := [.int .i64 a0.device_, .int .i64 (a0.knows_ 0), .int .i64 (a0.knows_ 1), .int .i64 (a0.knows_ 2), .int .i64 (a0.knows_ 3), .int .i64 (a0.knows_ 4), .int .i64 (a0.knows_ 5), .int .i64 (a0.knows_ 6), .int .i64 (a0.knows_ 7), .int .i64 (a0.knows_ 8), .int .i64 (a0.knows_ 9), .int .i64 (a0.knows_ 10), .int .i64 (a0.knows_ 11), .int .i64 (a0.knows_ 12), .int .i64 (a0.knows_ 13), .int .i64 (a0.knows_ 14), .int .i64 (a0.knows_ 15), .slice p_3.1 l.length p_3.2]) Tryz.sizeOf58 rfl rfl rfl rfl rfl rfl rfl rfl rfl ?_
    refine Jg ?_
    refine Jf ?_
    refine Jf ?_
    refine Jb ?_
    refine Ym (i := 2) (vs := [.int .i64 (a3 0), .int .i64 (a3 1), .int .i64 (a3 2), .int .i64 (a3 3), .int .i64 (a3 4), .int .i64 (a3 5), .int .i64 (a3 6), .int .i64 (a3 7), .int .i64 (a3 8), .int .i64 (a3 9), .int .i64 (a3 10), .int .i64 (a3 11), .int .i64 (a3 12), .int .i64 (a3 13), .int .i64 (a3 14), .int .i64 (a3 15)]) Tryz.isAgg57 Tryz.sizeOf57 rfl rfl rfl rfl rfl ?_
    refine Ja rfl rfl rfl (Je (v := .int .i64 0) rfl) ?_
    refine Jg ?_
    refine J5 ?_
    refine W7 [0, 3] [Jl pb0 [.int .i64 a0.device_, .int .i64 (a0.knows_ 0), .int .i64 (a0.knows_ 1), .int .i64 (a0.knows_ 2), .int .i64 (a0.knows_ 3), .int .i64 (a0.knows_ 4), .int .i64 (a0.knows_ 5), .int .i64 (a0.knows_ 6), .int .i64 (a0.knows_ 7), .int .i64 (a0.knows_ 8), .int .i64 (a0.knows_ 9), .int .i64 (a0.knows_ 10), .int .i64 (a0.knows_ 11), .int .i64 (a0.knows_ 12), .int .i64 (a0.knows_ 13), .int .i64 (a0.knows_ 14), .int .i64 (a0.knows_ 15), .slice p_3.1 l.length p_3.2] 60, J2 45 8 (.slice p_3.1 l.length p_3.2) l.length (t60.map Jd)] rfl (by decide) ?_
    refine Vn (σ := Int × (Nat → Int)) (τ := Unit) (fun next2 s => X8 a0 a3 t60 next2 s.1 s.2) (fun s t => [(0, .pointer (some ⟨pb0, 0, none⟩)), (65, .agg #[.int .i64 (a3 0), .int .i64 (a3 1), .int .i64 (a3 2), .int .i64 (a3 3), .int .i64 (a3 4), .int .i64 (a3 5), .int .i64 (a3 6), .int .i64 (a3 7), .int .i64 (a3 8), .int .i64 (a3 9), .int .i64 (a3 10), .int .i64 (a3 11), .int .i64 (a3 12), .int .i64 (a3 13), .int .i64 (a3 14), .int .i64 (a3 15)]), (66, .int .i64 s.1)]) (fun s t => [Jl pb0 [.int .i64 a0.device_, .int .i64 (s.2 0), .int .i64 (s.2 1), .int .i64 (s.2 2), .int .i64 (s.2 3), .int .i64 (s.2 4), .int .i64 (s.2 5), .int .i64 (s.2 6), .int .i64 (s.2 7), .int .i64 (s.2 8), .int .i64 (s.2 9), .int .i64 (s.2 10), .int .i64 (s.2 11), .int .i64 (s.2 12), .int .i64 (s.2 13), .int .i64 (s.2 14), .int .i64 (s.2 15), .slice p_3.1 l.length p_3.2] 60, J2 45 8 (.slice p_3.1 l.length p_3.2) l.length (t60.map Jd)]) (fun s t => True) (0, a0.knows_) () [0, 1] H33 (by exact trivial) (by exact ⟨rfl, rfl, rfl, trivial⟩) (by decide) rfl ?_
    rintro ⟨x66_2, m_2⟩ _ m2 gg H34 _
    clear H33
    replace H34 : X8 a0 a3 t60 (it (fun next2 s => X8 a0 a3 t60 next2 s.1 s.2) m2) x66_2 m_2 = some r := H34
    generalize hn2 : it (fun next2 s => X8 a0 a3 t60 next2 s.1 s.2) m2 = next2 at H34
    refine J8 [(0, .pointer (some ⟨pb0, 0, none⟩)), (65, .agg #[.int .i64 (a3 0), .int .i64 (a3 1), .int .i64 (a3 2), .int .i64 (a3 3), .int .i64 (a3 4), .int .i64 (a3 5), .int .i64 (a3 6), .int .i64 (a3 7), .int .i64 (a3 8), .int .i64 (a3 9), .int .i64 (a3 10), .int .i64 (a3 11), .int .i64 (a3 12), .int .i64 (a3 13), .int .i64 (a3 14), .int .i64 (a3 15)]), (66, .int .i64 x66_2)] [Jl pb0 [.int .i64 a0.device_, .int .i64 (m_2 0), .int .i64 (m_2 1), .int .i64 (m_2 2), .int .i64 (m_2 3), .int .i64 (m_2 4), .int .i64 (m_2 5), .int .i64 (m_2 6), .int .i64 (m_2 7), .int .i64 (m_2 8), .int .i64 (m_2 9), .int .i64 (m_2 10), .int .i64 (m_2 11), .int .i64 (m_2 12), .int .i64 (m_2 13), .int .i64 (m_2 14), .int .i64 (m_2 15), .slice p_3.1 l.length p_3.2] 60, J2 45 8 (.slice p_3.1 l.length p_3.2) l.length (t60.map Jd)] rfl rfl ?_
    refine Jf ?_
    refine Jb ?_
    refine Ja rfl rfl rfl (Zd rfl rfl) ?_
    refine Jg ?_
    refine Jf ?_
    refine Qg (b := (decide (x66_2 < 16))) rfl (fun hb => ?_) (fun hb => ?_)
    ·have H35 := Jr hb H34; clear H34
     refine Jw ?_
     refine Jf ?_
     refine J5 ?_
     refine Jf ?_
     refine Jb ?_
     refine Ja rfl rfl rfl (Je (v := .int .i64 x66_2) rfl) ?_
     obtain ⟨k69, h_k69, H36⟩ := Ji H35; clear H35
     refine Ja rfl rfl rfl (r_indexAG (f := fun j_ => .int .i64 (a3 j_)) Tryz.runUnderlying57 Tryz.isAgg3 Tryz.sizeOf3 rfl rfl rfl h_k69) ?_
     refine Ja rfl rfl rfl (Jc (v := .int .i64 x66_2) rfl) ?_
     refine Ja rfl rfl rfl (Jc (v := .int .i64 (a3 k69)) rfl) ?_
     refine Jg ?_
     exact Yl (Kd.p :: Kd.p :: Kd.p :: Kd.p :: Kd.p :: Kd.p :: Kd.p :: Kd.d [0] _ :: Kd.p :: Kd.p :: Kd.p :: Kd.p :: Kd.p :: Kd.st 82 0 [_, _, _, _, _, _, _, _, _, _, _, _, _, _, _, _, _, _] 60 :: []) 0 mixed (by
      refine Jt rfl rfl (Je (v := .pointer (some ⟨pb0, 0, none⟩)) rfl) ?_
      refine Jt rfl rfl (Je (v := .int .i64 x66_2) rfl) ?_
      refine Jt rfl rfl (Je (v := .pointer (some ⟨pb0, 0, none⟩)) rfl) ?_
      refine Jt rfl rfl (Je (v := .int .i64 x66_2) rfl) ?_
      refine Jt rfl rfl (Qm rfl) ?_
      refine Jt rfl rfl (Jo Tryz.runUnderlying60 rfl Tryz.sizeOf57 rfl rfl) ?_
      have h_k76 := Qq H36
      have H37 := Qi H36
      refine Jt rfl rfl (Jaj Tryz.runUnderlying57 Tryz.sizeOf3 rfl rfl h_k76) ?_
      refine Yn (i := 0) (v := .int .i64 (m_2 (val (Q3 16 x66_2)))) Tryz.isAgg3 rfl rfl rfl (rg_arr (pre := [.int .i64 a0.device_]) (post := [.slice p_3.1 l.length p_3.2]) (f := fun j_ => [.int .i64 (m_2 j_)]) (n := 16) (sz := 1) (q := 0) rfl rfl (fun _ => rfl) (gIx_lt h_k76) rfl) ?_
      refine Jt rfl rfl (Je (v := .int .i64 (a3 k69)) rfl) ?_
      refine Jt rfl rfl (r_max rfl rfl) ?_
      refine Jt rfl rfl (Qm rfl) ?_
      refine Jt rfl rfl (Jo Tryz.runUnderlying60 rfl Tryz.sizeOf57 rfl rfl) ?_
      have h_k82 := Qq H37
      have H38 := Qi H37
      refine Jt rfl rfl (Jaj Tryz.runUnderlying57 Tryz.sizeOf3 rfl rfl h_k82) ?_
      refine d_store (i := 0) (vs := [.int .i64 (max (m_2 (val (Q3 16 x66_2))) (a3 k69))]) (cs' := [.int .i64 a0.device_, .int .i64 ((Q7 m_2 (val (Q3 16 x66_2)) (max (m_2 (val (Q3 16 x66_2))) (a3 k69))) 0), .int .i64 ((Q7 m_2 (val (Q3 16 x66_2)) (max (m_2 (val (Q3 16 x66_2))) (a3 k69))) 1), .int .i64 ((Q7 m_2 (val (Q3 16 x66_2)) (max (m_2 (val (Q3 16 x66_2))) (a3 k69))) 2), .int .i64 ((Q7 m_2 (val (Q3 16 x66_2)) (max (m_2 (val (Q3 16 x66_2))) (a3 k69))) 3), .int .i64 ((Q7 m_2 (val (Q3 16 x66_2)) (max (m_2 (val (Q3 16 x66_2))) (a3 k69))) 4), .int .i64 ((Q7 m_2 (val (Q3 16 x66_2)) (max (m_2 (val (Q3 16 x66_2))) (a3 k69))) 5), .int .i64 ((Q7 m_2 (val (Q3 16 x66_2)) (max (m_2 (val (Q3 16 x66_2))) (a3 k69))) 6), .int .i64 ((Q7 m_2 (val (Q3 16 x66_2)) (max (m_2 (val (Q3 16 x66_2))) (a3 k69))) 7), .int .i64 ((Q7 m_2 (val (Q3 16 x66_2)) (max (m_2 (val (Q3 16 x66_2))) (a3 k69))) 8), .int .i64 ((Q7 m_2 (val (Q3 16 x66_2)) (max (m_2 (val (Q3 16 x66_2))) (a3 k69))) 9), .int .i64 ((Q7 m_2 (val (Q3 16 x66_2)) (max (m_2 (val (Q3 16 x66_2))) (a3 k69))) 10), .int .i64 ((Q7 m_2 (val (Q3 16 x66_2)) (max (m_2 (val (Q3 16 x66_2))) (a3 k69))) 11), .int .i64 ((Q7 m_2 (val (Q3 16 x66_2)) (max (m_2 (val (Q3 16 x66_2))) (a3 k69))) 12), .int .i64 ((Q7 m_2 (val (Q3 16 x66_2)) (max (m_2 (val (Q3 16 x66_2))) (a3 k69))) 13), .int .i64 ((Q7 m_2 (val (Q3 16 x66_2)) (max (m_2 (val (Q3 16 x66_2))) (a3 k69))) 14), .int .i64 ((Q7 m_2 (val (Q3 16 x66_2)) (max (m_2 (val (Q3 16 x66_2))) (a3 k69))) 15), .slice p_3.1 l.length p_3.2]) Tryz.sizeOf3 rfl rfl rfl rfl rfl rfl rfl rfl (wr_arr (pre := [.int .i64 a0.device_]) (post := [.slice p_3.1 l.length p_3.2]) (f := fun (j_ : Int) => [.int .i64 j_]) (n := 16) (sz := 1) (a := m_2) (x := (max (m_2 (val (Q3 16 x66_2))) (a3 k69))) rfl rfl (fun _ => rfl) (gIx_lt h_k82) rfl rfl) ?_
      refine Wr ?_
      refine Jb ?_
      obtain ⟨t83, h_t83, H39⟩ := Ji H38; clear H38
      refine Ja rfl rfl rfl (Yj rfl rfl h_t83) ?_
      refine Ja rfl rfl rfl (Je (v := .int .i64 t83) rfl) ?_
      refine Jg ?_
      refine Js (t83, (Q7 m_2 (val (Q3 16 x66_2)) (max (m_2 (val (Q3 16 x66_2))) (a3 k69)))) () m2 [0, 1] (by exact ⟨rfl, rfl, rfl, trivial⟩) (by decide) rfl (by exact ⟨(by subst hn2; exact H39), trivial⟩) (Nat.lt_succ_self _)
      ) (by kernel_rfl)
    ·have H40 := Jq hb H34; clear H34
     refine Xi ?_
     refine Jf ?_
     refine Jb ?_
     refine Ja rfl rfl rfl (Jc (v := .int .i64 0) rfl) ?_
     refine Jg ?_
     refine Jp ?_
     obtain rfl := Option.some.inj H40
     refine Qa 0 1 rfl rfl (by decide) ?_
     refine J3 (v := .int .i64 0) rfl rfl (Yk p_3 (i := 0) rfl (by first | rfl | rw [(show l.length = t60.length from hl)]) (by first | exact Imp.refl _ | exact Imp.of (by rw [(show l.length = t60.length from hl)])))
  ) (by kernel_rfl)
theorem k7 {a0 : T_sync_Replica} {pb0 : Nat} {p0_2 : Option Addr × Nat} {n0_2 : Nat} {a1 : T_sync_Replica} {v1_2 : Value} {pb1 : Nat} {r : Int × T_sync_Replica} {w : World} {h : Qd} {S : Nat → Prop} (hcs : (J0 (Jl pb0 [.int .i64 a0.device_, .int .i64 (a0.knows_ 0), .int .i64 (a0.knows_ 1), .int .i64 (a0.knows_ 2), .int .i64 (a0.knows_ 3), .int .i64 (a0.knows_ 4), .int .i64 (a0.knows_ 5), .int .i64 (a0.knows_ 6), .int .i64 (a0.knows_ 7), .int .i64 (a0.knows_ 8), .int .i64 (a0.knows_ 9), .int .i64 (a0.knows_ 10), .int .i64 (a0.knows_ 11), .int .i64 (a0.knows_ 12), .int .i64 (a0.knows_ 13), .int .i64 (a0.knows_ 14), .int .i64 (a0.knows_ 15), .slice p0_2.1 n0_2 p0_2.2] 60) (J2 45 8 (.slice p0_2.1 n0_2 p0_2.2) n0_2 (a0.facts_.map Jd))).P S w) (hlt : ∀ b, S b → b < w.heap.size) (hw : Know h w S) (hn0_2 : n0_2 = a0.facts_.length) (f1_2 : FrS h 8 v1_2 (a1.facts_.map Jd)) (hb1 : h pb1 = some (.cells (List.toArray [.int .i64 a1.device_, .int .i64 (a1.knows_ 0), .int .i64 (a1.knows_ 1), .int .i64 (a1.knows_ 2), .int .i64 (a1.knows_ 3), .int .i64 (a1.knows_ 4), .int .i64 (a1.knows_ 5), .int .i64 (a1.knows_ 6), .int .i64 (a1.knows_ 7), .int .i64 (a1.knows_ 8), .int .i64 (a1.knows_ 9), .int .i64 (a1.knows_ 10), .int .i64 (a1.knows_ 11), .int .i64 (a1.knows_ 12), .int .i64 (a1.knows_ 13), .int .i64 (a1.knows_ 14), .int .i64 (a1.knows_ 15), v1_2]) 60 (0, 0))) (H : Yh a0 a1 = some r) : Does Tryz.prog 7 (List.toArray [.pointer (some ⟨pb0, 0, none⟩), .pointer (some ⟨pb1, 0, none⟩)]) w (fun v w' => ∃ x : (Option Addr × Nat), v = (.int .i64 r.1) ∧ Turn w w' S (J0 (Jl pb0 [.int .i64 r.2.device_, .int .i64 (r.2.knows_ 0), .int .i64 (r.2.knows_ 1), .int .i64 (r.2.knows_ 2), .int .i64 (r.2.knows_ 3), .int .i64 (r.2.knows_ 4), .int .i64 (r.2.knows_ 5), .int .i64 (r.2.knows_ 6), .int .i64 (r.2.knows_ 7), .int .i64 (r.2.knows_ 8), .int .i64 (r.2.knows_ 9), .int .i64 (r.2.knows_ 10), .int .i64 (r.2.knows_ 11), .int .i64 (r.2.knows_ 12), .int .i64 (r.2.knows_ 13), .int .i64 (r.2.knows_ 14), .int .i64 (r.2.knows_ 15), .slice x.1 r.2.facts_.length x.2] 60) (J2 45 8 (.slice x.1 r.2.facts_.length x.2) r.2.facts_.length (r.2.facts_.map Jd)))) := by
 refine enter (n := 20) Tryz.func7 rfl rfl rfl S [J0 (Jl pb0 [.int .i64 a0.device_, .int .i64 (a0.knows_ 0), .int .i64 (a0.knows_ 1), .int .i64 (a0.knows_ 2), .int .i64 (a0.knows_ 3), .int .i64 (a0.knows_ 4), .int .i64 (a0.knows_ 5), .int .i64 (a0.knows_ 6), .int .i64 (a0.knows_ 7), .int .i64 (a0.knows_ 8), .int .i64 (a0.knows_ 9), .int .i64 (a0.knows_ 10), .int .i64 (a0.knows_ 11), .int .i64 (a0.knows_ 12), .int .i64 (a0.knows_ 13), .int .i64 (a0.knows_ 14), .int .i64 (a0.knows_ 15), .slice p0_2.1 n0_2 p0_2.2] 60) (J2 45 8 (.slice p0_2.1 n0_2 p0_2.2) n0_2 (a0.facts_.map Jd))] (Sat.one hcs hlt) ?_
 refine Yo 0 rfl ?_
 refine Jf ?_
 refine Jb ?_
 refine Ja rfl rfl rfl (Jc (v := .int .i64 0) rfl) ?_
 refine Jg ?_
 refine Jf ?_
 exact Yl (Kd.p :: Kd.p :: Kd.p :: Kd.p :: Kd.d [] _ :: Kd.p :: Kd.p :: Kd.p :: Kd.d [] _ :: Kd.t 2 [] _ _ :: Kd.p :: Kd.p :: Kd.p :: Kd.d [] _ :: Kd.t2 0 1 [2] _ _ :: Kd.p :: []) 1 mixed (by
  refine Jt rfl rfl (Je (v := .pointer (some ⟨pb0, 0, none⟩)) rfl) ?_
  refine Jt rfl rfl (Je (v := .pointer (some ⟨pb1, 0, none⟩)) rfl) ?_
  refine Jt rfl rfl (Qm rfl) ?_
  refine Jt rfl rfl (Jo Tryz.runUnderlying60 rfl Tryz.sizeOf58 rfl rfl) ?_
  refine d_read (fun w hF => Xo (v := v1_2) Tryz.isAgg58 rfl (hw.now hF _ _ hb1) rfl) rfl rfl ?_
  refine Jt rfl rfl (Je (v := .pointer (some ⟨pb1, 0, none⟩)) rfl) ?_
  refine Jt rfl rfl (Qm rfl) ?_
  refine Jt rfl rfl (Jo Tryz.runUnderlying60 rfl Tryz.sizeOf58 rfl rfl) ?_
  refine d_read (fun w hF => Xo (v := v1_2) Tryz.isAgg58 rfl (hw.now hF _ _ hb1) rfl) rfl rfl ?_
  have h_t14 := Qq H
  have H3 := Qi H
  refine d_make (Cv := fun v => mapC (fun x_ : T_sync_Fact => .agg #[.int .i64 x_.Dot.Device, .int .i64 x_.Dot.N, .int .i64 x_.Time, .int .i64 x_.Kind, .int .i64 x_.Id, str x_.Name, .int .i64 x_.Num, str x_.Text]) (fun x_ : Bool => .bool x_) (mapB v) (val (Q6 a1.facts_))) 0 (Ql (G := fun x : Nat => .map (some x)) (C := fun x : Nat => mapC (fun x_ : T_sync_Fact => .agg #[.int .i64 x_.Dot.Device, .int .i64 x_.Dot.N, .int .i64 x_.Time, .int .i64 x_.Kind, .int .i64 x_.Id, str x_.Name, .int .i64 x_.Num, str x_.Text]) (fun x_ : Bool => .bool x_) x (val (Q6 a1.facts_))) (fun w L' hF hS hi => k23 (Jx w) (f1_2.mono (hw.now hF)) h_t14) Tryz.call23 rfl) (fun _ => rfl) rfl rfl rfl (fun p => ?_)
  refine Jt rfl rfl (Je (v := .pointer (some ⟨pb1, 0, none⟩)) rfl) ?_
  refine Jt rfl rfl (Qm rfl) ?_
  refine Jt rfl rfl (Jo Tryz.runUnderlying60 rfl Tryz.sizeOf57 rfl rfl) ?_
  refine d_read (fun w hF => run_loadKN (vs := [.int .i64 (a1.knows_ 0), .int .i64 (a1.knows_ 1), .int .i64 (a1.knows_ 2), .int .i64 (a1.knows_ 3), .int .i64 (a1.knows_ 4), .int .i64 (a1.knows_ 5), .int .i64 (a1.knows_ 6), .int .i64 (a1.knows_ 7), .int .i64 (a1.knows_ 8), .int .i64 (a1.knows_ 9), .int .i64 (a1.knows_ 10), .int .i64 (a1.knows_ 11), .int .i64 (a1.knows_ 12), .int .i64 (a1.knows_ 13), .int .i64 (a1.knows_ 14), .int .i64 (a1.knows_ 15)]) Tryz.isAgg57 Tryz.sizeOf57 rfl (hw.now hF _ _ hb1) rfl) rfl rfl ?_
  have h_t19 := Qq H3
  have H4 := Qi H3
  refine d_turn2 (i := 0) (j := 1) (J6 (i := 0) (rds := _) (G := fun x : (Option Addr × Nat) => .int .i64 (val (Jy a0 a1.facts_ (val (Q6 a1.facts_)) a1.knows_)).1) (C := fun x : (Option Addr × Nat) => J0 (Jl pb0 [.int .i64 (val (Jy a0 a1.facts_ (val (Q6 a1.facts_)) a1.knows_)).2.device_, .int .i64 ((val (Jy a0 a1.facts_ (val (Q6 a1.facts_)) a1.knows_)).2.knows_ 0), .int .i64 ((val (Jy a0 a1.facts_ (val (Q6 a1.facts_)) a1.knows_)).2.knows_ 1), .int .i64 ((val (Jy a0 a1.facts_ (val (Q6 a1.facts_)) a1.knows_)).2.knows_ 2), .int .i64 ((val (Jy a0 a1.facts_ (val (Q6 a1.facts_)) a1.knows_)).2.knows_ 3), .int .i64 ((val (Jy a0 a1.facts_ (val (Q6 a1.facts_)) a1.knows_)).2.knows_ 4), .int .i64 ((val (Jy a0 a1.facts_ (val (Q6 a1.facts_)) a1.knows_)).2.knows_ 5), .int .i64 ((val (Jy a0 a1.facts_ (val (Q6 a1.facts_)) a1.knows_)).2.knows_ 6), .int .i64 ((val (Jy a0 a1.facts_ (val (Q6 a1.facts_)) a1.knows_)).2.knows_ 7), .int .i64 ((val (Jy a0 a1.facts_ (val (Q6 a1.facts_)) a1.knows_)).2.knows_ 8), .int .i64 ((val (Jy a0 a1.facts_ (val (Q6 a1.facts_)) a1.knows_)).2.knows_ 9), .int .i64 ((val (Jy a0 a1.facts_ (val (Q6 a1.facts_)) a1.knows_)).2.knows_ 10), .int .i64 ((val (Jy a0 a1.facts_ (val (Q6 a1.facts_)) a1.knows_)).2.knows_ 11), .int .i64 ((val (Jy a0 a1.facts_ (val (Q6 a1.facts_)) a1.knows_)).2.knows_ 12), .int .i64 ((val (Jy a0 a1.facts_ (val (Q6 a1.facts_)) a1.knows_)).2.knows_ 13), .int .i64 ((val (Jy a0 a1.facts_ (val (Q6 a1.facts_)) a1.knows_)).2.knows_ 14), .int .i64 ((val (Jy a0 a1.facts_ (val (Q6 a1.facts_)) a1.knows_)).2.knows_ 15), .slice x.1 (val (Jy a0 a1.facts_ (val (Q6 a1.facts_)) a1.knows_)).2.facts_.length x.2] 60) (J2 45 8 (.slice x.1 (val (Jy a0 a1.facts_ (val (Q6 a1.facts_)) a1.knows_)).2.facts_.length x.2) (val (Jy a0 a1.facts_ (val (Q6 a1.facts_)) a1.knows_)).2.facts_.length ((val (Jy a0 a1.facts_ (val (Q6 a1.facts_)) a1.knows_)).2.facts_.map Jd))) rfl (fun w L' S hF hS hi hp hlt ho hA => k22 hp hlt (Qn w S) hn0_2 (f1_2.mono (hw.but hF ho)) (frb_map (fk := (fun x_ : T_sync_Fact => .agg #[.int .i64 x_.Dot.Device, .int .i64 x_.Dot.N, .int .i64 x_.Time, .int .i64 x_.Kind, .int .i64 x_.Id, str x_.Name, .int .i64 x_.Num, str x_.Text])) (fv := (fun x_ : Bool => .bool x_)) (j := 2) hA (by decide) ((hi 2 (by simp)).trans rfl)) h_t19) Tryz.call22 rfl) rfl rfl (by decide) (by decide) rfl rfl ?_
  refine Jt rfl rfl (Jc (v := .int .i64 (val (Jy a0 a1.facts_ (val (Q6 a1.facts_)) a1.knows_)).1) rfl) ?_
  refine Wr ?_
  refine c_ex 0 rfl (fun p_2 => ?_)
  refine Q0 0 1 rfl rfl (by decide) ?_
  refine Jp ?_
  obtain rfl := Option.some.inj H4
  refine Qa 0 1 rfl rfl (by decide) ?_
  refine J3 (v := .int .i64 (val (Jy a0 a1.facts_ (val (Q6 a1.facts_)) a1.knows_)).1) rfl rfl (Yk p_2 (i := 0) rfl rfl (Imp.refl _))
  ) (by kernel_rfl)
theorem k50 {a0 : T_sync_Fact} {r : Bool} (H : Jah a0 = some r) : Ret Tryz.prog 50 [.agg #[.int .i64 a0.Dot.Device, .int .i64 a0.Dot.N, .int .i64 a0.Time, .int .i64 a0.Kind, .int .i64 a0.Id, str a0.Name, .int .i64 a0.Num, str a0.Text]] (.bool r) := by
 refine Qx (n := 6) Tryz.func50 rfl rfl rfl (fun wd => ?_)
 refine Jf ?_
 refine Jb ?_
 refine Zo (cs := [.int .i64 a0.Dot.Device, .int .i64 a0.Dot.N, .int .i64 a0.Time, .int .i64 a0.Kind, .int .i64 a0.Id, str a0.Name, .int .i64 a0.Num, str a0.Text]) rfl rfl rfl rfl (fun b1 => ?_)
 refine Ja rfl rfl rfl (Jc (v := .bool false) rfl) ?_
 refine Jg ?_
 refine Jf ?_
 refine Jb ?_
 refine Ja rfl rfl rfl (Jo Tryz.runUnderlying45 rfl Tryz.sizeOf3 rfl rfl) ?_
 refine Jv (i := 0) (v := .int .i64 a0.Kind) Tryz.isAgg3 rfl rfl rfl rfl rfl ?_
 refine Ja rfl rfl rfl (Xd rfl rfl) ?_
 refine Ja rfl rfl rfl (Jc (v := .bool (decide (a0.Kind = 1))) rfl) ?_
 refine Jg ?_
 refine Jp ?_
 obtain rfl := Option.some.inj H
 refine J3 (v := .bool (decide (a0.Kind = 1))) rfl rfl (Yd rfl)
theorem k51 {a0 : List Int} {p0 : Option Addr × Nat} {n0 : Nat} {r : List Int} {w : World} {h : Qd} {S : Nat → Prop} (hcs : (Jz 3 1 (.slice p0.1 n0 p0.2) n0 (a0.map Z5)).P S w) (hlt : ∀ b, S b → b < w.heap.size) (_ : Know h w S) (hn0 : n0 = a0.length) (H : gCmpI a0 = some r) : Does Tryz.prog 51 (List.toArray [.slice p0.1 n0 p0.2]) w (fun v w' => ∃ x : (Option Addr × Nat), v = (.slice x.1 r.length x.2) ∧ Turn w w' S (Jz 3 1 (.slice x.1 r.length x.2) r.length (r.map Z5))) :=
  compact_ints (ρ := Go.Proofs.Tryz.laysNm220_ren) Go.Proofs.Tryz.laysNm220 hcs hlt hn0 H
theorem k24 {a0 : T_sync_Replica} {v0_2 : Value} {pb0 : Nat} {r : (List Int)} {w : World} {h : Qd} (hw : Know h w Vd) (f0_2 : FrS h 8 v0_2 (a0.facts_.map Jd)) (hb0 : h pb0 = some (.cells (List.toArray [.int .i64 a0.device_, .int .i64 (a0.knows_ 0), .int .i64 (a0.knows_ 1), .int .i64 (a0.knows_ 2), .int .i64 (a0.knows_ 3), .int .i64 (a0.knows_ 4), .int .i64 (a0.knows_ 5), .int .i64 (a0.knows_ 6), .int .i64 (a0.knows_ 7), .int .i64 (a0.knows_ 8), .int .i64 (a0.knows_ 9), .int .i64 (a0.knows_ 10), .int .i64 (a0.knows_ 11), .int .i64 (a0.knows_ 12), .int .i64 (a0.knows_ 13), .int .i64 (a0.knows_ 14), .int .i64 (a0.knows_ 15), v0_2]) 60 (0, 0))) (H : Uz a0 = some r) : Does Tryz.prog 24 (List.toArray [.pointer (some ⟨pb0, 0, none⟩)]) w (fun v w' => ∃ x : (Option Addr × Nat), v = (.slice x.1 r.length x.2) ∧ Turn w w' Vd (Jz 3 1 (.slice x.1 r.length x.2) r.length (r.map Z5))) := by
 refine enter (n := 21) Tryz.func24 rfl rfl rfl Vd [] (Sat.nil _ _) ?_
 refine Jf ?_
 refine Jb ?_
 refine Ja rfl rfl rfl (Jc (v := .slice none 0 0) rfl) ?_
 refine Jg ?_
 refine Jf ?_
 refine Jb ?_
 refine Ja rfl rfl rfl (Jc (v := .slice none 0 0) rfl) ?_
 refine Jg ?_
 refine Xu (r := r) (σ := (List Int)) (τ := (Option Addr × Nat)) (fun s => Vj s) (fun s t => [(3, .slice t.1 s.length t.2)]) (fun s t => [Jz 3 1 (.slice t.1 s.length t.2) s.length (s.map Z5)]) (fun s t => True) ?_ ?_
 ·refine Jf ?_
  refine Jb ?_
  refine Ja rfl rfl rfl (Je (v := .pointer (some ⟨pb0, 0, none⟩)) rfl) ?_
  obtain ⟨t7, h_t7, H12⟩ := Ji H; clear H
  refine Zq (Ql (rds := []) (G := fun x : (Option Addr × Nat) => .slice x.1 t7.length x.2) (C := fun x : (Option Addr × Nat) => Jz 45 8 (.slice x.1 t7.length x.2) t7.length (t7.map Jd)) (fun w L' hF hS hi => k49 (Jx w) (f0_2.mono (hw.now hF)) (hw.now hF _ _ hb0) (FnH.mk ⟨50, #[], #[], rfl, Tryz.call50, fun args2 post2 w2 hk2 hR2 => by obtain ⟨a0_, r_, rfl, H_, rfl⟩ := hR2; exact k50 H_ w2⟩) h_t7) Tryz.call49 rfl) rfl rfl rfl (fun p_3 => ?_)
  refine Ja rfl rfl rfl (U5 Tryz.underlying58 rfl) ?_
  refine Ja rfl rfl rfl (Je (v := .int .i64 0) rfl) ?_
  refine Jg ?_
  refine J5 ?_
  refine c_nilRow 3 1 ?_
  refine Vn (σ := Int × (List Int)) (τ := (Option Addr × Nat)) (fun next2 s => X7 t7 next2 s.1 s.2) (fun s t => [(3, .slice t.1 s.2.length t.2), (7, .slice p_3.1 t7.length p_3.2), (8, .int .i64 (t7.length : Int)), (9, .int .i64 s.1)]) (fun s t => [Jz 45 8 (.slice p_3.1 t7.length p_3.2) t7.length (t7.map Jd), Jz 3 1 (.slice t.1 s.2.length t.2) s.2.length (s.2.map Z5)]) (fun s t => True) (0, ([] : List Int)) ((none, 0) : Option Addr × Nat) [0, 1] H12 (by exact trivial) (by exact ⟨rfl, rfl, rfl, rfl, trivial⟩) (by decide) rfl ?_
  rintro ⟨x9_2, l_3⟩ p_4 m2 gg H13 _
  clear H12
  replace H13 : X7 t7 (it (fun next2 s => X7 t7 next2 s.1 s.2) m2) x9_2 l_3 = some r := H13
  generalize hn2 : it (fun next2 s => X7 t7 next2 s.1 s.2) m2 = next2 at H13
  refine J8 [(3, .slice p_4.1 l_3.length p_4.2), (7, .slice p_3.1 t7.length p_3.2), (8, .int .i64 (t7.length : Int)), (9, .int .i64 x9_2)] [Jz 45 8 (.slice p_3.1 t7.length p_3.2) t7.length (t7.map Jd), Jz 3 1 (.slice p_4.1 l_3.length p_4.2) l_3.length (l_3.map Z5)] rfl rfl ?_
  refine Jf ?_
  refine Jb ?_
  refine Ja rfl rfl rfl (Zd rfl rfl) ?_
  refine Jg ?_
  refine Jf ?_
  refine Qg (b := (decide (x9_2 < (t7.length : Int)))) rfl (fun hb => ?_) (fun hb => ?_)
  ·have H14 := Jr hb H13; clear H13
   refine Jw ?_
   refine Jf ?_
   refine J5 ?_
   refine Jf ?_
   refine Jb ?_
   obtain ⟨t11, h_t11, H15⟩ := Ji H14; clear H14
   refine Qo (fun w hF hS => Y2 Tryz.underlying58 Tryz.sizeOf45 rfl rfl (W0 (i := 0) hS rfl) rfl h_t11) rfl rfl rfl ?_
   refine Qo (fun w hF hS => X4 (f := Jd) (i := x9_2) (sz := 8) (j := 0) (vs := [.int .i64 t11.Dot.Device, .int .i64 t11.Dot.N, .int .i64 t11.Time, .int .i64 t11.Kind, .int .i64 t11.Id, str t11.Name, .int .i64 t11.Num, str t11.Text]) Tryz.isAgg45 Tryz.sizeOf45 rfl rfl (W0 (i := 0) hS rfl) h_t11 rfl) rfl rfl rfl ?_
   refine Zv (cs := [.int .i64 0, .int .i64 0, .int .i64 0, .int .i64 0, .int .i64 0, str [], .int .i64 0, str []]) Tryz.zeroValue45 rfl rfl rfl (fun b2 => ?_)
   refine Xt (i := 2) (vs := [.int .i64 t11.Dot.Device, .int .i64 t11.Dot.N, .int .i64 t11.Time, .int .i64 t11.Kind, .int .i64 t11.Id, str t11.Name, .int .i64 t11.Num, str t11.Text]) (cs' := [.int .i64 t11.Dot.Device, .int .i64 t11.Dot.N, .int .i64 t11.Time, .int .i64 t11.Kind, .int .i64 t11.Id, str t11.Name, .int .i64 t11.Num, str t11.Text]) Tryz.sizeOf45 rfl rfl rfl rfl rfl rfl rfl rfl rfl ?_
   refine Jg ?_
   refine Jb ?_
   refine Ja rfl rfl rfl (Je (v := .slice p_4.1 l_3.length p_4.2) rfl) ?_
   refine Ja rfl rfl rfl (Jo Tryz.runUnderlying45 rfl Tryz.sizeOf3 rfl rfl) ?_
   refine Jv (i := 2) (v := .int .i64 t11.Id) Tryz.isAgg3 rfl rfl rfl rfl rfl ?_
   refine Y8 (vs := [.int .i64 t11.Id]) (cs := [.int .i64 t11.Id]) Tryz.underlying63 Tryz.sizeOf3 Tryz.zeroValue3 rfl rfl rfl rfl rfl rfl rfl (fun b3 => ?_)
   obtain ⟨l17, h_l17, H16⟩ := Ji H15; clear H15
   refine Q4 (Wi (i := 1) (hn := rfl) (rds := [3]) (p := p_4) (sz := 1) (by_ := 8) (f := Z5) (ys := l_3) (ls := ([t11.Id] : List Int)) (V := .slice (some ⟨b3, 0, none⟩) 1 1) Tryz.underlying63 (Jae Tryz.typeInfo3) rfl rfl rfl rfl rfl rfl rfl rfl rfl rfl (fun w L' hF hS hi => row_box (i := 3) hS ((hi 3 (by simp)).trans rfl) rfl rfl) (fun _ => rfl) (fun _ => rfl) h_l17) rfl rfl rfl (fun p_5 => ?_)
   refine Ja rfl rfl rfl (Jc (v := .slice p_5.1 l17.length p_5.2) rfl) ?_
   refine Jg ?_
   refine W7 [0, 1, 2, 3] [Jz 45 8 (.slice p_3.1 t7.length p_3.2) t7.length (t7.map Jd), Jz 3 1 (.slice p_5.1 l17.length p_5.2) l17.length (l17.map Z5), Jl b2 [.int .i64 t11.Dot.Device, .int .i64 t11.Dot.N, .int .i64 t11.Time, .int .i64 t11.Kind, .int .i64 t11.Id, str t11.Name, .int .i64 t11.Num, str t11.Text] 45, Jl b3 [.int .i64 t11.Id] 3] rfl (by decide) ?_
   refine Jb ?_
   obtain ⟨t18, h_t18, H17⟩ := Ji H16; clear H16
   refine Ja rfl rfl rfl (Yj rfl rfl h_t18) ?_
   refine Ja rfl rfl rfl (Je (v := .int .i64 t18) rfl) ?_
   refine Jg ?_
   refine Js (t18, l17) p_5 m2 [0, 1] (by exact ⟨rfl, rfl, rfl, rfl, trivial⟩) (by decide) rfl (by exact ⟨(by subst hn2; exact H17), trivial⟩) (Nat.lt_succ_self _)
  ·have H18 := Jq hb H13; clear H13
   refine Xi ?_
   refine Js l_3 p_4 0 [1] (by exact ⟨rfl, trivial⟩) (by decide) rfl (by exact ⟨H18, trivial⟩) (Nat.lt_succ_self _)
 ·rintro l p gg H10 _
  replace H10 : Vj l = some r := H10
  refine J8 [(3, .slice p.1 l.length p.2)] [Jz 3 1 (.slice p.1 l.length p.2) l.length (l.map Z5)] rfl rfl ?_
  refine Jf ?_
  refine Jb ?_
  refine Ja rfl rfl rfl (Je (v := .slice p.1 l.length p.2) rfl) ?_
  obtain ⟨t20, h_t20, H11⟩ := Ji H10; clear H10
  refine Q4 (J6 (i := 0) (rds := []) (G := fun x : (Option Addr × Nat) => .slice x.1 t20.length x.2) (C := fun x : (Option Addr × Nat) => Jz 3 1 (.slice x.1 t20.length x.2) t20.length (t20.map Z5)) rfl (fun w L' S hF hS hi hp hlt ho hA => k51 hp hlt (Qn w S) rfl h_t20) Tryz.call51 rfl) rfl rfl rfl (fun p_2 => ?_)
  refine Ja rfl rfl rfl (Jc (v := .slice p_2.1 t20.length p_2.2) rfl) ?_
  refine Jg ?_
  refine Jp ?_
  obtain rfl := Option.some.inj H11
  refine J3 (v := .slice p_2.1 t20.length p_2.2) rfl rfl (Yk p_2 (i := 0) rfl rfl (Imp.refl _))
theorem k27 {a : Option Addr} {n c : Nat} (hc : n ≤ c) : Ret Tryz.prog 27 [.slice a n c] (.slice (Yq a 0 n 1) n n) := by
  refine Qx (n := 9) Tryz.func27 rfl rfl rfl (fun wd => ?_)
  refine Jf ?_
  refine Jb ?_
  refine Ja rfl rfl rfl (Jc (v := .slice none 0 0) rfl) ?_
  refine Jg ?_
  refine Jf ?_
  refine Jb ?_
  refine Ja rfl rfl rfl (Je (v := .slice a n c) rfl) ?_
  refine Ja rfl rfl rfl (Je (v := .slice a n c) rfl) ?_
  refine Ja rfl rfl rfl (U5 Tryz.underlying33 rfl) ?_
  refine Ja rfl rfl rfl (Je (v := .slice a n c) rfl) ?_
  refine Ja rfl rfl rfl (U5 Tryz.underlying33 rfl) ?_
  refine Ja rfl rfl rfl (r_sliceHM (a := a) (m := n) (c := c) (h := (n : Int)) (q := (n : Int)) Tryz.underlying33 Tryz.sizeOf9 rfl rfl rfl (Int.natCast_nonneg n) (Int.le_refl _) (Int.ofNat_le.2 hc)) ?_
  refine Ja rfl rfl rfl (Jc (v := .slice (Yq a 0 n 1) n n) rfl) ?_
  refine Jg ?_
  refine Jp ?_
  exact J3 (v := .slice (Yq a 0 n 1) n n) rfl rfl (Yd rfl)
theorem k28 {a0 : List (List UInt8)} {p0 : Option Addr × Nat} {n0 : Nat} {r : List (List UInt8)} {w : World} {h : Qd} {S : Nat → Prop} (hcs : (Jz 9 1 (.slice p0.1 n0 p0.2) n0 (a0.map Zh)).P S w) (hlt : ∀ b, S b → b < w.heap.size) (_ : Know h w S) (hn0 : n0 = a0.length) (H : gCmpS a0 = some r) : Does Tryz.prog 28 (List.toArray [.slice p0.1 n0 p0.2]) w (fun v w' => ∃ x : (Option Addr × Nat), v = (.slice x.1 r.length x.2) ∧ Turn w w' S (Jz 9 1 (.slice x.1 r.length x.2) r.length (r.map Zh))) :=
  compact_strs (ρ := Go.Proofs.Tryz.lays194_ren) Go.Proofs.Tryz.lays194 hcs hlt hn0 H
theorem k29 {a : Option Addr} {n c : Nat} (hc : n ≤ c) : Ret Tryz.prog 29 [.slice a n c] (.slice (Yq a 0 n 6) n n) := by
  refine Qx (n := 9) Tryz.func29 rfl rfl rfl (fun wd => ?_)
  refine Jf ?_
  refine Jb ?_
  refine Ja rfl rfl rfl (Jc (v := .slice none 0 0) rfl) ?_
  refine Jg ?_
  refine Jf ?_
  refine Jb ?_
  refine Ja rfl rfl rfl (Je (v := .slice a n c) rfl) ?_
  refine Ja rfl rfl rfl (Je (v := .slice a n c) rfl) ?_
  refine Ja rfl rfl rfl (U5 Tryz.underlying32 rfl) ?_
  refine Ja rfl rfl rfl (Je (v := .slice a n c) rfl) ?_
  refine Ja rfl rfl rfl (U5 Tryz.underlying32 rfl) ?_
  refine Ja rfl rfl rfl (r_sliceHM (a := a) (m := n) (c := c) (h := (n : Int)) (q := (n : Int)) Tryz.underlying32 Tryz.sizeOf35 rfl rfl rfl (Int.natCast_nonneg n) (Int.le_refl _) (Int.ofNat_le.2 hc)) ?_
  refine Ja rfl rfl rfl (Jc (v := .slice (Yq a 0 n 6) n n) rfl) ?_
  refine Jg ?_
  refine Jp ?_
  exact J3 (v := .slice (Yq a 0 n 6) n n) rfl rfl (Yd rfl)
theorem k9 {a0 : T_sync_Replica} {v0_2 : Value} {pb0 : Nat} {r : (List T_sync_Shown)} {w : World} {h : Qd} (hw : Know h w Vd) (f0_2 : FrS h 8 v0_2 (a0.facts_.map Jd)) (hb0 : h pb0 = some (.cells (List.toArray [.int .i64 a0.device_, .int .i64 (a0.knows_ 0), .int .i64 (a0.knows_ 1), .int .i64 (a0.knows_ 2), .int .i64 (a0.knows_ 3), .int .i64 (a0.knows_ 4), .int .i64 (a0.knows_ 5), .int .i64 (a0.knows_ 6), .int .i64 (a0.knows_ 7), .int .i64 (a0.knows_ 8), .int .i64 (a0.knows_ 9), .int .i64 (a0.knows_ 10), .int .i64 (a0.knows_ 11), .int .i64 (a0.knows_ 12), .int .i64 (a0.knows_ 13), .int .i64 (a0.knows_ 14), .int .i64 (a0.knows_ 15), v0_2]) 60 (0, 0))) (H : X3 a0 = some r) : Does Tryz.prog 9 (List.toArray [.pointer (some ⟨pb0, 0, none⟩)]) w (fun v w' => ∃ x : (Option Addr × Nat), v = (.slice x.1 r.length x.2) ∧ Turn w w' Vd (roD 6 g_sync_Shown (.slice x.1 r.length x.2) r.length r)) := by
 refine enter (n := 67) Tryz.func9 rfl rfl rfl Vd [] (Sat.nil _ _) ?_
 refine c_poolNew noH ?_
 refine Jf ?_
 refine Jb ?_
 refine Ja rfl rfl rfl (Jc (v := .slice none 0 0) rfl) ?_
 refine Jg ?_
 refine Jf ?_
 refine Jb ?_
 refine Ja rfl rfl rfl (Jc (v := .slice none 0 0) rfl) ?_
 refine Jg ?_
 refine Xu (r := r) (σ := (List T_sync_Shown)) (τ := Qd × (List (List Value)) × (Option Addr × Nat)) (fun s => W9 s) (fun s t => [(3, .slice t.2.2.1 t.2.1.length t.2.2.2)]) (fun s t => [Vh noH t.1, Jz 35 6 (.slice t.2.2.1 t.2.1.length t.2.2.2) t.2.1.length (t.2.1.map idC)]) (fun s t => AllC g_sync_Shown t.1 6 t.2.1 s) ?_ ?_
 ·refine Jf ?_
  refine Jb ?_
  refine Ja rfl rfl rfl (Je (v := .pointer (some ⟨pb0, 0, none⟩)) rfl) ?_
  obtain ⟨t10, h_t10, H54⟩ := Ji H; clear H
  refine Zq (Ql (rds := []) (G := fun x : (Option Addr × Nat) => .slice x.1 t10.length x.2) (C := fun x : (Option Addr × Nat) => Jz 3 1 (.slice x.1 t10.length x.2) t10.length (t10.map Z5)) (fun w L' hF hS hi => k24 (Jx w) (f0_2.mono (hw.now hF)) (hw.now hF _ _ hb0) h_t10) Tryz.call24 rfl) rfl rfl rfl (fun p_2 => ?_)
  refine Ja rfl rfl rfl (U5 Tryz.underlying63 rfl) ?_
  refine Ja rfl rfl rfl (Je (v := .int .i64 0) rfl) ?_
  refine Jg ?_
  refine J5 ?_
  refine c_nilRow 35 6 ?_
  refine Vn (σ := Int × Int × (List T_sync_Shown)) (τ := Qd × (List (List Value)) × (Option Addr × Nat)) (fun next2 s => Ya a0 t10 next2 s.1 s.2.1 s.2.2) (fun s t => [(0, .pointer (some ⟨pb0, 0, none⟩)), (3, .slice t.2.2.1 t.2.1.length t.2.2.2), (10, .slice p_2.1 t10.length p_2.2), (11, .int .i64 s.1), (12, .int .i64 s.2.1)]) (fun s t => [Vh noH t.1, Jz 3 1 (.slice p_2.1 t10.length p_2.2) t10.length (t10.map Z5), Jz 35 6 (.slice t.2.2.1 t.2.1.length t.2.2.2) t.2.1.length (t.2.1.map idC)]) (fun s t => AllC g_sync_Shown t.1 6 t.2.1 s.2.2) ((t10.length : Int), 0, ([] : List T_sync_Shown)) (noH, ([] : List (List Value)), ((none, 0) : Option Addr × Nat)) [0, 1, 2] H54 (by exact (AllC.nil (G := g_sync_Shown) (h := noH) (sz := 6))) (by exact ⟨rfl, rfl, rfl, rfl, rfl, trivial⟩) (by decide) rfl ?_
  rintro ⟨x11_2, x12_2, l_3⟩ ⟨hp_2, css_2, p_3⟩ m2 gg H55 pf_3
  clear H54
  replace H55 : Ya a0 t10 (it (fun next2 s => Ya a0 t10 next2 s.1 s.2.1 s.2.2) m2) x11_2 x12_2 l_3 = some r := H55
  generalize hn2 : it (fun next2 s => Ya a0 t10 next2 s.1 s.2.1 s.2.2) m2 = next2 at H55
  refine J8 [(0, .pointer (some ⟨pb0, 0, none⟩)), (3, .slice p_3.1 css_2.length p_3.2), (10, .slice p_2.1 t10.length p_2.2), (11, .int .i64 x11_2), (12, .int .i64 x12_2)] [Vh noH hp_2, Jz 3 1 (.slice p_2.1 t10.length p_2.2) t10.length (t10.map Z5), Jz 35 6 (.slice p_3.1 css_2.length p_3.2) css_2.length (css_2.map idC)] rfl rfl ?_
  refine Jf ?_
  refine Jb ?_
  refine Ja rfl rfl rfl (Zd rfl rfl) ?_
  refine Jg ?_
  refine W7 [0, 1, 2] [Vh noH hp_2, Jz 3 1 (.slice p_2.1 t10.length p_2.2) t10.length (t10.map Z5), Jz 35 6 (.slice p_3.1 css_2.length p_3.2) css_2.length (css_2.map idC)] rfl (by decide) ?_
  refine Jf ?_
  refine Qg (b := (decide (x12_2 < x11_2))) rfl (fun hb => ?_) (fun hb => ?_)
  ·have H56 := Jr hb H55; clear H55
   refine Jw ?_
   refine Xu (r := r) (σ := Int × Int × (List T_sync_Shown)) (τ := Qd × (List (List Value)) × (Option Addr × Nat)) (fun s => Vy next2 s.1 s.2.1 s.2.2) (fun s t => [(0, .pointer (some ⟨pb0, 0, none⟩)), (3, .slice t.2.2.1 t.2.1.length t.2.2.2), (10, .slice p_2.1 t10.length p_2.2), (11, .int .i64 s.1), (12, .int .i64 s.2.1)]) (fun s t => [Vh noH t.1, Jz 3 1 (.slice p_2.1 t10.length p_2.2) t10.length (t10.map Z5), Jz 35 6 (.slice t.2.2.1 t.2.1.length t.2.2.2) t.2.1.length (t.2.1.map idC)]) (fun s t => AllC g_sync_Shown t.1 6 t.2.1 s.2.2) ?_ ?_
   ·refine J5 ?_
    refine Jf ?_
    refine Jb ?_
    obtain ⟨t14, h_t14, H59⟩ := Ji H56; clear H56
    refine Qo (fun w hF hS => Y2 Tryz.underlying63 Tryz.sizeOf3 rfl rfl (W0 (i := 1) hS rfl) rfl h_t14) rfl rfl rfl ?_
    refine Qo (fun w hF hS => Wh (f := Z5) (i := x12_2) (sz := 1) (j := 0) (v := .int .i64 t14) Tryz.isAgg3 rfl rfl (W0 (i := 1) hS rfl) h_t14 rfl) rfl rfl rfl ?_
    refine Ja rfl rfl rfl (Jc (v := .int .i64 t14) rfl) ?_
    refine Jg ?_
    refine W7 [0, 1, 2] [Vh noH hp_2, Jz 3 1 (.slice p_2.1 t10.length p_2.2) t10.length (t10.map Z5), Jz 35 6 (.slice p_3.1 css_2.length p_3.2) css_2.length (css_2.map idC)] rfl (by decide) ?_
    refine Jf ?_
    refine Jb ?_
    refine Ja rfl rfl rfl (Je (v := .int .i64 t14) rfl) ?_
    refine Ja rfl rfl rfl (Je (v := .pointer (some ⟨pb0, 0, none⟩)) rfl) ?_
    refine Ja rfl rfl rfl (Je (v := .int .i64 t14) rfl) ?_
    obtain ⟨t19, h_t19, H60⟩ := Ji H59; clear H59
    refine Zq (Ql (rds := []) (G := fun x : (Option Addr × Nat) => .slice x.1 t19.length x.2) (C := fun x : (Option Addr × Nat) => Jz 45 8 (.slice x.1 t19.length x.2) t19.length (t19.map Jd)) (fun w L' hF hS hi => k26 (Jx w) (f0_2.mono (hw.now hF)) (hw.now hF _ _ hb0) h_t19) Tryz.call26 rfl) rfl rfl rfl (fun p_5 => ?_)
    obtain ⟨t20, h_t20, H61⟩ := Ji H60; clear H60
    refine Yv (fun w hF hS => k25 (Jx w) (frs_own (i := 3) rfl hS rfl) h_t20) Tryz.call25 rfl rfl rfl ?_
    refine Ja rfl rfl rfl (r_fieldV (v := str t20.Text) Tryz.runUnderlying45 Tryz.isAgg9 rfl rfl rfl) ?_
    refine Ja rfl rfl rfl (Je (v := .pointer (some ⟨pb0, 0, none⟩)) rfl) ?_
    refine Ja rfl rfl rfl (Je (v := .int .i64 t14) rfl) ?_
    obtain ⟨t24, h_t24, H62⟩ := Ji H61; clear H61
    refine Zq (Ql (rds := []) (G := fun x : (Option Addr × Nat) => .slice x.1 t24.length x.2) (C := fun x : (Option Addr × Nat) => Jz 45 8 (.slice x.1 t24.length x.2) t24.length (t24.map Jd)) (fun w L' hF hS hi => k26 (Jx w) (f0_2.mono (hw.now hF)) (hw.now hF _ _ hb0) h_t24) Tryz.call26 rfl) rfl rfl rfl (fun p_6 => ?_)
    obtain ⟨t25, h_t25, H63⟩ := Ji H62; clear H62
    refine Yv (fun w hF hS => k25 (Jx w) (frs_own (i := 4) rfl hS rfl) h_t25) Tryz.call25 rfl rfl rfl ?_
    refine Ja rfl rfl rfl (r_fieldV (v := .int .i64 t25.Num) Tryz.runUnderlying45 Tryz.isAgg3 rfl rfl rfl) ?_
    refine Ja rfl rfl rfl (Je (v := .pointer (some ⟨pb0, 0, none⟩)) rfl) ?_
    refine Ja rfl rfl rfl (Je (v := .int .i64 t14) rfl) ?_
    obtain ⟨t29, h_t29, H64⟩ := Ji H63; clear H63
    refine Zq (Ql (rds := []) (G := fun x : (Option Addr × Nat) => .slice x.1 t29.length x.2) (C := fun x : (Option Addr × Nat) => Jz 45 8 (.slice x.1 t29.length x.2) t29.length (t29.map Jd)) (fun w L' hF hS hi => k26 (Jx w) (f0_2.mono (hw.now hF)) (hw.now hF _ _ hb0) h_t29) Tryz.call26 rfl) rfl rfl rfl (fun p_7 => ?_)
    obtain ⟨t30, h_t30, H65⟩ := Ji H64; clear H64
    refine Yv (fun w hF hS => k25 (Jx w) (frs_own (i := 5) rfl hS rfl) h_t30) Tryz.call25 rfl rfl rfl ?_
    refine Ja rfl rfl rfl (r_fieldV (v := str t30.Text) Tryz.runUnderlying45 Tryz.isAgg9 rfl rfl rfl) ?_
    refine Ja rfl rfl rfl (Je (v := .pointer (some ⟨pb0, 0, none⟩)) rfl) ?_
    refine Ja rfl rfl rfl (Je (v := .int .i64 t14) rfl) ?_
    obtain ⟨t34, h_t34, H66⟩ := Ji H65; clear H65
    refine Zq (Ql (rds := []) (G := fun x : (Option Addr × Nat) => .slice x.1 t34.length x.2) (C := fun x : (Option Addr × Nat) => Jz 45 8 (.slice x.1 t34.length x.2) t34.length (t34.map Jd)) (fun w L' hF hS hi => k26 (Jx w) (f0_2.mono (hw.now hF)) (hw.now hF _ _ hb0) h_t34) Tryz.call26 rfl) rfl rfl rfl (fun p_8 => ?_)
    obtain ⟨t35, h_t35, H67⟩ := Ji H66; clear H66
    refine Yv (fun w hF hS => k25 (Jx w) (frs_own (i := 6) rfl hS rfl) h_t35) Tryz.call25 rfl rfl rfl ?_
    refine Ja rfl rfl rfl (r_fieldV (v := .int .i64 t35.Num) Tryz.runUnderlying45 Tryz.isAgg3 rfl rfl rfl) ?_
    refine Ja rfl rfl rfl (Xd rfl rfl) ?_
    refine Ja rfl rfl rfl (W4 (pl := #[(0, 1), (1, 1), (2, 1), (3, 1), (4, 1), (5, 1)]) (ps := [(0, .int .i64 t14), (1, str t20.Text), (2, .int .i64 t25.Num), (3, str t30.Text), (4, .bool (decide (t35.Num = 1)))]) (cells := #[.int .i64 t14, str t20.Text, .int .i64 t25.Num, str t30.Text, .bool (decide (t35.Num = 1)), .slice none 0 0]) Tryz.zeroValue35 Tryz.runUnderlying35 (fun w => by kernel_rfl) rfl rfl) ?_
    refine Zv (cs := [.int .i64 0, str [], .int .i64 0, str [], .bool false, .slice none 0 0]) Tryz.zeroValue35 rfl rfl rfl (fun b8 => ?_)
    refine Xt (i := 7) (vs := [.int .i64 t14, str t20.Text, .int .i64 t25.Num, str t30.Text, .bool (decide (t35.Num = 1)), .slice none 0 0]) (cs' := [.int .i64 t14, str t20.Text, .int .i64 t25.Num, str t30.Text, .bool (decide (t35.Num = 1)), .slice none 0 0]) Tryz.sizeOf35 rfl rfl rfl rfl rfl rfl rfl rfl rfl ?_
    refine Jg ?_
    refine W7 [0, 1, 2, 3, 4, 5, 6, 7] [Vh noH hp_2, Jz 3 1 (.slice p_2.1 t10.length p_2.2) t10.length (t10.map Z5), Jz 35 6 (.slice p_3.1 css_2.length p_3.2) css_2.length (css_2.map idC), Jz 45 8 (.slice p_5.1 t19.length p_5.2) t19.length (t19.map Jd), Jz 45 8 (.slice p_6.1 t24.length p_6.2) t24.length (t24.map Jd), Jz 45 8 (.slice p_7.1 t29.length p_7.2) t29.length (t29.map Jd), Jz 45 8 (.slice p_8.1 t34.length p_8.2) t34.length (t34.map Jd), Jl b8 [.int .i64 t14, str t20.Text, .int .i64 t25.Num, str t30.Text, .bool (decide (t35.Num = 1)), .slice none 0 0] 35] rfl (by decide) ?_
    refine Xu (r := r) (σ := (List (List UInt8))) (τ := (Option Addr × Nat)) (fun s => Zz x11_2 x12_2 l_3 next2 t14 t20 t25 t30 t35 s) (fun s t => [(0, .pointer (some ⟨pb0, 0, none⟩)), (3, .slice p_3.1 css_2.length p_3.2), (6, .pointer (some ⟨b8, 0, none⟩)), (10, .slice p_2.1 t10.length p_2.2), (11, .int .i64 x11_2), (12, .int .i64 x12_2)]) (fun s t => [Vh noH hp_2, Jz 3 1 (.slice p_2.1 t10.length p_2.2) t10.length (t10.map Z5), Jz 35 6 (.slice p_3.1 css_2.length p_3.2) css_2.length (css_2.map idC), Jl b8 [.int .i64 t14, str t20.Text, .int .i64 t25.Num, str t30.Text, .bool (decide (t35.Num = 1)), .slice t.1 s.length t.2] 35, Jz 9 1 (.slice t.1 s.length t.2) s.length (s.map Zh)]) (fun s t => True) ?_ ?_
    ·refine Jf ?_
     refine Jb ?_
     refine Ja rfl rfl rfl (Je (v := .pointer (some ⟨pb0, 0, none⟩)) rfl) ?_
     refine Ja rfl rfl rfl (Je (v := .int .i64 t14) rfl) ?_
     obtain ⟨t41, h_t41, H71⟩ := Ji H67; clear H67
     refine Zq (Ql (rds := []) (G := fun x : (Option Addr × Nat) => .slice x.1 t41.length x.2) (C := fun x : (Option Addr × Nat) => Jz 45 8 (.slice x.1 t41.length x.2) t41.length (t41.map Jd)) (fun w L' hF hS hi => k26 (Jx w) (f0_2.mono (hw.now hF)) (hw.now hF _ _ hb0) h_t41) Tryz.call26 rfl) rfl rfl rfl (fun p_12 => ?_)
     refine Ja rfl rfl rfl (U5 Tryz.underlying58 rfl) ?_
     refine Ja rfl rfl rfl (Je (v := .int .i64 0) rfl) ?_
     refine Jg ?_
     refine W7 [0, 1, 2, 3, 4, 5, 6, 7, 8] [Vh noH hp_2, Jz 3 1 (.slice p_2.1 t10.length p_2.2) t10.length (t10.map Z5), Jz 35 6 (.slice p_3.1 css_2.length p_3.2) css_2.length (css_2.map idC), Jz 45 8 (.slice p_5.1 t19.length p_5.2) t19.length (t19.map Jd), Jz 45 8 (.slice p_6.1 t24.length p_6.2) t24.length (t24.map Jd), Jz 45 8 (.slice p_7.1 t29.length p_7.2) t29.length (t29.map Jd), Jz 45 8 (.slice p_8.1 t34.length p_8.2) t34.length (t34.map Jd), Jl b8 [.int .i64 t14, str t20.Text, .int .i64 t25.Num, str t30.Text, .bool (decide (t35.Num = 1)), .slice none 0 0] 35, Jz 45 8 (.slice p_12.1 t41.length p_12.2) t41.length (t41.map Jd)] rfl (by decide) ?_
     refine J5 ?_
     refine W7 [0, 1, 2, 7, 8] [Vh noH hp_2, Jz 3 1 (.slice p_2.1 t10.length p_2.2) t10.length (t10.map Z5), Jz 35 6 (.slice p_3.1 css_2.length p_3.2) css_2.length (css_2.map idC), Jl b8 [.int .i64 t14, str t20.Text, .int .i64 t25.Num, str t30.Text, .bool (decide (t35.Num = 1)), .slice none 0 0] 35, Jz 45 8 (.slice p_12.1 t41.length p_12.2) t41.length (t41.map Jd)] rfl (by decide) ?_
     refine c_nilRow 9 1 ?_
     refine Vn (σ := Int × (List (List UInt8))) (τ := (Option Addr × Nat)) (fun next5 s => Xk x11_2 x12_2 l_3 next2 t14 t20 t25 t30 t35 t41 next5 s.1 s.2) (fun s t => [(0, .pointer (some ⟨pb0, 0, none⟩)), (3, .slice p_3.1 css_2.length p_3.2), (6, .pointer (some ⟨b8, 0, none⟩)), (10, .slice p_2.1 t10.length p_2.2), (11, .int .i64 x11_2), (12, .int .i64 x12_2), (41, .slice p_12.1 t41.length p_12.2), (42, .int .i64 (t41.length : Int)), (43, .int .i64 s.1)]) (fun s t => [Vh noH hp_2, Jz 3 1 (.slice p_2.1 t10.length p_2.2) t10.length (t10.map Z5), Jz 35 6 (.slice p_3.1 css_2.length p_3.2) css_2.length (css_2.map idC), Jl b8 [.int .i64 t14, str t20.Text, .int .i64 t25.Num, str t30.Text, .bool (decide (t35.Num = 1)), .slice t.1 s.2.length t.2] 35, Jz 45 8 (.slice p_12.1 t41.length p_12.2) t41.length (t41.map Jd), Jz 9 1 (.slice t.1 s.2.length t.2) s.2.length (s.2.map Zh)]) (fun s t => True) (0, ([] : List (List UInt8))) ((none, 0) : Option Addr × Nat) [0, 1, 2, 3, 4, 5] H71 (by exact trivial) (by exact ⟨rfl, rfl, rfl, rfl, rfl, rfl, rfl, rfl, rfl, trivial⟩) (by decide) rfl ?_
     rintro ⟨x43_2, l_7⟩ p_13 m5 gg H72 _
     clear H71
     replace H72 : Xk x11_2 x12_2 l_3 next2 t14 t20 t25 t30 t35 t41 (it (fun next5 s => Xk x11_2 x12_2 l_3 next2 t14 t20 t25 t30 t35 t41 next5 s.1 s.2) m5) x43_2 l_7 = some r := H72
     generalize hn5 : it (fun next5 s => Xk x11_2 x12_2 l_3 next2 t14 t20 t25 t30 t35 t41 next5 s.1 s.2) m5 = next5 at H72
     refine J8 [(0, .pointer (some ⟨pb0, 0, none⟩)), (3, .slice p_3.1 css_2.length p_3.2), (6, .pointer (some ⟨b8, 0, none⟩)), (10, .slice p_2.1 t10.length p_2.2), (11, .int .i64 x11_2), (12, .int .i64 x12_2), (41, .slice p_12.1 t41.length p_12.2), (42, .int .i64 (t41.length : Int)), (43, .int .i64 x43_2)] [Vh noH hp_2, Jz 3 1 (.slice p_2.1 t10.length p_2.2) t10.length (t10.map Z5), Jz 35 6 (.slice p_3.1 css_2.length p_3.2) css_2.length (css_2.map idC), Jl b8 [.int .i64 t14, str t20.Text, .int .i64 t25.Num, str t30.Text, .bool (decide (t35.Num = 1)), .slice p_13.1 l_7.length p_13.2] 35, Jz 45 8 (.slice p_12.1 t41.length p_12.2) t41.length (t41.map Jd), Jz 9 1 (.slice p_13.1 l_7.length p_13.2) l_7.length (l_7.map Zh)] rfl rfl ?_
     refine Jf ?_
     refine Jb ?_
     refine Ja rfl rfl rfl (Zd rfl rfl) ?_
     refine Jg ?_
     refine W7 [0, 1, 2, 3, 4, 5] [Vh noH hp_2, Jz 3 1 (.slice p_2.1 t10.length p_2.2) t10.length (t10.map Z5), Jz 35 6 (.slice p_3.1 css_2.length p_3.2) css_2.length (css_2.map idC), Jl b8 [.int .i64 t14, str t20.Text, .int .i64 t25.Num, str t30.Text, .bool (decide (t35.Num = 1)), .slice p_13.1 l_7.length p_13.2] 35, Jz 45 8 (.slice p_12.1 t41.length p_12.2) t41.length (t41.map Jd), Jz 9 1 (.slice p_13.1 l_7.length p_13.2) l_7.length (l_7.map Zh)] rfl (by decide) ?_
     refine Jf ?_
     refine Qg (b := (decide (x43_2 < (t41.length : Int)))) rfl (fun hb => ?_) (fun hb => ?_)
     ·have H73 := Jr hb H72; clear H72
      refine Jw ?_
      refine Jf ?_
      refine J5 ?_
      refine Jf ?_
      refine Jb ?_
      obtain ⟨t45, h_t45, H74⟩ := Ji H73; clear H73
      refine Qo (fun w hF hS => Y2 Tryz.underlying58 Tryz.sizeOf45 rfl rfl (W0 (i := 4) hS rfl) rfl h_t45) rfl rfl rfl ?_
      refine Qo (fun w hF hS => X4 (f := Jd) (i := x43_2) (sz := 8) (j := 0) (vs := [.int .i64 t45.Dot.Device, .int .i64 t45.Dot.N, .int .i64 t45.Time, .int .i64 t45.Kind, .int .i64 t45.Id, str t45.Name, .int .i64 t45.Num, str t45.Text]) Tryz.isAgg45 Tryz.sizeOf45 rfl rfl (W0 (i := 4) hS rfl) h_t45 rfl) rfl rfl rfl ?_
      refine Zv (cs := [.int .i64 0, .int .i64 0, .int .i64 0, .int .i64 0, .int .i64 0, str [], .int .i64 0, str []]) Tryz.zeroValue45 rfl rfl rfl (fun b10 => ?_)
      refine Xt (i := 6) (vs := [.int .i64 t45.Dot.Device, .int .i64 t45.Dot.N, .int .i64 t45.Time, .int .i64 t45.Kind, .int .i64 t45.Id, str t45.Name, .int .i64 t45.Num, str t45.Text]) (cs' := [.int .i64 t45.Dot.Device, .int .i64 t45.Dot.N, .int .i64 t45.Time, .int .i64 t45.Kind, .int .i64 t45.Id, str t45.Name, .int .i64 t45.Num, str t45.Text]) Tryz.sizeOf45 rfl rfl rfl rfl rfl rfl rfl rfl rfl ?_
      refine Jg ?_
      refine W7 [0, 1, 2, 3, 4, 5, 6] [Vh noH hp_2, Jz 3 1 (.slice p_2.1 t10.length p_2.2) t10.length (t10.map Z5), Jz 35 6 (.slice p_3.1 css_2.length p_3.2) css_2.length (css_2.map idC), Jl b8 [.int .i64 t14, str t20.Text, .int .i64 t25.Num, str t30.Text, .bool (decide (t35.Num = 1)), .slice p_13.1 l_7.length p_13.2] 35, Jz 45 8 (.slice p_12.1 t41.length p_12.2) t41.length (t41.map Jd), Jz 9 1 (.slice p_13.1 l_7.length p_13.2) l_7.length (l_7.map Zh), Jl b10 [.int .i64 t45.Dot.Device, .int .i64 t45.Dot.N, .int .i64 t45.Time, .int .i64 t45.Kind, .int .i64 t45.Id, str t45.Name, .int .i64 t45.Num, str t45.Text] 45] rfl (by decide) ?_
      refine Jb ?_
      refine Ja rfl rfl rfl (Jo Tryz.runUnderlying35 rfl Tryz.sizeOf33 rfl rfl) ?_
      refine Jv (i := 3) (v := .slice p_13.1 l_7.length p_13.2) Tryz.isAgg33 rfl rfl rfl rfl rfl ?_
      refine Ja rfl rfl rfl (Jo Tryz.runUnderlying45 rfl Tryz.sizeOf9 rfl rfl) ?_
      refine Jv (i := 6) (v := str t45.Name) Tryz.isAgg9 rfl rfl rfl rfl rfl ?_
      refine Y8 (vs := [str t45.Name]) (cs := [str t45.Name]) Tryz.underlying33 Tryz.sizeOf9 Tryz.zeroValue9 rfl rfl rfl rfl rfl rfl rfl (fun b11 => ?_)
      obtain ⟨l52, h_l52, H75⟩ := Ji H74; clear H74
      refine Q4 (Wi (i := 5) (hn := rfl) (rds := [7]) (p := p_13) (sz := 1) (by_ := 16) (f := Zh) (ys := l_7) (ls := ([t45.Name] : List (List UInt8))) (V := .slice (some ⟨b11, 0, none⟩) 1 1) Tryz.underlying33 (Jae Tryz.typeInfo9) rfl rfl rfl rfl rfl rfl rfl rfl rfl rfl (fun w L' hF hS hi => row_box (i := 7) hS ((hi 7 (by simp)).trans rfl) rfl rfl) (fun _ => rfl) (fun _ => rfl) h_l52) rfl rfl rfl (fun p_14 => ?_)
      refine Ja rfl rfl rfl (Jo Tryz.runUnderlying35 rfl Tryz.sizeOf33 rfl rfl) ?_
      refine Xt (i := 3) (vs := [.slice p_14.1 l52.length p_14.2]) (cs' := [.int .i64 t14, str t20.Text, .int .i64 t25.Num, str t30.Text, .bool (decide (t35.Num = 1)), .slice p_14.1 l52.length p_14.2]) Tryz.sizeOf33 rfl rfl rfl rfl rfl rfl rfl rfl rfl ?_
      refine Jg ?_
      refine W7 [0, 1, 2, 3, 4, 5, 6, 7] [Vh noH hp_2, Jz 3 1 (.slice p_2.1 t10.length p_2.2) t10.length (t10.map Z5), Jz 35 6 (.slice p_3.1 css_2.length p_3.2) css_2.length (css_2.map idC), Jl b8 [.int .i64 t14, str t20.Text, .int .i64 t25.Num, str t30.Text, .bool (decide (t35.Num = 1)), .slice p_14.1 l52.length p_14.2] 35, Jz 45 8 (.slice p_12.1 t41.length p_12.2) t41.length (t41.map Jd), Jz 9 1 (.slice p_14.1 l52.length p_14.2) l52.length (l52.map Zh), Jl b10 [.int .i64 t45.Dot.Device, .int .i64 t45.Dot.N, .int .i64 t45.Time, .int .i64 t45.Kind, .int .i64 t45.Id, str t45.Name, .int .i64 t45.Num, str t45.Text] 45, Jl b11 [str t45.Name] 9] rfl (by decide) ?_
      refine Jb ?_
      obtain ⟨t54, h_t54, H76⟩ := Ji H75; clear H75
      refine Ja rfl rfl rfl (Yj rfl rfl h_t54) ?_
      refine Ja rfl rfl rfl (Je (v := .int .i64 t54) rfl) ?_
      refine Jg ?_
      refine W7 [0, 1, 2, 3, 4, 5, 6, 7] [Vh noH hp_2, Jz 3 1 (.slice p_2.1 t10.length p_2.2) t10.length (t10.map Z5), Jz 35 6 (.slice p_3.1 css_2.length p_3.2) css_2.length (css_2.map idC), Jl b8 [.int .i64 t14, str t20.Text, .int .i64 t25.Num, str t30.Text, .bool (decide (t35.Num = 1)), .slice p_14.1 l52.length p_14.2] 35, Jz 45 8 (.slice p_12.1 t41.length p_12.2) t41.length (t41.map Jd), Jz 9 1 (.slice p_14.1 l52.length p_14.2) l52.length (l52.map Zh), Jl b10 [.int .i64 t45.Dot.Device, .int .i64 t45.Dot.N, .int .i64 t45.Time, .int .i64 t45.Kind, .int .i64 t45.Id, str t45.Name, .int .i64 t45.Num, str t45.Text] 45, Jl b11 [str t45.Name] 9] rfl (by decide) ?_
      refine Js (t54, l52) p_14 m5 [0, 1, 2, 3, 4, 5] (by exact ⟨rfl, rfl, rfl, rfl, rfl, rfl, rfl, rfl, rfl, trivial⟩) (by decide) rfl (by exact ⟨(by subst hn5; exact H76), trivial⟩) (Nat.lt_succ_self _)
     ·have H77 := Jq hb H72; clear H72
      refine Xi ?_
      refine Js l_7 p_13 0 [0, 1, 2, 3, 5] (by exact ⟨rfl, rfl, rfl, rfl, rfl, rfl, trivial⟩) (by decide) rfl (by exact ⟨H77, trivial⟩) (Nat.lt_succ_self _)
    ·rintro l_5 p_9 gg H68 _
     replace H68 : Zz x11_2 x12_2 l_3 next2 t14 t20 t25 t30 t35 l_5 = some r := H68
     refine J8 [(0, .pointer (some ⟨pb0, 0, none⟩)), (3, .slice p_3.1 css_2.length p_3.2), (6, .pointer (some ⟨b8, 0, none⟩)), (10, .slice p_2.1 t10.length p_2.2), (11, .int .i64 x11_2), (12, .int .i64 x12_2)] [Vh noH hp_2, Jz 3 1 (.slice p_2.1 t10.length p_2.2) t10.length (t10.map Z5), Jz 35 6 (.slice p_3.1 css_2.length p_3.2) css_2.length (css_2.map idC), Jl b8 [.int .i64 t14, str t20.Text, .int .i64 t25.Num, str t30.Text, .bool (decide (t35.Num = 1)), .slice p_9.1 l_5.length p_9.2] 35, Jz 9 1 (.slice p_9.1 l_5.length p_9.2) l_5.length (l_5.map Zh)] rfl rfl ?_
     refine Jf ?_
     refine Jb ?_
     refine Ja rfl rfl rfl (Jo Tryz.runUnderlying35 rfl Tryz.sizeOf33 rfl rfl) ?_
     refine Jv (i := 3) (v := .slice p_9.1 l_5.length p_9.2) Tryz.isAgg33 rfl rfl rfl rfl rfl ?_
     obtain ⟨t57, h_t57, H69⟩ := Ji H68; clear H68
     refine Q4 (J6 (i := 4) (rds := []) (G := fun x : (Option Addr × Nat) => .slice x.1 t57.length x.2) (C := fun x : (Option Addr × Nat) => Jz 9 1 (.slice x.1 t57.length x.2) t57.length (t57.map Zh)) rfl (fun w L' S hF hS hi hp hlt ho hA => k28 hp hlt (Qn w S) rfl h_t57) Tryz.call28 rfl) rfl rfl rfl (fun p_10 => ?_)
     refine Yv (fun w hF hS => k27 (capOf (i := 4) hS rfl) w) Tryz.call27 rfl rfl rfl ?_
     refine Ja rfl rfl rfl (Jo Tryz.runUnderlying35 rfl Tryz.sizeOf33 rfl rfl) ?_
     refine Xt (i := 3) (vs := [.slice (Yq p_10.1 0 t57.length 1) t57.length t57.length]) (cs' := [.int .i64 t14, str t20.Text, .int .i64 t25.Num, str t30.Text, .bool (decide (t35.Num = 1)), .slice (Yq p_10.1 0 t57.length 1) t57.length t57.length]) Tryz.sizeOf33 rfl rfl rfl rfl rfl rfl rfl rfl rfl ?_
     refine Jg ?_
     refine W7 [0, 1, 2, 3, 4] [Vh noH hp_2, Jz 3 1 (.slice p_2.1 t10.length p_2.2) t10.length (t10.map Z5), Jz 35 6 (.slice p_3.1 css_2.length p_3.2) css_2.length (css_2.map idC), Jl b8 [.int .i64 t14, str t20.Text, .int .i64 t25.Num, str t30.Text, .bool (decide (t35.Num = 1)), .slice (Yq p_10.1 0 t57.length 1) t57.length t57.length] 35, Jz 9 1 (.slice p_10.1 t57.length p_10.2) t57.length (t57.map Zh)] rfl (by decide) ?_
     refine Jb ?_
     refine Ja rfl rfl rfl (Je (v := .slice p_3.1 css_2.length p_3.2) rfl) ?_
     refine Ym (i := 3) (vs := [.int .i64 t14, str t20.Text, .int .i64 t25.Num, str t30.Text, .bool (decide (t35.Num = 1)), .slice (Yq p_10.1 0 t57.length 1) t57.length t57.length]) Tryz.isAgg35 Tryz.sizeOf35 rfl rfl rfl rfl rfl ?_
     refine Y8 (vs := [.agg #[.int .i64 t14, str t20.Text, .int .i64 t25.Num, str t30.Text, .bool (decide (t35.Num = 1)), .slice (Yq p_10.1 0 t57.length 1) t57.length t57.length]]) (cs := [.int .i64 t14, str t20.Text, .int .i64 t25.Num, str t30.Text, .bool (decide (t35.Num = 1)), .slice (Yq p_10.1 0 t57.length 1) t57.length t57.length]) Tryz.underlying32 Tryz.sizeOf35 Tryz.zeroValue35 rfl rfl rfl rfl rfl rfl rfl (fun b9 => ?_)
     refine Ww 4 rfl (imp_clipO _ _ _ _ _ _) ?_
     refine c_freeze (Φ := fun H_ => FrS H_ 1 (.slice (Yq p_10.1 0 t57.length 1) t57.length t57.length) (t57.map Zh)) 0 4 rfl rfl (by decide) (fun _ _ => noH_le) (fz_ro _) (fun hp_4 hle hf => ?_)
     obtain ⟨l63, h_l63, H70⟩ := Ji H69; clear H69
     refine Q4 (turns_appendM (i := 2) (k := 5) (p := p_3) (f := idC) (ys := css_2) (ls := [[.int .i64 t14, str t20.Text, .int .i64 t25.Num, str t30.Text, .bool (decide (t35.Num = 1)), .slice (Yq p_10.1 0 t57.length 1) t57.length t57.length]]) Tryz.underlying32 (Jae Tryz.typeInfo35) rfl rfl rfl rfl rfl rfl rfl rfl rfl rfl rfl rfl rfl rfl (by simp only [idC, List.map_cons, List.map_nil, List.all_cons, List.all_nil, hf.one] <;> rfl) (app63 ((pf_3.mono hle).app h_l63 (nc := [[.int .i64 t14, str t20.Text, .int .i64 t25.Num, str t30.Text, .bool (decide (t35.Num = 1)), .slice (Yq p_10.1 0 t57.length 1) t57.length t57.length]]) rfl)) rfl) rfl rfl rfl (fun p_11 => ?_)
     have pf_5 : AllC g_sync_Shown hp_4 6 (css_2 ++ [[.int .i64 t14, str t20.Text, .int .i64 t25.Num, str t30.Text, .bool (decide (t35.Num = 1)), .slice (Yq p_10.1 0 t57.length 1) t57.length t57.length]]) l63 := AllC.snocG (pf_3.mono hle) h_l63 rfl (⟨rfl, rfl, rfl, rfl, rfl, hf⟩)
     refine Ja rfl rfl rfl (Jc (v := .slice p_11.1 ((css_2 ++ [[.int .i64 t14, str t20.Text, .int .i64 t25.Num, str t30.Text, .bool (decide (t35.Num = 1)), .slice (Yq p_10.1 0 t57.length 1) t57.length t57.length]]).length) p_11.2) rfl) ?_
     refine Jg ?_
     refine W7 [0, 1, 2, 3, 4, 5] [Vh noH hp_4, Jz 3 1 (.slice p_2.1 t10.length p_2.2) t10.length (t10.map Z5), Jz 35 6 (.slice p_11.1 ((css_2 ++ [[.int .i64 t14, str t20.Text, .int .i64 t25.Num, str t30.Text, .bool (decide (t35.Num = 1)), .slice (Yq p_10.1 0 t57.length 1) t57.length t57.length]]).length) p_11.2) ((css_2 ++ [[.int .i64 t14, str t20.Text, .int .i64 t25.Num, str t30.Text, .bool (decide (t35.Num = 1)), .slice (Yq p_10.1 0 t57.length 1) t57.length t57.length]]).length) ((css_2 ++ [[.int .i64 t14, str t20.Text, .int .i64 t25.Num, str t30.Text, .bool (decide (t35.Num = 1)), .slice (Yq p_10.1 0 t57.length 1) t57.length t57.length]]).map idC), Jl b8 [.int .i64 t14, str t20.Text, .int .i64 t25.Num, str t30.Text, .bool (decide (t35.Num = 1)), (.slice (Yq p_10.1 0 t57.length 1) t57.length t57.length)] 35, _, Jl b9 [.int .i64 t14, str t20.Text, .int .i64 t25.Num, str t30.Text, .bool (decide (t35.Num = 1)), .slice (Yq p_10.1 0 t57.length 1) t57.length t57.length] 35] rfl (by decide) ?_
     refine Js (x11_2, x12_2, l63) (hp_4, (css_2 ++ [[.int .i64 t14, str t20.Text, .int .i64 t25.Num, str t30.Text, .bool (decide (t35.Num = 1)), .slice (Yq p_10.1 0 t57.length 1) t57.length t57.length]]), p_11) 0 [0, 1, 2] (by exact ⟨rfl, rfl, rfl, rfl, rfl, trivial⟩) (by decide) rfl (by exact ⟨H70, pf_5⟩) (Nat.lt_succ_self _)
   ·rintro ⟨x11_3, x12_3, l_4⟩ ⟨hp_3, css_3, p_4⟩ gg H57 pf_4
    replace H57 : Vy next2 x11_3 x12_3 l_4 = some r := H57
    refine J8 [(0, .pointer (some ⟨pb0, 0, none⟩)), (3, .slice p_4.1 css_3.length p_4.2), (10, .slice p_2.1 t10.length p_2.2), (11, .int .i64 x11_3), (12, .int .i64 x12_3)] [Vh noH hp_3, Jz 3 1 (.slice p_2.1 t10.length p_2.2) t10.length (t10.map Z5), Jz 35 6 (.slice p_4.1 css_3.length p_4.2) css_3.length (css_3.map idC)] rfl rfl ?_
    refine Jb ?_
    obtain ⟨t64, h_t64, H58⟩ := Ji H57; clear H57
    refine Ja rfl rfl rfl (Yj rfl rfl h_t64) ?_
    refine Ja rfl rfl rfl (Je (v := .int .i64 t64) rfl) ?_
    refine Jg ?_
    refine W7 [0, 1, 2] [Vh noH hp_3, Jz 3 1 (.slice p_2.1 t10.length p_2.2) t10.length (t10.map Z5), Jz 35 6 (.slice p_4.1 css_3.length p_4.2) css_3.length (css_3.map idC)] rfl (by decide) ?_
    refine Js (x11_3, t64, l_4) (hp_3, css_3, p_4) m2 [0, 1, 2] (by exact ⟨rfl, rfl, rfl, rfl, rfl, trivial⟩) (by decide) rfl (by exact ⟨(by subst hn2; exact H58), pf_4⟩) (Nat.lt_succ_self _)
  ·have H78 := Jq hb H55; clear H55
   refine Xi ?_
   refine Js l_3 (hp_2, css_2, p_3) 0 [0, 2] (by exact ⟨rfl, trivial⟩) (by decide) rfl (by exact ⟨H78, pf_3⟩) (Nat.lt_succ_self _)
 ·rintro l ⟨hp, css, p⟩ gg H53 pf
  replace H53 : W9 l = some r := H53
  refine J8 [(3, .slice p.1 css.length p.2)] [Vh noH hp, Jz 35 6 (.slice p.1 css.length p.2) css.length (css.map idC)] rfl rfl ?_
  refine Jf ?_
  refine Jb ?_
  refine Ja rfl rfl rfl (Je (v := .slice p.1 css.length p.2) rfl) ?_
  refine Yv (fun w hF hS => k29 (capOf (i := 1) hS rfl) w) Tryz.call29 rfl rfl rfl ?_
  refine Ja rfl rfl rfl (Jc (v := .slice (Yq p.1 0 css.length 6) css.length css.length) rfl) ?_
  refine Jg ?_
  refine Jp ?_
  obtain rfl := Option.some.inj H53
  refine Ww 1 rfl (imp_clipO _ _ _ _ _ _) ?_
  refine Qa 0 1 rfl rfl (by decide) ?_
  refine Ww 0 rfl (imp_roD (p := (Yq p.1 0 css.length 6, css.length)) rfl pf) ?_
  refine J3 (v := .slice (Yq p.1 0 css.length 6) css.length css.length) rfl rfl (Yk (Yq p.1 0 css.length 6, css.length) (i := 0) rfl (by first | rfl | rw [(show css.length = l.length from pf.len)]) (by first | exact Imp.refl _ | exact Imp.of (by rw [(show css.length = l.length from pf.len)])))
end Go.Proofs.YtajcmignhnbmiaaGreatDoor

/- SyncStays, the law: the walks, printed by our generator; each follows its model. Conditions: the model yields a value. -/
namespace Go.Proofs.YtajcmignhnbmiaaGreatDoor
open Go Go.Vc Go.Md Go.M Go.Lx
set_option maxRecDepth 100000
set_option maxHeartbeats 4000000
set_option linter.unusedVariables false
theorem k14 {a0 : T_sync_Fact} {r : Int} (H : sync_CheckFact a0 = some r) : Ret Tryz.prog 14 [.agg #[.int .i64 a0.Dot.Device, .int .i64 a0.Dot.N, .int .i64 a0.Time, .int .i64 a0.Kind, .int .i64 a0.Id, str a0.Name, .int .i64 a0.Num, str a0.Text]] (.int .i64 r) := by
 refine Qx (n := 20) Tryz.func14 rfl rfl rfl (fun wd => ?_)
 refine Jf ?_
 refine Jb ?_
 refine Zo (cs := [.int .i64 a0.Dot.Device, .int .i64 a0.Dot.N, .int .i64 a0.Time, .int .i64 a0.Kind, .int .i64 a0.Id, str a0.Name, .int .i64 a0.Num, str a0.Text]) rfl rfl rfl rfl (fun b1 => ?_)
 refine Ja rfl rfl rfl (Jc (v := .int .i64 0) rfl) ?_
 refine Jg ?_
 refine Jf ?_
 refine Jf ?_
 refine Jb ?_
 refine Ja rfl rfl rfl (Jo Tryz.runUnderlying45 rfl Tryz.sizeOf43 rfl rfl) ?_
 refine Ja rfl rfl rfl (Jo Tryz.runUnderlying43 rfl Tryz.sizeOf3 rfl rfl) ?_
 refine Jv (i := 0) (v := .int .i64 a0.Dot.Device) Tryz.isAgg3 rfl rfl rfl rfl rfl ?_
 obtain ⟨t6, h_t6, H11⟩ := Ji H; clear H
 refine Q5 (k31 h_t6) Tryz.call31 rfl rfl rfl ?_
 refine Ja rfl rfl rfl (Je (v := .bool t6) rfl) ?_
 refine split (fun hb => ?_) (fun hb => ?_)
 ·have H12 := Jr hb H11; clear H11
  refine Jk rfl rfl rfl ?_
  refine Jk rfl rfl rfl ?_
  refine Jk rfl rfl rfl ?_
  refine Jk rfl rfl rfl ?_
  refine Ja rfl rfl rfl (J7 (v := .bool true) rfl rfl) ?_
  refine Ja rfl rfl rfl (Je (v := .bool true) rfl) ?_
  refine Jk rfl rfl rfl ?_
  refine Jk rfl rfl rfl ?_
  refine Jk rfl rfl rfl ?_
  refine Ja rfl rfl rfl (J7 (v := .bool true) rfl rfl) ?_
  refine Jg ?_
  refine U3 rfl ?_
  refine Jf ?_
  refine Jb ?_
  refine Ja rfl rfl rfl (Jc (v := .int .i64 2) rfl) ?_
  refine Jg ?_
  refine Jp ?_
  obtain rfl := Option.some.inj H12
  refine J3 (v := .int .i64 2) rfl rfl (Yd rfl)
 ·have H13 := Jq hb H11; clear H11
  refine Ja rfl rfl rfl (Jo Tryz.runUnderlying45 rfl Tryz.sizeOf43 rfl rfl) ?_
  refine Ja rfl rfl rfl (Jo Tryz.runUnderlying43 rfl Tryz.sizeOf3 rfl rfl) ?_
  refine Jv (i := 0) (v := .int .i64 a0.Dot.N) Tryz.isAgg3 rfl rfl rfl rfl rfl ?_
  obtain ⟨t11, h_t11, H14⟩ := Ji H13; clear H13
  refine Q5 (k31 h_t11) Tryz.call31 rfl rfl rfl ?_
  refine Ja rfl rfl rfl (J1 (v := .bool t11) rfl rfl) ?_
  refine Ja rfl rfl rfl (Je (v := .bool t11) rfl) ?_
  refine split (fun hb => ?_) (fun hb => ?_)
  ·have H15 := Jr hb H14; clear H14
   refine Jk rfl rfl rfl ?_
   refine Jk rfl rfl rfl ?_
   refine Jk rfl rfl rfl ?_
   refine Ja rfl rfl rfl (J7 (v := .bool true) rfl rfl) ?_
   refine Jg ?_
   refine U3 rfl ?_
   refine Jf ?_
   refine Jb ?_
   refine Ja rfl rfl rfl (Jc (v := .int .i64 2) rfl) ?_
   refine Jg ?_
   refine Jp ?_
   obtain rfl := Option.some.inj H15
   refine J3 (v := .int .i64 2) rfl rfl (Yd rfl)
  ·have H16 := Jq hb H14; clear H14
   refine Ja rfl rfl rfl (Jo Tryz.runUnderlying45 rfl Tryz.sizeOf3 rfl rfl) ?_
   refine Jv (i := 0) (v := .int .i64 a0.Time) Tryz.isAgg3 rfl rfl rfl rfl rfl ?_
   obtain ⟨t16, h_t16, H17⟩ := Ji H16; clear H16
   refine Q5 (k31 h_t16) Tryz.call31 rfl rfl rfl ?_
   refine Ja rfl rfl rfl (J1 (v := .bool t16) rfl rfl) ?_
   refine Jg ?_
   refine Qg (b := t16) rfl (fun hb => ?_) (fun hb => ?_)
   ·have H18 := Jr hb H17; clear H17
    refine Jf ?_
    refine Jb ?_
    refine Ja rfl rfl rfl (Jc (v := .int .i64 2) rfl) ?_
    refine Jg ?_
    refine Jp ?_
    obtain rfl := Option.some.inj H18
    refine J3 (v := .int .i64 2) rfl rfl (Yd rfl)
   ·have H19 := Jq hb H17; clear H17
    refine Jw ?_
    refine Jf ?_
    refine Jb ?_
    refine Ym (i := 0) (vs := [.int .i64 a0.Dot.Device, .int .i64 a0.Dot.N, .int .i64 a0.Time, .int .i64 a0.Kind, .int .i64 a0.Id, str a0.Name, .int .i64 a0.Num, str a0.Text]) Tryz.isAgg45 Tryz.sizeOf45 rfl rfl rfl rfl rfl ?_
    obtain ⟨t19, h_t19, H20⟩ := Ji H19; clear H19
    refine Q5 (k32 h_t19) Tryz.call32 rfl rfl rfl ?_
    refine Ja rfl rfl rfl (Jc (v := .int .i64 t19) rfl) ?_
    refine Jg ?_
    refine Jp ?_
    obtain rfl := Option.some.inj H20
    refine J3 (v := .int .i64 t19) rfl rfl (Yd rfl)
theorem k4 {r : Bool} (H : Jan = some r) : Ret Tryz.prog 4 [] (.bool r) := by
 refine Qx (n := 4) Tryz.func4 rfl rfl rfl (fun wd => ?_)
 refine Jf ?_
 refine Jb ?_
 refine Ja rfl rfl rfl (Jc (v := .bool false) rfl) ?_
 refine Jg ?_
 refine Jf ?_
 refine Jb ?_
 refine Ja rfl rfl rfl (W4 (pl := #[(0, 2), (2, 1), (3, 1), (4, 1), (5, 1), (6, 1), (7, 1)]) (ps := []) (cells := #[.int .i64 0, .int .i64 0, .int .i64 0, .int .i64 0, .int .i64 0, str [], .int .i64 0, str []]) Tryz.zeroValue45 Tryz.runUnderlying45 (fun w => by kernel_rfl) rfl rfl) ?_
 obtain ⟨t2, h_t2, H2⟩ := Ji H; clear H
 refine Q5 (k14 h_t2) Tryz.call14 rfl rfl rfl ?_
 refine Ja rfl rfl rfl (Xd rfl rfl) ?_
 refine Ja rfl rfl rfl (Jc (v := .bool (decide (t2 = 2))) rfl) ?_
 refine Jg ?_
 refine Jp ?_
 obtain rfl := Option.some.inj H2
 refine J3 (v := .bool (decide (t2 = 2))) rfl rfl (Yd rfl)
theorem k15 {a0 : Int} {r : (Option T_sync_Replica) × Int} {w : World} {h : Qd} (hw : Know h w Vd) (H : sync_New a0 = some r) : Does Tryz.prog 15 (List.toArray [.int .i64 a0]) w (fun v w' => ∃ x : Nat × (Option Addr × Nat), v = (.tuple #[optP r.1 x.1, .int .i64 r.2]) ∧ Turn w w' Vd (obxC (optP r.1 x.1) r.1 x.1 (fun z : T_sync_Replica => J0 (Jl x.1 [.int .i64 z.device_, .int .i64 (z.knows_ 0), .int .i64 (z.knows_ 1), .int .i64 (z.knows_ 2), .int .i64 (z.knows_ 3), .int .i64 (z.knows_ 4), .int .i64 (z.knows_ 5), .int .i64 (z.knows_ 6), .int .i64 (z.knows_ 7), .int .i64 (z.knows_ 8), .int .i64 (z.knows_ 9), .int .i64 (z.knows_ 10), .int .i64 (z.knows_ 11), .int .i64 (z.knows_ 12), .int .i64 (z.knows_ 13), .int .i64 (z.knows_ 14), .int .i64 (z.knows_ 15), .slice x.2.1 z.facts_.length x.2.2] 60) (J2 45 8 (.slice x.2.1 z.facts_.length x.2.2) z.facts_.length (z.facts_.map Jd))))) := by
 refine enter (n := 9) Tryz.func15 rfl rfl rfl Vd [] (Sat.nil _ _) ?_
 refine Jf ?_
 refine Jb ?_
 refine Ja rfl rfl rfl (Jc (v := .pointer none) rfl) ?_
 refine Ja rfl rfl rfl (Jc (v := .int .i64 0) rfl) ?_
 refine Jg ?_
 refine Jf ?_
 refine Jf ?_
 refine Jb ?_
 refine Ja rfl rfl rfl (Je (v := .int .i64 a0) rfl) ?_
 obtain ⟨t5, h_t5, H4⟩ := Ji H; clear H
 refine Q5 (k31 h_t5) Tryz.call31 rfl rfl rfl ?_
 refine Jg ?_
 refine Qg (b := t5) rfl (fun hb => ?_) (fun hb => ?_)
 ·have H5 := Jr hb H4; clear H4
  refine Jf ?_
  refine Jb ?_
  refine Ja rfl rfl rfl (Jc (v := .pointer none) rfl) ?_
  refine Ja rfl rfl rfl (Jc (v := .int .i64 2) rfl) ?_
  refine Jg ?_
  refine Jp ?_
  refine c_emp ?_
  refine Ww 0 rfl (imp_obxNil (b := 0) (fun z : T_sync_Replica => J0 (Jl 0 [.int .i64 z.device_, .int .i64 (z.knows_ 0), .int .i64 (z.knows_ 1), .int .i64 (z.knows_ 2), .int .i64 (z.knows_ 3), .int .i64 (z.knows_ 4), .int .i64 (z.knows_ 5), .int .i64 (z.knows_ 6), .int .i64 (z.knows_ 7), .int .i64 (z.knows_ 8), .int .i64 (z.knows_ 9), .int .i64 (z.knows_ 10), .int .i64 (z.knows_ 11), .int .i64 (z.knows_ 12), .int .i64 (z.knows_ 13), .int .i64 (z.knows_ 14), .int .i64 (z.knows_ 15), .slice ((none, 0) : Option Addr × Nat).1 z.facts_.length ((none, 0) : Option Addr × Nat).2] 60) (J2 45 8 (.slice ((none, 0) : Option Addr × Nat).1 z.facts_.length ((none, 0) : Option Addr × Nat).2) z.facts_.length (z.facts_.map Jd)))) ?_
  obtain rfl := Option.some.inj H5
  refine ret2 (v1 := optP (none : Option T_sync_Replica) 0) (v2 := .int .i64 2) rfl rfl rfl (Yk (0, ((none, 0) : Option Addr × Nat)) (i := 0) rfl rfl (Imp.refl _))
 ·have H6 := Jq hb H4; clear H4
  refine Jw ?_
  refine Jf ?_
  refine Jb ?_
  refine Ja rfl rfl rfl (Je (v := .int .i64 a0) rfl) ?_
  refine Ja rfl rfl rfl (W4 (pl := #[(0, 1), (1, 16), (17, 1)]) (ps := [(0, .int .i64 a0)]) (cells := #[.int .i64 a0, .int .i64 0, .int .i64 0, .int .i64 0, .int .i64 0, .int .i64 0, .int .i64 0, .int .i64 0, .int .i64 0, .int .i64 0, .int .i64 0, .int .i64 0, .int .i64 0, .int .i64 0, .int .i64 0, .int .i64 0, .int .i64 0, .slice none 0 0]) Tryz.zeroValue60 Tryz.runUnderlying60 (fun w => by kernel_rfl) rfl (by kernel_rfl)) ?_
  refine Zo (cs := [.int .i64 a0, .int .i64 0, .int .i64 0, .int .i64 0, .int .i64 0, .int .i64 0, .int .i64 0, .int .i64 0, .int .i64 0, .int .i64 0, .int .i64 0, .int .i64 0, .int .i64 0, .int .i64 0, .int .i64 0, .int .i64 0, .int .i64 0, .slice none 0 0]) rfl rfl rfl rfl (fun b1 => ?_)
  refine Ja rfl rfl rfl (Jc (v := .pointer (some ⟨b1, 0, none⟩)) rfl) ?_
  refine Ja rfl rfl rfl (Jc (v := .int .i64 0) rfl) ?_
  refine Jg ?_
  refine Jp ?_
  refine c_nilRow 45 8 ?_
  refine Ww 1 rfl (imp_rowO _ _ _ _ _) ?_
  refine Qa 0 1 rfl rfl (by decide) ?_
  refine Ww 0 rfl (imp_obx (b := b1) (z := (⟨a0, (fun _ => 0), ([] : List T_sync_Fact)⟩ : T_sync_Replica)) (fun z : T_sync_Replica => J0 (Jl b1 [.int .i64 z.device_, .int .i64 (z.knows_ 0), .int .i64 (z.knows_ 1), .int .i64 (z.knows_ 2), .int .i64 (z.knows_ 3), .int .i64 (z.knows_ 4), .int .i64 (z.knows_ 5), .int .i64 (z.knows_ 6), .int .i64 (z.knows_ 7), .int .i64 (z.knows_ 8), .int .i64 (z.knows_ 9), .int .i64 (z.knows_ 10), .int .i64 (z.knows_ 11), .int .i64 (z.knows_ 12), .int .i64 (z.knows_ 13), .int .i64 (z.knows_ 14), .int .i64 (z.knows_ 15), .slice ((none, 0) : Option Addr × Nat).1 z.facts_.length ((none, 0) : Option Addr × Nat).2] 60) (J2 45 8 (.slice ((none, 0) : Option Addr × Nat).1 z.facts_.length ((none, 0) : Option Addr × Nat).2) z.facts_.length (z.facts_.map Jd)))) ?_
  obtain rfl := Option.some.inj H6
  refine ret2 (v1 := optP (some (⟨a0, (fun _ => 0), ([] : List T_sync_Fact)⟩ : T_sync_Replica)) b1) (v2 := .int .i64 0) rfl rfl rfl (Yk (b1, ((none, 0) : Option Addr × Nat)) (i := 0) rfl rfl (Imp.refl _))
theorem k34 {a0 : T_sync_Replica} {pb0 : Nat} {p0_2 : Option Addr × Nat} {n0_2 : Nat} {a1 : Int} {a2 : (List UInt8)} {r : Int × T_sync_Replica} {w : World} {h : Qd} {S : Nat → Prop} (hcs : (J0 (Jl pb0 [.int .i64 a0.device_, .int .i64 (a0.knows_ 0), .int .i64 (a0.knows_ 1), .int .i64 (a0.knows_ 2), .int .i64 (a0.knows_ 3), .int .i64 (a0.knows_ 4), .int .i64 (a0.knows_ 5), .int .i64 (a0.knows_ 6), .int .i64 (a0.knows_ 7), .int .i64 (a0.knows_ 8), .int .i64 (a0.knows_ 9), .int .i64 (a0.knows_ 10), .int .i64 (a0.knows_ 11), .int .i64 (a0.knows_ 12), .int .i64 (a0.knows_ 13), .int .i64 (a0.knows_ 14), .int .i64 (a0.knows_ 15), .slice p0_2.1 n0_2 p0_2.2] 60) (J2 45 8 (.slice p0_2.1 n0_2 p0_2.2) n0_2 (a0.facts_.map Jd))).P S w) (hlt : ∀ b, S b → b < w.heap.size) (hw : Know h w S) (hn0_2 : n0_2 = a0.facts_.length) (H : Um a0 a1 a2 = some r) : Does Tryz.prog 34 (List.toArray [.pointer (some ⟨pb0, 0, none⟩), .int .i64 a1, str a2]) w (fun v w' => ∃ x : (Option Addr × Nat), v = (.int .i64 r.1) ∧ Turn w w' S (J0 (Jl pb0 [.int .i64 r.2.device_, .int .i64 (r.2.knows_ 0), .int .i64 (r.2.knows_ 1), .int .i64 (r.2.knows_ 2), .int .i64 (r.2.knows_ 3), .int .i64 (r.2.knows_ 4), .int .i64 (r.2.knows_ 5), .int .i64 (r.2.knows_ 6), .int .i64 (r.2.knows_ 7), .int .i64 (r.2.knows_ 8), .int .i64 (r.2.knows_ 9), .int .i64 (r.2.knows_ 10), .int .i64 (r.2.knows_ 11), .int .i64 (r.2.knows_ 12), .int .i64 (r.2.knows_ 13), .int .i64 (r.2.knows_ 14), .int .i64 (r.2.knows_ 15), .slice x.1 r.2.facts_.length x.2] 60) (J2 45 8 (.slice x.1 r.2.facts_.length x.2) r.2.facts_.length (r.2.facts_.map Jd)))) := by
 refine enter (n := 12) Tryz.func34 rfl rfl rfl S [J0 (Jl pb0 [.int .i64 a0.device_, .int .i64 (a0.knows_ 0), .int .i64 (a0.knows_ 1), .int .i64 (a0.knows_ 2), .int .i64 (a0.knows_ 3), .int .i64 (a0.knows_ 4), .int .i64 (a0.knows_ 5), .int .i64 (a0.knows_ 6), .int .i64 (a0.knows_ 7), .int .i64 (a0.knows_ 8), .int .i64 (a0.knows_ 9), .int .i64 (a0.knows_ 10), .int .i64 (a0.knows_ 11), .int .i64 (a0.knows_ 12), .int .i64 (a0.knows_ 13), .int .i64 (a0.knows_ 14), .int .i64 (a0.knows_ 15), .slice p0_2.1 n0_2 p0_2.2] 60) (J2 45 8 (.slice p0_2.1 n0_2 p0_2.2) n0_2 (a0.facts_.map Jd))] (Sat.one hcs hlt) ?_
 refine Yo 0 rfl ?_
 refine Jf ?_
 refine Jb ?_
 refine Ja rfl rfl rfl (Jc (v := .int .i64 0) rfl) ?_
 refine Jg ?_
 refine Jf ?_
 refine Jb ?_
 refine Ja rfl rfl rfl (Je (v := .pointer (some ⟨pb0, 0, none⟩)) rfl) ?_
 refine Ja rfl rfl rfl (Je (v := .int .i64 a1) rfl) ?_
 refine Ja rfl rfl rfl (Je (v := str a2) rfl) ?_
 refine Ja rfl rfl rfl (W4 (pl := #[(0, 2), (2, 1), (3, 1), (4, 1), (5, 1), (6, 1), (7, 1)]) (ps := [(2, .int .i64 3), (3, .int .i64 a1), (6, str a2)]) (cells := #[.int .i64 0, .int .i64 0, .int .i64 0, .int .i64 3, .int .i64 a1, str [], .int .i64 0, str a2]) Tryz.zeroValue45 Tryz.runUnderlying45 (fun w => by kernel_rfl) rfl rfl) ?_
 obtain ⟨t11, h_t11, H2⟩ := Ji H; clear H
 refine Qa 0 1 rfl rfl (by decide) ?_
 refine Q4 (J6 (i := 0) (rds := []) (G := fun x : (Option Addr × Nat) => .int .i64 t11.1) (C := fun x : (Option Addr × Nat) => J0 (Jl pb0 [.int .i64 t11.2.device_, .int .i64 (t11.2.knows_ 0), .int .i64 (t11.2.knows_ 1), .int .i64 (t11.2.knows_ 2), .int .i64 (t11.2.knows_ 3), .int .i64 (t11.2.knows_ 4), .int .i64 (t11.2.knows_ 5), .int .i64 (t11.2.knows_ 6), .int .i64 (t11.2.knows_ 7), .int .i64 (t11.2.knows_ 8), .int .i64 (t11.2.knows_ 9), .int .i64 (t11.2.knows_ 10), .int .i64 (t11.2.knows_ 11), .int .i64 (t11.2.knows_ 12), .int .i64 (t11.2.knows_ 13), .int .i64 (t11.2.knows_ 14), .int .i64 (t11.2.knows_ 15), .slice x.1 t11.2.facts_.length x.2] 60) (J2 45 8 (.slice x.1 t11.2.facts_.length x.2) t11.2.facts_.length (t11.2.facts_.map Jd))) rfl (fun w L' S hF hS hi hp hlt ho hA => k30 hp hlt (Qn w S) hn0_2 h_t11) Tryz.call30 rfl) rfl rfl rfl (fun p => ?_)
 refine Q0 0 1 rfl rfl (by decide) ?_
 refine Ja rfl rfl rfl (Jc (v := .int .i64 t11.1) rfl) ?_
 refine Jg ?_
 refine Jp ?_
 obtain rfl := Option.some.inj H2
 refine Qa 0 1 rfl rfl (by decide) ?_
 refine J3 (v := .int .i64 t11.1) rfl rfl (Yk p (i := 0) rfl rfl (Imp.refl _))
theorem k35 {a0 : T_sync_Replica} {pb0 : Nat} {p0_2 : Option Addr × Nat} {n0_2 : Nat} {a1 : Int} {a2 : Bool} {r : Int × T_sync_Replica} {w : World} {h : Qd} {S : Nat → Prop} (hcs : (J0 (Jl pb0 [.int .i64 a0.device_, .int .i64 (a0.knows_ 0), .int .i64 (a0.knows_ 1), .int .i64 (a0.knows_ 2), .int .i64 (a0.knows_ 3), .int .i64 (a0.knows_ 4), .int .i64 (a0.knows_ 5), .int .i64 (a0.knows_ 6), .int .i64 (a0.knows_ 7), .int .i64 (a0.knows_ 8), .int .i64 (a0.knows_ 9), .int .i64 (a0.knows_ 10), .int .i64 (a0.knows_ 11), .int .i64 (a0.knows_ 12), .int .i64 (a0.knows_ 13), .int .i64 (a0.knows_ 14), .int .i64 (a0.knows_ 15), .slice p0_2.1 n0_2 p0_2.2] 60) (J2 45 8 (.slice p0_2.1 n0_2 p0_2.2) n0_2 (a0.facts_.map Jd))).P S w) (hlt : ∀ b, S b → b < w.heap.size) (hw : Know h w S) (hn0_2 : n0_2 = a0.facts_.length) (H : Jao a0 a1 a2 = some r) : Does Tryz.prog 35 (List.toArray [.pointer (some ⟨pb0, 0, none⟩), .int .i64 a1, .bool a2]) w (fun v w' => ∃ x : (Option Addr × Nat), v = (.int .i64 r.1) ∧ Turn w w' S (J0 (Jl pb0 [.int .i64 r.2.device_, .int .i64 (r.2.knows_ 0), .int .i64 (r.2.knows_ 1), .int .i64 (r.2.knows_ 2), .int .i64 (r.2.knows_ 3), .int .i64 (r.2.knows_ 4), .int .i64 (r.2.knows_ 5), .int .i64 (r.2.knows_ 6), .int .i64 (r.2.knows_ 7), .int .i64 (r.2.knows_ 8), .int .i64 (r.2.knows_ 9), .int .i64 (r.2.knows_ 10), .int .i64 (r.2.knows_ 11), .int .i64 (r.2.knows_ 12), .int .i64 (r.2.knows_ 13), .int .i64 (r.2.knows_ 14), .int .i64 (r.2.knows_ 15), .slice x.1 r.2.facts_.length x.2] 60) (J2 45 8 (.slice x.1 r.2.facts_.length x.2) r.2.facts_.length (r.2.facts_.map Jd)))) := by
 refine enter (n := 15) Tryz.func35 rfl rfl rfl S [J0 (Jl pb0 [.int .i64 a0.device_, .int .i64 (a0.knows_ 0), .int .i64 (a0.knows_ 1), .int .i64 (a0.knows_ 2), .int .i64 (a0.knows_ 3), .int .i64 (a0.knows_ 4), .int .i64 (a0.knows_ 5), .int .i64 (a0.knows_ 6), .int .i64 (a0.knows_ 7), .int .i64 (a0.knows_ 8), .int .i64 (a0.knows_ 9), .int .i64 (a0.knows_ 10), .int .i64 (a0.knows_ 11), .int .i64 (a0.knows_ 12), .int .i64 (a0.knows_ 13), .int .i64 (a0.knows_ 14), .int .i64 (a0.knows_ 15), .slice p0_2.1 n0_2 p0_2.2] 60) (J2 45 8 (.slice p0_2.1 n0_2 p0_2.2) n0_2 (a0.facts_.map Jd))] (Sat.one hcs hlt) ?_
 refine Yo 0 rfl ?_
 refine Jf ?_
 refine Jb ?_
 refine Ja rfl rfl rfl (Jc (v := .int .i64 0) rfl) ?_
 refine Jg ?_
 refine Jf ?_
 refine Jb ?_
 refine Ja rfl rfl rfl (Je (v := .int .i64 a1) rfl) ?_
 refine Ja rfl rfl rfl (W4 (pl := #[(0, 2), (2, 1), (3, 1), (4, 1), (5, 1), (6, 1), (7, 1)]) (ps := [(2, .int .i64 4), (3, .int .i64 a1)]) (cells := #[.int .i64 0, .int .i64 0, .int .i64 0, .int .i64 4, .int .i64 a1, str [], .int .i64 0, str []]) Tryz.zeroValue45 Tryz.runUnderlying45 (fun w => by kernel_rfl) rfl rfl) ?_
 refine Zv (cs := [.int .i64 0, .int .i64 0, .int .i64 0, .int .i64 0, .int .i64 0, str [], .int .i64 0, str []]) Tryz.zeroValue45 rfl rfl rfl (fun b1 => ?_)
 refine Xt (i := 2) (vs := [.int .i64 0, .int .i64 0, .int .i64 0, .int .i64 4, .int .i64 a1, str [], .int .i64 0, str []]) (cs' := [.int .i64 0, .int .i64 0, .int .i64 0, .int .i64 4, .int .i64 a1, str [], .int .i64 0, str []]) Tryz.sizeOf45 rfl rfl rfl rfl rfl rfl rfl rfl rfl ?_
 refine Jg ?_
 refine Xu (r := r) (σ := Int) (τ := Unit) (fun s => Zf a0 a1 s) (fun s t => [(0, .pointer (some ⟨pb0, 0, none⟩)), (7, .pointer (some ⟨b1, 0, none⟩))]) (fun s t => [Jl pb0 [.int .i64 a0.device_, .int .i64 (a0.knows_ 0), .int .i64 (a0.knows_ 1), .int .i64 (a0.knows_ 2), .int .i64 (a0.knows_ 3), .int .i64 (a0.knows_ 4), .int .i64 (a0.knows_ 5), .int .i64 (a0.knows_ 6), .int .i64 (a0.knows_ 7), .int .i64 (a0.knows_ 8), .int .i64 (a0.knows_ 9), .int .i64 (a0.knows_ 10), .int .i64 (a0.knows_ 11), .int .i64 (a0.knows_ 12), .int .i64 (a0.knows_ 13), .int .i64 (a0.knows_ 14), .int .i64 (a0.knows_ 15), .slice p0_2.1 n0_2 p0_2.2] 60, J2 45 8 (.slice p0_2.1 n0_2 p0_2.2) n0_2 (a0.facts_.map Jd), Jl b1 [.int .i64 0, .int .i64 0, .int .i64 0, .int .i64 4, .int .i64 a1, str [], .int .i64 s, str []] 45]) (fun s t => True) ?_ ?_
 ·refine Jf ?_
  try dsimp only [z1, z2, z5, z6, z7, z8]
  refine Jb ?_
  refine Ja rfl rfl rfl (Je (v := .bool a2) rfl) ?_
  refine Jg ?_
  refine Qg (b := a2) rfl (fun hb => ?_) (fun hb => ?_)
  ·have H7 := Jr hb H; clear H
   refine Jb ?_
   refine Ja rfl rfl rfl (Jo Tryz.runUnderlying45 rfl Tryz.sizeOf3 rfl rfl) ?_
   refine Xt (i := 2) (vs := [.int .i64 1]) (cs' := [.int .i64 0, .int .i64 0, .int .i64 0, .int .i64 4, .int .i64 a1, str [], .int .i64 1, str []]) Tryz.sizeOf3 rfl rfl rfl rfl rfl rfl rfl rfl rfl ?_
   refine Jg ?_
   refine Js 1 () 0 [0, 1, 2] (by exact ⟨rfl, rfl, trivial⟩) (by decide) rfl (by exact ⟨H7, trivial⟩) (Nat.lt_succ_self _)
  ·have H8 := Jq hb H; clear H
   refine Jw ?_
   refine Js 0 () 0 [0, 1, 2] (by exact ⟨rfl, rfl, trivial⟩) (by decide) rfl (by exact ⟨H8, trivial⟩) (Nat.lt_succ_self _)
 ·rintro m _ gg H5 _
  replace H5 : Zf a0 a1 m = some r := H5
  try dsimp only
  refine Jf ?_
  refine Jb ?_
  refine Ja rfl rfl rfl (Je (v := .pointer (some ⟨pb0, 0, none⟩)) rfl) ?_
  refine Ym (i := 2) (vs := [.int .i64 0, .int .i64 0, .int .i64 0, .int .i64 4, .int .i64 a1, str [], .int .i64 m, str []]) Tryz.isAgg45 Tryz.sizeOf45 rfl rfl rfl rfl rfl ?_
  obtain ⟨t14, h_t14, H6⟩ := Ji H5; clear H5
  refine Qa 0 1 rfl rfl (by decide) ?_
  refine Q4 (J6 (i := 0) (rds := []) (G := fun x : (Option Addr × Nat) => .int .i64 t14.1) (C := fun x : (Option Addr × Nat) => J0 (Jl pb0 [.int .i64 t14.2.device_, .int .i64 (t14.2.knows_ 0), .int .i64 (t14.2.knows_ 1), .int .i64 (t14.2.knows_ 2), .int .i64 (t14.2.knows_ 3), .int .i64 (t14.2.knows_ 4), .int .i64 (t14.2.knows_ 5), .int .i64 (t14.2.knows_ 6), .int .i64 (t14.2.knows_ 7), .int .i64 (t14.2.knows_ 8), .int .i64 (t14.2.knows_ 9), .int .i64 (t14.2.knows_ 10), .int .i64 (t14.2.knows_ 11), .int .i64 (t14.2.knows_ 12), .int .i64 (t14.2.knows_ 13), .int .i64 (t14.2.knows_ 14), .int .i64 (t14.2.knows_ 15), .slice x.1 t14.2.facts_.length x.2] 60) (J2 45 8 (.slice x.1 t14.2.facts_.length x.2) t14.2.facts_.length (t14.2.facts_.map Jd))) rfl (fun w L' S hF hS hi hp hlt ho hA => k30 hp hlt (Qn w S) hn0_2 h_t14) Tryz.call30 rfl) rfl rfl rfl (fun p => ?_)
  refine Q0 0 1 rfl rfl (by decide) ?_
  refine Ja rfl rfl rfl (Jc (v := .int .i64 t14.1) rfl) ?_
  refine Jg ?_
  refine Jp ?_
  obtain rfl := Option.some.inj H6
  refine Qa 0 1 rfl rfl (by decide) ?_
  refine J3 (v := .int .i64 t14.1) rfl rfl (Yk p (i := 0) rfl rfl (Imp.refl _))
theorem k36 {a0 : T_sync_Replica} {pb0 : Nat} {p0_2 : Option Addr × Nat} {n0_2 : Nat} {a1 : Int} {a2 : (List UInt8)} {r : Int × T_sync_Replica} {w : World} {h : Qd} {S : Nat → Prop} (hcs : (J0 (Jl pb0 [.int .i64 a0.device_, .int .i64 (a0.knows_ 0), .int .i64 (a0.knows_ 1), .int .i64 (a0.knows_ 2), .int .i64 (a0.knows_ 3), .int .i64 (a0.knows_ 4), .int .i64 (a0.knows_ 5), .int .i64 (a0.knows_ 6), .int .i64 (a0.knows_ 7), .int .i64 (a0.knows_ 8), .int .i64 (a0.knows_ 9), .int .i64 (a0.knows_ 10), .int .i64 (a0.knows_ 11), .int .i64 (a0.knows_ 12), .int .i64 (a0.knows_ 13), .int .i64 (a0.knows_ 14), .int .i64 (a0.knows_ 15), .slice p0_2.1 n0_2 p0_2.2] 60) (J2 45 8 (.slice p0_2.1 n0_2 p0_2.2) n0_2 (a0.facts_.map Jd))).P S w) (hlt : ∀ b, S b → b < w.heap.size) (hw : Know h w S) (hn0_2 : n0_2 = a0.facts_.length) (H : Jav a0 a1 a2 = some r) : Does Tryz.prog 36 (List.toArray [.pointer (some ⟨pb0, 0, none⟩), .int .i64 a1, str a2]) w (fun v w' => ∃ x : (Option Addr × Nat), v = (.int .i64 r.1) ∧ Turn w w' S (J0 (Jl pb0 [.int .i64 r.2.device_, .int .i64 (r.2.knows_ 0), .int .i64 (r.2.knows_ 1), .int .i64 (r.2.knows_ 2), .int .i64 (r.2.knows_ 3), .int .i64 (r.2.knows_ 4), .int .i64 (r.2.knows_ 5), .int .i64 (r.2.knows_ 6), .int .i64 (r.2.knows_ 7), .int .i64 (r.2.knows_ 8), .int .i64 (r.2.knows_ 9), .int .i64 (r.2.knows_ 10), .int .i64 (r.2.knows_ 11), .int .i64 (r.2.knows_ 12), .int .i64 (r.2.knows_ 13), .int .i64 (r.2.knows_ 14), .int .i64 (r.2.knows_ 15), .slice x.1 r.2.facts_.length x.2] 60) (J2 45 8 (.slice x.1 r.2.facts_.length x.2) r.2.facts_.length (r.2.facts_.map Jd)))) := by
 refine enter (n := 12) Tryz.func36 rfl rfl rfl S [J0 (Jl pb0 [.int .i64 a0.device_, .int .i64 (a0.knows_ 0), .int .i64 (a0.knows_ 1), .int .i64 (a0.knows_ 2), .int .i64 (a0.knows_ 3), .int .i64 (a0.knows_ 4), .int .i64 (a0.knows_ 5), .int .i64 (a0.knows_ 6), .int .i64 (a0.knows_ 7), .int .i64 (a0.knows_ 8), .int .i64 (a0.knows_ 9), .int .i64 (a0.knows_ 10), .int .i64 (a0.knows_ 11), .int .i64 (a0.knows_ 12), .int .i64 (a0.knows_ 13), .int .i64 (a0.knows_ 14), .int .i64 (a0.knows_ 15), .slice p0_2.1 n0_2 p0_2.2] 60) (J2 45 8 (.slice p0_2.1 n0_2 p0_2.2) n0_2 (a0.facts_.map Jd))] (Sat.one hcs hlt) ?_
 refine Yo 0 rfl ?_
 refine Jf ?_
 refine Jb ?_
 refine Ja rfl rfl rfl (Jc (v := .int .i64 0) rfl) ?_
 refine Jg ?_
 refine Jf ?_
 refine Jb ?_
 refine Ja rfl rfl rfl (Je (v := .pointer (some ⟨pb0, 0, none⟩)) rfl) ?_
 refine Ja rfl rfl rfl (Je (v := .int .i64 a1) rfl) ?_
 refine Ja rfl rfl rfl (Je (v := str a2) rfl) ?_
 refine Ja rfl rfl rfl (W4 (pl := #[(0, 2), (2, 1), (3, 1), (4, 1), (5, 1), (6, 1), (7, 1)]) (ps := [(2, .int .i64 5), (3, .int .i64 a1), (4, str a2)]) (cells := #[.int .i64 0, .int .i64 0, .int .i64 0, .int .i64 5, .int .i64 a1, str a2, .int .i64 0, str []]) Tryz.zeroValue45 Tryz.runUnderlying45 (fun w => by kernel_rfl) rfl rfl) ?_
 obtain ⟨t11, h_t11, H2⟩ := Ji H; clear H
 refine Qa 0 1 rfl rfl (by decide) ?_
 refine Q4 (J6 (i := 0) (rds := []) (G := fun x : (Option Addr × Nat) => .int .i64 t11.1) (C := fun x : (Option Addr × Nat) => J0 (Jl pb0 [.int .i64 t11.2.device_, .int .i64 (t11.2.knows_ 0), .int .i64 (t11.2.knows_ 1), .int .i64 (t11.2.knows_ 2), .int .i64 (t11.2.knows_ 3), .int .i64 (t11.2.knows_ 4), .int .i64 (t11.2.knows_ 5), .int .i64 (t11.2.knows_ 6), .int .i64 (t11.2.knows_ 7), .int .i64 (t11.2.knows_ 8), .int .i64 (t11.2.knows_ 9), .int .i64 (t11.2.knows_ 10), .int .i64 (t11.2.knows_ 11), .int .i64 (t11.2.knows_ 12), .int .i64 (t11.2.knows_ 13), .int .i64 (t11.2.knows_ 14), .int .i64 (t11.2.knows_ 15), .slice x.1 t11.2.facts_.length x.2] 60) (J2 45 8 (.slice x.1 t11.2.facts_.length x.2) t11.2.facts_.length (t11.2.facts_.map Jd))) rfl (fun w L' S hF hS hi hp hlt ho hA => k30 hp hlt (Qn w S) hn0_2 h_t11) Tryz.call30 rfl) rfl rfl rfl (fun p => ?_)
 refine Q0 0 1 rfl rfl (by decide) ?_
 refine Ja rfl rfl rfl (Jc (v := .int .i64 t11.1) rfl) ?_
 refine Jg ?_
 refine Jp ?_
 obtain rfl := Option.some.inj H2
 refine Qa 0 1 rfl rfl (by decide) ?_
 refine J3 (v := .int .i64 t11.1) rfl rfl (Yk p (i := 0) rfl rfl (Imp.refl _))
theorem k16 {a0 : T_sync_Replica} {pb0 : Nat} {p0_2 : Option Addr × Nat} {n0_2 : Nat} {a1 : T_tintkeep2_Deed} {r : Int × T_sync_Replica} {w : World} {h : Qd} {S : Nat → Prop} (hcs : (J0 (Jl pb0 [.int .i64 a0.device_, .int .i64 (a0.knows_ 0), .int .i64 (a0.knows_ 1), .int .i64 (a0.knows_ 2), .int .i64 (a0.knows_ 3), .int .i64 (a0.knows_ 4), .int .i64 (a0.knows_ 5), .int .i64 (a0.knows_ 6), .int .i64 (a0.knows_ 7), .int .i64 (a0.knows_ 8), .int .i64 (a0.knows_ 9), .int .i64 (a0.knows_ 10), .int .i64 (a0.knows_ 11), .int .i64 (a0.knows_ 12), .int .i64 (a0.knows_ 13), .int .i64 (a0.knows_ 14), .int .i64 (a0.knows_ 15), .slice p0_2.1 n0_2 p0_2.2] 60) (J2 45 8 (.slice p0_2.1 n0_2 p0_2.2) n0_2 (a0.facts_.map Jd))).P S w) (hlt : ∀ b, S b → b < w.heap.size) (hw : Know h w S) (hn0_2 : n0_2 = a0.facts_.length) (H : Keep_done a0 a1 = some r) : Does Tryz.prog 16 (List.toArray [.pointer (some ⟨pb0, 0, none⟩), .agg #[.int .i64 a1.Kind, .int .i64 a1.Who, .int .i64 a1.Id, .int .i64 a1.N, str a1.Word]]) w (fun v w' => ∃ x : (Option Addr × Nat), v = (.int .i64 r.1) ∧ Turn w w' S (J0 (Jl pb0 [.int .i64 r.2.device_, .int .i64 (r.2.knows_ 0), .int .i64 (r.2.knows_ 1), .int .i64 (r.2.knows_ 2), .int .i64 (r.2.knows_ 3), .int .i64 (r.2.knows_ 4), .int .i64 (r.2.knows_ 5), .int .i64 (r.2.knows_ 6), .int .i64 (r.2.knows_ 7), .int .i64 (r.2.knows_ 8), .int .i64 (r.2.knows_ 9), .int .i64 (r.2.knows_ 10), .int .i64 (r.2.knows_ 11), .int .i64 (r.2.knows_ 12), .int .i64 (r.2.knows_ 13), .int .i64 (r.2.knows_ 14), .int .i64 (r.2.knows_ 15), .slice x.1 r.2.facts_.length x.2] 60) (J2 45 8 (.slice x.1 r.2.facts_.length x.2) r.2.facts_.length (r.2.facts_.map Jd)))) := by
 refine enter (n := 84) Tryz.func16 rfl rfl rfl S [J0 (Jl pb0 [.int .i64 a0.device_, .int .i64 (a0.knows_ 0), .int .i64 (a0.knows_ 1), .int .i64 (a0.knows_ 2), .int .i64 (a0.knows_ 3), .int .i64 (a0.knows_ 4), .int .i64 (a0.knows_ 5), .int .i64 (a0.knows_ 6), .int .i64 (a0.knows_ 7), .int .i64 (a0.knows_ 8), .int .i64 (a0.knows_ 9), .int .i64 (a0.knows_ 10), .int .i64 (a0.knows_ 11), .int .i64 (a0.knows_ 12), .int .i64 (a0.knows_ 13), .int .i64 (a0.knows_ 14), .int .i64 (a0.knows_ 15), .slice p0_2.1 n0_2 p0_2.2] 60) (J2 45 8 (.slice p0_2.1 n0_2 p0_2.2) n0_2 (a0.facts_.map Jd))] (Sat.one hcs hlt) ?_
 refine Yo 0 rfl ?_
 refine Jf ?_
 refine Jb ?_
 refine Zo (cs := [.int .i64 a1.Kind, .int .i64 a1.Who, .int .i64 a1.Id, .int .i64 a1.N, str a1.Word]) rfl rfl rfl rfl (fun b1 => ?_)
 refine Ja rfl rfl rfl (Jc (v := .int .i64 0) rfl) ?_
 refine Jg ?_
 refine Jf ?_
 refine Jf ?_
 refine Jb ?_
 refine Ja rfl rfl rfl (Jo Tryz.runUnderlying49 rfl Tryz.sizeOf3 rfl rfl) ?_
 refine Jv (i := 2) (v := .int .i64 a1.Kind) Tryz.isAgg3 rfl rfl rfl rfl rfl ?_
 refine Jg ?_
 refine J5 ?_
 refine Jf ?_
 refine Jb ?_
 refine Ja rfl rfl rfl (Xd rfl rfl) ?_
 refine Ja rfl rfl rfl (Jc (v := .bool (decide (a1.Kind = 0))) rfl) ?_
 refine Jg ?_
 refine Qg (b := (decide (a1.Kind = 0))) rfl (fun hb => ?_) (fun hb => ?_)
 ·have H29 := Jr hb H; clear H
  refine Jf ?_
  refine Jb ?_
  refine Ja rfl rfl rfl (Je (v := .pointer (some ⟨pb0, 0, none⟩)) rfl) ?_
  refine Ja rfl rfl rfl (Jo Tryz.runUnderlying49 rfl Tryz.sizeOf3 rfl rfl) ?_
  refine Jv (i := 2) (v := .int .i64 a1.Id) Tryz.isAgg3 rfl rfl rfl rfl rfl ?_
  refine Ja rfl rfl rfl (Jo Tryz.runUnderlying49 rfl Tryz.sizeOf9 rfl rfl) ?_
  refine Jv (i := 2) (v := str a1.Word) Tryz.isAgg9 rfl rfl rfl rfl rfl ?_
  obtain ⟨t14, h_t14, H30⟩ := Ji H29; clear H29
  refine Qa 0 1 rfl rfl (by decide) ?_
  refine Q4 (J6 (i := 0) (rds := []) (G := fun x : (Option Addr × Nat) => .int .i64 t14.1) (C := fun x : (Option Addr × Nat) => J0 (Jl pb0 [.int .i64 t14.2.device_, .int .i64 (t14.2.knows_ 0), .int .i64 (t14.2.knows_ 1), .int .i64 (t14.2.knows_ 2), .int .i64 (t14.2.knows_ 3), .int .i64 (t14.2.knows_ 4), .int .i64 (t14.2.knows_ 5), .int .i64 (t14.2.knows_ 6), .int .i64 (t14.2.knows_ 7), .int .i64 (t14.2.knows_ 8), .int .i64 (t14.2.knows_ 9), .int .i64 (t14.2.knows_ 10), .int .i64 (t14.2.knows_ 11), .int .i64 (t14.2.knows_ 12), .int .i64 (t14.2.knows_ 13), .int .i64 (t14.2.knows_ 14), .int .i64 (t14.2.knows_ 15), .slice x.1 t14.2.facts_.length x.2] 60) (J2 45 8 (.slice x.1 t14.2.facts_.length x.2) t14.2.facts_.length (t14.2.facts_.map Jd))) rfl (fun w L' S hF hS hi hp hlt ho hA => k33 hp hlt (Qn w S) hn0_2 h_t14) Tryz.call33 rfl) rfl rfl rfl (fun p => ?_)
  refine Q0 0 1 rfl rfl (by decide) ?_
  refine Ja rfl rfl rfl (Jc (v := .int .i64 t14.1) rfl) ?_
  refine Jg ?_
  refine Jp ?_
  obtain rfl := Option.some.inj H30
  refine Qa 0 1 rfl rfl (by decide) ?_
  refine J3 (v := .int .i64 t14.1) rfl rfl (Yk p (i := 0) rfl rfl (Imp.refl _))
 ·have H31 := Jq hb H; clear H
  refine Jf ?_
  try dsimp only [z1, z2, z5, z6, z7, z8]
  refine Jb ?_
  refine Ja rfl rfl rfl (Xd rfl rfl) ?_
  refine Ja rfl rfl rfl (Jc (v := .bool (decide (a1.Kind = 1))) rfl) ?_
  refine Jg ?_
  refine Qg (b := (decide (a1.Kind = 1))) rfl (fun hb => ?_) (fun hb => ?_)
  ·have H32 := Jr hb H31; clear H31
   refine Jf ?_
   refine Jb ?_
   refine Ja rfl rfl rfl (Je (v := .pointer (some ⟨pb0, 0, none⟩)) rfl) ?_
   refine Ja rfl rfl rfl (Jo Tryz.runUnderlying49 rfl Tryz.sizeOf3 rfl rfl) ?_
   refine Jv (i := 2) (v := .int .i64 a1.Id) Tryz.isAgg3 rfl rfl rfl rfl rfl ?_
   refine Ja rfl rfl rfl (Jo Tryz.runUnderlying49 rfl Tryz.sizeOf3 rfl rfl) ?_
   refine Jv (i := 2) (v := .int .i64 a1.N) Tryz.isAgg3 rfl rfl rfl rfl rfl ?_
   obtain ⟨t22, h_t22, H33⟩ := Ji H32; clear H32
   refine Qa 0 1 rfl rfl (by decide) ?_
   refine Q4 (J6 (i := 0) (rds := []) (G := fun x : (Option Addr × Nat) => .int .i64 t22.1) (C := fun x : (Option Addr × Nat) => J0 (Jl pb0 [.int .i64 t22.2.device_, .int .i64 (t22.2.knows_ 0), .int .i64 (t22.2.knows_ 1), .int .i64 (t22.2.knows_ 2), .int .i64 (t22.2.knows_ 3), .int .i64 (t22.2.knows_ 4), .int .i64 (t22.2.knows_ 5), .int .i64 (t22.2.knows_ 6), .int .i64 (t22.2.knows_ 7), .int .i64 (t22.2.knows_ 8), .int .i64 (t22.2.knows_ 9), .int .i64 (t22.2.knows_ 10), .int .i64 (t22.2.knows_ 11), .int .i64 (t22.2.knows_ 12), .int .i64 (t22.2.knows_ 13), .int .i64 (t22.2.knows_ 14), .int .i64 (t22.2.knows_ 15), .slice x.1 t22.2.facts_.length x.2] 60) (J2 45 8 (.slice x.1 t22.2.facts_.length x.2) t22.2.facts_.length (t22.2.facts_.map Jd))) rfl (fun w L' S hF hS hi hp hlt ho hA => k11 hp hlt (Qn w S) hn0_2 h_t22) Tryz.call11 rfl) rfl rfl rfl (fun p_2 => ?_)
   refine Q0 0 1 rfl rfl (by decide) ?_
   refine Ja rfl rfl rfl (Jc (v := .int .i64 t22.1) rfl) ?_
   refine Jg ?_
   refine Jp ?_
   obtain rfl := Option.some.inj H33
   refine Qa 0 1 rfl rfl (by decide) ?_
   refine J3 (v := .int .i64 t22.1) rfl rfl (Yk p_2 (i := 0) rfl rfl (Imp.refl _))
  ·have H34 := Jq hb H31; clear H31
   refine Jf ?_
   refine Jb ?_
   refine Ja rfl rfl rfl (Xd rfl rfl) ?_
   refine Ja rfl rfl rfl (Jc (v := .bool (decide (a1.Kind = 2))) rfl) ?_
   refine Jg ?_
   refine Qg (b := (decide (a1.Kind = 2))) rfl (fun hb => ?_) (fun hb => ?_)
   ·have H35 := Jr hb H34; clear H34
    refine Jf ?_
    refine Jb ?_
    refine Ja rfl rfl rfl (Je (v := .pointer (some ⟨pb0, 0, none⟩)) rfl) ?_
    refine Ja rfl rfl rfl (Jo Tryz.runUnderlying49 rfl Tryz.sizeOf3 rfl rfl) ?_
    refine Jv (i := 2) (v := .int .i64 a1.Id) Tryz.isAgg3 rfl rfl rfl rfl rfl ?_
    refine Ja rfl rfl rfl (Jo Tryz.runUnderlying49 rfl Tryz.sizeOf9 rfl rfl) ?_
    refine Jv (i := 2) (v := str a1.Word) Tryz.isAgg9 rfl rfl rfl rfl rfl ?_
    obtain ⟨t30, h_t30, H36⟩ := Ji H35; clear H35
    refine Qa 0 1 rfl rfl (by decide) ?_
    refine Q4 (J6 (i := 0) (rds := []) (G := fun x : (Option Addr × Nat) => .int .i64 t30.1) (C := fun x : (Option Addr × Nat) => J0 (Jl pb0 [.int .i64 t30.2.device_, .int .i64 (t30.2.knows_ 0), .int .i64 (t30.2.knows_ 1), .int .i64 (t30.2.knows_ 2), .int .i64 (t30.2.knows_ 3), .int .i64 (t30.2.knows_ 4), .int .i64 (t30.2.knows_ 5), .int .i64 (t30.2.knows_ 6), .int .i64 (t30.2.knows_ 7), .int .i64 (t30.2.knows_ 8), .int .i64 (t30.2.knows_ 9), .int .i64 (t30.2.knows_ 10), .int .i64 (t30.2.knows_ 11), .int .i64 (t30.2.knows_ 12), .int .i64 (t30.2.knows_ 13), .int .i64 (t30.2.knows_ 14), .int .i64 (t30.2.knows_ 15), .slice x.1 t30.2.facts_.length x.2] 60) (J2 45 8 (.slice x.1 t30.2.facts_.length x.2) t30.2.facts_.length (t30.2.facts_.map Jd))) rfl (fun w L' S hF hS hi hp hlt ho hA => k34 hp hlt (Qn w S) hn0_2 h_t30) Tryz.call34 rfl) rfl rfl rfl (fun p_3 => ?_)
    refine Q0 0 1 rfl rfl (by decide) ?_
    refine Ja rfl rfl rfl (Jc (v := .int .i64 t30.1) rfl) ?_
    refine Jg ?_
    refine Jp ?_
    obtain rfl := Option.some.inj H36
    refine Qa 0 1 rfl rfl (by decide) ?_
    refine J3 (v := .int .i64 t30.1) rfl rfl (Yk p_3 (i := 0) rfl rfl (Imp.refl _))
   ·have H37 := Jq hb H34; clear H34
    refine Jf ?_
    try dsimp only [z1, z2, z5, z6, z7, z8]
    refine Jb ?_
    refine Ja rfl rfl rfl (Xd rfl rfl) ?_
    refine Ja rfl rfl rfl (Jc (v := .bool (decide (a1.Kind = 3))) rfl) ?_
    refine Jg ?_
    refine Qg (b := (decide (a1.Kind = 3))) rfl (fun hb => ?_) (fun hb => ?_)
    ·have H38 := Jr hb H37; clear H37
     refine Jf ?_
     refine Jb ?_
     refine Ja rfl rfl rfl (Je (v := .pointer (some ⟨pb0, 0, none⟩)) rfl) ?_
     refine Ja rfl rfl rfl (Jo Tryz.runUnderlying49 rfl Tryz.sizeOf3 rfl rfl) ?_
     refine Jv (i := 2) (v := .int .i64 a1.Id) Tryz.isAgg3 rfl rfl rfl rfl rfl ?_
     refine Ja rfl rfl rfl (Jo Tryz.runUnderlying49 rfl Tryz.sizeOf3 rfl rfl) ?_
     refine Jv (i := 2) (v := .int .i64 a1.N) Tryz.isAgg3 rfl rfl rfl rfl rfl ?_
     refine Ja rfl rfl rfl (Xd rfl rfl) ?_
     obtain ⟨t39, h_t39, H39⟩ := Ji H38; clear H38
     refine Qa 0 1 rfl rfl (by decide) ?_
     refine Q4 (J6 (i := 0) (rds := []) (G := fun x : (Option Addr × Nat) => .int .i64 t39.1) (C := fun x : (Option Addr × Nat) => J0 (Jl pb0 [.int .i64 t39.2.device_, .int .i64 (t39.2.knows_ 0), .int .i64 (t39.2.knows_ 1), .int .i64 (t39.2.knows_ 2), .int .i64 (t39.2.knows_ 3), .int .i64 (t39.2.knows_ 4), .int .i64 (t39.2.knows_ 5), .int .i64 (t39.2.knows_ 6), .int .i64 (t39.2.knows_ 7), .int .i64 (t39.2.knows_ 8), .int .i64 (t39.2.knows_ 9), .int .i64 (t39.2.knows_ 10), .int .i64 (t39.2.knows_ 11), .int .i64 (t39.2.knows_ 12), .int .i64 (t39.2.knows_ 13), .int .i64 (t39.2.knows_ 14), .int .i64 (t39.2.knows_ 15), .slice x.1 t39.2.facts_.length x.2] 60) (J2 45 8 (.slice x.1 t39.2.facts_.length x.2) t39.2.facts_.length (t39.2.facts_.map Jd))) rfl (fun w L' S hF hS hi hp hlt ho hA => k35 hp hlt (Qn w S) hn0_2 h_t39) Tryz.call35 rfl) rfl rfl rfl (fun p_4 => ?_)
     refine Q0 0 1 rfl rfl (by decide) ?_
     refine Ja rfl rfl rfl (Jc (v := .int .i64 t39.1) rfl) ?_
     refine Jg ?_
     refine Jp ?_
     obtain rfl := Option.some.inj H39
     refine Qa 0 1 rfl rfl (by decide) ?_
     refine J3 (v := .int .i64 t39.1) rfl rfl (Yk p_4 (i := 0) rfl rfl (Imp.refl _))
    ·have H40 := Jq hb H37; clear H37
     refine Jf ?_
     refine Jb ?_
     refine Ja rfl rfl rfl (Xd rfl rfl) ?_
     refine Ja rfl rfl rfl (Jc (v := .bool (decide (a1.Kind = 4))) rfl) ?_
     refine Jg ?_
     refine Qg (b := (decide (a1.Kind = 4))) rfl (fun hb => ?_) (fun hb => ?_)
     ·have H41 := Jr hb H40; clear H40
      refine Jf ?_
      refine Jb ?_
      refine Ja rfl rfl rfl (Je (v := .pointer (some ⟨pb0, 0, none⟩)) rfl) ?_
      refine Ja rfl rfl rfl (Jo Tryz.runUnderlying49 rfl Tryz.sizeOf3 rfl rfl) ?_
      refine Jv (i := 2) (v := .int .i64 a1.Id) Tryz.isAgg3 rfl rfl rfl rfl rfl ?_
      refine Ja rfl rfl rfl (Jo Tryz.runUnderlying49 rfl Tryz.sizeOf9 rfl rfl) ?_
      refine Jv (i := 2) (v := str a1.Word) Tryz.isAgg9 rfl rfl rfl rfl rfl ?_
      obtain ⟨t47, h_t47, H42⟩ := Ji H41; clear H41
      refine Qa 0 1 rfl rfl (by decide) ?_
      refine Q4 (J6 (i := 0) (rds := []) (G := fun x : (Option Addr × Nat) => .int .i64 t47.1) (C := fun x : (Option Addr × Nat) => J0 (Jl pb0 [.int .i64 t47.2.device_, .int .i64 (t47.2.knows_ 0), .int .i64 (t47.2.knows_ 1), .int .i64 (t47.2.knows_ 2), .int .i64 (t47.2.knows_ 3), .int .i64 (t47.2.knows_ 4), .int .i64 (t47.2.knows_ 5), .int .i64 (t47.2.knows_ 6), .int .i64 (t47.2.knows_ 7), .int .i64 (t47.2.knows_ 8), .int .i64 (t47.2.knows_ 9), .int .i64 (t47.2.knows_ 10), .int .i64 (t47.2.knows_ 11), .int .i64 (t47.2.knows_ 12), .int .i64 (t47.2.knows_ 13), .int .i64 (t47.2.knows_ 14), .int .i64 (t47.2.knows_ 15), .slice x.1 t47.2.facts_.length x.2] 60) (J2 45 8 (.slice x.1 t47.2.facts_.length x.2) t47.2.facts_.length (t47.2.facts_.map Jd))) rfl (fun w L' S hF hS hi hp hlt ho hA => k36 hp hlt (Qn w S) hn0_2 h_t47) Tryz.call36 rfl) rfl rfl rfl (fun p_5 => ?_)
      refine Q0 0 1 rfl rfl (by decide) ?_
      refine Ja rfl rfl rfl (Jc (v := .int .i64 t47.1) rfl) ?_
      refine Jg ?_
      refine Jp ?_
      obtain rfl := Option.some.inj H42
      refine Qa 0 1 rfl rfl (by decide) ?_
      refine J3 (v := .int .i64 t47.1) rfl rfl (Yk p_5 (i := 0) rfl rfl (Imp.refl _))
     ·have H43 := Jq hb H40; clear H40
      refine Jf ?_
      try dsimp only [z1, z2, z5, z6, z7, z8]
      refine Jb ?_
      refine Ja rfl rfl rfl (Xd rfl rfl) ?_
      refine Ja rfl rfl rfl (Jc (v := .bool (decide (a1.Kind = 5))) rfl) ?_
      refine Jg ?_
      refine Qg (b := (decide (a1.Kind = 5))) rfl (fun hb => ?_) (fun hb => ?_)
      ·have H44 := Jr hb H43; clear H43
       refine Jf ?_
       refine Jb ?_
       refine Ja rfl rfl rfl (Je (v := .pointer (some ⟨pb0, 0, none⟩)) rfl) ?_
       refine Ja rfl rfl rfl (Jo Tryz.runUnderlying49 rfl Tryz.sizeOf3 rfl rfl) ?_
       refine Jv (i := 2) (v := .int .i64 a1.Id) Tryz.isAgg3 rfl rfl rfl rfl rfl ?_
       refine Ja rfl rfl rfl (Jo Tryz.runUnderlying49 rfl Tryz.sizeOf9 rfl rfl) ?_
       refine Jv (i := 2) (v := str a1.Word) Tryz.isAgg9 rfl rfl rfl rfl rfl ?_
       obtain ⟨t55, h_t55, H45⟩ := Ji H44; clear H44
       refine Qa 0 1 rfl rfl (by decide) ?_
       refine Q4 (J6 (i := 0) (rds := []) (G := fun x : (Option Addr × Nat) => .int .i64 t55.1) (C := fun x : (Option Addr × Nat) => J0 (Jl pb0 [.int .i64 t55.2.device_, .int .i64 (t55.2.knows_ 0), .int .i64 (t55.2.knows_ 1), .int .i64 (t55.2.knows_ 2), .int .i64 (t55.2.knows_ 3), .int .i64 (t55.2.knows_ 4), .int .i64 (t55.2.knows_ 5), .int .i64 (t55.2.knows_ 6), .int .i64 (t55.2.knows_ 7), .int .i64 (t55.2.knows_ 8), .int .i64 (t55.2.knows_ 9), .int .i64 (t55.2.knows_ 10), .int .i64 (t55.2.knows_ 11), .int .i64 (t55.2.knows_ 12), .int .i64 (t55.2.knows_ 13), .int .i64 (t55.2.knows_ 14), .int .i64 (t55.2.knows_ 15), .slice x.1 t55.2.facts_.length x.2] 60) (J2 45 8 (.slice x.1 t55.2.facts_.length x.2) t55.2.facts_.length (t55.2.facts_.map Jd))) rfl (fun w L' S hF hS hi hp hlt ho hA => k37 hp hlt (Qn w S) hn0_2 h_t55) Tryz.call37 rfl) rfl rfl rfl (fun p_6 => ?_)
       refine Q0 0 1 rfl rfl (by decide) ?_
       refine Ja rfl rfl rfl (Jc (v := .int .i64 t55.1) rfl) ?_
       refine Jg ?_
       refine Jp ?_
       obtain rfl := Option.some.inj H45
       refine Qa 0 1 rfl rfl (by decide) ?_
       refine J3 (v := .int .i64 t55.1) rfl rfl (Yk p_6 (i := 0) rfl rfl (Imp.refl _))
      ·have H46 := Jq hb H43; clear H43
       refine Jf ?_
       refine Jb ?_
       refine Ja rfl rfl rfl (Xd rfl rfl) ?_
       refine Ja rfl rfl rfl (Jc (v := .bool (decide (a1.Kind = 6))) rfl) ?_
       refine Jg ?_
       refine Qg (b := (decide (a1.Kind = 6))) rfl (fun hb => ?_) (fun hb => ?_)
       ·have H47 := Jr hb H46; clear H46
        refine Jf ?_
        refine Jb ?_
        refine Ja rfl rfl rfl (Je (v := .pointer (some ⟨pb0, 0, none⟩)) rfl) ?_
        refine Ja rfl rfl rfl (Jo Tryz.runUnderlying49 rfl Tryz.sizeOf9 rfl rfl) ?_
        refine Jv (i := 2) (v := str a1.Word) Tryz.isAgg9 rfl rfl rfl rfl rfl ?_
        refine Ja rfl rfl rfl (Jo Tryz.runUnderlying49 rfl Tryz.sizeOf3 rfl rfl) ?_
        refine Jv (i := 2) (v := .int .i64 a1.Id) Tryz.isAgg3 rfl rfl rfl rfl rfl ?_
        refine Ja rfl rfl rfl (Jo Tryz.runUnderlying49 rfl Tryz.sizeOf3 rfl rfl) ?_
        refine Jv (i := 2) (v := .int .i64 a1.N) Tryz.isAgg3 rfl rfl rfl rfl rfl ?_
        obtain ⟨t65, h_t65, H48⟩ := Ji H47; clear H47
        refine Qa 0 1 rfl rfl (by decide) ?_
        refine Q4 (J6 (i := 0) (rds := []) (G := fun x : (Option Addr × Nat) => .int .i64 t65.1) (C := fun x : (Option Addr × Nat) => J0 (Jl pb0 [.int .i64 t65.2.device_, .int .i64 (t65.2.knows_ 0), .int .i64 (t65.2.knows_ 1), .int .i64 (t65.2.knows_ 2), .int .i64 (t65.2.knows_ 3), .int .i64 (t65.2.knows_ 4), .int .i64 (t65.2.knows_ 5), .int .i64 (t65.2.knows_ 6), .int .i64 (t65.2.knows_ 7), .int .i64 (t65.2.knows_ 8), .int .i64 (t65.2.knows_ 9), .int .i64 (t65.2.knows_ 10), .int .i64 (t65.2.knows_ 11), .int .i64 (t65.2.knows_ 12), .int .i64 (t65.2.knows_ 13), .int .i64 (t65.2.knows_ 14), .int .i64 (t65.2.knows_ 15), .slice x.1 t65.2.facts_.length x.2] 60) (J2 45 8 (.slice x.1 t65.2.facts_.length x.2) t65.2.facts_.length (t65.2.facts_.map Jd))) rfl (fun w L' S hF hS hi hp hlt ho hA => k38 hp hlt (Qn w S) hn0_2 h_t65) Tryz.call38 rfl) rfl rfl rfl (fun p_7 => ?_)
        refine Q0 0 1 rfl rfl (by decide) ?_
        refine Ja rfl rfl rfl (Jc (v := .int .i64 t65.1) rfl) ?_
        refine Jg ?_
        refine Jp ?_
        obtain rfl := Option.some.inj H48
        refine Qa 0 1 rfl rfl (by decide) ?_
        refine J3 (v := .int .i64 t65.1) rfl rfl (Yk p_7 (i := 0) rfl rfl (Imp.refl _))
       ·have H49 := Jq hb H46; clear H46
        refine Jf ?_
        try dsimp only [z1, z2, z5, z6, z7, z8]
        refine Jb ?_
        refine Ja rfl rfl rfl (Xd rfl rfl) ?_
        refine Ja rfl rfl rfl (Jc (v := .bool (decide (a1.Kind = 7))) rfl) ?_
        refine Jg ?_
        refine Qg (b := (decide (a1.Kind = 7))) rfl (fun hb => ?_) (fun hb => ?_)
        ·have H50 := Jr hb H49; clear H49
         refine Jf ?_
         refine Jb ?_
         refine Ja rfl rfl rfl (Je (v := .pointer (some ⟨pb0, 0, none⟩)) rfl) ?_
         refine Ja rfl rfl rfl (Jo Tryz.runUnderlying49 rfl Tryz.sizeOf9 rfl rfl) ?_
         refine Jv (i := 2) (v := str a1.Word) Tryz.isAgg9 rfl rfl rfl rfl rfl ?_
         refine Ja rfl rfl rfl (Jo Tryz.runUnderlying49 rfl Tryz.sizeOf3 rfl rfl) ?_
         refine Jv (i := 2) (v := .int .i64 a1.Id) Tryz.isAgg3 rfl rfl rfl rfl rfl ?_
         obtain ⟨t73, h_t73, H51⟩ := Ji H50; clear H50
         refine Qa 0 1 rfl rfl (by decide) ?_
         refine Q4 (J6 (i := 0) (rds := []) (G := fun x : (Option Addr × Nat) => .int .i64 t73.1) (C := fun x : (Option Addr × Nat) => J0 (Jl pb0 [.int .i64 t73.2.device_, .int .i64 (t73.2.knows_ 0), .int .i64 (t73.2.knows_ 1), .int .i64 (t73.2.knows_ 2), .int .i64 (t73.2.knows_ 3), .int .i64 (t73.2.knows_ 4), .int .i64 (t73.2.knows_ 5), .int .i64 (t73.2.knows_ 6), .int .i64 (t73.2.knows_ 7), .int .i64 (t73.2.knows_ 8), .int .i64 (t73.2.knows_ 9), .int .i64 (t73.2.knows_ 10), .int .i64 (t73.2.knows_ 11), .int .i64 (t73.2.knows_ 12), .int .i64 (t73.2.knows_ 13), .int .i64 (t73.2.knows_ 14), .int .i64 (t73.2.knows_ 15), .slice x.1 t73.2.facts_.length x.2] 60) (J2 45 8 (.slice x.1 t73.2.facts_.length x.2) t73.2.facts_.length (t73.2.facts_.map Jd))) rfl (fun w L' S hF hS hi hp hlt ho hA => k39 hp hlt (Qn w S) hn0_2 h_t73) Tryz.call39 rfl) rfl rfl rfl (fun p_8 => ?_)
         refine Q0 0 1 rfl rfl (by decide) ?_
         refine Ja rfl rfl rfl (Jc (v := .int .i64 t73.1) rfl) ?_
         refine Jg ?_
         refine Jp ?_
         obtain rfl := Option.some.inj H51
         refine Qa 0 1 rfl rfl (by decide) ?_
         refine J3 (v := .int .i64 t73.1) rfl rfl (Yk p_8 (i := 0) rfl rfl (Imp.refl _))
        ·have H52 := Jq hb H49; clear H49
         refine Jf ?_
         refine Jb ?_
         refine Ja rfl rfl rfl (Xd rfl rfl) ?_
         refine Ja rfl rfl rfl (Jc (v := .bool (decide (a1.Kind = 8))) rfl) ?_
         refine Jg ?_
         refine Qg (b := (decide (a1.Kind = 8))) rfl (fun hb => ?_) (fun hb => ?_)
         ·have H53 := Jr hb H52; clear H52
          refine Jf ?_
          refine Jb ?_
          refine Ja rfl rfl rfl (Je (v := .pointer (some ⟨pb0, 0, none⟩)) rfl) ?_
          refine Ja rfl rfl rfl (Jo Tryz.runUnderlying49 rfl Tryz.sizeOf9 rfl rfl) ?_
          refine Jv (i := 2) (v := str a1.Word) Tryz.isAgg9 rfl rfl rfl rfl rfl ?_
          obtain ⟨t79, h_t79, H54⟩ := Ji H53; clear H53
          refine Qa 0 1 rfl rfl (by decide) ?_
          refine Q4 (J6 (i := 0) (rds := []) (G := fun x : (Option Addr × Nat) => .int .i64 t79.1) (C := fun x : (Option Addr × Nat) => J0 (Jl pb0 [.int .i64 t79.2.device_, .int .i64 (t79.2.knows_ 0), .int .i64 (t79.2.knows_ 1), .int .i64 (t79.2.knows_ 2), .int .i64 (t79.2.knows_ 3), .int .i64 (t79.2.knows_ 4), .int .i64 (t79.2.knows_ 5), .int .i64 (t79.2.knows_ 6), .int .i64 (t79.2.knows_ 7), .int .i64 (t79.2.knows_ 8), .int .i64 (t79.2.knows_ 9), .int .i64 (t79.2.knows_ 10), .int .i64 (t79.2.knows_ 11), .int .i64 (t79.2.knows_ 12), .int .i64 (t79.2.knows_ 13), .int .i64 (t79.2.knows_ 14), .int .i64 (t79.2.knows_ 15), .slice x.1 t79.2.facts_.length x.2] 60) (J2 45 8 (.slice x.1 t79.2.facts_.length x.2) t79.2.facts_.length (t79.2.facts_.map Jd))) rfl (fun w L' S hF hS hi hp hlt ho hA => k40 hp hlt (Qn w S) hn0_2 h_t79) Tryz.call40 rfl) rfl rfl rfl (fun p_9 => ?_)
          refine Q0 0 1 rfl rfl (by decide) ?_
          refine Ja rfl rfl rfl (Jc (v := .int .i64 t79.1) rfl) ?_
          refine Jg ?_
          refine Jp ?_
          obtain rfl := Option.some.inj H54
          refine Qa 0 1 rfl rfl (by decide) ?_
          refine J3 (v := .int .i64 t79.1) rfl rfl (Yk p_9 (i := 0) rfl rfl (Imp.refl _))
         ·have H55 := Jq hb H52; clear H52
          refine Jw ?_
          refine Jf ?_
          try dsimp only [z1, z2, z5, z6, z7, z8]
          refine Jb ?_
          refine Ja rfl rfl rfl (Je (v := .pointer (some ⟨pb0, 0, none⟩)) rfl) ?_
          refine Ja rfl rfl rfl (Jo Tryz.runUnderlying49 rfl Tryz.sizeOf3 rfl rfl) ?_
          refine Jv (i := 2) (v := .int .i64 a1.Id) Tryz.isAgg3 rfl rfl rfl rfl rfl ?_
          obtain ⟨t83, h_t83, H56⟩ := Ji H55; clear H55
          refine Qa 0 1 rfl rfl (by decide) ?_
          refine Q4 (J6 (i := 0) (rds := []) (G := fun x : (Option Addr × Nat) => .int .i64 t83.1) (C := fun x : (Option Addr × Nat) => J0 (Jl pb0 [.int .i64 t83.2.device_, .int .i64 (t83.2.knows_ 0), .int .i64 (t83.2.knows_ 1), .int .i64 (t83.2.knows_ 2), .int .i64 (t83.2.knows_ 3), .int .i64 (t83.2.knows_ 4), .int .i64 (t83.2.knows_ 5), .int .i64 (t83.2.knows_ 6), .int .i64 (t83.2.knows_ 7), .int .i64 (t83.2.knows_ 8), .int .i64 (t83.2.knows_ 9), .int .i64 (t83.2.knows_ 10), .int .i64 (t83.2.knows_ 11), .int .i64 (t83.2.knows_ 12), .int .i64 (t83.2.knows_ 13), .int .i64 (t83.2.knows_ 14), .int .i64 (t83.2.knows_ 15), .slice x.1 t83.2.facts_.length x.2] 60) (J2 45 8 (.slice x.1 t83.2.facts_.length x.2) t83.2.facts_.length (t83.2.facts_.map Jd))) rfl (fun w L' S hF hS hi hp hlt ho hA => k6 hp hlt (Qn w S) hn0_2 h_t83) Tryz.call6 rfl) rfl rfl rfl (fun p_10 => ?_)
          refine Q0 0 1 rfl rfl (by decide) ?_
          refine Ja rfl rfl rfl (Jc (v := .int .i64 t83.1) rfl) ?_
          refine Jg ?_
          refine Jp ?_
          obtain rfl := Option.some.inj H56
          refine Qa 0 1 rfl rfl (by decide) ?_
          refine J3 (v := .int .i64 t83.1) rfl rfl (Yk p_10 (i := 0) rfl rfl (Imp.refl _))
theorem k5 {a0 : (List T_tintkeep2_Deed)} {v0 : Value} {a1 : (List T_tintkeep2_Deed)} {v1 : Value} {r : (Option (T_sync_Replica × T_sync_Replica × T_sync_Replica)) × Bool} {w : World} {h : Qd} (hw : Know h w Vd) (f0 : FrS h 5 v0 (a0.map Vr)) (f1 : FrS h 5 v1 (a1.map Vr)) (H : Jay a0 a1 = some r) : Does Tryz.prog 5 (List.toArray [v0, v1]) w (fun v w' => ∃ x : (Option Addr × Nat) × Nat × (Option Addr × Nat) × Nat × (Option Addr × Nat) × Nat × (Option Addr × Nat), v = (.tuple #[optS r.1 x.1, .bool r.2]) ∧ Turn w w' Vd (trpC (optS r.1 x.1) r.1 x.1 (fun y_ : T_sync_Replica × T_sync_Replica × T_sync_Replica => J0 (Jz 27 1 (.slice x.1.1 3 x.1.2) 3 (([some ⟨x.2.1, 0, none⟩, some ⟨x.2.2.2.1, 0, none⟩, some ⟨x.2.2.2.2.2.1, 0, none⟩] : List (Option Addr)).map W6)) (J0 ((fun z : T_sync_Replica => J0 (Jl x.2.1 [.int .i64 z.device_, .int .i64 (z.knows_ 0), .int .i64 (z.knows_ 1), .int .i64 (z.knows_ 2), .int .i64 (z.knows_ 3), .int .i64 (z.knows_ 4), .int .i64 (z.knows_ 5), .int .i64 (z.knows_ 6), .int .i64 (z.knows_ 7), .int .i64 (z.knows_ 8), .int .i64 (z.knows_ 9), .int .i64 (z.knows_ 10), .int .i64 (z.knows_ 11), .int .i64 (z.knows_ 12), .int .i64 (z.knows_ 13), .int .i64 (z.knows_ 14), .int .i64 (z.knows_ 15), .slice x.2.2.1.1 z.facts_.length x.2.2.1.2] 60) (J2 45 8 (.slice x.2.2.1.1 z.facts_.length x.2.2.1.2) z.facts_.length (z.facts_.map Jd))) y_.1) (J0 ((fun z : T_sync_Replica => J0 (Jl x.2.2.2.1 [.int .i64 z.device_, .int .i64 (z.knows_ 0), .int .i64 (z.knows_ 1), .int .i64 (z.knows_ 2), .int .i64 (z.knows_ 3), .int .i64 (z.knows_ 4), .int .i64 (z.knows_ 5), .int .i64 (z.knows_ 6), .int .i64 (z.knows_ 7), .int .i64 (z.knows_ 8), .int .i64 (z.knows_ 9), .int .i64 (z.knows_ 10), .int .i64 (z.knows_ 11), .int .i64 (z.knows_ 12), .int .i64 (z.knows_ 13), .int .i64 (z.knows_ 14), .int .i64 (z.knows_ 15), .slice x.2.2.2.2.1.1 z.facts_.length x.2.2.2.2.1.2] 60) (J2 45 8 (.slice x.2.2.2.2.1.1 z.facts_.length x.2.2.2.2.1.2) z.facts_.length (z.facts_.map Jd))) y_.2.1) ((fun z : T_sync_Replica => J0 (Jl x.2.2.2.2.2.1 [.int .i64 z.device_, .int .i64 (z.knows_ 0), .int .i64 (z.knows_ 1), .int .i64 (z.knows_ 2), .int .i64 (z.knows_ 3), .int .i64 (z.knows_ 4), .int .i64 (z.knows_ 5), .int .i64 (z.knows_ 6), .int .i64 (z.knows_ 7), .int .i64 (z.knows_ 8), .int .i64 (z.knows_ 9), .int .i64 (z.knows_ 10), .int .i64 (z.knows_ 11), .int .i64 (z.knows_ 12), .int .i64 (z.knows_ 13), .int .i64 (z.knows_ 14), .int .i64 (z.knows_ 15), .slice x.2.2.2.2.2.2.1 z.facts_.length x.2.2.2.2.2.2.2] 60) (J2 45 8 (.slice x.2.2.2.2.2.2.1 z.facts_.length x.2.2.2.2.2.2.2) z.facts_.length (z.facts_.map Jd))) y_.2.2)))))) := by
 refine enter (n := 74) Tryz.func5 rfl rfl rfl Vd [] (Sat.nil _ _) ?_
 refine Jf ?_
 refine Jb ?_
 refine Ja rfl rfl rfl (Jc (v := .slice none 0 0) rfl) ?_
 refine Ja rfl rfl rfl (Jc (v := .bool false) rfl) ?_
 refine Jg ?_
 refine Jf ?_
 refine Jb ?_
 obtain ⟨t17, h_t17, H57⟩ := Ji H; clear H
 refine Zq (Ql (rds := []) (G := fun x : Nat × (Option Addr × Nat) => .tuple #[optP t17.1 x.1, .int .i64 t17.2]) (C := fun x : Nat × (Option Addr × Nat) => obxC (optP t17.1 x.1) t17.1 x.1 (fun z : T_sync_Replica => J0 (Jl x.1 [.int .i64 z.device_, .int .i64 (z.knows_ 0), .int .i64 (z.knows_ 1), .int .i64 (z.knows_ 2), .int .i64 (z.knows_ 3), .int .i64 (z.knows_ 4), .int .i64 (z.knows_ 5), .int .i64 (z.knows_ 6), .int .i64 (z.knows_ 7), .int .i64 (z.knows_ 8), .int .i64 (z.knows_ 9), .int .i64 (z.knows_ 10), .int .i64 (z.knows_ 11), .int .i64 (z.knows_ 12), .int .i64 (z.knows_ 13), .int .i64 (z.knows_ 14), .int .i64 (z.knows_ 15), .slice x.2.1 z.facts_.length x.2.2] 60) (J2 45 8 (.slice x.2.1 z.facts_.length x.2.2) z.facts_.length (z.facts_.map Jd)))) (fun w L' hF hS hi => k15 (Jx w)  h_t17) Tryz.call15 rfl) rfl rfl rfl (fun ⟨p, p_2⟩ => ?_)
 refine Ja rfl rfl rfl (Je (v := .tuple #[optP t17.1 p, .int .i64 t17.2]) rfl) ?_
 refine Ja rfl rfl rfl (Xh (v := optP t17.1 p) rfl rfl) ?_
 refine Ja rfl rfl rfl (Xh (v := .int .i64 t17.2) rfl rfl) ?_
 refine Ja rfl rfl rfl (Jc (v := optP t17.1 p) rfl) ?_
 refine Ja rfl rfl rfl (Jc (v := .int .i64 t17.2) rfl) ?_
 refine Jg ?_
 refine Jf ?_
 refine Jf ?_
 refine Jb ?_
 refine Ja rfl rfl rfl (Je (v := .int .i64 t17.2) rfl) ?_
 refine Ja rfl rfl rfl (r_neq rfl rfl) ?_
 refine Jg ?_
 refine Qg (b := (decide (t17.2 ≠ 0))) rfl (fun hb => ?_) (fun hb => ?_)
 ·have H58 := Jr hb H57; clear H57
  refine Jf ?_
  refine Jb ?_
  refine Ja rfl rfl rfl (Jc (v := .slice none 0 0) rfl) ?_
  refine Ja rfl rfl rfl (Jc (v := .bool false) rfl) ?_
  refine Jg ?_
  refine Jp ?_
  refine c_emp ?_
  refine Ww 1 rfl (imp_trpNil (q := ((none, 0) : Option Addr × Nat)) (fun y_ : T_sync_Replica × T_sync_Replica × T_sync_Replica => J0 (Jz 27 1 (.slice ((none, 0) : Option Addr × Nat).1 3 ((none, 0) : Option Addr × Nat).2) 3 (([some ⟨0, 0, none⟩, some ⟨0, 0, none⟩, some ⟨0, 0, none⟩] : List (Option Addr)).map W6)) (J0 ((fun z : T_sync_Replica => J0 (Jl 0 [.int .i64 z.device_, .int .i64 (z.knows_ 0), .int .i64 (z.knows_ 1), .int .i64 (z.knows_ 2), .int .i64 (z.knows_ 3), .int .i64 (z.knows_ 4), .int .i64 (z.knows_ 5), .int .i64 (z.knows_ 6), .int .i64 (z.knows_ 7), .int .i64 (z.knows_ 8), .int .i64 (z.knows_ 9), .int .i64 (z.knows_ 10), .int .i64 (z.knows_ 11), .int .i64 (z.knows_ 12), .int .i64 (z.knows_ 13), .int .i64 (z.knows_ 14), .int .i64 (z.knows_ 15), .slice ((none, 0) : Option Addr × Nat).1 z.facts_.length ((none, 0) : Option Addr × Nat).2] 60) (J2 45 8 (.slice ((none, 0) : Option Addr × Nat).1 z.facts_.length ((none, 0) : Option Addr × Nat).2) z.facts_.length (z.facts_.map Jd))) y_.1) (J0 ((fun z : T_sync_Replica => J0 (Jl 0 [.int .i64 z.device_, .int .i64 (z.knows_ 0), .int .i64 (z.knows_ 1), .int .i64 (z.knows_ 2), .int .i64 (z.knows_ 3), .int .i64 (z.knows_ 4), .int .i64 (z.knows_ 5), .int .i64 (z.knows_ 6), .int .i64 (z.knows_ 7), .int .i64 (z.knows_ 8), .int .i64 (z.knows_ 9), .int .i64 (z.knows_ 10), .int .i64 (z.knows_ 11), .int .i64 (z.knows_ 12), .int .i64 (z.knows_ 13), .int .i64 (z.knows_ 14), .int .i64 (z.knows_ 15), .slice ((none, 0) : Option Addr × Nat).1 z.facts_.length ((none, 0) : Option Addr × Nat).2] 60) (J2 45 8 (.slice ((none, 0) : Option Addr × Nat).1 z.facts_.length ((none, 0) : Option Addr × Nat).2) z.facts_.length (z.facts_.map Jd))) y_.2.1) ((fun z : T_sync_Replica => J0 (Jl 0 [.int .i64 z.device_, .int .i64 (z.knows_ 0), .int .i64 (z.knows_ 1), .int .i64 (z.knows_ 2), .int .i64 (z.knows_ 3), .int .i64 (z.knows_ 4), .int .i64 (z.knows_ 5), .int .i64 (z.knows_ 6), .int .i64 (z.knows_ 7), .int .i64 (z.knows_ 8), .int .i64 (z.knows_ 9), .int .i64 (z.knows_ 10), .int .i64 (z.knows_ 11), .int .i64 (z.knows_ 12), .int .i64 (z.knows_ 13), .int .i64 (z.knows_ 14), .int .i64 (z.knows_ 15), .slice ((none, 0) : Option Addr × Nat).1 z.facts_.length ((none, 0) : Option Addr × Nat).2] 60) (J2 45 8 (.slice ((none, 0) : Option Addr × Nat).1 z.facts_.length ((none, 0) : Option Addr × Nat).2) z.facts_.length (z.facts_.map Jd))) y_.2.2))))) ?_
  obtain rfl := Option.some.inj H58
  refine ret2 (v1 := optS (none : (Option (T_sync_Replica × T_sync_Replica × T_sync_Replica))) ((none, 0) : Option Addr × Nat)) (v2 := .bool false) rfl rfl rfl (Yk (((none, 0) : Option Addr × Nat), 0, ((none, 0) : Option Addr × Nat), 0, ((none, 0) : Option Addr × Nat), 0, ((none, 0) : Option Addr × Nat)) (i := 1) rfl rfl (Imp.refl _))
 ·have H59 := Jq hb H57; clear H57
  refine Jw ?_
  refine Xu (r := r) (σ := Int × (Nat → Int) × (List T_sync_Fact)) (τ := (Option Addr × Nat)) (fun s => Uv a1 s.1 s.2.1 s.2.2) (fun s t => [(1, v1), (6, .pointer (some ⟨p, 0, none⟩))]) (fun s t => [Jl p [.int .i64 s.1, .int .i64 (s.2.1 0), .int .i64 (s.2.1 1), .int .i64 (s.2.1 2), .int .i64 (s.2.1 3), .int .i64 (s.2.1 4), .int .i64 (s.2.1 5), .int .i64 (s.2.1 6), .int .i64 (s.2.1 7), .int .i64 (s.2.1 8), .int .i64 (s.2.1 9), .int .i64 (s.2.1 10), .int .i64 (s.2.1 11), .int .i64 (s.2.1 12), .int .i64 (s.2.1 13), .int .i64 (s.2.1 14), .int .i64 (s.2.1 15), .slice t.1 s.2.2.length t.2] 60, J2 45 8 (.slice t.1 s.2.2.length t.2) s.2.2.length (s.2.2.map Jd)]) (fun s t => True) ?_ ?_
  ·refine Jf ?_
   refine Jb ?_
   refine Ja rfl rfl rfl (Je (v := v0) rfl) ?_
   refine Ja rfl rfl rfl (Uh Tryz.underlying22 rfl f0 rfl) ?_
   refine Ja rfl rfl rfl (Je (v := .int .i64 0) rfl) ?_
   refine Jg ?_
   refine J5 ?_
   obtain ⟨z_3, h_z_3, H78⟩ := Ji H59; clear H59
   refine c_obx 0 rfl h_z_3 (fun hpv_ => ?_)
   rw [hpv_]; clear hpv_
   refine Yo 0 rfl ?_
   refine Vn (σ := Int × Int × (Nat → Int) × (List T_sync_Fact)) (τ := (Option Addr × Nat)) (fun next3 s => Zc a0 a1 next3 s.1 s.2.1 s.2.2.1 s.2.2.2) (fun s t => [(1, v1), (6, .pointer (some ⟨p, 0, none⟩)), (22, v0), (23, .int .i64 (a0.length : Int)), (24, .int .i64 s.1)]) (fun s t => [Jl p [.int .i64 s.2.1, .int .i64 (s.2.2.1 0), .int .i64 (s.2.2.1 1), .int .i64 (s.2.2.1 2), .int .i64 (s.2.2.1 3), .int .i64 (s.2.2.1 4), .int .i64 (s.2.2.1 5), .int .i64 (s.2.2.1 6), .int .i64 (s.2.2.1 7), .int .i64 (s.2.2.1 8), .int .i64 (s.2.2.1 9), .int .i64 (s.2.2.1 10), .int .i64 (s.2.2.1 11), .int .i64 (s.2.2.1 12), .int .i64 (s.2.2.1 13), .int .i64 (s.2.2.1 14), .int .i64 (s.2.2.1 15), .slice t.1 s.2.2.2.length t.2] 60, J2 45 8 (.slice t.1 s.2.2.2.length t.2) s.2.2.2.length (s.2.2.2.map Jd)]) (fun s t => True) (0, z_3.device_, z_3.knows_, z_3.facts_) p_2 [0, 1] H78 (by exact trivial) (by exact ⟨rfl, rfl, rfl, rfl, rfl, trivial⟩) (by decide) rfl ?_
   rintro ⟨x24_2, m_5, m_6, l_3⟩ p_10 m3 gg H79 _
   clear H78
   replace H79 : Zc a0 a1 (it (fun next3 s => Zc a0 a1 next3 s.1 s.2.1 s.2.2.1 s.2.2.2) m3) x24_2 m_5 m_6 l_3 = some r := H79
   generalize hn3 : it (fun next3 s => Zc a0 a1 next3 s.1 s.2.1 s.2.2.1 s.2.2.2) m3 = next3 at H79
   try dsimp only
   refine Jf ?_
   refine Jb ?_
   refine Ja rfl rfl rfl (Zd rfl rfl) ?_
   refine Jg ?_
   refine Jf ?_
   refine Qg (b := (decide (x24_2 < (a0.length : Int)))) rfl (fun hb => ?_) (fun hb => ?_)
   ·have H80 := Jr hb H79; clear H79
    refine Jw ?_
    refine Jf ?_
    refine J5 ?_
    refine Jf ?_
    refine Jb ?_
    obtain ⟨t26, h_t26, H81⟩ := Ji H80; clear H80
    refine Ja rfl rfl rfl (Z6 Tryz.underlying22 Tryz.sizeOf49 rfl rfl f0 h_t26) ?_
    refine Qo (fun w hF hS => X4 (f := Vr) (i := x24_2) (sz := 5) (j := 0) (vs := [.int .i64 t26.Kind, .int .i64 t26.Who, .int .i64 t26.Id, .int .i64 t26.N, str t26.Word]) Tryz.isAgg49 Tryz.sizeOf49 rfl rfl (f0.row (hw.now hF)) h_t26 rfl) rfl rfl rfl ?_
    refine Zv (cs := [.int .i64 0, .int .i64 0, .int .i64 0, .int .i64 0, str []]) Tryz.zeroValue49 rfl rfl rfl (fun b11 => ?_)
    refine Xt (i := 2) (vs := [.int .i64 t26.Kind, .int .i64 t26.Who, .int .i64 t26.Id, .int .i64 t26.N, str t26.Word]) (cs' := [.int .i64 t26.Kind, .int .i64 t26.Who, .int .i64 t26.Id, .int .i64 t26.N, str t26.Word]) Tryz.sizeOf49 rfl rfl rfl rfl rfl rfl rfl rfl rfl ?_
    refine Jg ?_
    try dsimp only [z1, z2, z5, z6, z7, z8]
    refine Jb ?_
    refine Ja rfl rfl rfl (Je (v := .pointer (some ⟨p, 0, none⟩)) rfl) ?_
    refine Ym (i := 2) (vs := [.int .i64 t26.Kind, .int .i64 t26.Who, .int .i64 t26.Id, .int .i64 t26.N, str t26.Word]) Tryz.isAgg49 Tryz.sizeOf49 rfl rfl rfl rfl rfl ?_
    obtain ⟨t30, h_t30, H82⟩ := Ji H81; clear H81
    refine Qa 0 1 rfl rfl (by decide) ?_
    refine Q4 (J6 (i := 0) (rds := []) (G := fun x : (Option Addr × Nat) => .int .i64 t30.1) (C := fun x : (Option Addr × Nat) => J0 (Jl p [.int .i64 t30.2.device_, .int .i64 (t30.2.knows_ 0), .int .i64 (t30.2.knows_ 1), .int .i64 (t30.2.knows_ 2), .int .i64 (t30.2.knows_ 3), .int .i64 (t30.2.knows_ 4), .int .i64 (t30.2.knows_ 5), .int .i64 (t30.2.knows_ 6), .int .i64 (t30.2.knows_ 7), .int .i64 (t30.2.knows_ 8), .int .i64 (t30.2.knows_ 9), .int .i64 (t30.2.knows_ 10), .int .i64 (t30.2.knows_ 11), .int .i64 (t30.2.knows_ 12), .int .i64 (t30.2.knows_ 13), .int .i64 (t30.2.knows_ 14), .int .i64 (t30.2.knows_ 15), .slice x.1 t30.2.facts_.length x.2] 60) (J2 45 8 (.slice x.1 t30.2.facts_.length x.2) t30.2.facts_.length (t30.2.facts_.map Jd))) rfl (fun w L' S hF hS hi hp hlt ho hA => k16 hp hlt (Qn w S) rfl h_t30) Tryz.call16 rfl) rfl rfl rfl (fun p_11 => ?_)
    refine Q0 0 1 rfl rfl (by decide) ?_
    refine Jg ?_
    refine Jb ?_
    obtain ⟨t31, h_t31, H83⟩ := Ji H82; clear H82
    refine Ja rfl rfl rfl (Yj rfl rfl h_t31) ?_
    refine Ja rfl rfl rfl (Je (v := .int .i64 t31) rfl) ?_
    refine Jg ?_
    refine Js (t31, t30.2.device_, t30.2.knows_, t30.2.facts_) p_11 m3 [0, 1] (by exact ⟨rfl, rfl, rfl, rfl, rfl, trivial⟩) (by decide) rfl (by exact ⟨(by subst hn3; exact H83), trivial⟩) (Nat.lt_succ_self _)
   ·have H84 := Jq hb H79; clear H79
    refine Xi ?_
    refine Js (m_5, m_6, l_3) p_10 0 [0, 1] (by exact ⟨rfl, rfl, trivial⟩) (by decide) rfl (by exact ⟨H84, trivial⟩) (Nat.lt_succ_self _)
  ·rintro ⟨m, m_2, l⟩ p_3 gg H60 _
   replace H60 : Uv a1 m m_2 l = some r := H60
   try dsimp only
   refine Jf ?_
   refine Jb ?_
   refine Ja rfl rfl rfl (Je (v := .pointer (some ⟨p, 0, none⟩)) rfl) ?_
   refine Y8 (vs := [.pointer (some ⟨p, 0, none⟩)]) (cs := [.pointer (some ⟨p, 0, none⟩)]) Tryz.underlying24 Tryz.sizeOf27 Tryz.zeroValue27 rfl rfl rfl rfl rfl rfl rfl (fun b8 => ?_)
   refine Ww 2 rfl (imp_box (m := 1) (E := 27) (sz := 1) (xs := ([some ⟨p, 0, none⟩] : List (Option Addr)).map W6) rfl rfl rfl ⟨rfl, by decide⟩) ?_
   refine Ja rfl rfl rfl (Jc (v := .slice ((some ⟨b8, 0, none⟩, 1) : Option Addr × Nat).1 1 ((some ⟨b8, 0, none⟩, 1) : Option Addr × Nat).2) rfl) ?_
   refine Jg ?_
   refine Jf ?_
   refine Jf ?_
   refine Jb ?_
   refine Ja rfl rfl rfl (Jc (v := .int .i64 1) rfl) ?_
   refine Jg ?_
   refine J5 ?_
   refine c_loopR 100 ?_
   refine c_round ?_
   refine Jf ?_
   refine Jf ?_
   refine Jb ?_
   refine Ja rfl rfl rfl (Je (v := .int .i64 1) rfl) ?_
   refine Ja rfl rfl rfl (Zd rfl rfl) ?_
   refine Jg ?_
   refine U3 rfl ?_
   refine Jw ?_
   refine Jf ?_
   refine J5 ?_
   refine Jf ?_
   refine Jb ?_
   refine Ja rfl rfl rfl (Je (v := .pointer (some ⟨p, 0, none⟩)) rfl) ?_
   refine Ja rfl rfl rfl (Je (v := .int .i64 1) rfl) ?_
   obtain ⟨t41, h_t41, H61⟩ := Ji H60; clear H60
   refine Zq (Ql (rds := [0, 1]) (G := fun x : Nat × (Option Addr × Nat) => .tuple #[optP t41.1 x.1, .int .i64 t41.2]) (C := fun x : Nat × (Option Addr × Nat) => obxC (optP t41.1 x.1) t41.1 x.1 (fun z : T_sync_Replica => J0 (Jl x.1 [.int .i64 z.device_, .int .i64 (z.knows_ 0), .int .i64 (z.knows_ 1), .int .i64 (z.knows_ 2), .int .i64 (z.knows_ 3), .int .i64 (z.knows_ 4), .int .i64 (z.knows_ 5), .int .i64 (z.knows_ 6), .int .i64 (z.knows_ 7), .int .i64 (z.knows_ 8), .int .i64 (z.knows_ 9), .int .i64 (z.knows_ 10), .int .i64 (z.knows_ 11), .int .i64 (z.knows_ 12), .int .i64 (z.knows_ 13), .int .i64 (z.knows_ 14), .int .i64 (z.knows_ 15), .slice x.2.1 z.facts_.length x.2.2] 60) (J2 45 8 (.slice x.2.1 z.facts_.length x.2.2) z.facts_.length (z.facts_.map Jd)))) (fun w L' hF hS hi => k17 (Jx w) (Zp (i := 1) rfl hS ((hi 1 (by simp)).trans rfl)) (Qj (i := 0) hS ((hi 0 (by simp)).trans rfl)) h_t41) Tryz.call17 rfl) rfl rfl rfl (fun ⟨p_4, p_5⟩ => ?_)
   refine Ja rfl rfl rfl (Je (v := .tuple #[optP t41.1 p_4, .int .i64 t41.2]) rfl) ?_
   refine Ja rfl rfl rfl (Xh (v := optP t41.1 p_4) rfl rfl) ?_
   refine Ja rfl rfl rfl (Xh (v := .int .i64 t41.2) rfl rfl) ?_
   refine Ja rfl rfl rfl (Jc (v := optP t41.1 p_4) rfl) ?_
   refine Ja rfl rfl rfl (Jc (v := .int .i64 t41.2) rfl) ?_
   refine Jg ?_
   refine Jf ?_
   refine Jf ?_
   try dsimp only [z1, z2, z5, z6, z7, z8]
   refine Jb ?_
   refine Ja rfl rfl rfl (Je (v := .int .i64 t41.2) rfl) ?_
   refine Ja rfl rfl rfl (r_neq rfl rfl) ?_
   refine Ja rfl rfl rfl (Je (v := .bool (decide (t41.2 ≠ 0))) rfl) ?_
   refine split (fun hb => ?_) (fun hb => ?_)
   ·have H62 := Jr hb H61; clear H61
    refine Jk rfl rfl rfl ?_
    refine Jk rfl rfl rfl ?_
    refine Jk rfl rfl rfl ?_
    refine Jk rfl rfl rfl ?_
    refine Ja rfl rfl rfl (J7 (v := .bool true) rfl rfl) ?_
    refine Jg ?_
    refine U3 rfl ?_
    refine Jf ?_
    refine Jb ?_
    refine Ja rfl rfl rfl (Jc (v := .slice none 0 0) rfl) ?_
    refine Ja rfl rfl rfl (Jc (v := .bool false) rfl) ?_
    refine Jg ?_
    refine Jp ?_
    refine c_emp ?_
    refine Ww 4 rfl (imp_trpNil (q := ((none, 0) : Option Addr × Nat)) (fun y_ : T_sync_Replica × T_sync_Replica × T_sync_Replica => J0 (Jz 27 1 (.slice ((none, 0) : Option Addr × Nat).1 3 ((none, 0) : Option Addr × Nat).2) 3 (([some ⟨0, 0, none⟩, some ⟨0, 0, none⟩, some ⟨0, 0, none⟩] : List (Option Addr)).map W6)) (J0 ((fun z : T_sync_Replica => J0 (Jl 0 [.int .i64 z.device_, .int .i64 (z.knows_ 0), .int .i64 (z.knows_ 1), .int .i64 (z.knows_ 2), .int .i64 (z.knows_ 3), .int .i64 (z.knows_ 4), .int .i64 (z.knows_ 5), .int .i64 (z.knows_ 6), .int .i64 (z.knows_ 7), .int .i64 (z.knows_ 8), .int .i64 (z.knows_ 9), .int .i64 (z.knows_ 10), .int .i64 (z.knows_ 11), .int .i64 (z.knows_ 12), .int .i64 (z.knows_ 13), .int .i64 (z.knows_ 14), .int .i64 (z.knows_ 15), .slice ((none, 0) : Option Addr × Nat).1 z.facts_.length ((none, 0) : Option Addr × Nat).2] 60) (J2 45 8 (.slice ((none, 0) : Option Addr × Nat).1 z.facts_.length ((none, 0) : Option Addr × Nat).2) z.facts_.length (z.facts_.map Jd))) y_.1) (J0 ((fun z : T_sync_Replica => J0 (Jl 0 [.int .i64 z.device_, .int .i64 (z.knows_ 0), .int .i64 (z.knows_ 1), .int .i64 (z.knows_ 2), .int .i64 (z.knows_ 3), .int .i64 (z.knows_ 4), .int .i64 (z.knows_ 5), .int .i64 (z.knows_ 6), .int .i64 (z.knows_ 7), .int .i64 (z.knows_ 8), .int .i64 (z.knows_ 9), .int .i64 (z.knows_ 10), .int .i64 (z.knows_ 11), .int .i64 (z.knows_ 12), .int .i64 (z.knows_ 13), .int .i64 (z.knows_ 14), .int .i64 (z.knows_ 15), .slice ((none, 0) : Option Addr × Nat).1 z.facts_.length ((none, 0) : Option Addr × Nat).2] 60) (J2 45 8 (.slice ((none, 0) : Option Addr × Nat).1 z.facts_.length ((none, 0) : Option Addr × Nat).2) z.facts_.length (z.facts_.map Jd))) y_.2.1) ((fun z : T_sync_Replica => J0 (Jl 0 [.int .i64 z.device_, .int .i64 (z.knows_ 0), .int .i64 (z.knows_ 1), .int .i64 (z.knows_ 2), .int .i64 (z.knows_ 3), .int .i64 (z.knows_ 4), .int .i64 (z.knows_ 5), .int .i64 (z.knows_ 6), .int .i64 (z.knows_ 7), .int .i64 (z.knows_ 8), .int .i64 (z.knows_ 9), .int .i64 (z.knows_ 10), .int .i64 (z.knows_ 11), .int .i64 (z.knows_ 12), .int .i64 (z.knows_ 13), .int .i64 (z.knows_ 14), .int .i64 (z.knows_ 15), .slice ((none, 0) : Option Addr × Nat).1 z.facts_.length ((none, 0) : Option Addr × Nat).2] 60) (J2 45 8 (.slice ((none, 0) : Option Addr × Nat).1 z.facts_.length ((none, 0) : Option Addr × Nat).2) z.facts_.length (z.facts_.map Jd))) y_.2.2))))) ?_
    obtain rfl := Option.some.inj H62
    refine ret2 (v1 := optS (none : (Option (T_sync_Replica × T_sync_Replica × T_sync_Replica))) ((none, 0) : Option Addr × Nat)) (v2 := .bool false) rfl rfl rfl (Yk (((none, 0) : Option Addr × Nat), 0, ((none, 0) : Option Addr × Nat), 0, ((none, 0) : Option Addr × Nat), 0, ((none, 0) : Option Addr × Nat)) (i := 4) rfl rfl (Imp.refl _))
   ·have H63 := Jq hb H61; clear H61
    refine Ja rfl rfl rfl (Je (v := optP t41.1 p_4) rfl) ?_
    refine Ja rfl rfl rfl (Je (v := .pointer (some ⟨p, 0, none⟩)) rfl) ?_
    obtain ⟨z, h_z, H64⟩ := Ji H63; clear H63
    refine c_obx 3 rfl h_z (fun hpv_ => ?_)
    rw [hpv_]; clear hpv_
    refine Yo 3 rfl ?_
    obtain ⟨t49, h_t49, H65⟩ := Ji H64; clear H64
    refine Yv (fun w hF hS => k18 (Jx w) (Zp (i := 4) rfl hS rfl) (Qj (i := 3) hS rfl) (Zp (i := 1) rfl hS rfl) (Qj (i := 0) hS rfl) h_t49) Tryz.call18 rfl rfl rfl ?_
    refine Ja rfl rfl rfl (Zm rfl) ?_
    refine Ja rfl rfl rfl (J1 (v := .bool (!t49)) rfl rfl) ?_
    refine Jg ?_
    refine Qg (b := (!t49)) rfl (fun hb => ?_) (fun hb => ?_)
    ·have H66 := Jr hb H65; clear H65
     refine Jf ?_
     refine Jb ?_
     refine Ja rfl rfl rfl (Jc (v := .slice none 0 0) rfl) ?_
     refine Ja rfl rfl rfl (Jc (v := .bool false) rfl) ?_
     refine Jg ?_
     refine Jp ?_
     refine c_emp ?_
     refine Ww 5 rfl (imp_trpNil (q := ((none, 0) : Option Addr × Nat)) (fun y_ : T_sync_Replica × T_sync_Replica × T_sync_Replica => J0 (Jz 27 1 (.slice ((none, 0) : Option Addr × Nat).1 3 ((none, 0) : Option Addr × Nat).2) 3 (([some ⟨0, 0, none⟩, some ⟨0, 0, none⟩, some ⟨0, 0, none⟩] : List (Option Addr)).map W6)) (J0 ((fun z : T_sync_Replica => J0 (Jl 0 [.int .i64 z.device_, .int .i64 (z.knows_ 0), .int .i64 (z.knows_ 1), .int .i64 (z.knows_ 2), .int .i64 (z.knows_ 3), .int .i64 (z.knows_ 4), .int .i64 (z.knows_ 5), .int .i64 (z.knows_ 6), .int .i64 (z.knows_ 7), .int .i64 (z.knows_ 8), .int .i64 (z.knows_ 9), .int .i64 (z.knows_ 10), .int .i64 (z.knows_ 11), .int .i64 (z.knows_ 12), .int .i64 (z.knows_ 13), .int .i64 (z.knows_ 14), .int .i64 (z.knows_ 15), .slice ((none, 0) : Option Addr × Nat).1 z.facts_.length ((none, 0) : Option Addr × Nat).2] 60) (J2 45 8 (.slice ((none, 0) : Option Addr × Nat).1 z.facts_.length ((none, 0) : Option Addr × Nat).2) z.facts_.length (z.facts_.map Jd))) y_.1) (J0 ((fun z : T_sync_Replica => J0 (Jl 0 [.int .i64 z.device_, .int .i64 (z.knows_ 0), .int .i64 (z.knows_ 1), .int .i64 (z.knows_ 2), .int .i64 (z.knows_ 3), .int .i64 (z.knows_ 4), .int .i64 (z.knows_ 5), .int .i64 (z.knows_ 6), .int .i64 (z.knows_ 7), .int .i64 (z.knows_ 8), .int .i64 (z.knows_ 9), .int .i64 (z.knows_ 10), .int .i64 (z.knows_ 11), .int .i64 (z.knows_ 12), .int .i64 (z.knows_ 13), .int .i64 (z.knows_ 14), .int .i64 (z.knows_ 15), .slice ((none, 0) : Option Addr × Nat).1 z.facts_.length ((none, 0) : Option Addr × Nat).2] 60) (J2 45 8 (.slice ((none, 0) : Option Addr × Nat).1 z.facts_.length ((none, 0) : Option Addr × Nat).2) z.facts_.length (z.facts_.map Jd))) y_.2.1) ((fun z : T_sync_Replica => J0 (Jl 0 [.int .i64 z.device_, .int .i64 (z.knows_ 0), .int .i64 (z.knows_ 1), .int .i64 (z.knows_ 2), .int .i64 (z.knows_ 3), .int .i64 (z.knows_ 4), .int .i64 (z.knows_ 5), .int .i64 (z.knows_ 6), .int .i64 (z.knows_ 7), .int .i64 (z.knows_ 8), .int .i64 (z.knows_ 9), .int .i64 (z.knows_ 10), .int .i64 (z.knows_ 11), .int .i64 (z.knows_ 12), .int .i64 (z.knows_ 13), .int .i64 (z.knows_ 14), .int .i64 (z.knows_ 15), .slice ((none, 0) : Option Addr × Nat).1 z.facts_.length ((none, 0) : Option Addr × Nat).2] 60) (J2 45 8 (.slice ((none, 0) : Option Addr × Nat).1 z.facts_.length ((none, 0) : Option Addr × Nat).2) z.facts_.length (z.facts_.map Jd))) y_.2.2))))) ?_
     obtain rfl := Option.some.inj H66
     refine ret2 (v1 := optS (none : (Option (T_sync_Replica × T_sync_Replica × T_sync_Replica))) ((none, 0) : Option Addr × Nat)) (v2 := .bool false) rfl rfl rfl (Yk (((none, 0) : Option Addr × Nat), 0, ((none, 0) : Option Addr × Nat), 0, ((none, 0) : Option Addr × Nat), 0, ((none, 0) : Option Addr × Nat)) (i := 5) rfl rfl (Imp.refl _))
    ·have H67 := Jq hb H65; clear H65
     refine Jw ?_
     refine Jb ?_
     refine Ja rfl rfl rfl (Je (v := .slice ((some ⟨b8, 0, none⟩, 1) : Option Addr × Nat).1 1 ((some ⟨b8, 0, none⟩, 1) : Option Addr × Nat).2) rfl) ?_
     refine Ja rfl rfl rfl (Je (v := .pointer (some ⟨p_4, 0, none⟩)) rfl) ?_
     refine Y8 (vs := [.pointer (some ⟨p_4, 0, none⟩)]) (cs := [.pointer (some ⟨p_4, 0, none⟩)]) Tryz.underlying24 Tryz.sizeOf27 Tryz.zeroValue27 rfl rfl rfl rfl rfl rfl rfl (fun b9 => ?_)
     refine Ww 5 rfl (imp_box (m := 1) (E := 27) (sz := 1) (xs := ([some ⟨p_4, 0, none⟩] : List (Option Addr)).map W6) rfl rfl rfl ⟨rfl, by decide⟩) ?_
     refine Q4 (Wi (i := 2) (hn := rfl) (rds := [5]) (p := ((some ⟨b8, 0, none⟩, 1) : Option Addr × Nat)) (sz := 1) (by_ := 8) (f := W6) (ys := ([some ⟨p, 0, none⟩] : List (Option Addr))) (ls := ([some ⟨p_4, 0, none⟩] : List (Option Addr))) (zs := ([some ⟨p, 0, none⟩, some ⟨p_4, 0, none⟩] : List (Option Addr))) (V := .slice ((some ⟨b9, 0, none⟩, 1) : Option Addr × Nat).1 1 ((some ⟨b9, 0, none⟩, 1) : Option Addr × Nat).2) Tryz.underlying24 (Jae Tryz.typeInfo27) rfl rfl rfl rfl rfl rfl rfl rfl rfl rfl (fun w L' hF hS hi => W0 (i := 5) (E := 27) (sz := 1) (n := 1) (a := ((some ⟨b9, 0, none⟩, 1) : Option Addr × Nat).1) (c := ((some ⟨b9, 0, none⟩, 1) : Option Addr × Nat).2) (xs := ([some ⟨p_4, 0, none⟩] : List (Option Addr)).map W6) hS ((hi 5 (by simp)).trans rfl)) (fun _ => rfl) (fun _ => rfl) rfl) rfl rfl rfl (fun p_6 => ?_)
     refine Ja rfl rfl rfl (Jc (v := .slice p_6.1 2 p_6.2) rfl) ?_
     refine Jg ?_
     try dsimp only [z1, z2, z5, z6, z7, z8]
     refine Jb ?_
     refine Ja rfl rfl rfl (Je (v := .int .i64 1) rfl) ?_
     refine Ja rfl rfl rfl (Yj rfl rfl (show gI (1 + 1) = some 2 from rfl)) ?_
     refine Ja rfl rfl rfl (Jc (v := .int .i64 2) rfl) ?_
     refine Jg ?_
     refine c_round ?_
     refine Jf ?_
     refine Jf ?_
     refine Jb ?_
     refine Ja rfl rfl rfl (Je (v := .int .i64 2) rfl) ?_
     refine Ja rfl rfl rfl (Zd rfl rfl) ?_
     refine Jg ?_
     refine U3 rfl ?_
     refine Jw ?_
     refine Jf ?_
     refine J5 ?_
     refine Jf ?_
     refine Jb ?_
     refine Ja rfl rfl rfl (Je (v := .pointer (some ⟨p, 0, none⟩)) rfl) ?_
     refine Ja rfl rfl rfl (Je (v := .int .i64 2) rfl) ?_
     obtain ⟨t41_2, h_t41_2, H68⟩ := Ji H67; clear H67
     refine Zq (Ql (rds := [0, 1]) (G := fun x : Nat × (Option Addr × Nat) => .tuple #[optP t41_2.1 x.1, .int .i64 t41_2.2]) (C := fun x : Nat × (Option Addr × Nat) => obxC (optP t41_2.1 x.1) t41_2.1 x.1 (fun z : T_sync_Replica => J0 (Jl x.1 [.int .i64 z.device_, .int .i64 (z.knows_ 0), .int .i64 (z.knows_ 1), .int .i64 (z.knows_ 2), .int .i64 (z.knows_ 3), .int .i64 (z.knows_ 4), .int .i64 (z.knows_ 5), .int .i64 (z.knows_ 6), .int .i64 (z.knows_ 7), .int .i64 (z.knows_ 8), .int .i64 (z.knows_ 9), .int .i64 (z.knows_ 10), .int .i64 (z.knows_ 11), .int .i64 (z.knows_ 12), .int .i64 (z.knows_ 13), .int .i64 (z.knows_ 14), .int .i64 (z.knows_ 15), .slice x.2.1 z.facts_.length x.2.2] 60) (J2 45 8 (.slice x.2.1 z.facts_.length x.2.2) z.facts_.length (z.facts_.map Jd)))) (fun w L' hF hS hi => k17 (Jx w) (Zp (i := 1) rfl hS ((hi 1 (by simp)).trans rfl)) (Qj (i := 0) hS ((hi 0 (by simp)).trans rfl)) h_t41_2) Tryz.call17 rfl) rfl rfl rfl (fun ⟨p_7, p_8⟩ => ?_)
     refine Ja rfl rfl rfl (Je (v := .tuple #[optP t41_2.1 p_7, .int .i64 t41_2.2]) rfl) ?_
     refine Ja rfl rfl rfl (Xh (v := optP t41_2.1 p_7) rfl rfl) ?_
     refine Ja rfl rfl rfl (Xh (v := .int .i64 t41_2.2) rfl rfl) ?_
     refine Ja rfl rfl rfl (Jc (v := optP t41_2.1 p_7) rfl) ?_
     refine Ja rfl rfl rfl (Jc (v := .int .i64 t41_2.2) rfl) ?_
     refine Jg ?_
     refine Jf ?_
     refine Jf ?_
     refine Jb ?_
     refine Ja rfl rfl rfl (Je (v := .int .i64 t41_2.2) rfl) ?_
     refine Ja rfl rfl rfl (r_neq rfl rfl) ?_
     refine Ja rfl rfl rfl (Je (v := .bool (decide (t41_2.2 ≠ 0))) rfl) ?_
     refine split (fun hb => ?_) (fun hb => ?_)
     ·have H69 := Jr hb H68; clear H68
      refine Jk rfl rfl rfl ?_
      refine Jk rfl rfl rfl ?_
      refine Jk rfl rfl rfl ?_
      refine Jk rfl rfl rfl ?_
      refine Ja rfl rfl rfl (J7 (v := .bool true) rfl rfl) ?_
      refine Jg ?_
      refine U3 rfl ?_
      refine Jf ?_
      refine Jb ?_
      refine Ja rfl rfl rfl (Jc (v := .slice none 0 0) rfl) ?_
      refine Ja rfl rfl rfl (Jc (v := .bool false) rfl) ?_
      refine Jg ?_
      refine Jp ?_
      refine c_emp ?_
      refine Ww 7 rfl (imp_trpNil (q := ((none, 0) : Option Addr × Nat)) (fun y_ : T_sync_Replica × T_sync_Replica × T_sync_Replica => J0 (Jz 27 1 (.slice ((none, 0) : Option Addr × Nat).1 3 ((none, 0) : Option Addr × Nat).2) 3 (([some ⟨0, 0, none⟩, some ⟨0, 0, none⟩, some ⟨0, 0, none⟩] : List (Option Addr)).map W6)) (J0 ((fun z : T_sync_Replica => J0 (Jl 0 [.int .i64 z.device_, .int .i64 (z.knows_ 0), .int .i64 (z.knows_ 1), .int .i64 (z.knows_ 2), .int .i64 (z.knows_ 3), .int .i64 (z.knows_ 4), .int .i64 (z.knows_ 5), .int .i64 (z.knows_ 6), .int .i64 (z.knows_ 7), .int .i64 (z.knows_ 8), .int .i64 (z.knows_ 9), .int .i64 (z.knows_ 10), .int .i64 (z.knows_ 11), .int .i64 (z.knows_ 12), .int .i64 (z.knows_ 13), .int .i64 (z.knows_ 14), .int .i64 (z.knows_ 15), .slice ((none, 0) : Option Addr × Nat).1 z.facts_.length ((none, 0) : Option Addr × Nat).2] 60) (J2 45 8 (.slice ((none, 0) : Option Addr × Nat).1 z.facts_.length ((none, 0) : Option Addr × Nat).2) z.facts_.length (z.facts_.map Jd))) y_.1) (J0 ((fun z : T_sync_Replica => J0 (Jl 0 [.int .i64 z.device_, .int .i64 (z.knows_ 0), .int .i64 (z.knows_ 1), .int .i64 (z.knows_ 2), .int .i64 (z.knows_ 3), .int .i64 (z.knows_ 4), .int .i64 (z.knows_ 5), .int .i64 (z.knows_ 6), .int .i64 (z.knows_ 7), .int .i64 (z.knows_ 8), .int .i64 (z.knows_ 9), .int .i64 (z.knows_ 10), .int .i64 (z.knows_ 11), .int .i64 (z.knows_ 12), .int .i64 (z.knows_ 13), .int .i64 (z.knows_ 14), .int .i64 (z.knows_ 15), .slice ((none, 0) : Option Addr × Nat).1 z.facts_.length ((none, 0) : Option Addr × Nat).2] 60) (J2 45 8 (.slice ((none, 0) : Option Addr × Nat).1 z.facts_.length ((none, 0) : Option Addr × Nat).2) z.facts_.length (z.facts_.map Jd))) y_.2.1) ((fun z : T_sync_Replica => J0 (Jl 0 [.int .i64 z.device_, .int .i64 (z.knows_ 0), .int .i64 (z.knows_ 1), .int .i64 (z.knows_ 2), .int .i64 (z.knows_ 3), .int .i64 (z.knows_ 4), .int .i64 (z.knows_ 5), .int .i64 (z.knows_ 6), .int .i64 (z.knows_ 7), .int .i64 (z.knows_ 8), .int .i64 (z.knows_ 9), .int .i64 (z.knows_ 10), .int .i64 (z.knows_ 11), .int .i64 (z.knows_ 12), .int .i64 (z.knows_ 13), .int .i64 (z.knows_ 14), .int .i64 (z.knows_ 15), .slice ((none, 0) : Option Addr × Nat).1 z.facts_.length ((none, 0) : Option Addr × Nat).2] 60) (J2 45 8 (.slice ((none, 0) : Option Addr × Nat).1 z.facts_.length ((none, 0) : Option Addr × Nat).2) z.facts_.length (z.facts_.map Jd))) y_.2.2))))) ?_
      obtain rfl := Option.some.inj H69
      refine ret2 (v1 := optS (none : (Option (T_sync_Replica × T_sync_Replica × T_sync_Replica))) ((none, 0) : Option Addr × Nat)) (v2 := .bool false) rfl rfl rfl (Yk (((none, 0) : Option Addr × Nat), 0, ((none, 0) : Option Addr × Nat), 0, ((none, 0) : Option Addr × Nat), 0, ((none, 0) : Option Addr × Nat)) (i := 7) rfl rfl (Imp.refl _))
     ·have H70 := Jq hb H68; clear H68
      refine Ja rfl rfl rfl (Je (v := optP t41_2.1 p_7) rfl) ?_
      refine Ja rfl rfl rfl (Je (v := .pointer (some ⟨p, 0, none⟩)) rfl) ?_
      obtain ⟨z_2, h_z_2, H71⟩ := Ji H70; clear H70
      refine c_obx 6 rfl h_z_2 (fun hpv_ => ?_)
      rw [hpv_]; clear hpv_
      refine Yo 6 rfl ?_
      obtain ⟨t49_2, h_t49_2, H72⟩ := Ji H71; clear H71
      refine Yv (fun w hF hS => k18 (Jx w) (Zp (i := 7) rfl hS rfl) (Qj (i := 6) hS rfl) (Zp (i := 1) rfl hS rfl) (Qj (i := 0) hS rfl) h_t49_2) Tryz.call18 rfl rfl rfl ?_
      refine Ja rfl rfl rfl (Zm rfl) ?_
      refine Ja rfl rfl rfl (J1 (v := .bool (!t49_2)) rfl rfl) ?_
      refine Jg ?_
      refine Qg (b := (!t49_2)) rfl (fun hb => ?_) (fun hb => ?_)
      ·have H73 := Jr hb H72; clear H72
       refine Jf ?_
       refine Jb ?_
       refine Ja rfl rfl rfl (Jc (v := .slice none 0 0) rfl) ?_
       refine Ja rfl rfl rfl (Jc (v := .bool false) rfl) ?_
       refine Jg ?_
       refine Jp ?_
       refine c_emp ?_
       refine Ww 8 rfl (imp_trpNil (q := ((none, 0) : Option Addr × Nat)) (fun y_ : T_sync_Replica × T_sync_Replica × T_sync_Replica => J0 (Jz 27 1 (.slice ((none, 0) : Option Addr × Nat).1 3 ((none, 0) : Option Addr × Nat).2) 3 (([some ⟨0, 0, none⟩, some ⟨0, 0, none⟩, some ⟨0, 0, none⟩] : List (Option Addr)).map W6)) (J0 ((fun z : T_sync_Replica => J0 (Jl 0 [.int .i64 z.device_, .int .i64 (z.knows_ 0), .int .i64 (z.knows_ 1), .int .i64 (z.knows_ 2), .int .i64 (z.knows_ 3), .int .i64 (z.knows_ 4), .int .i64 (z.knows_ 5), .int .i64 (z.knows_ 6), .int .i64 (z.knows_ 7), .int .i64 (z.knows_ 8), .int .i64 (z.knows_ 9), .int .i64 (z.knows_ 10), .int .i64 (z.knows_ 11), .int .i64 (z.knows_ 12), .int .i64 (z.knows_ 13), .int .i64 (z.knows_ 14), .int .i64 (z.knows_ 15), .slice ((none, 0) : Option Addr × Nat).1 z.facts_.length ((none, 0) : Option Addr × Nat).2] 60) (J2 45 8 (.slice ((none, 0) : Option Addr × Nat).1 z.facts_.length ((none, 0) : Option Addr × Nat).2) z.facts_.length (z.facts_.map Jd))) y_.1) (J0 ((fun z : T_sync_Replica => J0 (Jl 0 [.int .i64 z.device_, .int .i64 (z.knows_ 0), .int .i64 (z.knows_ 1), .int .i64 (z.knows_ 2), .int .i64 (z.knows_ 3), .int .i64 (z.knows_ 4), .int .i64 (z.knows_ 5), .int .i64 (z.knows_ 6), .int .i64 (z.knows_ 7), .int .i64 (z.knows_ 8), .int .i64 (z.knows_ 9), .int .i64 (z.knows_ 10), .int .i64 (z.knows_ 11), .int .i64 (z.knows_ 12), .int .i64 (z.knows_ 13), .int .i64 (z.knows_ 14), .int .i64 (z.knows_ 15), .slice ((none, 0) : Option Addr × Nat).1 z.facts_.length ((none, 0) : Option Addr × Nat).2] 60) (J2 45 8 (.slice ((none, 0) : Option Addr × Nat).1 z.facts_.length ((none, 0) : Option Addr × Nat).2) z.facts_.length (z.facts_.map Jd))) y_.2.1) ((fun z : T_sync_Replica => J0 (Jl 0 [.int .i64 z.device_, .int .i64 (z.knows_ 0), .int .i64 (z.knows_ 1), .int .i64 (z.knows_ 2), .int .i64 (z.knows_ 3), .int .i64 (z.knows_ 4), .int .i64 (z.knows_ 5), .int .i64 (z.knows_ 6), .int .i64 (z.knows_ 7), .int .i64 (z.knows_ 8), .int .i64 (z.knows_ 9), .int .i64 (z.knows_ 10), .int .i64 (z.knows_ 11), .int .i64 (z.knows_ 12), .int .i64 (z.knows_ 13), .int .i64 (z.knows_ 14), .int .i64 (z.knows_ 15), .slice ((none, 0) : Option Addr × Nat).1 z.facts_.length ((none, 0) : Option Addr × Nat).2] 60) (J2 45 8 (.slice ((none, 0) : Option Addr × Nat).1 z.facts_.length ((none, 0) : Option Addr × Nat).2) z.facts_.length (z.facts_.map Jd))) y_.2.2))))) ?_
       obtain rfl := Option.some.inj H73
       refine ret2 (v1 := optS (none : (Option (T_sync_Replica × T_sync_Replica × T_sync_Replica))) ((none, 0) : Option Addr × Nat)) (v2 := .bool false) rfl rfl rfl (Yk (((none, 0) : Option Addr × Nat), 0, ((none, 0) : Option Addr × Nat), 0, ((none, 0) : Option Addr × Nat), 0, ((none, 0) : Option Addr × Nat)) (i := 8) rfl rfl (Imp.refl _))
      ·have H74 := Jq hb H72; clear H72
       refine Jw ?_
       try dsimp only [z1, z2, z5, z6, z7, z8]
       refine Jb ?_
       refine Ja rfl rfl rfl (Je (v := .slice p_6.1 2 p_6.2) rfl) ?_
       refine Ja rfl rfl rfl (Je (v := .pointer (some ⟨p_7, 0, none⟩)) rfl) ?_
       refine Y8 (vs := [.pointer (some ⟨p_7, 0, none⟩)]) (cs := [.pointer (some ⟨p_7, 0, none⟩)]) Tryz.underlying24 Tryz.sizeOf27 Tryz.zeroValue27 rfl rfl rfl rfl rfl rfl rfl (fun b10 => ?_)
       refine Ww 8 rfl (imp_box (m := 1) (E := 27) (sz := 1) (xs := ([some ⟨p_7, 0, none⟩] : List (Option Addr)).map W6) rfl rfl rfl ⟨rfl, by decide⟩) ?_
       refine Q4 (Wi (i := 2) (hn := rfl) (rds := [8]) (p := p_6) (sz := 1) (by_ := 8) (f := W6) (ys := ([some ⟨p, 0, none⟩, some ⟨p_4, 0, none⟩] : List (Option Addr))) (ls := ([some ⟨p_7, 0, none⟩] : List (Option Addr))) (zs := ([some ⟨p, 0, none⟩, some ⟨p_4, 0, none⟩, some ⟨p_7, 0, none⟩] : List (Option Addr))) (V := .slice ((some ⟨b10, 0, none⟩, 1) : Option Addr × Nat).1 1 ((some ⟨b10, 0, none⟩, 1) : Option Addr × Nat).2) Tryz.underlying24 (Jae Tryz.typeInfo27) rfl rfl rfl rfl rfl rfl rfl rfl rfl rfl (fun w L' hF hS hi => W0 (i := 8) (E := 27) (sz := 1) (n := 1) (a := ((some ⟨b10, 0, none⟩, 1) : Option Addr × Nat).1) (c := ((some ⟨b10, 0, none⟩, 1) : Option Addr × Nat).2) (xs := ([some ⟨p_7, 0, none⟩] : List (Option Addr)).map W6) hS ((hi 8 (by simp)).trans rfl)) (fun _ => rfl) (fun _ => rfl) rfl) rfl rfl rfl (fun p_9 => ?_)
       refine Ja rfl rfl rfl (Jc (v := .slice p_9.1 3 p_9.2) rfl) ?_
       refine Jg ?_
       refine Jb ?_
       refine Ja rfl rfl rfl (Je (v := .int .i64 2) rfl) ?_
       refine Ja rfl rfl rfl (Yj rfl rfl (show gI (2 + 1) = some 3 from rfl)) ?_
       refine Ja rfl rfl rfl (Jc (v := .int .i64 3) rfl) ?_
       refine Jg ?_
       refine c_round ?_
       refine Jf ?_
       refine Jf ?_
       refine Jb ?_
       refine Ja rfl rfl rfl (Je (v := .int .i64 3) rfl) ?_
       refine Ja rfl rfl rfl (Zd rfl rfl) ?_
       refine Jg ?_
       refine Jab rfl ?_
       refine Xi ?_
       refine Jf ?_
       refine Jf ?_
       refine Jb ?_
       refine Ja rfl rfl rfl (Je (v := v1) rfl) ?_
       refine Ja rfl rfl rfl (Uh Tryz.underlying22 rfl f1 rfl) ?_
       refine Ja rfl rfl rfl (Je (v := .int .i64 0) rfl) ?_
       refine Jg ?_
       refine J5 ?_
       refine c_dr 8 <| c_dr 5 ?_
       try dsimp only [z1, z2, z3, z4, z5, z6, z7, z8]
       refine Vn (σ := Unit) (τ := Unit) (fun next2 s => Vp a1 m m_2 l z z_2 next2) (fun s t => [(10, .slice p_9.1 3 p_9.2), (56, v1), (57, .int .i64 (a1.length : Int)), (58, .int .i64 0)]) (fun s t => [Jl p [.int .i64 m, .int .i64 (m_2 0), .int .i64 (m_2 1), .int .i64 (m_2 2), .int .i64 (m_2 3), .int .i64 (m_2 4), .int .i64 (m_2 5), .int .i64 (m_2 6), .int .i64 (m_2 7), .int .i64 (m_2 8), .int .i64 (m_2 9), .int .i64 (m_2 10), .int .i64 (m_2 11), .int .i64 (m_2 12), .int .i64 (m_2 13), .int .i64 (m_2 14), .int .i64 (m_2 15), .slice p_3.1 l.length p_3.2] 60, J2 45 8 (.slice p_3.1 l.length p_3.2) l.length (l.map Jd), Jz 27 1 (.slice p_9.1 3 p_9.2) 3 (([some ⟨p, 0, none⟩, some ⟨p_4, 0, none⟩, some ⟨p_7, 0, none⟩] : List (Option Addr)).map W6), Jl p_4 [.int .i64 z.device_, .int .i64 (z.knows_ 0), .int .i64 (z.knows_ 1), .int .i64 (z.knows_ 2), .int .i64 (z.knows_ 3), .int .i64 (z.knows_ 4), .int .i64 (z.knows_ 5), .int .i64 (z.knows_ 6), .int .i64 (z.knows_ 7), .int .i64 (z.knows_ 8), .int .i64 (z.knows_ 9), .int .i64 (z.knows_ 10), .int .i64 (z.knows_ 11), .int .i64 (z.knows_ 12), .int .i64 (z.knows_ 13), .int .i64 (z.knows_ 14), .int .i64 (z.knows_ 15), .slice p_5.1 z.facts_.length p_5.2] 60, J2 45 8 (.slice p_5.1 z.facts_.length p_5.2) z.facts_.length (z.facts_.map Jd), Jl p_7 [.int .i64 z_2.device_, .int .i64 (z_2.knows_ 0), .int .i64 (z_2.knows_ 1), .int .i64 (z_2.knows_ 2), .int .i64 (z_2.knows_ 3), .int .i64 (z_2.knows_ 4), .int .i64 (z_2.knows_ 5), .int .i64 (z_2.knows_ 6), .int .i64 (z_2.knows_ 7), .int .i64 (z_2.knows_ 8), .int .i64 (z_2.knows_ 9), .int .i64 (z_2.knows_ 10), .int .i64 (z_2.knows_ 11), .int .i64 (z_2.knows_ 12), .int .i64 (z_2.knows_ 13), .int .i64 (z_2.knows_ 14), .int .i64 (z_2.knows_ 15), .slice p_8.1 z_2.facts_.length p_8.2] 60, J2 45 8 (.slice p_8.1 z_2.facts_.length p_8.2) z_2.facts_.length (z_2.facts_.map Jd)]) (fun s t => True) () () [0, 1, 2, 3, 4, 5, 6] H74 (by exact trivial) (by exact ⟨rfl, rfl, rfl, rfl, trivial⟩) (by decide) rfl ?_
       rintro _ _ m2 gg H75 _
       clear H74
       replace H75 : Vp a1 m m_2 l z z_2 (it (fun next2 s => Vp a1 m m_2 l z z_2 next2) m2) = some r := H75
       generalize hn2 : it (fun next2 s => Vp a1 m m_2 l z z_2 next2) m2 = next2 at H75
       try dsimp only
       refine Jf ?_
       refine Jb ?_
       refine Ja rfl rfl rfl (Zd rfl rfl) ?_
       refine Jg ?_
       refine Jf ?_
       refine Qg (b := (decide (0 < (a1.length : Int)))) rfl (fun hb => ?_) (fun hb => ?_)
       ·have H76 := Jr hb H75; clear H75
        exact absurd (show (none : Option ((Option (T_sync_Replica × T_sync_Replica × T_sync_Replica)) × Bool)) = some r from H76) (fun h => by cases h)
       ·have H77 := Jq hb H75; clear H75
        refine Xi ?_
        refine Jf ?_
        refine Jb ?_
        refine Ja rfl rfl rfl (Je (v := .slice p_9.1 3 p_9.2) rfl) ?_
        refine Ja rfl rfl rfl (Jc (v := .slice p_9.1 3 p_9.2) rfl) ?_
        refine Ja rfl rfl rfl (Jc (v := .bool true) rfl) ?_
        refine Jg ?_
        refine Jp ?_
        refine Qa 0 1 rfl rfl (by decide) ?_
        refine Qa 3 4 rfl rfl (by decide) ?_
        refine Qa 5 6 rfl rfl (by decide) ?_
        refine Qa 3 5 rfl rfl (by decide) ?_
        refine Qa 0 3 rfl rfl (by decide) ?_
        refine Qa 2 0 rfl rfl (by decide) ?_
        refine Ww 2 rfl (imp_trp (q := p_9) (z := ((⟨m, m_2, l⟩ : T_sync_Replica), z, z_2)) (fun y_ : T_sync_Replica × T_sync_Replica × T_sync_Replica => J0 (Jz 27 1 (.slice p_9.1 3 p_9.2) 3 (([some ⟨p, 0, none⟩, some ⟨p_4, 0, none⟩, some ⟨p_7, 0, none⟩] : List (Option Addr)).map W6)) (J0 ((fun z : T_sync_Replica => J0 (Jl p [.int .i64 z.device_, .int .i64 (z.knows_ 0), .int .i64 (z.knows_ 1), .int .i64 (z.knows_ 2), .int .i64 (z.knows_ 3), .int .i64 (z.knows_ 4), .int .i64 (z.knows_ 5), .int .i64 (z.knows_ 6), .int .i64 (z.knows_ 7), .int .i64 (z.knows_ 8), .int .i64 (z.knows_ 9), .int .i64 (z.knows_ 10), .int .i64 (z.knows_ 11), .int .i64 (z.knows_ 12), .int .i64 (z.knows_ 13), .int .i64 (z.knows_ 14), .int .i64 (z.knows_ 15), .slice p_3.1 z.facts_.length p_3.2] 60) (J2 45 8 (.slice p_3.1 z.facts_.length p_3.2) z.facts_.length (z.facts_.map Jd))) y_.1) (J0 ((fun z : T_sync_Replica => J0 (Jl p_4 [.int .i64 z.device_, .int .i64 (z.knows_ 0), .int .i64 (z.knows_ 1), .int .i64 (z.knows_ 2), .int .i64 (z.knows_ 3), .int .i64 (z.knows_ 4), .int .i64 (z.knows_ 5), .int .i64 (z.knows_ 6), .int .i64 (z.knows_ 7), .int .i64 (z.knows_ 8), .int .i64 (z.knows_ 9), .int .i64 (z.knows_ 10), .int .i64 (z.knows_ 11), .int .i64 (z.knows_ 12), .int .i64 (z.knows_ 13), .int .i64 (z.knows_ 14), .int .i64 (z.knows_ 15), .slice p_5.1 z.facts_.length p_5.2] 60) (J2 45 8 (.slice p_5.1 z.facts_.length p_5.2) z.facts_.length (z.facts_.map Jd))) y_.2.1) ((fun z : T_sync_Replica => J0 (Jl p_7 [.int .i64 z.device_, .int .i64 (z.knows_ 0), .int .i64 (z.knows_ 1), .int .i64 (z.knows_ 2), .int .i64 (z.knows_ 3), .int .i64 (z.knows_ 4), .int .i64 (z.knows_ 5), .int .i64 (z.knows_ 6), .int .i64 (z.knows_ 7), .int .i64 (z.knows_ 8), .int .i64 (z.knows_ 9), .int .i64 (z.knows_ 10), .int .i64 (z.knows_ 11), .int .i64 (z.knows_ 12), .int .i64 (z.knows_ 13), .int .i64 (z.knows_ 14), .int .i64 (z.knows_ 15), .slice p_8.1 z.facts_.length p_8.2] 60) (J2 45 8 (.slice p_8.1 z.facts_.length p_8.2) z.facts_.length (z.facts_.map Jd))) y_.2.2))))) ?_
        obtain rfl := Option.some.inj H77
        refine ret2 (v1 := optS (some ((⟨m, m_2, l⟩ : T_sync_Replica), z, z_2)) p_9) (v2 := .bool true) rfl rfl rfl (Yk (p_9, p, p_3, p_4, p_5, p_7, p_8) (i := 2) rfl rfl (Imp.refl _))
theorem k12 {a0 : (List T_sync_Shown)} {v0 : Value} {a1 : (T_sync_Shown → Option (Bool))} {v1 : Value} {r : Int} {w : World} {h : Qd} (hw : Know h w Vd) (f0 : FrN h 6 v0 g_sync_Shown a0) (f1 : FnH Tryz.prog h v1 (We a1)) (H : Yf a0 a1 = some r) : Does Tryz.prog 12 (List.toArray [v0, v1]) w (fun v w' => v = (.int .i64 r) ∧ Grow w w') := by
 refine enter (n := 19) Tryz.func12 rfl rfl rfl Vd [] (Sat.nil _ _) ?_
 refine Jf ?_
 refine Jb ?_
 refine Ja rfl rfl rfl (Jc (v := .int .i64 0) rfl) ?_
 refine Jg ?_
 refine Jf ?_
 refine Jf ?_
 refine Jb ?_
 refine Ja rfl rfl rfl (Je (v := v0) rfl) ?_
 refine Ja rfl rfl rfl (r_lenFN Tryz.underlying32 rfl f0) ?_
 refine Ja rfl rfl rfl (Je (v := .int .i64 0) rfl) ?_
 refine Jg ?_
 refine J5 ?_
 refine Vn (σ := Int) (τ := Unit) (fun next1 s => Xr a0 a1 next1 s) (fun s t => [(0, v0), (1, v1), (7, .int .i64 (a0.length : Int)), (8, .int .i64 s)]) (fun s t => []) (fun s t => True) 0 () [] H (by exact trivial) (by exact ⟨rfl, rfl, rfl, rfl, trivial⟩) (by decide) rfl ?_
 rintro x8_2 _ m1 gg H9 _
 clear H
 replace H9 : Xr a0 a1 (it (fun next1 s => Xr a0 a1 next1 s) m1) x8_2 = some r := H9
 generalize hn1 : it (fun next1 s => Xr a0 a1 next1 s) m1 = next1 at H9
 try dsimp only
 refine Jf ?_
 refine Jb ?_
 refine Ja rfl rfl rfl (Zd rfl rfl) ?_
 refine Jg ?_
 refine Jf ?_
 refine Qg (b := (decide (x8_2 < (a0.length : Int)))) rfl (fun hb => ?_) (fun hb => ?_)
 ·have H10 := Jr hb H9; clear H9
  refine Jw ?_
  refine Jf ?_
  refine J5 ?_
  refine Jf ?_
  refine Jb ?_
  refine Ja rfl rfl rfl (Je (v := .int .i64 x8_2) rfl) ?_
  refine Ja rfl rfl rfl (Jc (v := .int .i64 x8_2) rfl) ?_
  refine Jg ?_
  refine Jf ?_
  refine Jb ?_
  refine Ja rfl rfl rfl (Je (v := v1) rfl) ?_
  refine Ja rfl rfl rfl (Je (v := v0) rfl) ?_
  refine Ja rfl rfl rfl (Je (v := .int .i64 x8_2) rfl) ?_
  obtain ⟨t14, h_t14, H11⟩ := Ji H10; clear H10
  refine Ja rfl rfl rfl (Z6 Tryz.underlying32 Tryz.sizeOf35 rfl rfl f0.frs (f0.ix h_t14)) ?_
  refine Qo (fun w hF hS => X4 (f := (elC h v0 6)) (i := x8_2) (sz := 6) (j := 0) (vs := [.int .i64 t14.Id, str t14.File, .int .i64 t14.Stars, str t14.Caption, .bool t14.Hidden, (elH h v0 6 (Int.toNat x8_2) 5)]) Tryz.isAgg35 Tryz.sizeOf35 rfl rfl (f0.frs.row (hw.now hF)) (f0.ix h_t14) (rd_of (cg_sync_Shown (f0.at h_t14)) rfl)) rfl rfl rfl ?_
  obtain ⟨t16, h_t16, H12⟩ := Ji H11; clear H11
  refine l_callV (R := We a1) (r := .bool t16) (v := v1) (fun w hF hS => ⟨(f1.mono (hw.now hF)), ⟨t14, _, _, ((show FrS h 1 (elH h v0 6 (Int.toNat x8_2) 5) (t14.Tags.map Zh) from (g_sync_Shown_p5 (f0.at h_t14))).mono (hw.now hF)), rfl, h_t16, rfl⟩⟩) rfl rfl rfl rfl ?_
  refine Jg ?_
  refine Qg (b := t16) rfl (fun hb => ?_) (fun hb => ?_)
  ·have H13 := Jr hb H12; clear H12
   refine Jf ?_
   refine Jb ?_
   refine Ja rfl rfl rfl (Je (v := .int .i64 x8_2) rfl) ?_
   refine Ja rfl rfl rfl (Jc (v := .int .i64 x8_2) rfl) ?_
   refine Jg ?_
   refine Jp ?_
   obtain rfl := Option.some.inj H13
   refine J3 (v := .int .i64 x8_2) rfl rfl (Yd rfl)
  ·have H14 := Jq hb H12; clear H12
   refine Jw ?_
   refine Jb ?_
   obtain ⟨t18, h_t18, H15⟩ := Ji H14; clear H14
   refine Ja rfl rfl rfl (Yj rfl rfl h_t18) ?_
   refine Ja rfl rfl rfl (Je (v := .int .i64 t18) rfl) ?_
   refine Jg ?_
   refine Js t18 () m1 [] (by exact ⟨rfl, rfl, rfl, rfl, trivial⟩) (by decide) rfl (by exact ⟨(by subst hn1; exact H15), trivial⟩) (Nat.lt_succ_self _)
 ·have H16 := Jq hb H9; clear H9
  refine Xi ?_
  refine Jf ?_
  refine Jb ?_
  refine Ja rfl rfl rfl (Jc (v := .int .i64 (-1)) rfl) ?_
  refine Jg ?_
  refine Jp ?_
  obtain rfl := Option.some.inj H16
  refine J3 (v := .int .i64 (-1)) rfl rfl (Yd rfl)
theorem k8 {a0 : (List T_sync_Shown)} {v0 : Value} {a1 : (T_sync_Shown → Option (Bool))} {v1 : Value} {r : Bool} {w : World} {h : Qd} (hw : Know h w Vd) (f0 : FrN h 6 v0 g_sync_Shown a0) (f1 : FnH Tryz.prog h v1 (We a1)) (H : Yx a0 a1 = some r) : Does Tryz.prog 8 (List.toArray [v0, v1]) w (fun v w' => v = (.bool r) ∧ Grow w w') := by
 refine enter (n := 9) Tryz.func8 rfl rfl rfl Vd [] (Sat.nil _ _) ?_
 refine Jf ?_
 refine Jb ?_
 refine Ja rfl rfl rfl (Jc (v := .bool false) rfl) ?_
 refine Jg ?_
 refine Jf ?_
 refine Jb ?_
 refine Ja rfl rfl rfl (Je (v := v0) rfl) ?_
 refine Ja rfl rfl rfl (Je (v := v1) rfl) ?_
 obtain ⟨t7, h_t7, H2⟩ := Ji H; clear H
 refine Yv (fun w hF hS => k12 (Jx w) (f0.mono (hw.now hF)) (f1.mono (hw.now hF)) h_t7) Tryz.call12 rfl rfl rfl ?_
 refine Ja rfl rfl rfl (r_geq rfl rfl) ?_
 refine Ja rfl rfl rfl (Jc (v := .bool (decide (0 ≤ t7))) rfl) ?_
 refine Jg ?_
 refine Jp ?_
 obtain rfl := Option.some.inj H2
 refine J3 (v := .bool (decide (0 ≤ t7))) rfl rfl (Yd rfl)
theorem k10 {q0 : Int} {c0 : Nat} {a0 : T_sync_Shown} {v0_5 : Value} {r : Bool} {w : World} {h : Qd} (hw : Know h w Vd) (hc0 : h c0 = some (.cells (List.toArray [.int .i64 q0]) 3 (0, 0))) (f0_5 : FrS h 1 v0_5 (a0.Tags.map Zh)) (H : Ux q0 a0 = some r) : Does Tryz.prog 10 (List.toArray [.agg #[.int .i64 a0.Id, str a0.File, .int .i64 a0.Stars, str a0.Caption, .bool a0.Hidden, v0_5], .pointer (some ⟨c0, 0, none⟩)]) w (fun v w' => v = (.bool r) ∧ Grow w w') := by
 refine enter (n := 8) Tryz.func10 rfl rfl rfl Vd [] (Sat.nil _ _) ?_
 refine Jf ?_
 refine Jb ?_
 refine Zo (cs := [.int .i64 a0.Id, str a0.File, .int .i64 a0.Stars, str a0.Caption, .bool a0.Hidden, v0_5]) rfl rfl rfl rfl (fun b1 => ?_)
 refine Ja rfl rfl rfl (Jc (v := .bool false) rfl) ?_
 refine Jg ?_
 refine Jf ?_
 refine Jb ?_
 refine Ja rfl rfl rfl (Jo Tryz.runUnderlying35 rfl Tryz.sizeOf3 rfl rfl) ?_
 refine Jv (i := 0) (v := .int .i64 a0.Id) Tryz.isAgg3 rfl rfl rfl rfl rfl ?_
 refine Qo (fun w hF hS => Xo (v := .int .i64 q0) Tryz.isAgg3 rfl (hw.now hF _ _ hc0) rfl) rfl rfl rfl ?_
 refine Ja rfl rfl rfl (Xd rfl rfl) ?_
 refine Ja rfl rfl rfl (Jc (v := .bool (decide (a0.Id = q0))) rfl) ?_
 refine Jg ?_
 refine Jp ?_
 obtain rfl := Option.some.inj H
 refine J3 (v := .bool (decide (a0.Id = q0))) rfl rfl (Yd rfl)
theorem k13 {q0 : Int} {c0 : Nat} {a0 : T_sync_Shown} {v0_5 : Value} {r : Bool} {w : World} {h : Qd} (hw : Know h w Vd) (hc0 : h c0 = some (.cells (List.toArray [.int .i64 q0]) 3 (0, 0))) (f0_5 : FrS h 1 v0_5 (a0.Tags.map Zh)) (H : Uu q0 a0 = some r) : Does Tryz.prog 13 (List.toArray [.agg #[.int .i64 a0.Id, str a0.File, .int .i64 a0.Stars, str a0.Caption, .bool a0.Hidden, v0_5], .pointer (some ⟨c0, 0, none⟩)]) w (fun v w' => v = (.bool r) ∧ Grow w w') := by
 refine enter (n := 8) Tryz.func13 rfl rfl rfl Vd [] (Sat.nil _ _) ?_
 refine Jf ?_
 refine Jb ?_
 refine Zo (cs := [.int .i64 a0.Id, str a0.File, .int .i64 a0.Stars, str a0.Caption, .bool a0.Hidden, v0_5]) rfl rfl rfl rfl (fun b1 => ?_)
 refine Ja rfl rfl rfl (Jc (v := .bool false) rfl) ?_
 refine Jg ?_
 refine Jf ?_
 refine Jb ?_
 refine Ja rfl rfl rfl (Jo Tryz.runUnderlying35 rfl Tryz.sizeOf3 rfl rfl) ?_
 refine Jv (i := 0) (v := .int .i64 a0.Id) Tryz.isAgg3 rfl rfl rfl rfl rfl ?_
 refine Qo (fun w hF hS => Xo (v := .int .i64 q0) Tryz.isAgg3 rfl (hw.now hF _ _ hc0) rfl) rfl rfl rfl ?_
 refine Ja rfl rfl rfl (Xd rfl rfl) ?_
 refine Ja rfl rfl rfl (Jc (v := .bool (decide (a0.Id = q0))) rfl) ?_
 refine Jg ?_
 refine Jp ?_
 obtain rfl := Option.some.inj H
 refine J3 (v := .bool (decide (a0.Id = q0))) rfl rfl (Yd rfl)
theorem k3 {a0 : (List T_tintkeep2_Deed)} {v0 : Value} {a1 : Int} {a2 : Int} {r : Bool} {w : World} {h : Qd} (hw : Know h w Vd) (f0 : FrS h 5 v0 (a0.map Vr)) (H : Jaq a0 a1 a2 = some r) : Does Tryz.prog 3 (List.toArray [v0, .int .i64 a1, .int .i64 a2]) w (fun v w' => v = (.bool r) ∧ Grow w w') := by
 refine enter (n := 70) Tryz.func3 rfl rfl rfl Vd [] (Sat.nil _ _) ?_
 refine c_poolNew noH ?_
 refine Jf ?_
 refine Jb ?_
 refine Zo (cs := [.int .i64 a1]) rfl rfl rfl rfl (fun b1 => ?_)
 refine Ja rfl rfl rfl (Jc (v := .bool false) rfl) ?_
 refine Jg ?_
 refine Jf ?_
 refine Jf ?_
 refine Jb ?_
 obtain ⟨t13, h_t13, H30⟩ := Ji H; clear H
 refine Q5 (k4 h_t13) Tryz.call4 rfl rfl rfl ?_
 refine Ja rfl rfl rfl (Zm rfl) ?_
 refine Jg ?_
 refine Qg (b := (!t13)) rfl (fun hb => ?_) (fun hb => ?_)
 ·have H31 := Jr hb H30; clear H30
  refine Jf ?_
  refine Jb ?_
  refine Ja rfl rfl rfl (Jc (v := .bool false) rfl) ?_
  refine Jg ?_
  refine Jp ?_
  obtain rfl := Option.some.inj H31
  refine J3 (v := .bool false) rfl rfl (Yd rfl)
 ·have H32 := Jq hb H30; clear H30
  refine Jw ?_
  refine Jf ?_
  refine Jb ?_
  refine Ja rfl rfl rfl (Je (v := v0) rfl) ?_
  obtain ⟨t17, h_t17, H33⟩ := Ji H32; clear H32
  refine Zq (Ql (rds := []) (G := fun x : (Option Addr × Nat) × Nat × (Option Addr × Nat) × Nat × (Option Addr × Nat) × Nat × (Option Addr × Nat) => .tuple #[optS t17.1 x.1, .bool t17.2]) (C := fun x : (Option Addr × Nat) × Nat × (Option Addr × Nat) × Nat × (Option Addr × Nat) × Nat × (Option Addr × Nat) => trpC (optS t17.1 x.1) t17.1 x.1 (fun y_ : T_sync_Replica × T_sync_Replica × T_sync_Replica => J0 (Jz 27 1 (.slice x.1.1 3 x.1.2) 3 (([some ⟨x.2.1, 0, none⟩, some ⟨x.2.2.2.1, 0, none⟩, some ⟨x.2.2.2.2.2.1, 0, none⟩] : List (Option Addr)).map W6)) (J0 ((fun z : T_sync_Replica => J0 (Jl x.2.1 [.int .i64 z.device_, .int .i64 (z.knows_ 0), .int .i64 (z.knows_ 1), .int .i64 (z.knows_ 2), .int .i64 (z.knows_ 3), .int .i64 (z.knows_ 4), .int .i64 (z.knows_ 5), .int .i64 (z.knows_ 6), .int .i64 (z.knows_ 7), .int .i64 (z.knows_ 8), .int .i64 (z.knows_ 9), .int .i64 (z.knows_ 10), .int .i64 (z.knows_ 11), .int .i64 (z.knows_ 12), .int .i64 (z.knows_ 13), .int .i64 (z.knows_ 14), .int .i64 (z.knows_ 15), .slice x.2.2.1.1 z.facts_.length x.2.2.1.2] 60) (J2 45 8 (.slice x.2.2.1.1 z.facts_.length x.2.2.1.2) z.facts_.length (z.facts_.map Jd))) y_.1) (J0 ((fun z : T_sync_Replica => J0 (Jl x.2.2.2.1 [.int .i64 z.device_, .int .i64 (z.knows_ 0), .int .i64 (z.knows_ 1), .int .i64 (z.knows_ 2), .int .i64 (z.knows_ 3), .int .i64 (z.knows_ 4), .int .i64 (z.knows_ 5), .int .i64 (z.knows_ 6), .int .i64 (z.knows_ 7), .int .i64 (z.knows_ 8), .int .i64 (z.knows_ 9), .int .i64 (z.knows_ 10), .int .i64 (z.knows_ 11), .int .i64 (z.knows_ 12), .int .i64 (z.knows_ 13), .int .i64 (z.knows_ 14), .int .i64 (z.knows_ 15), .slice x.2.2.2.2.1.1 z.facts_.length x.2.2.2.2.1.2] 60) (J2 45 8 (.slice x.2.2.2.2.1.1 z.facts_.length x.2.2.2.2.1.2) z.facts_.length (z.facts_.map Jd))) y_.2.1) ((fun z : T_sync_Replica => J0 (Jl x.2.2.2.2.2.1 [.int .i64 z.device_, .int .i64 (z.knows_ 0), .int .i64 (z.knows_ 1), .int .i64 (z.knows_ 2), .int .i64 (z.knows_ 3), .int .i64 (z.knows_ 4), .int .i64 (z.knows_ 5), .int .i64 (z.knows_ 6), .int .i64 (z.knows_ 7), .int .i64 (z.knows_ 8), .int .i64 (z.knows_ 9), .int .i64 (z.knows_ 10), .int .i64 (z.knows_ 11), .int .i64 (z.knows_ 12), .int .i64 (z.knows_ 13), .int .i64 (z.knows_ 14), .int .i64 (z.knows_ 15), .slice x.2.2.2.2.2.2.1 z.facts_.length x.2.2.2.2.2.2.2] 60) (J2 45 8 (.slice x.2.2.2.2.2.2.1 z.facts_.length x.2.2.2.2.2.2.2) z.facts_.length (z.facts_.map Jd))) y_.2.2))))) (fun w L' hF hS hi => k5 (Jx w) (f0.mono (hw.now hF)) (FrS.nil _ _) h_t17) Tryz.call5 rfl) rfl rfl rfl (fun ⟨p, p_2, p_3, p_4, p_5, p_6, p_7⟩ => ?_)
  refine Ja rfl rfl rfl (Je (v := .tuple #[optS t17.1 p, .bool t17.2]) rfl) ?_
  refine Ja rfl rfl rfl (Xh (v := optS t17.1 p) rfl rfl) ?_
  refine Ja rfl rfl rfl (Xh (v := .bool t17.2) rfl rfl) ?_
  refine Ja rfl rfl rfl (Jc (v := optS t17.1 p) rfl) ?_
  refine Ja rfl rfl rfl (Jc (v := .bool t17.2) rfl) ?_
  refine Jg ?_
  refine Jf ?_
  refine Jf ?_
  refine Jb ?_
  refine Ja rfl rfl rfl (Je (v := .bool t17.2) rfl) ?_
  refine Ja rfl rfl rfl (Zm rfl) ?_
  refine Jg ?_
  refine Qg (b := (!t17.2)) rfl (fun hb => ?_) (fun hb => ?_)
  ·have H34 := Jr hb H33; clear H33
   refine Jf ?_
   refine Jb ?_
   refine Ja rfl rfl rfl (Jc (v := .bool false) rfl) ?_
   refine Jg ?_
   refine Jp ?_
   obtain rfl := Option.some.inj H34
   refine J3 (v := .bool false) rfl rfl (Yd rfl)
  ·have H35 := Jq hb H33; clear H33
   refine Jw ?_
   refine Jf ?_
   obtain ⟨z, h_z, H36⟩ := Ji H35; clear H35
   refine c_trp 2 rfl h_z (fun hpv_ => ?_)
   rw [hpv_]; clear hpv_
   refine Yo 2 rfl ?_
   refine Yo 3 rfl ?_
   refine Yo 4 rfl ?_
   refine Yo 3 rfl ?_
   refine Yo 4 rfl ?_
   refine Yo 5 rfl ?_
   try dsimp only [z1, z2, z5, z6, z7, z8]
   exact Yl (Kd.p :: Kd.d [2] _ :: Kd.d [2] _ :: Kd.p :: Kd.d [2] _ :: Kd.d [2] _ :: Kd.p :: Kd.d [2] _ :: Kd.d [2] _ :: Kd.p :: Kd.p :: Kd.p :: []) 0 mixed (by
    refine Jt rfl rfl (Je (v := .slice p.1 3 p.2) rfl) ?_
    refine Jaf (fun w L' hF hS hi => Y2 Tryz.underlying24 Tryz.sizeOf27 rfl rfl (W0 (i := 2) (E := 27) (sz := 1) (n := 3) (a := p.1) (c := p.2) (xs := ([some ⟨p_2, 0, none⟩, some ⟨p_4, 0, none⟩, some ⟨p_6, 0, none⟩] : List (Option Addr)).map W6) hS ((hi 2 (by simp)).trans rfl)) rfl (show Q1 ([some ⟨p_2, 0, none⟩, some ⟨p_4, 0, none⟩, some ⟨p_6, 0, none⟩] : List (Option Addr)) 0 = some (some ⟨p_2, 0, none⟩) from rfl)) rfl rfl ?_
    refine Jaf (fun w L' hF hS hi => Wh (f := W6) (i := 0) (sz := 1) (j := 0) (v := .pointer (some ⟨p_2, 0, none⟩)) Tryz.isAgg27 rfl rfl (W0 (i := 2) (E := 27) (sz := 1) (n := 3) (a := p.1) (c := p.2) (xs := ([some ⟨p_2, 0, none⟩, some ⟨p_4, 0, none⟩, some ⟨p_6, 0, none⟩] : List (Option Addr)).map W6) hS ((hi 2 (by simp)).trans rfl)) (show Q1 ([some ⟨p_2, 0, none⟩, some ⟨p_4, 0, none⟩, some ⟨p_6, 0, none⟩] : List (Option Addr)) 0 = some (some ⟨p_2, 0, none⟩) from rfl) rfl) rfl rfl ?_
    refine Jt rfl rfl (Je (v := .slice p.1 3 p.2) rfl) ?_
    refine Jaf (fun w L' hF hS hi => Y2 Tryz.underlying24 Tryz.sizeOf27 rfl rfl (W0 (i := 2) (E := 27) (sz := 1) (n := 3) (a := p.1) (c := p.2) (xs := ([some ⟨p_2, 0, none⟩, some ⟨p_4, 0, none⟩, some ⟨p_6, 0, none⟩] : List (Option Addr)).map W6) hS ((hi 2 (by simp)).trans rfl)) rfl (show Q1 ([some ⟨p_2, 0, none⟩, some ⟨p_4, 0, none⟩, some ⟨p_6, 0, none⟩] : List (Option Addr)) 1 = some (some ⟨p_4, 0, none⟩) from rfl)) rfl rfl ?_
    refine Jaf (fun w L' hF hS hi => Wh (f := W6) (i := 1) (sz := 1) (j := 0) (v := .pointer (some ⟨p_4, 0, none⟩)) Tryz.isAgg27 rfl rfl (W0 (i := 2) (E := 27) (sz := 1) (n := 3) (a := p.1) (c := p.2) (xs := ([some ⟨p_2, 0, none⟩, some ⟨p_4, 0, none⟩, some ⟨p_6, 0, none⟩] : List (Option Addr)).map W6) hS ((hi 2 (by simp)).trans rfl)) (show Q1 ([some ⟨p_2, 0, none⟩, some ⟨p_4, 0, none⟩, some ⟨p_6, 0, none⟩] : List (Option Addr)) 1 = some (some ⟨p_4, 0, none⟩) from rfl) rfl) rfl rfl ?_
    refine Jt rfl rfl (Je (v := .slice p.1 3 p.2) rfl) ?_
    refine Jaf (fun w L' hF hS hi => Y2 Tryz.underlying24 Tryz.sizeOf27 rfl rfl (W0 (i := 2) (E := 27) (sz := 1) (n := 3) (a := p.1) (c := p.2) (xs := ([some ⟨p_2, 0, none⟩, some ⟨p_4, 0, none⟩, some ⟨p_6, 0, none⟩] : List (Option Addr)).map W6) hS ((hi 2 (by simp)).trans rfl)) rfl (show Q1 ([some ⟨p_2, 0, none⟩, some ⟨p_4, 0, none⟩, some ⟨p_6, 0, none⟩] : List (Option Addr)) 2 = some (some ⟨p_6, 0, none⟩) from rfl)) rfl rfl ?_
    refine Jaf (fun w L' hF hS hi => Wh (f := W6) (i := 2) (sz := 1) (j := 0) (v := .pointer (some ⟨p_6, 0, none⟩)) Tryz.isAgg27 rfl rfl (W0 (i := 2) (E := 27) (sz := 1) (n := 3) (a := p.1) (c := p.2) (xs := ([some ⟨p_2, 0, none⟩, some ⟨p_4, 0, none⟩, some ⟨p_6, 0, none⟩] : List (Option Addr)).map W6) hS ((hi 2 (by simp)).trans rfl)) (show Q1 ([some ⟨p_2, 0, none⟩, some ⟨p_4, 0, none⟩, some ⟨p_6, 0, none⟩] : List (Option Addr)) 2 = some (some ⟨p_6, 0, none⟩) from rfl) rfl) rfl rfl ?_
    refine Jt rfl rfl (Jc (v := .pointer (some ⟨p_2, 0, none⟩)) rfl) ?_
    refine Jt rfl rfl (Jc (v := .pointer (some ⟨p_4, 0, none⟩)) rfl) ?_
    refine Jt rfl rfl (Jc (v := .pointer (some ⟨p_6, 0, none⟩)) rfl) ?_
    refine Wr ?_
    refine Jf ?_
    refine Jf ?_
    refine Jb ?_
    refine Ja rfl rfl rfl (Je (v := .pointer (some ⟨p_2, 0, none⟩)) rfl) ?_
    refine Jv (i := 1) (v := .int .i64 a1) Tryz.isAgg3 rfl rfl rfl rfl rfl ?_
    obtain ⟨t33, h_t33, H37⟩ := Ji H36; clear H36
    refine Qa 3 6 rfl rfl (by decide) ?_
    refine Q4 (J6 (i := 3) (rds := []) (G := fun x : (Option Addr × Nat) => .int .i64 t33.1) (C := fun x : (Option Addr × Nat) => J0 (Jl p_2 [.int .i64 t33.2.device_, .int .i64 (t33.2.knows_ 0), .int .i64 (t33.2.knows_ 1), .int .i64 (t33.2.knows_ 2), .int .i64 (t33.2.knows_ 3), .int .i64 (t33.2.knows_ 4), .int .i64 (t33.2.knows_ 5), .int .i64 (t33.2.knows_ 6), .int .i64 (t33.2.knows_ 7), .int .i64 (t33.2.knows_ 8), .int .i64 (t33.2.knows_ 9), .int .i64 (t33.2.knows_ 10), .int .i64 (t33.2.knows_ 11), .int .i64 (t33.2.knows_ 12), .int .i64 (t33.2.knows_ 13), .int .i64 (t33.2.knows_ 14), .int .i64 (t33.2.knows_ 15), .slice x.1 t33.2.facts_.length x.2] 60) (J2 45 8 (.slice x.1 t33.2.facts_.length x.2) t33.2.facts_.length (t33.2.facts_.map Jd))) rfl (fun w L' S hF hS hi hp hlt ho hA => k6 hp hlt (Qn w S) rfl h_t33) Tryz.call6 rfl) rfl rfl rfl (fun p_8 => ?_)
    refine Q0 3 6 rfl rfl (by decide) ?_
    refine Ja rfl rfl rfl (r_neq rfl rfl) ?_
    refine Jg ?_
    refine Qg (b := (decide (t33.1 ≠ 0))) rfl (fun hb => ?_) (fun hb => ?_)
    ·have H38 := Jr hb H37; clear H37
     refine Jf ?_
     refine Jb ?_
     refine Ja rfl rfl rfl (Jc (v := .bool true) rfl) ?_
     refine Jg ?_
     refine Jp ?_
     obtain rfl := Option.some.inj H38
     refine J3 (v := .bool true) rfl rfl (Yd rfl)
    ·have H39 := Jq hb H37; clear H37
     refine Jw ?_
     refine Jf ?_
     refine Jf ?_
     refine Jb ?_
     refine Ja rfl rfl rfl (Je (v := .pointer (some ⟨p_4, 0, none⟩)) rfl) ?_
     refine Ja rfl rfl rfl (Je (v := .pointer (some ⟨p_2, 0, none⟩)) rfl) ?_
     obtain ⟨t37, h_t37, H40⟩ := Ji H39; clear H39
     refine Qa 4 7 rfl rfl (by decide) ?_
     refine Q4 (J6 (i := 4) (rds := [3, 6]) (G := fun x : (Option Addr × Nat) => .int .i64 t37.1) (C := fun x : (Option Addr × Nat) => J0 (Jl p_4 [.int .i64 t37.2.device_, .int .i64 (t37.2.knows_ 0), .int .i64 (t37.2.knows_ 1), .int .i64 (t37.2.knows_ 2), .int .i64 (t37.2.knows_ 3), .int .i64 (t37.2.knows_ 4), .int .i64 (t37.2.knows_ 5), .int .i64 (t37.2.knows_ 6), .int .i64 (t37.2.knows_ 7), .int .i64 (t37.2.knows_ 8), .int .i64 (t37.2.knows_ 9), .int .i64 (t37.2.knows_ 10), .int .i64 (t37.2.knows_ 11), .int .i64 (t37.2.knows_ 12), .int .i64 (t37.2.knows_ 13), .int .i64 (t37.2.knows_ 14), .int .i64 (t37.2.knows_ 15), .slice x.1 t37.2.facts_.length x.2] 60) (J2 45 8 (.slice x.1 t37.2.facts_.length x.2) t37.2.facts_.length (t37.2.facts_.map Jd))) rfl (fun w L' S hF hS hi hp hlt ho hA => k7 hp hlt (Qn w S) rfl (frb_off (j := 6) rfl hA hS (by decide) ((hi 6 (by simp)).trans rfl)) (U9 (j := 3) hA hS (by decide) ((hi 3 (by simp)).trans rfl)) h_t37) Tryz.call7 rfl) rfl rfl rfl (fun p_9 => ?_)
     refine Q0 4 7 rfl rfl (by decide) ?_
     refine Ja rfl rfl rfl (r_neq rfl rfl) ?_
     refine Ja rfl rfl rfl (Je (v := .bool (decide (t37.1 ≠ 0))) rfl) ?_
     refine split (fun hb => ?_) (fun hb => ?_)
     ·have H41 := Jr hb H40; clear H40
      refine Jk rfl rfl rfl ?_
      refine Jk rfl rfl rfl ?_
      refine Jk rfl rfl rfl ?_
      refine Jk rfl rfl rfl ?_
      refine Ja rfl rfl rfl (J7 (v := .bool true) rfl rfl) ?_
      refine Jg ?_
      refine U3 rfl ?_
      refine Jf ?_
      try dsimp only [z1, z2, z5, z6, z7, z8]
      refine Jb ?_
      refine Ja rfl rfl rfl (Jc (v := .bool false) rfl) ?_
      refine Jg ?_
      refine Jp ?_
      obtain rfl := Option.some.inj H41
      refine J3 (v := .bool false) rfl rfl (Yd rfl)
     ·have H42 := Jq hb H40; clear H40
      refine Ja rfl rfl rfl (Je (v := .pointer (some ⟨p_4, 0, none⟩)) rfl) ?_
      obtain ⟨t41, h_t41, H43⟩ := Ji H42; clear H42
      refine Zq (Ql (rds := [4, 7]) (G := fun x : (Option Addr × Nat) => .slice x.1 t41.length x.2) (C := fun x : (Option Addr × Nat) => roD 6 g_sync_Shown (.slice x.1 t41.length x.2) t41.length t41) (fun w L' hF hS hi => k9 (Jx w) (Zp (i := 7) rfl hS ((hi 7 (by simp)).trans rfl)) (Qj (i := 4) hS ((hi 4 (by simp)).trans rfl)) h_t41) Tryz.call9 rfl) rfl rfl rfl (fun p_10 => ?_)
      refine c_roD 9 rfl (fun hp css hn pf => ?_)
      refine Yo 9 rfl ?_
      refine c_poolJoin 0 9 rfl rfl (by decide) (fun _ _ => noH_le) (fun hp_2 hle hle_2 => ?_)
      refine Ja rfl rfl rfl (Wp (caps := #[.pointer (some ⟨b1, 0, none⟩)]) rfl) ?_
      obtain ⟨t43, h_t43, H44⟩ := Ji H43; clear H43
      refine Yv (fun w hF hS => k8 (Jx w) (frn_of (xs := t41) (frs_rd (i := 10) hS rfl) ((pf.mono hle_2).mono (pool_now (i := 0) hS rfl noH_le))) (FnH.mk ⟨10, #[], #[.pointer (some ⟨b1, 0, none⟩)], rfl, Tryz.call10, fun args2 post2 w2 hk2 hR2 => by obtain ⟨a0_, v0_5_, r_, fa0_5_, rfl, H_, rfl⟩ := hR2; exact k10 (Jx w2) (hk2.up _ _ (Qj (i := 1) hS rfl)) fa0_5_ H_⟩) h_t43) Tryz.call8 rfl rfl rfl ?_
      refine Ja rfl rfl rfl (J1 (v := .bool t43) rfl rfl) ?_
      refine Jg ?_
      try dsimp only [z1, z2, z5, z6, z7, z8]
      refine Qg (b := t43) rfl (fun hb => ?_) (fun hb => ?_)
      ·have H45 := Jr hb H44; clear H44
       refine Jf ?_
       refine Jb ?_
       refine Ja rfl rfl rfl (Jc (v := .bool false) rfl) ?_
       refine Jg ?_
       try dsimp only [z1, z2, z5, z6, z7, z8]
       refine Jp ?_
       obtain rfl := Option.some.inj H45
       refine J3 (v := .bool false) rfl rfl (Yd rfl)
      ·have H46 := Jq hb H44; clear H44
       refine Jw ?_
       refine Jf ?_
       refine Jf ?_
       refine Jb ?_
       refine Ja rfl rfl rfl (Je (v := .pointer (some ⟨p_6, 0, none⟩)) rfl) ?_
       refine Jv (i := 1) (v := .int .i64 a1) Tryz.isAgg3 rfl rfl rfl rfl rfl ?_
       refine Ja rfl rfl rfl (Je (v := .int .i64 a2) rfl) ?_
       obtain ⟨t48, h_t48, H47⟩ := Ji H46; clear H46
       refine Qa 5 8 rfl rfl (by decide) ?_
       refine Q4 (J6 (i := 5) (rds := []) (G := fun x : (Option Addr × Nat) => .int .i64 t48.1) (C := fun x : (Option Addr × Nat) => J0 (Jl p_6 [.int .i64 t48.2.device_, .int .i64 (t48.2.knows_ 0), .int .i64 (t48.2.knows_ 1), .int .i64 (t48.2.knows_ 2), .int .i64 (t48.2.knows_ 3), .int .i64 (t48.2.knows_ 4), .int .i64 (t48.2.knows_ 5), .int .i64 (t48.2.knows_ 6), .int .i64 (t48.2.knows_ 7), .int .i64 (t48.2.knows_ 8), .int .i64 (t48.2.knows_ 9), .int .i64 (t48.2.knows_ 10), .int .i64 (t48.2.knows_ 11), .int .i64 (t48.2.knows_ 12), .int .i64 (t48.2.knows_ 13), .int .i64 (t48.2.knows_ 14), .int .i64 (t48.2.knows_ 15), .slice x.1 t48.2.facts_.length x.2] 60) (J2 45 8 (.slice x.1 t48.2.facts_.length x.2) t48.2.facts_.length (t48.2.facts_.map Jd))) rfl (fun w L' S hF hS hi hp hlt ho hA => k11 hp hlt (Qn w S) rfl h_t48) Tryz.call11 rfl) rfl rfl rfl (fun p_11 => ?_)
       refine Q0 5 8 rfl rfl (by decide) ?_
       refine Ja rfl rfl rfl (r_neq rfl rfl) ?_
       refine Jg ?_
       try dsimp only [z1, z2, z5, z6, z7, z8]
       refine Qg (b := (decide (t48.1 ≠ 0))) rfl (fun hb => ?_) (fun hb => ?_)
       ·have H48 := Jr hb H47; clear H47
        refine Jf ?_
        refine Jb ?_
        refine Ja rfl rfl rfl (Jc (v := .bool true) rfl) ?_
        refine Jg ?_
        try dsimp only [z1, z2, z5, z6, z7, z8]
        refine Jp ?_
        obtain rfl := Option.some.inj H48
        refine J3 (v := .bool true) rfl rfl (Yd rfl)
       ·have H49 := Jq hb H47; clear H47
        refine Jw ?_
        refine Jf ?_
        refine Jf ?_
        refine Jb ?_
        refine Ja rfl rfl rfl (Je (v := .pointer (some ⟨p_4, 0, none⟩)) rfl) ?_
        refine Ja rfl rfl rfl (Je (v := .pointer (some ⟨p_6, 0, none⟩)) rfl) ?_
        obtain ⟨t52, h_t52, H50⟩ := Ji H49; clear H49
        refine Qa 4 7 rfl rfl (by decide) ?_
        refine Q4 (J6 (i := 4) (rds := [5, 8]) (G := fun x : (Option Addr × Nat) => .int .i64 t52.1) (C := fun x : (Option Addr × Nat) => J0 (Jl p_4 [.int .i64 t52.2.device_, .int .i64 (t52.2.knows_ 0), .int .i64 (t52.2.knows_ 1), .int .i64 (t52.2.knows_ 2), .int .i64 (t52.2.knows_ 3), .int .i64 (t52.2.knows_ 4), .int .i64 (t52.2.knows_ 5), .int .i64 (t52.2.knows_ 6), .int .i64 (t52.2.knows_ 7), .int .i64 (t52.2.knows_ 8), .int .i64 (t52.2.knows_ 9), .int .i64 (t52.2.knows_ 10), .int .i64 (t52.2.knows_ 11), .int .i64 (t52.2.knows_ 12), .int .i64 (t52.2.knows_ 13), .int .i64 (t52.2.knows_ 14), .int .i64 (t52.2.knows_ 15), .slice x.1 t52.2.facts_.length x.2] 60) (J2 45 8 (.slice x.1 t52.2.facts_.length x.2) t52.2.facts_.length (t52.2.facts_.map Jd))) rfl (fun w L' S hF hS hi hp hlt ho hA => k7 hp hlt (Qn w S) rfl (frb_off (j := 8) rfl hA hS (by decide) ((hi 8 (by simp)).trans rfl)) (U9 (j := 5) hA hS (by decide) ((hi 5 (by simp)).trans rfl)) h_t52) Tryz.call7 rfl) rfl rfl rfl (fun p_12 => ?_)
        refine Q0 4 7 rfl rfl (by decide) ?_
        refine Ja rfl rfl rfl (r_neq rfl rfl) ?_
        refine Jg ?_
        try dsimp only [z1, z2, z5, z6, z7, z8]
        refine Qg (b := (decide (t52.1 ≠ 0))) rfl (fun hb => ?_) (fun hb => ?_)
        ·have H51 := Jr hb H50; clear H50
         refine Jf ?_
         refine Jb ?_
         refine Ja rfl rfl rfl (Jc (v := .bool false) rfl) ?_
         refine Jg ?_
         try dsimp only [z1, z2, z5, z6, z7, z8]
         refine Jp ?_
         obtain rfl := Option.some.inj H51
         refine J3 (v := .bool false) rfl rfl (Yd rfl)
        ·have H52 := Jq hb H50; clear H50
         refine Jw ?_
         refine Jf ?_
         refine Jb ?_
         refine Ja rfl rfl rfl (Je (v := .pointer (some ⟨p_4, 0, none⟩)) rfl) ?_
         obtain ⟨t55, h_t55, H53⟩ := Ji H52; clear H52
         refine Zq (Ql (rds := [4, 7]) (G := fun x : (Option Addr × Nat) => .slice x.1 t55.length x.2) (C := fun x : (Option Addr × Nat) => roD 6 g_sync_Shown (.slice x.1 t55.length x.2) t55.length t55) (fun w L' hF hS hi => k9 (Jx w) (Zp (i := 7) rfl hS ((hi 7 (by simp)).trans rfl)) (Qj (i := 4) hS ((hi 4 (by simp)).trans rfl)) h_t55) Tryz.call9 rfl) rfl rfl rfl (fun p_13 => ?_)
         refine c_roD 11 rfl (fun hp_3 css_2 hn_2 pf_2 => ?_)
         refine Yo 11 rfl ?_
         refine c_poolJoin 0 11 rfl rfl (by decide) (fun _ _ => noH_le) (fun hp_4 hle_3 hle_4 => ?_)
         refine Ja rfl rfl rfl (Wp (caps := #[.pointer (some ⟨b1, 0, none⟩)]) rfl) ?_
         obtain ⟨t57, h_t57, H54⟩ := Ji H53; clear H53
         refine Yv (fun w hF hS => k12 (Jx w) (frn_of (xs := t55) (frs_rd (i := 12) hS rfl) ((pf_2.mono hle_4).mono (pool_now (i := 0) hS rfl noH_le))) (FnH.mk ⟨13, #[], #[.pointer (some ⟨b1, 0, none⟩)], rfl, Tryz.call13, fun args2 post2 w2 hk2 hR2 => by obtain ⟨a0_, v0_5_, r_, fa0_5_, rfl, H_, rfl⟩ := hR2; exact k13 (Jx w2) (hk2.up _ _ (Qj (i := 1) hS rfl)) fa0_5_ H_⟩) h_t57) Tryz.call12 rfl rfl rfl ?_
         refine Ja rfl rfl rfl (Jc (v := .int .i64 t57) rfl) ?_
         refine Jg ?_
         try dsimp only [z1, z2, z5, z6, z7, z8]
         refine Jf ?_
         refine Jb ?_
         refine Ja rfl rfl rfl (Je (v := .int .i64 t57) rfl) ?_
         refine Ja rfl rfl rfl (r_geq rfl rfl) ?_
         refine Ja rfl rfl rfl (Je (v := .bool (decide (0 ≤ t57))) rfl) ?_
         refine split (fun hb => ?_) (fun hb => ?_)
         ·have H55 := Jr hb H54; clear H54
          refine Ja rfl rfl rfl (Je (v := .pointer (some ⟨p_4, 0, none⟩)) rfl) ?_
          obtain ⟨t62, h_t62, H56⟩ := Ji H55; clear H55
          refine Zq (Ql (rds := [4, 7]) (G := fun x : (Option Addr × Nat) => .slice x.1 t62.length x.2) (C := fun x : (Option Addr × Nat) => roD 6 g_sync_Shown (.slice x.1 t62.length x.2) t62.length t62) (fun w L' hF hS hi => k9 (Jx w) (Zp (i := 7) rfl hS ((hi 7 (by simp)).trans rfl)) (Qj (i := 4) hS ((hi 4 (by simp)).trans rfl)) h_t62) Tryz.call9 rfl) rfl rfl rfl (fun p_14 => ?_)
          refine c_roD 13 rfl (fun hp_5 css_3 hn_3 pf_3 => ?_)
          refine Yo 13 rfl ?_
          refine c_poolJoin 0 13 rfl rfl (by decide) (fun _ _ => noH_le) (fun hp_6 hle_5 hle_6 => ?_)
          refine Ja rfl rfl rfl (Je (v := .int .i64 t57) rfl) ?_
          obtain ⟨t64, h_t64, H57⟩ := Ji H56; clear H56
          refine Qo (fun w hF hS => Y2 Tryz.underlying32 Tryz.sizeOf35 rfl rfl (roOf (i := 14) hS rfl) hn_3 ((pf_3.mono hle_6).ix h_t64)) rfl rfl rfl ?_
          refine Qo (fun w hF hS => run_fieldG Tryz.runUnderlying35 rfl Tryz.sizeOf3 rfl rfl (roOf (i := 14) hS rfl) ((pf_3.mono hle_6).ix h_t64)) rfl rfl rfl ?_
          refine Qo (fun w hF hS => Wh (f := idC) (i := t57) (sz := 6) (j := 2) (v := .int .i64 t64.Stars) Tryz.isAgg3 rfl rfl (roOf (i := 14) hS rfl) ((pf_3.mono hle_6).ix h_t64) (rg_of (((pf_3.mono hle_6).eta h_t64).trans (cg_sync_Shown ((pf_3.mono hle_6).at h_t64))) rfl)) rfl rfl rfl ?_
          refine Ja rfl rfl rfl (Je (v := .int .i64 a2) rfl) ?_
          refine Ja rfl rfl rfl (Xd rfl rfl) ?_
          refine Ja rfl rfl rfl (J7 (v := .bool (decide (t64.Stars = a2))) rfl rfl) ?_
          refine Ja rfl rfl rfl (Jc (v := .bool (decide (t64.Stars = a2))) rfl) ?_
          refine Jg ?_
          try dsimp only [z1, z2, z5, z6, z7, z8]
          refine Jp ?_
          obtain rfl := Option.some.inj H57
          refine J3 (v := .bool (decide (t64.Stars = a2))) rfl rfl (Yd rfl)
         ·have H58 := Jq hb H54; clear H54
          refine Jk rfl rfl rfl ?_
          refine Jk rfl rfl rfl ?_
          refine Jk rfl rfl rfl ?_
          refine Jk rfl rfl rfl ?_
          refine Jk rfl rfl rfl ?_
          refine Jk rfl rfl rfl ?_
          refine Jk rfl rfl rfl ?_
          refine Jk rfl rfl rfl ?_
          refine Ja rfl rfl rfl (J1 (v := .bool false) rfl rfl) ?_
          refine Ja rfl rfl rfl (Jc (v := .bool false) rfl) ?_
          refine Jg ?_
          try dsimp only [z1, z2, z5, z6, z7, z8]
          refine Jp ?_
          obtain rfl := Option.some.inj H58
          refine J3 (v := .bool false) rfl rfl (Yd rfl)
    ) (by kernel_rfl)
end Go.Proofs.YtajcmignhnbmiaaGreatDoor

/- Plain lemmas about models: loops that count, scans for a first error. Conditions: none. -/
namespace Go.Pl
open Go.Md
theorem up {ρ : Type} {F : (Int → Option ρ) → Int → Option ρ} (n : Nat) (spec : Nat → Option ρ)
  (step : ∀ (next : Int → Option ρ) (k : Nat), k ≤ n → (k < n → next ((k : Int) + 1) = spec (k + 1)) → F next (k : Int) = spec k) : fix F 0 = spec 0 := by
 have h := fix_of (F := F) (fun i => spec i.toNat) (fun i => 0 ≤ i ∧ i ≤ n) (fun i => n - i.toNat) (by
  intro next a ⟨h0, h1⟩ ih
  obtain ⟨k, rfl⟩ := Int.eq_ofNat_of_zero_le h0
  simp only [Int.toNat_natCast]
  refine step next k (by omega) fun hk => ?_
  have := ih ((k : Int) + 1) (by omega) (by simp only [Int.toNat_natCast]; omega)
  rw [this, show ((k : Int) + 1).toNat = k + 1 from by omega]) 0 (by omega)
 simpa using h
end Go.Pl

/- More plain lemmas about models: loops that run or go on, two loops that do the same, loops that collect. Conditions: none. -/
namespace Go.Pl
open Go.Md
theorem fix_run {α ρ : Type} {F : (α → Option ρ) → α → Option ρ} (I : α → Prop) (μ : α → Nat) (Ua : ρ → Prop)
  (step : ∀ a, I a → (∃ r, Ua r ∧ ∀ next, F next a = some r) ∨ (∃ b, I b ∧ μ b < μ a ∧ ∀ next, F next a = next b)) (a : α) (ha : I a) : ∃ r, fix F a = some r ∧ Ua r := by
 have key : ∀ n a, I a → μ a < n → ∃ r, fix F a = some r ∧ Ua r := by
  intro n
  induction n with
  | zero => intro a _ h; omega
  | succ n ih =>
   intro a ha h
   rcases step a ha with ⟨r, h1, h2⟩ | ⟨b, h1, h2, h3⟩
   ·exact ⟨r, Y7 h2, h1⟩
   ·rw [Vi b h3]; exact ih b h1 (by omega)
 exact key (μ a + 1) a ha (by omega)
theorem fix_runP {α ρ π κ : Type} {F : π → (α → Option ρ) → α → Option ρ} (J : π → κ → Option ρ) (I : α → Prop) (μ : α → Nat) (Ua : κ → Prop)
  (step : ∀ a, I a → (∃ r, Ua r ∧ ∀ p next, F p next a = J p r) ∨ (∃ b, I b ∧ μ b < μ a ∧ ∀ p next, F p next a = next b)) (a : α) (ha : I a) : ∃ r, Ua r ∧ ∀ p, fix (F p) a = J p r := by
 have key : ∀ n a, I a → μ a < n → ∃ r, Ua r ∧ ∀ p, fix (F p) a = J p r := by
  intro n
  induction n with
  | zero => intro a _ h; omega
  | succ n ih =>
   intro a ha h
   rcases step a ha with ⟨r, h1, h2⟩ | ⟨b, h1, h2, h3⟩
   ·exact ⟨r, h1, fun p => Y7 (h2 p)⟩
   ·obtain ⟨r, g1, g2⟩ := ih b h1 (by omega)
    exact ⟨r, g1, fun p => (Vi b (h3 p)).trans (g2 p)⟩
 exact key (μ a + 1) a ha (by omega)
theorem fix_upto {ρ : Type} {F : (Int → Option ρ) → Int → Option ρ} {o : Option ρ} (i e : Nat) (hie : i ≤ e) (more : ∀ (next : Int → Option ρ) (k : Nat), i ≤ k → k < e → F next (k : Int) = next ((k : Int) + 1)) (stop : ∀ next, F next (e : Int) = o) : fix F (i : Int) = o := by
 have key : ∀ n k, i ≤ k → k ≤ e → e - k < n → fix F (k : Int) = o := by
  intro n
  induction n with
  | zero => intro k _ _ h; omega
  | succ n ih =>
   intro k h1 h2 h3
   rcases Nat.lt_or_ge k e with h | h
   ·rw [Vi ((k : Int) + 1) (fun next => more next k h1 h)]; exact ih (k + 1) (by omega) (by omega) (by omega)
   ·have : k = e := by omega
    subst this; exact Y7 stop
 exact key (e - i + 1) i (Nat.le_refl _) hie (by omega)
theorem fix_list {α ρ σ : Type} {F : (Int × σ → Option ρ) → Int × σ → Option ρ} (xs : List α) (f : σ → α → σ) (J : σ → Option ρ) (I : Nat → σ → Prop)
  (more : ∀ (next : Int × σ → Option ρ) (k : Nat) (s : σ) (hk : k < xs.length), I k s → F next ((k : Int), s) = next ((k : Int) + 1, f s xs[k]) ∧ I (k + 1) (f s xs[k]))
  (stop : ∀ (next : Int × σ → Option ρ) (s : σ), I xs.length s → F next ((xs.length : Int), s) = J s) (s : σ) (hs : I 0 s) : fix F (0, s) = J (xs.foldl f s) := by
 have key : ∀ n k s, k ≤ xs.length → xs.length - k < n → I k s → fix F ((k : Int), s) = J ((xs.drop k).foldl f s) := by
  intro n
  induction n with
  | zero => intro k s _ h; omega
  | succ n ih =>
   intro k s hk h hI
   rcases Nat.lt_or_ge k xs.length with h1 | h1
   ·rw [Vi ((k : Int) + 1, f s xs[k]) (fun next => (more next k s h1 hI).1), List.drop_eq_getElem_cons h1, List.foldl_cons]
    exact ih (k + 1) _ (by omega) (by omega) (more (fun _ => none) k s h1 hI).2
   ·have : k = xs.length := by omega
    subst this
    rw [List.drop_length]
    exact Y7 fun next => stop next s hI
 have := key (xs.length + 1) 0 s (Nat.zero_le _) (by omega) hs
 simpa using this
theorem foldl_app {α β : Type} (f : α → β) : ∀ (xs : List α) (s : List β), xs.foldl (fun s x => s ++ [f x]) s = s ++ xs.map f
 | [], s => by simp
 | x :: xs, s => by rw [List.foldl_cons, foldl_app f xs]; simp
end Go.Pl

/- strings.Trim at an ASCII cutset, as its model tells it. Conditions: none. -/
namespace Go.M
open Go.Md Go.Pl
theorem fix_way {α ρ : Type} {F : (α → Option ρ) → α → Option ρ} {o : Option ρ} (st : Nat → α) (n : Nat) (more : ∀ k, k < n → ∀ next, F next (st k) = next (st (k + 1))) (stop : ∀ next, F next (st n) = o) : fix F (st 0) = o := by
 have key : ∀ m, m ≤ n → fix F (st (n - m)) = o := by
  intro m
  induction m with
  | zero => intro _; exact Y7 stop
  | succ m ih =>
   intro h
   rw [Vi (b := st (n - (m + 1) + 1)) (more _ (by omega)), show n - (m + 1) + 1 = n - m from by omega]
   exact ih (by omega)
 simpa using key n (Nat.le_refl _)
def setC (cs : List UInt8) : Nat → Bool := cs.foldl (fun m c => Q7 m c.toNat true) (fun _ => false)
theorem setC_iff (cs : List UInt8) (c : UInt8) : setC cs c.toNat = true ↔ c ∈ cs := by
 have key : ∀ (cs : List UInt8) (m : Nat → Bool), cs.foldl (fun m c => Q7 m c.toNat true) m c.toNat = true ↔ m c.toNat = true ∨ c ∈ cs := by
  intro cs
  induction cs with
  | nil => intro m; simp
  | cons d cs ih =>
   intro m
   rw [List.foldl_cons, ih, List.mem_cons]
   unfold Q7
   by_cases h : c.toNat = d.toNat
   ·have : c = d := UInt8.toNat_inj.1 h
    simp [this]
   ·have : c ≠ d := fun e => h (by rw [e])
    simp [h, this]
 unfold setC
 rw [key]; simp
theorem set_step {cs : List UInt8} (hcs : ∀ c ∈ cs, c.toNat < 128) (hl : cs.length ≤ 1000) {k : Nat} (hk : k < cs.length) (next : Int × (Nat → Bool) → Option ((Nat → Bool) × Bool)) (m : Nat → Bool) :
  Qp cs next (k : Int) m = next ((k + 1 : Nat), Q7 m cs[k].toNat true) := by
 have hc := hcs _ (List.getElem_mem hk)
 unfold Qp
 rw [Up, if_pos (by omega), gOct_nat hk, Jh, Up, if_neg (by omega), gIx_nat (by omega), Jh, Y9 (by omega), Jh]
 rfl
theorem set_eq {cs : List UInt8} (hcs : ∀ c ∈ cs, c.toNat < 128) (hl : cs.length ≤ 1000) : V8 cs = some (setC cs, true) := by
 unfold V8
 refine fix_way (fun k => ((k : Int), setC (cs.take k))) cs.length (fun k hk next => ?_) (fun _ => ?_)
 ·show Qp cs next (k : Int) (setC (cs.take k)) = _
  rw [set_step hcs hl hk]
  congr 2
  unfold setC
  rw [List.take_add_one, List.getElem?_eq_getElem hk, List.foldl_append]; rfl
 ·show Qp cs _ (cs.length : Int) (setC (cs.take cs.length)) = _
  unfold Qp
  rw [Up, if_neg (by omega), List.take_length]; rfl
theorem has_eq (cs : List UInt8) (c : UInt8) : Yz (setC cs) (c.toNat : Int) = some (decide (c ∈ cs), setC cs) := by
 have hc := c.toNat_lt
 unfold Yz
 rw [gIx_nat (by omega), Jh]
 congr 2
 rw [Bool.eq_iff_iff, setC_iff]; simp
theorem trimR {cs : List UInt8} (s : List UInt8) (hs : s.length ≤ 1000) : ∃ r : List UInt8 × (Nat → Bool), Vl s (setC cs) = some r ∧ (∃ suf, s = r.1 ++ suf ∧ ∀ c ∈ suf, c ∈ cs) ∧ r.2 = setC cs ∧ (∀ c, r.1.getLast? = some c → c ∉ cs) := by
 unfold Vl
 refine fix_run (fun a => (∃ suf, s = a.1 ++ suf ∧ ∀ c ∈ suf, c ∈ cs) ∧ a.2 = setC cs) (fun a => a.1.length) (fun (r : List UInt8 × (Nat → Bool)) => (∃ suf, s = r.1 ++ suf ∧ ∀ c ∈ suf, c ∈ cs) ∧ r.2 = setC cs ∧ (∀ c, r.1.getLast? = some c → c ∉ cs)) ?_ (s, setC cs) ⟨⟨[], by simp, by simp⟩, rfl⟩
 rintro ⟨x, m⟩ ⟨⟨suf, h1, h2⟩, h3⟩
 simp only at h1 h3
 subst h3
 have hl : x.length ≤ 1000 := by have := congrArg List.length h1; rw [List.length_append] at this; omega
 rcases List.eq_nil_or_concat x with rfl | ⟨ini, c, rfl⟩
 ·exact .inl ⟨([], setC cs), ⟨⟨suf, h1, h2⟩, rfl, by simp⟩, fun _ => rfl⟩
 ·simp only [List.concat_eq_append, List.length_append, List.length_singleton] at *
  have e1 : gI (((ini.length + 1 : Nat) : Int) - 1) = some (ini.length : Int) := by rw [Y9 (by omega)]; congr 1; omega
  have e2 : gOct (ini ++ [c]) (ini.length : Int) = some (c.toNat : Int) := by rw [gOct_nat (by simp)]; simp
  have e3 : Wv (ini ++ [c]) 0 (ini.length : Int) = some ini := by rw [gCut_to (by simp; omega)]; simp
  have key : ∀ next, Q9 next (ini ++ [c]) (setC cs) = if c ∈ cs then next (ini, setC cs) else some (ini ++ [c], setC cs) := by
   intro next
   unfold Q9
   rw [List.length_append, List.length_singleton, Up, if_pos (by omega), e1, Jh, e2, Jh, has_eq, Jh, Jh, e3, Jh]
   by_cases hd : c ∈ cs
   ·rw [if_pos hd]; simp [hd]
   ·rw [if_neg hd]; simp [hd]
  by_cases hd : c ∈ cs
  ·refine .inr ⟨(ini, setC cs), ⟨⟨c :: suf, by rw [h1]; simp, fun d hd' => ?_⟩, rfl⟩, by simp, fun next => (key next).trans (if_pos hd)⟩
   rcases List.mem_cons.1 hd' with rfl | h
   ·exact hd
   ·exact h2 d h
  ·exact .inl ⟨(ini ++ [c], setC cs), ⟨⟨suf, h1, h2⟩, rfl, fun d hd' => by simp at hd'; subst hd'; exact hd⟩, fun next => (key next).trans (if_neg hd)⟩
theorem trimL {cs : List UInt8} (s : List UInt8) (hs : s.length ≤ 1000) : ∃ r : List UInt8 × (Nat → Bool), V0 s (setC cs) = some r ∧ (∃ pre, s = pre ++ r.1 ∧ ∀ c ∈ pre, c ∈ cs) ∧ r.2 = setC cs ∧ (∀ c, r.1.head? = some c → c ∉ cs) := by
 unfold V0
 refine fix_run (fun a => (∃ pre, s = pre ++ a.1 ∧ ∀ c ∈ pre, c ∈ cs) ∧ a.2 = setC cs) (fun a => a.1.length) (fun (r : List UInt8 × (Nat → Bool)) => (∃ pre, s = pre ++ r.1 ∧ ∀ c ∈ pre, c ∈ cs) ∧ r.2 = setC cs ∧ (∀ c, r.1.head? = some c → c ∉ cs)) ?_ (s, setC cs) ⟨⟨[], by simp, by simp⟩, rfl⟩
 rintro ⟨x, m⟩ ⟨⟨pre, h1, h2⟩, h3⟩
 simp only at h1 h3
 subst h3
 cases x with
 | nil => exact .inl ⟨([], setC cs), ⟨⟨pre, h1, h2⟩, rfl, by simp⟩, fun _ => rfl⟩
 | cons c x =>
  have e2 : gOct (c :: x) 0 = some (c.toNat : Int) := by rw [gOct_ok (by omega) (by simp)]; rfl
  have e3 : Wv (c :: x) 1 ((c :: x).length : Nat) = some x := by rw [gCut_from (by rw [List.length_cons]; omega)]; rfl
  have key : ∀ next, Xe next (c :: x) (setC cs) = if c ∈ cs then next (x, setC cs) else some (c :: x, setC cs) := by
   intro next
   unfold Xe
   rw [Up, if_pos (by rw [List.length_cons]; omega), e2, Jh, has_eq, Jh, e3, Jh]
   by_cases hd : c ∈ cs
   ·rw [if_pos hd]; simp [hd]
   ·rw [if_neg hd]; simp [hd]
  by_cases hd : c ∈ cs
  ·refine .inr ⟨(x, setC cs), ⟨⟨pre ++ [c], by rw [h1]; simp, fun d hd' => ?_⟩, rfl⟩, by simp, fun next => (key next).trans (if_pos hd)⟩
   rcases List.mem_append.1 hd' with h | h
   ·exact h2 d h
   ·rw [List.mem_singleton.1 h]; exact hd
  ·exact .inl ⟨(c :: x, setC cs), ⟨⟨pre, h1, h2⟩, rfl, fun d hd' => by simp at hd'; subst hd'; exact hd⟩, fun next => (key next).trans (if_neg hd)⟩
theorem trim_ok {cs : List UInt8} (hcs : ∀ c ∈ cs, c.toNat < 128) (h2 : 2 ≤ cs.length) (hcl : cs.length ≤ 1000) (s : List UInt8) (hs : s.length ≤ 1000) : ∃ r, Jap s cs = some r ∧ (r = [] ↔ ∀ c ∈ s, c ∈ cs) := by
 unfold Jap
 by_cases h0 : s = []
 ·subst h0; exact ⟨[], rfl, by simp⟩
 ·have hc0 : ¬ cs = [] := fun h => by rw [h] at h2; simp at h2
  rw [Up, if_neg h0, Up, if_neg hc0, Up, if_neg (by omega)]
  obtain ⟨r, hr, ⟨suf, h1, h2⟩, h3, h4⟩ := trimR (cs := cs) s hs
  have hl : r.1.length ≤ 1000 := by have := congrArg List.length h1; rw [List.length_append] at this; omega
  obtain ⟨q, hq, ⟨pre, k1, k2⟩, _, k4⟩ := trimL (cs := cs) r.1 hl
  refine ⟨q.1, ?_, fun h c hc => ?_, fun h => ?_⟩
  ·unfold W5
   rw [set_eq hcs hcl, Jh, Ju, hr, Jh, h3, hq, Jh]
  ·rw [h1, k1, h] at hc
   simp only [List.append_nil, List.mem_append] at hc
   rcases hc with h | h
   ·exact k2 c h
   ·exact h2 c h
  ·cases hq1 : q.1 with
   | nil => rfl
   | cons c x =>
    exact absurd (h c (by rw [h1, k1, hq1]; simp)) (k4 c (by rw [hq1]; rfl))
end Go.M

/- Names, in plain Lean. Conditions: none. -/
namespace Go.M
open Go.Md Go.Pl
def okC (c : UInt8) : Prop := (97 ≤ c.toNat ∧ c.toNat ≤ 122) ∨ (48 ≤ c.toNat ∧ c.toNat ≤ 57) ∨ c.toNat = 45
instance (c : UInt8) : Decidable (okC c) := by unfold okC; infer_instance
def nameB (s : List UInt8) : Bool := decide (s ≠ [] ∧ s.length ≤ 40 ∧ (∀ c, s.head? = some c → 97 ≤ c.toNat ∧ c.toNat ≤ 122) ∧ ∀ c ∈ s, okC c)
theorem name_step {s : List UInt8} (hs : s.length ≤ 1000) {k : Nat} (hk : k < s.length) (next : Int → Option Bool) : Xn s next (k : Int) = if okC s[k] then next ((k : Int) + 1) else some false := by
 have hj : X6 (k : Int) next = next ((k : Int) + 1) := by unfold X6; rw [Y9 (by omega), Jh]
 unfold Xn
 rw [Up, if_pos (by omega), gOct_nat hk, Jh, hj]
 simp only [Up]
 generalize hc : s[k] = c
 by_cases h : okC c
 ·rw [if_pos h]
  unfold okC at h
  by_cases h1 : (97 : Int) ≤ c.toNat
  ·rw [if_pos h1]
   by_cases h2 : (c.toNat : Int) ≤ 122
   ·rw [if_pos h2]
   ·omega
  ·rw [if_neg h1]
   by_cases h2 : (48 : Int) ≤ c.toNat
   ·rw [if_pos h2, if_pos (by omega)]
   ·rw [if_neg h2]
    have : (c.toNat : Int) = 45 := by omega
    simp [this]
 ·rw [if_neg h]
  unfold okC at h
  have h45 : ¬ (c.toNat : Int) = 45 := by omega
  by_cases h1 : (97 : Int) ≤ c.toNat
  ·rw [if_pos h1, if_neg (by omega), if_pos (by omega), if_neg (by omega)]; simp [h45]
  ·rw [if_neg h1]
   by_cases h2 : (48 : Int) ≤ c.toNat
   ·rw [if_pos h2, if_neg (by omega)]; simp [h45]
   ·rw [if_neg h2]; simp [h45]
theorem name_loop (s : List UInt8) (hs : s.length ≤ 1000) : fix (fun next1 t => Xn s next1 t) 0 = some (decide (∀ c ∈ s, okC c)) := by
 rw [up (F := fun next1 t => Xn s next1 t) s.length (fun k => some (decide (∀ c ∈ s.drop k, okC c))) (fun next k hk ih => ?_)]
 ·simp
 ·rcases Nat.lt_or_ge k s.length with h | h
  ·show Xn s next (k : Int) = _
   rw [name_step hs h]
   have e : s.drop k = s[k] :: s.drop (k + 1) := List.drop_eq_getElem_cons h
   rw [e]
   by_cases ho : okC s[k]
   ·rw [if_pos ho, ih h]; congr 1; rw [decide_eq_decide, List.forall_mem_cons]; exact ⟨fun h => ⟨ho, h⟩, fun h => h.2⟩
   ·rw [if_neg ho]; congr 1; symm; rw [decide_eq_false_iff_not, List.forall_mem_cons]; exact fun h => ho h.1
  ·show Xn s next (k : Int) = _
   unfold Xn
   rw [Up, if_neg (by omega), List.drop_of_length_le h]; simp
theorem IsName_eq (s : List UInt8) : V6 s = some (nameB s) := by
 unfold V6 nameB
 rw [Up]
 by_cases h0 : s = []
 ·subst h0; rfl
 ·rw [if_neg h0, Up]
  by_cases h1 : (40 : Int) < s.length
  ·rw [if_pos h1]; congr 1; symm; rw [decide_eq_false_iff_not]; intro h; omega
  ·rw [if_neg h1]
   obtain ⟨c, r, rfl⟩ : ∃ c r, s = c :: r := by cases s with | nil => exact absurd rfl h0 | cons c r => exact ⟨c, r, rfl⟩
   have e0 : gOct (c :: r) 0 = some (c.toNat : Int) := by rw [gOct_ok (by omega) (by simp)]; rfl
   rw [e0, Jh, Up]
   by_cases h2 : (c.toNat : Int) < 97
   ·rw [if_pos h2]; congr 1; symm; rw [decide_eq_false_iff_not]; intro h; have := h.2.2.1 c rfl; omega
   ·rw [if_neg h2, Jh, Up]
    by_cases h3 : (122 : Int) < c.toNat
    ·rw [if_pos h3]; congr 1; symm; rw [decide_eq_false_iff_not]; intro h; have := h.2.2.1 c rfl; omega
    ·rw [if_neg h3, name_loop _ (by omega)]
     congr 1
     rw [decide_eq_decide]
     constructor
     ·intro h; exact ⟨h0, by omega, fun d hd => by simp at hd; subst hd; omega, h⟩
     ·intro h; exact h.2.2.2
end Go.M

/- Values of facts, in plain Lean. Conditions: none. -/
namespace Go.M
open Go.Md Go.Pl
theorem Un (a b c : Int) : Xm a b c = some (decide (a < b ∨ c < a)) := by
 unfold Xm
 rw [Up]
 by_cases h : a < b
 ·rw [if_pos h]; simp [h]
 ·rw [if_neg h]; simp [h]
theorem cI {α : Type} {p : Prop} [Decidable p] {x y : Option α} : Qt (decide p) x y = if p then x else y := Up ..
def hexCs : List UInt8 := [48, 49, 50, 51, 52, 53, 54, 55, 56, 57, 97, 98, 99, 100, 101, 102]
def fileP (t : List UInt8) : Prop := t.length = 16 ∧ ∀ c ∈ t, c ∈ hexCs
instance (t : List UInt8) : Decidable (fileP t) := by unfold fileP; infer_instance
theorem trim_hex {t : List UInt8} (h : t.length = 16) : ∃ r, Jap t [48, 49, 50, 51, 52, 53, 54, 55, 56, 57, 97, 98, 99, 100, 101, 102] = some r ∧ (r = [] ↔ fileP t) := by
 obtain ⟨r, h1, h2⟩ := trim_ok (cs := hexCs) (by decide) (by decide) (by decide) t (by omega)
 exact ⟨r, h1, h2.trans ⟨fun x => ⟨h, x⟩, fun x => x.2⟩⟩
theorem isFile_eq (t : List UInt8) : sync_isFile t = some (decide (fileP t)) := by
 unfold sync_isFile
 rw [cI]
 by_cases h : t.length = 16
 ·obtain ⟨r, h1, h2⟩ := trim_hex h
  rw [if_pos (by omega), h1, Jh]
  congr 1
  rw [decide_eq_decide]; exact h2
 ·rw [if_neg (by omega)]
  congr 1
  symm
  rw [decide_eq_false_iff_not]
  exact fun x => h x.1
def lowP (t : List UInt8) : Prop := ∃ c ∈ t, c.toNat < 32
instance (t : List UInt8) : Decidable (lowP t) := by unfold lowP; infer_instance
def capE (t : List UInt8) : Int := if 200 < t.length then 4 else if lowP t then 9 else 0
theorem func_low (l : List Int) (hl : l.length ≤ 1000) : ∃ r : Int, Uc l Vg = some r ∧ (0 ≤ r ↔ ∃ x ∈ l, x < 32) := by
 have key : ∀ m i : Nat, i + m = l.length → (∀ x ∈ l.take i, ¬ x < 32) → ∃ r : Int, fix (fun next1 s => Qf l Vg next1 s) (i : Int) = some r ∧ (0 ≤ r ↔ ∃ x ∈ l, x < 32) := by
  intro m
  induction m with
  | zero =>
   intro i hi hx
   have : i = l.length := by omega
   subst this
   rw [List.take_length] at hx
   refine ⟨-1, Y7 fun next => ?_, ⟨fun h => by omega, fun ⟨x, h1, h2⟩ => absurd h2 (hx x h1)⟩⟩
   show Qf l _ next _ = _
   unfold Qf
   rw [cI, if_neg (by omega)]
  | succ m ih =>
   intro i hi hx
   have hlt : i < l.length := by omega
   have hc : Vg l[i] = some (decide (l[i] < 32)) := rfl
   by_cases he : l[i] < 32
   ·refine ⟨i, Y7 fun next => ?_, ⟨fun _ => ⟨_, List.getElem_mem hlt, he⟩, fun _ => by omega⟩⟩
    show Qf l _ next _ = _
    unfold Qf
    rw [cI, if_pos (by omega), Zs hlt, Jh, hc, Jh, cI, if_pos he]
   ·obtain ⟨r, h1, h2⟩ := ih (i + 1) (by omega) (by
     intro x hx'
     rw [List.take_succ_eq_append_getElem hlt, List.mem_append] at hx'
     rcases hx' with h | h
     ·exact hx x h
     ·rw [List.mem_singleton] at h; rw [h]; exact he)
    refine ⟨r, ?_, h2⟩
    rw [← h1]
    refine Vi _ fun next => ?_
    show Qf l _ next _ = _
    unfold Qf
    rw [cI, if_pos (by omega), Zs hlt, Jh, hc, Jh, cI, if_neg he, Y9 (by omega), Jh]
    rfl
 exact key l.length 0 (by omega) (by simp)
theorem checkCaption_eq (t : List UInt8) : Uf t = some (capE t) := by
 unfold Uf capE
 rw [cI]
 by_cases h : 200 < t.length
 ·rw [if_pos (by omega), if_pos h]
 ·obtain ⟨r, h1, h2⟩ := func_low (ofStr t) (by unfold ofStr; rw [List.length_map]; omega)
  rw [if_neg (by omega), if_neg h, gByt_ok (by omega), Jh]
  unfold Wj
  rw [h1, Jh, Jh, cI]
  have e : (0 ≤ r) ↔ lowP t := by
   rw [h2]
   unfold ofStr lowP
   constructor
   ·rintro ⟨x, hx, hl⟩
    obtain ⟨c, hc, rfl⟩ := List.mem_map.1 hx
    exact ⟨c, hc, by omega⟩
   ·rintro ⟨c, hc, hl⟩
    exact ⟨_, List.mem_map.2 ⟨c, hc, rfl⟩, by omega⟩
  by_cases hl : lowP t
  ·rw [if_pos (e.2 hl), if_pos hl]
  ·rw [if_neg (fun x => hl (e.1 x)), if_neg hl]
def formP (f : T_sync_Fact) : Prop := (¬ (f.Kind = 2 ∨ f.Kind = 4 ∨ f.Kind = 6) ∧ f.Num ≠ 0) ∨ (¬ (f.Kind = 5 ∨ f.Kind = 6) ∧ f.Name ≠ []) ∨ (¬ (f.Kind = 1 ∨ f.Kind = 3) ∧ f.Text ≠ [])
instance (f : T_sync_Fact) : Decidable (formP f) := by unfold formP; infer_instance
def kindE (f : T_sync_Fact) : Int :=
 if f.Kind = 1 then (if fileP f.Text then 0 else 1)
 else if f.Kind = 2 then (if f.Num < 0 ∨ 5 < f.Num then 2 else 0)
 else if f.Kind = 3 then capE f.Text
 else if f.Kind = 4 then (if f.Num < 0 ∨ 1 < f.Num then 2 else 0)
 else if nameB f.Name = true then (if f.Kind = 6 then (if f.Num < 0 ∨ 6311433599 < f.Num then 2 else 0) else 0) else 3
def valE (f : T_sync_Fact) : Int := if f.Kind < 1 ∨ 6 < f.Kind then 10 else if formP f then 1 else if f.Id < 1 ∨ 1000000 < f.Id then 2 else kindE f
theorem j3_val (f : T_sync_Fact) (x3 x4 x5 : Bool) : Za f x3 x4 x5 = if f.Kind < 1 ∨ 6 < f.Kind then some 10 else Qh f x4 (decide ((x3 = false ∧ f.Num ≠ 0) ∨ (x4 = false ∧ f.Name ≠ []) ∨ (x5 = false ∧ f.Text ≠ []))) := by
 unfold Za
 rw [Un, Jh, cI]
 congr 1
 by_cases h1 : f.Num = 0 <;> by_cases h2 : f.Name = [] <;> by_cases h3 : f.Text = [] <;> cases x3 <;> cases x4 <;> cases x5 <;> simp [h1, h2, h3, Ju, Jn]
theorem tail_val {f : T_sync_Fact} (hk : 1 ≤ f.Kind ∧ f.Kind ≤ 6) (b : Bool) : Qh f (decide (f.Kind = 5 ∨ f.Kind = 6)) b = some (if b = true then 1 else if f.Id < 1 ∨ 1000000 < f.Id then 2 else kindE f) := by
 unfold Qh
 cases b
 ·rw [Jn, Un, Jh, cI, if_neg (show ¬ (false = true) from Bool.false_ne_true)]
  by_cases hid : f.Id < 1 ∨ 1000000 < f.Id
  ·rw [if_pos hid, if_pos hid]
  rw [if_neg hid, if_neg hid]
  unfold kindE
  have e8 : ∀ b : Bool, Z3 f b = some (if b = true then 3 else if f.Kind = 6 then (if f.Num < 0 ∨ 6311433599 < f.Num then 2 else 0) else 0) := fun b => by
   unfold Z3
   cases b
   ·rw [Jn, cI, Un, Jh, cI, if_neg (show ¬ (false = true) from Bool.false_ne_true)]
    by_cases h6 : f.Kind = 6
    ·rw [if_pos h6, if_pos h6]; split <;> rfl
    ·rw [if_neg h6, if_neg h6]
   ·rw [Ju]; rfl
  rcases (show f.Kind = 1 ∨ f.Kind = 2 ∨ f.Kind = 3 ∨ f.Kind = 4 ∨ f.Kind = 5 ∨ f.Kind = 6 by omega) with h | h | h | h | h | h
  ·rw [cI, if_pos h, isFile_eq, Jh, if_pos h]
   unfold Xg
   by_cases hf : fileP f.Text
   ·rw [decide_eq_true hf, if_pos hf]
    show Qt false _ _ = _
    rw [Jn, cI, if_neg (by omega)]
    unfold Xf
    rw [Jn, cI, if_neg (by omega), cI, if_neg (by omega)]
    unfold X5
    rw [Jn, decide_eq_false (by omega), Jn, e8, if_neg (show ¬ (false = true) from Bool.false_ne_true), if_neg (by omega)]
   ·rw [decide_eq_false hf, if_neg hf]
    show Qt true _ _ = _
    rw [Ju]
  ·rw [cI, if_neg (by omega), if_neg (by omega), if_pos h]
   unfold Xg
   rw [Jn, cI, if_pos h, Un, Jh]
   unfold Xf
   rw [cI]
   by_cases hn : f.Num < 0 ∨ 5 < f.Num
   ·rw [if_pos hn, if_pos hn]
   ·rw [if_neg hn, if_neg hn, cI, if_neg (by omega), cI, if_neg (by omega)]
    unfold X5
    rw [Jn, decide_eq_false (by omega), Jn, e8, if_neg (show ¬ (false = true) from Bool.false_ne_true), if_neg (by omega)]
  ·rw [cI, if_neg (by omega), if_neg (by omega), if_neg (by omega), if_pos h]
   unfold Xg
   rw [Jn, cI, if_neg (by omega)]
   unfold Xf
   rw [Jn, cI, if_pos h, checkCaption_eq, Jh]
  ·rw [cI, if_neg (by omega), if_neg (by omega), if_neg (by omega), if_neg (by omega), if_pos h]
   unfold Xg
   rw [Jn, cI, if_neg (by omega)]
   unfold Xf
   rw [Jn, cI, if_neg (by omega), cI, if_pos h, Un, Jh]
   unfold X5
   rw [cI]
   by_cases hn : f.Num < 0 ∨ 1 < f.Num
   ·rw [if_pos hn, if_pos hn]
   ·rw [if_neg hn, if_neg hn, decide_eq_false (by omega), Jn, e8, if_neg (show ¬ (false = true) from Bool.false_ne_true), if_neg (by omega)]
  ·rw [cI, if_neg (by omega), if_neg (by omega), if_neg (by omega), if_neg (by omega), if_neg (by omega), if_neg (show ¬ f.Kind = 6 by omega)]
   unfold Xg
   rw [Jn, cI, if_neg (by omega)]
   unfold Xf
   rw [Jn, cI, if_neg (by omega), cI, if_neg (by omega)]
   unfold X5
   rw [Jn, decide_eq_true (by omega), Ju, IsName_eq, Jh, e8, if_neg (show ¬ f.Kind = 6 by omega)]
   cases nameB f.Name <;> simp
  ·rw [cI, if_neg (by omega), if_neg (by omega), if_neg (by omega), if_neg (by omega), if_neg (by omega), if_pos h]
   unfold Xg
   rw [Jn, cI, if_neg (by omega)]
   unfold Xf
   rw [Jn, cI, if_neg (by omega), cI, if_neg (by omega)]
   unfold X5
   rw [Jn, decide_eq_true (by omega), Ju, IsName_eq, Jh, e8, if_pos h]
   cases nameB f.Name <;> simp
 ·rw [Ju]; rfl
theorem checkValue_eq (f : T_sync_Fact) : Ve f = some (valE f) := by
 have e : Ve f = Za f (decide (f.Kind = 2 ∨ f.Kind = 4 ∨ f.Kind = 6)) (decide (f.Kind = 5 ∨ f.Kind = 6)) (decide (f.Kind = 1 ∨ f.Kind = 3)) := by
  unfold Ve Z2 Vu
  by_cases h2 : f.Kind = 2
  ·simp [h2, Ju, Jn]
  by_cases h4 : f.Kind = 4
  ·simp [h4, Ju, Jn]
  by_cases h5 : f.Kind = 5
  ·simp [h5, Ju, Jn]
  by_cases h1 : f.Kind = 1
  ·simp [h1, Ju, Jn]
  simp [h2, h4, h5, h1, Ju, Jn]
 rw [e, j3_val]
 unfold valE
 by_cases hk : f.Kind < 1 ∨ 6 < f.Kind
 ·rw [if_pos hk, if_pos hk]
 ·rw [if_neg hk, if_neg hk, tail_val (by omega)]
  congr 1
  have : (decide ((decide (f.Kind = 2 ∨ f.Kind = 4 ∨ f.Kind = 6) = false ∧ f.Num ≠ 0) ∨ (decide (f.Kind = 5 ∨ f.Kind = 6) = false ∧ f.Name ≠ []) ∨ (decide (f.Kind = 1 ∨ f.Kind = 3) = false ∧ f.Text ≠ []))) = decide (formP f) := by
   rw [decide_eq_decide, decide_eq_false_iff_not, decide_eq_false_iff_not, decide_eq_false_iff_not]; rfl
  rw [this]
  by_cases hf : formP f
  ·rw [decide_eq_true hf, if_pos rfl, if_pos hf]
  ·rw [decide_eq_false hf, if_neg (by simp), if_neg hf]
theorem New_eq (n : Int) : sync_New n = some (if n < 0 ∨ 15 < n then (none, 2) else (some ⟨n, (fun _ => 0), []⟩, 0)) := by
 unfold sync_New
 rw [Un, Jh, cI]
 by_cases h : n < 0 ∨ 15 < n
 ·rw [if_pos h, if_pos h]
 ·rw [if_neg h, if_neg h]
theorem knows_refl (k : Nat → Int) : U8 k k = true := by unfold U8; exact decide_eq_true rfl
end Go.M

/- Searches in lists. Conditions: few elements. -/
namespace Go.M
open Go.Md Go.Pl
theorem Yu {p : Prop} [Decidable p] (h : p) : decide p = true := decide_eq_true h
theorem Yi {p : Prop} [Decidable p] (h : ¬ p) : decide p = false := decide_eq_false h
def idx {α : Type} (g : α → Bool) (l : List α) : Int := match l.findIdx? g with | some k => (k : Int) | none => -1
theorem idx_nn {α : Type} (g : α → Bool) (l : List α) : decide (0 ≤ idx g l) = l.any g := by
 unfold idx
 cases h : l.findIdx? g with
 | none =>
  rw [List.findIdx?_eq_none_iff] at h
  have : l.any g = false := by rw [List.any_eq_false]; intro x hx; simp [h x hx]
  rw [this]; rfl
 | some k =>
  have : l.any g = true := by
   rw [List.findIdx?_eq_some_iff_getElem] at h
   obtain ⟨h1, h2, _⟩ := h
   exact List.any_eq_true.2 ⟨_, List.getElem_mem h1, h2⟩
  rw [this]; simp
theorem index_loop {α : Type} {F : (Int → Option Int) → Int → Option Int} (l : List α) (g : α → Bool)
  (more : ∀ (next : Int → Option Int) (k : Nat) (h : k < l.length), F next (k : Int) = if g l[k] = true then some (k : Int) else next ((k : Int) + 1)) (last : ∀ next, F next (l.length : Int) = some (-1)) : fix F 0 = some (idx g l) := by
 have h := up (F := F) l.length (fun k => some (match (l.drop k).findIdx? g with | some j => ((k + j : Nat) : Int) | none => -1)) (fun next k hk ih => by
  rcases Nat.lt_or_ge k l.length with h | h
  ·rw [more next k h, List.drop_eq_getElem_cons h, List.findIdx?_cons]
   by_cases hg : g l[k] = true
   ·rw [if_pos hg, if_pos hg]; rfl
   ·rw [if_neg hg, if_neg hg, ih h]
    cases (l.drop (k + 1)).findIdx? g with
    | none => rfl
    | some j => simp only [Option.map_some]; rw [show k + 1 + j = k + (j + 1) by omega]
  ·have : k = l.length := by omega
   subst this
   rw [last, List.drop_length]; rfl)
 rw [h, List.drop_zero]
 unfold idx
 cases l.findIdx? g <;> simp
theorem indexFunc_of {α : Type} {l : List α} {f : α → Option Bool} {g : α → Bool} (hl : l.length ≤ 9223372036854775000) (hf : ∀ x ∈ l, f x = some (g x)) {F : (Int → Option Int) → Int → Option Int}
  (hF : ∀ next x, F next x = Qt (decide (x < (l.length : Int))) (J9 (Q1 l x) fun t14 => J9 (f t14) fun t16 => Qt t16 (some x) (J9 (gI (x + 1)) fun t18 => next t18)) (some (-1))) : fix F 0 = some (idx g l) := by
 refine index_loop l g (fun next k h => ?_) fun next => ?_
 ·rw [hF, Yu (by omega), Ju, Zs h, Jh, hf _ (List.getElem_mem h), Jh, Y9 (by omega), Jh]
  by_cases hg : g l[k] = true
  ·rw [if_pos hg, hg, Ju]
  ·rw [if_neg hg, (by simpa using hg : g l[k] = false), Jn]
 ·rw [hF, Yi (by omega), Jn]
end Go.M
