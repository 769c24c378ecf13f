/- TagPaths, the law: the walks, printed by our generator; each follows its model. Conditions: the model yields a value. -/
import Derived.Test.YtpljknglodhcnaaKUa
import Derived.Test.YtpljknglodhcnaaMd
import Derived.ProofKit
import Derived.OpenShut
import Derived.ChangeArms
import Derived.DataReads
import Derived.JoinedCond
import Derived.LaidLaws
import Derived.SizedLaws
import Derived.Test.YtpljknglodhcnaaLx6
namespace Go.Proofs.Ytpljknglodhcnaa
open Go Go.Vc Go.Md Go.M Go.Lx
set_option maxRecDepth 100000
set_option maxHeartbeats 4000000
set_option linter.unusedVariables false
theorem k29 {a0 : (List (List Int))} {v0 : Value} {a1 : (List (List Int))} {v1 : Value} {a2 : ((List Int) → (List Int) → Option (Bool))} {v2 : Value} {r : Bool} {w : World} {h : Jx} (hw : Know h w X3) (f0 : FrN h 1 v0 gs_int a0) (f1 : FrN h 1 v1 gs_int a1) (f2 : FnH Try.prog h v2 (U9 a2)) (H : X1 a0 a1 a2 = some r) : Does Try.prog 29 (List.toArray [v0, v1, v2]) w (fun v w' => v = (.bool r) ∧ Grow w w') := by
 refine enter (n := 32) Try.func29 rfl rfl rfl X3 [] (Sat.nil _ _) ?_
 refine Je ?_
 refine Jb ?_
 refine Ja rfl rfl rfl (Jc (v := .bool false) rfl) ?_
 refine Jf ?_
 refine Je ?_
 refine Je ?_
 refine Jb ?_
 refine Ja rfl rfl rfl (Jd (v := v0) rfl) ?_
 refine Ja rfl rfl rfl (Q7 Try.underlying32 rfl f0) ?_
 refine Ja rfl rfl rfl (Jd (v := v1) rfl) ?_
 refine Ja rfl rfl rfl (Q7 Try.underlying32 rfl f1) ?_
 refine Ja rfl rfl rfl (Y9 rfl rfl) ?_
 refine Jf ?_
 refine J4 (b := (decide ((a0.length : Int) ≠ (a1.length : Int)))) rfl (fun hb => ?_) (fun hb => ?_)
 ·have H12 := Jo hb H; clear H
  refine Je ?_
  refine Jb ?_
  refine Ja rfl rfl rfl (Jc (v := .bool false) rfl) ?_
  refine Jf ?_
  refine Jq ?_
  obtain rfl := Option.some.inj H12
  refine J5 (v := .bool false) rfl rfl (fin rfl)
 ·have H13 := Jp hb H; clear H
  refine Js ?_
  refine Je ?_
  refine Je ?_
  refine Jb ?_
  refine Ja rfl rfl rfl (Jd (v := v0) rfl) ?_
  refine Ja rfl rfl rfl (Q7 Try.underlying32 rfl f0) ?_
  refine Ja rfl rfl rfl (Jd (v := .int .i64 0) rfl) ?_
  refine Jf ?_
  refine J6 ?_
  refine Z7 (σ := Int) (τ := Unit) (fun next1 s => Qk a0 a1 a2 next1 s) (fun s t => [(1, v1), (2, v2), (15, v0), (16, .int .i64 (a0.length : Int)), (17, .int .i64 s)]) (fun s t => []) (fun s t => True) 0 () [] H13 (by exact trivial) (by exact ⟨rfl, rfl, rfl, rfl, rfl, trivial⟩) (by decide) rfl ?_
  rintro x17_2 _ m1 gg H14 _
  clear H13
  replace H14 : Qk a0 a1 a2 (it (fun next1 s => Qk a0 a1 a2 next1 s) m1) x17_2 = some r := H14
  generalize hn1 : it (fun next1 s => Qk a0 a1 a2 next1 s) m1 = next1 at H14
  try dsimp only
  refine Je ?_
  refine Jb ?_
  refine Ja rfl rfl rfl (Xs rfl rfl) ?_
  refine Jf ?_
  refine Je ?_
  refine J4 (b := (decide (x17_2 < (a0.length : Int)))) rfl (fun hb => ?_) (fun hb => ?_)
  ·have H15 := Jo hb H14; clear H14
   refine Js ?_
   refine Je ?_
   refine J6 ?_
   refine Je ?_
   refine Jb ?_
   refine Ja rfl rfl rfl (Jd (v := .int .i64 x17_2) rfl) ?_
   obtain ⟨t20, h_t20, H16⟩ := Ji H15; clear H15
   refine Ja rfl rfl rfl (Qe Try.underlying32 Try.sizeOf25 rfl rfl f0.frs (f0.ix h_t20)) ?_
   refine Qu (fun w hF hS => Qa (f := (Wu h v0 1)) (i := x17_2) (sz := 1) (j := 0) (v := (Qb h v0 1 (Int.toNat x17_2) 0)) Try.isAgg25 rfl rfl (f0.frs.row (hw.now hF)) (f0.ix h_t20) (Ur (cgs_int (f0.at h_t20)) rfl)) rfl rfl rfl ?_
   refine Ja rfl rfl rfl (Jc (v := .int .i64 x17_2) rfl) ?_
   refine Ja rfl rfl rfl (Jc (v := (Qb h v0 1 (Int.toNat x17_2) 0)) rfl) ?_
   refine Jf ?_
   refine Je ?_
   refine Jb ?_
   refine Ja rfl rfl rfl (Jd (v := v1) rfl) ?_
   refine Ja rfl rfl rfl (Jd (v := .int .i64 x17_2) rfl) ?_
   obtain ⟨t24, h_t24, H17⟩ := Ji H16; clear H16
   refine Ja rfl rfl rfl (Qe Try.underlying32 Try.sizeOf25 rfl rfl f1.frs (f1.ix h_t24)) ?_
   refine Qu (fun w hF hS => Qa (f := (Wu h v1 1)) (i := x17_2) (sz := 1) (j := 0) (v := (Qb h v1 1 (Int.toNat x17_2) 0)) Try.isAgg25 rfl rfl (f1.frs.row (hw.now hF)) (f1.ix h_t24) (Ur (cgs_int (f1.at h_t24)) rfl)) rfl rfl rfl ?_
   refine Ja rfl rfl rfl (Jc (v := (Qb h v1 1 (Int.toNat x17_2) 0)) rfl) ?_
   refine Jf ?_
   refine Je ?_
   refine Jb ?_
   refine Ja rfl rfl rfl (Jd (v := v2) rfl) ?_
   refine Ja rfl rfl rfl (Jd (v := (Qb h v0 1 (Int.toNat x17_2) 0)) rfl) ?_
   refine Ja rfl rfl rfl (Jd (v := (Qb h v1 1 (Int.toNat x17_2) 0)) rfl) ?_
   obtain ⟨t29, h_t29, H18⟩ := Ji H17; clear H17
   refine l_callV (R := U9 a2) (r := .bool t29) (v := v2) (fun w hF hS => ⟨(f2.mono (hw.now hF)), ⟨t20, _, t24, _, _, ((show FrS h 1 (Qb h v0 1 (Int.toNat x17_2) 0) (t20.map J3) from (f0.at h_t20)).mono (hw.now hF)), ((show FrS h 1 (Qb h v1 1 (Int.toNat x17_2) 0) (t24.map J3) from (f1.at h_t24)).mono (hw.now hF)), rfl, h_t29, rfl⟩⟩) rfl rfl rfl rfl ?_
   refine Ja rfl rfl rfl (V3 rfl) ?_
   refine Jf ?_
   refine J4 (b := (!t29)) rfl (fun hb => ?_) (fun hb => ?_)
   ·have H19 := Jo hb H18; clear H18
    refine Je ?_
    refine Jb ?_
    refine Ja rfl rfl rfl (Jc (v := .bool false) rfl) ?_
    refine Jf ?_
    refine Jq ?_
    obtain rfl := Option.some.inj H19
    refine J5 (v := .bool false) rfl rfl (fin rfl)
   ·have H20 := Jp hb H18; clear H18
    refine Js ?_
    refine Jb ?_
    obtain ⟨t31, h_t31, H21⟩ := Ji H20; clear H20
    refine Ja rfl rfl rfl (Qv rfl rfl h_t31) ?_
    refine Ja rfl rfl rfl (Jd (v := .int .i64 t31) rfl) ?_
    refine Jf ?_
    refine Jr t31 () m1 [] (by exact ⟨rfl, rfl, rfl, rfl, rfl, trivial⟩) (by decide) (by kernel_rfl) (by exact ⟨(by subst hn1; exact H21), trivial⟩) (Nat.lt_succ_self _)
  ·have H22 := Jp hb H14; clear H14
   refine X7 ?_
   refine Je ?_
   refine Jb ?_
   refine Ja rfl rfl rfl (Jc (v := .bool true) rfl) ?_
   refine Jf ?_
   refine Jq ?_
   obtain rfl := Option.some.inj H22
   refine J5 (v := .bool true) rfl rfl (fin rfl)
theorem k30 {a0 : (List Int)} {v0 : Value} {a1 : (List Int)} {v1 : Value} {r : Bool} {w : World} {h : Jx} (hw : Know h w X3) (f0 : FrS h 1 v0 (a0.map J3)) (f1 : FrS h 1 v1 (a1.map J3)) (H : Xw a0 a1 = some r) : Does Try.prog 30 (List.toArray [v0, v1]) w (fun v w' => v = (.bool r) ∧ Grow w w') := by
 refine enter (n := 26) Try.func30 rfl rfl rfl X3 [] (Sat.nil _ _) ?_
 refine Je ?_
 refine Jb ?_
 refine Ja rfl rfl rfl (Jc (v := .bool false) rfl) ?_
 refine Jf ?_
 refine Je ?_
 refine Je ?_
 refine Jb ?_
 refine Ja rfl rfl rfl (Jd (v := v0) rfl) ?_
 refine Ja rfl rfl rfl (Xy Try.underlying25 rfl f0 rfl) ?_
 refine Ja rfl rfl rfl (Jd (v := v1) rfl) ?_
 refine Ja rfl rfl rfl (Xy Try.underlying25 rfl f1 rfl) ?_
 refine Ja rfl rfl rfl (Y9 rfl rfl) ?_
 refine Jf ?_
 refine J4 (b := (decide ((a0.length : Int) ≠ (a1.length : Int)))) rfl (fun hb => ?_) (fun hb => ?_)
 ·have H11 := Jo hb H; clear H
  refine Je ?_
  refine Jb ?_
  refine Ja rfl rfl rfl (Jc (v := .bool false) rfl) ?_
  refine Jf ?_
  refine Jq ?_
  obtain rfl := Option.some.inj H11
  refine J5 (v := .bool false) rfl rfl (fin rfl)
 ·have H12 := Jp hb H; clear H
  refine Js ?_
  refine Je ?_
  refine Je ?_
  refine Jb ?_
  refine Ja rfl rfl rfl (Jd (v := v0) rfl) ?_
  refine Ja rfl rfl rfl (Xy Try.underlying25 rfl f0 rfl) ?_
  refine Ja rfl rfl rfl (Jd (v := .int .i64 0) rfl) ?_
  refine Jf ?_
  refine J6 ?_
  refine Z7 (σ := Int) (τ := Unit) (fun next1 s => Q0 a0 a1 next1 s) (fun s t => [(0, v0), (1, v1), (12, .int .i64 (a0.length : Int)), (13, .int .i64 s)]) (fun s t => []) (fun s t => True) 0 () [] H12 (by exact trivial) (by exact ⟨rfl, rfl, rfl, rfl, trivial⟩) (by decide) rfl ?_
  rintro x13_2 _ m1 gg H13 _
  clear H12
  replace H13 : Q0 a0 a1 (it (fun next1 s => Q0 a0 a1 next1 s) m1) x13_2 = some r := H13
  generalize hn1 : it (fun next1 s => Q0 a0 a1 next1 s) m1 = next1 at H13
  try dsimp only
  refine Je ?_
  refine Jb ?_
  refine Ja rfl rfl rfl (Xs rfl rfl) ?_
  refine Jf ?_
  refine Je ?_
  refine J4 (b := (decide (x13_2 < (a0.length : Int)))) rfl (fun hb => ?_) (fun hb => ?_)
  ·have H14 := Jo hb H13; clear H13
   refine Js ?_
   refine Je ?_
   refine J6 ?_
   refine Je ?_
   refine Jb ?_
   refine Ja rfl rfl rfl (Jd (v := .int .i64 x13_2) rfl) ?_
   refine Ja rfl rfl rfl (Jc (v := .int .i64 x13_2) rfl) ?_
   refine Jf ?_
   refine Je ?_
   exact Qp (Kd.p :: Kd.p :: Kd.p :: Kd.d [] _ :: Kd.p :: Kd.p :: Kd.p :: Kd.d [] _ :: Kd.p :: []) 0 mixed (by
    refine Jj rfl rfl (Jd (v := v0) rfl) ?_
    refine Jj rfl rfl (Jd (v := .int .i64 x13_2) rfl) ?_
    have h_t18 := Qt H14
    have H15 := Ql H14
    refine Jj rfl rfl (Qe Try.underlying25 Try.sizeOf3 rfl rfl f0 h_t18) ?_
    refine Zw (fun w hF => Qa (f := J3) (i := x13_2) (sz := 1) (j := 0) (v := .int .i64 (val (Xt a0 x13_2))) Try.isAgg3 rfl rfl (f0.row (hw.now hF)) h_t18 rfl) rfl rfl ?_
    refine Jj rfl rfl (Jd (v := v1) rfl) ?_
    refine Jj rfl rfl (Jd (v := .int .i64 x13_2) rfl) ?_
    have h_t22 := Qt H15
    have H16 := Ql H15
    refine Jj rfl rfl (Qe Try.underlying25 Try.sizeOf3 rfl rfl f1 h_t22) ?_
    refine Zw (fun w hF => Qa (f := J3) (i := x13_2) (sz := 1) (j := 0) (v := .int .i64 (val (Xt a1 x13_2))) Try.isAgg3 rfl rfl (f1.row (hw.now hF)) h_t22 rfl) rfl rfl ?_
    refine Jj rfl rfl (Y9 rfl rfl) ?_
    refine Xm ?_
    refine J4 (b := (decide ((val (Xt a0 x13_2)) ≠ (val (Xt a1 x13_2))))) rfl (fun hb => ?_) (fun hb => ?_)
    ·have H17 := Jo hb H16; clear H16
     refine Je ?_
     refine Jb ?_
     refine Ja rfl rfl rfl (Jc (v := .bool false) rfl) ?_
     refine Jf ?_
     refine Jq ?_
     obtain rfl := Option.some.inj H17
     refine J5 (v := .bool false) rfl rfl (fin rfl)
    ·have H18 := Jp hb H16; clear H16
     refine Js ?_
     refine Jb ?_
     obtain ⟨t25, h_t25, H19⟩ := Ji H18; clear H18
     refine Ja rfl rfl rfl (Qv rfl rfl h_t25) ?_
     refine Ja rfl rfl rfl (Jd (v := .int .i64 t25) rfl) ?_
     refine Jf ?_
     refine Jr t25 () m1 [] (by exact ⟨rfl, rfl, rfl, rfl, trivial⟩) (by decide) (by kernel_rfl) (by exact ⟨(by subst hn1; exact H19), trivial⟩) (Nat.lt_succ_self _)
    ) (by kernel_rfl)
  ·have H20 := Jp hb H13; clear H13
   refine X7 ?_
   refine Je ?_
   refine Jb ?_
   refine Ja rfl rfl rfl (Jc (v := .bool true) rfl) ?_
   refine Jf ?_
   refine Jq ?_
   obtain rfl := Option.some.inj H20
   refine J5 (v := .bool true) rfl rfl (fin rfl)
theorem k8 {a0 : (List (List Int))} {v0 : Value} {a1 : Int} {a2 : (List (List Int))} {v2 : Value} {a3 : Int} {r : Bool} {w : World} {h : Jx} (hw : Know h w X3) (f0 : FrN h 1 v0 gs_int a0) (f2 : FrN h 1 v2 gs_int a2) (H : Jab a0 a1 a2 a3 = some r) : Does Try.prog 8 (List.toArray [v0, .int .i64 a1, v2, .int .i64 a3]) w (fun v w' => v = (.bool r) ∧ Grow w w') := by
 refine enter (n := 19) Try.func8 rfl rfl rfl X3 [] (Sat.nil _ _) ?_
 refine Je ?_
 refine Jb ?_
 refine Ja rfl rfl rfl (Jc (v := .bool false) rfl) ?_
 refine Jf ?_
 refine Q8 (r := r) (σ := (List (List Int))) (τ := Value) (fun s => V8 a0 a1 a3 s) (fun s t => [(0, v0), (1, .int .i64 a1), (2, t), (3, .int .i64 a3)]) (fun s t => []) (fun s t => FrN h 1 t gs_int s) ?_ ?_
 ·refine Je ?_
  refine Jb ?_
  refine Ja rfl rfl rfl (Jd (v := .int .i64 a3) rfl) ?_
  refine Ja rfl rfl rfl (Y9 rfl rfl) ?_
  refine Jf ?_
  refine J4 (b := (decide (a3 ≠ 0))) rfl (fun hb => ?_) (fun hb => ?_)
  ·have H11 := Jo hb H; clear H
   refine Jb ?_
   refine Ja rfl rfl rfl (Jc (v := .slice none 0 0) rfl) ?_
   refine Jf ?_
   refine Jr ([] : (List (List Int))) (.slice none 0 0) 0 [] (by exact ⟨rfl, rfl, rfl, rfl, trivial⟩) (by decide) (by kernel_rfl) (by exact ⟨H11, (FrN.nil _ _ _)⟩) (Nat.lt_succ_self _)
  ·have H12 := Jp hb H; clear H
   refine Js ?_
   refine Jr a2 v2 0 [] (by exact ⟨rfl, rfl, rfl, rfl, trivial⟩) (by decide) (by kernel_rfl) (by exact ⟨H12, f2⟩) (Nat.lt_succ_self _)
 ·rintro x2 gv gg H7 gf
  replace H7 : V8 a0 a1 a3 x2 = some r := H7
  try dsimp only
  refine Je ?_
  refine Jb ?_
  refine Ja rfl rfl rfl (Jd (v := v0) rfl) ?_
  refine Ja rfl rfl rfl (Jd (v := gv) rfl) ?_
  obtain ⟨t13, h_t13, H8⟩ := Ji H7; clear H7
  refine Qn (fun w hF hS => k29 (Jy w) (f0.mono (hw.now hF)) (gf.mono (hw.now hF)) (FnH.mk ⟨30, #[], #[], rfl, Try.call30, fun args2 post2 w2 hk2 hR2 => by obtain ⟨a0_, v0_, a1_, v1_, r_, fa0_, fa1_, rfl, H_, rfl⟩ := hR2; exact k30 (Jy w2) fa0_ fa1_ H_⟩) h_t13) Try.call29 rfl rfl rfl ?_
  refine Ja rfl rfl rfl (Jd (v := .bool t13) rfl) ?_
  refine split (fun hb => ?_) (fun hb => ?_)
  ·have H9 := Jo hb H8; clear H8
   refine Ja rfl rfl rfl (Jd (v := .int .i64 a1) rfl) ?_
   refine Ja rfl rfl rfl (Jd (v := .int .i64 a3) rfl) ?_
   refine Ja rfl rfl rfl (Qr rfl rfl) ?_
   refine Ja rfl rfl rfl (Jz (v := .bool (decide (a1 = a3))) rfl rfl) ?_
   refine Ja rfl rfl rfl (Jc (v := .bool (decide (a1 = a3))) rfl) ?_
   refine Jf ?_
   refine Jq ?_
   obtain rfl := Option.some.inj H9
   refine J5 (v := .bool (decide (a1 = a3))) rfl rfl (fin rfl)
  ·have H10 := Jp hb H8; clear H8
   refine Jh rfl rfl rfl ?_
   refine Jh rfl rfl rfl ?_
   refine Jh rfl rfl rfl ?_
   refine Ja rfl rfl rfl (J0 (v := .bool false) rfl rfl) ?_
   refine Ja rfl rfl rfl (Jc (v := .bool false) rfl) ?_
   refine Jf ?_
   refine Jq ?_
   obtain rfl := Option.some.inj H10
   refine J5 (v := .bool false) rfl rfl (fin rfl)
theorem k39 {a0 : (List T_tag_Ratio)} {v0 : Value} {a1 : (List T_tag_Ratio)} {v1 : Value} {r : Bool} {w : World} {h : Jx} (hw : Know h w X3) (f0 : FrS h 2 v0 (a0.map Jn)) (f1 : FrS h 2 v1 (a1.map Jn)) (H : Z3 a0 a1 = some r) : Does Try.prog 39 (List.toArray [v0, v1]) w (fun v w' => v = (.bool r) ∧ Grow w w') := by
 refine enter (n := 26) Try.func39 rfl rfl rfl X3 [] (Sat.nil _ _) ?_
 refine Je ?_
 refine Jb ?_
 refine Ja rfl rfl rfl (Jc (v := .bool false) rfl) ?_
 refine Jf ?_
 refine Je ?_
 refine Je ?_
 refine Jb ?_
 refine Ja rfl rfl rfl (Jd (v := v0) rfl) ?_
 refine Ja rfl rfl rfl (Xy Try.underlying26 rfl f0 rfl) ?_
 refine Ja rfl rfl rfl (Jd (v := v1) rfl) ?_
 refine Ja rfl rfl rfl (Xy Try.underlying26 rfl f1 rfl) ?_
 refine Ja rfl rfl rfl (Y9 rfl rfl) ?_
 refine Jf ?_
 refine J4 (b := (decide ((a0.length : Int) ≠ (a1.length : Int)))) rfl (fun hb => ?_) (fun hb => ?_)
 ·have H11 := Jo hb H; clear H
  refine Je ?_
  refine Jb ?_
  refine Ja rfl rfl rfl (Jc (v := .bool false) rfl) ?_
  refine Jf ?_
  refine Jq ?_
  obtain rfl := Option.some.inj H11
  refine J5 (v := .bool false) rfl rfl (fin rfl)
 ·have H12 := Jp hb H; clear H
  refine Js ?_
  refine Je ?_
  refine Je ?_
  refine Jb ?_
  refine Ja rfl rfl rfl (Jd (v := v0) rfl) ?_
  refine Ja rfl rfl rfl (Xy Try.underlying26 rfl f0 rfl) ?_
  refine Ja rfl rfl rfl (Jd (v := .int .i64 0) rfl) ?_
  refine Jf ?_
  refine J6 ?_
  refine Z7 (σ := Int) (τ := Unit) (fun next1 s => Qw a0 a1 next1 s) (fun s t => [(0, v0), (1, v1), (12, .int .i64 (a0.length : Int)), (13, .int .i64 s)]) (fun s t => []) (fun s t => True) 0 () [] H12 (by exact trivial) (by exact ⟨rfl, rfl, rfl, rfl, trivial⟩) (by decide) rfl ?_
  rintro x13_2 _ m1 gg H13 _
  clear H12
  replace H13 : Qw a0 a1 (it (fun next1 s => Qw a0 a1 next1 s) m1) x13_2 = some r := H13
  generalize hn1 : it (fun next1 s => Qw a0 a1 next1 s) m1 = next1 at H13
  try dsimp only
  refine Je ?_
  refine Jb ?_
  refine Ja rfl rfl rfl (Xs rfl rfl) ?_
  refine Jf ?_
  refine Je ?_
  refine J4 (b := (decide (x13_2 < (a0.length : Int)))) rfl (fun hb => ?_) (fun hb => ?_)
  ·have H14 := Jo hb H13; clear H13
   refine Js ?_
   refine Je ?_
   refine J6 ?_
   refine Je ?_
   refine Jb ?_
   refine Ja rfl rfl rfl (Jd (v := .int .i64 x13_2) rfl) ?_
   refine Ja rfl rfl rfl (Jc (v := .int .i64 x13_2) rfl) ?_
   refine Jf ?_
   refine Je ?_
   exact Qp (Kd.p :: Kd.p :: Kd.p :: Kd.d [] _ :: Kd.p :: Kd.p :: Kd.p :: Kd.d [] _ :: Kd.p :: []) 0 mixed (by
    refine Jj rfl rfl (Jd (v := v0) rfl) ?_
    refine Jj rfl rfl (Jd (v := .int .i64 x13_2) rfl) ?_
    have h_t18 := Qt H14
    have H15 := Ql H14
    refine Jj rfl rfl (Qe Try.underlying26 Try.sizeOf77 rfl rfl f0 h_t18) ?_
    refine Zw (fun w hF => Xr (f := Jn) (i := x13_2) (sz := 2) (j := 0) (vs := [.int .i64 (val (Xt a0 x13_2)).Num, .int .i64 (val (Xt a0 x13_2)).Den]) Try.isAgg77 Try.sizeOf77 rfl rfl (f0.row (hw.now hF)) h_t18 rfl) rfl rfl ?_
    refine Jj rfl rfl (Jd (v := v1) rfl) ?_
    refine Jj rfl rfl (Jd (v := .int .i64 x13_2) rfl) ?_
    have h_t22 := Qt H15
    have H16 := Ql H15
    refine Jj rfl rfl (Qe Try.underlying26 Try.sizeOf77 rfl rfl f1 h_t22) ?_
    refine Zw (fun w hF => Xr (f := Jn) (i := x13_2) (sz := 2) (j := 0) (vs := [.int .i64 (val (Xt a1 x13_2)).Num, .int .i64 (val (Xt a1 x13_2)).Den]) Try.isAgg77 Try.sizeOf77 rfl rfl (f1.row (hw.now hF)) h_t22 rfl) rfl rfl ?_
    refine Jj rfl rfl (r_neqA (xs := #[.int .i64 (val (Xt a0 x13_2)).Num, .int .i64 (val (Xt a0 x13_2)).Den]) (ys := #[.int .i64 (val (Xt a1 x13_2)).Num, .int .i64 (val (Xt a1 x13_2)).Den]) Try.eqGuardType77 (fun w => run_eq_tag_Ratio w (val (Xt a0 x13_2)) (val (Xt a1 x13_2))) rfl rfl) ?_
    refine Xm ?_
    refine J4 (b := (!(U6 (val (Xt a0 x13_2)) (val (Xt a1 x13_2))))) rfl (fun hb => ?_) (fun hb => ?_)
    ·have H17 := Jo hb H16; clear H16
     refine Je ?_
     refine Jb ?_
     refine Ja rfl rfl rfl (Jc (v := .bool false) rfl) ?_
     refine Jf ?_
     refine Jq ?_
     obtain rfl := Option.some.inj H17
     refine J5 (v := .bool false) rfl rfl (fin rfl)
    ·have H18 := Jp hb H16; clear H16
     refine Js ?_
     refine Jb ?_
     obtain ⟨t25, h_t25, H19⟩ := Ji H18; clear H18
     refine Ja rfl rfl rfl (Qv rfl rfl h_t25) ?_
     refine Ja rfl rfl rfl (Jd (v := .int .i64 t25) rfl) ?_
     refine Jf ?_
     refine Jr t25 () m1 [] (by exact ⟨rfl, rfl, rfl, rfl, trivial⟩) (by decide) (by kernel_rfl) (by exact ⟨(by subst hn1; exact H19), trivial⟩) (Nat.lt_succ_self _)
    ) (by kernel_rfl)
  ·have H20 := Jp hb H13; clear H13
   refine X7 ?_
   refine Je ?_
   refine Jb ?_
   refine Ja rfl rfl rfl (Jc (v := .bool true) rfl) ?_
   refine Jf ?_
   refine Jq ?_
   obtain rfl := Option.some.inj H20
   refine J5 (v := .bool true) rfl rfl (fin rfl)
theorem k66 {a0 : (List T_tag_Entry)} {v0 : Value} {a1 : (List T_tag_Entry)} {v1 : Value} {a2 : (T_tag_Entry → T_tag_Entry → Option (Bool))} {v2 : Value} {r : Bool} {w : World} {h : Jx} (hw : Know h w X3) (f0 : FrN h 6 v0 g_tag_Entry a0) (f1 : FrN h 6 v1 g_tag_Entry a1) (f2 : FnH Try.prog h v2 (Vm a2)) (H : Q2 a0 a1 a2 = some r) : Does Try.prog 66 (List.toArray [v0, v1, v2]) w (fun v w' => v = (.bool r) ∧ Grow w w') := by
 refine enter (n := 32) Try.func66 rfl rfl rfl X3 [] (Sat.nil _ _) ?_
 refine Je ?_
 refine Jb ?_
 refine Ja rfl rfl rfl (Jc (v := .bool false) rfl) ?_
 refine Jf ?_
 refine Je ?_
 refine Je ?_
 refine Jb ?_
 refine Ja rfl rfl rfl (Jd (v := v0) rfl) ?_
 refine Ja rfl rfl rfl (Q7 Try.underlying27 rfl f0) ?_
 refine Ja rfl rfl rfl (Jd (v := v1) rfl) ?_
 refine Ja rfl rfl rfl (Q7 Try.underlying27 rfl f1) ?_
 refine Ja rfl rfl rfl (Y9 rfl rfl) ?_
 refine Jf ?_
 refine J4 (b := (decide ((a0.length : Int) ≠ (a1.length : Int)))) rfl (fun hb => ?_) (fun hb => ?_)
 ·have H12 := Jo hb H; clear H
  refine Je ?_
  refine Jb ?_
  refine Ja rfl rfl rfl (Jc (v := .bool false) rfl) ?_
  refine Jf ?_
  refine Jq ?_
  obtain rfl := Option.some.inj H12
  refine J5 (v := .bool false) rfl rfl (fin rfl)
 ·have H13 := Jp hb H; clear H
  refine Js ?_
  refine Je ?_
  refine Je ?_
  refine Jb ?_
  refine Ja rfl rfl rfl (Jd (v := v0) rfl) ?_
  refine Ja rfl rfl rfl (Q7 Try.underlying27 rfl f0) ?_
  refine Ja rfl rfl rfl (Jd (v := .int .i64 0) rfl) ?_
  refine Jf ?_
  refine J6 ?_
  refine Z7 (σ := Int) (τ := Unit) (fun next1 s => J1 a0 a1 a2 next1 s) (fun s t => [(1, v1), (2, v2), (15, v0), (16, .int .i64 (a0.length : Int)), (17, .int .i64 s)]) (fun s t => []) (fun s t => True) 0 () [] H13 (by exact trivial) (by exact ⟨rfl, rfl, rfl, rfl, rfl, trivial⟩) (by decide) rfl ?_
  rintro x17_2 _ m1 gg H14 _
  clear H13
  replace H14 : J1 a0 a1 a2 (it (fun next1 s => J1 a0 a1 a2 next1 s) m1) x17_2 = some r := H14
  generalize hn1 : it (fun next1 s => J1 a0 a1 a2 next1 s) m1 = next1 at H14
  try dsimp only
  refine Je ?_
  refine Jb ?_
  refine Ja rfl rfl rfl (Xs rfl rfl) ?_
  refine Jf ?_
  refine Je ?_
  refine J4 (b := (decide (x17_2 < (a0.length : Int)))) rfl (fun hb => ?_) (fun hb => ?_)
  ·have H15 := Jo hb H14; clear H14
   refine Js ?_
   refine Je ?_
   refine J6 ?_
   refine Je ?_
   refine Jb ?_
   refine Ja rfl rfl rfl (Jd (v := .int .i64 x17_2) rfl) ?_
   obtain ⟨t20, h_t20, H16⟩ := Ji H15; clear H15
   refine Ja rfl rfl rfl (Qe Try.underlying27 Try.sizeOf70 rfl rfl f0.frs (f0.ix h_t20)) ?_
   refine Qu (fun w hF hS => Xr (f := (Wu h v0 6)) (i := x17_2) (sz := 6) (j := 0) (vs := [.int .i64 t20.Tag, .int .i64 t20.Value.Kind, str t20.Value.Text, (Qb h v0 6 (Int.toNat x17_2) 3), (Qb h v0 6 (Int.toNat x17_2) 4), (Qb h v0 6 (Int.toNat x17_2) 5)]) Try.isAgg70 Try.sizeOf70 rfl rfl (f0.frs.row (hw.now hF)) (f0.ix h_t20) (rd_of (Q1 (f0.at h_t20)) rfl)) rfl rfl rfl ?_
   refine Ye (cs := [.int .i64 0, .int .i64 0, str [], .slice none 0 0, .slice none 0 0, .slice none 0 0]) Try.zeroValue70 rfl rfl rfl (fun b2 => ?_)
   refine Ja rfl rfl rfl (Jc (v := .int .i64 x17_2) rfl) ?_
   refine Qi (i := 0) (vs := [.int .i64 t20.Tag, .int .i64 t20.Value.Kind, str t20.Value.Text, (Qb h v0 6 (Int.toNat x17_2) 3), (Qb h v0 6 (Int.toNat x17_2) 4), (Qb h v0 6 (Int.toNat x17_2) 5)]) (cs' := [.int .i64 t20.Tag, .int .i64 t20.Value.Kind, str t20.Value.Text, (Qb h v0 6 (Int.toNat x17_2) 3), (Qb h v0 6 (Int.toNat x17_2) 4), (Qb h v0 6 (Int.toNat x17_2) 5)]) Try.sizeOf70 rfl rfl rfl rfl rfl rfl (by simp only [List.all_cons, List.all_nil, (show FrN h 6 (Qb h v0 6 (Int.toNat x17_2) 5) g_tag_Entry t20.Value.Entries from (J2 (Jm (f0.at h_t20)))).one, (show FrS h 1 (Qb h v0 6 (Int.toNat x17_2) 3) (t20.Value.Ints.map J3) from (J9 (Jm (f0.at h_t20)))).one, (show FrS h 2 (Qb h v0 6 (Int.toNat x17_2) 4) (t20.Value.Ratios.map Jn) from (J8 (Jm (f0.at h_t20)))).one] <;> rfl) rfl rfl ?_
   refine Jf ?_
   refine Je ?_
   refine Jb ?_
   refine Ja rfl rfl rfl (Jd (v := v1) rfl) ?_
   refine Ja rfl rfl rfl (Jd (v := .int .i64 x17_2) rfl) ?_
   obtain ⟨t24, h_t24, H17⟩ := Ji H16; clear H16
   refine Ja rfl rfl rfl (Qe Try.underlying27 Try.sizeOf70 rfl rfl f1.frs (f1.ix h_t24)) ?_
   refine Qu (fun w hF hS => Xr (f := (Wu h v1 6)) (i := x17_2) (sz := 6) (j := 0) (vs := [.int .i64 t24.Tag, .int .i64 t24.Value.Kind, str t24.Value.Text, (Qb h v1 6 (Int.toNat x17_2) 3), (Qb h v1 6 (Int.toNat x17_2) 4), (Qb h v1 6 (Int.toNat x17_2) 5)]) Try.isAgg70 Try.sizeOf70 rfl rfl (f1.frs.row (hw.now hF)) (f1.ix h_t24) (rd_of (Q1 (f1.at h_t24)) rfl)) rfl rfl rfl ?_
   refine Ye (cs := [.int .i64 0, .int .i64 0, str [], .slice none 0 0, .slice none 0 0, .slice none 0 0]) Try.zeroValue70 rfl rfl rfl (fun b3 => ?_)
   refine Qi (i := 1) (vs := [.int .i64 t24.Tag, .int .i64 t24.Value.Kind, str t24.Value.Text, (Qb h v1 6 (Int.toNat x17_2) 3), (Qb h v1 6 (Int.toNat x17_2) 4), (Qb h v1 6 (Int.toNat x17_2) 5)]) (cs' := [.int .i64 t24.Tag, .int .i64 t24.Value.Kind, str t24.Value.Text, (Qb h v1 6 (Int.toNat x17_2) 3), (Qb h v1 6 (Int.toNat x17_2) 4), (Qb h v1 6 (Int.toNat x17_2) 5)]) Try.sizeOf70 rfl rfl rfl rfl rfl rfl (by simp only [List.all_cons, List.all_nil, (show FrN h 6 (Qb h v1 6 (Int.toNat x17_2) 5) g_tag_Entry t24.Value.Entries from (J2 (Jm (f1.at h_t24)))).one, (show FrS h 1 (Qb h v1 6 (Int.toNat x17_2) 3) (t24.Value.Ints.map J3) from (J9 (Jm (f1.at h_t24)))).one, (show FrS h 2 (Qb h v1 6 (Int.toNat x17_2) 4) (t24.Value.Ratios.map Jn) from (J8 (Jm (f1.at h_t24)))).one] <;> rfl) rfl rfl ?_
   refine Jf ?_
   refine Je ?_
   refine Jb ?_
   refine Ja rfl rfl rfl (Jd (v := v2) rfl) ?_
   refine Qg (i := 0) (vs := [.int .i64 t20.Tag, .int .i64 t20.Value.Kind, str t20.Value.Text, (Qb h v0 6 (Int.toNat x17_2) 3), (Qb h v0 6 (Int.toNat x17_2) 4), (Qb h v0 6 (Int.toNat x17_2) 5)]) Try.isAgg70 Try.sizeOf70 rfl rfl rfl rfl rfl ?_
   refine Qg (i := 1) (vs := [.int .i64 t24.Tag, .int .i64 t24.Value.Kind, str t24.Value.Text, (Qb h v1 6 (Int.toNat x17_2) 3), (Qb h v1 6 (Int.toNat x17_2) 4), (Qb h v1 6 (Int.toNat x17_2) 5)]) Try.isAgg70 Try.sizeOf70 rfl rfl rfl rfl rfl ?_
   obtain ⟨t29, h_t29, H18⟩ := Ji H17; clear H17
   refine l_callV (R := Vm a2) (r := .bool t29) (v := v2) (fun w hF hS => ⟨(f2.mono (hw.now hF)), ⟨t20, _, _, _, t24, _, _, _, _, ((show FrS h 1 (Qb h v0 6 (Int.toNat x17_2) 3) (t20.Value.Ints.map J3) from (J9 (Jm (f0.at h_t20)))).mono (hw.now hF)), ((show FrS h 2 (Qb h v0 6 (Int.toNat x17_2) 4) (t20.Value.Ratios.map Jn) from (J8 (Jm (f0.at h_t20)))).mono (hw.now hF)), ((show FrN h 6 (Qb h v0 6 (Int.toNat x17_2) 5) g_tag_Entry t20.Value.Entries from (J2 (Jm (f0.at h_t20)))).mono (hw.now hF)), ((show FrS h 1 (Qb h v1 6 (Int.toNat x17_2) 3) (t24.Value.Ints.map J3) from (J9 (Jm (f1.at h_t24)))).mono (hw.now hF)), ((show FrS h 2 (Qb h v1 6 (Int.toNat x17_2) 4) (t24.Value.Ratios.map Jn) from (J8 (Jm (f1.at h_t24)))).mono (hw.now hF)), ((show FrN h 6 (Qb h v1 6 (Int.toNat x17_2) 5) g_tag_Entry t24.Value.Entries from (J2 (Jm (f1.at h_t24)))).mono (hw.now hF)), rfl, h_t29, rfl⟩⟩) rfl rfl rfl rfl ?_
   refine Ja rfl rfl rfl (V3 rfl) ?_
   refine Jf ?_
   refine J4 (b := (!t29)) rfl (fun hb => ?_) (fun hb => ?_)
   ·have H19 := Jo hb H18; clear H18
    refine Je ?_
    refine Jb ?_
    refine Ja rfl rfl rfl (Jc (v := .bool false) rfl) ?_
    refine Jf ?_
    refine Jq ?_
    obtain rfl := Option.some.inj H19
    refine J5 (v := .bool false) rfl rfl (fin rfl)
   ·have H20 := Jp hb H18; clear H18
    refine Js ?_
    refine Jb ?_
    obtain ⟨t31, h_t31, H21⟩ := Ji H20; clear H20
    refine Ja rfl rfl rfl (Qv rfl rfl h_t31) ?_
    refine Ja rfl rfl rfl (Jd (v := .int .i64 t31) rfl) ?_
    refine Jf ?_
    refine Jr t31 () m1 [] (by exact ⟨rfl, rfl, rfl, rfl, rfl, trivial⟩) (by decide) (by kernel_rfl) (by exact ⟨(by subst hn1; exact H21), trivial⟩) (Nat.lt_succ_self _)
  ·have H22 := Jp hb H14; clear H14
   refine X7 ?_
   refine Je ?_
   refine Jb ?_
   refine Ja rfl rfl rfl (Jc (v := .bool true) rfl) ?_
   refine Jf ?_
   refine Jq ?_
   obtain rfl := Option.some.inj H22
   refine J5 (v := .bool true) rfl rfl (fin rfl)
theorem k12_b {self : ((List T_tag_Entry) × (List T_tag_Entry)) → Option (Bool)} (ih : ∀ {a0 : (List T_tag_Entry)} {v0 : Value} {a1 : (List T_tag_Entry)} {v1 : Value} {r : Bool} {w : World} {h : Jx} (hw : Know h w X3) (f0 : FrN h 6 v0 g_tag_Entry a0) (f1 : FrN h 6 v1 g_tag_Entry a1) (_ : self (a0, a1) = some r), Does Try.prog 40 (List.toArray [v0, v1]) w (fun v w' => v = (.bool r) ∧ Grow w w')) {a0 : T_tag_Value} {v0_2 : Value} {v0_3 : Value} {v0_4 : Value} {a1 : T_tag_Value} {v1_2 : Value} {v1_3 : Value} {v1_4 : Value} {r : Bool} {w : World} {h : Jx} (hw : Know h w X3) (f0_2 : FrS h 1 v0_2 (a0.Ints.map J3)) (f0_3 : FrS h 2 v0_3 (a0.Ratios.map Jn)) (f0_4 : FrN h 6 v0_4 g_tag_Entry a0.Entries) (f1_2 : FrS h 1 v1_2 (a1.Ints.map J3)) (f1_3 : FrS h 2 v1_3 (a1.Ratios.map Jn)) (f1_4 : FrN h 6 v1_4 g_tag_Entry a1.Entries) (H : Vd self a0 a1 = some r) : Does Try.prog 12 (List.toArray [.agg #[.int .i64 a0.Kind, str a0.Text, v0_2, v0_3, v0_4], .agg #[.int .i64 a1.Kind, str a1.Text, v1_2, v1_3, v1_4]]) w (fun v w' => v = (.bool r) ∧ Grow w w') := by
 refine enter (n := 38) Try.func12 rfl rfl rfl X3 [] (Sat.nil _ _) ?_
 refine Je ?_
 refine Jb ?_
 refine Yv (cs := [.int .i64 a0.Kind, str a0.Text, v0_2, v0_3, v0_4]) rfl rfl rfl rfl (fun b2 => ?_)
 refine Yv (cs := [.int .i64 a1.Kind, str a1.Text, v1_2, v1_3, v1_4]) rfl rfl rfl rfl (fun b3 => ?_)
 refine Ja rfl rfl rfl (Jc (v := .bool false) rfl) ?_
 refine Jf ?_
 refine Je ?_
 refine Jb ?_
 refine Ja rfl rfl rfl (Jl Try.runUnderlying29 rfl Try.sizeOf3 rfl rfl) ?_
 refine Jt (i := 0) (v := .int .i64 a0.Kind) Try.isAgg3 rfl rfl rfl rfl rfl ?_
 refine Ja rfl rfl rfl (Jl Try.runUnderlying29 rfl Try.sizeOf3 rfl rfl) ?_
 refine Jt (i := 1) (v := .int .i64 a1.Kind) Try.isAgg3 rfl rfl rfl rfl rfl ?_
 refine Ja rfl rfl rfl (Qr rfl rfl) ?_
 refine Ja rfl rfl rfl (Jd (v := .bool (decide (a0.Kind = a1.Kind))) rfl) ?_
 refine split (fun hb => ?_) (fun hb => ?_)
 ·have H12 := Jo hb H; clear H
  refine Ja rfl rfl rfl (Jl Try.runUnderlying29 rfl Try.sizeOf9 rfl rfl) ?_
  refine Jt (i := 0) (v := str a0.Text) Try.isAgg9 rfl rfl rfl rfl rfl ?_
  refine Ja rfl rfl rfl (Jl Try.runUnderlying29 rfl Try.sizeOf9 rfl rfl) ?_
  refine Jt (i := 1) (v := str a1.Text) Try.isAgg9 rfl rfl rfl rfl rfl ?_
  refine Ja rfl rfl rfl (r_eqlT rfl rfl) ?_
  refine Ja rfl rfl rfl (Jz (v := .bool (decide (a0.Text = a1.Text))) rfl rfl) ?_
  refine Ja rfl rfl rfl (Jd (v := .bool (decide (a0.Text = a1.Text))) rfl) ?_
  refine split (fun hb => ?_) (fun hb => ?_)
  ·have H13 := Jo hb H12; clear H12
   refine Ja rfl rfl rfl (Jl Try.runUnderlying29 rfl Try.sizeOf25 rfl rfl) ?_
   refine Jt (i := 0) (v := v0_2) Try.isAgg25 rfl rfl rfl rfl rfl ?_
   refine Ja rfl rfl rfl (Jl Try.runUnderlying29 rfl Try.sizeOf25 rfl rfl) ?_
   refine Jt (i := 1) (v := v1_2) Try.isAgg25 rfl rfl rfl rfl rfl ?_
   obtain ⟨t22, h_t22, H14⟩ := Ji H13; clear H13
   refine Qn (fun w hF hS => k30 (Jy w) (f0_2.mono (hw.now hF)) (f1_2.mono (hw.now hF)) h_t22) Try.call30 rfl rfl rfl ?_
   refine Ja rfl rfl rfl (Jz (v := .bool t22) rfl rfl) ?_
   refine Ja rfl rfl rfl (Jd (v := .bool t22) rfl) ?_
   refine split (fun hb => ?_) (fun hb => ?_)
   ·have H15 := Jo hb H14; clear H14
    refine Ja rfl rfl rfl (Jl Try.runUnderlying29 rfl Try.sizeOf26 rfl rfl) ?_
    refine Jt (i := 0) (v := v0_3) Try.isAgg26 rfl rfl rfl rfl rfl ?_
    refine Ja rfl rfl rfl (Jl Try.runUnderlying29 rfl Try.sizeOf26 rfl rfl) ?_
    refine Jt (i := 1) (v := v1_3) Try.isAgg26 rfl rfl rfl rfl rfl ?_
    obtain ⟨t29, h_t29, H16⟩ := Ji H15; clear H15
    refine Qn (fun w hF hS => k39 (Jy w) (f0_3.mono (hw.now hF)) (f1_3.mono (hw.now hF)) h_t29) Try.call39 rfl rfl rfl ?_
    refine Ja rfl rfl rfl (Jz (v := .bool t29) rfl rfl) ?_
    refine Ja rfl rfl rfl (Jd (v := .bool t29) rfl) ?_
    refine split (fun hb => ?_) (fun hb => ?_)
    ·have H17 := Jo hb H16; clear H16
     refine Ja rfl rfl rfl (Jl Try.runUnderlying29 rfl Try.sizeOf27 rfl rfl) ?_
     refine Jt (i := 0) (v := v0_4) Try.isAgg27 rfl rfl rfl rfl rfl ?_
     refine Ja rfl rfl rfl (Jl Try.runUnderlying29 rfl Try.sizeOf27 rfl rfl) ?_
     refine Jt (i := 1) (v := v1_4) Try.isAgg27 rfl rfl rfl rfl rfl ?_
     obtain ⟨t36, h_t36, H18⟩ := Ji H17; clear H17
     refine Qn (fun w hF hS => ih (Jy w) (f0_4.mono (hw.now hF)) (f1_4.mono (hw.now hF)) h_t36) Try.call40 rfl rfl rfl ?_
     refine Ja rfl rfl rfl (Jz (v := .bool t36) rfl rfl) ?_
     refine Ja rfl rfl rfl (Jc (v := .bool t36) rfl) ?_
     refine Jf ?_
     refine Jq ?_
     obtain rfl := Option.some.inj H18
     refine J5 (v := .bool t36) rfl rfl (fin rfl)
    ·have H19 := Jp hb H16; clear H16
     refine Jh rfl rfl rfl ?_
     refine Jh rfl rfl rfl ?_
     refine Jh rfl rfl rfl ?_
     refine Jh rfl rfl rfl ?_
     refine Jh rfl rfl rfl ?_
     refine Ja rfl rfl rfl (J0 (v := .bool false) rfl rfl) ?_
     refine Ja rfl rfl rfl (Jc (v := .bool false) rfl) ?_
     refine Jf ?_
     refine Jq ?_
     obtain rfl := Option.some.inj H19
     refine J5 (v := .bool false) rfl rfl (fin rfl)
   ·have H20 := Jp hb H14; clear H14
    refine Jh rfl rfl rfl ?_
    refine Jh rfl rfl rfl ?_
    refine Jh rfl rfl rfl ?_
    refine Jh rfl rfl rfl ?_
    refine Jh rfl rfl rfl ?_
    refine Ja rfl rfl rfl (J0 (v := .bool false) rfl rfl) ?_
    refine Ja rfl rfl rfl (Jd (v := .bool false) rfl) ?_
    refine Jh rfl rfl rfl ?_
    refine Jh rfl rfl rfl ?_
    refine Jh rfl rfl rfl ?_
    refine Jh rfl rfl rfl ?_
    refine Jh rfl rfl rfl ?_
    refine Ja rfl rfl rfl (J0 (v := .bool false) rfl rfl) ?_
    refine Ja rfl rfl rfl (Jc (v := .bool false) rfl) ?_
    refine Jf ?_
    refine Jq ?_
    obtain rfl := Option.some.inj H20
    refine J5 (v := .bool false) rfl rfl (fin rfl)
  ·have H21 := Jp hb H12; clear H12
   refine Jh rfl rfl rfl ?_
   refine Jh rfl rfl rfl ?_
   refine Jh rfl rfl rfl ?_
   refine Jh rfl rfl rfl ?_
   refine Jh rfl rfl rfl ?_
   refine Ja rfl rfl rfl (J0 (v := .bool false) rfl rfl) ?_
   refine Ja rfl rfl rfl (Jd (v := .bool false) rfl) ?_
   refine Jh rfl rfl rfl ?_
   refine Jh rfl rfl rfl ?_
   refine Jh rfl rfl rfl ?_
   refine Jh rfl rfl rfl ?_
   refine Jh rfl rfl rfl ?_
   refine Ja rfl rfl rfl (J0 (v := .bool false) rfl rfl) ?_
   refine Ja rfl rfl rfl (Jd (v := .bool false) rfl) ?_
   refine Jh rfl rfl rfl ?_
   refine Jh rfl rfl rfl ?_
   refine Jh rfl rfl rfl ?_
   refine Jh rfl rfl rfl ?_
   refine Jh rfl rfl rfl ?_
   refine Ja rfl rfl rfl (J0 (v := .bool false) rfl rfl) ?_
   refine Ja rfl rfl rfl (Jc (v := .bool false) rfl) ?_
   refine Jf ?_
   refine Jq ?_
   obtain rfl := Option.some.inj H21
   refine J5 (v := .bool false) rfl rfl (fin rfl)
 ·have H22 := Jp hb H; clear H
  refine Jh rfl rfl rfl ?_
  refine Jh rfl rfl rfl ?_
  refine Jh rfl rfl rfl ?_
  refine Jh rfl rfl rfl ?_
  refine Jh rfl rfl rfl ?_
  refine Ja rfl rfl rfl (J0 (v := .bool false) rfl rfl) ?_
  refine Ja rfl rfl rfl (Jd (v := .bool false) rfl) ?_
  refine Jh rfl rfl rfl ?_
  refine Jh rfl rfl rfl ?_
  refine Jh rfl rfl rfl ?_
  refine Jh rfl rfl rfl ?_
  refine Jh rfl rfl rfl ?_
  refine Ja rfl rfl rfl (J0 (v := .bool false) rfl rfl) ?_
  refine Ja rfl rfl rfl (Jd (v := .bool false) rfl) ?_
  refine Jh rfl rfl rfl ?_
  refine Jh rfl rfl rfl ?_
  refine Jh rfl rfl rfl ?_
  refine Jh rfl rfl rfl ?_
  refine Jh rfl rfl rfl ?_
  refine Ja rfl rfl rfl (J0 (v := .bool false) rfl rfl) ?_
  refine Ja rfl rfl rfl (Jd (v := .bool false) rfl) ?_
  refine Jh rfl rfl rfl ?_
  refine Jh rfl rfl rfl ?_
  refine Jh rfl rfl rfl ?_
  refine Jh rfl rfl rfl ?_
  refine Jh rfl rfl rfl ?_
  refine Ja rfl rfl rfl (J0 (v := .bool false) rfl rfl) ?_
  refine Ja rfl rfl rfl (Jc (v := .bool false) rfl) ?_
  refine Jf ?_
  refine Jq ?_
  obtain rfl := Option.some.inj H22
  refine J5 (v := .bool false) rfl rfl (fin rfl)
theorem k67_b {self : ((List T_tag_Entry) × (List T_tag_Entry)) → Option (Bool)} (ih : ∀ {a0 : (List T_tag_Entry)} {v0 : Value} {a1 : (List T_tag_Entry)} {v1 : Value} {r : Bool} {w : World} {h : Jx} (hw : Know h w X3) (f0 : FrN h 6 v0 g_tag_Entry a0) (f1 : FrN h 6 v1 g_tag_Entry a1) (_ : self (a0, a1) = some r), Does Try.prog 40 (List.toArray [v0, v1]) w (fun v w' => v = (.bool r) ∧ Grow w w')) {a0 : T_tag_Entry} {v0_1_2 : Value} {v0_1_3 : Value} {v0_1_4 : Value} {a1 : T_tag_Entry} {v1_1_2 : Value} {v1_1_3 : Value} {v1_1_4 : Value} {r : Bool} {w : World} {h : Jx} (hw : Know h w X3) (f0_1_2 : FrS h 1 v0_1_2 (a0.Value.Ints.map J3)) (f0_1_3 : FrS h 2 v0_1_3 (a0.Value.Ratios.map Jn)) (f0_1_4 : FrN h 6 v0_1_4 g_tag_Entry a0.Value.Entries) (f1_1_2 : FrS h 1 v1_1_2 (a1.Value.Ints.map J3)) (f1_1_3 : FrS h 2 v1_1_3 (a1.Value.Ratios.map Jn)) (f1_1_4 : FrN h 6 v1_1_4 g_tag_Entry a1.Value.Entries) (H : W9 self a0 a1 = some r) : Does Try.prog 67 (List.toArray [.agg #[.int .i64 a0.Tag, .int .i64 a0.Value.Kind, str a0.Value.Text, v0_1_2, v0_1_3, v0_1_4], .agg #[.int .i64 a1.Tag, .int .i64 a1.Value.Kind, str a1.Value.Text, v1_1_2, v1_1_3, v1_1_4]]) w (fun v w' => v = (.bool r) ∧ Grow w w') := by
 refine enter (n := 17) Try.func67 rfl rfl rfl X3 [] (Sat.nil _ _) ?_
 refine Je ?_
 refine Jb ?_
 refine Yv (cs := [.int .i64 a0.Tag, .int .i64 a0.Value.Kind, str a0.Value.Text, v0_1_2, v0_1_3, v0_1_4]) rfl rfl rfl rfl (fun b2 => ?_)
 refine Yv (cs := [.int .i64 a1.Tag, .int .i64 a1.Value.Kind, str a1.Value.Text, v1_1_2, v1_1_3, v1_1_4]) rfl rfl rfl rfl (fun b3 => ?_)
 refine Ja rfl rfl rfl (Jc (v := .bool false) rfl) ?_
 refine Jf ?_
 refine Je ?_
 refine Jb ?_
 refine Ja rfl rfl rfl (Jl Try.runUnderlying70 rfl Try.sizeOf3 rfl rfl) ?_
 refine Jt (i := 0) (v := .int .i64 a0.Tag) Try.isAgg3 rfl rfl rfl rfl rfl ?_
 refine Ja rfl rfl rfl (Jl Try.runUnderlying70 rfl Try.sizeOf3 rfl rfl) ?_
 refine Jt (i := 1) (v := .int .i64 a1.Tag) Try.isAgg3 rfl rfl rfl rfl rfl ?_
 refine Ja rfl rfl rfl (Qr rfl rfl) ?_
 refine Ja rfl rfl rfl (Jd (v := .bool (decide (a0.Tag = a1.Tag))) rfl) ?_
 refine split (fun hb => ?_) (fun hb => ?_)
 ·have H4 := Jo hb H; clear H
  refine Ja rfl rfl rfl (Jl Try.runUnderlying70 rfl Try.sizeOf29 rfl rfl) ?_
  refine Qg (i := 0) (vs := [.int .i64 a0.Value.Kind, str a0.Value.Text, v0_1_2, v0_1_3, v0_1_4]) Try.isAgg29 Try.sizeOf29 rfl rfl rfl rfl rfl ?_
  refine Ja rfl rfl rfl (Jl Try.runUnderlying70 rfl Try.sizeOf29 rfl rfl) ?_
  refine Qg (i := 1) (vs := [.int .i64 a1.Value.Kind, str a1.Value.Text, v1_1_2, v1_1_3, v1_1_4]) Try.isAgg29 Try.sizeOf29 rfl rfl rfl rfl rfl ?_
  obtain ⟨t15, h_t15, H5⟩ := Ji H4; clear H4
  refine Qn (fun w hF hS => k12_b ih (Jy w) (f0_1_2.mono (hw.now hF)) (f0_1_3.mono (hw.now hF)) (f0_1_4.mono (hw.now hF)) (f1_1_2.mono (hw.now hF)) (f1_1_3.mono (hw.now hF)) (f1_1_4.mono (hw.now hF)) h_t15) Try.call12 rfl rfl rfl ?_
  refine Ja rfl rfl rfl (Jz (v := .bool t15) rfl rfl) ?_
  refine Ja rfl rfl rfl (Jc (v := .bool t15) rfl) ?_
  refine Jf ?_
  refine Jq ?_
  obtain rfl := Option.some.inj H5
  refine J5 (v := .bool t15) rfl rfl (fin rfl)
 ·have H6 := Jp hb H; clear H
  refine Jh rfl rfl rfl ?_
  refine Jh rfl rfl rfl ?_
  refine Jh rfl rfl rfl ?_
  refine Jh rfl rfl rfl ?_
  refine Jh rfl rfl rfl ?_
  refine Ja rfl rfl rfl (J0 (v := .bool false) rfl rfl) ?_
  refine Ja rfl rfl rfl (Jc (v := .bool false) rfl) ?_
  refine Jf ?_
  refine Jq ?_
  obtain rfl := Option.some.inj H6
  refine J5 (v := .bool false) rfl rfl (fin rfl)
theorem k40_it (mm : Nat) : ∀ {a0 : (List T_tag_Entry)} {v0 : Value} {a1 : (List T_tag_Entry)} {v1 : Value} {r : Bool} {w : World} {h : Jx} (hw : Know h w X3) (f0 : FrN h 6 v0 g_tag_Entry a0) (f1 : FrN h 6 v1 g_tag_Entry a1) (H : it (fun (self : ((List T_tag_Entry) × (List T_tag_Entry)) → Option (Bool)) (s : (List T_tag_Entry) × (List T_tag_Entry)) => Qy self s.1 s.2) mm (a0, a1) = some r), Does Try.prog 40 (List.toArray [v0, v1]) w (fun v w' => v = (.bool r) ∧ Grow w w') := by
 induction mm with
 | zero => intros; rename_i H; exact absurd H (by simp [it])
 | succ mm ih =>
  intro a0 v0 a1 v1 r w h hw f0 f1 H
  replace H : Qy (it (fun (self : ((List T_tag_Entry) × (List T_tag_Entry)) → Option (Bool)) (s : (List T_tag_Entry) × (List T_tag_Entry)) => Qy self s.1 s.2) mm) a0 a1 = some r := H
  generalize it (fun (self : ((List T_tag_Entry) × (List T_tag_Entry)) → Option (Bool)) (s : (List T_tag_Entry) × (List T_tag_Entry)) => Qy self s.1 s.2) mm = self at H ih
  refine enter (n := 8) Try.func40 rfl rfl rfl X3 [] (Sat.nil _ _) ?_
  refine Je ?_
  refine Jb ?_
  refine Ja rfl rfl rfl (Jc (v := .bool false) rfl) ?_
  refine Jf ?_
  refine Je ?_
  refine Jb ?_
  refine Ja rfl rfl rfl (Jd (v := v0) rfl) ?_
  refine Ja rfl rfl rfl (Jd (v := v1) rfl) ?_
  obtain ⟨t7, h_t7, H2⟩ := Ji H; clear H
  refine Qn (fun w hF hS => k66 (Jy w) (f0.mono (hw.now hF)) (f1.mono (hw.now hF)) (FnH.mk ⟨67, #[], #[], rfl, Try.call67, fun args2 post2 w2 hk2 hR2 => by obtain ⟨a0_, v0_1_2_, v0_1_3_, v0_1_4_, a1_, v1_1_2_, v1_1_3_, v1_1_4_, r_, fa0_1_2_, fa0_1_3_, fa0_1_4_, fa1_1_2_, fa1_1_3_, fa1_1_4_, rfl, H_, rfl⟩ := hR2; exact k67_b ih (Jy w2) fa0_1_2_ fa0_1_3_ fa0_1_4_ fa1_1_2_ fa1_1_3_ fa1_1_4_ H_⟩) h_t7) Try.call66 rfl rfl rfl ?_
  refine Ja rfl rfl rfl (Jc (v := .bool t7) rfl) ?_
  refine Jf ?_
  refine Jq ?_
  obtain rfl := Option.some.inj H2
  refine J5 (v := .bool t7) rfl rfl (fin rfl)
theorem k40 {a0 : (List T_tag_Entry)} {v0 : Value} {a1 : (List T_tag_Entry)} {v1 : Value} {r : Bool} {w : World} {h : Jx} (hw : Know h w X3) (f0 : FrN h 6 v0 g_tag_Entry a0) (f1 : FrN h 6 v1 g_tag_Entry a1) (H : Wa a0 a1 = some r) : Does Try.prog 40 (List.toArray [v0, v1]) w (fun v w' => v = (.bool r) ∧ Grow w w') := by
 obtain ⟨mm, hm⟩ := fix_it (show V6 (fun (self : ((List T_tag_Entry) × (List T_tag_Entry)) → Option (Bool)) (s : (List T_tag_Entry) × (List T_tag_Entry)) => Qy self s.1 s.2) (a0, a1) = some r from H)
 exact k40_it mm hw f0 f1 hm
theorem k12 {a0 : T_tag_Value} {v0_2 : Value} {v0_3 : Value} {v0_4 : Value} {a1 : T_tag_Value} {v1_2 : Value} {v1_3 : Value} {v1_4 : Value} {r : Bool} {w : World} {h : Jx} (hw : Know h w X3) (f0_2 : FrS h 1 v0_2 (a0.Ints.map J3)) (f0_3 : FrS h 2 v0_3 (a0.Ratios.map Jn)) (f0_4 : FrN h 6 v0_4 g_tag_Entry a0.Entries) (f1_2 : FrS h 1 v1_2 (a1.Ints.map J3)) (f1_3 : FrS h 2 v1_3 (a1.Ratios.map Jn)) (f1_4 : FrN h 6 v1_4 g_tag_Entry a1.Entries) (H : Zq a0 a1 = some r) : Does Try.prog 12 (List.toArray [.agg #[.int .i64 a0.Kind, str a0.Text, v0_2, v0_3, v0_4], .agg #[.int .i64 a1.Kind, str a1.Text, v1_2, v1_3, v1_4]]) w (fun v w' => v = (.bool r) ∧ Grow w w') :=
  k12_b (self := (fun s : (List T_tag_Entry) × (List T_tag_Entry) => Wa s.1 s.2)) (fun hw_ f0_ f1_ H_ => k40 hw_ f0_ f1_ H_) hw f0_2 f0_3 f0_4 f1_2 f1_3 f1_4 H
theorem k41 {a0 : (List (List T_tag_Entry))} {v0 : Value} {a1 : (List (List T_tag_Entry))} {v1 : Value} {a2 : ((List T_tag_Entry) → (List T_tag_Entry) → Option (Bool))} {v2 : Value} {r : Bool} {w : World} {h : Jx} (hw : Know h w X3) (f0 : FrN h 1 v0 gs_tag_Entry a0) (f1 : FrN h 1 v1 gs_tag_Entry a1) (f2 : FnH Try.prog h v2 (Z0 a2)) (H : Q3 a0 a1 a2 = some r) : Does Try.prog 41 (List.toArray [v0, v1, v2]) w (fun v w' => v = (.bool r) ∧ Grow w w') := by
 refine enter (n := 32) Try.func41 rfl rfl rfl X3 [] (Sat.nil _ _) ?_
 refine Je ?_
 refine Jb ?_
 refine Ja rfl rfl rfl (Jc (v := .bool false) rfl) ?_
 refine Jf ?_
 refine Je ?_
 refine Je ?_
 refine Jb ?_
 refine Ja rfl rfl rfl (Jd (v := v0) rfl) ?_
 refine Ja rfl rfl rfl (Q7 Try.underlying22 rfl f0) ?_
 refine Ja rfl rfl rfl (Jd (v := v1) rfl) ?_
 refine Ja rfl rfl rfl (Q7 Try.underlying22 rfl f1) ?_
 refine Ja rfl rfl rfl (Y9 rfl rfl) ?_
 refine Jf ?_
 refine J4 (b := (decide ((a0.length : Int) ≠ (a1.length : Int)))) rfl (fun hb => ?_) (fun hb => ?_)
 ·have H12 := Jo hb H; clear H
  refine Je ?_
  refine Jb ?_
  refine Ja rfl rfl rfl (Jc (v := .bool false) rfl) ?_
  refine Jf ?_
  refine Jq ?_
  obtain rfl := Option.some.inj H12
  refine J5 (v := .bool false) rfl rfl (fin rfl)
 ·have H13 := Jp hb H; clear H
  refine Js ?_
  refine Je ?_
  refine Je ?_
  refine Jb ?_
  refine Ja rfl rfl rfl (Jd (v := v0) rfl) ?_
  refine Ja rfl rfl rfl (Q7 Try.underlying22 rfl f0) ?_
  refine Ja rfl rfl rfl (Jd (v := .int .i64 0) rfl) ?_
  refine Jf ?_
  refine J6 ?_
  refine Z7 (σ := Int) (τ := Unit) (fun next1 s => Ju a0 a1 a2 next1 s) (fun s t => [(1, v1), (2, v2), (15, v0), (16, .int .i64 (a0.length : Int)), (17, .int .i64 s)]) (fun s t => []) (fun s t => True) 0 () [] H13 (by exact trivial) (by exact ⟨rfl, rfl, rfl, rfl, rfl, trivial⟩) (by decide) rfl ?_
  rintro x17_2 _ m1 gg H14 _
  clear H13
  replace H14 : Ju a0 a1 a2 (it (fun next1 s => Ju a0 a1 a2 next1 s) m1) x17_2 = some r := H14
  generalize hn1 : it (fun next1 s => Ju a0 a1 a2 next1 s) m1 = next1 at H14
  try dsimp only
  refine Je ?_
  refine Jb ?_
  refine Ja rfl rfl rfl (Xs rfl rfl) ?_
  refine Jf ?_
  refine Je ?_
  refine J4 (b := (decide (x17_2 < (a0.length : Int)))) rfl (fun hb => ?_) (fun hb => ?_)
  ·have H15 := Jo hb H14; clear H14
   refine Js ?_
   refine Je ?_
   refine J6 ?_
   refine Je ?_
   refine Jb ?_
   refine Ja rfl rfl rfl (Jd (v := .int .i64 x17_2) rfl) ?_
   obtain ⟨t20, h_t20, H16⟩ := Ji H15; clear H15
   refine Ja rfl rfl rfl (Qe Try.underlying22 Try.sizeOf27 rfl rfl f0.frs (f0.ix h_t20)) ?_
   refine Qu (fun w hF hS => Qa (f := (Wu h v0 1)) (i := x17_2) (sz := 1) (j := 0) (v := (Qb h v0 1 (Int.toNat x17_2) 0)) Try.isAgg27 rfl rfl (f0.frs.row (hw.now hF)) (f0.ix h_t20) (Ur (X8 (f0.at h_t20)) rfl)) rfl rfl rfl ?_
   refine Ja rfl rfl rfl (Jc (v := .int .i64 x17_2) rfl) ?_
   refine Ja rfl rfl rfl (Jc (v := (Qb h v0 1 (Int.toNat x17_2) 0)) rfl) ?_
   refine Jf ?_
   refine Je ?_
   refine Jb ?_
   refine Ja rfl rfl rfl (Jd (v := v1) rfl) ?_
   refine Ja rfl rfl rfl (Jd (v := .int .i64 x17_2) rfl) ?_
   obtain ⟨t24, h_t24, H17⟩ := Ji H16; clear H16
   refine Ja rfl rfl rfl (Qe Try.underlying22 Try.sizeOf27 rfl rfl f1.frs (f1.ix h_t24)) ?_
   refine Qu (fun w hF hS => Qa (f := (Wu h v1 1)) (i := x17_2) (sz := 1) (j := 0) (v := (Qb h v1 1 (Int.toNat x17_2) 0)) Try.isAgg27 rfl rfl (f1.frs.row (hw.now hF)) (f1.ix h_t24) (Ur (X8 (f1.at h_t24)) rfl)) rfl rfl rfl ?_
   refine Ja rfl rfl rfl (Jc (v := (Qb h v1 1 (Int.toNat x17_2) 0)) rfl) ?_
   refine Jf ?_
   refine Je ?_
   refine Jb ?_
   refine Ja rfl rfl rfl (Jd (v := v2) rfl) ?_
   refine Ja rfl rfl rfl (Jd (v := (Qb h v0 1 (Int.toNat x17_2) 0)) rfl) ?_
   refine Ja rfl rfl rfl (Jd (v := (Qb h v1 1 (Int.toNat x17_2) 0)) rfl) ?_
   obtain ⟨t29, h_t29, H18⟩ := Ji H17; clear H17
   refine l_callV (R := Z0 a2) (r := .bool t29) (v := v2) (fun w hF hS => ⟨(f2.mono (hw.now hF)), ⟨t20, _, t24, _, _, ((show FrN h 6 (Qb h v0 1 (Int.toNat x17_2) 0) g_tag_Entry t20 from (f0.at h_t20)).mono (hw.now hF)), ((show FrN h 6 (Qb h v1 1 (Int.toNat x17_2) 0) g_tag_Entry t24 from (f1.at h_t24)).mono (hw.now hF)), rfl, h_t29, rfl⟩⟩) rfl rfl rfl rfl ?_
   refine Ja rfl rfl rfl (V3 rfl) ?_
   refine Jf ?_
   refine J4 (b := (!t29)) rfl (fun hb => ?_) (fun hb => ?_)
   ·have H19 := Jo hb H18; clear H18
    refine Je ?_
    refine Jb ?_
    refine Ja rfl rfl rfl (Jc (v := .bool false) rfl) ?_
    refine Jf ?_
    refine Jq ?_
    obtain rfl := Option.some.inj H19
    refine J5 (v := .bool false) rfl rfl (fin rfl)
   ·have H20 := Jp hb H18; clear H18
    refine Js ?_
    refine Jb ?_
    obtain ⟨t31, h_t31, H21⟩ := Ji H20; clear H20
    refine Ja rfl rfl rfl (Qv rfl rfl h_t31) ?_
    refine Ja rfl rfl rfl (Jd (v := .int .i64 t31) rfl) ?_
    refine Jf ?_
    refine Jr t31 () m1 [] (by exact ⟨rfl, rfl, rfl, rfl, rfl, trivial⟩) (by decide) (by kernel_rfl) (by exact ⟨(by subst hn1; exact H21), trivial⟩) (Nat.lt_succ_self _)
  ·have H22 := Jp hb H14; clear H14
   refine X7 ?_
   refine Je ?_
   refine Jb ?_
   refine Ja rfl rfl rfl (Jc (v := .bool true) rfl) ?_
   refine Jf ?_
   refine Jq ?_
   obtain rfl := Option.some.inj H22
   refine J5 (v := .bool true) rfl rfl (fin rfl)
theorem k13 {a0 : T_tag_File} {v0_1 : Value} {a1 : T_tag_File} {v1_1 : Value} {r : Bool} {w : World} {h : Jx} (hw : Know h w X3) (f0_1 : FrN h 1 v0_1 gs_tag_Entry a0.Dirs) (f1_1 : FrN h 1 v1_1 gs_tag_Entry a1.Dirs) (H : Ys a0 a1 = some r) : Does Try.prog 13 (List.toArray [.agg #[.bool a0.Big, v0_1], .agg #[.bool a1.Big, v1_1]]) w (fun v w' => v = (.bool r) ∧ Grow w w') := by
 refine enter (n := 17) Try.func13 rfl rfl rfl X3 [] (Sat.nil _ _) ?_
 refine Je ?_
 refine Jb ?_
 refine Yv (cs := [.bool a0.Big, v0_1]) rfl rfl rfl rfl (fun b2 => ?_)
 refine Yv (cs := [.bool a1.Big, v1_1]) rfl rfl rfl rfl (fun b3 => ?_)
 refine Ja rfl rfl rfl (Jc (v := .bool false) rfl) ?_
 refine Jf ?_
 refine Je ?_
 refine Jb ?_
 refine Ja rfl rfl rfl (Jl Try.runUnderlying24 rfl Try.sizeOf4 rfl rfl) ?_
 refine Jt (i := 0) (v := .bool a0.Big) Try.isAgg4 rfl rfl rfl rfl rfl ?_
 refine Ja rfl rfl rfl (Jl Try.runUnderlying24 rfl Try.sizeOf4 rfl rfl) ?_
 refine Jt (i := 1) (v := .bool a1.Big) Try.isAgg4 rfl rfl rfl rfl rfl ?_
 refine Ja rfl rfl rfl (r_eqlB Try.underlying4 rfl rfl) ?_
 refine Ja rfl rfl rfl (Jd (v := .bool (decide (a0.Big = a1.Big))) rfl) ?_
 refine split (fun hb => ?_) (fun hb => ?_)
 ·have H4 := Jo hb H; clear H
  refine Ja rfl rfl rfl (Jl Try.runUnderlying24 rfl Try.sizeOf22 rfl rfl) ?_
  refine Jt (i := 0) (v := v0_1) Try.isAgg22 rfl rfl rfl rfl rfl ?_
  refine Ja rfl rfl rfl (Jl Try.runUnderlying24 rfl Try.sizeOf22 rfl rfl) ?_
  refine Jt (i := 1) (v := v1_1) Try.isAgg22 rfl rfl rfl rfl rfl ?_
  obtain ⟨t15, h_t15, H5⟩ := Ji H4; clear H4
  refine Qn (fun w hF hS => k41 (Jy w) (f0_1.mono (hw.now hF)) (f1_1.mono (hw.now hF)) (FnH.mk ⟨40, #[], #[], rfl, Try.call40, fun args2 post2 w2 hk2 hR2 => by obtain ⟨a0_, v0_, a1_, v1_, r_, fa0_, fa1_, rfl, H_, rfl⟩ := hR2; exact k40 (Jy w2) fa0_ fa1_ H_⟩) h_t15) Try.call41 rfl rfl rfl ?_
  refine Ja rfl rfl rfl (Jz (v := .bool t15) rfl rfl) ?_
  refine Ja rfl rfl rfl (Jc (v := .bool t15) rfl) ?_
  refine Jf ?_
  refine Jq ?_
  obtain rfl := Option.some.inj H5
  refine J5 (v := .bool t15) rfl rfl (fin rfl)
 ·have H6 := Jp hb H; clear H
  refine Jh rfl rfl rfl ?_
  refine Jh rfl rfl rfl ?_
  refine Jh rfl rfl rfl ?_
  refine Jh rfl rfl rfl ?_
  refine Jh rfl rfl rfl ?_
  refine Ja rfl rfl rfl (J0 (v := .bool false) rfl rfl) ?_
  refine Ja rfl rfl rfl (Jc (v := .bool false) rfl) ?_
  refine Jf ?_
  refine Jq ?_
  obtain rfl := Option.some.inj H6
  refine J5 (v := .bool false) rfl rfl (fin rfl)
theorem k14 {a0 : T_tag_File} {v0_1 : Value} {a1 : (List Int)} {v1 : Value} {r : T_tag_Value × Bool} {w : World} {h : Jx} (hw : Know h w X3) (f0_1 : FrN h 1 v0_1 gs_tag_Entry a0.Dirs) (f1 : FrS h 1 v1 (a1.map J3)) (H : R_Got a0 a1 = some r) : Does Try.prog 14 (List.toArray [.agg #[.bool a0.Big, v0_1], v1]) w (fun v w' => (∃ x : Value × Value × Value, v = (.tuple #[.agg #[.int .i64 r.1.Kind, str r.1.Text, x.1, x.2.1, x.2.2], .bool r.2]) ∧ FrS h 1 x.1 (r.1.Ints.map J3) ∧ FrS h 2 x.2.1 (r.1.Ratios.map Jn) ∧ FrN h 6 x.2.2 g_tag_Entry r.1.Entries) ∧ Grow w w') := by
 refine enter (n := 74) Try.func14 rfl rfl rfl X3 [] (Sat.nil _ _) ?_
 refine Je ?_
 refine Jb ?_
 refine Yv (cs := [.bool a0.Big, v0_1]) rfl rfl rfl rfl (fun b4 => ?_)
 refine Ye (cs := [.int .i64 0, str [], .slice none 0 0, .slice none 0 0, .slice none 0 0]) Try.zeroValue29 rfl rfl rfl (fun b5 => ?_)
 refine Ja rfl rfl rfl (Jc (v := .bool false) rfl) ?_
 refine Jf ?_
 refine Je ?_
 refine Je ?_
 exact Qp (Kd.p :: Kd.p :: Kd.p :: Kd.p :: Kd.p :: Kd.p :: Kd.d [] _ :: Kd.p :: Kd.p :: Kd.p :: Kd.p :: Kd.p :: Kd.d [] _ :: Kd.p :: Kd.d [0] _ :: Kd.p :: Kd.p :: Kd.p :: []) 0 mixed (by
  refine Jj rfl rfl (Jd (v := v1) rfl) ?_
  refine Jj rfl rfl (Xy Try.underlying25 rfl f1 rfl) ?_
  refine Jj rfl rfl (Xs rfl rfl) ?_
  refine Jj rfl rfl (Jd (v := .bool (decide ((a1.length : Int) < 2))) rfl) ?_
  refine Vf (fun hb => ?_) (fun hb => ?_)
  ·have H55 := Jo hb H
   refine Jw rfl rfl ?_
   refine Jw rfl rfl ?_
   refine Jw rfl rfl ?_
   refine Jw rfl rfl ?_
   refine Jj rfl rfl (Jz (v := .bool true) rfl rfl) ?_
   refine Jj rfl rfl (Jd (v := .bool true) rfl) ?_
   refine Jw rfl rfl ?_
   refine Jw rfl rfl ?_
   refine Jw rfl rfl ?_
   refine Jw rfl rfl ?_
   refine Jw rfl rfl ?_
   refine Jw rfl rfl ?_
   refine Jw rfl rfl ?_
   refine Jj rfl rfl (Jz (v := .bool true) rfl rfl) ?_
   refine Xm ?_
   refine Y5 rfl ?_
   refine Je ?_
   refine Jb ?_
   refine Qg (i := 1) (vs := [.int .i64 0, str [], .slice none 0 0, .slice none 0 0, .slice none 0 0]) Try.isAgg29 Try.sizeOf29 rfl rfl rfl rfl rfl ?_
   refine Qi (i := 1) (vs := [.int .i64 0, str [], .slice none 0 0, .slice none 0 0, .slice none 0 0]) (cs' := [.int .i64 0, str [], .slice none 0 0, .slice none 0 0, .slice none 0 0]) Try.sizeOf29 rfl rfl rfl rfl rfl rfl rfl rfl rfl ?_
   refine Ja rfl rfl rfl (Jc (v := .bool false) rfl) ?_
   refine Jf ?_
   refine Jq ?_
   obtain rfl := Option.some.inj H55
   refine retCt (i := 1) (vs := [.int .i64 0, str [], .slice none 0 0, .slice none 0 0, .slice none 0 0]) (v2 := .bool false) Try.isAgg29 Try.sizeOf29 rfl rfl rfl rfl rfl (finC ((.slice none 0 0), (.slice none 0 0), (.slice none 0 0)) rfl ⟨(FrS.nil _ _), (FrS.nil _ _), (FrN.nil _ _ _)⟩)
  ·have H56 := Jp hb H
   refine Jj rfl rfl (Jd (v := v1) rfl) ?_
   have h_t16 := Qt H56
   have H57 := Ql H56
   refine Jj rfl rfl (Qe Try.underlying25 Try.sizeOf3 rfl rfl f1 h_t16) ?_
   refine Zw (fun w hF => Qa (f := J3) (i := 0) (sz := 1) (j := 0) (v := .int .i64 (val (Xt a1 0))) Try.isAgg3 rfl rfl (f1.row (hw.now hF)) h_t16 rfl) rfl rfl ?_
   refine Jj rfl rfl (Xs rfl rfl) ?_
   refine Jj rfl rfl (J0 (v := .bool (decide ((val (Xt a1 0)) < 0))) rfl rfl) ?_
   refine Jj rfl rfl (Jd (v := .bool (decide ((val (Xt a1 0)) < 0))) rfl) ?_
   refine Vf (fun hb => ?_) (fun hb => ?_)
   ·have H58 := Jo hb H57
    refine Jw rfl rfl ?_
    refine Jw rfl rfl ?_
    refine Jw rfl rfl ?_
    refine Jw rfl rfl ?_
    refine Jw rfl rfl ?_
    refine Jw rfl rfl ?_
    refine Jw rfl rfl ?_
    refine Jj rfl rfl (Jz (v := .bool true) rfl rfl) ?_
    refine Xm ?_
    refine Y5 rfl ?_
    refine Je ?_
    refine Jb ?_
    refine Qg (i := 1) (vs := [.int .i64 0, str [], .slice none 0 0, .slice none 0 0, .slice none 0 0]) Try.isAgg29 Try.sizeOf29 rfl rfl rfl rfl rfl ?_
    refine Qi (i := 1) (vs := [.int .i64 0, str [], .slice none 0 0, .slice none 0 0, .slice none 0 0]) (cs' := [.int .i64 0, str [], .slice none 0 0, .slice none 0 0, .slice none 0 0]) Try.sizeOf29 rfl rfl rfl rfl rfl rfl rfl rfl rfl ?_
    refine Ja rfl rfl rfl (Jc (v := .bool false) rfl) ?_
    refine Jf ?_
    refine Jq ?_
    obtain rfl := Option.some.inj H58
    refine retCt (i := 1) (vs := [.int .i64 0, str [], .slice none 0 0, .slice none 0 0, .slice none 0 0]) (v2 := .bool false) Try.isAgg29 Try.sizeOf29 rfl rfl rfl rfl rfl (finC ((.slice none 0 0), (.slice none 0 0), (.slice none 0 0)) rfl ⟨(FrS.nil _ _), (FrS.nil _ _), (FrN.nil _ _ _)⟩)
   ·have H59 := Jp hb H57
    refine Jj rfl rfl (Jd (v := v1) rfl) ?_
    have h_t22 := Qt H59
    have H60 := Ql H59
    refine Jj rfl rfl (Qe Try.underlying25 Try.sizeOf3 rfl rfl f1 h_t22) ?_
    refine Zw (fun w hF => Qa (f := J3) (i := 0) (sz := 1) (j := 0) (v := .int .i64 (val (Xt a1 0))) Try.isAgg3 rfl rfl (f1.row (hw.now hF)) h_t22 rfl) rfl rfl ?_
    refine Jj rfl rfl (Jl Try.runUnderlying24 rfl Try.sizeOf22 rfl rfl) ?_
    refine Qx (i := 0) (v := v0_1) Try.isAgg22 rfl rfl rfl rfl ?_
    refine Jj rfl rfl (Q7 Try.underlying22 rfl f0_1) ?_
    refine Jj rfl rfl (r_geq rfl rfl) ?_
    refine Jj rfl rfl (J0 (v := .bool (decide ((a0.Dirs.length : Int) ≤ (val (Xt a1 0))))) rfl rfl) ?_
    refine Xm ?_
    refine J4 (b := (decide ((a0.Dirs.length : Int) ≤ (val (Xt a1 0))))) rfl (fun hb => ?_) (fun hb => ?_)
    ·have H61 := Jo hb H60; clear H60
     refine Je ?_
     refine Jb ?_
     refine Qg (i := 1) (vs := [.int .i64 0, str [], .slice none 0 0, .slice none 0 0, .slice none 0 0]) Try.isAgg29 Try.sizeOf29 rfl rfl rfl rfl rfl ?_
     refine Qi (i := 1) (vs := [.int .i64 0, str [], .slice none 0 0, .slice none 0 0, .slice none 0 0]) (cs' := [.int .i64 0, str [], .slice none 0 0, .slice none 0 0, .slice none 0 0]) Try.sizeOf29 rfl rfl rfl rfl rfl rfl rfl rfl rfl ?_
     refine Ja rfl rfl rfl (Jc (v := .bool false) rfl) ?_
     refine Jf ?_
     refine Jq ?_
     obtain rfl := Option.some.inj H61
     refine retCt (i := 1) (vs := [.int .i64 0, str [], .slice none 0 0, .slice none 0 0, .slice none 0 0]) (v2 := .bool false) Try.isAgg29 Try.sizeOf29 rfl rfl rfl rfl rfl (finC ((.slice none 0 0), (.slice none 0 0), (.slice none 0 0)) rfl ⟨(FrS.nil _ _), (FrS.nil _ _), (FrN.nil _ _ _)⟩)
    ·have H62 := Jp hb H60; clear H60
     refine Js ?_
     refine Je ?_
     exact Qp (Kd.p :: Kd.d [0] _ :: Kd.p :: Kd.p :: Kd.d [] _ :: Kd.p :: Kd.d [] _ :: Kd.p :: []) 0 mixed (by
      refine Jj rfl rfl (Jl Try.runUnderlying24 rfl Try.sizeOf22 rfl rfl) ?_
      refine Qx (i := 0) (v := v0_1) Try.isAgg22 rfl rfl rfl rfl ?_
      refine Jj rfl rfl (Jd (v := v1) rfl) ?_
      have h_t33 := Qt H62
      have H63 := Ql H62
      refine Jj rfl rfl (Qe Try.underlying25 Try.sizeOf3 rfl rfl f1 h_t33) ?_
      refine Zw (fun w hF => Qa (f := J3) (i := 0) (sz := 1) (j := 0) (v := .int .i64 (val (Xt a1 0))) Try.isAgg3 rfl rfl (f1.row (hw.now hF)) h_t33 rfl) rfl rfl ?_
      have h_t35 := Qt H63
      have H64 := Ql H63
      refine Jj rfl rfl (Qe Try.underlying22 Try.sizeOf27 rfl rfl f0_1.frs (f0_1.ix h_t35)) ?_
      refine Zw (fun w hF => Qa (f := (Wu h v0_1 1)) (i := (val (Xt a1 0))) (sz := 1) (j := 0) (v := (Qb h v0_1 1 (Int.toNat (val (Xt a1 0))) 0)) Try.isAgg27 rfl rfl (f0_1.frs.row (hw.now hF)) (f0_1.ix h_t35) (Ur (X8 (f0_1.at h_t35)) rfl)) rfl rfl ?_
      refine Jj rfl rfl (Jc (v := (Qb h v0_1 1 (Int.toNat (val (Xt a1 0))) 0)) rfl) ?_
      refine Xm ?_
      refine Q8 (r := r) (σ := Int × (List UInt8) × (List Int) × (List T_tag_Ratio) × (List T_tag_Entry)) (τ := Value × Value × Value) (fun s => R_Got_j1 s.1 s.2.1 s.2.2.1 s.2.2.2.1 s.2.2.2.2) (fun s t => [(4, .pointer (some ⟨b5, 0, none⟩))]) (fun s t => [Jv b5 [.int .i64 s.1, str s.2.1, t.1, t.2.1, t.2.2] 29]) (fun s t => FrS h 1 t.1 (s.2.2.1.map J3) ∧ FrS h 2 t.2.1 (s.2.2.2.1.map Jn) ∧ FrN h 6 t.2.2 g_tag_Entry s.2.2.2.2) ?_ ?_
      ·refine Je ?_
       refine Jb ?_
       refine Ja rfl rfl rfl (Jd (v := v1) rfl) ?_
       obtain ⟨t38, h_t38, H66⟩ := Ji H64; clear H64
       refine Ja rfl rfl rfl (r_sliceLF Try.underlying25 Try.sizeOf3 rfl rfl f1 h_t38) ?_
       refine Ja rfl rfl rfl (Xy Try.underlying25 rfl (f1.cut h_t38) rfl) ?_
       refine Ja rfl rfl rfl (Jd (v := .int .i64 0) rfl) ?_
       refine Jf ?_
       refine J6 ?_
       refine c_dr 0 ?_
       try dsimp only [z1, z2, z3, z4, z5, z6, z7, z8]
       refine Z7 (σ := (List T_tag_Entry) × Int × Int × (List UInt8) × (List Int) × (List T_tag_Ratio) × (List T_tag_Entry)) (τ := Value × Value × Value × Value) (fun next2 s => Yu a1 t38 next2 s.1 s.2.1 s.2.2.1 s.2.2.2.1 s.2.2.2.2.1 s.2.2.2.2.2.1 s.2.2.2.2.2.2) (fun s t => [(1, v1), (4, .pointer (some ⟨b5, 0, none⟩)), (6, t.1), (38, (cutV 1 v1 1 a1.length)), (39, .int .i64 (t38.length : Int)), (40, .int .i64 s.2.1)]) (fun s t => [Jv b5 [.int .i64 s.2.2.1, str s.2.2.2.1, t.2.1, t.2.2.1, t.2.2.2] 29]) (fun s t => FrN h 6 t.1 g_tag_Entry s.1 ∧ FrS h 1 t.2.1 (s.2.2.2.2.1.map J3) ∧ FrS h 2 t.2.2.1 (s.2.2.2.2.2.1.map Jn) ∧ FrN h 6 t.2.2.2 g_tag_Entry s.2.2.2.2.2.2) ((val (Xt a0.Dirs (val (Xt a1 0)))), 0, 0, [], ([] : (List Int)), ([] : (List T_tag_Ratio)), ([] : (List T_tag_Entry))) ((Qb h v0_1 1 (Int.toNat (val (Xt a1 0))) 0), (.slice none 0 0), (.slice none 0 0), (.slice none 0 0)) [0] H66 (by exact ⟨(show FrN h 6 (Qb h v0_1 1 (Int.toNat (val (Xt a1 0))) 0) g_tag_Entry (val (Xt a0.Dirs (val (Xt a1 0)))) from (f0_1.at h_t35)), (FrS.nil _ _), (FrS.nil _ _), (FrN.nil _ _ _)⟩) (by exact ⟨rfl, rfl, rfl, rfl, rfl, rfl, trivial⟩) (by decide) rfl ?_
       rintro ⟨x6_2, x40_2, m_11, m_12, m_13, m_14, m_15⟩ ⟨gv_4, gv_5, gv_6, gv_7⟩ m2 gg H67 ⟨gf_8, gf_9, gf_10, gf_11⟩
       clear H66
       replace H67 : Yu a1 t38 (it (fun next2 s => Yu a1 t38 next2 s.1 s.2.1 s.2.2.1 s.2.2.2.1 s.2.2.2.2.1 s.2.2.2.2.2.1 s.2.2.2.2.2.2) m2) x6_2 x40_2 m_11 m_12 m_13 m_14 m_15 = some r := H67
       generalize hn2 : it (fun next2 s => Yu a1 t38 next2 s.1 s.2.1 s.2.2.1 s.2.2.2.1 s.2.2.2.2.1 s.2.2.2.2.2.1 s.2.2.2.2.2.2) m2 = next2 at H67
       try dsimp only
       refine Je ?_
       refine Jb ?_
       refine Ja rfl rfl rfl (Xs rfl rfl) ?_
       refine Jf ?_
       refine Je ?_
       refine J4 (b := (decide (x40_2 < (t38.length : Int)))) rfl (fun hb => ?_) (fun hb => ?_)
       ·have H68 := Jo hb H67; clear H67
        refine Js ?_
        refine Je ?_
        refine J6 ?_
        refine Je ?_
        refine Jb ?_
        refine Ja rfl rfl rfl (Jd (v := .int .i64 x40_2) rfl) ?_
        obtain ⟨t43, h_t43, H69⟩ := Ji H68; clear H68
        refine Ja rfl rfl rfl (Qe Try.underlying25 Try.sizeOf3 rfl rfl (f1.cut h_t38) h_t43) ?_
        refine Qu (fun w hF hS => Qa (f := J3) (i := x40_2) (sz := 1) (j := 0) (v := .int .i64 t43) Try.isAgg3 rfl rfl ((f1.cut h_t38).row (hw.now hF)) h_t43 rfl) rfl rfl rfl ?_
        refine Ja rfl rfl rfl (Jc (v := .int .i64 x40_2) rfl) ?_
        refine Ja rfl rfl rfl (Jc (v := .int .i64 t43) rfl) ?_
        refine Jf ?_
        refine Je ?_
        refine Jb ?_
        refine Ja rfl rfl rfl (Jd (v := gv_4) rfl) ?_
        refine Ja rfl rfl rfl (Jd (v := .int .i64 t43) rfl) ?_
        obtain ⟨t48, h_t48, H70⟩ := Ji H69; clear H69
        refine Qn (fun w hF hS => k42 (Jy w) (gf_8.mono (hw.now hF)) h_t48) Try.call42 rfl rfl rfl ?_
        refine Ja rfl rfl rfl (Jd (v := .tuple #[.int .i64 t48.1, .bool t48.2]) rfl) ?_
        refine Ja rfl rfl rfl (Qf (v := .int .i64 t48.1) rfl rfl) ?_
        refine Ja rfl rfl rfl (Qf (v := .bool t48.2) rfl rfl) ?_
        refine Ja rfl rfl rfl (Jc (v := .int .i64 t48.1) rfl) ?_
        refine Ja rfl rfl rfl (Jc (v := .bool t48.2) rfl) ?_
        refine Jf ?_
        refine Je ?_
        refine Je ?_
        refine Jb ?_
        refine Ja rfl rfl rfl (Jd (v := .bool t48.2) rfl) ?_
        refine Ja rfl rfl rfl (V3 rfl) ?_
        refine Jf ?_
        refine J4 (b := (!t48.2)) rfl (fun hb => ?_) (fun hb => ?_)
        ·have H71 := Jo hb H70; clear H70
         refine Je ?_
         refine Jb ?_
         refine Ja rfl rfl rfl (Ym (pl := #[(0, 1), (1, 1), (2, 1), (3, 1), (4, 1)]) (ps := []) (cells := #[.int .i64 0, str [], .slice none 0 0, .slice none 0 0, .slice none 0 0]) Try.zeroValue29 Try.runUnderlying29 (fun w => by kernel_rfl) rfl rfl) ?_
         refine Qi (i := 0) (vs := [.int .i64 0, str [], .slice none 0 0, .slice none 0 0, .slice none 0 0]) (cs' := [.int .i64 0, str [], .slice none 0 0, .slice none 0 0, .slice none 0 0]) Try.sizeOf29 rfl rfl rfl rfl rfl rfl rfl rfl rfl ?_
         refine Ja rfl rfl rfl (Jc (v := .bool false) rfl) ?_
         refine Jf ?_
         refine Jq ?_
         obtain rfl := Option.some.inj H71
         refine retCt (i := 0) (vs := [.int .i64 0, str [], .slice none 0 0, .slice none 0 0, .slice none 0 0]) (v2 := .bool false) Try.isAgg29 Try.sizeOf29 rfl rfl rfl rfl rfl (finC ((.slice none 0 0), (.slice none 0 0), (.slice none 0 0)) rfl ⟨(FrS.nil _ _), (FrS.nil _ _), (FrN.nil _ _ _)⟩)
        ·have H72 := Jp hb H70; clear H70
         refine Js ?_
         refine Je ?_
         refine Jb ?_
         refine Ja rfl rfl rfl (Jd (v := gv_4) rfl) ?_
         refine Ja rfl rfl rfl (Jd (v := .int .i64 t48.1) rfl) ?_
         obtain ⟨t56, h_t56, H73⟩ := Ji H72; clear H72
         refine Ja rfl rfl rfl (Qe Try.underlying27 Try.sizeOf70 rfl rfl gf_8.frs (gf_8.ix h_t56)) ?_
         refine Ja rfl rfl rfl (r_fieldP Try.runUnderlying70 rfl Try.sizeOf29 rfl rfl (some_of_at gf_8.frs (gf_8.ix h_t56))) ?_
         refine Qu (fun w hF hS => Xr (f := (Wu h gv_4 6)) (i := t48.1) (sz := 6) (j := 1) (vs := [.int .i64 t56.Value.Kind, str t56.Value.Text, (Qb h gv_4 6 (Int.toNat t48.1) 3), (Qb h gv_4 6 (Int.toNat t48.1) 4), (Qb h gv_4 6 (Int.toNat t48.1) 5)]) Try.isAgg29 Try.sizeOf29 rfl rfl (gf_8.frs.row (hw.now hF)) (gf_8.ix h_t56) (rd_of (Q1 (gf_8.at h_t56)) rfl)) rfl rfl rfl ?_
         refine Qi (i := 0) (vs := [.int .i64 t56.Value.Kind, str t56.Value.Text, (Qb h gv_4 6 (Int.toNat t48.1) 3), (Qb h gv_4 6 (Int.toNat t48.1) 4), (Qb h gv_4 6 (Int.toNat t48.1) 5)]) (cs' := [.int .i64 t56.Value.Kind, str t56.Value.Text, (Qb h gv_4 6 (Int.toNat t48.1) 3), (Qb h gv_4 6 (Int.toNat t48.1) 4), (Qb h gv_4 6 (Int.toNat t48.1) 5)]) Try.sizeOf29 rfl rfl rfl rfl rfl rfl (by simp only [List.all_cons, List.all_nil, (show FrN h 6 (Qb h gv_4 6 (Int.toNat t48.1) 5) g_tag_Entry t56.Value.Entries from (J2 (Jm (gf_8.at h_t56)))).one, (show FrS h 1 (Qb h gv_4 6 (Int.toNat t48.1) 3) (t56.Value.Ints.map J3) from (J9 (Jm (gf_8.at h_t56)))).one, (show FrS h 2 (Qb h gv_4 6 (Int.toNat t48.1) 4) (t56.Value.Ratios.map Jn) from (J8 (Jm (gf_8.at h_t56)))).one] <;> rfl) rfl rfl ?_
         refine Jf ?_
         refine Q8 (r := r) (σ := Unit) (τ := Unit) (fun s => R_Got_j3 x40_2 next2 t56) (fun s t => [(1, v1), (4, .pointer (some ⟨b5, 0, none⟩)), (38, (cutV 1 v1 1 a1.length)), (39, .int .i64 (t38.length : Int)), (40, .int .i64 x40_2)]) (fun s t => [Jv b5 [.int .i64 t56.Value.Kind, str t56.Value.Text, (Qb h gv_4 6 (Int.toNat t48.1) 3), (Qb h gv_4 6 (Int.toNat t48.1) 4), (Qb h gv_4 6 (Int.toNat t48.1) 5)] 29]) (fun s t => True) ?_ ?_
         ·refine Je ?_
          refine Jb ?_
          refine Ja rfl rfl rfl (Jd (v := .int .i64 x40_2) rfl) ?_
          refine Ja rfl rfl rfl (Jd (v := v1) rfl) ?_
          refine Ja rfl rfl rfl (Xy Try.underlying25 rfl f1 rfl) ?_
          obtain ⟨t62, h_t62, H76⟩ := Ji H73; clear H73
          refine Ja rfl rfl rfl (r_subG rfl rfl h_t62) ?_
          refine Ja rfl rfl rfl (Xs rfl rfl) ?_
          refine Ja rfl rfl rfl (Jd (v := .bool (decide (x40_2 < t62))) rfl) ?_
          refine split (fun hb => ?_) (fun hb => ?_)
          ·have H77 := Jo hb H76; clear H76
           refine Ja rfl rfl rfl (Jl Try.runUnderlying29 rfl Try.sizeOf3 rfl rfl) ?_
           refine Jt (i := 0) (v := .int .i64 t56.Value.Kind) Try.isAgg3 rfl rfl rfl rfl rfl ?_
           refine Ja rfl rfl rfl (Y9 rfl rfl) ?_
           refine Ja rfl rfl rfl (Jz (v := .bool (decide (t56.Value.Kind ≠ 13))) rfl rfl) ?_
           refine Jf ?_
           refine J4 (b := (decide (t56.Value.Kind ≠ 13))) rfl (fun hb => ?_) (fun hb => ?_)
           ·have H78 := Jo hb H77; clear H77
            refine Je ?_
            refine Jb ?_
            refine Ja rfl rfl rfl (Ym (pl := #[(0, 1), (1, 1), (2, 1), (3, 1), (4, 1)]) (ps := []) (cells := #[.int .i64 0, str [], .slice none 0 0, .slice none 0 0, .slice none 0 0]) Try.zeroValue29 Try.runUnderlying29 (fun w => by kernel_rfl) rfl rfl) ?_
            refine Qi (i := 0) (vs := [.int .i64 0, str [], .slice none 0 0, .slice none 0 0, .slice none 0 0]) (cs' := [.int .i64 0, str [], .slice none 0 0, .slice none 0 0, .slice none 0 0]) Try.sizeOf29 rfl rfl rfl rfl rfl rfl rfl rfl rfl ?_
            refine Ja rfl rfl rfl (Jc (v := .bool false) rfl) ?_
            refine Jf ?_
            refine Jq ?_
            obtain rfl := Option.some.inj H78
            refine retCt (i := 0) (vs := [.int .i64 0, str [], .slice none 0 0, .slice none 0 0, .slice none 0 0]) (v2 := .bool false) Try.isAgg29 Try.sizeOf29 rfl rfl rfl rfl rfl (finC ((.slice none 0 0), (.slice none 0 0), (.slice none 0 0)) rfl ⟨(FrS.nil _ _), (FrS.nil _ _), (FrN.nil _ _ _)⟩)
           ·have H79 := Jp hb H77; clear H77
            refine Js ?_
            refine Jr () () 0 [0] (by exact ⟨rfl, rfl, rfl, rfl, rfl, trivial⟩) (by decide) (by kernel_rfl) (by exact ⟨H79, trivial⟩) (Nat.lt_succ_self _)
          ·have H80 := Jp hb H76; clear H76
           refine Jh rfl rfl rfl ?_
           refine Jh rfl rfl rfl ?_
           refine Jh rfl rfl rfl ?_
           refine Ja rfl rfl rfl (J0 (v := .bool false) rfl rfl) ?_
           refine Jf ?_
           refine W2 rfl ?_
           refine Js ?_
           refine Jr () () 0 [0] (by exact ⟨rfl, rfl, rfl, rfl, rfl, trivial⟩) (by decide) (by kernel_rfl) (by exact ⟨H80, trivial⟩) (Nat.lt_succ_self _)
         ·rintro _ _ gg H74 _
          replace H74 : R_Got_j3 x40_2 next2 t56 = some r := H74
          try dsimp only
          refine Jb ?_
          refine Ja rfl rfl rfl (Jl Try.runUnderlying29 rfl Try.sizeOf27 rfl rfl) ?_
          refine Jt (i := 0) (v := (Qb h gv_4 6 (Int.toNat t48.1) 5)) Try.isAgg27 rfl rfl rfl rfl rfl ?_
          refine Ja rfl rfl rfl (Jc (v := (Qb h gv_4 6 (Int.toNat t48.1) 5)) rfl) ?_
          refine Jf ?_
          refine Jb ?_
          obtain ⟨t72, h_t72, H75⟩ := Ji H74; clear H74
          refine Ja rfl rfl rfl (Qv rfl rfl h_t72) ?_
          refine Ja rfl rfl rfl (Jd (v := .int .i64 t72) rfl) ?_
          refine Jf ?_
          refine Jr (t56.Value.Entries, t72, t56.Value.Kind, t56.Value.Text, t56.Value.Ints, t56.Value.Ratios, t56.Value.Entries) ((Qb h gv_4 6 (Int.toNat t48.1) 5), (Qb h gv_4 6 (Int.toNat t48.1) 3), (Qb h gv_4 6 (Int.toNat t48.1) 4), (Qb h gv_4 6 (Int.toNat t48.1) 5)) m2 [0] (by exact ⟨rfl, rfl, rfl, rfl, rfl, rfl, trivial⟩) (by decide) (by kernel_rfl) (by exact ⟨(by subst hn2; exact H75), ⟨(show FrN h 6 (Qb h gv_4 6 (Int.toNat t48.1) 5) g_tag_Entry t56.Value.Entries from (J2 (Jm (gf_8.at h_t56)))), (show FrS h 1 (Qb h gv_4 6 (Int.toNat t48.1) 3) (t56.Value.Ints.map J3) from (J9 (Jm (gf_8.at h_t56)))), (show FrS h 2 (Qb h gv_4 6 (Int.toNat t48.1) 4) (t56.Value.Ratios.map Jn) from (J8 (Jm (gf_8.at h_t56)))), (show FrN h 6 (Qb h gv_4 6 (Int.toNat t48.1) 5) g_tag_Entry t56.Value.Entries from (J2 (Jm (gf_8.at h_t56))))⟩⟩) (Nat.lt_succ_self _)
       ·have H81 := Jp hb H67; clear H67
        refine X7 ?_
        refine Jr (m_11, m_12, m_13, m_14, m_15) (gv_5, gv_6, gv_7) 0 [0] (by exact ⟨rfl, trivial⟩) (by decide) (by kernel_rfl) (by exact ⟨H81, ⟨gf_9, gf_10, gf_11⟩⟩) (Nat.lt_succ_self _)
      ·rintro ⟨m, m_2, m_3, m_4, m_5⟩ ⟨gv, gv_2, gv_3⟩ gg H65 ⟨gf, gf_2, gf_3⟩
       replace H65 : R_Got_j1 m m_2 m_3 m_4 m_5 = some r := H65
       try dsimp only
       refine Je ?_
       refine Jb ?_
       refine Qg (i := 0) (vs := [.int .i64 m, str m_2, gv, gv_2, gv_3]) Try.isAgg29 Try.sizeOf29 rfl rfl rfl rfl rfl ?_
       refine Qi (i := 0) (vs := [.int .i64 m, str m_2, gv, gv_2, gv_3]) (cs' := [.int .i64 m, str m_2, gv, gv_2, gv_3]) Try.sizeOf29 rfl rfl rfl rfl rfl rfl (by simp only [List.all_cons, List.all_nil, gf.one, gf_2.one, gf_3.one] <;> rfl) rfl rfl ?_
       refine Ja rfl rfl rfl (Jc (v := .bool true) rfl) ?_
       refine Jf ?_
       refine Jq ?_
       obtain rfl := Option.some.inj H65
       refine retCt (i := 0) (vs := [.int .i64 m, str m_2, gv, gv_2, gv_3]) (v2 := .bool true) Try.isAgg29 Try.sizeOf29 rfl rfl rfl rfl rfl (finC (gv, gv_2, gv_3) rfl ⟨gf, gf_2, gf_3⟩)
      ) (by kernel_rfl)
  ) (by kernel_rfl)
theorem k16 {a0 : T_tag_File} {v0_1 : Value} {a1 : Int} {a2 : T_tag_File} {v2_1 : Value} {a3 : Int} {r : Bool} {w : World} {h : Jx} (hw : Know h w X3) (f0_1 : FrN h 1 v0_1 gs_tag_Entry a0.Dirs) (f2_1 : FrN h 1 v2_1 gs_tag_Entry a2.Dirs) (H : W6 a0 a1 a2 a3 = some r) : Does Try.prog 16 (List.toArray [.agg #[.bool a0.Big, v0_1], .int .i64 a1, .agg #[.bool a2.Big, v2_1], .int .i64 a3]) w (fun v w' => v = (.bool r) ∧ Grow w w') := by
 refine enter (n := 20) Try.func16 rfl rfl rfl X3 [] (Sat.nil _ _) ?_
 refine Je ?_
 refine Jb ?_
 refine Yv (cs := [.bool a0.Big, v0_1]) rfl rfl rfl rfl (fun b2 => ?_)
 refine Yv (cs := [.bool a2.Big, v2_1]) rfl rfl rfl rfl (fun b3 => ?_)
 refine Ja rfl rfl rfl (Jc (v := .bool false) rfl) ?_
 refine Jf ?_
 refine Q8 (r := r) (σ := Bool × (List (List T_tag_Entry))) (τ := Value) (fun s => W8 a0 a1 a3 s.1 s.2) (fun s t => [(1, .int .i64 a1), (3, .int .i64 a3), (4, .pointer (some ⟨b2, 0, none⟩)), (6, .pointer (some ⟨b3, 0, none⟩))]) (fun s t => [Jv b2 [.bool a0.Big, v0_1] 24, Jv b3 [.bool s.1, t] 24]) (fun s t => FrN h 1 t gs_tag_Entry s.2) ?_ ?_
 ·refine Je ?_
  refine Jb ?_
  refine Ja rfl rfl rfl (Jd (v := .int .i64 a3) rfl) ?_
  refine Ja rfl rfl rfl (Y9 rfl rfl) ?_
  refine Jf ?_
  refine J4 (b := (decide (a3 ≠ 0))) rfl (fun hb => ?_) (fun hb => ?_)
  ·have H11 := Jo hb H; clear H
   refine Jb ?_
   refine Ja rfl rfl rfl (Ym (pl := #[(0, 1), (1, 1)]) (ps := []) (cells := #[.bool false, .slice none 0 0]) Try.zeroValue24 Try.runUnderlying24 (fun w => by kernel_rfl) rfl rfl) ?_
   refine Qi (i := 1) (vs := [.bool false, .slice none 0 0]) (cs' := [.bool false, .slice none 0 0]) Try.sizeOf24 rfl rfl rfl rfl rfl rfl rfl rfl rfl ?_
   refine Jf ?_
   refine Jr (false, ([] : (List (List T_tag_Entry)))) (.slice none 0 0) 0 [0, 1] (by exact ⟨rfl, rfl, rfl, rfl, trivial⟩) (by decide) (by kernel_rfl) (by exact ⟨H11, (FrN.nil _ _ _)⟩) (Nat.lt_succ_self _)
  ·have H12 := Jp hb H; clear H
   refine Js ?_
   refine Jr (a2.Big, a2.Dirs) v2_1 0 [0, 1] (by exact ⟨rfl, rfl, rfl, rfl, trivial⟩) (by decide) (by kernel_rfl) (by exact ⟨H12, f2_1⟩) (Nat.lt_succ_self _)
 ·rintro ⟨m, m_2⟩ gv gg H7 gf
  replace H7 : W8 a0 a1 a3 m m_2 = some r := H7
  try dsimp only
  refine Je ?_
  refine Jb ?_
  refine Qg (i := 0) (vs := [.bool a0.Big, v0_1]) Try.isAgg24 Try.sizeOf24 rfl rfl rfl rfl rfl ?_
  refine Qg (i := 1) (vs := [.bool m, gv]) Try.isAgg24 Try.sizeOf24 rfl rfl rfl rfl rfl ?_
  obtain ⟨t14, h_t14, H8⟩ := Ji H7; clear H7
  refine Qn (fun w hF hS => k13 (Jy w) (f0_1.mono (hw.now hF)) (gf.mono (hw.now hF)) h_t14) Try.call13 rfl rfl rfl ?_
  refine Ja rfl rfl rfl (Jd (v := .bool t14) rfl) ?_
  refine split (fun hb => ?_) (fun hb => ?_)
  ·have H9 := Jo hb H8; clear H8
   refine Ja rfl rfl rfl (Jd (v := .int .i64 a1) rfl) ?_
   refine Ja rfl rfl rfl (Jd (v := .int .i64 a3) rfl) ?_
   refine Ja rfl rfl rfl (Qr rfl rfl) ?_
   refine Ja rfl rfl rfl (Jz (v := .bool (decide (a1 = a3))) rfl rfl) ?_
   refine Ja rfl rfl rfl (Jc (v := .bool (decide (a1 = a3))) rfl) ?_
   refine Jf ?_
   refine Jq ?_
   obtain rfl := Option.some.inj H9
   refine J5 (v := .bool (decide (a1 = a3))) rfl rfl (fin rfl)
  ·have H10 := Jp hb H8; clear H8
   refine Jh rfl rfl rfl ?_
   refine Jh rfl rfl rfl ?_
   refine Jh rfl rfl rfl ?_
   refine Ja rfl rfl rfl (J0 (v := .bool false) rfl rfl) ?_
   refine Ja rfl rfl rfl (Jc (v := .bool false) rfl) ?_
   refine Jf ?_
   refine Jq ?_
   obtain rfl := Option.some.inj H10
   refine J5 (v := .bool false) rfl rfl (fin rfl)
theorem k3 {a0 : T_tag_File} {v0_1 : Value} {a1 : (List Int)} {v1 : Value} {a2 : T_tag_Value} {v2_2 : Value} {v2_3 : Value} {v2_4 : Value} {r : Bool} {w : World} {h : Jx} (hw : Know h w X3) (f0_1 : FrN h 1 v0_1 gs_tag_Entry a0.Dirs) (f1 : FrS h 1 v1 (a1.map J3)) (f2_2 : FrS h 1 v2_2 (a2.Ints.map J3)) (f2_3 : FrS h 2 v2_3 (a2.Ratios.map Jn)) (f2_4 : FrN h 6 v2_4 g_tag_Entry a2.Entries) (H : Law_TagPaths a0 a1 a2 = some r) : Does Try.prog 3 (List.toArray [.agg #[.bool a0.Big, v0_1], v1, .agg #[.int .i64 a2.Kind, str a2.Text, v2_2, v2_3, v2_4]]) w (fun v w' => v = (.bool r) ∧ Grow w w') := by
 refine enter (n := 153) Try.func3 rfl rfl rfl X3 [] (Sat.nil _ _) ?_
 refine We h ?_
 refine Je ?_
 refine Jb ?_
 refine Yv (cs := [.bool a0.Big, v0_1]) rfl rfl rfl rfl (fun b8 => ?_)
 refine Yv (cs := [.int .i64 a2.Kind, str a2.Text, v2_2, v2_3, v2_4]) rfl rfl rfl rfl (fun b9 => ?_)
 refine Ja rfl rfl rfl (Jc (v := .bool false) rfl) ?_
 refine Jf ?_
 refine Je ?_
 refine Jb ?_
 refine Qg (i := 1) (vs := [.bool a0.Big, v0_1]) Try.isAgg24 Try.sizeOf24 rfl rfl rfl rfl rfl ?_
 obtain ⟨t25, h_t25, H61⟩ := Ji H; clear H
 refine Qn (fun w hF hS => k5 (Jy w) (f0_1.mono (hw.now hF)) h_t25) Try.call5 rfl rfl rfl ?_
 refine Ja rfl rfl rfl (Jc (v := .int .i64 t25) rfl) ?_
 refine Jf ?_
 refine Je ?_
 refine Jb ?_
 refine Qg (i := 1) (vs := [.bool a0.Big, v0_1]) Try.isAgg24 Try.sizeOf24 rfl rfl rfl rfl rfl ?_
 obtain ⟨t28, h_t28, H62⟩ := Ji H61; clear H61
 refine Vh (Q9 (rds := []) (G := fun x : (Option Addr × Nat) => .tuple #[.slice x.1 t28.1.length x.2, .int .i64 t28.2]) (C := fun x : (Option Addr × Nat) => roD 1 gs_int (.slice x.1 t28.1.length x.2) t28.1.length t28.1) (fun w L' hF hS hi => k6 (Jy w) (f0_1.mono (hw.now hF)) h_t28) Try.call6 rfl) rfl rfl rfl (fun p => ?_)
 refine c_roD 3 rfl (fun hp css hn pf => ?_)
 refine U5 3 rfl ?_
 refine Vk 0 3 rfl rfl (by decide) (fun w hF => hw.now hF) (fun hp_2 hle hle_2 => ?_)
 refine Ja rfl rfl rfl (Jd (v := .tuple #[.slice p.1 t28.1.length p.2, .int .i64 t28.2]) rfl) ?_
 refine Ja rfl rfl rfl (Qf (v := .slice p.1 t28.1.length p.2) rfl rfl) ?_
 refine Ja rfl rfl rfl (Qf (v := .int .i64 t28.2) rfl rfl) ?_
 refine Ja rfl rfl rfl (Jc (v := .slice p.1 t28.1.length p.2) rfl) ?_
 refine Ja rfl rfl rfl (Jc (v := .int .i64 t28.2) rfl) ?_
 refine Jf ?_
 try dsimp only [z1, z2, z5, z6, z7, z8]
 refine Je ?_
 refine Jb ?_
 refine Ja rfl rfl rfl (Jc (v := .slice none 0 0) rfl) ?_
 refine Jf ?_
 try dsimp only [z1, z2, z5, z6, z7, z8]
 refine Q8 (r := r) (σ := (List (List Int))) (τ := Jx × (List (List Value)) × (Option Addr × Nat)) (fun s => Vp a0 a1 a2 t25 t28 s) (fun s t => [(1, v1), (3, .pointer (some ⟨b8, 0, none⟩)), (5, .pointer (some ⟨b9, 0, none⟩)), (7, .int .i64 t25), (8, .slice p.1 t28.1.length p.2), (9, .int .i64 t28.2), (10, .slice t.2.2.1 t.2.1.length t.2.2.2)]) (fun s t => [X9 h t.1, Jv b8 [.bool a0.Big, v0_1] 24, Jv b9 [.int .i64 a2.Kind, str a2.Text, v2_2, v2_3, v2_4] 29, roV 1 (.slice p.1 t28.1.length p.2) t28.1.length (css.map idC), Xa 25 1 (.slice t.2.2.1 t.2.1.length t.2.2.2) t.2.1.length (t.2.1.map idC)]) (fun s t => AllC gs_int t.1 1 css t28.1 ∧ AllC gs_int t.1 1 t.2.1 s) ?_ ?_
 ·refine Je ?_
  refine Jb ?_
  refine Ja rfl rfl rfl (Jd (v := .int .i64 t25) rfl) ?_
  refine Ja rfl rfl rfl (Qr rfl rfl) ?_
  refine Jf ?_
  try dsimp only [z1, z2, z5, z6, z7, z8]
  refine J4 (b := (decide (t25 = 0))) rfl (fun hb => ?_) (fun hb => ?_)
  ·have H118 := Jo hb H62; clear H62
   refine Jb ?_
   refine Qg (i := 1) (vs := [.bool a0.Big, v0_1]) Try.isAgg24 Try.sizeOf24 rfl rfl rfl rfl rfl ?_
   obtain ⟨t34, h_t34, H119⟩ := Ji H118; clear H118
   refine Vh (Q9 (rds := []) (G := fun x : (Option Addr × Nat) => .slice x.1 t34.length x.2) (C := fun x : (Option Addr × Nat) => rowD 25 1 gs_int (.slice x.1 t34.length x.2) t34.length t34) (fun w L' hF hS hi => k7 (Jy w) (f0_1.mono (hw.now hF)) h_t34) Try.call7 rfl) rfl rfl rfl (fun p_10 => ?_)
   refine c_rowD 5 rfl (fun hp_15 css_4 hn_2 pf_9 => ?_)
   rw [hn_2]
   refine U5 5 rfl ?_
   refine Vk 0 5 rfl rfl (by decide) (fun w hF => hw.now hF) (fun hp_16 hle_13 hle_14 => ?_)
   refine Ja rfl rfl rfl (Jc (v := .slice p_10.1 css_4.length p_10.2) rfl) ?_
   refine Jf ?_
   try dsimp only [z1, z2, z5, z6, z7, z8]
   refine Jr t34 (hp_16, css_4, p_10) 0 [0, 1, 2, 4, 6] (by exact ⟨rfl, rfl, rfl, rfl, rfl, rfl, rfl, trivial⟩) (by decide) (by kernel_rfl) (by exact ⟨H119, ⟨((pf.mono hle_2).mono hle_13), (pf_9.mono hle_14)⟩⟩) (Nat.lt_succ_self _)
  ·have H120 := Jp hb H62; clear H62
   refine Js ?_
   refine U2 25 1 ?_
   refine Jr ([] : List (List Int)) (hp_2, ([] : List (List Value)), ((none, 0) : Option Addr × Nat)) 0 [0, 1, 2, 4, 5] (by exact ⟨rfl, rfl, rfl, rfl, rfl, rfl, rfl, trivial⟩) (by decide) (by kernel_rfl) (by exact ⟨H120, ⟨(pf.mono hle_2), (AllC.nil (G := gs_int) (h := hp_2) (sz := 1))⟩⟩) (Nat.lt_succ_self _)
 ·rintro l_2 ⟨hp_3, css_3, p_2⟩ gg H63 ⟨pf_2, pf_3⟩
  replace H63 : Vp a0 a1 a2 t25 t28 l_2 = some r := H63
  try dsimp only
  refine Je ?_
  refine Je ?_
  refine Jb ?_
  refine Ja rfl rfl rfl (Jd (v := .slice p.1 t28.1.length p.2) rfl) ?_
  refine Ja rfl rfl rfl (Jd (v := .int .i64 t28.2) rfl) ?_
  refine Ja rfl rfl rfl (Jd (v := .slice p_2.1 css_3.length p_2.2) rfl) ?_
  refine Ja rfl rfl rfl (Jd (v := .int .i64 t25) rfl) ?_
  obtain ⟨t39, h_t39, H64⟩ := Ji H63; clear H63
  refine Qn (fun w hF hS => k8 (Jy w) (frn_of (xs := t28.1) (frs_rd (i := 3) hS rfl) (pf_2.mono (Xe (i := 0) hS rfl (hw.now hF)))) (frn_of (xs := l_2) (frs_own (i := 4) rfl hS rfl) (pf_3.mono (Xe (i := 0) hS rfl (hw.now hF)))) h_t39) Try.call8 rfl rfl rfl ?_
  refine Ja rfl rfl rfl (V3 rfl) ?_
  refine Jf ?_
  try dsimp only [z1, z2, z5, z6, z7, z8]
  refine J4 (b := (!t39)) rfl (fun hb => ?_) (fun hb => ?_)
  ·have H65 := Jo hb H64; clear H64
   refine Je ?_
   refine Jb ?_
   refine Ja rfl rfl rfl (Jc (v := .bool false) rfl) ?_
   refine Jf ?_
   try dsimp only [z1, z2, z5, z6, z7, z8]
   refine Jq ?_
   obtain rfl := Option.some.inj H65
   refine J5 (v := .bool false) rfl rfl (fin rfl)
  ·have H66 := Jp hb H64; clear H64
   refine Js ?_
   refine Je ?_
   refine Jb ?_
   refine Qg (i := 1) (vs := [.bool a0.Big, v0_1]) Try.isAgg24 Try.sizeOf24 rfl rfl rfl rfl rfl ?_
   refine Ja rfl rfl rfl (Jd (v := v1) rfl) ?_
   obtain ⟨t44, h_t44, H67⟩ := Ji H66; clear H66
   refine Vh (Q9 (rds := []) (G := fun x : (Option Addr × Nat) × (Option Addr × Nat) × (Option Addr × Nat) => .tuple #[.agg #[.int .i64 t44.1.Kind, str t44.1.Text, .slice x.1.1 t44.1.Ints.length x.1.2, .slice x.2.1.1 t44.1.Ratios.length x.2.1.2, .slice x.2.2.1 t44.1.Entries.length x.2.2.2], .int .i64 t44.2]) (C := fun x : (Option Addr × Nat) × (Option Addr × Nat) × (Option Addr × Nat) => Yi U0 (fun hp_ => FrS hp_ 1 (.slice x.1.1 t44.1.Ints.length x.1.2) (t44.1.Ints.map J3) ∧ FrS hp_ 2 (.slice x.2.1.1 t44.1.Ratios.length x.2.1.2) (t44.1.Ratios.map Jn) ∧ FrN hp_ 6 (.slice x.2.2.1 t44.1.Entries.length x.2.2.2) g_tag_Entry t44.1.Entries)) (fun w L' hF hS hi => k9 (Jy w) (f0_1.mono (hw.now hF)) (f1.mono (hw.now hF)) h_t44) Try.call9 rfl) rfl rfl rfl (fun ⟨p_3, p_4, p_5⟩ => ?_)
   refine Ud 5 rfl (fun hp_4 pf_4 => ?_)
   refine Vk 0 5 rfl rfl (by decide) (fun w hF => hw.now hF) (fun hp_5 hle_3 hle_4 => ?_)
   refine Ja rfl rfl rfl (Jd (v := .tuple #[.agg #[.int .i64 t44.1.Kind, str t44.1.Text, (.slice p_3.1 t44.1.Ints.length p_3.2), (.slice p_4.1 t44.1.Ratios.length p_4.2), (.slice p_5.1 t44.1.Entries.length p_5.2)], .int .i64 t44.2]) rfl) ?_
   refine Ja rfl rfl rfl (Qf (v := .agg #[.int .i64 t44.1.Kind, str t44.1.Text, (.slice p_3.1 t44.1.Ints.length p_3.2), (.slice p_4.1 t44.1.Ratios.length p_4.2), (.slice p_5.1 t44.1.Entries.length p_5.2)]) rfl rfl) ?_
   refine Ja rfl rfl rfl (Qf (v := .int .i64 t44.2) rfl rfl) ?_
   refine Ye (cs := [.int .i64 0, str [], .slice none 0 0, .slice none 0 0, .slice none 0 0]) Try.zeroValue29 rfl rfl rfl (fun b10 => ?_)
   refine Qi (i := 6) (vs := [.int .i64 t44.1.Kind, str t44.1.Text, (.slice p_3.1 t44.1.Ints.length p_3.2), (.slice p_4.1 t44.1.Ratios.length p_4.2), (.slice p_5.1 t44.1.Entries.length p_5.2)]) (cs' := [.int .i64 t44.1.Kind, str t44.1.Text, (.slice p_3.1 t44.1.Ints.length p_3.2), (.slice p_4.1 t44.1.Ratios.length p_4.2), (.slice p_5.1 t44.1.Entries.length p_5.2)]) Try.sizeOf29 rfl rfl rfl rfl rfl rfl (by simp only [List.all_cons, List.all_nil, (pf_4.1.mono hle_4).one, (pf_4.2.1.mono hle_4).one, (pf_4.2.2.mono hle_4).one] <;> rfl) rfl rfl ?_
   refine Ja rfl rfl rfl (Jc (v := .int .i64 t44.2) rfl) ?_
   refine Jf ?_
   try dsimp only [z1, z2, z5, z6, z7, z8]
   refine Je ?_
   refine Jb ?_
   refine Qg (i := 1) (vs := [.bool a0.Big, v0_1]) Try.isAgg24 Try.sizeOf24 rfl rfl rfl rfl rfl ?_
   refine Ja rfl rfl rfl (Jd (v := v1) rfl) ?_
   refine Qg (i := 2) (vs := [.int .i64 a2.Kind, str a2.Text, v2_2, v2_3, v2_4]) Try.isAgg29 Try.sizeOf29 rfl rfl rfl rfl rfl ?_
   obtain ⟨t51, h_t51, H68⟩ := Ji H67; clear H67
   refine Vh (Q9 (rds := []) (G := fun x : (Option Addr × Nat) => .tuple #[.agg #[.bool t51.1.Big, .slice x.1 t51.1.Dirs.length x.2], .int .i64 t51.2]) (C := fun x : (Option Addr × Nat) => Yi U0 (fun hp_ => FrN hp_ 1 (.slice x.1 t51.1.Dirs.length x.2) gs_tag_Entry t51.1.Dirs)) (fun w L' hF hS hi => k10 (Jy w) (f0_1.mono (hw.now hF)) (f1.mono (hw.now hF)) (f2_2.mono (hw.now hF)) (f2_3.mono (hw.now hF)) (f2_4.mono (hw.now hF)) h_t51) Try.call10 rfl) rfl rfl rfl (fun p_6 => ?_)
   refine Ud 7 rfl (fun hp_6 pf_5 => ?_)
   refine Vk 0 7 rfl rfl (by decide) (fun w hF => hw.now hF) (fun hp_7 hle_5 hle_6 => ?_)
   refine Ja rfl rfl rfl (Jd (v := .tuple #[.agg #[.bool t51.1.Big, (.slice p_6.1 t51.1.Dirs.length p_6.2)], .int .i64 t51.2]) rfl) ?_
   refine Ja rfl rfl rfl (Qf (v := .agg #[.bool t51.1.Big, (.slice p_6.1 t51.1.Dirs.length p_6.2)]) rfl rfl) ?_
   refine Ja rfl rfl rfl (Qf (v := .int .i64 t51.2) rfl rfl) ?_
   refine Ye (cs := [.bool false, .slice none 0 0]) Try.zeroValue24 rfl rfl rfl (fun b11 => ?_)
   refine Qi (i := 8) (vs := [.bool t51.1.Big, (.slice p_6.1 t51.1.Dirs.length p_6.2)]) (cs' := [.bool t51.1.Big, (.slice p_6.1 t51.1.Dirs.length p_6.2)]) Try.sizeOf24 rfl rfl rfl rfl rfl rfl (by simp only [List.all_cons, List.all_nil, (pf_5.mono hle_6).one] <;> rfl) rfl rfl ?_
   refine Ja rfl rfl rfl (Jc (v := .int .i64 t51.2) rfl) ?_
   refine Jf ?_
   try dsimp only [z1, z2, z5, z6, z7, z8]
   refine Je ?_
   refine Jb ?_
   refine Qg (i := 1) (vs := [.bool a0.Big, v0_1]) Try.isAgg24 Try.sizeOf24 rfl rfl rfl rfl rfl ?_
   refine Ja rfl rfl rfl (Jd (v := v1) rfl) ?_
   obtain ⟨t57, h_t57, H69⟩ := Ji H68; clear H68
   refine Vh (Q9 (rds := []) (G := fun x : (Option Addr × Nat) => .tuple #[.agg #[.bool t57.1.Big, .slice x.1 t57.1.Dirs.length x.2], .int .i64 t57.2]) (C := fun x : (Option Addr × Nat) => Yi U0 (fun hp_ => FrN hp_ 1 (.slice x.1 t57.1.Dirs.length x.2) gs_tag_Entry t57.1.Dirs)) (fun w L' hF hS hi => k11 (Jy w) (f0_1.mono (hw.now hF)) (f1.mono (hw.now hF)) h_t57) Try.call11 rfl) rfl rfl rfl (fun p_7 => ?_)
   refine Ud 9 rfl (fun hp_8 pf_6 => ?_)
   refine Vk 0 9 rfl rfl (by decide) (fun w hF => hw.now hF) (fun hp_9 hle_7 hle_8 => ?_)
   refine Ja rfl rfl rfl (Jd (v := .tuple #[.agg #[.bool t57.1.Big, (.slice p_7.1 t57.1.Dirs.length p_7.2)], .int .i64 t57.2]) rfl) ?_
   refine Ja rfl rfl rfl (Qf (v := .agg #[.bool t57.1.Big, (.slice p_7.1 t57.1.Dirs.length p_7.2)]) rfl rfl) ?_
   refine Ja rfl rfl rfl (Qf (v := .int .i64 t57.2) rfl rfl) ?_
   refine Ye (cs := [.bool false, .slice none 0 0]) Try.zeroValue24 rfl rfl rfl (fun b12 => ?_)
   refine Qi (i := 10) (vs := [.bool t57.1.Big, (.slice p_7.1 t57.1.Dirs.length p_7.2)]) (cs' := [.bool t57.1.Big, (.slice p_7.1 t57.1.Dirs.length p_7.2)]) Try.sizeOf24 rfl rfl rfl rfl rfl rfl (by simp only [List.all_cons, List.all_nil, (pf_6.mono hle_8).one] <;> rfl) rfl rfl ?_
   refine Ja rfl rfl rfl (Jc (v := .int .i64 t57.2) rfl) ?_
   refine Jf ?_
   try dsimp only [z1, z2, z5, z6, z7, z8]
   refine Je ?_
   refine Je ?_
   refine Jb ?_
   refine Ja rfl rfl rfl (Jd (v := .int .i64 t25) rfl) ?_
   refine Ja rfl rfl rfl (Y9 rfl rfl) ?_
   refine Jf ?_
   try dsimp only [z1, z2, z5, z6, z7, z8]
   refine J4 (b := (decide (t25 ≠ 0))) rfl (fun hb => ?_) (fun hb => ?_)
   ·have H70 := Jo hb H69; clear H69
    refine Je ?_
    refine Jb ?_
    refine Ja rfl rfl rfl (Jd (v := .int .i64 t44.2) rfl) ?_
    refine Ja rfl rfl rfl (Jd (v := .int .i64 t25) rfl) ?_
    refine Ja rfl rfl rfl (Qr rfl rfl) ?_
    refine Ja rfl rfl rfl (Jd (v := .bool (decide (t44.2 = t25))) rfl) ?_
    refine split (fun hb => ?_) (fun hb => ?_)
    ·have H71 := Jo hb H70; clear H70
     refine Ja rfl rfl rfl (Jd (v := .int .i64 t51.2) rfl) ?_
     refine Ja rfl rfl rfl (Jd (v := .int .i64 t25) rfl) ?_
     refine Ja rfl rfl rfl (Qr rfl rfl) ?_
     refine Ja rfl rfl rfl (Jz (v := .bool (decide (t51.2 = t25))) rfl rfl) ?_
     refine Ja rfl rfl rfl (Jd (v := .bool (decide (t51.2 = t25))) rfl) ?_
     refine split (fun hb => ?_) (fun hb => ?_)
     ·have H72 := Jo hb H71; clear H71
      refine Ja rfl rfl rfl (Jd (v := .int .i64 t57.2) rfl) ?_
      refine Ja rfl rfl rfl (Jd (v := .int .i64 t25) rfl) ?_
      refine Ja rfl rfl rfl (Qr rfl rfl) ?_
      refine Ja rfl rfl rfl (Jz (v := .bool (decide (t57.2 = t25))) rfl rfl) ?_
      refine Ja rfl rfl rfl (Jd (v := .bool (decide (t57.2 = t25))) rfl) ?_
      refine split (fun hb => ?_) (fun hb => ?_)
      ·have H73 := Jo hb H72; clear H72
       refine Qg (i := 6) (vs := [.int .i64 t44.1.Kind, str t44.1.Text, (.slice p_3.1 t44.1.Ints.length p_3.2), (.slice p_4.1 t44.1.Ratios.length p_4.2), (.slice p_5.1 t44.1.Entries.length p_5.2)]) Try.isAgg29 Try.sizeOf29 rfl rfl rfl rfl rfl ?_
       refine Ja rfl rfl rfl (Ym (pl := #[(0, 1), (1, 1), (2, 1), (3, 1), (4, 1)]) (ps := []) (cells := #[.int .i64 0, str [], .slice none 0 0, .slice none 0 0, .slice none 0 0]) Try.zeroValue29 Try.runUnderlying29 (fun w => by kernel_rfl) rfl rfl) ?_
       obtain ⟨t78, h_t78, H74⟩ := Ji H73; clear H73
       refine Qn (fun w hF hS => k12 (Jy w) ((((pf_4.1.mono hle_4).mono hle_5).mono hle_7).mono (Xe (i := 0) hS rfl (hw.now hF))) ((((pf_4.2.1.mono hle_4).mono hle_5).mono hle_7).mono (Xe (i := 0) hS rfl (hw.now hF))) ((((pf_4.2.2.mono hle_4).mono hle_5).mono hle_7).mono (Xe (i := 0) hS rfl (hw.now hF))) (FrS.nil _ _) (FrS.nil _ _) (FrN.nil _ _ _) h_t78) Try.call12 rfl rfl rfl ?_
       refine Ja rfl rfl rfl (Jz (v := .bool t78) rfl rfl) ?_
       refine Ja rfl rfl rfl (Jd (v := .bool t78) rfl) ?_
       refine split (fun hb => ?_) (fun hb => ?_)
       ·have H75 := Jo hb H74; clear H74
        refine Qg (i := 8) (vs := [.bool t51.1.Big, (.slice p_6.1 t51.1.Dirs.length p_6.2)]) Try.isAgg24 Try.sizeOf24 rfl rfl rfl rfl rfl ?_
        refine Ja rfl rfl rfl (Ym (pl := #[(0, 1), (1, 1)]) (ps := []) (cells := #[.bool false, .slice none 0 0]) Try.zeroValue24 Try.runUnderlying24 (fun w => by kernel_rfl) rfl rfl) ?_
        obtain ⟨t83, h_t83, H76⟩ := Ji H75; clear H75
        refine Qn (fun w hF hS => k13 (Jy w) (((pf_5.mono hle_6).mono hle_7).mono (Xe (i := 0) hS rfl (hw.now hF))) (FrN.nil _ _ _) h_t83) Try.call13 rfl rfl rfl ?_
        refine Ja rfl rfl rfl (Jz (v := .bool t83) rfl rfl) ?_
        refine Ja rfl rfl rfl (Jd (v := .bool t83) rfl) ?_
        refine split (fun hb => ?_) (fun hb => ?_)
        ·have H77 := Jo hb H76; clear H76
         refine Qg (i := 10) (vs := [.bool t57.1.Big, (.slice p_7.1 t57.1.Dirs.length p_7.2)]) Try.isAgg24 Try.sizeOf24 rfl rfl rfl rfl rfl ?_
         refine Ja rfl rfl rfl (Ym (pl := #[(0, 1), (1, 1)]) (ps := []) (cells := #[.bool false, .slice none 0 0]) Try.zeroValue24 Try.runUnderlying24 (fun w => by kernel_rfl) rfl rfl) ?_
         obtain ⟨t88, h_t88, H78⟩ := Ji H77; clear H77
         refine Qn (fun w hF hS => k13 (Jy w) ((pf_6.mono hle_8).mono (Xe (i := 0) hS rfl (hw.now hF))) (FrN.nil _ _ _) h_t88) Try.call13 rfl rfl rfl ?_
         refine Ja rfl rfl rfl (Jz (v := .bool t88) rfl rfl) ?_
         refine Ja rfl rfl rfl (Jc (v := .bool t88) rfl) ?_
         refine Jf ?_
         try dsimp only [z1, z2, z5, z6, z7, z8]
         refine Jq ?_
         obtain rfl := Option.some.inj H78
         refine J5 (v := .bool t88) rfl rfl (fin rfl)
        ·have H79 := Jp hb H76; clear H76
         refine Jh rfl rfl rfl ?_
         refine Jh rfl rfl rfl ?_
         refine Jh rfl rfl rfl ?_
         refine Ja rfl rfl rfl (J0 (v := .bool false) rfl rfl) ?_
         refine Ja rfl rfl rfl (Jc (v := .bool false) rfl) ?_
         refine Jf ?_
         try dsimp only [z1, z2, z5, z6, z7, z8]
         refine Jq ?_
         obtain rfl := Option.some.inj H79
         refine J5 (v := .bool false) rfl rfl (fin rfl)
       ·have H80 := Jp hb H74; clear H74
        refine Jh rfl rfl rfl ?_
        refine Jh rfl rfl rfl ?_
        refine Jh rfl rfl rfl ?_
        refine Ja rfl rfl rfl (J0 (v := .bool false) rfl rfl) ?_
        refine Ja rfl rfl rfl (Jd (v := .bool false) rfl) ?_
        refine Jh rfl rfl rfl ?_
        refine Jh rfl rfl rfl ?_
        refine Jh rfl rfl rfl ?_
        refine Ja rfl rfl rfl (J0 (v := .bool false) rfl rfl) ?_
        refine Ja rfl rfl rfl (Jc (v := .bool false) rfl) ?_
        refine Jf ?_
        try dsimp only [z1, z2, z5, z6, z7, z8]
        refine Jq ?_
        obtain rfl := Option.some.inj H80
        refine J5 (v := .bool false) rfl rfl (fin rfl)
      ·have H81 := Jp hb H72; clear H72
       refine Jh rfl rfl rfl ?_
       refine Jh rfl rfl rfl ?_
       refine Jh rfl rfl rfl ?_
       refine Ja rfl rfl rfl (J0 (v := .bool false) rfl rfl) ?_
       refine Ja rfl rfl rfl (Jd (v := .bool false) rfl) ?_
       refine Jh rfl rfl rfl ?_
       refine Jh rfl rfl rfl ?_
       refine Jh rfl rfl rfl ?_
       refine Ja rfl rfl rfl (J0 (v := .bool false) rfl rfl) ?_
       refine Ja rfl rfl rfl (Jd (v := .bool false) rfl) ?_
       refine Jh rfl rfl rfl ?_
       refine Jh rfl rfl rfl ?_
       refine Jh rfl rfl rfl ?_
       refine Ja rfl rfl rfl (J0 (v := .bool false) rfl rfl) ?_
       refine Ja rfl rfl rfl (Jc (v := .bool false) rfl) ?_
       refine Jf ?_
       try dsimp only [z1, z2, z5, z6, z7, z8]
       refine Jq ?_
       obtain rfl := Option.some.inj H81
       refine J5 (v := .bool false) rfl rfl (fin rfl)
     ·have H82 := Jp hb H71; clear H71
      refine Jh rfl rfl rfl ?_
      refine Jh rfl rfl rfl ?_
      refine Jh rfl rfl rfl ?_
      refine Ja rfl rfl rfl (J0 (v := .bool false) rfl rfl) ?_
      refine Ja rfl rfl rfl (Jd (v := .bool false) rfl) ?_
      refine Jh rfl rfl rfl ?_
      refine Jh rfl rfl rfl ?_
      refine Jh rfl rfl rfl ?_
      refine Ja rfl rfl rfl (J0 (v := .bool false) rfl rfl) ?_
      refine Ja rfl rfl rfl (Jd (v := .bool false) rfl) ?_
      refine Jh rfl rfl rfl ?_
      refine Jh rfl rfl rfl ?_
      refine Jh rfl rfl rfl ?_
      refine Ja rfl rfl rfl (J0 (v := .bool false) rfl rfl) ?_
      refine Ja rfl rfl rfl (Jd (v := .bool false) rfl) ?_
      refine Jh rfl rfl rfl ?_
      refine Jh rfl rfl rfl ?_
      refine Jh rfl rfl rfl ?_
      refine Ja rfl rfl rfl (J0 (v := .bool false) rfl rfl) ?_
      refine Ja rfl rfl rfl (Jc (v := .bool false) rfl) ?_
      refine Jf ?_
      try dsimp only [z1, z2, z5, z6, z7, z8]
      refine Jq ?_
      obtain rfl := Option.some.inj H82
      refine J5 (v := .bool false) rfl rfl (fin rfl)
    ·have H83 := Jp hb H70; clear H70
     refine Jh rfl rfl rfl ?_
     refine Jh rfl rfl rfl ?_
     refine Jh rfl rfl rfl ?_
     refine Ja rfl rfl rfl (J0 (v := .bool false) rfl rfl) ?_
     refine Ja rfl rfl rfl (Jd (v := .bool false) rfl) ?_
     refine Jh rfl rfl rfl ?_
     refine Jh rfl rfl rfl ?_
     refine Jh rfl rfl rfl ?_
     refine Ja rfl rfl rfl (J0 (v := .bool false) rfl rfl) ?_
     refine Ja rfl rfl rfl (Jd (v := .bool false) rfl) ?_
     refine Jh rfl rfl rfl ?_
     refine Jh rfl rfl rfl ?_
     refine Jh rfl rfl rfl ?_
     refine Ja rfl rfl rfl (J0 (v := .bool false) rfl rfl) ?_
     refine Ja rfl rfl rfl (Jd (v := .bool false) rfl) ?_
     refine Jh rfl rfl rfl ?_
     refine Jh rfl rfl rfl ?_
     refine Jh rfl rfl rfl ?_
     refine Ja rfl rfl rfl (J0 (v := .bool false) rfl rfl) ?_
     refine Ja rfl rfl rfl (Jd (v := .bool false) rfl) ?_
     refine Jh rfl rfl rfl ?_
     refine Jh rfl rfl rfl ?_
     refine Jh rfl rfl rfl ?_
     refine Ja rfl rfl rfl (J0 (v := .bool false) rfl rfl) ?_
     refine Ja rfl rfl rfl (Jc (v := .bool false) rfl) ?_
     refine Jf ?_
     try dsimp only [z1, z2, z5, z6, z7, z8]
     refine Jq ?_
     obtain rfl := Option.some.inj H83
     refine J5 (v := .bool false) rfl rfl (fin rfl)
   ·have H84 := Jp hb H69; clear H69
    refine Js ?_
    refine Je ?_
    refine Jb ?_
    refine Qg (i := 1) (vs := [.bool a0.Big, v0_1]) Try.isAgg24 Try.sizeOf24 rfl rfl rfl rfl rfl ?_
    refine Ja rfl rfl rfl (Jd (v := v1) rfl) ?_
    obtain ⟨t93, h_t93, H85⟩ := Ji H84; clear H84
    refine l_callC (σ := Value × Value × Value) (G := fun x => .tuple #[.agg #[.int .i64 t93.1.Kind, str t93.1.Text, x.1, x.2.1, x.2.2], .bool t93.2]) (Φ := fun x => FrS h 1 x.1 (t93.1.Ints.map J3) ∧ FrS h 2 x.2.1 (t93.1.Ratios.map Jn) ∧ FrN h 6 x.2.2 g_tag_Entry t93.1.Entries) (fun w hF hS => k14 (h := h) (hw.at hF) f0_1 f1 h_t93) Try.call14 rfl rfl rfl (fun ⟨pv, pv_2, pv_3⟩ hp_10 => ?_)
    refine Ja rfl rfl rfl (Jd (v := .tuple #[.agg #[.int .i64 t93.1.Kind, str t93.1.Text, pv, pv_2, pv_3], .bool t93.2]) rfl) ?_
    refine Ja rfl rfl rfl (Qf (v := .agg #[.int .i64 t93.1.Kind, str t93.1.Text, pv, pv_2, pv_3]) rfl rfl) ?_
    refine Ja rfl rfl rfl (Qf (v := .bool t93.2) rfl rfl) ?_
    refine Ye (cs := [.int .i64 0, str [], .slice none 0 0, .slice none 0 0, .slice none 0 0]) Try.zeroValue29 rfl rfl rfl (fun b13 => ?_)
    refine Qi (i := 11) (vs := [.int .i64 t93.1.Kind, str t93.1.Text, pv, pv_2, pv_3]) (cs' := [.int .i64 t93.1.Kind, str t93.1.Text, pv, pv_2, pv_3]) Try.sizeOf29 rfl rfl rfl rfl rfl rfl (by simp only [List.all_cons, List.all_nil, hp_10.1.one, hp_10.2.1.one, hp_10.2.2.one] <;> rfl) rfl rfl ?_
    refine Ja rfl rfl rfl (Jc (v := .bool t93.2) rfl) ?_
    refine Jf ?_
    try dsimp only [z1, z2, z5, z6, z7, z8]
    refine Q8 (r := r) (σ := Unit) (τ := Unit) (fun s => Vr a0 a1 a2 t51 t57) (fun s t => [(1, v1), (3, .pointer (some ⟨b8, 0, none⟩)), (5, .pointer (some ⟨b9, 0, none⟩)), (13, .pointer (some ⟨b11, 0, none⟩)), (14, .int .i64 t51.2), (15, .pointer (some ⟨b12, 0, none⟩)), (16, .int .i64 t57.2)]) (fun s t => [X9 h hp_9, Jv b8 [.bool a0.Big, v0_1] 24, Jv b9 [.int .i64 a2.Kind, str a2.Text, v2_2, v2_3, v2_4] 29, Jv b11 [.bool t51.1.Big, (.slice p_6.1 t51.1.Dirs.length p_6.2)] 24, Jv b12 [.bool t57.1.Big, (.slice p_7.1 t57.1.Dirs.length p_7.2)] 24]) (fun s t => True) ?_ ?_
    ·refine Je ?_
     refine Jb ?_
     refine Ja rfl rfl rfl (Jd (v := .bool t93.2) rfl) ?_
     refine Ja rfl rfl rfl (Jd (v := .int .i64 t44.2) rfl) ?_
     refine Ja rfl rfl rfl (Qr rfl rfl) ?_
     refine Ja rfl rfl rfl (r_neqB Try.underlying4 rfl rfl) ?_
     refine Ja rfl rfl rfl (Jd (v := .bool (decide (t93.2 ≠ (decide (t44.2 = 0))))) rfl) ?_
     refine split (fun hb => ?_) (fun hb => ?_)
     ·have H106 := Jo hb H85; clear H85
      refine Jh rfl rfl rfl ?_
      refine Jh rfl rfl rfl ?_
      refine Jh rfl rfl rfl ?_
      refine Jh rfl rfl rfl ?_
      refine Jh rfl rfl rfl ?_
      refine Jh rfl rfl rfl ?_
      refine Ja rfl rfl rfl (Jz (v := .bool true) rfl rfl) ?_
      refine Ja rfl rfl rfl (Jd (v := .bool true) rfl) ?_
      refine Jh rfl rfl rfl ?_
      refine Jh rfl rfl rfl ?_
      refine Jh rfl rfl rfl ?_
      refine Jh rfl rfl rfl ?_
      refine Ja rfl rfl rfl (Jz (v := .bool true) rfl rfl) ?_
      refine Jf ?_
      try dsimp only [z1, z2, z5, z6, z7, z8]
      refine Y5 rfl ?_
      refine Je ?_
      refine Jb ?_
      refine Ja rfl rfl rfl (Jc (v := .bool false) rfl) ?_
      refine Jf ?_
      try dsimp only [z1, z2, z5, z6, z7, z8]
      refine Jq ?_
      obtain rfl := Option.some.inj H106
      refine J5 (v := .bool false) rfl rfl (fin rfl)
     ·have H107 := Jp hb H85; clear H85
      refine Ja rfl rfl rfl (Jd (v := .bool t93.2) rfl) ?_
      refine Ja rfl rfl rfl (V3 rfl) ?_
      refine Ja rfl rfl rfl (Jd (v := .bool (!t93.2)) rfl) ?_
      refine split (fun hb => ?_) (fun hb => ?_)
      ·have H108 := Jo hb H107; clear H107
       refine Ja rfl rfl rfl (Jd (v := .int .i64 t44.2) rfl) ?_
       refine Ja rfl rfl rfl (Y9 rfl rfl) ?_
       refine Ja rfl rfl rfl (Jz (v := .bool (decide (t44.2 ≠ 7))) rfl rfl) ?_
       refine Ja rfl rfl rfl (J0 (v := .bool (decide (t44.2 ≠ 7))) rfl rfl) ?_
       refine Ja rfl rfl rfl (Jd (v := .bool (decide (t44.2 ≠ 7))) rfl) ?_
       refine split (fun hb => ?_) (fun hb => ?_)
       ·have H109 := Jo hb H108; clear H108
        refine Jh rfl rfl rfl ?_
        refine Jh rfl rfl rfl ?_
        refine Jh rfl rfl rfl ?_
        refine Jh rfl rfl rfl ?_
        refine Ja rfl rfl rfl (Jz (v := .bool true) rfl rfl) ?_
        refine Jf ?_
        try dsimp only [z1, z2, z5, z6, z7, z8]
        refine Y5 rfl ?_
        refine Je ?_
        refine Jb ?_
        refine Ja rfl rfl rfl (Jc (v := .bool false) rfl) ?_
        refine Jf ?_
        try dsimp only [z1, z2, z5, z6, z7, z8]
        refine Jq ?_
        obtain rfl := Option.some.inj H109
        refine J5 (v := .bool false) rfl rfl (fin rfl)
       ·have H110 := Jp hb H108; clear H108
        refine Qg (i := 6) (vs := [.int .i64 t44.1.Kind, str t44.1.Text, (.slice p_3.1 t44.1.Ints.length p_3.2), (.slice p_4.1 t44.1.Ratios.length p_4.2), (.slice p_5.1 t44.1.Entries.length p_5.2)]) Try.isAgg29 Try.sizeOf29 rfl rfl rfl rfl rfl ?_
        refine Qg (i := 11) (vs := [.int .i64 t93.1.Kind, str t93.1.Text, pv, pv_2, pv_3]) Try.isAgg29 Try.sizeOf29 rfl rfl rfl rfl rfl ?_
        obtain ⟨t111, h_t111, H111⟩ := Ji H110; clear H110
        refine Qn (fun w hF hS => k12 (Jy w) ((((pf_4.1.mono hle_4).mono hle_5).mono hle_7).mono (Xe (i := 0) hS rfl (hw.now hF))) ((((pf_4.2.1.mono hle_4).mono hle_5).mono hle_7).mono (Xe (i := 0) hS rfl (hw.now hF))) ((((pf_4.2.2.mono hle_4).mono hle_5).mono hle_7).mono (Xe (i := 0) hS rfl (hw.now hF))) (hp_10.1.mono (hw.now hF)) (hp_10.2.1.mono (hw.now hF)) (hp_10.2.2.mono (hw.now hF)) h_t111) Try.call12 rfl rfl rfl ?_
        refine Ja rfl rfl rfl (V3 rfl) ?_
        refine Ja rfl rfl rfl (J0 (v := .bool (!t111)) rfl rfl) ?_
        refine Jf ?_
        try dsimp only [z1, z2, z5, z6, z7, z8]
        refine J4 (b := (!t111)) rfl (fun hb => ?_) (fun hb => ?_)
        ·have H112 := Jo hb H111; clear H111
         refine Je ?_
         refine Jb ?_
         refine Ja rfl rfl rfl (Jc (v := .bool false) rfl) ?_
         refine Jf ?_
         try dsimp only [z1, z2, z5, z6, z7, z8]
         refine Jq ?_
         obtain rfl := Option.some.inj H112
         refine J5 (v := .bool false) rfl rfl (fin rfl)
        ·have H113 := Jp hb H111; clear H111
         refine Js ?_
         refine Jr () () 0 [0, 1, 2, 8, 10] (by exact ⟨rfl, rfl, rfl, rfl, rfl, rfl, rfl, trivial⟩) (by decide) (by kernel_rfl) (by exact ⟨H113, trivial⟩) (Nat.lt_succ_self _)
      ·have H114 := Jp hb H107; clear H107
       refine Jh rfl rfl rfl ?_
       refine Jh rfl rfl rfl ?_
       refine Ja rfl rfl rfl (J0 (v := .bool false) rfl rfl) ?_
       refine Ja rfl rfl rfl (J0 (v := .bool false) rfl rfl) ?_
       refine Ja rfl rfl rfl (Jd (v := .bool false) rfl) ?_
       refine Qg (i := 6) (vs := [.int .i64 t44.1.Kind, str t44.1.Text, (.slice p_3.1 t44.1.Ints.length p_3.2), (.slice p_4.1 t44.1.Ratios.length p_4.2), (.slice p_5.1 t44.1.Entries.length p_5.2)]) Try.isAgg29 Try.sizeOf29 rfl rfl rfl rfl rfl ?_
       refine Qg (i := 11) (vs := [.int .i64 t93.1.Kind, str t93.1.Text, pv, pv_2, pv_3]) Try.isAgg29 Try.sizeOf29 rfl rfl rfl rfl rfl ?_
       obtain ⟨t111_2, h_t111_2, H115⟩ := Ji H114; clear H114
       refine Qn (fun w hF hS => k12 (Jy w) ((((pf_4.1.mono hle_4).mono hle_5).mono hle_7).mono (Xe (i := 0) hS rfl (hw.now hF))) ((((pf_4.2.1.mono hle_4).mono hle_5).mono hle_7).mono (Xe (i := 0) hS rfl (hw.now hF))) ((((pf_4.2.2.mono hle_4).mono hle_5).mono hle_7).mono (Xe (i := 0) hS rfl (hw.now hF))) (hp_10.1.mono (hw.now hF)) (hp_10.2.1.mono (hw.now hF)) (hp_10.2.2.mono (hw.now hF)) h_t111_2) Try.call12 rfl rfl rfl ?_
       refine Ja rfl rfl rfl (V3 rfl) ?_
       refine Ja rfl rfl rfl (J0 (v := .bool (!t111_2)) rfl rfl) ?_
       refine Jf ?_
       try dsimp only [z1, z2, z5, z6, z7, z8]
       refine J4 (b := (!t111_2)) rfl (fun hb => ?_) (fun hb => ?_)
       ·have H116 := Jo hb H115; clear H115
        refine Je ?_
        refine Jb ?_
        refine Ja rfl rfl rfl (Jc (v := .bool false) rfl) ?_
        refine Jf ?_
        try dsimp only [z1, z2, z5, z6, z7, z8]
        refine Jq ?_
        obtain rfl := Option.some.inj H116
        refine J5 (v := .bool false) rfl rfl (fin rfl)
       ·have H117 := Jp hb H115; clear H115
        refine Js ?_
        refine Jr () () 0 [0, 1, 2, 8, 10] (by exact ⟨rfl, rfl, rfl, rfl, rfl, rfl, rfl, trivial⟩) (by decide) (by kernel_rfl) (by exact ⟨H117, trivial⟩) (Nat.lt_succ_self _)
    ·rintro _ _ gg H86 _
     replace H86 : Vr a0 a1 a2 t51 t57 = some r := H86
     try dsimp only
     refine Je ?_
     refine Jb ?_
     refine Qg (i := 1) (vs := [.bool a0.Big, v0_1]) Try.isAgg24 Try.sizeOf24 rfl rfl rfl rfl rfl ?_
     refine Ja rfl rfl rfl (Jd (v := v1) rfl) ?_
     refine Qg (i := 2) (vs := [.int .i64 a2.Kind, str a2.Text, v2_2, v2_3, v2_4]) Try.isAgg29 Try.sizeOf29 rfl rfl rfl rfl rfl ?_
     obtain ⟨t118, h_t118, H87⟩ := Ji H86; clear H86
     refine Vh (Q9 (rds := []) (G := fun x : (Option Addr × Nat) => .tuple #[.agg #[.bool t118.1.Big, .slice x.1 t118.1.Dirs.length x.2], .bool t118.2]) (C := fun x : (Option Addr × Nat) => Yi h (fun hp_ => FrN hp_ 1 (.slice x.1 t118.1.Dirs.length x.2) gs_tag_Entry t118.1.Dirs)) (fun w L' hF hS hi => k15 (h := h) (hw.at hF) f0_1 f1 f2_2 f2_3 f2_4 h_t118) Try.call15 rfl) rfl rfl rfl (fun p_8 => ?_)
     refine Ud 5 rfl (fun hp_11 pf_7 => ?_)
     refine c_poolJoinB 0 5 rfl rfl (by decide) (fun w hF => hw.now hF) (fun hp_12 hle_9 hle_10 => ?_)
     refine Ja rfl rfl rfl (Jd (v := .tuple #[.agg #[.bool t118.1.Big, (.slice p_8.1 t118.1.Dirs.length p_8.2)], .bool t118.2]) rfl) ?_
     refine Ja rfl rfl rfl (Qf (v := .agg #[.bool t118.1.Big, (.slice p_8.1 t118.1.Dirs.length p_8.2)]) rfl rfl) ?_
     refine Ja rfl rfl rfl (Qf (v := .bool t118.2) rfl rfl) ?_
     refine Ye (cs := [.bool false, .slice none 0 0]) Try.zeroValue24 rfl rfl rfl (fun b14 => ?_)
     refine Qi (i := 6) (vs := [.bool t118.1.Big, (.slice p_8.1 t118.1.Dirs.length p_8.2)]) (cs' := [.bool t118.1.Big, (.slice p_8.1 t118.1.Dirs.length p_8.2)]) Try.sizeOf24 rfl rfl rfl rfl rfl rfl (by simp only [List.all_cons, List.all_nil, (pf_7.mono hle_10).one] <;> rfl) rfl rfl ?_
     refine Ja rfl rfl rfl (Jc (v := .bool t118.2) rfl) ?_
     refine Jf ?_
     refine Je ?_
     refine Jb ?_
     refine Ja rfl rfl rfl (Jc (v := .int .i64 0) rfl) ?_
     refine Jf ?_
     refine Q8 (r := r) (σ := Int) (τ := Unit) (fun s => Yw a0 a1 a2 t51 t57 t118 s) (fun s t => [(1, v1), (3, .pointer (some ⟨b8, 0, none⟩)), (5, .pointer (some ⟨b9, 0, none⟩)), (13, .pointer (some ⟨b11, 0, none⟩)), (14, .int .i64 t51.2), (15, .pointer (some ⟨b12, 0, none⟩)), (16, .int .i64 t57.2), (19, .pointer (some ⟨b14, 0, none⟩)), (21, .int .i64 s)]) (fun s t => [X9 h hp_12, Jv b8 [.bool a0.Big, v0_1] 24, Jv b9 [.int .i64 a2.Kind, str a2.Text, v2_2, v2_3, v2_4] 29, Jv b11 [.bool t51.1.Big, (.slice p_6.1 t51.1.Dirs.length p_6.2)] 24, Jv b12 [.bool t57.1.Big, (.slice p_7.1 t57.1.Dirs.length p_7.2)] 24, Jv b14 [.bool t118.1.Big, (.slice p_8.1 t118.1.Dirs.length p_8.2)] 24]) (fun s t => True) ?_ ?_
     ·refine Je ?_
      refine Jb ?_
      refine Ja rfl rfl rfl (Jd (v := .bool t118.2) rfl) ?_
      refine Ja rfl rfl rfl (V3 rfl) ?_
      refine Jf ?_
      refine J4 (b := (!t118.2)) rfl (fun hb => ?_) (fun hb => ?_)
      ·have H104 := Jo hb H87; clear H87
       refine Jb ?_
       refine Ja rfl rfl rfl (Jc (v := .int .i64 7) rfl) ?_
       refine Jf ?_
       refine Jr 7 () 0 [0, 1, 2, 3, 4, 6] (by exact ⟨rfl, rfl, rfl, rfl, rfl, rfl, rfl, rfl, rfl, trivial⟩) (by decide) (by kernel_rfl) (by exact ⟨H104, trivial⟩) (Nat.lt_succ_self _)
      ·have H105 := Jp hb H87; clear H87
       refine Js ?_
       refine Jr 0 () 0 [0, 1, 2, 3, 4, 6] (by exact ⟨rfl, rfl, rfl, rfl, rfl, rfl, rfl, rfl, rfl, trivial⟩) (by decide) (by kernel_rfl) (by exact ⟨H105, trivial⟩) (Nat.lt_succ_self _)
     ·rintro x21 _ gg H88 _
      replace H88 : Yw a0 a1 a2 t51 t57 t118 x21 = some r := H88
      try dsimp only
      refine Je ?_
      refine Je ?_
      refine Jb ?_
      refine Qg (i := 4) (vs := [.bool t57.1.Big, (.slice p_7.1 t57.1.Dirs.length p_7.2)]) Try.isAgg24 Try.sizeOf24 rfl rfl rfl rfl rfl ?_
      refine Ja rfl rfl rfl (Jd (v := .int .i64 t57.2) rfl) ?_
      refine Qg (i := 5) (vs := [.bool t118.1.Big, (.slice p_8.1 t118.1.Dirs.length p_8.2)]) Try.isAgg24 Try.sizeOf24 rfl rfl rfl rfl rfl ?_
      refine Ja rfl rfl rfl (Jd (v := .int .i64 x21) rfl) ?_
      obtain ⟨t127, h_t127, H89⟩ := Ji H88; clear H88
      refine Qn (fun w hF hS => k16 (Jy w) (((pf_6.mono hle_8).mono hle_9).mono (Xe (i := 0) hS rfl (hw.now hF))) ((pf_7.mono hle_10).mono (Xe (i := 0) hS rfl (hw.now hF))) h_t127) Try.call16 rfl rfl rfl ?_
      refine Ja rfl rfl rfl (V3 rfl) ?_
      refine Jf ?_
      refine J4 (b := (!t127)) rfl (fun hb => ?_) (fun hb => ?_)
      ·have H90 := Jo hb H89; clear H89
       refine Je ?_
       refine Jb ?_
       refine Ja rfl rfl rfl (Jc (v := .bool false) rfl) ?_
       refine Jf ?_
       refine Jq ?_
       obtain rfl := Option.some.inj H90
       refine J5 (v := .bool false) rfl rfl (fin rfl)
      ·have H91 := Jp hb H89; clear H89
       refine Js ?_
       refine Je ?_
       refine Jb ?_
       refine Qg (i := 2) (vs := [.int .i64 a2.Kind, str a2.Text, v2_2, v2_3, v2_4]) Try.isAgg29 Try.sizeOf29 rfl rfl rfl rfl rfl ?_
       obtain ⟨t130, h_t130, H92⟩ := Ji H91; clear H91
       refine Qn (fun w hF hS => k17q (Jy w) (f2_2.mono (hw.now hF)) (f2_3.mono (hw.now hF)) (f2_4.mono (hw.now hF)) h_t130) Try.call17 rfl rfl rfl ?_
       refine Ja rfl rfl rfl (Jc (v := .int .i64 t130) rfl) ?_
       refine Jf ?_
       refine Je ?_
       refine Jb ?_
       refine Qg (i := 1) (vs := [.bool a0.Big, v0_1]) Try.isAgg24 Try.sizeOf24 rfl rfl rfl rfl rfl ?_
       refine Ja rfl rfl rfl (Jd (v := v1) rfl) ?_
       refine Qg (i := 2) (vs := [.int .i64 a2.Kind, str a2.Text, v2_2, v2_3, v2_4]) Try.isAgg29 Try.sizeOf29 rfl rfl rfl rfl rfl ?_
       obtain ⟨t135, h_t135, H93⟩ := Ji H92; clear H92
       refine Vh (Q9 (rds := []) (G := fun x : (Option Addr × Nat) => .tuple #[.agg #[.bool t135.1.Big, .slice x.1 t135.1.Dirs.length x.2], .bool t135.2]) (C := fun x : (Option Addr × Nat) => Yi h (fun hp_ => FrN hp_ 1 (.slice x.1 t135.1.Dirs.length x.2) gs_tag_Entry t135.1.Dirs)) (fun w L' hF hS hi => k15 (h := h) (hw.at hF) f0_1 f1 f2_2 f2_3 f2_4 h_t135) Try.call15 rfl) rfl rfl rfl (fun p_9 => ?_)
       refine Ud 6 rfl (fun hp_13 pf_8 => ?_)
       refine c_poolJoinB 0 6 rfl rfl (by decide) (fun w hF => hw.now hF) (fun hp_14 hle_11 hle_12 => ?_)
       refine Ja rfl rfl rfl (Jd (v := .tuple #[.agg #[.bool t135.1.Big, (.slice p_9.1 t135.1.Dirs.length p_9.2)], .bool t135.2]) rfl) ?_
       refine Ja rfl rfl rfl (Qf (v := .agg #[.bool t135.1.Big, (.slice p_9.1 t135.1.Dirs.length p_9.2)]) rfl rfl) ?_
       refine Ja rfl rfl rfl (Qf (v := .bool t135.2) rfl rfl) ?_
       refine Ye (cs := [.bool false, .slice none 0 0]) Try.zeroValue24 rfl rfl rfl (fun b15 => ?_)
       refine Qi (i := 7) (vs := [.bool t135.1.Big, (.slice p_9.1 t135.1.Dirs.length p_9.2)]) (cs' := [.bool t135.1.Big, (.slice p_9.1 t135.1.Dirs.length p_9.2)]) Try.sizeOf24 rfl rfl rfl rfl rfl rfl (by simp only [List.all_cons, List.all_nil, (pf_8.mono hle_12).one] <;> rfl) rfl rfl ?_
       refine Ja rfl rfl rfl (Jc (v := .bool t135.2) rfl) ?_
       refine Jf ?_
       refine Q8 (r := r) (σ := Int) (τ := Unit) (fun s => Yj t51 t135 s) (fun s t => [(13, .pointer (some ⟨b11, 0, none⟩)), (14, .int .i64 t51.2), (22, .int .i64 s), (23, .pointer (some ⟨b15, 0, none⟩))]) (fun s t => [X9 h hp_14, Jv b11 [.bool t51.1.Big, (.slice p_6.1 t51.1.Dirs.length p_6.2)] 24, Jv b15 [.bool t135.1.Big, (.slice p_9.1 t135.1.Dirs.length p_9.2)] 24]) (fun s t => True) ?_ ?_
       ·refine Je ?_
        refine Jb ?_
        refine Ja rfl rfl rfl (Jd (v := .int .i64 t130) rfl) ?_
        refine Ja rfl rfl rfl (Qr rfl rfl) ?_
        refine Ja rfl rfl rfl (Jd (v := .bool (decide (t130 = 0))) rfl) ?_
        refine split (fun hb => ?_) (fun hb => ?_)
        ·have H100 := Jo hb H93; clear H93
         refine Ja rfl rfl rfl (Jd (v := .bool t135.2) rfl) ?_
         refine Ja rfl rfl rfl (V3 rfl) ?_
         refine Ja rfl rfl rfl (Jz (v := .bool (!t135.2)) rfl rfl) ?_
         refine Jf ?_
         refine J4 (b := (!t135.2)) rfl (fun hb => ?_) (fun hb => ?_)
         ·have H101 := Jo hb H100; clear H100
          refine Jb ?_
          refine Ja rfl rfl rfl (Jc (v := .int .i64 7) rfl) ?_
          refine Jf ?_
          refine Jr 7 () 0 [0, 3, 7] (by exact ⟨rfl, rfl, rfl, rfl, trivial⟩) (by decide) (by kernel_rfl) (by exact ⟨H101, trivial⟩) (Nat.lt_succ_self _)
         ·have H102 := Jp hb H100; clear H100
          refine Js ?_
          refine Jr t130 () 0 [0, 3, 7] (by exact ⟨rfl, rfl, rfl, rfl, trivial⟩) (by decide) (by kernel_rfl) (by exact ⟨H102, trivial⟩) (Nat.lt_succ_self _)
        ·have H103 := Jp hb H93; clear H93
         refine Jh rfl rfl rfl ?_
         refine Jh rfl rfl rfl ?_
         refine Ja rfl rfl rfl (J0 (v := .bool false) rfl rfl) ?_
         refine Jf ?_
         refine W2 rfl ?_
         refine Js ?_
         refine Jr t130 () 0 [0, 3, 7] (by exact ⟨rfl, rfl, rfl, rfl, trivial⟩) (by decide) (by kernel_rfl) (by exact ⟨H103, trivial⟩) (Nat.lt_succ_self _)
       ·rintro x22 _ gg H94 _
        replace H94 : Yj t51 t135 x22 = some r := H94
        try dsimp only
        refine Q8 (r := r) (σ := Int) (τ := Unit) (fun s => Wt t51 t135 s) (fun s t => [(13, .pointer (some ⟨b11, 0, none⟩)), (14, .int .i64 t51.2), (22, .int .i64 s), (23, .pointer (some ⟨b15, 0, none⟩))]) (fun s t => [X9 h hp_14, Jv b11 [.bool t51.1.Big, (.slice p_6.1 t51.1.Dirs.length p_6.2)] 24, Jv b15 [.bool t135.1.Big, (.slice p_9.1 t135.1.Dirs.length p_9.2)] 24]) (fun s t => True) ?_ ?_
        ·refine Je ?_
         refine Jb ?_
         refine Ja rfl rfl rfl (Jd (v := .int .i64 x22) rfl) ?_
         refine Ja rfl rfl rfl (Qr rfl rfl) ?_
         refine Jf ?_
         refine J4 (b := (decide (x22 = 0))) rfl (fun hb => ?_) (fun hb => ?_)
         ·have H97 := Jo hb H94; clear H94
          refine Jb ?_
          refine Qg (i := 2) (vs := [.bool t135.1.Big, (.slice p_9.1 t135.1.Dirs.length p_9.2)]) Try.isAgg24 Try.sizeOf24 rfl rfl rfl rfl rfl ?_
          obtain ⟨t147, h_t147, H98⟩ := Ji H97; clear H97
          refine Qn (fun w hF hS => k5 (Jy w) ((pf_8.mono hle_12).mono (Xe (i := 0) hS rfl (hw.now hF))) h_t147) Try.call5 rfl rfl rfl ?_
          refine Ja rfl rfl rfl (Jc (v := .int .i64 t147) rfl) ?_
          refine Jf ?_
          refine Jr t147 () 0 [0, 1, 2] (by exact ⟨rfl, rfl, rfl, rfl, trivial⟩) (by decide) (by kernel_rfl) (by exact ⟨H98, trivial⟩) (Nat.lt_succ_self _)
         ·have H99 := Jp hb H94; clear H94
          refine Js ?_
          refine Jr x22 () 0 [0, 1, 2] (by exact ⟨rfl, rfl, rfl, rfl, trivial⟩) (by decide) (by kernel_rfl) (by exact ⟨H99, trivial⟩) (Nat.lt_succ_self _)
        ·rintro x22_2 _ gg H95 _
         replace H95 : Wt t51 t135 x22_2 = some r := H95
         try dsimp only
         refine Je ?_
         try dsimp only [z1, z2, z5, z6, z7, z8]
         refine Jb ?_
         refine Qg (i := 1) (vs := [.bool t51.1.Big, (.slice p_6.1 t51.1.Dirs.length p_6.2)]) Try.isAgg24 Try.sizeOf24 rfl rfl rfl rfl rfl ?_
         refine Ja rfl rfl rfl (Jd (v := .int .i64 t51.2) rfl) ?_
         refine Qg (i := 2) (vs := [.bool t135.1.Big, (.slice p_9.1 t135.1.Dirs.length p_9.2)]) Try.isAgg24 Try.sizeOf24 rfl rfl rfl rfl rfl ?_
         refine Ja rfl rfl rfl (Jd (v := .int .i64 x22_2) rfl) ?_
         obtain ⟨t152, h_t152, H96⟩ := Ji H95; clear H95
         refine Qn (fun w hF hS => k16 (Jy w) (((((pf_5.mono hle_6).mono hle_7).mono hle_9).mono hle_11).mono (Xe (i := 0) hS rfl (hw.now hF))) ((pf_8.mono hle_12).mono (Xe (i := 0) hS rfl (hw.now hF))) h_t152) Try.call16 rfl rfl rfl ?_
         refine Ja rfl rfl rfl (Jc (v := .bool t152) rfl) ?_
         refine Jf ?_
         refine Jq ?_
         obtain rfl := Option.some.inj H96
         refine J5 (v := .bool t152) rfl rfl (fin rfl)
end Go.Proofs.Ytpljknglodhcnaa

/- A number as octets, printed by our generator from the compiled program. Conditions: none. -/
namespace Go.M
open Go.Md
noncomputable def Jad (a1 : Int) (x14_2 : Int) (l_2 : (List Int)) (next1 : ((Int × (List Int)) → Option ((List Int)))) (x9 : Int) : Option ((List Int)) :=
 J7 (gI (8 * x14_2)) fun t27 =>
 J7 (gShr 64 a1 t27) fun t28 =>
 J7 (Xt l_2 x9) fun t30 =>
 J7 (gSet l_2 x9 (wU8 t28)) fun l0 =>
 J7 (gI (x14_2 + 1)) fun t31 =>
 next1 (t31, l0)
noncomputable def V0 (a0 : Bool) (a1 : Int) (a2 : Int) (t11 : (List Int)) (next1 : ((Int × (List Int)) → Option ((List Int)))) (x14_2 : Int) (l_2 : (List Int)) : Option ((List Int)) :=
 Qj (decide (x14_2 < (t11.length : Int))) (Qj a0 (J7 (gI (a2 - 1)) fun t20 =>
 J7 (gI (t20 - x14_2)) fun t22 =>
 Jad a1 x14_2 l_2 next1 t22) (Jad a1 x14_2 l_2 next1 x14_2)) (some l_2)
noncomputable def tag_number (a0 : Bool) (a1 : Int) (a2 : Int) : Option ((List Int)) :=
 J7 (gMake 1 a2 0) fun t11 =>
 V6 (fun next1 s => V0 a0 a1 a2 t11 next1 s.1 s.2) (0, t11)
end Go.M

/- Plain lemmas about models: loops that count, scans for a first error. Conditions: none. -/
namespace Go.Pl
open Go.Md
theorem up {ρ : Type} {F : (Int → Option ρ) → Int → Option ρ} (n : Nat) (spec : Nat → Option ρ)
  (step : ∀ (next : Int → Option ρ) (k : Nat), k ≤ n → (k < n → next ((k : Int) + 1) = spec (k + 1)) → F next (k : Int) = spec k) : V6 F 0 = spec 0 := by
 have h := fix_of (F := F) (fun i => spec i.toNat) (fun i => 0 ≤ i ∧ i ≤ n) (fun i => n - i.toNat) (by
  intro next a ⟨h0, h1⟩ ih
  obtain ⟨k, rfl⟩ := Int.eq_ofNat_of_zero_le h0
  simp only [Int.toNat_natCast]
  refine step next k (by omega) fun hk => ?_
  have := ih ((k : Int) + 1) (by omega) (by simp only [Int.toNat_natCast]; omega)
  rw [this, show ((k : Int) + 1).toNat = k + 1 from by omega]) 0 (by omega)
 simpa using h
end Go.Pl

/- More plain lemmas about models: loops that run or go on, two loops that do the same, loops that collect. Conditions: none. -/
namespace Go.Pl
open Go.Md
theorem fix_upto {ρ : Type} {F : (Int → Option ρ) → Int → Option ρ} {o : Option ρ} (i e : Nat) (hie : i ≤ e) (more : ∀ (next : Int → Option ρ) (k : Nat), i ≤ k → k < e → F next (k : Int) = next ((k : Int) + 1)) (stop : ∀ next, F next (e : Int) = o) : V6 F (i : Int) = o := by
 have key : ∀ n k, i ≤ k → k ≤ e → e - k < n → V6 F (k : Int) = o := by
  intro n
  induction n with
  | zero => intro k _ _ h; omega
  | succ n ih =>
   intro k h1 h2 h3
   rcases Nat.lt_or_ge k e with h | h
   ·rw [Yr ((k : Int) + 1) (fun next => more next k h1 h)]; exact ih (k + 1) (by omega) (by omega) (by omega)
   ·have : k = e := by omega
    subst this; exact Xi stop
 exact key (e - i + 1) i (Nat.le_refl _) hie (by omega)
end Go.Pl

/- Numbers and values as octets, values checked, in plain Lean. Conditions: none. -/
namespace Go.M
open Go.Md Go.Pl
theorem cI {α : Type} {p : Prop} [Decidable p] {x y : Option α} : Qj (decide p) x y = if p then x else y := cnd_if ..
theorem fix_ofG {α ρ γ : Type} {F : (α → Option ρ) → α → Option ρ} (spec : γ → α → Option ρ) (I : γ → α → Prop) (μ : γ → Nat)
  (step : ∀ (next : α → Option ρ) (g : γ) (a : α), I g a → (∀ g' b, I g' b → μ g' < μ g → next b = spec g' b) → F next a = spec g a) (g : γ) (a : α) (ha : I g a) : V6 F a = spec g a := by
 have key : ∀ (n : Nat) (g : γ) (a : α), I g a → μ g < n → it F n a = spec g a := by
  intro n
  induction n with
  | zero => intro g a _ h; omega
  | succ n ih => intro g a ha h; exact step _ g a ha fun g' b hb hlt => ih g' b hb (by omega)
 exact fix_ev (k := μ g + 1) fun n hn => key n g a ha (by omega)
theorem num_ex (big : Bool) (n : Int) (k : Nat) (hk : k ≤ 8) : ∃ L : List Int, tag_number big n k = some L ∧ X2 big n k = some (toStr L) ∧ L.length = k ∧ (∀ x ∈ L, 0 ≤ x ∧ x ≤ 255) ∧ (n = 0 → ∀ x ∈ L, x = 0) := by
 have key : ∀ m i : Nat, i + m = k → ∀ l : List Int, l.length = k → (∀ x ∈ l, 0 ≤ x ∧ x ≤ 255) → (n = 0 → ∀ x ∈ l, x = 0) →
   ∃ L : List Int, V6 (fun next1 s => V0 big n k (List.replicate k 0) next1 s.1 s.2) ((i : Int), l) = some L ∧ V6 (fun next2 s => Zp big n k (List.replicate k 0) next2 s.1 s.2) ((i : Int), l) = some (toStr L) ∧ L.length = k ∧ (∀ x ∈ L, 0 ≤ x ∧ x ≤ 255) ∧ (n = 0 → ∀ x ∈ L, x = 0) := by
  intro m
  induction m with
  | zero =>
   intro i hi l hl hx hz
   refine ⟨l, Xi fun next => ?_, Xi fun next => ?_, hl, hx, hz⟩
   ·show V0 big n k _ next (i : Int) l = _
    unfold V0
    rw [cI, if_neg (by rw [List.length_replicate]; omega)]
   ·show Zp big n k _ next (i : Int) l = _
    unfold Zp
    rw [cI, if_neg (by rw [List.length_replicate]; omega)]; rfl
  | succ m ih =>
   intro i hi l hl hx hz
   have hs : ∃ y : Int, gShr 64 n (8 * (i : Int)) = some y ∧ (n = 0 → y = 0) := by
    refine ⟨n / 2 ^ min (8 * (i : Int)).toNat 64, if_pos (by omega), fun e => by rw [e]; exact Int.zero_ediv _⟩
   obtain ⟨y, hy, hy0⟩ := hs
   have hp : ∃ q : Nat, q < k ∧ (∀ (next : Int × List Int → Option (List Int)), V0 big n k (List.replicate k 0) next (i : Int) l = next ((i : Int) + 1, l.set q (wU8 y))) ∧ (∀ (next : Int × List Int → Option (List UInt8)), Zp big n k (List.replicate k 0) next (i : Int) l = next ((i : Int) + 1, l.set q (wU8 y))) := by
    cases big
    ·refine ⟨i, by omega, fun next => ?_, fun next => ?_⟩
     ·unfold V0
      rw [cI, if_pos (by rw [List.length_replicate]; omega), Qd]
      unfold Jad
      rw [Qs (by omega), Jg, hy, Jg, Qq (by omega), Jg, Un (by omega) (by omega), Jg, Qs (by omega), Jg, Int.toNat_natCast]
     ·unfold Zp
      rw [cI, if_pos (by rw [List.length_replicate]; omega), Qd]
      unfold Uy
      rw [Qs (by omega), Jg, hy, Jg, Qq (by omega), Jg, Un (by omega) (by omega), Jg, Qs (by omega), Jg, Int.toNat_natCast]
    ·refine ⟨k - 1 - i, by omega, fun next => ?_, fun next => ?_⟩
     ·unfold V0
      rw [cI, if_pos (by rw [List.length_replicate]; omega), Qh, Qs (by omega), Jg, Qs (by omega), Jg]
      unfold Jad
      rw [Qs (by omega), Jg, hy, Jg, gAt_ok (by omega) (by omega), Jg, Un (by omega) (by omega), Jg, Qs (by omega), Jg, show ((k : Int) - 1 - (i : Int)).toNat = k - 1 - i from by omega]
     ·unfold Zp
      rw [cI, if_pos (by rw [List.length_replicate]; omega), Qh, Qs (by omega), Jg, Qs (by omega), Jg]
      unfold Uy
      rw [Qs (by omega), Jg, hy, Jg, gAt_ok (by omega) (by omega), Jg, Un (by omega) (by omega), Jg, Qs (by omega), Jg, show ((k : Int) - 1 - (i : Int)).toNat = k - 1 - i from by omega]
   obtain ⟨q, hq, h1, h2⟩ := hp
   obtain ⟨L, a1, a2, a3, a4, a5⟩ := ih (i + 1) (by omega) (l.set q (wU8 y)) (by rw [List.length_set]; exact hl) (fun x hxm => by
    rcases List.mem_or_eq_of_mem_set hxm with h | h
    ·exact hx x h
    ·rw [h]; unfold wU8; omega) (fun e x hxm => by
    rcases List.mem_or_eq_of_mem_set hxm with h | h
    ·exact hz e x h
    ·rw [h, hy0 e]; rfl)
   exact ⟨L, (Yr _ h1).trans a1, (Yr _ h2).trans a2, a3, a4, a5⟩
 obtain ⟨L, a1, a2, a3⟩ := key k 0 (by omega) (List.replicate k 0) (by simp) (fun x hx => by rw [(List.mem_replicate.1 hx).2]; omega) (fun _ x hx => (List.mem_replicate.1 hx).2)
 refine ⟨L, ?_, ?_, a3⟩
 ·unfold tag_number
  rw [gMake_ok (by omega), Jg, Int.toNat_natCast]; exact a1
 ·unfold X2
  rw [gMake_ok (by omega), Jg, Int.toNat_natCast]; exact a2
noncomputable def Vn (big : Bool) (n : Int) (k : Nat) : List UInt8 := toStr ((tag_number big n k).getD [])
theorem num_R (big : Bool) (n : Int) {k : Nat} (hk : k ≤ 8) : X2 big n k = some (Vn big n k) := by
 obtain ⟨L, h1, h2, _⟩ := num_ex big n k hk
 unfold Vn
 rw [h1, Option.getD_some, h2]
theorem Yn (big : Bool) (n : Int) {k : Nat} (hk : k ≤ 8) : (Vn big n k).length = k := by
 obtain ⟨L, h1, _, h3, _⟩ := num_ex big n k hk
 unfold Vn toStr
 rw [h1, Option.getD_some, List.length_map, h3]
theorem num_zero (big : Bool) {k : Nat} (hk : k ≤ 8) : Vn big 0 k = List.replicate k 0 := by
 obtain ⟨L, h1, _, h3, _, h5⟩ := num_ex big 0 k hk
 have : L = List.replicate k 0 := List.eq_replicate_iff.2 ⟨h3, h5 rfl⟩
 unfold Vn toStr
 rw [h1, Option.getD_some, this, List.map_replicate]; rfl
theorem R2 (big : Bool) (n : Int) : X2 big n 2 = some (Vn big n 2) := num_R big n (k := 2) (by omega)
theorem R4 (big : Bool) (n : Int) : X2 big n 4 = some (Vn big n 4) := num_R big n (k := 4) (by omega)
def W0 (k : Int) : Nat := if k = 1 ∨ k = 2 ∨ k = 7 then 1 else if k = 3 then 2 else if k = 4 ∨ k = 9 then 4 else if k = 5 then 8 else 0
theorem wideN_le (k : Int) : W0 k ≤ 8 := by unfold W0; (repeat' split) <;> omega
theorem sizeOf_eq (k : Int) : Uq k = some (if k = 13 then 1 else (W0 k : Int)) := by
 unfold Uq Vy W0
 by_cases h1 : k = 1
 ·subst h1; rfl
 by_cases h2 : k = 2
 ·subst h2; rfl
 by_cases h3 : k = 3
 ·subst h3; rfl
 by_cases h4 : k = 4
 ·subst h4; rfl
 by_cases h5 : k = 5
 ·subst h5; rfl
 by_cases h7 : k = 7
 ·subst h7; rfl
 by_cases h9 : k = 9
 ·subst h9; rfl
 by_cases h13 : k = 13
 ·subst h13; rfl
 simp [h1, h2, h3, h4, h5, h7, h9, h13, Qd]
theorem wide_eq (k : Int) : R_wide k = some (if k = 13 then 4 else (W0 k : Int)) := by
 unfold R_wide R_wide_j1 W0
 by_cases h1 : k = 1
 ·subst h1; rfl
 by_cases h2 : k = 2
 ·subst h2; rfl
 by_cases h3 : k = 3
 ·subst h3; rfl
 by_cases h4 : k = 4
 ·subst h4; rfl
 by_cases h5 : k = 5
 ·subst h5; rfl
 by_cases h7 : k = 7
 ·subst h7; rfl
 by_cases h9 : k = 9
 ·subst h9; rfl
 by_cases h13 : k = 13
 ·subst h13; rfl
 simp [h1, h2, h3, h4, h5, h7, h9, h13, Qd]
def intsK (k : Int) : Prop := k = 1 ∨ k = 3 ∨ k = 4 ∨ k = 9
def textK (k : Int) : Prop := k = 2 ∨ k = 7
instance (k : Int) : Decidable (intsK k) := by unfold intsK; infer_instance
instance (k : Int) : Decidable (textK k) := by unfold textK; infer_instance
def kindP (k : Int) : Prop := intsK k ∨ textK k ∨ k = 5 ∨ k = 13
instance (k : Int) : Decidable (kindP k) := by unfold kindP; infer_instance
def formP (v : T_tag_Value) : Prop := (¬ intsK v.Kind ∧ v.Ints ≠ []) ∨ (¬ textK v.Kind ∧ v.Text ≠ []) ∨ (v.Kind ≠ 5 ∧ v.Ratios ≠ []) ∨ (v.Kind ≠ 13 ∧ v.Entries ≠ [])
noncomputable def Z2 (v : T_tag_Value) : Int := open Classical in if ¬ kindP v.Kind then 10 else if formP v then 1 else 0
theorem W5 {α : Type} (l : List α) : (0 : Int) < (l.length : Int) ↔ l ≠ [] := by
 cases l <;> simp <;> omega
theorem wide_zero (k : Int) (h : k ≠ 13) : (W0 k : Int) = 0 ↔ ¬ kindP k := by
 unfold W0 kindP intsK textK
 split
 ·omega
 ·split
  ·omega
  ·split
   ·omega
   ·split <;> omega
theorem j3_fields (v : T_tag_Value) (b : Bool) : Zh v b = some (open Classical in if b = true ∨ (v.Kind ≠ 13 ∧ v.Entries ≠ []) then 1 else 0) := by
 unfold Zh
 cases b
 ·rw [Qd, cI, cI]
  by_cases h1 : v.Kind ≠ 13
  ·by_cases h2 : v.Entries = []
   ·rw [if_pos h1, if_neg (by rw [W5]; simpa using h2), if_neg (by simp [h2])]
   ·rw [if_pos h1, if_pos ((W5 _).2 h2), if_pos (.inr ⟨h1, h2⟩)]
  ·rw [if_neg h1, if_neg (by simp [h1])]
 ·rw [Qh, Qh, if_pos (.inl rfl)]
theorem j2_fields (v : T_tag_Value) (b : Bool) : Zf v b = some (open Classical in if b = true ∨ (v.Kind ≠ 5 ∧ v.Ratios ≠ []) ∨ (v.Kind ≠ 13 ∧ v.Entries ≠ []) then 1 else 0) := by
 unfold Zf
 cases b
 ·rw [Qd, cI, j3_fields, j3_fields]
  by_cases h1 : v.Kind ≠ 5
  ·rw [if_pos h1]
   congr 1
   by_cases h2 : v.Ratios = []
   ·simp [h2]
   ·simp [h2, h1, List.length_pos_iff]
  ·rw [if_neg h1]; simp [h1]
 ·rw [Qh, Qh, if_pos (.inl rfl)]
theorem j1_fields (v : T_tag_Value) (b : Bool) : Ze v b = some (open Classical in if b = true ∨ (¬ textK v.Kind ∧ v.Text ≠ []) ∨ (v.Kind ≠ 5 ∧ v.Ratios ≠ []) ∨ (v.Kind ≠ 13 ∧ v.Entries ≠ []) then 1 else 0) := by
 have ht : tag_isText v.Kind = some (decide (textK v.Kind)) := by
  unfold tag_isText textK
  rw [cI]
  by_cases h : v.Kind = 2
  ·simp [h]
  ·simp [h]
 unfold Ze
 cases b
 ·rw [Qd, ht, Jg, j2_fields, j2_fields]
  by_cases h1 : textK v.Kind
  ·rw [decide_eq_true h1]
   show Qj false _ _ = _
   rw [Qd]; simp [h1]
  ·rw [decide_eq_false h1]
   show Qj true _ _ = _
   rw [Qh]; simp [h1]
 ·rw [Qh, Qh, if_pos (.inl rfl)]
theorem checkFields_eq (v : T_tag_Value) : Vt v = some (Z2 v) := by
 have hi : tag_isInts v.Kind = some (decide (intsK v.Kind)) := by
  unfold tag_isInts intsK
  rw [cI, cI, cI]
  by_cases h : v.Kind = 1
  ·simp [h]
  by_cases h3 : v.Kind = 3
  ·simp [h3]
  by_cases h4 : v.Kind = 4
  ·simp [h4]
  simp [h, h3, h4]
 unfold Vt Z2
 rw [sizeOf_eq, Jg, cI]
 by_cases hk : kindP v.Kind
 ·have hz : ¬ (if v.Kind = 13 then (1 : Int) else (W0 v.Kind : Int)) = 0 := by
   by_cases h13 : v.Kind = 13
   ·rw [if_pos h13]; omega
   ·rw [if_neg h13]; exact fun e => (wide_zero _ h13).1 e hk
  rw [if_neg hz, hi, Jg, j1_fields, j1_fields, if_neg (show ¬ ¬ kindP v.Kind from fun h => h hk)]
  by_cases h1 : intsK v.Kind
  ·rw [decide_eq_true h1]
   show Qj false _ _ = _
   rw [Qd]; unfold formP; simp [h1]
  ·rw [decide_eq_false h1]
   show Qj true _ _ = _
   rw [Qh]; unfold formP; simp [h1, List.length_pos_iff]
 ·have h13 : v.Kind ≠ 13 := fun e => hk (.inr (.inr (.inr e)))
  rw [if_neg h13, if_pos ((wide_zero _ h13).2 hk), if_pos hk]
def limS (k : Int) : Int × Int := if k = 1 then (0, 255) else if k = 3 then (0, 65535) else if k = 9 then (-2147483648, 2147483647) else (0, 4294967295)
theorem bounds_eq (k : Int) : tag_bounds k = some (limS k) := by
 unfold tag_bounds limS
 rw [cI, cI, cI]; (repeat' split) <;> rfl
theorem limits_eq (k : Int) : R_limits k = some (limS k) := by
 unfold R_limits limS
 rw [cI, cI, cI]; (repeat' split) <;> rfl
theorem out_tag (a b c : Int) : Wi a b c = some (decide (a < b ∨ c < a)) := by
 unfold Wi
 rw [cI]
 by_cases h : a < b
 ·rw [if_pos h]; simp [h]
 ·rw [if_neg h]; simp [h]
def ratP (r : T_tag_Ratio) : Prop := (r.Num < 0 ∨ 4294967295 < r.Num) ∨ (r.Den < 0 ∨ 4294967295 < r.Den)
noncomputable def plainE (v : T_tag_Value) : Int := open Classical in
 if Z2 v ≠ 0 then Z2 v else if ∃ n ∈ v.Ints, n < (limS v.Kind).1 ∨ (limS v.Kind).2 < n then 2 else if ∃ r ∈ v.Ratios, ratP r then 2 else if v.Kind = 2 ∧ (0 : UInt8) ∈ v.Text then 9 else 0
theorem look_loop {α : Type} {F : (Int → Option Int) → Int → Option Int} (xs : List α) (p : α → Prop) (e : Int) (o : Option Int) (more : ∀ (next : Int → Option Int) (k : Nat) (hk : k < xs.length), (p xs[k] → F next (k : Int) = some e) ∧ (¬ p xs[k] → F next (k : Int) = next ((k : Int) + 1))) (stop : ∀ next, F next (xs.length : Int) = o) :
  V6 F 0 = open Classical in if ∃ x ∈ xs, p x then some e else o := by
 have key : ∀ m i : Nat, i + m = xs.length → V6 F (i : Int) = open Classical in if ∃ x ∈ xs.drop i, p x then some e else o := by
  intro m
  induction m with
  | zero =>
   intro i hi
   have : i = xs.length := by omega
   subst this
   rw [List.drop_length, if_neg (by simp)]
   exact Xi stop
  | succ m ih =>
   intro i hi
   have hlt : i < xs.length := by omega
   rw [List.drop_eq_getElem_cons hlt]
   by_cases hp : p xs[i]
   ·rw [if_pos ⟨_, List.mem_cons_self, hp⟩]
    exact Xi fun next => (more next i hlt).1 hp
   ·rw [Yr ((i : Int) + 1) (fun next => (more next i hlt).2 hp)]
    have := ih (i + 1) (by omega)
    rw [show ((i : Int) + 1) = ((i + 1 : Nat) : Int) from rfl, this]
    congr 1
    apply propext
    constructor
    ·rintro ⟨x, hx, h⟩; exact ⟨x, List.mem_cons_of_mem _ hx, h⟩
    ·rintro ⟨x, hx, h⟩
     rcases List.mem_cons.1 hx with h' | h'
     ·subst h'; exact absurd h hp
     ·exact ⟨x, h', h⟩
 have := key xs.length 0 (by omega)
 rw [List.drop_zero] at this
 exact this
def vB (v : T_tag_Value) : Prop := v.Text.length ≤ 8000000 ∧ v.Ints.length ≤ 8000000 ∧ v.Ratios.length ≤ 8000000
theorem j2_plain {v : T_tag_Value} (hb : vB v) : Zs v = some (open Classical in if v.Kind = 2 ∧ (0 : UInt8) ∈ v.Text then 9 else 0) := by
 unfold Zs
 rw [cI]
 by_cases h2 : v.Kind = 2
 ·rw [if_pos h2, look_loop v.Text (fun c => c = 0) 9 (some 0) (fun next k hk => ?_) (fun next => ?_)]
  ·congr 1
   by_cases hm : (0 : UInt8) ∈ v.Text
   ·rw [if_pos ⟨0, hm, rfl⟩, if_pos ⟨h2, hm⟩]
   ·rw [if_neg (fun ⟨x, hx, e⟩ => hm (e ▸ hx)), if_neg (fun h => hm h.2)]
  ·show (_ → Xo v next (k : Int) = _) ∧ (_ → Xo v next (k : Int) = _)
   have := hb.1
   unfold Xo
   rw [cI, if_pos (by omega), gOct_nat hk, Jg, cI]
   constructor
   ·intro e; rw [if_pos (by rw [e]; rfl)]
   ·intro e
    have : v.Text[k].toNat ≠ 0 := fun h => e (by rw [← UInt8.ofNat_toNat (x := v.Text[k]), h]; rfl)
    rw [if_neg (by omega), Qs (by omega), Jg]
  ·show Xo v next (v.Text.length : Int) = _
   unfold Xo
   rw [cI, if_neg (by omega)]
 ·rw [if_neg h2, if_neg (fun h => h2 h.1)]
theorem checkPlain_eq {v : T_tag_Value} (hb : vB v) : W7 v = some (plainE v) := by
 unfold W7 plainE
 rw [checkFields_eq, Jg, cI]
 by_cases hf : Z2 v ≠ 0
 ·rw [if_pos hf, if_pos hf]
 rw [if_neg hf, if_neg hf, bounds_eq, Jg]
 rw [look_loop (F := fun next5 s => Xj v (limS v.Kind) next5 s) v.Ints (fun n => n < (limS v.Kind).1 ∨ (limS v.Kind).2 < n) 2 (Zu v) (fun next k hk => ?_) (fun next => ?_)]
 ·have e1 : Zu v = some (open Classical in if ∃ r ∈ v.Ratios, ratP r then 2 else if v.Kind = 2 ∧ (0 : UInt8) ∈ v.Text then 9 else 0) := by
   unfold Zu
   rw [look_loop (F := fun next4 s => Xk v next4 s) v.Ratios ratP 2 (Zs v) (fun next k hk => ?_) (fun next => ?_), j2_plain hb]
   ·split <;> rfl
   ·show (_ → Xk v next (k : Int) = _) ∧ (_ → Xk v next (k : Int) = _)
    have := hb.2.2
    unfold Xk ratP
    rw [cI, if_pos (by omega), Qq hk, Jg, out_tag, Jg, cI, out_tag, Jg, cI]
    constructor
    ·intro e
     by_cases h1 : v.Ratios[k].Num < 0 ∨ 4294967295 < v.Ratios[k].Num
     ·rw [if_pos h1]
     ·rw [if_neg h1, if_pos (e.resolve_left h1)]
    ·intro e
     rw [if_neg (fun h => e (.inl h)), if_neg (fun h => e (.inr h)), Qs (by omega), Jg]
   ·show Xk v next (v.Ratios.length : Int) = _
    unfold Xk
    rw [cI, if_neg (by omega)]
  rw [e1]; split <;> rfl
 ·show (_ → Xj v _ next (k : Int) = _) ∧ (_ → Xj v _ next (k : Int) = _)
  have := hb.2.1
  unfold Xj
  rw [cI, if_pos (by omega), Qq hk, Jg, out_tag, Jg, cI]
  constructor
  ·intro e; rw [if_pos e]
  ·intro e; rw [if_neg e, Qs (by omega), Jg]
 ·show Xj v _ next (v.Ints.length : Int) = _
  unfold Xj
  rw [cI, if_neg (by omega)]
theorem ixB_mem (c : UInt8) (t : List UInt8) : -1 ≤ ixB t c ∧ (0 ≤ ixB t c ↔ c ∈ t) := by
 induction t with
 | nil => exact ⟨by unfold ixB; omega, by simp [ixB]⟩
 | cons b t ih =>
  unfold ixB
  by_cases hb : b = c
  ·rw [if_pos hb]; exact ⟨by omega, fun _ => by simp [hb], fun _ => by omega⟩
  ·rw [if_neg hb]
   have hc : ¬ c = b := fun e => hb e.symm
   rw [List.mem_cons]
   by_cases h1 : ixB t c = -1
   ·rw [if_pos h1]
    exact ⟨by omega, fun h => by omega, fun h => by have := ih.2.2 (h.resolve_left hc); omega⟩
   ·rw [if_neg h1]
    exact ⟨by omega, fun h => .inr (ih.2.1 (by omega)), fun h => by have := ih.2.2 (h.resolve_left hc); omega⟩
theorem j2_fault {v : T_tag_Value} (hb : vB v) (h13 : v.Kind ≠ 13) : Xb v = some (open Classical in if ∃ n ∈ v.Ints, n < (limS v.Kind).1 ∨ (limS v.Kind).2 < n then 2 else if ∃ r ∈ v.Ratios, ratP r then 2 else if v.Kind = 2 ∧ (0 : UInt8) ∈ v.Text then 9 else 0) := by
 have e4 : Y2 v = some (open Classical in if v.Kind = 2 ∧ (0 : UInt8) ∈ v.Text then 9 else 0) := by
  unfold Y2 Zv
  rw [cI, cI, if_neg h13]
  by_cases h2 : v.Kind = 2
  ·rw [if_pos h2]
   unfold W1 Zd
   have hx : gIxB v.Text 0 = some (ixB v.Text 0) := by unfold gIxB; rfl
   have hm := (ixB_mem 0 v.Text).2
   rw [hx, Jg, Jg, Jg, cI]
   by_cases h0 : (0 : UInt8) ∈ v.Text
   ·rw [if_pos (hm.2 h0), if_pos ⟨h2, h0⟩]
   ·rw [if_neg (fun h => h0 (hm.1 h)), if_neg (fun h => h0 h.2)]
  ·rw [if_neg h2, if_neg (fun h => h2 h.1)]
 have e3 : Yy v = some (open Classical in if ∃ r ∈ v.Ratios, ratP r then 2 else if v.Kind = 2 ∧ (0 : UInt8) ∈ v.Text then 9 else 0) := by
  unfold Yy
  rw [look_loop (F := fun next6 s => Xf v next6 s) v.Ratios ratP 2 (Y2 v) (fun next k hk => ?_) (fun next => ?_), e4]
  ·split <;> rfl
  ·show (_ → Xf v next (k : Int) = _) ∧ (_ → Xf v next (k : Int) = _)
   have := hb.2.2
   unfold Xf ratP
   rw [cI, if_pos (by omega), Qq hk, Jg, cI, cI, cI, cI]
   constructor
   ·intro e
    by_cases h1 : v.Ratios[k].Num < 0
    ·rw [if_pos h1]
    by_cases h2 : 4294967295 < v.Ratios[k].Num
    ·rw [if_neg h1, if_pos h2]
    by_cases h3 : v.Ratios[k].Den < 0
    ·rw [if_neg h1, if_neg h2, if_pos h3]
    rw [if_neg h1, if_neg h2, if_neg h3, if_pos (by omega)]
   ·intro e
    rw [if_neg (by omega), if_neg (by omega), if_neg (by omega), if_neg (by omega), Qs (by omega), Jg]
  ·show Xf v next (v.Ratios.length : Int) = _
   unfold Xf
   rw [cI, if_neg (by omega)]
 unfold Xb
 rw [limits_eq, Jg]
 rw [look_loop (F := fun next7 s => Xg v (limS v.Kind) next7 s) v.Ints (fun n => n < (limS v.Kind).1 ∨ (limS v.Kind).2 < n) 2 (Yy v) (fun next k hk => ?_) (fun next => ?_), e3]
 ·split <;> rfl
 ·show (_ → Xg v _ next (k : Int) = _) ∧ (_ → Xg v _ next (k : Int) = _)
  have := hb.2.1
  unfold Xg
  rw [cI, if_pos (by omega), Qq hk, Jg, cI, cI]
  constructor
  ·intro e
   by_cases h1 : v.Ints[k] < (limS v.Kind).1
   ·rw [if_pos h1]
   ·rw [if_neg h1, if_pos (e.resolve_left h1)]
  ·intro e
   rw [if_neg (fun h => e (.inl h)), if_neg (fun h => e (.inr h)), Qs (by omega), Jg]
 ·show Xg v _ next (v.Ints.length : Int) = _
  unfold Xg
  rw [cI, if_neg (by omega)]
theorem j10_fault (v : T_tag_Value) (b : Bool) : Yl v b = open Classical in if b = true ∨ (v.Kind ≠ 13 ∧ v.Entries ≠ []) then some 1 else Xb v := by
 unfold Yl
 cases b
 ·rw [Qd, cI, cI]
  by_cases h2 : v.Entries = []
  ·rw [if_neg (by rw [W5]; simpa using h2), if_neg (by simp [h2])]
  ·rw [if_pos ((W5 _).2 h2)]
   by_cases h1 : v.Kind = 13
   ·rw [if_neg (by simpa using h1), if_neg (by simp [h1])]
   ·rw [if_pos h1, if_pos (.inr ⟨h1, h2⟩)]
 ·rw [Qh, Qh, if_pos (.inl rfl)]
theorem j9_fault (v : T_tag_Value) (b : Bool) : Yx v b = open Classical in if b = true ∨ (v.Kind ≠ 5 ∧ v.Ratios ≠ []) ∨ (v.Kind ≠ 13 ∧ v.Entries ≠ []) then some 1 else Xb v := by
 unfold Yx
 cases b
 ·rw [Qd, cI, j10_fault, j10_fault]
  by_cases h2 : v.Ratios = []
  ·rw [if_neg (by rw [W5]; simpa using h2)]; simp [h2]
  ·rw [if_pos ((W5 _).2 h2)]; simp [h2]
 ·rw [Qh, Qh, if_pos (.inl rfl)]
theorem j8_fault (v : T_tag_Value) (x4 b : Bool) : Yz v x4 b = open Classical in if b = true ∨ (x4 = false ∧ v.Ints ≠ []) ∨ (v.Kind ≠ 5 ∧ v.Ratios ≠ []) ∨ (v.Kind ≠ 13 ∧ v.Entries ≠ []) then some 1 else Xb v := by
 unfold Yz
 cases b
 ·rw [Qd, cI, j9_fault, j9_fault]
  by_cases h2 : v.Ints = []
  ·rw [if_neg (by rw [W5]; simpa using h2)]; simp [h2]
  ·rw [if_pos ((W5 _).2 h2)]; cases x4 <;> simp [h2]
 ·rw [Qh, Qh, if_pos (.inl rfl)]
theorem ValueFault_eq {v : T_tag_Value} (hb : vB v) (h13 : v.Kind ≠ 13) : Wl v = some (plainE v) := by
 have e : Wl v = Xc v (decide (textK v.Kind)) (decide (intsK v.Kind)) := by
  unfold Wl textK intsK
  by_cases h2 : v.Kind = 2
  ·simp [h2, Qh, Qd]
  by_cases h1 : v.Kind = 1
  ·simp [h1, Qh, Qd]
  by_cases h3 : v.Kind = 3
  ·simp [h3, Qh, Qd]
  by_cases h4 : v.Kind = 4
  ·simp [h4, Qh, Qd]
  simp [h2, h1, h3, h4, Qd]
 rw [e]
 unfold Xc
 rw [wide_eq, Jg, cI, if_neg h13]
 unfold plainE Z2
 by_cases hk : kindP v.Kind
 ·rw [if_neg (fun e => (wide_zero _ h13).1 e hk), cI, j8_fault, j8_fault, j2_fault hb h13, if_neg (show ¬ ¬ kindP v.Kind from fun h => h hk)]
  have hfm : (if v.Text ≠ [] then (open Classical in if (!decide (textK v.Kind)) = true ∨ (decide (intsK v.Kind) = false ∧ v.Ints ≠ []) ∨ (v.Kind ≠ 5 ∧ v.Ratios ≠ []) ∨ (v.Kind ≠ 13 ∧ v.Entries ≠ []) then True else False) else (open Classical in if false = true ∨ (decide (intsK v.Kind) = false ∧ v.Ints ≠ []) ∨ (v.Kind ≠ 5 ∧ v.Ratios ≠ []) ∨ (v.Kind ≠ 13 ∧ v.Entries ≠ []) then True else False)) ↔ formP v := by
   unfold formP
   by_cases ht : v.Text = [] <;> by_cases hk1 : textK v.Kind <;> by_cases hk2 : intsK v.Kind <;> simp [ht, hk1, hk2]
  by_cases hf : formP v
  ·rw [if_pos hf, if_pos (show (1 : Int) ≠ 0 by omega)]
   by_cases ht : v.Text = []
   ·rw [if_neg (by simpa using ht)]
    rw [if_neg (by simpa using ht)] at hfm
    have := hfm.2 hf
    split at this
    ·rename_i h; rw [if_pos h]
    ·exact this.elim
   ·rw [if_pos ht]
    rw [if_pos ht] at hfm
    have := hfm.2 hf
    split at this
    ·rename_i h; rw [if_pos h]
    ·exact this.elim
  ·rw [if_neg hf, if_neg (show ¬ ((0 : Int) ≠ 0) by omega)]
   by_cases ht : v.Text = []
   ·rw [if_neg (by simpa using ht)]
    rw [if_neg (by simpa using ht)] at hfm
    rw [if_neg (fun h => hf (hfm.1 (by rw [if_pos h]; trivial)))]
   ·rw [if_pos ht]
    rw [if_pos ht] at hfm
    rw [if_neg (fun h => hf (hfm.1 (by rw [if_pos h]; trivial)))]
 ·rw [if_pos ((wide_zero _ h13).2 hk), if_pos hk, if_pos (show (10 : Int) ≠ 0 by omega)]
end Go.M

/- Directories checked, values as octets, in plain Lean. Conditions: none. -/
namespace Go.M
open Go.Md Go.Pl
def Wg : Nat → List T_tag_Entry → Nat
 | 0, _ => 0
 | d + 1, l => (l.map fun e => 1 + e.Value.Text.length + e.Value.Ints.length + e.Value.Ratios.length + Wg d e.Value.Entries).sum
def szE (d : Nat) (e : T_tag_Entry) : Nat := 1 + e.Value.Text.length + e.Value.Ints.length + e.Value.Ratios.length + Wg d e.Value.Entries
theorem szD_nil (d : Nat) : Wg (d + 1) [] = 0 := rfl
theorem V9 (d : Nat) (e : T_tag_Entry) (l : List T_tag_Entry) : Wg (d + 1) (e :: l) = szE d e + Wg (d + 1) l := by
 simp only [Wg, szE, List.map_cons, List.sum_cons]
theorem szD_mem {d : Nat} {e : T_tag_Entry} : ∀ {l : List T_tag_Entry}, e ∈ l → szE d e ≤ Wg (d + 1) l
 | [], h => by cases h
 | x :: l, h => by
  rw [V9]
  rcases List.mem_cons.1 h with h | h
  ·subst h; omega
  ·have := szD_mem (d := d) h; omega
theorem szD_len {d : Nat} : ∀ l : List T_tag_Entry, l.length ≤ Wg (d + 1) l
 | [] => Nat.zero_le _
 | x :: l => by rw [V9, List.length_cons]; have := szD_len (d := d) l; unfold szE; omega
theorem vB_of {d : Nat} {e : T_tag_Entry} {l : List T_tag_Entry} (h : Wg (d + 1) l ≤ 8000000) (he : e ∈ l) : vB e.Value ∧ Wg d e.Value.Entries ≤ 8000000 := by
 have := szD_mem (d := d) he
 unfold szE at this
 unfold vB
 omega
def prevT (l : List T_tag_Entry) : Nat → Option Int
 | 0 => none
 | k + 1 => (l[k]?).map (·.Tag)
def lowP (pr : Option Int) (e : T_tag_Entry) : Prop := ∃ t, pr = some t ∧ e.Tag ≤ t
noncomputable def listE (f : T_tag_Entry → Int) : Option Int → List T_tag_Entry → Int
 | _, [] => 0
 | pr, e :: l => open Classical in if e.Tag < 0 ∨ 65535 < e.Tag then 2 else if lowP pr e then 5 else if f e ≠ 0 then f e else listE f (some e.Tag) l
theorem list_loop {G : (Int → Option Int) → Int → Option Int} (l : List T_tag_Entry) (f : T_tag_Entry → Int)
  (more : ∀ (next : Int → Option Int) (k : Nat) (hk : k < l.length), G next (k : Int) = open Classical in if l[k].Tag < 0 ∨ 65535 < l[k].Tag then some 2 else if lowP (prevT l k) l[k] then some 5 else if f l[k] ≠ 0 then some (f l[k]) else next ((k : Int) + 1))
  (stop : ∀ next, G next (l.length : Int) = some 0) : V6 G 0 = some (listE f none l) := by
 have key : ∀ m i : Nat, i + m = l.length → V6 G (i : Int) = some (listE f (prevT l i) (l.drop i)) := by
  intro m
  induction m with
  | zero =>
   intro i hi
   have : i = l.length := by omega
   subst this
   rw [List.drop_length]
   exact Xi stop
  | succ m ih =>
   intro i hi
   have hlt : i < l.length := by omega
   rw [List.drop_eq_getElem_cons hlt]
   unfold listE
   by_cases h1 : l[i].Tag < 0 ∨ 65535 < l[i].Tag
   ·rw [if_pos h1]
    exact Xi fun next => by rw [more next i hlt, if_pos h1]
   rw [if_neg h1]
   by_cases h2 : lowP (prevT l i) l[i]
   ·rw [if_pos h2]
    exact Xi fun next => by rw [more next i hlt, if_neg h1, if_pos h2]
   rw [if_neg h2]
   by_cases h3 : f l[i] ≠ 0
   ·rw [if_pos h3]
    exact Xi fun next => by rw [more next i hlt, if_neg h1, if_neg h2, if_pos h3]
   rw [if_neg h3, Yr ((i : Int) + 1) (fun next => by rw [more next i hlt, if_neg h1, if_neg h2, if_neg h3])]
   have := ih (i + 1) (by omega)
   have e1 : prevT l (i + 1) = some l[i].Tag := by show (l[i]?).map _ = _; rw [List.getElem?_eq_getElem hlt]; rfl
   rw [e1] at this
   exact this
 have := key l.length 0 (by omega)
 rw [List.drop_zero] at this
 exact this
theorem listE_zero {f : T_tag_Entry → Int} : ∀ {l : List T_tag_Entry} {pr : Option Int}, listE f pr l = 0 → ∀ e ∈ l, f e = 0
 | [], _, _, e, he => by cases he
 | x :: l, pr, h, e, he => by
  unfold listE at h
  split at h
  ·omega
  split at h
  ·omega
  split at h
  ·rename_i h1; exact absurd h h1
  ·rename_i h1
   rcases List.mem_cons.1 he with h' | h'
   ·subst h'; simpa using h1
   ·exact listE_zero h e h'
noncomputable def dE : Nat → List T_tag_Entry → Int
 | 0, _ => 4
 | d + 1, l => if 200 < l.length then 4 else listE (fun e => if e.Value.Kind ≠ 13 then plainE e.Value else if Z2 e.Value ≠ 0 then Z2 e.Value else dE d e.Value.Entries) none l
theorem low_step {α : Type} {l : List T_tag_Entry} {k : Nat} (hk : k < l.length) (hl : l.length ≤ 1000) (J : Option α) (x : α) :
  Qj (decide (0 < (k : Int))) (J7 (gI ((k : Int) - 1)) fun t => J7 (Xt l t) fun t35 => Qj (decide (l[k].Tag ≤ t35.Tag)) (some x) J) J = open Classical in if lowP (prevT l k) l[k] then some x else J := by
 rw [cI]
 cases k with
 | zero =>
  rw [if_neg (by omega), if_neg]
  rintro ⟨t, h, _⟩
  cases h
 | succ k =>
  have e : prevT l (k + 1) = some l[k].Tag := by show (l[k]?).map _ = _; rw [List.getElem?_eq_getElem (by omega)]; rfl
  rw [if_pos (by omega), Qs (by omega), Jg, show (((k + 1 : Nat) : Int) - 1) = (k : Int) from by omega, Qq (by omega), Jg, cI, e]
  by_cases h : l[k + 1].Tag ≤ l[k].Tag
  ·rw [if_pos h, if_pos ⟨_, rfl, h⟩]
  ·rw [if_neg h, if_neg]
   rintro ⟨t, ht, h'⟩
   cases ht
   exact h h'
theorem checkDir_eq (d : Nat) (l : List T_tag_Entry) (deep : Int) (hd : deep = 6 - (d : Int)) (h5 : d ≤ 5) (hz : Wg d l ≤ 8000000) : U7 l deep = some (dE d l) := by
 unfold U7
 refine fix_ofG (fun d (a : List T_tag_Entry × Int) => some (dE d a.1)) (fun d a => a.2 = 6 - (d : Int) ∧ d ≤ 5 ∧ Wg d a.1 ≤ 8000000) (fun d => d) ?_ d (l, deep) ⟨hd, h5, hz⟩
 rintro next d ⟨l, deep⟩ ⟨hd, h5, hz⟩ ih
 simp only at hd hz
 show Yf next l deep = some (dE d l)
 unfold Yf
 rw [cI, cI]
 cases d with
 | zero => rw [if_pos (by omega)]; rfl
 | succ d =>
  rw [if_neg (by omega)]
  unfold dE
  by_cases hl : 200 < l.length
  ·rw [if_pos (by omega), if_pos hl]
  rw [if_neg (by omega), if_neg hl]
  refine list_loop l _ (fun nx k hk => ?_) (fun nx => ?_)
  ·obtain ⟨hb, hzn⟩ := vB_of hz (List.getElem_mem hk)
   unfold Zz
   rw [cI, if_pos (by omega), Qq hk, Jg, out_tag, Jg, cI]
   by_cases h1 : l[k].Tag < 0 ∨ 65535 < l[k].Tag
   ·rw [if_pos h1, if_pos h1]
   rw [if_neg h1, if_neg h1, low_step hk (by omega)]
   congr 1
   unfold Wq
   have e3 : ∀ x : Int, Zx (k : Int) nx x = if x ≠ 0 then some x else nx ((k : Int) + 1) := fun x => by
    unfold Zx; rw [cI, Qs (by omega), Jg]
   rw [cI]
   by_cases h13 : l[k].Value.Kind ≠ 13
   ·rw [if_pos h13, checkPlain_eq hb, Jg, e3]; simp only [if_pos h13]
   ·rw [if_neg h13, checkFields_eq, Jg, cI]
    simp only [if_neg h13]
    by_cases hf : Z2 l[k].Value = 0
    ·have := ih d (l[k].Value.Entries, deep + 1) ⟨by show deep + 1 = _; omega, by omega, hzn⟩ (by omega)
     rw [if_pos hf, Qs (by omega), Jg, this, Jg, e3, if_neg (show ¬ Z2 l[k].Value ≠ 0 from fun h => h hf)]
    ·rw [if_neg hf, e3]; simp [hf]
  ·unfold Zz
   rw [cI, if_neg (by omega)]
theorem fields13 {v : T_tag_Value} (h : v.Kind = 13) : Z2 v = open Classical in if v.Text ≠ [] ∨ v.Ints ≠ [] ∨ v.Ratios ≠ [] then 1 else 0 := by
 unfold Z2
 rw [if_neg (show ¬ ¬ kindP v.Kind from fun x => x (.inr (.inr (.inr h))))]
 congr 1
 apply propext
 unfold formP intsK textK
 rw [h]
 constructor
 ·rintro (⟨_, a⟩ | ⟨_, a⟩ | ⟨_, a⟩ | ⟨a, _⟩)
  ·exact .inr (.inl a)
  ·exact .inl a
  ·exact .inr (.inr a)
  ·exact absurd rfl a
 ·rintro (a | a | a)
  ·exact .inr (.inl ⟨by omega, a⟩)
  ·exact .inl ⟨by omega, a⟩
  ·exact .inr (.inr (.inl ⟨by omega, a⟩))
theorem dirFault_eq (d : Nat) (l : List T_tag_Entry) (deep : Int) (hd : deep = 6 - (d : Int)) (h5 : d ≤ 5) (hz : Wg d l ≤ 8000000) : R_dirFault l deep = some (dE d l) := by
 unfold R_dirFault
 refine fix_ofG (fun d (a : List T_tag_Entry × Int) => some (dE d a.1)) (fun d a => a.2 = 6 - (d : Int) ∧ d ≤ 5 ∧ Wg d a.1 ≤ 8000000) (fun d => d) ?_ d (l, deep) ⟨hd, h5, hz⟩
 rintro next d ⟨l, deep⟩ ⟨hd, h5, hz⟩ ih
 simp only at hd hz
 show Y1 next l deep = some (dE d l)
 unfold Y1
 rw [cI, cI]
 cases d with
 | zero => rw [if_pos (by omega)]; rfl
 | succ d =>
  rw [if_neg (by omega)]
  unfold dE
  by_cases hl : 200 < l.length
  ·rw [if_pos (by omega), if_pos hl]
  rw [if_neg (by omega), if_neg hl]
  refine list_loop l _ (fun nx k hk => ?_) (fun nx => ?_)
  ·obtain ⟨hb, hzn⟩ := vB_of hz (List.getElem_mem hk)
   unfold Vz
   rw [cI, if_pos (by omega), Qq hk, Jg, cI, cI]
   by_cases h1 : l[k].Tag < 0
   ·rw [if_pos h1, if_pos (.inl h1)]
   by_cases h2 : 65535 < l[k].Tag
   ·rw [if_neg h1, if_pos h2, if_pos (.inr h2)]
   rw [if_neg h1, if_neg h2, if_neg (show ¬ (l[k].Tag < 0 ∨ 65535 < l[k].Tag) by omega), low_step hk (by omega)]
   congr 1
   unfold Uf
   have e3 : ∀ a b c g i j m o, Wv (k : Int) nx a b c g i j m o = nx ((k : Int) + 1) := fun a b c g i j m o => by
    unfold Wv; rw [Qs (by omega), Jg]
   simp only [e3]
   rw [cI]
   by_cases h13 : l[k].Value.Kind ≠ 13
   ·rw [if_pos h13, ValueFault_eq hb h13, Jg, cI]; simp only [if_pos h13]
   ·have h13' : l[k].Value.Kind = 13 := by simpa using h13
    rw [if_neg h13, cI, cI, cI]
    simp only [if_neg h13]
    rw [fields13 h13']
    by_cases a1 : l[k].Value.Text = []
    ·by_cases a2 : l[k].Value.Ints = []
     ·by_cases a3 : l[k].Value.Ratios = []
      ·have := ih d (l[k].Value.Entries, deep + 1) ⟨by show deep + 1 = _; omega, by omega, hzn⟩ (by omega)
       rw [if_neg (show ¬ (l[k].Value.Text ≠ []) by simpa using a1), if_neg (by rw [W5]; simpa using a2), if_neg (by rw [W5]; simpa using a3), Qs (by omega), Jg, this, Jg, cI]
       simp [a1, a2, a3]
      ·rw [if_neg (show ¬ (l[k].Value.Text ≠ []) by simpa using a1), if_neg (by rw [W5]; simpa using a2), if_pos ((W5 _).2 a3)]
       simp [a3]
     ·rw [if_neg (show ¬ (l[k].Value.Text ≠ []) by simpa using a1), if_pos ((W5 _).2 a2)]
      simp [a2]
    ·rw [if_pos a1]
     simp [a1]
  ·unfold Vz
   rw [cI, if_neg (by omega)]
def okV (v : T_tag_Value) : Prop := kindP v.Kind ∧ ¬ formP v
def okD : Nat → List T_tag_Entry → Prop
 | 0, _ => False
 | d + 1, l => l.length ≤ 200 ∧ ∀ e ∈ l, okV e.Value ∧ (e.Value.Kind = 13 → okD d e.Value.Entries)
theorem fields_ok {v : T_tag_Value} (h : Z2 v = 0) : okV v := by
 unfold Z2 at h
 split at h
 ·omega
 split at h
 ·omega
 rename_i h1 h2
 exact ⟨Classical.byContradiction h1, h2⟩
theorem dE_ok : ∀ {d : Nat} {l : List T_tag_Entry}, dE d l = 0 → okD d l := by
 intro d
 induction d with
 | zero => intro l h; unfold dE at h; omega
 | succ d ih =>
  intro l h
  unfold dE at h
  split at h
  ·omega
  rename_i hl
  refine ⟨by omega, fun e he => ?_⟩
  have := listE_zero h e he
  split at this
  ·rename_i h13
   refine ⟨?_, fun h => absurd h h13⟩
   unfold plainE at this
   split at this
   ·rename_i h1; exact absurd this h1
   ·rename_i h1; exact fields_ok (by simpa using h1)
  ·split at this
   ·rename_i h1; exact absurd this h1
   ·rename_i h1; exact ⟨fields_ok (by simpa using h1), fun _ => ih this⟩
theorem fix_listR {α ρ σ : Type} {F : (σ × Int → Option ρ) → σ × Int → Option ρ} (xs : List α) (f : σ → α → σ) (J : σ → Option ρ) (I : Nat → σ → Prop)
  (more : ∀ (next : σ × Int → Option ρ) (k : Nat) (s : σ) (hk : k < xs.length), I k s → F next (s, (k : Int)) = next (f s xs[k], (k : Int) + 1) ∧ I (k + 1) (f s xs[k]))
  (stop : ∀ (next : σ × Int → Option ρ) (s : σ), I xs.length s → F next (s, (xs.length : Int)) = J s) (s : σ) (hs : I 0 s) : V6 F (s, 0) = J (xs.foldl f s) := by
 have key : ∀ n k s, k ≤ xs.length → xs.length - k < n → I k s → V6 F (s, (k : Int)) = J ((xs.drop k).foldl f s) := by
  intro n
  induction n with
  | zero => intro k s _ h; omega
  | succ n ih =>
   intro k s hk h hI
   rcases Nat.lt_or_ge k xs.length with h1 | h1
   ·rw [Yr (f s xs[k], (k : Int) + 1) (fun next => (more next k s h1 hI).1), List.drop_eq_getElem_cons h1, List.foldl_cons]
    exact ih (k + 1) _ (by omega) (by omega) (more (fun _ => none) k s h1 hI).2
   ·have : k = xs.length := by omega
    subst this
    rw [List.drop_length]
    exact Xi fun next => stop next s hI
 have := key (xs.length + 1) 0 s (Nat.zero_le _) (by omega) hs
 simpa using this
theorem fold_flat {α : Type} (g : α → List UInt8) : ∀ (xs : List α) (a : List UInt8), xs.foldl (fun s x => s ++ g x) a = a ++ xs.flatMap g
 | [], a => by simp
 | x :: xs, a => by rw [List.foldl_cons, fold_flat g xs]; simp
noncomputable def ratS (big : Bool) (r : T_tag_Ratio) : List UInt8 := Vn big r.Num 4 ++ Vn big r.Den 4
noncomputable def octS (big : Bool) (v : T_tag_Value) : List UInt8 :=
 if v.Kind = 2 then v.Text ++ [0] else if v.Kind = 7 then v.Text else if v.Kind = 5 then v.Ratios.flatMap (ratS big) else v.Ints.flatMap fun n => Vn big n (W0 v.Kind)
def cntS (v : T_tag_Value) : Nat := if v.Kind = 2 then v.Text.length + 1 else if v.Kind = 7 then v.Text.length else if v.Kind = 5 then v.Ratios.length else if v.Kind = 13 then 1 else v.Ints.length
theorem flat_const {α : Type} {g : α → List UInt8} {w : Nat} (h : ∀ x, (g x).length = w) : ∀ xs : List α, (xs.flatMap g).length = xs.length * w
 | [] => by simp
 | x :: xs => by rw [List.flatMap_cons, List.length_append, h, flat_const h xs, List.length_cons, Nat.add_mul]; omega
theorem ratS_len (big : Bool) (r : T_tag_Ratio) : (ratS big r).length = 8 := by
 unfold ratS; rw [List.length_append, Yn _ _ (by omega), Yn _ _ (by omega)]
theorem octS_len (big : Bool) {v : T_tag_Value} (hv : okV v) (h13 : v.Kind ≠ 13) : (octS big v).length = cntS v * W0 v.Kind := by
 unfold octS cntS
 by_cases h2 : v.Kind = 2
 ·rw [if_pos h2, if_pos h2, List.length_append, h2]; simp [W0]
 rw [if_neg h2, if_neg h2]
 by_cases h7 : v.Kind = 7
 ·rw [if_pos h7, if_pos h7, h7]; simp [W0]
 rw [if_neg h7, if_neg h7]
 by_cases h5 : v.Kind = 5
 ·rw [if_pos h5, if_pos h5, h5, flat_const (ratS_len big)]; rfl
 rw [if_neg h5, if_neg h5, if_neg h13, flat_const (w := W0 v.Kind) (fun n => Yn _ _ (wideN_le _))]
theorem octS_le (big : Bool) (v : T_tag_Value) : (octS big v).length ≤ 1 + v.Text.length + 8 * v.Ints.length + 8 * v.Ratios.length := by
 unfold octS
 split
 ·rw [List.length_append, List.length_singleton]; omega
 split
 ·omega
 split
 ·rw [flat_const (ratS_len big)]; omega
 ·rw [flat_const (w := W0 v.Kind) (fun n => Yn _ _ (wideN_le _))]
  have := Nat.mul_le_mul_left v.Ints.length (wideN_le v.Kind)
  omega
theorem count_eq {v : T_tag_Value} (hb : vB v) : tag_count v = some (cntS v : Int) := by
 unfold tag_count cntS
 have := hb.1
 rw [cI, cI, cI, cI]
 by_cases h2 : v.Kind = 2
 ·rw [if_pos h2, if_pos h2, Qs (by omega), Jg]; rfl
 by_cases h7 : v.Kind = 7
 ·rw [if_neg h2, if_pos h7, if_neg h2, if_pos h7]
 by_cases h5 : v.Kind = 5
 ·rw [if_neg h2, if_neg h7, if_pos h5, if_neg h2, if_neg h7, if_pos h5]
 by_cases h13 : v.Kind = 13
 ·rw [if_neg h2, if_neg h7, if_neg h5, if_pos h13, if_neg h2, if_neg h7, if_neg h5, if_pos h13]; rfl
 rw [if_neg h2, if_neg h7, if_neg h5, if_neg h13, if_neg h2, if_neg h7, if_neg h5, if_neg h13]
theorem ok_parts {v : T_tag_Value} (hv : okV v) : (¬ intsK v.Kind → v.Ints = []) ∧ (¬ textK v.Kind → v.Text = []) ∧ (v.Kind ≠ 5 → v.Ratios = []) := by
 obtain ⟨_, hf⟩ := hv
 unfold formP at hf
 refine ⟨fun h => ?_, fun h => ?_, fun h => ?_⟩
 ·exact Classical.byContradiction fun e => hf (.inl ⟨h, e⟩)
 ·exact Classical.byContradiction fun e => hf (.inr (.inl ⟨h, e⟩))
 ·exact Classical.byContradiction fun e => hf (.inr (.inr (.inl ⟨h, e⟩)))
theorem R_octets_eq {big : Bool} {v : T_tag_Value} (hb : vB v) (hv : okV v) (h13 : v.Kind ≠ 13) : Yt big v = some (octS big v) := by
 have hb' := hb
 obtain ⟨b1, b2, b3⟩ := hb'
 obtain ⟨p1, p2, p3⟩ := ok_parts hv
 have j2 : ∀ a : List UInt8, a.length ≤ 199000000 → Ux big v a = some (a ++ v.Ratios.flatMap (ratS big)) := fun a ha => by
  unfold Ux
  rw [← fold_flat]
  refine fix_listR (F := fun next3 s => Z4 big v next3 s.1 s.2) v.Ratios (fun s r => s ++ ratS big r) some (fun k s => s.length ≤ a.length + 8 * k) (fun next k s hk hs => ?_) (fun next s hs => ?_) _ (by omega)
  ·refine ⟨?_, by show (s ++ _).length ≤ _; rw [List.length_append, ratS_len]; omega⟩
   show Z4 big v next s (k : Int) = _
   unfold Z4
   have l1 : (Vn big v.Ratios[k].Num 4).length = 4 := Yn _ _ (by omega)
   have l2 : (Vn big v.Ratios[k].Den 4).length = 4 := Yn _ _ (by omega)
   rw [cI, if_pos (by omega), Qq hk, Jg, R4, Jg, R4, Jg, Ua (by omega), Jg, Ua (by rw [List.length_append]; omega), Jg, Qs (by omega), Jg]
   rfl
  ·show Z4 big v next s (v.Ratios.length : Int) = _
   unfold Z4
   rw [cI, if_neg (by omega)]
 have j1 : ∀ a : List UInt8, a.length ≤ 16000000 → Uu big v a = some (a ++ (v.Ints.flatMap fun n => Vn big n (W0 v.Kind)) ++ v.Ratios.flatMap (ratS big)) := fun a ha => by
  unfold Uu
  have hloop := fix_listR (F := fun next4 s => Va big v next4 s.1 s.2) v.Ints (fun s n => s ++ Vn big n (W0 v.Kind)) (Ux big v) (fun k s => s.length ≤ a.length + 8 * k) (fun next k s hk hs => by
   have hw := wideN_le v.Kind
   have l1 : (Vn big v.Ints[k] (W0 v.Kind)).length = W0 v.Kind := Yn _ _ hw
   refine ⟨?_, by show (s ++ _).length ≤ _; rw [List.length_append, l1]; omega⟩
   show Va big v next s (k : Int) = _
   unfold Va
   rw [cI, if_pos (by omega), Qq hk, Jg, wide_eq, Jg, if_neg h13, num_R _ _ hw, Jg, Ua (by omega), Jg, Qs (by omega), Jg]) (fun next s hs => by
   show Va big v next s (v.Ints.length : Int) = _
   unfold Va
   rw [cI, if_neg (by omega)]) a (by omega)
  rw [hloop, fold_flat, j2]
  rw [List.length_append, flat_const (w := W0 v.Kind) (fun n => Yn _ _ (wideN_le _))]
  have := Nat.mul_le_mul_left v.Ints.length (wideN_le v.Kind)
  omega
 unfold Yt octS
 rw [cI]
 by_cases h2 : v.Kind = 2
 ·rw [if_pos h2, if_pos h2, Ua (by rw [List.length_singleton]; omega), Jg, j1 _ (by rw [List.length_append, List.length_singleton]; omega), p1 (by rw [h2]; unfold intsK; omega), p3 (by omega)]
  simp
 rw [if_neg h2, if_neg h2, j1 _ (by omega)]
 by_cases h7 : v.Kind = 7
 ·rw [if_pos h7, p1 (by rw [h7]; unfold intsK; omega), p3 (by omega)]
  simp
 rw [if_neg h7, p2 (by unfold textK; omega), List.nil_append]
 by_cases h5 : v.Kind = 5
 ·rw [if_pos h5, p1 (by rw [h5]; unfold intsK; omega)]; rfl
 ·rw [if_neg h5, p3 h5, List.flatMap_nil, List.append_nil]
theorem R_count_eq {v : T_tag_Value} (hb : vB v) (hv : okV v) : R_count v = some (cntS v : Int) := by
 unfold R_count
 rw [cI]
 by_cases h13 : v.Kind = 13
 ·rw [if_pos h13]; unfold cntS; rw [h13]; rfl
 ·rw [if_neg h13, R_octets_eq hb hv h13, Jg, wide_eq, Jg, if_neg h13, octS_len false hv h13]
  have hw : W0 v.Kind ≠ 0 := fun e => (wide_zero _ h13).1 (by rw [e]; rfl) hv.1
  have hle := octS_le false v
  rw [octS_len false hv h13] at hle
  have hb1 := hb.1; have hb2 := hb.2.1; have hb3 := hb.2.2
  have e : (((cntS v * W0 v.Kind : Nat) : Int)).tdiv (W0 v.Kind : Int) = (cntS v : Int) := by
   rw [Int.natCast_mul, Int.mul_tdiv_cancel _ (by omega)]
  have hc : cntS v ≤ cntS v * W0 v.Kind := Nat.le_mul_of_pos_right _ (by omega)
  unfold gQuo
  rw [if_neg (by omega), e, Qs (by omega), Jg]
end Go.M

/- Directories and files written, in plain Lean; the law TagWrites. Conditions: none. -/
namespace Go.M
open Go.Md Go.Pl
def Wk (n : Nat) : List UInt8 := List.replicate n 0
def ev (p : Nat) : Nat := p + p % 2
def pad (p : Nat) : List UInt8 := Wk (p % 2)
def put (s : List UInt8) (at_ : Nat) (b : List UInt8) : List UInt8 := s.take at_ ++ b ++ s.drop (at_ + b.length)
theorem Yg (n : Nat) : (Wk n).length = n := List.length_replicate
theorem pad_len (p : Nat) : (pad p).length = p % 2 := Yg _
theorem zer_add (a b : Nat) : Wk (a + b) = Wk a ++ Wk b := List.replicate_append_replicate.symm
theorem put_len {s : List UInt8} {a : Nat} {b : List UInt8} (h : a + b.length ≤ s.length) : (put s a b).length = s.length := by
 unfold put
 simp only [List.length_append, List.length_take, List.length_drop]; omega
theorem put_at (A B C b : List UInt8) (h : b.length = B.length) {a : Nat} (ha : a = A.length) : put (A ++ B ++ C) a b = A ++ b ++ C := by
 subst ha
 unfold put
 rw [h, List.append_assoc A B C, List.take_left' rfl, ← List.append_assoc A B C, List.drop_left' (by rw [List.length_append])]
theorem R_set_eq {big : Bool} {s : List UInt8} {a n : Int} {p k : Nat} {k' : Int} (ha : a = (p : Int)) (hk' : k' = (k : Int)) (hk : k ≤ 8) (h : p + k ≤ s.length) (hs : s.length ≤ 4611686018427387904) : Xu ⟨s, big⟩ a n k' = some ⟨put s p (Vn big n k), big⟩ := by
 subst ha hk'
 unfold Xu
 dsimp only
 have hl := Yn big n hk
 rw [gCut_to (by omega), Jg, num_R _ _ hk, Jg, Ua (by rw [List.length_take]; omega), Jg, Qs (by omega), Jg, Vq (by omega), Jg, Ua (by rw [List.length_append, List.length_take, List.length_drop]; omega), Jg]
 unfold put
 rw [hl, Int.toNat_natCast, show ((p : Int) + (k : Int)).toNat = p + k from by omega]
theorem R_add_eq {big : Bool} {s a : List UInt8} (hs : s.length + a.length ≤ 4611686018427387904) : Uh ⟨s, big⟩ a = some (((ev s.length : Nat) : Int), ⟨s ++ pad s.length ++ a, big⟩) := by
 unfold Uh Wd ev pad
 dsimp only
 rw [gRem_ok (by omega), Jg, cI]
 have e : ((s.length : Int)).tmod 2 = ((s.length % 2 : Nat) : Int) := by rw [Int.tmod_eq_emod_of_nonneg (by omega)]; omega
 by_cases h : s.length % 2 = 0
 ·rw [e, if_neg (by omega), h, Ua (by omega), Jg]
  simp [Wk]
 ·have h1 : s.length % 2 = 1 := by omega
  rw [e, if_pos (by omega), Ua (by rw [List.length_singleton]; omega), Jg, h1, Ua (by rw [List.length_append, List.length_singleton]; omega), Jg]
  simp [Wk]
noncomputable def Uz (big : Bool) (e : T_tag_Entry) : List UInt8 := Vn big e.Tag 2 ++ Vn big e.Value.Kind 2 ++ Vn big (cntS e.Value) 4
theorem hdr_len (big : Bool) (e : T_tag_Entry) : (Uz big e).length = 8 := by
 unfold Uz; rw [List.length_append, List.length_append, Yn _ _ (by omega), Yn _ _ (by omega), Yn _ _ (by omega)]
noncomputable def entF (G : List T_tag_Entry → Nat → List UInt8) (big : Bool) (e : T_tag_Entry) (q : Nat) : List UInt8 × List UInt8 :=
 if e.Value.Kind = 13 then (Vn big (ev q) 4, G e.Value.Entries q)
 else if (octS big e.Value).length ≤ 4 then (octS big e.Value ++ Wk (4 - (octS big e.Value).length), [])
 else (Vn big (ev q) 4, pad q ++ octS big e.Value)
theorem entF_len (G : List T_tag_Entry → Nat → List UInt8) (big : Bool) (e : T_tag_Entry) (q : Nat) : (entF G big e q).1.length = 4 := by
 unfold entF
 split
 ·exact Yn _ _ (by omega)
 split
 ·rw [List.length_append, Yg]; omega
 ·exact Yn _ _ (by omega)
noncomputable def bods (G : List T_tag_Entry → Nat → List UInt8) (big : Bool) : List T_tag_Entry → Nat → List UInt8 × List UInt8
 | [], _ => ([], [])
 | e :: l, q => (Uz big e ++ (entF G big e q).1 ++ (bods G big l (q + (entF G big e q).2.length)).1, (entF G big e q).2 ++ (bods G big l (q + (entF G big e q).2.length)).2)
theorem bods_len (G : List T_tag_Entry → Nat → List UInt8) (big : Bool) : ∀ (l : List T_tag_Entry) (q : Nat), (bods G big l q).1.length = 12 * l.length
 | [], _ => rfl
 | e :: l, q => by
  unfold bods
  rw [List.length_append, List.length_append, hdr_len, entF_len, bods_len G big l, List.length_cons]; omega
noncomputable def dirB (G : List T_tag_Entry → Nat → List UInt8) (big : Bool) (l : List T_tag_Entry) (p : Nat) : List UInt8 :=
 pad p ++ Vn big l.length 2 ++ (bods G big l (ev p + 2 + 12 * l.length + 4)).1 ++ Wk 4 ++ (bods G big l (ev p + 2 + 12 * l.length + 4)).2
noncomputable def Wp : Nat → Bool → List T_tag_Entry → Nat → List UInt8
 | 0, _ => fun _ _ => []
 | d + 1, big => dirB (Wp d big) big
theorem dirB_len (G : List T_tag_Entry → Nat → List UInt8) (big : Bool) (l : List T_tag_Entry) (p : Nat) : p + (dirB G big l p).length = ev p + 2 + 12 * l.length + 4 + (bods G big l (ev p + 2 + 12 * l.length + 4)).2.length := by
 unfold dirB ev
 simp only [List.length_append, pad_len, Yn _ _ (show 2 ≤ 8 by omega), bods_len, Yg]; omega
theorem dirS_le (big : Bool) : ∀ (d : Nat) (l : List T_tag_Entry) (p : Nat), (Wp d big l p).length ≤ 8 + 32 * Wg d l := by
 intro d
 induction d with
 | zero => intro l p; exact Nat.zero_le _
 | succ d ih =>
  intro l p
  have hb : ∀ (l : List T_tag_Entry) (q : Nat), (bods (Wp d big) big l q).2.length + 12 * l.length ≤ 32 * Wg (d + 1) l := by
   intro l
   induction l with
   | nil => intro q; exact Nat.zero_le _
   | cons e l ih2 =>
    intro q
    unfold bods
    rw [List.length_append, List.length_cons, V9]
    have h1 := ih2 (q + (entF (Wp d big) big e q).2.length)
    have h2 : (entF (Wp d big) big e q).2.length + 12 ≤ 32 * szE d e := by
     unfold entF szE
     split
     ·have := ih e.Value.Entries q; simp only; omega
     split
     ·simp only [List.length_nil]; omega
     ·have := octS_le big e.Value
      simp only [List.length_append, pad_len]; omega
    omega
  have h1 := dirB_len (Wp d big) big l p
  have h2 := hb l (ev p + 2 + 12 * l.length + 4)
  show (dirB (Wp d big) big l p).length ≤ _
  have h3 : ev p ≤ p + 1 := by unfold ev; omega
  omega
end Go.M

/- Directories and files written by both, in plain Lean. Conditions: none. -/
namespace Go.M
open Go.Md Go.Pl
theorem zer_mul (n : Nat) : Wk (12 * (n + 1)) = Wk 2 ++ Wk 2 ++ Wk 4 ++ Wk 4 ++ Wk (12 * n) := by
 rw [← zer_add, ← zer_add, ← zer_add, ← zer_add]; congr 1; omega
theorem spec_loop {big : Bool} {l : List T_tag_Entry} (hl : l.length ≤ 200) (hv : ∀ e ∈ l, okV e.Value ∧ vB e.Value) {G : List T_tag_Entry → Nat → List UInt8} {self : T_tintref2_written × List T_tag_Entry → Option (Int × T_tintref2_written)}
  (hself : ∀ e ∈ l, e.Value.Kind = 13 → ∀ s : List UInt8, s.length + (G e.Value.Entries s.length).length ≤ 1099511627776 → self (⟨s, big⟩, e.Value.Entries) = some (((ev s.length : Nat) : Int), ⟨s ++ G e.Value.Entries s.length, big⟩))
  {t17 : Int × T_tintref2_written} {at_ : Nat} (ht : t17.1 = (at_ : Int)) :
  ∀ (l2 : List T_tag_Entry) (i : Nat) (X Y : List UInt8), i + l2.length = l.length → l.drop i = l2 → X.length = at_ + 2 + 12 * i → X.length + 12 * l2.length + 4 + Y.length + (bods G big l2 (X.length + 12 * l2.length + 4 + Y.length)).2.length ≤ 1099511627776 →
   V6 (fun next1 a => Xv l self t17 next1 a.1 a.2.1 a.2.2) ((i : Int), X ++ Wk (12 * l2.length) ++ Wk 4 ++ Y, big) = some (t17.1, ⟨X ++ (bods G big l2 (X.length + 12 * l2.length + 4 + Y.length)).1 ++ Wk 4 ++ Y ++ (bods G big l2 (X.length + 12 * l2.length + 4 + Y.length)).2, big⟩) := by
 intro l2
 induction l2 with
 | nil =>
  intro i X Y hi _ hX hM
  refine Xi fun next => ?_
  show Xv l self t17 next (i : Int) _ big = _
  unfold Xv
  rw [cI, if_neg (by rw [List.length_nil] at hi; omega)]
  unfold bods
  simp [Wk]
 | cons e l2 ih =>
  intro i X Y hi hd hX hM
  have hlt : i < l.length := by rw [List.length_cons] at hi; omega
  have he : l[i] = e := by have := List.drop_eq_getElem_cons hlt; rw [hd] at this; injection this with h1 h2; exact h1.symm
  have hd' : l.drop (i + 1) = l2 := by have := List.drop_eq_getElem_cons hlt; rw [hd] at this; injection this with h1 h2; exact h2.symm
  have hmem : e ∈ l := he ▸ List.getElem_mem hlt
  obtain ⟨hok, hvb⟩ := hv e hmem
  generalize hp : X.length + 12 * (e :: l2).length + 4 + Y.length = p at hM ⊢
  rw [List.length_cons] at hp hi ⊢
  unfold bods at hM ⊢
  simp only at hM ⊢
  generalize hF : entF G big e p = F at hM ⊢
  obtain ⟨f, b⟩ := F
  have hf4 : f.length = 4 := by have := entF_len G big e p; rw [hF] at this; exact this
  simp only at hM ⊢
  rw [List.length_append] at hM
  have n2 : ∀ n, (Vn big n 2).length = 2 := fun n => Yn _ _ (by omega)
  have n4 : ∀ n, (Vn big n 4).length = 4 := fun n => Yn _ _ (by omega)
  generalize hR : Wk (12 * l2.length) ++ Wk 4 ++ Y = R
  have hRl : R.length = 12 * l2.length + 4 + Y.length := by rw [← hR]; simp only [List.length_append, Yg]
  have s0 : X ++ Wk (12 * (l2.length + 1)) ++ Wk 4 ++ Y = X ++ Wk 2 ++ (Wk 2 ++ Wk 4 ++ Wk 4 ++ R) := by
   rw [zer_mul, ← hR]; simp only [List.append_assoc]
  have e1 : put (X ++ Wk 2 ++ (Wk 2 ++ Wk 4 ++ Wk 4 ++ R)) X.length (Vn big e.Tag 2) = (X ++ Vn big e.Tag 2) ++ Wk 2 ++ (Wk 4 ++ Wk 4 ++ R) := by
   rw [put_at _ _ _ _ (by rw [n2, Yg]) rfl]; simp only [List.append_assoc]
  have e2 : put ((X ++ Vn big e.Tag 2) ++ Wk 2 ++ (Wk 4 ++ Wk 4 ++ R)) (X.length + 2) (Vn big e.Value.Kind 2) = (X ++ Vn big e.Tag 2 ++ Vn big e.Value.Kind 2) ++ Wk 4 ++ (Wk 4 ++ R) := by
   rw [put_at _ _ _ _ (by rw [n2, Yg]) (by rw [List.length_append, n2])]; simp only [List.append_assoc]
  have e3 : put ((X ++ Vn big e.Tag 2 ++ Vn big e.Value.Kind 2) ++ Wk 4 ++ (Wk 4 ++ R)) (X.length + 4) (Vn big (cntS e.Value) 4) = (X ++ Uz big e) ++ Wk 4 ++ R := by
   rw [put_at _ _ _ _ (by rw [n4, Yg]) (by rw [List.length_append, List.length_append, n2, n2])]
   unfold Uz; simp only [List.append_assoc]
  have hS : ((X ++ Uz big e) ++ Wk 4 ++ R).length = p := by
   simp only [List.length_append, hdr_len, Yg, hRl]; omega
  have hpos : (at_ : Int) + 2 + 12 * (i : Int) + 8 = ((X ++ Uz big e).length : Int) := by
   rw [List.length_append, hdr_len]; omega
  have hround : ∀ next : Int × List UInt8 × Bool → Option (Int × T_tintref2_written), Xv l self t17 next (i : Int) (X ++ Wk (12 * (l2.length + 1)) ++ Wk 4 ++ Y) big = next (((i + 1 : Nat) : Int), (X ++ Uz big e ++ f) ++ Wk (12 * l2.length) ++ Wk 4 ++ (Y ++ b), big) := fun next => by
   unfold Xv
   have e5 : ∀ m a, Zc (i : Int) next m a = next (((i + 1 : Nat) : Int), m, a) := fun m a => by
    unfold Zc; rw [Qs (by omega), Jg]; rfl
   rw [cI, if_pos (by omega), Qq hlt, Jg, he, ht, Qs (by omega), Jg, Qs (by omega), Jg, Qs (by omega), Jg, s0]
   rw [R_set_eq (p := X.length) (k := 2) (k' := 2) (by omega) rfl (by omega) (by simp only [List.length_append, Yg]; omega) (by simp only [List.length_append, Yg, hRl]; omega), Jg, e1, Qs (by omega), Jg]
   rw [R_set_eq (p := X.length + 2) (k := 2) (k' := 2) (by omega) rfl (by omega) (by simp only [List.length_append, Yg, n2]; omega) (by simp only [List.length_append, Yg, hRl, n2]; omega), Jg, e2, Qs (by omega), Jg, R_count_eq hvb hok, Jg]
   rw [R_set_eq (p := X.length + 4) (k := 4) (k' := 4) (by omega) rfl (by omega) (by simp only [List.length_append, Yg, n2]; omega) (by simp only [List.length_append, Yg, hRl, n2]; omega), Jg, e3, cI]
   unfold entF at hF
   by_cases h13 : e.Value.Kind = 13
   ·rw [if_pos h13] at hF ⊢
    obtain ⟨hF1, hF2⟩ := Prod.mk.inj hF
    rw [Qs (by omega), Jg, hself e hmem h13 ((X ++ Uz big e) ++ Wk 4 ++ R) (by rw [hS, hF2]; omega), Jg]
    show J7 (Xu ⟨(X ++ Uz big e) ++ Wk 4 ++ R ++ G e.Value.Entries ((X ++ Uz big e) ++ Wk 4 ++ R).length, big⟩ _ _ 4) _ = _
    rw [hS, hF2, R_set_eq (p := (X ++ Uz big e).length) (k := 4) (k' := 4) (by omega) rfl (by omega) (by simp only [List.length_append, Yg]; omega) (by rw [List.length_append, hS]; omega), Jg, e5, hF1]
    have : (X ++ Uz big e) ++ Wk 4 ++ R ++ b = (X ++ Uz big e) ++ Wk 4 ++ (R ++ b) := by simp only [List.append_assoc]
    rw [this, put_at _ _ _ _ (by rw [hf4, Yg]) rfl, ← hR]
    simp only [List.append_assoc]
   ·rw [if_neg h13] at hF ⊢
    dsimp only
    rw [R_octets_eq hvb hok h13, Jg, cI]
    by_cases ho : (octS big e.Value).length ≤ 4
    ·rw [if_pos ho] at hF
     obtain ⟨hF1, hF2⟩ := Prod.mk.inj hF
     have hpn : ((at_ : Int) + 2 + 12 * (i : Int) + 8).toNat = (X ++ Uz big e).length := by omega
     have hp2 : ((at_ : Int) + 2 + 12 * (i : Int) + 8 + ((octS big e.Value).length : Int)).toNat = (X ++ Uz big e).length + (octS big e.Value).length := by omega
     have hXl : (X ++ Uz big e).length = X.length + 8 := by rw [List.length_append, hdr_len]
     rw [if_neg (by omega), Qs (by omega), Jg, gCut_to (by rw [hS]; omega), Jg, hpn]
     rw [Ua (by rw [List.length_take]; omega), Jg, Jg, Qs (by omega), Jg, Vq (by rw [hS]; omega), Jg, hp2]
     rw [Ua (by simp only [List.length_append, List.length_take, List.length_drop, hS]; omega), Jg, e5]
     have hput : List.take (X ++ Uz big e).length ((X ++ Uz big e) ++ Wk 4 ++ R) ++ octS big e.Value ++ List.drop ((X ++ Uz big e).length + (octS big e.Value).length) ((X ++ Uz big e) ++ Wk 4 ++ R) = put ((X ++ Uz big e) ++ Wk 4 ++ R) (X ++ Uz big e).length (octS big e.Value) := rfl
     have hz : Wk 4 = Wk (octS big e.Value).length ++ Wk (4 - (octS big e.Value).length) := by rw [← zer_add]; congr 1; omega
     have h1 : (X ++ Uz big e) ++ Wk 4 ++ R = (X ++ Uz big e) ++ Wk (octS big e.Value).length ++ (Wk (4 - (octS big e.Value).length) ++ R) := by
      rw [hz]
      simp only [List.append_assoc]
     rw [hput, h1, put_at _ _ _ _ (by rw [Yg]) rfl, ← hF1, ← hF2, ← hR]
     simp only [List.append_assoc, List.append_nil]
    ·rw [if_neg ho] at hF
     obtain ⟨hF1, hF2⟩ := Prod.mk.inj hF
     have hbl : b.length = p % 2 + (octS big e.Value).length := by rw [← hF2, List.length_append, pad_len]
     rw [if_pos (by omega), Qs (by omega), Jg, R_add_eq (by rw [hS]; omega), Jg]
     dsimp only
     rw [hS, R_set_eq (p := (X ++ Uz big e).length) (k := 4) (k' := 4) (by omega) rfl (by omega) (by simp only [List.length_append, Yg]; omega) (by simp only [List.length_append, pad_len]; rw [← List.length_append, ← List.length_append, ← List.length_append, hS]; omega), Jg, e5]
     have : (X ++ Uz big e) ++ Wk 4 ++ R ++ pad p ++ octS big e.Value = (X ++ Uz big e) ++ Wk 4 ++ (R ++ pad p ++ octS big e.Value) := by simp only [List.append_assoc]
     rw [this, put_at _ _ _ _ (by rw [n4, Yg]) rfl, ← hF1, ← hF2, ← hR]
     simp only [List.append_assoc]
  rw [Yr _ hround]
  have hq : (X ++ Uz big e ++ f).length + 12 * l2.length + 4 + (Y ++ b).length = p + b.length := by
   simp only [List.length_append, hdr_len, hf4]; omega
  have := ih (i + 1) (X ++ Uz big e ++ f) (Y ++ b) (by omega) hd' (by simp only [List.length_append, hdr_len, hf4]; omega) (by rw [hq]; omega)
  rw [this, hq]
  simp only [List.append_assoc]
end Go.M

/- Files written and checked; the law TagWrites, in plain Lean. Conditions: none. -/
namespace Go.M
open Go.Md Go.Pl
theorem rep_zero (n : Nat) : (List.replicate n ([0] : List UInt8)).flatten = Wk n := by
 unfold Wk
 induction n with
 | zero => rfl
 | succ n ih => rw [List.replicate_succ, List.flatten_cons, ih, List.replicate_succ]; rfl
theorem R_dir_eq (d : Nat) (big : Bool) (s : List UInt8) (l : List T_tag_Entry) (hok : okD d l) (hz : Wg d l ≤ 8000000) (hM : s.length + (Wp d big l s.length).length ≤ 1099511627776) :
  Jac ⟨s, big⟩ l = some (((ev s.length : Nat) : Int), ⟨s ++ Wp d big l s.length, big⟩) := by
 unfold Jac
 have := fix_ofG (F := fun (self : (T_tintref2_written × List T_tag_Entry) → Option (Int × T_tintref2_written)) (s : T_tintref2_written × List T_tag_Entry) => X5 self s.1 s.2)
  (fun (g : Nat × Bool × List UInt8) (a : T_tintref2_written × List T_tag_Entry) => some (((ev g.2.2.length : Nat) : Int), ⟨g.2.2 ++ Wp g.1 g.2.1 a.2 g.2.2.length, g.2.1⟩))
  (fun g a => a.1 = ⟨g.2.2, g.2.1⟩ ∧ okD g.1 a.2 ∧ Wg g.1 a.2 ≤ 8000000 ∧ g.2.2.length + (Wp g.1 g.2.1 a.2 g.2.2.length).length ≤ 1099511627776) (fun g => g.1) ?_ (d, big, s) (⟨s, big⟩, l) ⟨rfl, hok, hz, hM⟩
 ·exact this
 rintro next ⟨d, big, s⟩ ⟨w, l⟩ ⟨hw, hok, hz, hM⟩ ih
 simp only at hw hok hz hM ih ⊢
 subst hw
 cases d with
 | zero => exact hok.elim
 | succ d =>
  obtain ⟨hl, hall⟩ := hok
  have hM' := dirB_len (Wp d big) big l s.length
  have hMM : s.length + (dirB (Wp d big) big l s.length).length ≤ 1099511627776 := hM
  have hev : ev s.length = (s ++ pad s.length).length := by rw [List.length_append, pad_len]; rfl
  unfold X5
  have ht : (2 + 12 * (l.length : Int) + 4).toNat = 2 + 12 * l.length + 4 := by omega
  rw [Qs (by omega), Jg, Qs (by omega), Jg, Qs (by omega), Jg]
  have hrep : gRep [0] (2 + 12 * (l.length : Int) + 4) = some (Wk (2 + 12 * l.length + 4)) := by
   unfold gRep
   rw [if_pos (by rw [List.length_singleton]; omega), ht, rep_zero]
  rw [hrep, Jg, R_add_eq (by rw [Yg]; omega), Jg]
  have hsp : s ++ pad s.length ++ Wk (2 + 12 * l.length + 4) = (s ++ pad s.length) ++ Wk 2 ++ (Wk (12 * l.length) ++ Wk 4) := by
   rw [zer_add, zer_add]; simp only [List.append_assoc]
  show J7 (Xu ⟨s ++ pad s.length ++ Wk (2 + 12 * l.length + 4), big⟩ _ _ 2) _ = _
  rw [R_set_eq (p := ev s.length) (k := 2) (k' := 2) rfl rfl (by omega) (by rw [List.length_append, ← hev, Yg]; omega) (by rw [List.length_append, ← hev, Yg]; omega), Jg, hsp, put_at _ _ _ _ (by rw [Yn _ _ (by omega), Yg]) hev]
  have hX : (s ++ pad s.length ++ Vn big l.length 2).length = ev s.length + 2 := by rw [List.length_append, ← hev, Yn _ _ (by omega)]
  have := spec_loop (big := big) hl (fun e he => ⟨(hall e he).1, (vB_of hz he).1⟩) (G := Wp d big) (self := next) (fun e he h13 s' hs' => ih (d, big, s') (⟨s', big⟩, e.Value.Entries) ⟨rfl, (hall e he).2 h13, (vB_of hz he).2, hs'⟩ (by simp))
   (t17 := (((ev s.length : Nat) : Int), ⟨s ++ pad s.length ++ Wk (2 + 12 * l.length + 4), big⟩)) (at_ := ev s.length) rfl l 0 (s ++ pad s.length ++ Vn big l.length 2) [] (by omega) rfl (by rw [hX]) (by rw [hX, List.length_nil, Nat.add_zero]; omega)
  rw [List.append_nil] at this
  have hst : s ++ pad s.length ++ Vn big l.length 2 ++ (Wk (12 * l.length) ++ Wk 4) = s ++ pad s.length ++ Vn big l.length 2 ++ Wk (12 * l.length) ++ Wk 4 := by simp only [List.append_assoc]
  rw [hst, ← hsp]
  refine this.trans ?_
  rw [hX, List.length_nil, Nat.add_zero, List.append_nil]
  show some _ = some (_, (⟨s ++ dirB (Wp d big) big l s.length, big⟩ : T_tintref2_written))
  unfold dirB
  simp only [List.append_assoc]
theorem even_eq (p : Nat) (hp : p ≤ 4611686018427387904) : tag_even (p : Int) = some ((ev p : Nat) : Int) := by
 unfold tag_even ev
 have e : ((p : Int)).tmod 2 = ((p % 2 : Nat) : Int) := by rw [Int.tmod_eq_emod_of_nonneg (by omega)]; omega
 rw [gRem_ok (by omega), Jg, e, Qs (by omega), Jg]; rfl
theorem octetsOf_eq {v : T_tag_Value} (hb : vB v) (hok : okV v) (h13 : v.Kind ≠ 13) (big : Bool) : Wn v = some ((octS big v).length : Int) := by
 unfold Wn
 have h1 := octS_le big v
 have h2 := octS_len big hok h13
 obtain ⟨b1, b2, b3⟩ := hb
 rw [count_eq ⟨b1, b2, b3⟩, Jg, sizeOf_eq, Jg, if_neg h13, ← Int.natCast_mul, ← h2, Qs (by omega), Jg]
theorem dirEnd_eq (big : Bool) (d : Nat) (l : List T_tag_Entry) (p : Nat) (hok : okD d l) (hz : Wg d l ≤ 8000000) (hM : p + (Wp d big l p).length ≤ 1099511627776) :
  tag_dirEnd l (p : Int) = some (((p + (Wp d big l p).length : Nat)) : Int) := by
 unfold tag_dirEnd
 have := fix_ofG (F := fun (self : (List T_tag_Entry × Int) → Option Int) (s : List T_tag_Entry × Int) => Y3 self s.1 s.2)
  (fun (g : Nat × Nat) (a : List T_tag_Entry × Int) => some (((g.2 + (Wp g.1 big a.1 g.2).length : Nat)) : Int))
  (fun g a => a.2 = (g.2 : Int) ∧ okD g.1 a.1 ∧ Wg g.1 a.1 ≤ 8000000 ∧ g.2 + (Wp g.1 big a.1 g.2).length ≤ 1099511627776) (fun g => g.1) ?_ (d, p) (l, (p : Int)) ⟨rfl, hok, hz, hM⟩
 ·exact this
 rintro next ⟨d, p⟩ ⟨l, a⟩ ⟨hw, hok, hz, hM⟩ ih
 simp only at hw hok hz hM ih ⊢
 subst hw
 cases d with
 | zero => exact hok.elim
 | succ d =>
  obtain ⟨hl, hall⟩ := hok
  have hM' := dirB_len (Wp d big) big l p
  have hMM : p + (dirB (Wp d big) big l p).length ≤ 1099511627776 := hM
  unfold Y3
  rw [even_eq p (by omega), Jg, Qs (by omega), Jg, Qs (by omega), Jg, Qs (by omega), Jg, Qs (by omega), Jg]
  have key : ∀ (l2 : List T_tag_Entry) (i q : Nat), i + l2.length = l.length → l.drop i = l2 → q + (bods (Wp d big) big l2 q).2.length ≤ 1099511627776 → V6 (fun next1 s => Yo l next next1 s.1 s.2) ((q : Int), (i : Int)) = some (((q + (bods (Wp d big) big l2 q).2.length : Nat)) : Int) := by
   intro l2
   induction l2 with
   | nil =>
    intro i q hi _ _
    refine Xi fun nx => ?_
    show Yo l next nx (q : Int) (i : Int) = _
    unfold Yo
    rw [cI, if_neg (by rw [List.length_nil] at hi; omega)]
    rfl
   | cons e l2 ih2 =>
    intro i q hi hd hq
    have hlt : i < l.length := by rw [List.length_cons] at hi; omega
    have he : l[i] = e := by have := List.drop_eq_getElem_cons hlt; rw [hd] at this; injection this with h1 h2; exact h1.symm
    have hd' : l.drop (i + 1) = l2 := by have := List.drop_eq_getElem_cons hlt; rw [hd] at this; injection this with h1 h2; exact h2.symm
    have hmem : e ∈ l := he ▸ List.getElem_mem hlt
    have hvb := (vB_of hz hmem).1
    have hok := (hall e hmem).1
    rw [List.length_cons] at hi
    unfold bods at hq ⊢
    simp only at hq ⊢
    generalize hF : entF (Wp d big) big e q = F at hq ⊢
    obtain ⟨f, b⟩ := F
    simp only at hq ⊢
    rw [List.length_append] at hq ⊢
    have hround : ∀ nx : Int × Int → Option Int, Yo l next nx (q : Int) (i : Int) = nx (((q + b.length : Nat) : Int), ((i + 1 : Nat) : Int)) := fun nx => by
     unfold Yo
     have e2 : ∀ x, V2 (i : Int) nx x = nx (x, ((i + 1 : Nat) : Int)) := fun x => by
      unfold V2; rw [Qs (by omega), Jg]; rfl
     rw [cI, if_pos (by omega), Qq hlt, Jg, he, cI]
     unfold entF at hF
     by_cases h13 : e.Value.Kind = 13
     ·rw [if_pos h13] at hF ⊢
      obtain ⟨_, hF2⟩ := Prod.mk.inj hF
      have := ih (d, q) (e.Value.Entries, (q : Int)) ⟨rfl, (hall e hmem).2 h13, (vB_of hz hmem).2, by show q + (Wp d big e.Value.Entries q).length ≤ _; rw [hF2]; omega⟩ (by simp)
      rw [this, Jg, e2]
      show nx (((q + (Wp d big e.Value.Entries q).length : Nat) : Int), _) = _
      rw [hF2]
     ·rw [if_neg h13] at hF ⊢
      rw [octetsOf_eq hvb hok h13 big, Jg, cI, e2]
      by_cases ho : (octS big e.Value).length ≤ 4
      ·rw [if_pos ho] at hF
       obtain ⟨_, hF2⟩ := Prod.mk.inj hF
       rw [if_neg (by omega), ← hF2]; rfl
      ·rw [if_neg ho] at hF
       obtain ⟨_, hF2⟩ := Prod.mk.inj hF
       have hbl : b.length = q % 2 + (octS big e.Value).length := by rw [← hF2, List.length_append, pad_len]
       rw [if_pos (by omega), even_eq q (by omega), Jg, Jg, Qs (by unfold ev; omega), Jg, e2, hbl]
       congr 2
       unfold ev; omega
    rw [Yr _ hround, ih2 (i + 1) (q + b.length) (by omega) hd' (by omega)]
    congr 2
    omega
  have := key l 0 (ev p + 2 + 12 * l.length + 4) (by omega) rfl (by omega)
  have e0 : ((ev p : Nat) : Int) + 2 + 12 * (l.length : Int) + 4 = ((ev p + 2 + 12 * l.length + 4 : Nat) : Int) := by omega
  rw [e0]
  refine this.trans ?_
  rw [← hM']
  rfl
noncomputable def filS (big : Bool) : List (List T_tag_Entry) → List UInt8 → Nat → List UInt8
 | [], s, _ => s
 | l :: ls, s, link => filS big ls (put (s ++ Wp 5 big l s.length) link (Vn big ((ev s.length : Nat) : Int) 4)) (ev s.length + 2 + 12 * l.length)
noncomputable def lenF (big : Bool) : List (List T_tag_Entry) → Nat → Nat
 | [], p => p
 | l :: ls, p => lenF big ls (p + (Wp 5 big l p).length)
def szL : List (List T_tag_Entry) → Nat
 | [] => 0
 | l :: ls => 8 + 32 * Wg 5 l + szL ls
def dirsOk (ls : List (List T_tag_Entry)) : Prop := ∀ l ∈ ls, okD 5 l ∧ Wg 5 l ≤ 8000000
theorem dir5_len {big : Bool} {l : List T_tag_Entry} {p : Nat} : ev p + 2 + 12 * l.length + 4 ≤ p + (Wp 5 big l p).length := by
 have := dirB_len (Wp 4 big) big l p
 show _ ≤ p + (dirB (Wp 4 big) big l p).length
 omega
theorem filS_len (big : Bool) : ∀ (ls : List (List T_tag_Entry)) (s : List UInt8) (link : Nat), link + 4 ≤ s.length → (filS big ls s link).length = lenF big ls s.length
 | [], _, _, _ => rfl
 | l :: ls, s, link, h => by
  unfold filS lenF
  have h5 := dir5_len (big := big) (l := l) (p := s.length)
  have hp : (put (s ++ Wp 5 big l s.length) link (Vn big ((ev s.length : Nat) : Int) 4)).length = s.length + (Wp 5 big l s.length).length := by
   rw [put_len (by rw [Yn _ _ (by omega), List.length_append]; omega), List.length_append]
  rw [filS_len big ls _ _ (by rw [hp]; omega), hp]
noncomputable def headS (big : Bool) : List UInt8 := (if big then [77, 77] else [73, 73]) ++ Vn big 42 2 ++ Wk 4
theorem headS_len (big : Bool) : (headS big).length = 8 := by
 unfold headS
 rw [List.length_append, List.length_append, Yn _ _ (by omega), Yg]
 cases big <;> rfl
noncomputable def octF (f : T_tag_File) : List UInt8 := filS f.Big f.Dirs (headS f.Big) 4
theorem octF_len (f : T_tag_File) : (octF f).length = lenF f.Big f.Dirs 8 := by
 unfold octF; rw [filS_len _ _ _ _ (by rw [headS_len]; omega), headS_len]
theorem size_eq {f : T_tag_File} (hok : dirsOk f.Dirs) (hn : f.Dirs.length ≤ 20) (hsz : szL f.Dirs ≤ 274877906944) : tag_size f = some ((octF f).length : Int) := by
 rw [octF_len]
 unfold tag_size
 have key : ∀ (ls : List (List T_tag_Entry)) (i p : Nat), i + ls.length = f.Dirs.length → f.Dirs.drop i = ls → p + szL ls ≤ 549755813888 → V6 (fun next1 s => Z5 f next1 s.1 s.2) ((p : Int), (i : Int)) = some (lenF f.Big ls p : Int) := by
  intro ls
  induction ls with
  | nil =>
   intro i p hi _ _
   rw [List.length_nil] at hi
   refine Xi fun next => ?_
   show Z5 f next (p : Int) (i : Int) = _
   unfold Z5
   rw [cI, if_neg (by omega)]; rfl
  | cons l ls ih =>
   intro i p hi hd hs
   rw [List.length_cons] at hi
   have hlt : i < f.Dirs.length := by omega
   have he : f.Dirs[i] = l := by have := List.drop_eq_getElem_cons hlt; rw [hd] at this; injection this with h1 h2; exact h1.symm
   have hd' : f.Dirs.drop (i + 1) = ls := by have := List.drop_eq_getElem_cons hlt; rw [hd] at this; injection this with h1 h2; exact h2.symm
   obtain ⟨o1, o2⟩ := hok l (he ▸ List.getElem_mem hlt)
   unfold szL at hs
   have hle := dirS_le f.Big 5 l p
   refine Eq.trans (Yr (((p + (Wp 5 f.Big l p).length : Nat) : Int), ((i + 1 : Nat) : Int)) fun next => ?_) (ih (i + 1) (p + (Wp 5 f.Big l p).length) (by omega) hd' (by omega))
   show Z5 f next (p : Int) (i : Int) = _
   unfold Z5
   rw [cI, if_pos (by omega), Qq hlt, Jg, he, dirEnd_eq f.Big 5 l p o1 o2 (by omega), Jg, Qs (by omega), Jg]
   rfl
 exact key f.Dirs 0 8 (by omega) rfl (by omega)
noncomputable def Ww : List (List T_tag_Entry) → Int
 | [] => 0
 | l :: ls => if dE 5 l ≠ 0 then dE 5 l else Ww ls
theorem firstD_ok : ∀ {ls : List (List T_tag_Entry)}, Ww ls = 0 → ∀ l ∈ ls, dE 5 l = 0
 | [], _, l, hl => by cases hl
 | x :: ls, h, l, hl => by
  unfold Ww at h
  split at h
  ·rename_i h1; exact absurd h h1
  ·rename_i h1
   rcases List.mem_cons.1 hl with h' | h'
   ·subst h'; simpa using h1
   ·exact firstD_ok h l h'
theorem scan_dirs {F : (Int → Option Int) → Int → Option Int} (ls : List (List T_tag_Entry)) (o : Option Int) (more : ∀ (next : Int → Option Int) (k : Nat) (hk : k < ls.length), F next (k : Int) = if dE 5 ls[k] ≠ 0 then some (dE 5 ls[k]) else next ((k : Int) + 1)) (stop : Ww ls = 0 → ∀ next, F next (ls.length : Int) = o) :
  V6 F 0 = if Ww ls ≠ 0 then some (Ww ls) else o := by
 have key : ∀ m i : Nat, i + m = ls.length → (Ww ls = Ww (ls.drop i)) → V6 F (i : Int) = if Ww ls ≠ 0 then some (Ww ls) else o := by
  intro m
  induction m with
  | zero =>
   intro i hi hf
   have : i = ls.length := by omega
   subst this
   rw [List.drop_length] at hf
   have h0 : Ww ls = 0 := hf
   rw [if_neg (by simpa using h0)]
   exact Xi (stop h0)
  | succ m ih =>
   intro i hi hf
   have hlt : i < ls.length := by omega
   rw [List.drop_eq_getElem_cons hlt] at hf
   unfold Ww at hf
   by_cases h : dE 5 ls[i] ≠ 0
   ·rw [if_pos h] at hf
    have : V6 F (i : Int) = some (dE 5 ls[i]) := Xi fun next => by rw [more next i hlt, if_pos h]
    have hf' : Ww ls = dE 5 ls[i] := by unfold Ww; exact hf
    rw [this, hf', if_pos h]
   ·rw [if_neg h] at hf
    rw [Yr ((i : Int) + 1) (fun next => by rw [more next i hlt, if_neg h])]
    exact ih (i + 1) (by omega) (by conv => lhs; unfold Ww
                                    exact hf)
 exact key ls.length 0 (by omega) rfl
def fileB (f : T_tag_File) : Prop := (∀ l ∈ f.Dirs, Wg 5 l ≤ 8000000) ∧ szL f.Dirs ≤ 274877906944
noncomputable def fileE (f : T_tag_File) : Int := if 20 < f.Dirs.length then 4 else if Ww f.Dirs ≠ 0 then Ww f.Dirs else if 65000 < (octF f).length then 4 else 0
theorem dirs_ok {f : T_tag_File} (hb : fileB f) (h : Ww f.Dirs = 0) : dirsOk f.Dirs := fun l hl => ⟨dE_ok (firstD_ok h l hl), hb.1 l hl⟩
theorem Check_eq {f : T_tag_File} (hb : fileB f) : Zt f = some (fileE f) := by
 unfold Zt fileE
 rw [cI]
 by_cases hn : 20 < f.Dirs.length
 ·rw [if_pos (by omega), if_pos hn]
 rw [if_neg (by omega), if_neg hn]
 rw [scan_dirs (F := fun next2 s => Zj f next2 s) f.Dirs (some (if 65000 < (octF f).length then 4 else 0)) (fun next k hk => ?_) (fun h0 next => ?_)]
 ·split <;> rfl
 ·show Zj f next (k : Int) = _
  unfold Zj
  rw [cI, if_pos (by omega), Qq hk, Jg, checkDir_eq 5 _ 1 (by omega) (by omega) (hb.1 _ (List.getElem_mem hk)), Jg, cI, Qs (by omega), Jg]
 ·show Zj f next (f.Dirs.length : Int) = _
  unfold Zj
  rw [cI, if_neg (by omega)]
  unfold tag_Check_j1
  rw [size_eq (dirs_ok hb h0) (by omega) hb.2, Jg, cI]
  by_cases h : 65000 < (octF f).length
  ·rw [if_pos (by omega), if_pos h]
  ·rw [if_neg (by omega), if_neg h]
theorem fileE_zero {f : T_tag_File} (hb : fileB f) (h : fileE f = 0) : dirsOk f.Dirs ∧ f.Dirs.length ≤ 20 := by
 unfold fileE at h
 split at h
 ·omega
 rename_i hn
 split at h
 ·rename_i h1; exact absurd h h1
 ·rename_i h1; exact ⟨dirs_ok hb (by simpa using h1), by omega⟩
theorem szL_eq : ∀ ls : List (List T_tag_Entry), szL ls = 8 * ls.length + 32 * (ls.map (Wg 5)).sum
 | [] => rfl
 | l :: ls => by unfold szL; rw [szL_eq ls, List.map_cons, List.sum_cons, List.length_cons]; omega
theorem sz_in {l : List T_tag_Entry} : ∀ {ls : List (List T_tag_Entry)}, l ∈ ls → Wg 5 l ≤ (ls.map (Wg 5)).sum
 | [], h => by cases h
 | x :: ls, h => by
  rw [List.map_cons, List.sum_cons]
  rcases List.mem_cons.1 h with h | h
  ·subst h; omega
  ·have := sz_in h; omega
end Go.M

/- The reference's octets and faults of a file. Conditions: sizes. -/
namespace Go.M
open Go.Md
set_option linter.unusedVariables false
theorem oct_loop (f : T_tag_File) (hok : dirsOk f.Dirs) (hn : f.Dirs.length ≤ 20) : ∀ (ls : List (List T_tag_Entry)) (i : Nat) (s : List UInt8) (link : Nat), i + ls.length = f.Dirs.length → f.Dirs.drop i = ls → link + 4 ≤ s.length → s.length + szL ls ≤ 549755813888 →
  V6 (fun next3 a => Z9 f next3 a.1 a.2.1 a.2.2.1 a.2.2.2) ((link : Int), (i : Int), s, f.Big) = some (filS f.Big ls s link) := by
 intro ls
 induction ls with
 | nil =>
  intro i s link hi _ _ _
  rw [List.length_nil] at hi
  refine Xi fun next => ?_
  show Z9 f next _ (i : Int) s f.Big = _
  unfold Z9
  rw [cI, if_neg (by omega)]; rfl
 | cons l ls ih =>
  intro i s link hi hd hlk hsz
  rw [List.length_cons] at hi
  have hlt : i < f.Dirs.length := by omega
  have he : f.Dirs[i] = l := by have := List.drop_eq_getElem_cons hlt; rw [hd] at this; injection this with h1 h2; exact h1.symm
  have hd' : f.Dirs.drop (i + 1) = ls := by have := List.drop_eq_getElem_cons hlt; rw [hd] at this; injection this with h1 h2; exact h2.symm
  obtain ⟨o1, o2⟩ := hok l (he ▸ List.getElem_mem hlt)
  unfold szL at hsz
  have hle := dirS_le f.Big 5 l s.length
  have h5 := dir5_len (big := f.Big) (l := l) (p := s.length)
  have hl200 : l.length ≤ 200 := o1.1
  have hp : (put (s ++ Wp 5 f.Big l s.length) link (Vn f.Big ((ev s.length : Nat) : Int) 4)).length = s.length + (Wp 5 f.Big l s.length).length := by
   rw [put_len (by rw [Yn _ _ (by omega), List.length_append]; omega), List.length_append]
  have a1 := ih (i + 1) (put (s ++ Wp 5 f.Big l s.length) link (Vn f.Big ((ev s.length : Nat) : Int) 4)) (ev s.length + 2 + 12 * l.length) (by omega) hd' (by rw [hp]; omega) (by rw [hp]; omega)
  have hev : ev s.length ≤ s.length + 1 := by unfold ev; omega
  refine Eq.trans (Yr _ fun next => ?_) a1
  show Z9 f next (link : Int) (i : Int) s f.Big = _
  unfold Z9
  rw [cI, if_pos (by omega), Qq hlt, Jg, he, R_dir_eq 5 f.Big s l o1 o2 (by omega), Jg]
  show J7 (Xu ⟨s ++ Wp 5 f.Big l s.length, f.Big⟩ _ _ 4) _ = _
  rw [R_set_eq (p := link) (k := 4) (k' := 4) rfl rfl (by omega) (by rw [List.length_append]; omega) (by rw [List.length_append]; omega), Jg]
  show J7 (gI (((ev s.length : Nat) : Int) + 2)) _ = _
  rw [Qs (by omega), Jg, Qs (by omega), Jg, Qs (by omega), Jg, Qs (by omega), Jg]
  rfl
theorem Octets_eq {f : T_tag_File} (hok : dirsOk f.Dirs) (hn : f.Dirs.length ≤ 20) (hsz : szL f.Dirs ≤ 274877906944) : R_Octets f = some (octF f) := by
 have key : ∀ m : List UInt8, m.length = 2 → m ++ Vn f.Big 42 2 ++ Wk 4 = headS f.Big → Uv f m = some (octF f) := fun m hm hh => by
  unfold Uv
  have hz : Vn f.Big 0 4 = Wk 4 := num_zero f.Big (by omega)
  rw [R2, Jg, R4, Jg, hz, Ua (by rw [Yn _ _ (by omega), Yg]; omega), Jg, Ua (by rw [List.length_append, Yn _ _ (by omega), Yg]; omega), Jg, ← List.append_assoc, hh]
  exact (oct_loop f hok hn f.Dirs 0 (headS f.Big) 4 (by omega) rfl (by rw [headS_len]; omega) (by rw [headS_len]; omega))
 unfold R_Octets
 cases h : f.Big
 ·rw [Qd, key [73, 73] rfl (by rw [h]; rfl)]
 ·rw [Qh, key [77, 77] rfl (by rw [h]; rfl)]
theorem FileFault_eq {f : T_tag_File} (hb : fileB f) : Wh f = some (fileE f) := by
 unfold Wh fileE
 rw [cI]
 by_cases hn : 20 < f.Dirs.length
 ·rw [if_pos (by omega), if_pos hn]
 rw [if_neg (by omega), if_neg hn]
 rw [scan_dirs (F := fun next2 s => Yh f next2 s) f.Dirs (some (if 65000 < (octF f).length then 4 else 0)) (fun next k hk => ?_) (fun h0 next => ?_)]
 ·split <;> rfl
 ·show Yh f next (k : Int) = _
  unfold Yh
  rw [cI, if_pos (by omega), Qq hk, Jg, dirFault_eq 5 _ 1 (by omega) (by omega) (hb.1 _ (List.getElem_mem hk)), Jg, cI, Qs (by omega), Jg]
 ·show Yh f next (f.Dirs.length : Int) = _
  unfold Yh
  rw [cI, if_neg (by omega)]
  unfold U4
  rw [Octets_eq (dirs_ok hb h0) (by omega) hb.2, Jg, cI]
  by_cases h : 65000 < (octF f).length
  ·rw [if_pos (by omega), if_pos h]
  ·rw [if_neg (by omega), if_neg h]
end Go.M

/- TagPaths, in plain Lean: what other laws have proved (picked). Conditions: sizes. -/
namespace Go.M
open Go.Md Go.Pl
set_option linter.unusedVariables false
def Ris (l : List T_tag_Entry) : Prop := l.Pairwise fun x y => x.Tag < y.Tag
def okR : Nat → List T_tag_Entry → Prop
 | 0, _ => False
 | d + 1, l => l.length ≤ 200 ∧ Ris l ∧ ∀ e ∈ l, okV e.Value ∧ (e.Value.Kind = 13 → okR d e.Value.Entries)
theorem listE_rise {f : T_tag_Entry → Int} : ∀ {l : List T_tag_Entry} {pr : Option Int}, listE f pr l = 0 → (∀ t, pr = some t → ∀ e ∈ l, t < e.Tag) ∧ Ris l := by
 intro l
 induction l with
 | nil => intro pr _; exact ⟨fun _ _ _ h => (by cases h), List.Pairwise.nil⟩
 | cons e l ih =>
  intro pr h
  unfold listE at h
  split at h
  ·omega
  split at h
  ·omega
  rename_i h1 h2
  split at h
  ·rename_i h3; exact absurd h h3
  obtain ⟨a1, a2⟩ := ih h
  have key : ∀ t, pr = some t → t < e.Tag := fun t ht => Classical.byContradiction fun hh => h2 ⟨t, ht, by omega⟩
  refine ⟨fun t ht x hx => ?_, List.pairwise_cons.2 ⟨fun x hx => a1 _ rfl x hx, a2⟩⟩
  rcases List.mem_cons.1 hx with h | h
  ·subst h; exact key t ht
  ·have := key t ht; have := a1 _ rfl x h; omega
theorem dE_okR : ∀ {d : Nat} {l : List T_tag_Entry}, dE d l = 0 → okR d l := by
 intro d
 induction d with
 | zero => intro l h; unfold dE at h; omega
 | succ d ih =>
  intro l h
  have hok := dE_ok h
  unfold dE at h
  split at h
  ·omega
  refine ⟨hok.1, (listE_rise h).2, fun e he => ⟨(hok.2 e he).1, fun h13 => ?_⟩⟩
  have := listE_zero h e he
  rw [if_neg (fun hh => hh h13)] at this
  split at this
  ·rename_i h1; exact absurd this h1
  ·exact ih this
theorem eqInts (a b : List Int) (h : a.length ≤ 8000000) : Xw a b = some (decide (a = b)) := by
 unfold Xw
 rw [cI]
 by_cases hl : a.length = b.length
 ·rw [if_neg (by omega)]
  refine (up (F := fun next1 s => Q0 a b next1 s) a.length (fun k => some (decide (a.drop k = b.drop k))) fun next k hk ih => ?_)
  show Q0 a b next (k : Int) = _
  unfold Q0
  rw [cI]
  by_cases h : k < a.length
  ·rw [if_pos (by omega), Qq h, Jg, Qq (by omega), Jg, cI]
   have q : (a.drop k = b.drop k) = (a[k] = b[k]'(by omega) ∧ a.drop (k + 1) = b.drop (k + 1)) := by
    rw [List.drop_eq_getElem_cons h, List.drop_eq_getElem_cons (show k < b.length by omega), List.cons.injEq]
   simp only [q]
   by_cases he : a[k] = b[k]'(by omega)
   ·rw [if_neg (fun hh => hh he), Qs (by omega), Jg, ih h]; simp [he]
   ·rw [if_pos he]; simp [he]
  ·rw [if_neg (by omega), List.drop_eq_nil_of_le (by omega), List.drop_eq_nil_of_le (by omega)]; simp
 ·rw [if_pos (by omega), decide_eq_false (fun hh => hl (by rw [hh]))]
theorem no_entries {v : T_tag_Value} (h : okV v) (h13 : v.Kind ≠ 13) : v.Entries = [] :=
 Classical.byContradiction fun hh => h.2 (.inr (.inr (.inr ⟨h13, hh⟩)))
theorem clone_eq (p : List Int) (h : p.length ≤ 1000000) : Jk p = some p := by
 unfold Jk
 rw [Um (by simp only [List.length_nil]; omega), Jg]; rfl
theorem half {x : Int} (h : 0 ≤ x ∧ x ≤ 4611686018427387904) : gShr 64 (wU64 x) 1 = some (x / 2) ∧ wI64 (x / 2) = x / 2 := by
 refine ⟨?_, wI64_in (by omega)⟩
 rw [wU64_in (by omega)]
 unfold gShr
 rw [if_pos (by omega)]
 rfl
theorem bin_loop {α ρ : Type} {F : (Int × Int → Option ρ) → Int × Int → Option ρ} (l : List α) (p : α → Bool) (mono : ∀ (i j : Nat) (hi : i < l.length) (hj : j < l.length), i < j → p l[j] = true → p l[i] = true) (J : Int → Option ρ)
  (more : ∀ (next : Int × Int → Option ρ) (i j : Nat) (h : (i + j) / 2 < l.length), i < j → j ≤ l.length → F next ((i : Int), (j : Int)) = if p l[(i + j) / 2] = true then next (((i + j) / 2 : Nat) + 1, (j : Int)) else next ((i : Int), (((i + j) / 2 : Nat) : Int)))
  (stop : ∀ next (i : Nat), i ≤ l.length → F next ((i : Int), (i : Int)) = J i) :
  ∃ k : Nat, k ≤ l.length ∧ (∀ (i : Nat) (h : i < l.length), i < k → p l[i] = true) ∧ (∀ (i : Nat) (h : i < l.length), k ≤ i → p l[i] = false) ∧ V6 F (0, (l.length : Int)) = J k := by
 have key : ∀ n i j, i ≤ j → j ≤ l.length → j - i < n → (∀ (q : Nat) (h : q < l.length), q < i → p l[q] = true) → (∀ (q : Nat) (h : q < l.length), j ≤ q → p l[q] = false) →
   ∃ k : Nat, k ≤ l.length ∧ (∀ (i : Nat) (h : i < l.length), i < k → p l[i] = true) ∧ (∀ (i : Nat) (h : i < l.length), k ≤ i → p l[i] = false) ∧ V6 F ((i : Int), (j : Int)) = J k := by
  intro n
  induction n with
  | zero => intro i j _ _ h; omega
  | succ n ih =>
   intro i j h1 h2 h3 h4 h5
   rcases Nat.lt_or_ge i j with h | h
   ·have hb : (i + j) / 2 < l.length := by omega
    by_cases hp : p l[(i + j) / 2] = true
    ·rw [Yr ((((i + j) / 2 + 1 : Nat) : Int), (j : Int)) fun next => by rw [more next i j hb h h2, if_pos hp]; rfl]
     refine ih _ _ (by omega) h2 (by omega) (fun q hq hq2 => ?_) h5
     rcases Nat.lt_or_ge q ((i + j) / 2) with h6 | h6
     ·exact mono q _ hq hb h6 hp
     ·have : q = (i + j) / 2 := by omega
      subst this; exact hp
    ·rw [Yr ((i : Int), (((i + j) / 2 : Nat) : Int)) fun next => by rw [more next i j hb h h2, if_neg hp]]
     refine ih _ _ (by omega) (by omega) (by omega) h4 fun q hq hq2 => ?_
     rcases Nat.lt_or_ge ((i + j) / 2) q with h6 | h6
     ·cases h7 : p l[q] with
      | false => rfl
      | true => exact absurd (mono _ q hb hq h6 h7) hp
     ·have : q = (i + j) / 2 := by omega
      subst this; simpa using hp
   ·have : i = j := by omega
    subst this
    exact ⟨i, h2, h4, h5, Xi fun next => stop next i h2⟩
 simpa using key (l.length + 1) 0 l.length (Nat.zero_le _) (Nat.le_refl _) (by omega) (fun q _ h => by omega) (fun q h h' => by omega)
theorem cmp_eq (x y : Int) : Ul x y = some (if x < y then -1 else if y < x then 1 else 0) := by
 unfold Ul Jaa
 rw [Jg, Jg, decide_eq_false (fun h => h rfl), Qd, decide_eq_false (fun h => h rfl), Qd, cI, cI]
 split
 ·rfl
 ·split <;> rfl
theorem find1_eq (e : T_tag_Entry) (t : Int) : R_find_1 e t = some (if e.Tag < t then -1 else if t < e.Tag then 1 else 0) := by
 unfold R_find_1; rw [cmp_eq, Jg]
theorem equal_lists (l : List (List Int)) (hl : l.length ≤ 1000000000000) (hg : ∀ g ∈ l, g.length ≤ 8000000) : X1 l l Xw = some true := by
 unfold X1
 rw [cI, if_neg (fun h => h rfl)]
 refine (up (F := fun next1 s => Qk l l Xw next1 s) l.length (fun _ => some true) fun next k hk ih => ?_)
 show Qk l l Xw next (k : Int) = _
 unfold Qk
 rw [cI]
 by_cases h : k < l.length
 ·rw [if_pos (by omega), Qq h, Jg, Jg, eqInts _ _ (hg _ (List.getElem_mem h)), Jg, decide_eq_true rfl]
  show Qj false _ _ = _
  rw [Qd, Qs (by omega), Jg, ih h]
 ·rw [if_neg (by omega)]
theorem lists_ok {a c : List (List Int)} {b d : Int} (h : a = (if d = 0 then c else [])) (hb : b = d) (hl : a.length ≤ 1000000000000) (hg : ∀ g ∈ a, g.length ≤ 8000000) : Jab a b c d = some true := by
 subst hb
 have he := equal_lists a hl hg
 unfold Jab V8
 rw [cI]
 by_cases h0 : b = 0
 ·rw [if_pos h0] at h
  rw [if_neg (fun hh => hh h0), ← h, he, Jg, Qh]; simp
 ·rw [if_neg h0] at h
  rw [if_pos h0, ← h, he, Jg, Qh]; simp
theorem sameInts {l : List Int} (hl : l.length ≤ 8000000) : Xw l l = some true := by
 unfold Xw
 rw [cI, if_neg (by simp)]
 refine fix_upto 0 l.length (by omega) (fun next k _ hk => ?_) (fun next => ?_)
 ·show Q0 _ _ next (k : Int) = _
  unfold Q0
  rw [cI, if_pos (by omega), Qq hk, Jg, Jg, cI, if_neg (by simp), Qs (by omega), Jg]
 ·show Q0 _ _ next (l.length : Int) = _
  unfold Q0
  rw [cI, if_neg (by omega)]
theorem sameRats {l : List T_tag_Ratio} (hl : l.length ≤ 8000000) : Z3 l l = some true := by
 unfold Z3
 rw [cI, if_neg (by simp)]
 refine fix_upto 0 l.length (by omega) (fun next k _ hk => ?_) (fun next => ?_)
 ·show Qw _ _ next (k : Int) = _
  unfold Qw
  rw [cI, if_pos (by omega), Qq hk, Jg, Jg, show U6 l[k] l[k] = true from by unfold U6; simp]
  show Qj false _ _ = _
  rw [Qd, Qs (by omega), Jg]
 ·show Qw _ _ next (l.length : Int) = _
  unfold Qw
  rw [cI, if_neg (by omega)]
theorem sameL {l : List T_tag_Entry} {g : T_tag_Entry → T_tag_Entry → Option Bool} (hl : l.length ≤ 8000000) (h : ∀ e ∈ l, g e e = some true) : Q2 l l g = some true := by
 unfold Q2
 rw [cI, if_neg (by simp)]
 refine fix_upto 0 l.length (by omega) (fun next k _ hk => ?_) (fun next => ?_)
 ·show J1 l l g next (k : Int) = _
  unfold J1
  rw [cI, if_pos (by omega), Qq hk, Jg, Jg, h _ (List.getElem_mem hk), Jg]
  show Qj false _ _ = _
  rw [Qd, Qs (by omega), Jg]
 ·show J1 l l g next (l.length : Int) = _
  unfold J1
  rw [cI, if_neg (by omega)]
abbrev SameS := (List T_tag_Entry × List T_tag_Entry) → Option Bool
theorem sameDir_it : ∀ (d n : Nat) (l : List T_tag_Entry), d < n → okD d l ∨ l = [] → Wg d l ≤ 8000000 → it (fun (self : SameS) (s : List T_tag_Entry × List T_tag_Entry) => Qy self s.1 s.2) n (l, l) = some true := by
 intro d
 induction d with
 | zero =>
  intro n l hn h hz
  obtain ⟨n, rfl⟩ : ∃ k, n = k + 1 := ⟨n - 1, by omega⟩
  rcases h with h | rfl
  ·exact h.elim
  ·show Qy _ [] [] = _
   unfold Qy
   rw [sameL (by simp) (fun e he => by simp at he), Jg]
 | succ d ih =>
  intro n l hn h hz
  obtain ⟨n, rfl⟩ : ∃ k, n = k + 1 := ⟨n - 1, by omega⟩
  show Qy (it _ n) l l = _
  have hall : ∀ e ∈ l, it (fun (self : SameS) (s : List T_tag_Entry × List T_tag_Entry) => Qy self s.1 s.2) n (e.Value.Entries, e.Value.Entries) = some true ∧ vB e.Value := by
   intro e he
   obtain ⟨hv, hz'⟩ := vB_of hz he
   rcases h with h | h
   ·obtain ⟨hok, h13⟩ := h.2 e he
    refine ⟨ih n e.Value.Entries (by omega) ?_ hz', hv⟩
    by_cases hk : e.Value.Kind = 13
    ·exact .inl (h13 hk)
    ·exact .inr (Classical.byContradiction fun hne => hok.2 (.inr (.inr (.inr ⟨hk, hne⟩))))
   ·rw [h] at he; simp at he
  generalize it (fun (self : SameS) (s : List T_tag_Entry × List T_tag_Entry) => Qy self s.1 s.2) n = self at hall ⊢
  unfold Qy
  rw [sameL (Nat.le_trans (szD_len l) hz) (fun e he => ?_), Jg]
  obtain ⟨hself, hv⟩ := hall e he
  unfold W9 Vd
  rw [cI, if_pos rfl, cI, if_pos rfl, cI, if_pos rfl, sameInts hv.2.1, Jg, Qh, sameRats hv.2.2, Jg, Qh, hself, Jg, Jg]
theorem sameDir_self {l : List T_tag_Entry} (h : okD 5 l) (hz : Wg 5 l ≤ 8000000) : Wa l l = some true := by
 unfold Wa
 exact fix_ev (k := 6) fun n hn => sameDir_it 5 n l (by omega) (.inl h) hz
theorem sameFile_self {f : T_tag_File} (h : ∀ l ∈ f.Dirs, Wa l l = some true) (hl : f.Dirs.length ≤ 8000000) : Ys f f = some true := by
 unfold Ys Q3
 rw [cI, if_pos rfl, cI, if_neg (by simp)]
 have key : V6 (fun next1 s => Ju f.Dirs f.Dirs Wa next1 s) 0 = some true := by
  refine fix_upto 0 f.Dirs.length (by omega) (fun next k _ hk => ?_) (fun next => ?_)
  ·show Ju _ _ _ next (k : Int) = _
   unfold Ju
   rw [cI, if_pos (by omega), Qq hk, Jg, Jg, h _ (List.getElem_mem hk), Jg]
   show Qj false _ _ = _
   rw [Qd, Qs (by omega), Jg]
  ·show Ju _ _ _ next (f.Dirs.length : Int) = _
   unfold Ju
   rw [cI, if_neg (by omega)]
 rw [key, Jg]
theorem sameFile_ok {f : T_tag_File} (hb : fileB f) (he : fileE f = 0) : Ys f f = some true := by
 obtain ⟨h1, h2⟩ := fileE_zero hb he
 exact sameFile_self (fun l hl => sameDir_self (h1 l hl).1 (h1 l hl).2) (by omega)
theorem Ug : Ys ⟨false, []⟩ ⟨false, []⟩ = some true := sameFile_self (fun l hl => by simp at hl) (by simp)
theorem file_self {f : T_tag_File} {e : Int} (h : Ys f f = some true) (h0 : e ≠ 0 → f = ⟨false, []⟩) : W6 f e f e = some true := by
 unfold W6
 rw [cI]
 by_cases he : e = 0
 ·rw [if_neg (by simp [he])]
  unfold W8
  rw [h, Jg, Qh, decide_eq_true rfl]
 ·rw [if_pos he]
  unfold W8
  rw [h0 he, Ug, Jg, Qh, decide_eq_true rfl]
end Go.M

/- TagPaths, in plain Lean: values, places, and what is changed at the end of a path. Conditions: sizes. -/
namespace Go.M
open Go.Md Go.Pl
set_option linter.unusedVariables false
noncomputable def valE (v : T_tag_Value) : Int := if v.Kind ≠ 13 then plainE v else if Z2 v ≠ 0 then Z2 v else dE 5 v.Entries
theorem CheckValue_eq {v : T_tag_Value} (hb : vB v) (hz : Wg 5 v.Entries ≤ 8000000) : U1 v = some (valE v) := by
 unfold U1 valE
 rw [cI]
 by_cases h : v.Kind = 13
 ·rw [if_neg (fun hh => hh h), if_neg (fun hh => hh h), checkFields_eq, Jg, cI]
  split
  ·rfl
  ·rw [checkDir_eq 5 _ 1 (by omega) (by omega) hz, Jg]
 ·rw [if_pos h, if_pos h, checkPlain_eq hb, Jg]
theorem faultq_plain {v : T_tag_Value} (h13 : v.Kind ≠ 13) : Z6 v = Wl v := by
 have e5 : Za v = Zv v := by
  unfold Za Zv
  rw [cI, cI, if_neg h13, if_neg h13]
 have e4 : Zb v = Y2 v := by unfold Zb Y2; rw [e5]
 have e6 : Yc v = Xf v := by funext n x; unfold Yc Xf; rw [e4]
 have e3 : Vb v = Yy v := by unfold Vb Yy; rw [e6]
 have e7 : Ya v = Xg v := by funext t n x; unfold Ya Xg; rw [e3]
 have e2 : Xn v = Xb v := by unfold Xn Xb; rw [e7]
 have e10 : X0 v = Yl v := by funext b; unfold X0 Yl; rw [e2]
 have e9 : Yd v = Yx v := by funext b; unfold Yd Yx; rw [e2, e10]
 have e8 : Yb v = Yz v := by funext b c; unfold Yb Yz; rw [e2, e9]
 have e1 : Q5 v = Xc v := by funext b c; unfold Q5 Xc; rw [e8]
 unfold Z6 Wl
 rw [e1]
theorem faultq13 {v : T_tag_Value} (h : v.Kind = 13) (hz : Wg 5 v.Entries ≤ 8000000) : Z6 v = some (if Z2 v ≠ 0 then Z2 v else dE 5 v.Entries) := by
 have hj : v.Text = [] → v.Ints = [] → v.Ratios = [] → Xn v = some (dE 5 v.Entries) := fun h1 h2 h3 => by
  have e4 : Zb v = some (dE 5 v.Entries) := by
   unfold Zb Za
   rw [cI, if_neg (by omega), cI, if_pos h, dirFault_eq 5 _ 1 (by omega) (by omega) hz, Jg]
  unfold Xn
  rw [limits_eq, Jg]
  refine Xi fun next => ?_
  show Ya v _ next 0 = _
  unfold Ya
  rw [cI, h2, if_neg (by simp)]
  unfold Vb
  refine Xi fun next => ?_
  show Yc v next 0 = _
  unfold Yc
  rw [cI, h3, if_neg (by simp), e4]
 have e : Z6 v = Q5 v false false := by
  unfold Z6
  rw [h]; rfl
 rw [e]
 unfold Q5
 rw [wide_eq, Jg, if_pos h, cI, if_neg (by omega), fields13 h, cI]
 have e10 : v.Text = [] → v.Ints = [] → v.Ratios = [] → X0 v false = some (dE 5 v.Entries) := fun h1 h2 h3 => by
  unfold X0
  have hn : ¬ v.Kind ≠ 13 := fun hh => hh h
  rw [Qd, cI, cI, hj h1 h2 h3, if_neg hn]
  split <;> rfl
 by_cases h1 : v.Text = []
 ·rw [if_neg (fun hh => hh h1)]
  unfold Yb
  rw [Qd, cI]
  by_cases h2 : v.Ints = []
  ·rw [if_neg (fun hh => (W5 _).1 hh h2)]
   unfold Yd
   rw [Qd, cI]
   by_cases h3 : v.Ratios = []
   ·rw [if_neg (fun hh => (W5 _).1 hh h3), e10 h1 h2 h3]
    simp [h1, h2, h3]
   ·rw [if_pos ((W5 _).2 h3), decide_eq_true (show v.Kind ≠ 5 by omega)]
    unfold X0
    rw [Qh, Qh]
    simp [h3]
  ·rw [if_pos ((W5 _).2 h2)]
   show Yd v true = _
   unfold Yd
   rw [Qh, Qh]
   simp [h2]
 ·rw [if_pos h1]
  show Yb v false true = _
  unfold Yb
  rw [Qh, Qh]
  simp [h1]
theorem ValueFaultq_eq {v : T_tag_Value} (hb : vB v) (hz : Wg 5 v.Entries ≤ 8000000) : Z6 v = some (valE v) := by
 unfold valE
 by_cases h : v.Kind = 13
 ·rw [if_neg (fun hh => hh h), faultq13 h hz]
 ·rw [if_pos h, faultq_plain h, ValueFault_eq hb h]
theorem plain_fields {v : T_tag_Value} (h : plainE v = 0) : Z2 v = 0 := by
 unfold plainE at h
 split at h
 ·exact h
 ·rename_i h1; simpa using h1
theorem val_ok {v : T_tag_Value} (h : valE v = 0) : okV v ∧ (v.Kind = 13 → okR 5 v.Entries) := by
 unfold valE at h
 split at h
 ·rename_i h1; exact ⟨fields_ok (plain_fields h), fun hh => absurd hh h1⟩
 ·split at h
  ·rename_i h1; exact absurd h h1
  ·rename_i h1; exact ⟨fields_ok (by simpa using h1), fun _ => dE_okR h⟩
theorem szD_mono : ∀ (d : Nat) (l : List T_tag_Entry), Wg d l ≤ Wg (d + 1) l := by
 intro d
 induction d with
 | zero => intro l; exact Nat.zero_le _
 | succ d ih =>
  intro l
  induction l with
  | nil => exact Nat.le_refl _
  | cons e l ihl => rw [V9, V9]; have := ih e.Value.Entries; unfold szE; omega
theorem szD_le {d k : Nat} (h : d ≤ k) (l : List T_tag_Entry) : Wg d l ≤ Wg k l := by
 induction k with
 | zero => rw [show d = 0 by omega]; exact Nat.le_refl _
 | succ k ih =>
  rcases Nat.lt_or_ge k d with hh | hh
  ·rw [show d = k + 1 by omega]; exact Nat.le_refl _
  ·exact Nat.le_trans (ih hh) (szD_mono k l)
theorem szD_app (d : Nat) : ∀ a b : List T_tag_Entry, Wg (d + 1) (a ++ b) = Wg (d + 1) a + Wg (d + 1) b
 | [], b => by rw [List.nil_append, szD_nil, Nat.zero_add]
 | x :: a, b => by rw [List.cons_append, V9, V9, szD_app d a b]; omega
theorem szD_set (d : Nat) (x : T_tag_Entry) : ∀ (l : List T_tag_Entry) (k : Nat) (hk : k < l.length), Wg (d + 1) (l.set k x) + szE d l[k] = Wg (d + 1) l + szE d x
 | [], k, hk => by cases hk
 | y :: l, 0, _ => by
  show Wg (d + 1) (x :: l) + szE d y = _
  rw [V9, V9]; omega
 | y :: l, k + 1, hk => by
  have hk' : k < l.length := by simpa using hk
  have := szD_set d x l k hk'
  show Wg (d + 1) (y :: l.set k x) + szE d l[k] = _
  rw [V9, V9]; omega
theorem szD_take (d k : Nat) (l : List T_tag_Entry) : Wg (d + 1) (l.take k) + Wg (d + 1) (l.drop k) = Wg (d + 1) l := by
 rw [← szD_app, List.take_append_drop]
theorem fits_nil (d : Nat) : fits (d + 1) [] := ⟨Nat.zero_le _, fun x hx => by cases hx⟩
theorem fits_okR : ∀ (d : Nat) (l : List T_tag_Entry), okR d l → Wg d l ≤ 2000000 → fits (d + 1) l := by
 intro d
 induction d with
 | zero => intro l h _; exact absurd h id
 | succ d ih =>
  intro l ⟨h1, h2, h3⟩ hz
  refine ⟨by omega, fun x hx => ?_⟩
  have hm := szD_mem (d := d) hx
  unfold szE at hm
  refine ⟨by omega, by omega, ?_⟩
  by_cases hk : x.Value.Kind = 13
  ·exact ih _ ((h3 x hx).2 hk) (by omega)
  ·rw [no_entries (h3 x hx).1 hk]; exact fits_nil d
theorem fits_mono : ∀ (d : Nat) (l : List T_tag_Entry), fits d l → fits (d + 1) l := by
 intro d
 induction d with
 | zero => intro l h; exact absurd h id
 | succ d ih => intro l ⟨h1, h2⟩; exact ⟨h1, fun x hx => ⟨(h2 x hx).1, (h2 x hx).2.1, ih _ (h2 x hx).2.2⟩⟩
theorem fits_le {d k : Nat} (h : d ≤ k) {l : List T_tag_Entry} (hf : fits d l) : fits k l := by
 induction k with
 | zero => rw [show d = 0 by omega] at hf; exact hf
 | succ k ih =>
  rcases Nat.lt_or_ge k d with hh | hh
  ·rw [show d = k + 1 by omega] at hf; exact hf
  ·exact fits_mono _ _ (ih hh)
theorem fits8 {d : Nat} {l : List T_tag_Entry} (h : okR d l) (hz : Wg d l ≤ 2000000) (hd : d ≤ 5) : fits 8 l := fits_le (by omega) (fits_okR d l h hz)
theorem fitV8 {v : T_tag_Value} {d : Nat} (hd : d ≤ 5) (h : okV v) (h13 : v.Kind = 13 → okR d v.Entries) (h1 : v.Ints.length ≤ 2000000) (h2 : v.Ratios.length ≤ 2000000) (hz : Wg d v.Entries ≤ 2000000) : fitV 8 v := by
 refine ⟨h1, h2, ?_⟩
 by_cases hk : v.Kind = 13
 ·exact fits8 (h13 hk) hz hd
 ·rw [no_entries h hk]; exact fits_nil 7
theorem sameDir_fits : ∀ (d n : Nat) (l : List T_tag_Entry), d < n → fits d l → it (fun (self : SameS) (s : List T_tag_Entry × List T_tag_Entry) => Qy self s.1 s.2) n (l, l) = some true := by
 intro d
 induction d with
 | zero => intro n l _ h; exact absurd h id
 | succ d ih =>
  intro n l hn ⟨h1, h2⟩
  obtain ⟨n, rfl⟩ : ∃ k, n = k + 1 := ⟨n - 1, by omega⟩
  show Qy (it _ n) l l = _
  have hall : ∀ e ∈ l, it (fun (self : SameS) (s : List T_tag_Entry × List T_tag_Entry) => Qy self s.1 s.2) n (e.Value.Entries, e.Value.Entries) = some true := fun e he => ih n e.Value.Entries (by omega) (h2 e he).2.2
  generalize it (fun (self : SameS) (s : List T_tag_Entry × List T_tag_Entry) => Qy self s.1 s.2) n = self at hall ⊢
  unfold Qy
  rw [sameL (by omega) (fun e he => ?_), Jg]
  have hself := hall e he
  unfold W9 Vd
  rw [cI, if_pos rfl, cI, if_pos rfl, cI, if_pos rfl, sameInts (by have := (h2 e he).1; omega), Jg, Qh, sameRats (by have := (h2 e he).2.1; omega), Jg, Qh, hself, Jg, Jg]
theorem sameD {d : Nat} {l : List T_tag_Entry} (h : fits d l) : Wa l l = some true := by
 unfold Wa
 exact fix_ev (k := d + 1) fun n hn => sameDir_fits d n l (by omega) h
theorem sameV {d : Nat} {v : T_tag_Value} (h : fitV d v) : Zq v v = some true := by
 unfold Zq Vd
 rw [cI, if_pos rfl, cI, if_pos rfl, sameInts (by have := h.1; omega), Jg, Qh, sameRats (by have := h.2.1; omega), Jg, Qh]
 show J7 (Wa v.Entries v.Entries) _ = _
 rw [sameD h.2.2, Jg]
theorem sameV0 : Zq noV noV = some true := sameV (d := 1) ⟨Nat.zero_le _, Nat.zero_le _, fits_nil 0⟩
theorem place1_eq : tag_place_1 = R_find_1 := by
 funext e t
 rw [find1_eq]
 unfold tag_place_1
 rw [cI, cI]; (repeat' split) <;> rfl
theorem place_eq (l : List T_tag_Entry) (t : Int) : Us l t = R_find l t := by unfold Us R_find; rw [place1_eq]
theorem find_ix (l : List T_tag_Entry) (t : Int) (hr : Ris l) (hl : l.length ≤ 200) :
  ∃ k : Nat, k ≤ l.length ∧ (R_find l t = some ((k : Int), false) ∨ ∃ hk : k < l.length, R_find l t = some ((k : Int), true) ∧ l[k].Tag = t) := by
 have hp := List.pairwise_iff_getElem.1 hr
 obtain ⟨k, h1, h2, h3, h4⟩ := bin_loop (F := fun next2 s => Qc l t R_find_1 next2 s.1 s.2) l (fun x => decide (x.Tag < t)) (fun i j hi hj hij h => by have := hp i j hi hj hij; simp at h ⊢; omega) (Qo l t R_find_1)
  (fun next i j h hij hj => by
   obtain ⟨f1, f2⟩ := half (x := (i : Int) + j) (by omega)
   rw [show ((i : Int) + j) / 2 = (((i + j) / 2 : Nat) : Int) by omega] at f1 f2
   simp only [Qc]
   rw [cI, if_pos (by omega), Qs (by omega), Jg, f1, Jg, f2, Qq h, Jg, find1_eq, Jg, cI]
   by_cases hlt : l[(i + j) / 2].Tag < t
   ·rw [if_pos hlt, if_pos (by omega), Qs (by omega), Jg, if_pos (by simpa using hlt)]
   ·rw [if_neg hlt, if_neg (by split <;> omega), if_neg (by simpa using hlt)])
  (fun next i hi => by
   simp only [Qc]
   rw [cI, if_neg (by omega)])
 have hfix : R_find l t = J7 (Qo l t R_find_1 k) fun t8 => some (t8.1, t8.2) := by
  unfold R_find Xl
  rw [h4]
 refine ⟨k, h1, ?_⟩
 unfold Qo at hfix
 rw [cI] at hfix
 rcases Nat.lt_or_ge k l.length with hk | hk
 ·rw [if_pos (by omega), Qq hk, Jg, find1_eq, Jg, Jg] at hfix
  by_cases he : l[k].Tag = t
  ·refine .inr ⟨hk, ?_, he⟩
   rw [hfix, if_neg (by omega), if_neg (by omega)]; rfl
  ·refine .inl ?_
   rw [hfix]
   refine congrArg some (Prod.ext rfl (decide_eq_false ?_))
   split
   ·omega
   ·rw [if_pos (by omega)]; omega
 ·rw [if_neg (by omega), Jg] at hfix
  exact .inl hfix
theorem cloneE {l : List T_tag_Entry} (h : l.length ≤ 1000000) : Yq l = some l := by
 unfold Yq
 rw [Um (by simp only [List.length_nil]; omega), Jg]; rfl
theorem one_lt (t : Int) (ts : List Int) : decide (1 < ((t :: ts).length : Int)) = decide (ts ≠ []) := by
 cases ts <;> simp <;> omega
def opR (drop : Bool) (l : List T_tag_Entry) (k : Nat) (b : Bool) (t : Int) (v : T_tag_Value) : List T_tag_Entry × Bool :=
 if drop = true then (if b = true then (Wx l k ((k : Int) + 1), true) else ([], false)) else (if b = true then (l.set k ⟨t, v⟩, true) else (Y4 l k ⟨t, v⟩, true))
theorem last_eq (l : List T_tag_Entry) (t : Int) (v : T_tag_Value) (drop b : Bool) (k : Nat) (hl : l.length ≤ 200) (hk : k ≤ l.length) (hf : R_find l t = some ((k : Int), b)) (hb : b = true → ∃ hk : k < l.length, l[k].Tag = t) :
  X4 l [t] v drop = some (opR drop l k b t v) := by
 rw [X4, hf, Jg, cloneE (by omega), Jg, one_lt, decide_eq_false (fun h => h rfl), Qd]
 unfold opR
 cases drop
 ·rw [Qd, if_neg (by simp)]
  cases b
  ·rw [Qd, if_neg (by simp), gInsN_ok (by omega), Jg]
  ·obtain ⟨hk', ht⟩ := hb rfl
   rw [Qh, if_pos rfl, Qq hk', Jg, Un (by omega) (by simpa using hk'), Jg, ht, Int.toNat_natCast]
 ·rw [Qh, if_pos rfl]
  cases b
  ·rfl
  ·obtain ⟨hk', ht⟩ := hb rfl
   show Qj false _ _ = _
   rw [Qd, if_pos rfl]
   show J7 (gI ((k : Int) + 1)) _ = _
   rw [Qs (by omega), Jg, gDelN_ok (by omega), Jg]
theorem chg (t : Int) : ∀ (inner : List Int) (d : Nat) (l : List T_tag_Entry), okR d l →
  (X6 l inner = some none ∧ ∀ v drop, X4 l (inner ++ [t]) v drop = some ([], false)) ∨
  ∃ ks, X6 l inner = some (some ks) ∧ ks.length < d ∧ okR (d - ks.length) (Y6 ks l) ∧ Wg (d - ks.length) (Y6 ks l) ≤ Wg d l ∧
   (∀ l', Wg d (putL ks l l') ≤ Wg d l + Wg (d - ks.length) l') ∧ (∀ l' n, fits n l → (∀ m, fits m (Y6 ks l) → fits m l') → fits n (putL ks l l')) ∧
   ∀ v drop q, X4 (Y6 ks l) [t] v drop = some q → (q.2 = false → q.1 = []) → X4 l (inner ++ [t]) v drop = some (if q.2 = true then (putL ks l q.1, true) else ([], false)) := by
 intro inner
 induction inner with
 | nil =>
  intro d l h
  have hd : 0 < d := by cases d with
   | zero => exact absurd h id
   | succ d => omega
  refine .inr ⟨[], rfl, hd, h, Nat.le_refl _, fun l' => ?_, fun l' n h1 h2 => h2 n h1, fun v drop q hq hz => ?_⟩
  ·show Wg d l' ≤ _ + Wg d l'
   omega
  ·rw [List.nil_append]
   refine hq.trans ?_
   obtain ⟨q1, q2⟩ := q
   cases q2
   ·rw [if_neg (by simp)]; exact congrArg some (Prod.ext (hz rfl) rfl)
   ·rfl
 | cons u ts ih =>
  intro d l h
  cases d with
  | zero => exact absurd h id
  | succ d =>
   obtain ⟨hl, hr, hv⟩ := h
   have hne : ts ++ [t] ≠ [] := by simp
   obtain ⟨k, hk, hf | ⟨hk', hf, ht⟩⟩ := find_ix l u hr hl
   ·left
    refine ⟨?_, fun v drop => ?_⟩
    ·rw [X6, place_eq, hf, Jg]; rfl
    ·rw [List.cons_append, X4, hf, Jg, cloneE (by omega), Jg, one_lt, decide_eq_true hne, Qh]; rfl
   ·have hm : l[k] ∈ l := List.getElem_mem hk'
    have e1 : X6 l (u :: ts) = Qj (decide (l[k].Value.Kind ≠ 13)) (some none) (J7 (X6 l[k].Value.Entries ts) fun r => some (r.map (k :: ·))) := by
     rw [X6, place_eq, hf, Jg]
     show Qj false _ _ = _
     rw [Qd]
     show J7 (Xt l (k : Int)) _ = _
     rw [Qq hk', Jg]; rfl
    have e2 : ∀ v drop, X4 l (u :: ts ++ [t]) v drop = Qj (decide (l[k].Value.Kind ≠ 13)) (some ([], false)) (J7 (X4 l[k].Value.Entries (ts ++ [t]) v drop) fun q => Qj (!q.2) (some ([], false)) (some (l.set k (U8 l[k] q.1), true))) := fun v drop => by
     rw [List.cons_append, X4, hf, Jg, cloneE (by omega), Jg, one_lt, decide_eq_true hne, Qh]
     show Qj false _ _ = _
     rw [Qd]
     show J7 (Xt l (k : Int)) _ = _
     rw [Qq hk', Jg]
     have : (fun q : List T_tag_Entry × Bool => J7 (gSet l (k : Int) (U8 l[k] q.1)) fun l' => Qj (!q.2) (some (([] : List T_tag_Entry), false)) (some (l', true))) = fun q => Qj (!q.2) (some ([], false)) (some (l.set k (U8 l[k] q.1), true)) := by
      funext q
      rw [Un (by omega) (by simpa using hk'), Jg, Int.toNat_natCast]
     rw [← this]
    rw [cI] at e1
    by_cases h13 : l[k].Value.Kind = 13
    ·rw [if_neg (fun hh => hh h13)] at e1
     have e2' : ∀ v drop, X4 l (u :: ts ++ [t]) v drop = J7 (X4 l[k].Value.Entries (ts ++ [t]) v drop) fun q => Qj (!q.2) (some ([], false)) (some (l.set k (U8 l[k] q.1), true)) := fun v drop => by
      rw [e2, cI, if_neg (fun hh => hh h13)]
     have hg : l[k]? = some l[k] := List.getElem?_eq_getElem hk'
     rcases ih d l[k].Value.Entries ((hv _ hm).2 h13) with ⟨a1, a2⟩ | ⟨ks, a1, a2, a3, a4, a5, a6, a7⟩
     ·left
      refine ⟨by rw [e1, a1, Jg]; rfl, fun v drop => ?_⟩
      rw [e2', a2, Jg]; rfl
     ·right
      have g1 : Y6 (k :: ks) l = Y6 ks l[k].Value.Entries := by rw [Y6, hg]
      have p1 : ∀ l', putL (k :: ks) l l' = l.set k (U8 l[k] (putL ks l[k].Value.Entries l')) := fun l' => by rw [putL, hg]
      have hlen : (k :: ks).length = ks.length + 1 := rfl
      have hsub : d + 1 - (k :: ks).length = d - ks.length := by rw [hlen]; omega
      have hs := szD_mem (d := d) hm
      refine ⟨k :: ks, by rw [e1, a1, Jg]; rfl, by rw [hlen]; omega, ?_, ?_, ?_, ?_, ?_⟩
      ·rw [hsub, g1]; exact a3
      ·rw [hsub, g1]; unfold szE at hs; omega
      ·intro l'
       rw [hsub, p1]
       have h1 := szD_set d (U8 l[k] (putL ks l[k].Value.Entries l')) l k hk'
       have h2 := a5 l'
       have h3 : szE d (U8 l[k] (putL ks l[k].Value.Entries l')) + Wg d l[k].Value.Entries = szE d l[k] + Wg d (putL ks l[k].Value.Entries l') := by
        unfold szE U8; simp only; omega
       omega
      ·intro l' n hn hm'
       cases n with
       | zero => exact absurd hn id
       | succ n =>
        obtain ⟨c1, c2⟩ := hn
        rw [p1]
        refine ⟨by rw [List.length_set]; exact c1, fun x hx => ?_⟩
        rcases List.mem_or_eq_of_mem_set hx with hx | rfl
        ·exact c2 x hx
        ·obtain ⟨b1, b2, b3⟩ := c2 _ hm
         exact ⟨b1, b2, a6 l' n b3 (fun m hh => hm' m (by rw [g1]; exact hh))⟩
      ·intro v drop q hq hz
       rw [e2', a7 v drop q (by rw [← g1]; exact hq) hz, Jg]
       obtain ⟨q1, q2⟩ := q
       cases q2
       ·rfl
       ·rw [if_pos rfl, if_pos rfl, p1]; rfl
    ·rw [if_pos h13] at e1
     left
     refine ⟨e1, fun v drop => ?_⟩
     rw [e2, cI, if_pos h13]
end Go.M

/- TagPaths, in plain Lean: a path from the top, and the lists of paths. Conditions: sizes. -/
namespace Go.M
open Go.Md Go.Pl
set_option linter.unusedVariables false
theorem gAt_mid {α : Type} (pre : List α) (u : α) (rest : List α) : Xt (pre ++ u :: rest) (pre.length : Int) = some u := by
 rw [Qq (by simp)]; simp
noncomputable def gotL (l : List T_tag_Entry) (t : Int) : Option (T_tag_Value × Bool) := J7 (R_find l t) fun p => Qj p.2 (J7 (Xt l p.1) fun e => some (e.Value, true)) (some (noV, false))
theorem got (p0 t : Int) (path q : List Int) (hlen : path.length ≤ 2000000) (hq : path = p0 :: q) : ∀ (inner : List Int) (d : Nat) (l : List T_tag_Entry) (pre : List Int) (m : Int × List UInt8 × List Int × List T_tag_Ratio × List T_tag_Entry), okR d l → q = pre ++ (inner ++ [t]) →
  ∀ r, X6 l inner = some r → V6 (fun next2 s => Yu path q next2 s.1 s.2.1 s.2.2.1 s.2.2.2.1 s.2.2.2.2.1 s.2.2.2.2.2.1 s.2.2.2.2.2.2) (l, (pre.length : Int), m) = match r with
   | none => some (noV, false)
   | some ks => gotL (Y6 ks l) t := by
 intro inner
 induction inner with
 | nil =>
  intro d l pre ⟨m1, m2, m3, m4, m5⟩ h hp r hr
  have hpl : path.length = pre.length + 2 := by rw [hq, hp]; simp
  obtain rfl : r = some [] := (Option.some.inj hr).symm
  cases d with
  | zero => exact absurd h id
  | succ d =>
   obtain ⟨hl, hr, hv⟩ := h
   have hg : Xt q (pre.length : Int) = some t := by rw [hp]; exact gAt_mid pre t []
   have hql : q.length = pre.length + 1 := by rw [hp]; simp
   show _ = gotL l t
   unfold gotL
   obtain ⟨k, hk, hf | ⟨hk', hf, ht⟩⟩ := find_ix l t hr hl
   ·rw [hf, Jg, Qd]
    refine Xi fun next => ?_
    show Yu path q next l (pre.length : Int) m1 m2 m3 m4 m5 = _
    unfold Yu
    rw [cI, if_pos (by omega), hg, Jg, hf, Jg]; rfl
   ·rw [hf, Jg, Qh]
    show _ = J7 (Xt l (k : Int)) _
    rw [Qq hk', Jg]
    refine (Yr (l[k].Value.Entries, ((pre.length : Int) + 1), l[k].Value.Kind, l[k].Value.Text, l[k].Value.Ints, l[k].Value.Ratios, l[k].Value.Entries) fun next => ?_).trans (Xi fun next => ?_)
    ·show Yu path q next l (pre.length : Int) m1 m2 m3 m4 m5 = _
     unfold Yu
     rw [cI, if_pos (by omega), hg, Jg, hf, Jg]
     show Qj false _ _ = _
     rw [Qd]
     show J7 (Xt l (k : Int)) _ = _
     rw [Qq hk', Jg, Qs (by omega), Jg, cI, if_neg (by omega)]
     unfold R_Got_j3
     rw [Qs (by omega), Jg]
    ·show Yu path q next _ ((pre.length : Int) + 1) _ _ _ _ _ = _
     unfold Yu
     rw [cI, if_neg (by omega)]
     unfold R_Got_j1
     dsimp only
     generalize l[k].Value = w
     cases w; rfl
 | cons u ts ih =>
  intro d l pre ⟨m1, m2, m3, m4, m5⟩ h hp r hr
  have hpl : path.length = pre.length + ts.length + 3 := by rw [hq, hp]; simp; omega
  cases d with
  | zero => exact absurd h id
  | succ d =>
   obtain ⟨hl, hrs, hv⟩ := h
   have hg : Xt q (pre.length : Int) = some u := by rw [hp]; exact gAt_mid pre u (ts ++ [t])
   have hql : q.length = pre.length + ts.length + 2 := by rw [hp]; simp; omega
   rw [X6, place_eq] at hr
   obtain ⟨k, hk, hf | ⟨hk', hf, ht⟩⟩ := find_ix l u hrs hl
   ·rw [hf, Jg] at hr
    obtain rfl : r = none := (Option.some.inj hr).symm
    refine Xi fun next => ?_
    show Yu path q next l (pre.length : Int) m1 m2 m3 m4 m5 = _
    unfold Yu
    rw [cI, if_pos (by omega), hg, Jg, hf, Jg]; rfl
   ·rw [hf, Jg] at hr
    have hr' : (J7 (Xt l (k : Int)) fun e => Qj (decide (e.Value.Kind ≠ 13)) (some none) (J7 (X6 e.Value.Entries ts) fun r => some (r.map (k :: ·)))) = some r := hr
    rw [Qq hk', Jg, cI] at hr'
    have hm : l[k] ∈ l := List.getElem_mem hk'
    have st : ∀ next : ((List T_tag_Entry) × Int × Int × (List UInt8) × (List Int) × (List T_tag_Ratio) × (List T_tag_Entry)) → Option (T_tag_Value × Bool), Yu path q next l (pre.length : Int) m1 m2 m3 m4 m5 = if l[k].Value.Kind ≠ 13 then some (noV, false) else next (l[k].Value.Entries, ((pre.length : Int) + 1), l[k].Value.Kind, l[k].Value.Text, l[k].Value.Ints, l[k].Value.Ratios, l[k].Value.Entries) := fun next => by
     unfold Yu
     rw [cI, if_pos (by omega), hg, Jg, hf, Jg]
     show Qj false _ _ = _
     rw [Qd]
     show J7 (Xt l (k : Int)) _ = _
     rw [Qq hk', Jg, Qs (by omega), Jg, cI, if_pos (by omega), cI]
     split
     ·rfl
     ·unfold R_Got_j3
      rw [Qs (by omega), Jg]
    by_cases h13 : l[k].Value.Kind = 13
    ·have hn : ¬ l[k].Value.Kind ≠ 13 := fun hh => hh h13
     rw [if_neg hn] at hr'
     cases hx : X6 l[k].Value.Entries ts with
     | none => rw [hx] at hr'; cases hr'
     | some x =>
      rw [hx, Jg] at hr'
      have := ih d l[k].Value.Entries (pre ++ [u]) (l[k].Value.Kind, l[k].Value.Text, l[k].Value.Ints, l[k].Value.Ratios, l[k].Value.Entries) ((hv _ hm).2 h13) (by rw [hp]; simp) x hx
      rw [List.length_append, List.length_singleton] at this
      refine (Yr (l[k].Value.Entries, ((pre.length + 1 : Nat) : Int), l[k].Value.Kind, l[k].Value.Text, l[k].Value.Ints, l[k].Value.Ratios, l[k].Value.Entries) fun next => ?_).trans (this.trans ?_)
      ·show Yu path q next l (pre.length : Int) m1 m2 m3 m4 m5 = _
       rw [st, if_neg hn]; rfl
      ·obtain rfl := (Option.some.inj hr').symm
       cases x with
       | none => rfl
       | some ks =>
        show _ = gotL (Y6 (k :: ks) l) t
        rw [Y6, List.getElem?_eq_getElem hk']
    ·rw [if_pos h13] at hr'
     obtain rfl : r = none := (Option.some.inj hr').symm
     refine Xi fun next => ?_
     show Yu path q next l (pre.length : Int) m1 m2 m3 m4 m5 = _
     rw [st, if_pos h13]
theorem cloneD {l : List (List T_tag_Entry)} (h : l.length ≤ 1000000) : Xh l = some l := by
 unfold Xh
 rw [Um (by simp only [List.length_nil]; omega), Jg]; rfl
def okC (ls : List (List T_tag_Entry)) : Prop := ∀ l ∈ ls, okR 5 l ∧ Wg 5 l ≤ 1048576
theorem top (f : T_tag_File) (path : List Int) (hok : okC f.Dirs) (hn : f.Dirs.length ≤ 20) (hp : path.length ≤ 1048576) :
  (Wc f.Dirs path = some none ∧ (∀ v drop, Ve f path v drop = some (noF, false)) ∧ R_Got f path = some (noV, false)) ∨
  ∃ (i : Nat) (ks : List Nat) (t : Int) (d : Nat) (hi : i < f.Dirs.length), d ≤ 5 ∧ 0 < d ∧ Wc f.Dirs path = some (some (i :: ks)) ∧ Xt path ((path.length : Int) - 1) = some t ∧ okR d (Y6 ks f.Dirs[i]) ∧ Wg d (Y6 ks f.Dirs[i]) ≤ 1048576 ∧
   (∀ l', Wg 5 (putL ks f.Dirs[i] l') ≤ 1048576 + Wg d l') ∧ (∀ l' n, fits n f.Dirs[i] → (∀ m, fits m (Y6 ks f.Dirs[i]) → fits m l') → fits n (putL ks f.Dirs[i] l')) ∧
   (∀ v drop q, X4 (Y6 ks f.Dirs[i]) [t] v drop = some q → (q.2 = false → q.1 = []) → Ve f path v drop = some (if q.2 = true then (⟨f.Big, f.Dirs.set i (putL ks f.Dirs[i] q.1)⟩, true) else (noF, false))) ∧
   R_Got f path = gotL (Y6 ks f.Dirs[i]) t := by
 by_cases h2 : path.length < 2
 ·left
  refine ⟨?_, fun v drop => ?_, ?_⟩
  ·unfold Wc; rw [cI, if_pos (by omega)]
  ·unfold Ve; rw [cI, if_pos (by omega)]
  ·unfold R_Got; rw [cI, if_pos (by omega)]; rfl
 obtain ⟨p0, inner, t, rfl⟩ : ∃ p0 inner t, path = p0 :: (inner ++ [t]) := by
  cases path with
  | nil => simp at h2
  | cons p0 q =>
   have hq : q ≠ [] := fun hh => by rw [hh] at h2; simp at h2
   exact ⟨p0, q.dropLast, q.getLast hq, by rw [List.dropLast_concat_getLast]⟩
 have hlen : (p0 :: (inner ++ [t])).length = inner.length + 2 := by simp
 have g0 : Xt (p0 :: (inner ++ [t])) (0 : Int) = some p0 := Qq (xs := p0 :: (inner ++ [t])) (k := 0) (by simp)
 have gl : Xt (p0 :: (inner ++ [t])) (((p0 :: (inner ++ [t])).length : Int) - 1) = some t := by
  have := gAt_mid (p0 :: inner) t []
  rw [hlen]
  rw [show ((p0 :: inner).length : Int) = ((inner.length + 2 : Nat) : Int) - 1 by simp; omega] at this
  exact this
 have c1 : Zo (p0 :: (inner ++ [t])) 1 (((p0 :: (inner ++ [t])).length : Int) - 1) = some inner := by
  rw [gCut_ok (by omega), hlen]
  have e1 : (1 : Int).toNat = 1 := rfl
  have e2 : (((inner.length + 2 : Nat) : Int) - 1).toNat - 1 = inner.length := by omega
  rw [e1, e2]
  simp
 have c2 : Zo (p0 :: (inner ++ [t])) 1 ((p0 :: (inner ++ [t])).length : Int) = some (inner ++ [t]) := by
  rw [Vq (by omega)]; rfl
 have top1 : Wc f.Dirs (p0 :: (inner ++ [t])) = if p0 < 0 ∨ (f.Dirs.length : Int) - 1 < p0 then some none else J7 (Xt f.Dirs p0) fun l => J7 (X6 l inner) fun r => some (r.map (p0.toNat :: ·)) := by
  unfold Wc
  rw [cI, if_neg (by omega), g0, Jg, Qs (by omega), Jg, out_tag, Jg, cI]
  split
  ·rfl
  ·rw [Qs (by omega)]
   simp only [Jg, c1]
 have top2 : ∀ v drop, Ve f (p0 :: (inner ++ [t])) v drop = if p0 < 0 ∨ (f.Dirs.length : Int) - 1 < p0 then some (noF, false) else J7 (Xt f.Dirs p0) fun l => J7 (X4 l (inner ++ [t]) v drop) fun q => Qj (!q.2) (some (noF, false)) (J7 (gSet f.Dirs p0 q.1) fun ls => some (⟨f.Big, ls⟩, true)) := fun v drop => by
  unfold Ve
  rw [cI, if_neg (by omega), g0, Jg, cI, cI]
  by_cases h0 : p0 < 0
  ·rw [if_pos h0, if_pos (.inl h0)]
  ·rw [if_neg h0]
   by_cases h1 : (f.Dirs.length : Int) ≤ p0
   ·rw [if_pos h1, if_pos (.inr (by omega))]
   ·rw [if_neg h1, if_neg (by omega), c2, cloneD (by omega)]
    simp only [Jg]
 have top3 : R_Got f (p0 :: (inner ++ [t])) = if p0 < 0 ∨ (f.Dirs.length : Int) - 1 < p0 then some (noV, false) else J7 (Xt f.Dirs p0) fun l => V6 (fun next2 s => Yu (p0 :: (inner ++ [t])) (inner ++ [t]) next2 s.1 s.2.1 s.2.2.1 s.2.2.2.1 s.2.2.2.2.1 s.2.2.2.2.2.1 s.2.2.2.2.2.2) (l, 0, 0, [], [], [], []) := by
  unfold R_Got
  rw [cI, if_neg (by omega), g0, Jg, cI]
  by_cases h0 : p0 < 0
  ·rw [if_pos h0, if_pos (.inl h0)]; rfl
  ·rw [if_neg h0, Jg, cI]
   by_cases h1 : (f.Dirs.length : Int) ≤ p0
   ·rw [if_pos h1, if_pos (.inr (by omega))]; rfl
   ·rw [if_neg h1, if_neg (by omega), Jg, c2]
    simp only [Jg]
 by_cases ho : p0 < 0 ∨ (f.Dirs.length : Int) - 1 < p0
 ·left
  exact ⟨by rw [top1, if_pos ho], fun v drop => by rw [top2, if_pos ho], by rw [top3, if_pos ho]⟩
 obtain ⟨i, rfl⟩ := Int.eq_ofNat_of_zero_le (show 0 ≤ p0 by omega)
 have hi : i < f.Dirs.length := by omega
 obtain ⟨o1, o2⟩ := hok _ (List.getElem_mem hi)
 rw [if_neg ho, Qq hi, Jg] at top1 top3
 have top2' : ∀ v drop, Ve f ((i : Int) :: (inner ++ [t])) v drop = J7 (X4 f.Dirs[i] (inner ++ [t]) v drop) fun q => Qj (!q.2) (some (noF, false)) (some (⟨f.Big, f.Dirs.set i q.1⟩, true)) := fun v drop => by
  rw [top2, if_neg ho, Qq hi, Jg]
  have : (fun q : List T_tag_Entry × Bool => Qj (!q.2) (some (noF, false)) (J7 (gSet f.Dirs (i : Int) q.1) fun ls => some ((⟨f.Big, ls⟩ : T_tag_File), true))) = fun q => Qj (!q.2) (some (noF, false)) (some (⟨f.Big, f.Dirs.set i q.1⟩, true)) := by
   funext q
   rw [Un (by omega) (by simpa using hi), Jg, Int.toNat_natCast]
  rw [← this]
 have hg := got (i : Int) t ((i : Int) :: (inner ++ [t])) (inner ++ [t]) (by omega) rfl inner 5 f.Dirs[i] [] (0, [], [], [], []) o1 rfl
 rcases chg t inner 5 f.Dirs[i] o1 with ⟨a1, a2⟩ | ⟨ks, a1, a2, a3, a4, a5, a6, a7⟩
 ·left
  refine ⟨by rw [top1, a1, Jg]; rfl, fun v drop => ?_, ?_⟩
  ·rw [top2', a2, Jg]; rfl
  ·rw [top3]; exact hg none a1
 ·right
  refine ⟨i, ks, t, 5 - ks.length, hi, by omega, by omega, by rw [top1, a1, Jg]; rfl, gl, a3, by omega, fun l' => by have := a5 l'; omega, a6, fun v drop q hq hz => ?_, ?_⟩
  ·rw [top2', a7 v drop q hq hz, Jg]
   obtain ⟨q1, q2⟩ := q
   cases q2 <;> rfl
  ·rw [top3]; exact hg (some ks) a1
def pth : Nat → List T_tag_Entry → List Int → List (List Int)
 | 0, _, _ => []
 | d + 1, l, p => l.flatMap fun e => (p ++ [e.Tag]) :: pth d e.Value.Entries (p ++ [e.Tag])
theorem pth_nil (d : Nat) (p : List Int) : pth d [] p = [] := by cases d <;> rfl
theorem pth_len : ∀ (d : Nat) (l : List T_tag_Entry) (p : List Int), (pth d l p).length ≤ Wg d l := by
 intro d
 induction d with
 | zero => intro l p; exact Nat.le_refl _
 | succ d ih =>
  intro l p
  induction l with
  | nil => exact Nat.zero_le _
  | cons e l ihl =>
   have := ih e.Value.Entries (p ++ [e.Tag])
   rw [V9]
   show ((p ++ [e.Tag]) :: pth d e.Value.Entries (p ++ [e.Tag]) ++ pth (d + 1) l p).length ≤ _
   rw [List.length_append, List.length_cons]
   unfold szE; omega
theorem pth_mem : ∀ (d : Nat) (l : List T_tag_Entry) (p : List Int), ∀ q ∈ pth d l p, q.length ≤ p.length + d := by
 intro d
 induction d with
 | zero => intro l p q h; cases h
 | succ d ih =>
  intro l p q h
  obtain ⟨e, _, he⟩ := List.mem_flatMap.1 h
  rcases List.mem_cons.1 he with h | h
  ·rw [h, List.length_append, List.length_singleton]; omega
  ·have := ih _ _ q h
   rw [List.length_append, List.length_singleton] at this; omega
theorem one_path (l : List (List Int)) (p : List Int) (v : T_tag_Value) (h : p.length ≤ 1000000) (hl : l.length ≤ 1000000000000) : tag_Paths_1 l p v = some (l ++ [p]) := by
 unfold tag_Paths_1
 rw [clone_eq p h, Jg, Um (by simp only [List.length_cons, List.length_nil]; omega), Jg]
theorem sub_ok {d : Nat} {e : T_tag_Entry} {l : List T_tag_Entry} (h : okR (d + 1) l ∨ l = []) (hm : e ∈ l) : okR d e.Value.Entries ∨ e.Value.Entries = [] := by
 rcases h with h | h
 ·obtain ⟨h1, h2⟩ := h.2.2 e hm
  by_cases hk : e.Value.Kind = 13
  ·exact .inl (h2 hk)
  ·exact .inr (no_entries h1 hk)
 ·rw [h] at hm; cases hm
theorem ok_len {d : Nat} {l : List T_tag_Entry} (h : okR d l ∨ l = []) : l.length ≤ 200 := by
 rcases h with h | h
 ·cases d with
  | zero => exact absurd h id
  | succ d => exact h.1
 ·rw [h]; exact Nat.zero_le _
theorem each_eq (d : Nat) : ∀ (a : List T_tag_Entry) (path : List Int) (l : List (List Int)), (okR d a ∨ a = []) → path.length + d ≤ 100 → l.length + (pth d a path).length ≤ 1000000000000 →
  tag_each a path l = some (l ++ pth d a path) := by
 intro a path l h1 h5 h6
 unfold tag_each
 refine fix_ofG (fun (g : Nat) (s : List T_tag_Entry × List Int × List (List Int)) => some (s.2.2 ++ pth g s.1 s.2.1))
  (fun g s => (okR g s.1 ∨ s.1 = []) ∧ s.2.1.length + g ≤ 100 ∧ s.2.2.length + (pth g s.1 s.2.1).length ≤ 1000000000000) (fun g => g) ?_ d (a, path, l) ⟨h1, h5, h6⟩
 clear h1 h5 h6 a path l d
 rintro next g ⟨a, path, l⟩ ⟨h1, h5, h6⟩ ih
 simp only at h1 h5 h6 ih
 show Z8 next a path l = some (l ++ pth g a path)
 have hal := ok_len h1
 unfold Z8
 cases g with
 | zero =>
  rcases h1 with h1 | h1
  ·exact absurd h1 id
  ·refine Xi fun nx => ?_
   show Y0 a path next nx 0 l = _
   unfold Y0
   rw [cI, h1, if_neg (by simp), pth_nil, List.append_nil]
 | succ d =>
  have key : ∀ m i : Nat, i + m = a.length → ∀ l : List (List Int), l.length + (pth (d + 1) (a.drop i) path).length ≤ 1000000000000 → V6 (fun next1 s => Y0 a path next next1 s.1 s.2) ((i : Int), l) = some (l ++ pth (d + 1) (a.drop i) path) := by
   intro m
   induction m with
   | zero =>
    intro i hi l _
    rw [List.drop_eq_nil_of_le (by omega), pth_nil, List.append_nil]
    refine Xi fun nx => ?_
    show Y0 a path next nx (i : Int) l = _
    unfold Y0
    rw [cI, if_neg (by omega)]
   | succ m ihm =>
    intro i hi l hl
    have hlt : i < a.length := by omega
    have hpl : (path ++ [a[i].Tag]).length = path.length + 1 := by simp
    have e : pth (d + 1) (a.drop i) path = (path ++ [a[i].Tag]) :: pth d a[i].Value.Entries (path ++ [a[i].Tag]) ++ pth (d + 1) (a.drop (i + 1)) path := by
     rw [List.drop_eq_getElem_cons hlt]; rfl
    rw [e] at hl ⊢
    rw [List.length_append, List.length_cons] at hl
    have hs := ih d (a[i].Value.Entries, path ++ [a[i].Tag], l ++ [path ++ [a[i].Tag]]) ⟨sub_ok h1 (List.getElem_mem hlt), by simp only [hpl]; omega, by simp only [List.length_append, List.length_singleton] at hl ⊢; omega⟩ (by omega)
    simp only at hs
    refine Eq.trans (Yr (((i + 1 : Nat) : Int), l ++ [path ++ [a[i].Tag]] ++ pth d a[i].Value.Entries (path ++ [a[i].Tag])) fun nx => ?_) ((ihm (i + 1) (by omega) _ (by simp only [List.length_append, List.length_singleton] at hl ⊢; omega)).trans ?_)
    ·show Y0 a path next nx (i : Int) l = _
     unfold Y0
     rw [cI, if_pos (by omega), Qq hlt, Jg, Um (by simp only [List.length_cons, List.length_nil]; omega), Jg, one_path _ _ _ (by omega) (by omega), Jg, hs, Jg, Qs (by omega), Jg]; rfl
    ·simp only [List.append_assoc, List.cons_append, List.nil_append]
  exact key a.length 0 (by omega) l h6
theorem below_eq (d : Nat) : ∀ (a : List T_tag_Entry) (path : List Int), (okR d a ∨ a = []) → path.length + d ≤ 100 → (pth d a path).length ≤ 1000000000000 → R_below a path = some (pth d a path) := by
 intro a path h1 h5 h6
 unfold R_below
 refine fix_ofG (fun (g : Nat) (s : List T_tag_Entry × List Int) => some (pth g s.1 s.2))
  (fun g s => (okR g s.1 ∨ s.1 = []) ∧ s.2.length + g ≤ 100 ∧ (pth g s.1 s.2).length ≤ 1000000000000) (fun g => g) ?_ d (a, path) ⟨h1, h5, h6⟩
 clear h1 h5 h6 a path d
 rintro next g ⟨a, path⟩ ⟨h1, h5, h6⟩ ih
 simp only at h1 h5 h6 ih
 show Vw next a path = some (pth g a path)
 have hal := ok_len h1
 unfold Vw
 cases g with
 | zero =>
  rcases h1 with h1 | h1
  ·exact absurd h1 id
  ·refine Xi fun nx => ?_
   show Zy a path next nx 0 [] = _
   unfold Zy
   rw [cI, h1, if_neg (by simp), pth_nil]
 | succ d =>
  have key : ∀ m i : Nat, i + m = a.length → ∀ l : List (List Int), l.length + (pth (d + 1) (a.drop i) path).length ≤ 1000000000000 → V6 (fun next1 s => Zy a path next next1 s.1 s.2) ((i : Int), l) = some (l ++ pth (d + 1) (a.drop i) path) := by
   intro m
   induction m with
   | zero =>
    intro i hi l _
    rw [List.drop_eq_nil_of_le (by omega), pth_nil, List.append_nil]
    refine Xi fun nx => ?_
    show Zy a path next nx (i : Int) l = _
    unfold Zy
    rw [cI, if_neg (by omega)]
   | succ m ihm =>
    intro i hi l hl
    have hlt : i < a.length := by omega
    have hpl : (path ++ [a[i].Tag]).length = path.length + 1 := by simp
    have e : pth (d + 1) (a.drop i) path = (path ++ [a[i].Tag]) :: pth d a[i].Value.Entries (path ++ [a[i].Tag]) ++ pth (d + 1) (a.drop (i + 1)) path := by
     rw [List.drop_eq_getElem_cons hlt]; rfl
    rw [e] at hl ⊢
    rw [List.length_append, List.length_cons] at hl
    have hs := ih d (a[i].Value.Entries, path ++ [a[i].Tag]) ⟨sub_ok h1 (List.getElem_mem hlt), by simp only [hpl]; omega, by simp only; omega⟩ (by omega)
    simp only at hs
    refine Eq.trans (Yr (((i + 1 : Nat) : Int), l ++ [path ++ [a[i].Tag]] ++ pth d a[i].Value.Entries (path ++ [a[i].Tag])) fun nx => ?_) ((ihm (i + 1) (by omega) _ (by simp only [List.length_append, List.length_singleton] at hl ⊢; omega)).trans ?_)
    ·show Zy a path next nx (i : Int) l = _
     unfold Zy
     rw [cI, if_pos (by omega), Qq hlt, Jg, clone_eq _ (by omega), Jg, Um (by simp only [List.length_cons, List.length_nil]; omega), Jg, Um (by simp only [List.length_cons, List.length_nil]; omega), Jg, hs, Jg,
      Um (by rw [List.length_append, List.length_singleton]; omega), Jg, Qs (by omega), Jg]; rfl
    ·simp only [List.append_assoc, List.cons_append, List.nil_append]
  exact key a.length 0 (by omega) [] (by simpa using h6)
def pthF : List (List T_tag_Entry) → Nat → List (List Int)
 | [], _ => []
 | l :: ls, i => pth 5 l [(i : Int)] ++ pthF ls (i + 1)
theorem pthF_len : ∀ (ls : List (List T_tag_Entry)) (i : Nat), okC ls → (pthF ls i).length ≤ 1048576 * ls.length
 | [], _, _ => Nat.zero_le _
 | l :: ls, i, h => by
  have h1 := pthF_len ls (i + 1) fun x hx => h x (.tail _ hx)
  have h2 := pth_len 5 l [(i : Int)]
  have h3 := (h l (.head _)).2
  rw [pthF, List.length_append, List.length_cons]; omega
theorem pthF_mem : ∀ (ls : List (List T_tag_Entry)) (i : Nat), ∀ q ∈ pthF ls i, q.length ≤ 6
 | [], _, q, h => by cases h
 | l :: ls, i, q, h => by
  rw [pthF] at h
  rcases List.mem_append.1 h with h | h
  ·have := pth_mem 5 l _ q h
   rw [List.length_singleton] at this; omega
  ·exact pthF_mem ls (i + 1) q h
theorem PathsOf_eq {f : T_tag_File} (h1 : okC f.Dirs) (hn : f.Dirs.length ≤ 20) : R_PathsOf f = some (pthF f.Dirs 0) := by
 have key : ∀ m i : Nat, i + m = f.Dirs.length → ∀ l : List (List Int), l.length ≤ 1048576 * i → V6 (fun next1 s => Zl f next1 s.1 s.2) ((i : Int), l) = some (l ++ pthF (f.Dirs.drop i) i) := by
  intro m
  induction m with
  | zero =>
   intro i hi l _
   rw [List.drop_eq_nil_of_le (by omega)]
   refine Xi fun next => ?_
   show Zl f next (i : Int) l = _
   unfold Zl
   rw [cI, if_neg (by omega), pthF, List.append_nil]
  | succ m ih =>
   intro i hi l hll
   have hf : i < f.Dirs.length := by omega
   obtain ⟨a1, a2⟩ := h1 _ (List.getElem_mem hf)
   have h3 := pth_len 5 f.Dirs[i] [(i : Int)]
   rw [List.drop_eq_getElem_cons hf, pthF, ← List.append_assoc]
   refine Eq.trans (Yr (((i + 1 : Nat) : Int), l ++ pth 5 f.Dirs[i] [(i : Int)]) fun next => ?_) (ih (i + 1) (by omega) _ (by rw [List.length_append]; omega))
   show Zl f next (i : Int) l = _
   unfold Zl
   rw [cI, if_pos (by omega), Qq hf, Jg, below_eq 5 _ _ (.inl a1) (by rw [List.length_singleton]; omega) (by omega), Jg, Um (by omega), Jg, Qs (by omega), Jg]; rfl
 exact key f.Dirs.length 0 (by omega) [] (Nat.zero_le _)
theorem Paths_eq {f : T_tag_File} (h1 : okC f.Dirs) (hn : f.Dirs.length ≤ 20) (hc : Zt f = some 0) : tag_Paths f = some (pthF f.Dirs 0, 0) := by
 have key : ∀ m i : Nat, i + m = f.Dirs.length → ∀ l : List (List Int), l.length ≤ 1048576 * i → V6 (fun next2 s => Zi f next2 s.1 s.2) ((i : Int), l) = some (l ++ pthF (f.Dirs.drop i) i, 0) := by
  intro m
  induction m with
  | zero =>
   intro i hi l _
   rw [List.drop_eq_nil_of_le (by omega)]
   refine Xi fun next => ?_
   show Zi f next (i : Int) l = _
   unfold Zi
   rw [cI, if_neg (by omega), pthF, List.append_nil]; rfl
  | succ m ih =>
   intro i hi l hll
   have hf : i < f.Dirs.length := by omega
   obtain ⟨a1, a2⟩ := h1 _ (List.getElem_mem hf)
   have h3 := pth_len 5 f.Dirs[i] [(i : Int)]
   rw [List.drop_eq_getElem_cons hf, pthF, ← List.append_assoc]
   refine Eq.trans (Yr (((i + 1 : Nat) : Int), l ++ pth 5 f.Dirs[i] [(i : Int)]) fun next => ?_) (ih (i + 1) (by omega) _ (by rw [List.length_append]; omega))
   show Zi f next (i : Int) l = _
   unfold Zi
   rw [cI, if_pos (by omega), Qq hf, Jg, each_eq 5 _ _ _ (.inl a1) (by rw [List.length_singleton]; omega) (by omega), Jg, Qs (by omega), Jg]; rfl
 unfold tag_Paths
 rw [hc, Jg, cI, if_neg (fun hh => hh rfl)]
 exact key f.Dirs.length 0 (by omega) [] (Nat.zero_le _)
end Go.M

/- TagPaths, in plain Lean: the law. Conditions: sizes. -/
namespace Go.M
open Go.Md Go.Pl
set_option linter.unusedVariables false
def fileC (f : T_tag_File) : Prop := f.Dirs.length ≤ 1048576 ∧ ∀ l ∈ f.Dirs, Wg 5 l ≤ 1048576
theorem fileC_of {f : T_tag_File} (h1 : f.Dirs.length ≤ 1048576) (h2 : (f.Dirs.map (Wg 5)).sum ≤ 1048576) : fileC f := ⟨h1, fun l hl => by have := sz_in hl; omega⟩
def valueC (v : T_tag_Value) : Prop := v.Text.length + v.Ints.length + v.Ratios.length ≤ 1048576 ∧ Wg 5 v.Entries ≤ 1048576
theorem valueC_of {v : T_tag_Value} (h1 : v.Text.length + v.Ints.length + v.Ratios.length ≤ 1048576) (h2 : Wg 5 v.Entries ≤ 1048576) : valueC v := ⟨h1, h2⟩
theorem sum_in {N : Nat} : ∀ {ls : List (List T_tag_Entry)}, (∀ l ∈ ls, Wg 5 l ≤ N) → (ls.map (Wg 5)).sum ≤ ls.length * N
 | [], _ => Nat.zero_le _
 | l :: ls, h => by
  have h1 := sum_in (ls := ls) fun x hx => h x (.tail _ hx)
  have h2 := h l (.head _)
  rw [List.map_cons, List.sum_cons, List.length_cons, Nat.add_mul]; omega
theorem fileB_few {f : T_tag_File} (hn : f.Dirs.length ≤ 20) (h : ∀ l ∈ f.Dirs, Wg 5 l ≤ 8000000) : fileB f := by
 refine ⟨h, ?_⟩
 have h1 := sum_in h
 have h2 := Nat.mul_le_mul_right 8000000 hn
 rw [szL_eq]; omega
theorem Check_C {f : T_tag_File} (h : fileC f) : ∃ e : Int, Zt f = some e ∧ Wh f = some e ∧ (e = 0 → okC f.Dirs ∧ f.Dirs.length ≤ 20) := by
 by_cases hn : 20 < f.Dirs.length
 ·refine ⟨4, ?_, ?_, fun h => by omega⟩
  ·unfold Zt; rw [cI, if_pos (by omega)]
  ·unfold Wh; rw [cI, if_pos (by omega)]
 ·have hb : fileB f := fileB_few (by omega) fun l hl => by have := h.2 l hl; omega
  refine ⟨fileE f, Check_eq hb, FileFault_eq hb, fun h0 => ⟨fun l hl => ?_, by omega⟩⟩
  unfold fileE at h0
  rw [if_neg hn] at h0
  split at h0
  ·rename_i h1; exact absurd h0 h1
  rename_i h1
  exact ⟨dE_okR (firstD_ok (by simpa using h1) l hl), h.2 l hl⟩
theorem fitF8 {f : T_tag_File} (h : okC f.Dirs) (hn : f.Dirs.length ≤ 20) : fitF 8 f := ⟨by omega, fun l hl => by obtain ⟨h1, h2⟩ := h l hl; exact fits8 h1 (by omega) (by omega)⟩
theorem getF_at {ls : List (List T_tag_Entry)} {i : Nat} (hi : i < ls.length) (ks : List Nat) : getF (i :: ks) ls = Y6 ks ls[i] := by rw [getF, List.getElem?_eq_getElem hi]
theorem putF_at {ls : List (List T_tag_Entry)} {i : Nat} (hi : i < ls.length) (ks : List Nat) (l' : List T_tag_Entry) : putF (i :: ks) ls l' = ls.set i (putL ks ls[i] l') := by rw [putF, List.getElem?_eq_getElem hi]
theorem Get_eq {f : T_tag_File} {path : List Int} (hok : okC f.Dirs) (hn : f.Dirs.length ≤ 20) (hp : path.length ≤ 1048576) (hc : Zt f = some 0) :
  ∃ x b, tag_Get f path = some (x, if b = true then 0 else 7) ∧ R_Got f path = some (x, b) ∧ Zq x x = some true := by
 unfold tag_Get
 rw [hc, Jg, cI, if_neg (fun hh => hh rfl)]
 rcases top f path hok hn hp with ⟨h1, _, h3⟩ | ⟨i, ks, t, d, hi, hd5, hd, h1, h2, h3, h4, _, _, _, h8⟩
 ·exact ⟨noV, false, by rw [h1, Jg]; rfl, h3, sameV0⟩
 ·rw [h1, Jg]
  dsimp only
  rw [Qs (by omega), Jg, h2, Jg, getF_at hi, place_eq]
  unfold gotL at h8
  obtain ⟨d, rfl⟩ : ∃ k, d = k + 1 := ⟨d - 1, by omega⟩
  obtain ⟨o1, o2, o3⟩ := h3
  obtain ⟨k, hk, hf | ⟨hk', hf, ht⟩⟩ := find_ix (Y6 ks f.Dirs[i]) t o2 o1
  ·rw [hf, Jg, Qd] at h8
   exact ⟨noV, false, by rw [hf, Jg]; rfl, h8, sameV0⟩
  ·rw [hf, Jg, Qh] at h8
   have h8' : R_Got f path = J7 (Xt (Y6 ks f.Dirs[i]) (k : Int)) fun e => some (e.Value, true) := h8
   rw [Qq hk', Jg] at h8'
   have hm : (Y6 ks f.Dirs[i])[k] ∈ Y6 ks f.Dirs[i] := List.getElem_mem hk'
   have hs := szD_mem (d := d) hm
   unfold szE at hs
   have hv : fitV 8 (Y6 ks f.Dirs[i])[k].Value := fitV8 (d := d) (by omega) (o3 _ hm).1 (o3 _ hm).2 (by omega) (by omega) (by omega)
   refine ⟨_, true, ?_, h8', sameV hv⟩
   rw [hf, Jg]
   show Qj false _ _ = _
   rw [Qd]
   show J7 (Xt (Y6 ks f.Dirs[i]) (k : Int)) _ = _
   rw [Qq hk', Jg, if_pos hv]; rfl
theorem fits_del {m : Nat} {l : List T_tag_Entry} {i j : Int} (hh : i.toNat ≤ j.toNat) (h : fits m l) : fits m (Wx l i j) := by
 cases m with
 | zero => exact absurd h id
 | succ m =>
  unfold Wx
  refine ⟨?_, fun x hx => ?_⟩
  ·have := h.1
   rw [List.length_append, List.length_take, List.length_drop]
   omega
  ·rcases List.mem_append.1 hx with hx | hx
   ·exact h.2 x (List.mem_of_mem_take hx)
   ·exact h.2 x (List.mem_of_mem_drop hx)
theorem same_set {f : T_tag_File} {i : Nat} {l : List T_tag_Entry} (hf : fitF 8 f) (h : fits 8 l) : Ys ⟨f.Big, f.Dirs.set i l⟩ ⟨f.Big, f.Dirs.set i l⟩ = some true := by
 refine sameFile_self (fun x hx => ?_) (by have := hf.1; simp only [List.length_set]; omega)
 rcases List.mem_or_eq_of_mem_set hx with hx | rfl
 ·exact sameD (hf.2 x hx)
 ·exact sameD h
theorem Drop_eq {f : T_tag_File} {path : List Int} (hok : okC f.Dirs) (hn : f.Dirs.length ≤ 20) (hp : path.length ≤ 1048576) (hc : Zt f = some 0) :
  ∃ g b, tag_Drop f path = some (g, if b = true then 0 else 7) ∧ (∀ v, Ve f path v true = some (g, b)) ∧ Ys g g = some true ∧ (b = false → g = noF) := by
 have hf8 := fitF8 hok hn
 unfold tag_Drop
 rw [hc, Jg, cI, if_neg (fun hh => hh rfl), if_pos hf8]
 rcases top f path hok hn hp with ⟨h1, h2, _⟩ | ⟨i, ks, t, d, hi, hd5, hd, h1, h2, h3, h4, h5, h6, h7, _⟩
 ·exact ⟨noF, false, by rw [h1, Jg]; rfl, fun v => h2 v true, Ug, fun _ => rfl⟩
 ·rw [h1, Jg]
  dsimp only
  rw [Qs (by omega), Jg, h2, Jg, getF_at hi, place_eq]
  obtain ⟨d, rfl⟩ : ∃ k, d = k + 1 := ⟨d - 1, by omega⟩
  obtain ⟨o1, o2, o3⟩ := h3
  obtain ⟨k, hk, hf | ⟨hk', hf, ht⟩⟩ := find_ix (Y6 ks f.Dirs[i]) t o2 o1
  ·refine ⟨noF, false, by rw [hf, Jg]; rfl, fun v => ?_, Ug, fun _ => rfl⟩
   rw [h7 v true _ (last_eq _ t v true false k o1 hk hf (fun h => by cases h)) (fun _ => rfl)]; rfl
  ·refine ⟨⟨f.Big, f.Dirs.set i (putL ks f.Dirs[i] (Wx (Y6 ks f.Dirs[i]) k ((k : Int) + 1)))⟩, true, ?_, fun v => ?_, ?_, fun h => by cases h⟩
   ·rw [hf, Jg]
    show Qj false _ _ = _
    rw [Qd]
    show J7 (gI ((k : Int) + 1)) _ = _
    rw [Qs (by omega), Jg]
    show J7 (gDelN (Y6 ks f.Dirs[i]) (k : Int) ((k : Int) + 1)) _ = _
    rw [gDelN_ok (by omega), Jg, putF_at hi]; rfl
   ·rw [h7 v true _ (last_eq _ t v true true k o1 hk hf (fun _ => ⟨hk', ht⟩)) (fun h => by cases h)]; rfl
   ·exact same_set hf8 (h6 _ 8 (hf8.2 _ (List.getElem_mem hi)) fun m hm => fits_del (by omega) hm)
theorem Put_eq {f : T_tag_File} {path : List Int} {v : T_tag_Value} (hv : valueC v) (hok : okC f.Dirs) (hn : f.Dirs.length ≤ 20) (hp : path.length ≤ 1048576) (hc : Zt f = some 0) :
  ∃ g b, Ve f path v false = some (g, b) ∧ (if valE v ≠ 0 then V7 f path v = some (noF, valE v) else if b = false then g = noF ∧ V7 f path v = some (noF, 7) else fileB g ∧ V7 f path v = some (if fileE g = 0 then g else noF, fileE g)) := by
 have hf8 := fitF8 hok hn
 have hvB : vB v := by have := hv.1; unfold vB; omega
 have hz : Wg 5 v.Entries ≤ 8000000 := by have := hv.2; omega
 have hput : V7 f path v = if valE v ≠ 0 then some (noF, valE v) else J7 (Wc f.Dirs path) fun r => match r with
  | none => some (noF, 7)
  | some ks => J7 (gI ((path.length : Int) - 1)) fun q => J7 (Xt path q) fun t => J7 (Us (getF ks f.Dirs) t) fun p => Qj p.2 (J7 (gSet (getF ks f.Dirs) p.1 (⟨t, v⟩ : T_tag_Entry)) fun l' => Uc ks f l') (J7 (gInsN 104 (getF ks f.Dirs) p.1 (⟨t, v⟩ : T_tag_Entry)) fun l' => Uc ks f l') := by
  unfold V7
  rw [hc, Jg, cI, if_neg (fun hh => hh rfl), CheckValue_eq hvB hz, Jg, cI]
  by_cases h0 : valE v = 0
  ·have hn0 : ¬ valE v ≠ 0 := fun hh => hh h0
   obtain ⟨v1, v2⟩ := val_ok h0
   rw [if_neg hn0, if_neg hn0, if_pos ⟨hf8, fitV8 (d := 5) (by omega) v1 v2 (by have := hv.1; omega) (by have := hv.1; omega) (by have := hv.2; omega)⟩]
   refine congrArg _ (funext fun r => ?_)
   cases r <;> rfl
  ·rw [if_pos h0, if_pos h0]
 rcases top f path hok hn hp with ⟨h1, h2, _⟩ | ⟨i, ks, t, d, hi, hd5, hd, h1, h2, h3, h4, h5, h6, h7, _⟩
 ·refine ⟨noF, false, h2 v false, ?_⟩
  rw [hput, h1]
  split
  ·rfl
  ·rw [if_pos rfl]; exact ⟨rfl, rfl⟩
 ·obtain ⟨d, rfl⟩ : ∃ k, d = k + 1 := ⟨d - 1, by omega⟩
  have h3' := h3
  obtain ⟨o1, o2, o3⟩ := h3'
  have hx : szE d ⟨t, v⟩ ≤ 2097153 := by
   have a1 := hv.1
   have a2 := hv.2
   have a3 := szD_le (show d ≤ 5 by omega) v.Entries
   unfold szE; simp only; omega
  have fin : ∀ l' : List T_tag_Entry, Wg (d + 1) l' ≤ Wg (d + 1) (Y6 ks f.Dirs[i]) + szE d ⟨t, v⟩ → X4 (Y6 ks f.Dirs[i]) [t] v false = some (l', true) → (valE v = 0 → V7 f path v = Uc (i :: ks) f l') →
    ∃ g b, Ve f path v false = some (g, b) ∧ (if valE v ≠ 0 then V7 f path v = some (noF, valE v) else if b = false then g = noF ∧ V7 f path v = some (noF, 7) else fileB g ∧ V7 f path v = some (if fileE g = 0 then g else noF, fileE g)) := fun l' hs hr hP => by
   refine ⟨_, true, h7 v false _ hr (fun h => by cases h), ?_⟩
   dsimp only
   by_cases h0 : valE v = 0
   ·have hn0 : ¬ valE v ≠ 0 := fun hh => hh h0
    rw [if_neg hn0, if_neg (by simp)]
    have hb : fileB ⟨f.Big, f.Dirs.set i (putL ks f.Dirs[i] l')⟩ := by
     refine fileB_few (by simp only [List.length_set]; omega) fun l hl => ?_
     rcases List.mem_or_eq_of_mem_set hl with hl | rfl
     ·have := (hok l hl).2; omega
     ·have := h5 l'; omega
    refine ⟨hb, ?_⟩
    rw [hP h0]
    unfold Uc
    rw [putF_at hi, Check_eq hb, Jg, cI]
    generalize fileE ⟨f.Big, f.Dirs.set i (putL ks f.Dirs[i] l')⟩ = c
    by_cases hh : c = 0
    ·have hh' : ¬ c ≠ 0 := fun x => x hh
     rw [if_neg hh', if_pos hh, hh]
    ·rw [if_pos hh, if_neg hh]
   ·rw [if_pos h0, hput, if_pos h0]
  have hP : valE v = 0 → V7 f path v = J7 (R_find (Y6 ks f.Dirs[i]) t) fun p => Qj p.2 (J7 (gSet (Y6 ks f.Dirs[i]) p.1 (⟨t, v⟩ : T_tag_Entry)) fun l' => Uc (i :: ks) f l') (J7 (gInsN 104 (Y6 ks f.Dirs[i]) p.1 (⟨t, v⟩ : T_tag_Entry)) fun l' => Uc (i :: ks) f l') := fun h0 => by
   rw [hput, if_neg (fun hh => hh h0), h1, Jg]
   dsimp only
   rw [Qs (by omega), Jg, h2, Jg, getF_at hi, place_eq]
  obtain ⟨k, hk, hf | ⟨hk', hf, ht⟩⟩ := find_ix (Y6 ks f.Dirs[i]) t o2 o1
  ·refine fin (Y4 (Y6 ks f.Dirs[i]) k ⟨t, v⟩) ?_ (last_eq _ t v false false k o1 hk hf (fun h => by cases h)) fun h0 => ?_
   ·have := szD_take d k (Y6 ks f.Dirs[i])
    unfold Y4
    rw [Int.toNat_natCast, szD_app, szD_app, V9, szD_nil]; omega
   ·rw [hP h0, hf, Jg, Qd]
    show J7 (gInsN 104 (Y6 ks f.Dirs[i]) (k : Int) _) _ = _
    rw [gInsN_ok (by omega), Jg]
  ·refine fin ((Y6 ks f.Dirs[i]).set k ⟨t, v⟩) ?_ (last_eq _ t v false true k o1 hk hf (fun _ => ⟨hk', ht⟩)) fun h0 => ?_
   ·have := szD_set d ⟨t, v⟩ (Y6 ks f.Dirs[i]) k hk'
    omega
   ·rw [hP h0, hf, Jg, Qh]
    show J7 (gSet (Y6 ks f.Dirs[i]) (k : Int) _) _ = _
    rw [Un (by omega) (by simpa using hk'), Jg, Int.toNat_natCast]
theorem file_none (e : Int) (b : T_tag_File) (he : e ≠ 0) : W6 noF e b e = some true := by
 unfold W6 W8
 rw [cI, if_pos he]
 have : Ys noF ⟨false, []⟩ = some true := Ug
 rw [this, Jg, Qh, decide_eq_true rfl]
theorem file_same {f : T_tag_File} (h : Ys f f = some true) : W6 f 0 f 0 = some true := file_self h fun h => absurd rfl h
theorem tagPaths_all (f : T_tag_File) (path : List Int) (v : T_tag_Value) (hf : fileC f) (hp : path.length ≤ 1048576) (hv : valueC v) : Law_TagPaths f path v = some true := by
 obtain ⟨e, hc, hr, hok⟩ := Check_C hf
 have hvB : vB v := by have := hv.1; unfold vB; omega
 have hz : Wg 5 v.Entries ≤ 8000000 := by have := hv.2; omega
 unfold Law_TagPaths
 rw [hr, Jg]
 by_cases he : e = 0
 ·subst he
  obtain ⟨h1, h2⟩ := hok rfl
  rw [Paths_eq h1 h2 hc, Jg, cI, if_pos rfl, PathsOf_eq h1 h2, Jg]
  unfold Vp
  have hpl := pthF_len f.Dirs 0 h1
  rw [lists_ok (by rw [if_pos rfl]) rfl (by show (pthF f.Dirs 0).length ≤ _; omega) (fun q hq => by have := pthF_mem _ _ q hq; omega), Jg]
  show Qj false _ _ = _
  rw [Qd]
  obtain ⟨x, b, g1, g2, g3⟩ := Get_eq h1 h2 hp hc
  obtain ⟨g, ok, d1, d2, d3, d4⟩ := Drop_eq h1 h2 hp hc
  obtain ⟨n, pk, p1, p2⟩ := Put_eq hv h1 h2 hp hc
  obtain ⟨pg, pe, hput⟩ : ∃ pg pe, V7 f path v = some (pg, pe) := by
   split at p2
   ·exact ⟨_, _, p2⟩
   ·split at p2
    ·exact ⟨_, _, p2.2⟩
    ·exact ⟨_, _, p2.2⟩
  rw [g1, Jg, hput, Jg, d1, Jg, cI, if_neg (fun hh => hh rfl), g2, Jg]
  have j4 : ∀ c : Int, (c = 0 → ∃ e, Wh n = some e ∧ W6 pg pe n e = some true) → (c ≠ 0 → W6 pg pe n c = some true) → Yj (pg, pe) (n, pk) c = some true := fun c a1 a2 => by
   unfold Yj Wt
   rw [cI]
   split
   ·rename_i h0
    obtain ⟨e, b1, b2⟩ := a1 h0
    dsimp only
    rw [b1, Jg, b2, Jg]
   ·rename_i h0
    dsimp only
    rw [a2 h0, Jg]
  have j3 : ∀ c : Int, W6 g (if ok = true then 0 else 7) g c = some true → Yw f path v (pg, pe) (g, if ok = true then 0 else 7) (g, ok) c = some true := fun c h => by
   unfold Yw
   dsimp only
   rw [h, Jg]
   show Qj false _ _ = _
   rw [Qd, ValueFaultq_eq hvB hz, Jg, p1, Jg, cI]
   rw [hput] at p2
   by_cases h0 : valE v = 0
   ·rw [if_neg (fun hh => hh h0)] at p2
    rw [if_pos h0]
    cases pk
    ·rw [if_pos rfl] at p2
     obtain ⟨q1, q2⟩ := p2
     obtain ⟨rfl, rfl⟩ := Prod.mk.inj (Option.some.inj q2)
     show Yj _ _ 7 = _
     exact j4 7 (fun h => by omega) fun _ => file_none 7 _ (by omega)
    ·rw [if_neg (by simp)] at p2
     obtain ⟨q1, q2⟩ := p2
     obtain ⟨rfl, rfl⟩ := Prod.mk.inj (Option.some.inj q2)
     show Yj _ _ (valE v) = _
     refine j4 _ (fun _ => ⟨fileE n, FileFault_eq q1, ?_⟩) fun hh => absurd h0 hh
     by_cases hn : fileE n = 0
     ·rw [if_pos hn, hn]; exact file_same (sameFile_ok q1 hn)
     ·rw [if_neg hn]; exact file_none _ _ hn
   ·rw [if_pos h0] at p2
    rw [if_neg h0]
    obtain ⟨rfl, rfl⟩ := Prod.mk.inj (Option.some.inj p2)
    exact j4 _ (fun h => absurd h h0) fun _ => file_none _ _ h0
  have j2 : Vr f path v (pg, pe) (g, if ok = true then 0 else 7) = some true := by
   unfold Vr
   rw [d2 v, Jg]
   cases ok
   ·show Yw f path v (pg, pe) (g, if false = true then 0 else 7) (g, false) 7 = _
    refine j3 7 ?_
    rw [d4 rfl]; exact file_none 7 _ (by omega)
   ·show Yw f path v (pg, pe) (g, if true = true then 0 else 7) (g, true) 0 = _
    exact j3 0 (file_same d3)
  cases b
  ·show Qj (decide (false ≠ decide ((7 : Int) = 0))) _ _ = _
   rw [decide_eq_false (show ¬ (7 : Int) = 0 by omega), decide_eq_false (fun hh => hh rfl), Qd]
   show Qj true (Qj (decide ((7 : Int) ≠ 7)) _ (J7 (Zq x x) _)) _ = _
   rw [Qh, decide_eq_false (fun hh => hh rfl), Qd, g3, Jg]
   exact j2
  ·show Qj (decide (true ≠ decide ((0 : Int) = 0))) _ _ = _
   rw [decide_eq_true (show (0 : Int) = 0 from rfl), decide_eq_false (fun hh => hh rfl), Qd]
   show Qj false _ (J7 (Zq x x) _) = _
   rw [Qd, g3, Jg]
   exact j2
 ·have hP : tag_Paths f = some ([], e) := by unfold tag_Paths; rw [hc, Jg, cI, if_pos he]
  have hG : tag_Get f path = some (noV, e) := by unfold tag_Get; rw [hc, Jg, cI, if_pos he]
  have hU : V7 f path v = some (noF, e) := by unfold V7; rw [hc, Jg, cI, if_pos he]
  have hD : tag_Drop f path = some (noF, e) := by unfold tag_Drop; rw [hc, Jg, cI, if_pos he]
  have s1 : Zq noV ⟨0, [], [], [], []⟩ = some true := sameV0
  have s2 : Ys noF ⟨false, []⟩ = some true := Ug
  rw [hP, Jg, cI, if_neg he]
  unfold Vp
  rw [lists_ok (by rw [if_neg he]) rfl (by simp) (by simp), Jg]
  show Qj false _ _ = _
  rw [Qd, hG, Jg, hU, Jg, hD, Jg, cI, if_pos he]
  dsimp only
  rw [decide_eq_true rfl, Qh, Qh, Qh, s1, Jg, Qh, s2, Jg, Qh, Jg]
theorem tagPathsS (f : T_tag_File) (path : List Int) (v : T_tag_Value) (hf : fileC f) (hp : path.length ≤ 1048576) (hv : valueC v) : Law_TagPaths f path v = some true := tagPaths_all f path v hf hp hv
end Go.M

/- What a claim says of a call's arguments, as rows: slices, arrays, structs, strings. Conditions: none. -/
namespace Go.Vc
open Go
variable {H : Type} {enc : TypeId × Value → H} {P : Program} {w : World} {base : Nat} {spare : Nat → Bool} {held : Bool}
theorem Wo {w : World} {base k : Nat} {a : Addr} {cs : List Value} (h : w.cells? base a k = some cs) : cs.length = k ∧ ∀ i, i < k → w.cell? (a.add i) = cs[i]? :=
 (World.cells?_some h).2
theorem cell_spot {w : World} {a : Addr} {v : Value} (h : w.cell? a = some v) : a.spot = none := by
 unfold World.cell? at h
 split at h
 ·split at h
  ·cases h
  ·rename_i hs; simpa using hs
 ·cases h
theorem op_int {t fuel : Nat} {k : IntKind} {cs : List Value} {x : DataW H × List MemPlace} (ht : P.underlying t = some (.int k)) (h : DataW.trod enc P w base spare held fuel t cs = some x) : ∃ n : Int, cs = [.int k n] ∧ (Lit.int k n).wf = true := by
 obtain ⟨n, h1, _, h2⟩ := DataW.trod_int ht h
 exact ⟨n, h1, h2⟩
theorem op_bool {t fuel : Nat} {cs : List Value} {x : DataW H × List MemPlace} (ht : P.underlying t = some .bool) (h : DataW.trod enc P w base spare held fuel t cs = some x) : ∃ b : Bool, cs = [.bool b] := by
 obtain ⟨n, h1, _⟩ := DataW.trod_bool ht h
 exact ⟨n, h1⟩
end Go.Vc

/- What a claim says of a call's arguments, as values of plain types: parts of structs, arrays, slices. Conditions: none. -/
namespace Go.Lx
open Go Go.Vc Go.Md
variable {H : Type} {enc : TypeId × Value → H} {P : Program} {w : World} {base : Nat} {spare : Nat → Bool} {held : Bool}
theorem piece {cs l : List Value} {o s : Nat} (h : (cs.drop o).take s = l) (hl : l.length = s) : cs.drop o = l ++ cs.drop (o + s) := by
 have := List.take_append_drop s (cs.drop o)
 rw [h, List.drop_drop] at this
 exact this.symm
theorem Row.snap {w : World} {a : Option Addr} {sz : Nat} {xs : List (List Value)} (h : Row w a sz xs) (hsz : 0 < sz) : RowH (fun b => w.heap[b]?) a sz xs := by
 rcases h with h | ⟨b, off, ha, h⟩
 ·exact .inl h
 ·cases xs with
  | nil => exact .inl rfl
  | cons x r =>
   have h0 := h 0 x rfl
   have hv := h0.2 0 x[0] (by simp [h0.1, hsz])
   unfold World.cell? at hv
   split at hv
   ·rename_i c T m hb
    refine .inr ⟨b, off, c, T, m, ha, hb, fun i y hy => ⟨(h i y hy).1, fun j v hj => ?_⟩⟩
    have := (h i y hy).2 j v hj
    unfold World.cell? at this
    rw [hb] at this
    simpa using this
   ·cases hv
theorem val_struct {r : Reach} {b0 t : Nat} {v : Value} {fs : Array Field} (ht : P.underlying t = some (.struct fs)) (hval : Value.okWide P w r b0 t v) : ∃ cs : List Value, v = .agg cs.toArray ∧ v.cells.toList = cs ∧ cs.length = P.cellsOf t := by
 unfold Value.okWide at hval
 rw [ht] at hval
 obtain ⟨cs, rfl, h, _⟩ := hval; exact ⟨cs.toList, by simp, rfl, by simpa using h⟩
theorem val_cell {r : Reach} {b0 t : Nat} {v : Value} (ht : (match P.underlying t with | some (.int _) | some (.slice _) | some .string | some .bool => true | _ => false) = true) (hval : Value.okWide P w r b0 t v) : v.cells.toList = [v] := by
 unfold Value.okWide at hval
 split at hval
 ·rename_i h; rw [h] at ht; cases ht
 ·rename_i h; rw [h] at ht; cases ht
 ·cases v with
  | agg cs =>
   exfalso
   unfold Cell.okWide at hval
   split at ht <;> simp_all [Cell.ok]
  | _ => rfl
end Go.Lx

/- What a claim says of a call's arguments, where their bulk is bounded. Conditions: none. -/
namespace Go.Vc
open Go Go.Lx
variable {H : Type} {enc : TypeId × Value → H} {P : Program} {w : World} {base : Nat} {spare : Nat → Bool} {held : Bool}
structure BK (bk : DataW H → Nat) : Prop where
 slice : ∀ (es rs : List (DataW H)) (d : DataW H), d ∈ es → bk d ≤ bk (.slice es rs)
 agg : ∀ (es : List (DataW H)) (d : DataW H), d ∈ es → bk d ≤ bk (.agg es)
 str : ∀ bs : List UInt8, bs.length ≤ bk (.lit (.string bs))
theorem op_stringB {bk : DataW H → Nat} (K : BK bk) {t fuel : Nat} {cs : List Value} {x : DataW H × List MemPlace} (ht : P.underlying t = some .string) (h : DataW.trod enc P w base spare held fuel t cs = some x) : ∃ s : List UInt8, cs = [str s] ∧ s.length ≤ 9223372036854775807 ∧ s.length ≤ bk x.1 := by
 obtain ⟨s, h1, h3, h2⟩ := DataW.trod_string ht h
 refine ⟨s.data.toList, by rw [h1], ?_, ?_⟩
 ·have e : s.data.toList.length = s.size := by rw [Array.length_toList]; rfl
  rw [e]
  unfold maxLen at h2
  omega
 ·rw [h3]; exact K.str _
theorem op_fieldB {bk : DataW H → Nat} (K : BK bk) {t fuel i ft fo sz bo : Nat} {nm tg pk : String} {em : Bool} {fs : Array Field} {cs : List Value} {x : DataW H × List MemPlace} (ht : P.underlying t = some (.struct fs)) (hf : fs[i]? = some ⟨nm, ft, fo, em, tg, pk, bo⟩) (hc : P.cellsOf ft = sz) (h : DataW.trod enc P w base spare held fuel t cs = some x) :
  ∃ n y, DataW.trod enc P w base spare held n ft ((cs.drop fo).take sz) = some y ∧ bk y.1 ≤ bk x.1 := by
 subst hc
 obtain ⟨xs, n, _, hx, _, hl, hp⟩ := DataW.trod_struct ht h
 have h1 := hp i _ hf
 have hi : i < fs.size := by
  rcases Nat.lt_or_ge i fs.size with h | h
  ·exact h
  ·rw [Array.getElem?_eq_none h] at hf; cases hf
 rw [List.getElem?_eq_getElem (by omega)] at h1
 refine ⟨n, _, h1, ?_⟩
 rw [hx]
 exact K.agg _ _ (List.mem_map.2 ⟨_, List.getElem_mem _, rfl⟩)
theorem op_sliceB {bk : DataW H → Nat} (K : BK bk) {B : Nat} {α : Type} {f : α → List Value} {good : α → Prop} {t e sz fuel : Nat} {cs : List Value} {x : DataW H × List MemPlace} (hB : bk x.1 ≤ B) (ht : P.underlying t = some (.slice e)) (hc : P.cellsOf e = sz) (hsz : Nat.blt 0 sz = true)
  (hD : ∀ n cs x, bk x.1 ≤ B → cs.length = sz → DataW.trod enc P w base spare held n e cs = some x → ∃ a, cs = f a ∧ good a) (h : DataW.trod enc P w base spare held fuel t cs = some x) :
  ∃ (v : Value) (xs : List α), cs = [v] ∧ FrS (fun b => w.heap[b]?) sz v (xs.map f) ∧ xs.length ≤ 9223372036854775807 ∧ ∀ x ∈ xs, good x := by
 have h' := h
 rcases DataW.trod_slice ht h with ⟨rfl, _⟩ | ⟨a, len, cap, elems, rest, n, _, rfl, hx, _, hl, hm, hlen, hel, _⟩
 ·exact ⟨_, [], rfl, FrS.nil _ _, by simp, by simp⟩
 ·-- the elements, and no others
  have each : ∀ i : Fin len, ∃ a' : α, w.cells? base (a.add (i * sz)) sz = some (f a') ∧ good a' := by
   intro i
   have hi := hel i i.2
   rw [hc] at hi
   have hlt : (i : Nat) < elems.length := by rw [hlen]; exact i.2
   rw [List.getElem?_eq_getElem hlt, Option.bind_eq_some_iff] at hi
   obtain ⟨cs', h1, h2⟩ := hi
   have hb : bk (elems[(i : Nat)]).1 ≤ B := by
    refine Nat.le_trans ?_ hB
    rw [hx]
    exact K.slice _ _ _ (List.mem_map.2 ⟨_, List.getElem_mem _, rfl⟩)
   obtain ⟨a', rfl, hg⟩ := hD _ _ _ hb (Wo h1).1 h2
   exact ⟨a', h1, hg⟩
  have hsz' : 0 < sz := by simpa using hsz
  have hch : ∃ g : Fin len → α, ∀ i : Fin len, w.cells? base (a.add (i * sz)) sz = some (f (g i)) ∧ good (g i) := ⟨fun i => (each i).choose, fun i => (each i).choose_spec⟩
  obtain ⟨g, hg⟩ := hch
  have hrow : Row w (some a) sz ((List.ofFn g).map f) := by
   cases len with
   | zero => left; simp
   | succ k =>
    have h0 := hg 0
    have hsp : a.spot = none := by
     have := (Wo h0.1).2 0 hsz'
     have hln := (Wo h0.1).1
     rw [List.getElem?_eq_getElem (by omega)] at this
     have hs := cell_spot this
     simpa [Addr.add] using hs
    obtain ⟨b, off, spot⟩ := a
    simp only at hsp
    subst hsp
    refine .inr ⟨b, off, rfl, fun i x hx => ?_⟩
    have hi : i < k + 1 := by
     rcases Nat.lt_or_ge i (k + 1) with h | h
     ·exact h
     ·rw [List.getElem?_eq_none (by simpa using h)] at hx; cases hx
    have hx' : x = f (g ⟨i, hi⟩) := by
     rw [List.getElem?_map, List.getElem?_ofFn, dif_pos hi] at hx
     exact (Option.some.inj hx).symm
    subst hx'
    obtain ⟨c1, c2⟩ := Wo (hg ⟨i, hi⟩).1
    refine ⟨c1, fun j v hv => ?_⟩
    have hj : j < sz := by
     rcases Nat.lt_or_ge j sz with h | h
     ·exact h
     ·rw [List.getElem?_eq_none (by omega)] at hv; cases hv
    have := c2 j hj
    rw [hv, Addr.add_lit, Addr.add_lit] at this
    exact this
  have hm' : cap ≤ 9223372036854775807 := by simpa [maxLen] using hm
  refine ⟨_, List.ofFn g, rfl, ⟨⟨some a, cap, by simp, by simpa using hl, hm', Row.snap hrow hsz'⟩⟩, by simp; omega, ?_⟩
  intro x hx
  rw [List.mem_ofFn] at hx
  obtain ⟨i, rfl⟩ := hx
  exact (hg i).2
end Go.Vc

/- What a claim says of a call's arguments, where their bulk is bounded and package variables are laid. Conditions: none. -/
namespace Go.Vc
open Go Go.Lx
section
variable {H : Type} {enc : TypeId × Value → H} {P : Program} {w : World} {base : Nat} {spare : Nat → Bool} {held : Bool}
structure BKL (bk : DataW H → Nat) : Prop extends BK bk where
 len : ∀ es rs : List (DataW H), es.length ≤ bk (.slice es rs)
theorem op_sliceL {bk : DataW H → Nat} (K : BKL bk) {B : Nat} {α : Type} {f : α → List Value} {good : α → Prop} {t e sz fuel : Nat} {cs : List Value} {x : DataW H × List MemPlace} (hB : bk x.1 ≤ B) (ht : P.underlying t = some (.slice e)) (hc : P.cellsOf e = sz) (hsz : Nat.blt 0 sz = true)
  (hD : ∀ n cs x, bk x.1 ≤ B → cs.length = sz → DataW.trod enc P w base spare held n e cs = some x → ∃ a, cs = f a ∧ good a) (h : DataW.trod enc P w base spare held fuel t cs = some x) :
  ∃ (v : Value) (xs : List α), cs = [v] ∧ FrS (fun b => w.heap[b]?) sz v (xs.map f) ∧ (xs.length ≤ 9223372036854775807 ∧ xs.length ≤ B) ∧ ∀ x ∈ xs, good x := by
 obtain ⟨v, xs, e1, fr, hn, hg⟩ := op_sliceB K.toBK hB ht hc hsz hD h
 refine ⟨v, xs, e1, fr, ⟨hn, ?_⟩, hg⟩
 obtain ⟨a, c, rfl, _⟩ := fr.out
 rcases DataW.trod_slice ht h with ⟨e2, _⟩ | ⟨a', len, cap, elems, rest, n, _, e2, hx, _, _, _, hlen, _⟩
 ·rw [e1] at e2
  injection e2 with e2 _
  injection e2 with _ e2 _
  rw [List.length_map] at e2; omega
 ·rw [e1] at e2
  injection e2 with e2 _
  injection e2 with _ e2 _
  rw [List.length_map] at e2
  rw [hx] at hB
  have := K.len (elems.map (·.1)) (rest.map (·.1))
  rw [List.length_map] at this
  simp only at hB
  omega
end
section
variable {H : Type} {enc : TypeId × Value → H}
end
end Go.Vc

/- What a claim says of a call's arguments, with the reach of the claim's form: no string and no slice is larger than it. Conditions: none. -/
namespace Go.Vc
open Go Go.Lx
variable {H : Type} {enc : TypeId × Value → H} {P : Program} {w : World} {base : Nat} {spare : Nat → Bool} {held : Bool}
end Go.Vc

/- Opening arguments whose elements hold slices. Conditions: none. -/
namespace Go.Lx
open Go Go.Vc Go.Md Go.ChangeShapes Go.WideShapes Go.ChangeAt
theorem piece_get {cs l : List Value} {o s q : Nat} (h : (cs.drop o).take s = l) (hq : q < l.length) : cs.getD (o + q) undef = l.getD q undef := by
 subst h
 have hs : q < s := by rw [List.length_take] at hq; omega
 simp only [List.getD_eq_getElem?_getD, List.getElem?_take, List.getElem?_drop, if_pos hs]
section
variable {P : Program} {H : Type} {enc : TypeId × Value → H} {w : World} {base : Nat} {spare : Nat → Bool} {held : Bool}
end
end Go.Lx

/- Opening arguments whose bulk is bounded: sums over the parts, for types that hold themselves. Conditions: none. -/
namespace Go.Lx
open Go Go.Vc Go.Md Go.ChangeShapes Go.WideShapes Go.ChangeAt
theorem mem_le_sum {a : Nat} : ∀ {l : List Nat}, a ∈ l → a ≤ l.sum
 | [], h => by cases h
 | x :: l, h => by
  rw [List.sum_cons]
  rcases List.mem_cons.1 h with h | h
  ·omega
  ·have := mem_le_sum h; omega
theorem sum_le_sum {α β : Type} {f : α → Nat} {g : β → Nat} : ∀ {xs : List α} {ys : List β}, xs.length = ys.length → (∀ (i : Nat) x y, xs[i]? = some x → ys[i]? = some y → f x ≤ g y) → (xs.map f).sum ≤ (ys.map g).sum
 | [], [], _, _ => Nat.le_refl _
 | [], _ :: _, h, _ => by simp at h
 | _ :: _, [], h, _ => by simp at h
 | x :: xs, y :: ys, h, k => by
  rw [List.map_cons, List.map_cons, List.sum_cons, List.sum_cons]
  have h1 := k 0 x y rfl rfl
  have h2 := sum_le_sum (f := f) (g := g) (xs := xs) (ys := ys) (by simpa using h) (fun i a b ha hb => k (i + 1) a b (by simpa using ha) (by simpa using hb))
  omega
theorem len_le_sum {α : Type} {f : α → Nat} (h : ∀ x, 1 ≤ f x) : ∀ xs : List α, xs.length ≤ (xs.map f).sum
 | [] => Nat.zero_le _
 | x :: xs => by rw [List.map_cons, List.sum_cons, List.length_cons]; have := h x; have := len_le_sum h xs; omega
section
variable {H : Type} {enc : TypeId × Value → H} {P : Program} {w : World} {base : Nat} {spare : Nat → Bool} {held : Bool}
structure BKS (bk : DataW H → Nat) : Prop where
 slice : ∀ es rs : List (DataW H), (es.map bk).sum ≤ bk (.slice es rs)
 agg : ∀ es : List (DataW H), (es.map bk).sum ≤ bk (.agg es)
 str : ∀ bs : List UInt8, bs.length ≤ bk (.lit (.string bs))
 one : ∀ d : DataW H, 1 ≤ bk d
theorem BKS.toBK {bk : DataW H → Nat} (K : BKS bk) : BK bk :=
 ⟨fun es rs d h => Nat.le_trans (mem_le_sum (List.mem_map.2 ⟨d, h, rfl⟩)) (K.slice es rs), fun es d h => Nat.le_trans (mem_le_sum (List.mem_map.2 ⟨d, h, rfl⟩)) (K.agg es), K.str⟩
theorem BKS.toBKL {bk : DataW H → Nat} (K : BKS bk) : BKL bk := { toBK := K.toBK, len := fun es rs => Nat.le_trans (len_le_sum K.one es) (K.slice es rs) }
theorem op_structS {bk : DataW H → Nat} (K : BKS bk) {t fuel : Nat} {fs : Array Field} {cs : List Value} {x : DataW H × List MemPlace} (ht : P.underlying t = some (.struct fs)) (h : DataW.trod enc P w base spare held fuel t cs = some x) :
  ∃ (n : Nat) (xs : List (DataW H × List MemPlace)), n < fuel ∧ xs.length = fs.size ∧ (xs.map fun y => bk y.1).sum ≤ bk x.1 ∧ ∀ (i : Nat) (f : Field) (sz : Nat), fs[i]? = some f → P.cellsOf f.type = sz → DataW.trod enc P w base spare held n f.type ((cs.drop f.offset).take sz) = xs[i]? := by
 obtain ⟨xs, n, hn, hx, _, hl, hp⟩ := DataW.trod_struct ht h
 refine ⟨n, xs, by omega, hl, ?_, fun i f sz hf hc => by subst hc; exact hp i f hf⟩
 rw [hx]
 have := K.agg (xs.map (·.1))
 rw [List.map_map] at this
 exact this
theorem op_sliceS {bk : DataW H → Nat} (K : BKS bk) {α δ : Type} {G : Jx → (Nat → Value) → α → Prop} {m : δ → α → Nat} {t e sz fuel : Nat} {cs : List Value} {x : DataW H × List MemPlace} (ht : P.underlying t = some (.slice e)) (hc : P.cellsOf e = sz) (hsz : Nat.blt 0 sz = true)
  (hD : ∀ n cs x, n < fuel → cs.length = sz → DataW.trod enc P w base spare held n e cs = some x → ∃ a : α, G (fun b => w.heap[b]?) (fun j => cs.getD j undef) a ∧ ∀ d, m d a ≤ bk x.1) (h : DataW.trod enc P w base spare held fuel t cs = some x) :
  ∃ (v : Value) (xs : List α), cs = [v] ∧ FrN (fun b => w.heap[b]?) sz v G xs ∧ xs.length ≤ bk x.1 ∧ ∀ d, (xs.map (m d)).sum ≤ bk x.1 := by
 rcases DataW.trod_slice ht h with ⟨rfl, _⟩ | ⟨a, len, cap, elems, rest, n, hn, rfl, hx, _, hl, hm, hlen, hel, _⟩
 ·exact ⟨_, [], rfl, FrN.nil _ _ _, by simp, by simp⟩
 ·have each : ∀ i : Fin len, ∃ p : List Value × α, w.cells? base (a.add (i * sz)) sz = some p.1 ∧ p.1.length = sz ∧ G (fun b => w.heap[b]?) (fun j => p.1.getD j undef) p.2 ∧ ∀ d y, elems[(i : Nat)]? = some y → m d p.2 ≤ bk y.1 := by
   intro i
   have hi := hel i i.2
   rw [hc] at hi
   have hlt : (i : Nat) < elems.length := by rw [hlen]; exact i.2
   rw [List.getElem?_eq_getElem hlt, Option.bind_eq_some_iff] at hi
   obtain ⟨cs', h1, h2⟩ := hi
   obtain ⟨a', hg, hmm⟩ := hD _ _ _ (by omega) (Wo h1).1 h2
   refine ⟨(cs', a'), h1, (Wo h1).1, hg, fun d y hy => ?_⟩
   rw [List.getElem?_eq_getElem hlt] at hy
   cases hy
   exact hmm d
  have hsz' : 0 < sz := by simpa using hsz
  have hch : ∃ g : Fin len → List Value × α, ∀ i : Fin len, w.cells? base (a.add (i * sz)) sz = some (g i).1 ∧ (g i).1.length = sz ∧ G (fun b => w.heap[b]?) (fun j => (g i).1.getD j undef) (g i).2 ∧ ∀ d y, elems[(i : Nat)]? = some y → m d (g i).2 ≤ bk y.1 := ⟨fun i => (each i).choose, fun i => (each i).choose_spec⟩
  obtain ⟨g, hg⟩ := hch
  have hrow : Row w (some a) sz ((List.ofFn g).map fun p => p.1) := by
   cases len with
   | zero => left; simp
   | succ k =>
    have h0 := hg 0
    have hsp : a.spot = none := by
     have := (Wo h0.1).2 0 hsz'
     have hln := (Wo h0.1).1
     rw [List.getElem?_eq_getElem (by omega)] at this
     have hs := cell_spot this
     simpa [Addr.add] using hs
    obtain ⟨b, off, spot⟩ := a
    simp only at hsp
    subst hsp
    refine .inr ⟨b, off, rfl, fun i x hx => ?_⟩
    have hi : i < k + 1 := by
     rcases Nat.lt_or_ge i (k + 1) with h | h
     ·exact h
     ·rw [List.getElem?_eq_none (by simpa using h)] at hx; cases hx
    have hx' : x = (g ⟨i, hi⟩).1 := by
     rw [List.getElem?_map, List.getElem?_ofFn, dif_pos hi] at hx
     exact (Option.some.inj hx).symm
    subst hx'
    obtain ⟨c1, c2⟩ := Wo (hg ⟨i, hi⟩).1
    refine ⟨c1, fun j v hv => ?_⟩
    have hj : j < sz := by
     rcases Nat.lt_or_ge j sz with h | h
     ·exact h
     ·rw [List.getElem?_eq_none (by omega)] at hv; cases hv
    have := c2 j hj
    rw [hv, Addr.add_lit, Addr.add_lit] at this
    exact this
  have hm' : cap ≤ 9223372036854775807 := by simpa [maxLen] using hm
  have hfr : FrS (fun b => w.heap[b]?) sz (.slice (some a) len cap) ((List.ofFn g).map fun p => p.1) := ⟨⟨some a, cap, by simp, by simpa using hl, hm', Row.snap hrow hsz'⟩⟩
  refine ⟨_, (List.ofFn g).map Prod.snd, rfl, ?_, ?_, fun d => ?_⟩
  ·refine frn_of (css := (List.ofFn g).map Prod.fst) ?_ ⟨by simp, fun i c y hc hy => ?_⟩
   ·have : ((List.ofFn g).map Prod.fst).map idC = (List.ofFn g).map fun p => p.1 := by rw [List.map_map]; rfl
    rw [this]; exact hfr
   ·simp only [List.getElem?_map, Option.map_eq_some_iff] at hc hy
    obtain ⟨p, hp, rfl⟩ := hc
    obtain ⟨q, hq, rfl⟩ := hy
    rw [hp] at hq
    cases hq
    have hpm := List.mem_of_getElem? hp
    rw [List.mem_ofFn] at hpm
    obtain ⟨j, rfl⟩ := hpm
    exact ⟨(hg j).2.1, (hg j).2.2.1⟩
  ·have h1 := len_le_sum K.one (elems.map (·.1))
   have h2 := K.slice (elems.map (·.1)) (rest.map (·.1))
   rw [hx]
   simp only [List.length_map, List.length_ofFn] at h1 ⊢
   omega
  ·have h2 := K.slice (elems.map (·.1)) (rest.map (·.1))
   rw [hx]
   refine Nat.le_trans (sum_le_sum (by simp [hlen]) fun i a y ha hy => ?_) h2
   rw [List.getElem?_map, Option.map_eq_some_iff] at ha hy
   obtain ⟨p, hp, rfl⟩ := ha
   obtain ⟨y, hy, rfl⟩ := hy
   have hi : i < len := by
    rcases Nat.lt_or_ge i len with h | h
    ·exact h
    ·rw [List.getElem?_eq_none (by simpa using h)] at hp; cases hp
   rw [List.getElem?_ofFn, dif_pos hi] at hp
   cases hp
   exact (hg ⟨i, hi⟩).2.2.2 d y hy
end
end Go.Lx
