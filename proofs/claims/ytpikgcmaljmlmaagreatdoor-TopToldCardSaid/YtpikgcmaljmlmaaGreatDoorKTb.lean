/- TopTold, deeds and people: the walks, printed by our generator; each follows its model. Conditions: the model yields a value. -/
import Derived.Test.YtpikgcmaljmlmaaGreatDoorKTa
namespace Go.Proofs.YtpikgcmaljmlmaaGreatDoor
open Go Go.Vc Go.Md Go.M Go.Lx
set_option maxRecDepth 100000
set_option maxHeartbeats 4000000
set_option linter.unusedVariables false
theorem k18 {a0 : Int} {a1 : Int} {a2 : Int} {r : Bool} (H : Vi a0 a1 a2 = some r) : Ret Tryz.prog 18 [.int .i64 a0, .int .i64 a1, .int .i64 a2] (.bool r) := by
 refine Qc (n := 15) Tryz.func18 rfl rfl rfl (fun wd => ?_)
 refine Je ?_
 refine Jb ?_
 refine Ja rfl rfl rfl (Jc (v := .bool false) rfl) ?_
 refine Jf ?_
 refine Je ?_
 refine Jb ?_
 refine Ja rfl rfl rfl (Jd (v := .int .i64 a0) rfl) ?_
 refine Ja rfl rfl rfl (Jd (v := .int .i64 a1) rfl) ?_
 refine Ja rfl rfl rfl (Q1 rfl rfl) ?_
 refine Ja rfl rfl rfl (Jd (v := .bool (decide (a0 < a1))) rfl) ?_
 refine split (fun hb => ?_) (fun hb => ?_)
 ·have H3 := Jn hb H; clear H
  refine Ji rfl rfl rfl ?_
  refine Ji rfl rfl rfl ?_
  refine Ji rfl rfl rfl ?_
  refine Ja rfl rfl rfl (Jz (v := .bool true) rfl rfl) ?_
  refine Ja rfl rfl rfl (Jc (v := .bool true) rfl) ?_
  refine Jf ?_
  refine Jm ?_
  obtain rfl := Option.some.inj H3
  refine Jy (v := .bool true) rfl rfl (Xh rfl)
 ·have H4 := Jo hb H; clear H
  refine Ja rfl rfl rfl (Jd (v := .int .i64 a0) rfl) ?_
  refine Ja rfl rfl rfl (Jd (v := .int .i64 a2) rfl) ?_
  refine Ja rfl rfl rfl (Wz rfl rfl) ?_
  refine Ja rfl rfl rfl (Jw (v := .bool (decide (a2 < a0))) rfl rfl) ?_
  refine Ja rfl rfl rfl (Jc (v := .bool (decide (a2 < a0))) rfl) ?_
  refine Jf ?_
  refine Jm ?_
  obtain rfl := Option.some.inj H4
  refine Jy (v := .bool (decide (a2 < a0))) rfl rfl (Xh rfl)
theorem k41 {a0 : (Nat → Int)} {r : Int} (H : Jaw a0 = some r) : Ret Tryz.prog 41 [.agg #[.int .i64 (a0 0), .int .i64 (a0 1), .int .i64 (a0 2), .int .i64 (a0 3), .int .i64 (a0 4), .int .i64 (a0 5), .int .i64 (a0 6), .int .i64 (a0 7), .int .i64 (a0 8), .int .i64 (a0 9), .int .i64 (a0 10), .int .i64 (a0 11)]] (.int .i64 r) := by
 refine Qc (n := 12) Tryz.func41 rfl rfl rfl (fun wd => ?_)
 refine Je ?_
 refine Jb ?_
 refine W8 (cs := [.int .i64 (a0 0), .int .i64 (a0 1), .int .i64 (a0 2), .int .i64 (a0 3), .int .i64 (a0 4), .int .i64 (a0 5), .int .i64 (a0 6), .int .i64 (a0 7), .int .i64 (a0 8), .int .i64 (a0 9), .int .i64 (a0 10), .int .i64 (a0 11)]) rfl rfl rfl rfl (fun b1 => ?_)
 refine Ja rfl rfl rfl (Jc (v := .int .i64 0) rfl) ?_
 refine Jf ?_
 refine Je ?_
 refine Je ?_
 refine Jb ?_
 refine Y2 (i := 0) (vs := [.int .i64 (a0 0), .int .i64 (a0 1), .int .i64 (a0 2), .int .i64 (a0 3), .int .i64 (a0 4), .int .i64 (a0 5), .int .i64 (a0 6), .int .i64 (a0 7), .int .i64 (a0 8), .int .i64 (a0 9), .int .i64 (a0 10), .int .i64 (a0 11)]) Tryz.isAgg83 Tryz.sizeOf83 rfl rfl rfl rfl rfl ?_
 refine Ja rfl rfl rfl (Jd (v := .int .i64 0) rfl) ?_
 refine Jf ?_
 refine Ju ?_
 refine c_dr 0 ?_
 try dsimp only [z1, z2, z3, z4, z5, z6, z7, z8]
 refine Yv (σ := Int) (τ := Unit) (fun next1 s => Zz a0 next1 s) (fun s t => [(5, .agg #[.int .i64 (a0 0), .int .i64 (a0 1), .int .i64 (a0 2), .int .i64 (a0 3), .int .i64 (a0 4), .int .i64 (a0 5), .int .i64 (a0 6), .int .i64 (a0 7), .int .i64 (a0 8), .int .i64 (a0 9), .int .i64 (a0 10), .int .i64 (a0 11)]), (6, .int .i64 s)]) (fun s t => []) (fun s t => True) 0 () [] H (by exact trivial) (by exact ⟨rfl, rfl, trivial⟩) (by decide) rfl ?_
 rintro x6_2 _ m1 gg H9 _
 clear H
 replace H9 : Zz a0 (it (fun next1 s => Zz a0 next1 s) m1) x6_2 = some r := H9
 generalize hn1 : it (fun next1 s => Zz a0 next1 s) m1 = next1 at H9
 try dsimp only
 refine Je ?_
 refine Jb ?_
 refine Ja rfl rfl rfl (Q1 rfl rfl) ?_
 refine Jf ?_
 refine Je ?_
 refine J5 (b := (decide (x6_2 < 12))) rfl (fun hb => ?_) (fun hb => ?_)
 ·have H10 := Jn hb H9; clear H9
  refine Jr ?_
  refine Je ?_
  refine Ju ?_
  refine Je ?_
  refine Jb ?_
  obtain ⟨k8, h_k8, H11⟩ := Jh H10; clear H10
  refine Ja rfl rfl rfl (r_indexAG (f := fun j_ => .int .i64 (a0 j_)) Tryz.runUnderlying83 Tryz.isAgg3 Tryz.sizeOf3 rfl rfl rfl h_k8) ?_
  refine Ja rfl rfl rfl (Jc (v := .int .i64 (a0 k8)) rfl) ?_
  refine Jf ?_
  refine Je ?_
  refine Jb ?_
  refine Ja rfl rfl rfl (Jd (v := .int .i64 (a0 k8)) rfl) ?_
  obtain ⟨t10, h_t10, H12⟩ := Jh H11; clear H11
  refine Qu (k18 h_t10) Tryz.call18 rfl rfl rfl ?_
  refine Jf ?_
  refine J5 (b := t10) rfl (fun hb => ?_) (fun hb => ?_)
  ·have H13 := Jn hb H12; clear H12
   refine Je ?_
   refine Jb ?_
   refine Ja rfl rfl rfl (Jc (v := .int .i64 2) rfl) ?_
   refine Jf ?_
   refine Jm ?_
   obtain rfl := Option.some.inj H13
   refine Jy (v := .int .i64 2) rfl rfl (Xh rfl)
  ·have H14 := Jo hb H12; clear H12
   refine Jr ?_
   refine Jb ?_
   obtain ⟨t11, h_t11, H15⟩ := Jh H14; clear H14
   refine Ja rfl rfl rfl (Q2 rfl rfl h_t11) ?_
   refine Ja rfl rfl rfl (Jd (v := .int .i64 t11) rfl) ?_
   refine Jf ?_
   refine Jl t11 () m1 [] (by exact ⟨rfl, rfl, trivial⟩) (by decide) rfl (by exact ⟨(by subst hn1; exact H15), trivial⟩) (Nat.lt_succ_self _)
 ·have H16 := Jo hb H9; clear H9
  refine Qr ?_
  refine Je ?_
  refine Jb ?_
  refine Ja rfl rfl rfl (Jc (v := .int .i64 0) rfl) ?_
  refine Jf ?_
  refine Jm ?_
  obtain rfl := Option.some.inj H16
  refine Jy (v := .int .i64 0) rfl rfl (Xh rfl)
theorem k17 {a0 : (List T_face_Likeness)} {v0 : Value} {r : Int} {w : World} {h : J3} (hw : Know h w Zh) (f0 : FrS h 14 v0 (a0.map Qf)) (H : face_Check a0 = some r) : Does Tryz.prog 17 (List.toArray [v0]) w (fun v w' => v = (.int .i64 r) ∧ Grow w w') := by
 refine enter (n := 44) Tryz.func17 rfl rfl rfl Zh [] (Sat.nil _ _) ?_
 refine Je ?_
 refine Jb ?_
 refine Ja rfl rfl rfl (Jc (v := .int .i64 0) rfl) ?_
 refine Jf ?_
 refine Je ?_
 refine Je ?_
 refine Jb ?_
 refine Ja rfl rfl rfl (Jd (v := v0) rfl) ?_
 refine Ja rfl rfl rfl (Zl Tryz.underlying22 rfl f0 rfl) ?_
 refine Ja rfl rfl rfl (Wz rfl rfl) ?_
 refine Jf ?_
 refine J5 (b := (decide (300 < (a0.length : Int)))) rfl (fun hb => ?_) (fun hb => ?_)
 ·have H24 := Jn hb H; clear H
  refine Je ?_
  refine Jb ?_
  refine Ja rfl rfl rfl (Jc (v := .int .i64 4) rfl) ?_
  refine Jf ?_
  refine Jm ?_
  obtain rfl := Option.some.inj H24
  refine Jy (v := .int .i64 4) rfl rfl (Xh rfl)
 ·have H25 := Jo hb H; clear H
  refine Jr ?_
  refine Je ?_
  refine Je ?_
  refine Jb ?_
  refine Ja rfl rfl rfl (Jd (v := v0) rfl) ?_
  refine Ja rfl rfl rfl (Zl Tryz.underlying22 rfl f0 rfl) ?_
  refine Ja rfl rfl rfl (Jd (v := .int .i64 0) rfl) ?_
  refine Jf ?_
  refine Ju ?_
  refine Yv (σ := Int) (τ := Unit) (fun next1 s => Wd a0 next1 s) (fun s t => [(0, v0), (9, v0), (10, .int .i64 (a0.length : Int)), (11, .int .i64 s)]) (fun s t => []) (fun s t => True) 0 () [] H25 (by exact trivial) (by exact ⟨rfl, rfl, rfl, rfl, trivial⟩) (by decide) rfl ?_
  rintro x11_2 _ m1 gg H26 _
  clear H25
  replace H26 : Wd a0 (it (fun next1 s => Wd a0 next1 s) m1) x11_2 = some r := H26
  generalize hn1 : it (fun next1 s => Wd a0 next1 s) m1 = next1 at H26
  try dsimp only
  refine Je ?_
  refine Jb ?_
  refine Ja rfl rfl rfl (Q1 rfl rfl) ?_
  refine Jf ?_
  refine Je ?_
  refine J5 (b := (decide (x11_2 < (a0.length : Int)))) rfl (fun hb => ?_) (fun hb => ?_)
  ·have H27 := Jn hb H26; clear H26
   refine Jr ?_
   refine Je ?_
   refine Ju ?_
   refine Je ?_
   refine Jb ?_
   refine Ja rfl rfl rfl (Jd (v := .int .i64 x11_2) rfl) ?_
   obtain ⟨t14, h_t14, H28⟩ := Jh H27; clear H27
   refine Ja rfl rfl rfl (Qm Tryz.underlying22 Tryz.sizeOf85 rfl rfl f0 h_t14) ?_
   refine Qa (fun w hF hS => Xw (f := Qf) (i := x11_2) (sz := 14) (j := 0) (vs := [.int .i64 t14.Id, .int .i64 t14.Photo, .int .i64 (t14.Vec 0), .int .i64 (t14.Vec 1), .int .i64 (t14.Vec 2), .int .i64 (t14.Vec 3), .int .i64 (t14.Vec 4), .int .i64 (t14.Vec 5), .int .i64 (t14.Vec 6), .int .i64 (t14.Vec 7), .int .i64 (t14.Vec 8), .int .i64 (t14.Vec 9), .int .i64 (t14.Vec 10), .int .i64 (t14.Vec 11)]) Tryz.isAgg85 Tryz.sizeOf85 rfl rfl (f0.row (hw.now hF)) h_t14 rfl) rfl rfl rfl ?_
   refine Zo (cs := [.int .i64 0, .int .i64 0, .int .i64 0, .int .i64 0, .int .i64 0, .int .i64 0, .int .i64 0, .int .i64 0, .int .i64 0, .int .i64 0, .int .i64 0, .int .i64 0, .int .i64 0, .int .i64 0]) Tryz.zeroValue85 rfl rfl rfl (fun b1 => ?_)
   refine Ja rfl rfl rfl (Jc (v := .int .i64 x11_2) rfl) ?_
   refine X3 (i := 0) (vs := [.int .i64 t14.Id, .int .i64 t14.Photo, .int .i64 (t14.Vec 0), .int .i64 (t14.Vec 1), .int .i64 (t14.Vec 2), .int .i64 (t14.Vec 3), .int .i64 (t14.Vec 4), .int .i64 (t14.Vec 5), .int .i64 (t14.Vec 6), .int .i64 (t14.Vec 7), .int .i64 (t14.Vec 8), .int .i64 (t14.Vec 9), .int .i64 (t14.Vec 10), .int .i64 (t14.Vec 11)]) (cs' := [.int .i64 t14.Id, .int .i64 t14.Photo, .int .i64 (t14.Vec 0), .int .i64 (t14.Vec 1), .int .i64 (t14.Vec 2), .int .i64 (t14.Vec 3), .int .i64 (t14.Vec 4), .int .i64 (t14.Vec 5), .int .i64 (t14.Vec 6), .int .i64 (t14.Vec 7), .int .i64 (t14.Vec 8), .int .i64 (t14.Vec 9), .int .i64 (t14.Vec 10), .int .i64 (t14.Vec 11)]) Tryz.sizeOf85 rfl rfl rfl rfl rfl rfl rfl rfl rfl ?_
   refine Jf ?_
   refine Je ?_
   refine Je ?_
   refine Jb ?_
   refine Ja rfl rfl rfl (Jq Tryz.runUnderlying85 rfl Tryz.sizeOf3 rfl rfl) ?_
   refine J0 (i := 0) (v := .int .i64 t14.Id) Tryz.isAgg3 rfl rfl rfl rfl rfl ?_
   obtain ⟨t18, h_t18, H29⟩ := Jh H28; clear H28
   refine Qu (k18 h_t18) Tryz.call18 rfl rfl rfl ?_
   refine Ja rfl rfl rfl (Jd (v := .bool t18) rfl) ?_
   refine split (fun hb => ?_) (fun hb => ?_)
   ·have H30 := Jn hb H29; clear H29
    refine Ji rfl rfl rfl ?_
    refine Ji rfl rfl rfl ?_
    refine Ji rfl rfl rfl ?_
    refine Ja rfl rfl rfl (Jz (v := .bool true) rfl rfl) ?_
    refine Jf ?_
    refine Ur rfl ?_
    refine Je ?_
    refine Jb ?_
    refine Ja rfl rfl rfl (Jc (v := .int .i64 2) rfl) ?_
    refine Jf ?_
    refine Jm ?_
    obtain rfl := Option.some.inj H30
    refine Jy (v := .int .i64 2) rfl rfl (Xh rfl)
   ·have H31 := Jo hb H29; clear H29
    refine Ja rfl rfl rfl (Jq Tryz.runUnderlying85 rfl Tryz.sizeOf3 rfl rfl) ?_
    refine J0 (i := 0) (v := .int .i64 t14.Photo) Tryz.isAgg3 rfl rfl rfl rfl rfl ?_
    obtain ⟨t22, h_t22, H32⟩ := Jh H31; clear H31
    refine Qu (k18 h_t22) Tryz.call18 rfl rfl rfl ?_
    refine Ja rfl rfl rfl (Jw (v := .bool t22) rfl rfl) ?_
    refine Jf ?_
    refine J5 (b := t22) rfl (fun hb => ?_) (fun hb => ?_)
    ·have H33 := Jn hb H32; clear H32
     refine Je ?_
     refine Jb ?_
     refine Ja rfl rfl rfl (Jc (v := .int .i64 2) rfl) ?_
     refine Jf ?_
     refine Jm ?_
     obtain rfl := Option.some.inj H33
     refine Jy (v := .int .i64 2) rfl rfl (Xh rfl)
    ·have H34 := Jo hb H32; clear H32
     refine Jr ?_
     refine Xi (r := r) (σ := Unit) (τ := Unit) (fun s => Ua x11_2 next1 t14) (fun s t => [(0, v0), (4, .pointer (some ⟨b1, 0, none⟩)), (9, v0), (10, .int .i64 (a0.length : Int)), (11, .int .i64 x11_2), (20, .pointer (some ⟨b1, 1, none⟩)), (21, .int .i64 t14.Photo), (22, .bool t22)]) (fun s t => [Jp b1 [.int .i64 t14.Id, .int .i64 t14.Photo, .int .i64 (t14.Vec 0), .int .i64 (t14.Vec 1), .int .i64 (t14.Vec 2), .int .i64 (t14.Vec 3), .int .i64 (t14.Vec 4), .int .i64 (t14.Vec 5), .int .i64 (t14.Vec 6), .int .i64 (t14.Vec 7), .int .i64 (t14.Vec 8), .int .i64 (t14.Vec 9), .int .i64 (t14.Vec 10), .int .i64 (t14.Vec 11)] 85]) (fun s t => True) ?_ ?_
     ·refine Je ?_
      exact Za (Kd.p :: Kd.p :: Kd.p :: Kd.p :: Kd.d [0] _ :: Kd.p :: Kd.p :: Kd.p :: Kd.p :: Kd.p :: Kd.d [] _ :: Kd.p :: Kd.p :: []) 0 mixed (by
       refine Jt rfl rfl (Jd (v := .int .i64 x11_2) rfl) ?_
       refine Jt rfl rfl (Wz rfl rfl) ?_
       refine Jt rfl rfl (Jd (v := .bool (decide (0 < x11_2))) rfl) ?_
       refine splitS (fun hb => ?_) (fun hb => ?_)
       ·have H40 := Jn hb H34
        refine Jt rfl rfl (Jq Tryz.runUnderlying85 rfl Tryz.sizeOf3 rfl rfl) ?_
        refine Zb (i := 0) (v := .int .i64 t14.Id) Tryz.isAgg3 rfl rfl rfl rfl ?_
        refine Jt rfl rfl (Jd (v := v0) rfl) ?_
        refine Jt rfl rfl (Jd (v := .int .i64 x11_2) rfl) ?_
        have h_t31 := Qx H40
        have H41 := Qg H40
        refine Jt rfl rfl (U6 rfl rfl h_t31) ?_
        have h_t32 := Qx H41
        have H42 := Qg H41
        refine Jt rfl rfl (Qm Tryz.underlying22 Tryz.sizeOf85 rfl rfl f0 h_t32) ?_
        refine Jt rfl rfl (r_fieldP Tryz.runUnderlying85 rfl Tryz.sizeOf3 rfl rfl (some_of_at f0 h_t32)) ?_
        refine d_read (fun w hF => Qj (f := Qf) (i := (val (gI (x11_2 - 1)))) (sz := 14) (j := 0) (v := .int .i64 (val (Qn a0 (val (gI (x11_2 - 1))))).Id) Tryz.isAgg3 rfl rfl (f0.row (hw.now hF)) h_t32 rfl) rfl rfl ?_
        refine Jt rfl rfl (r_leq rfl rfl) ?_
        refine Jt rfl rfl (Jz (v := .bool (decide (t14.Id ≤ (val (Qn a0 (val (gI (x11_2 - 1))))).Id))) rfl rfl) ?_
        refine Ui ?_
        refine J5 (b := (decide (t14.Id ≤ (val (Qn a0 (val (gI (x11_2 - 1))))).Id))) rfl (fun hb => ?_) (fun hb => ?_)
        ·have H43 := Jn hb H42; clear H42
         refine Je ?_
         refine Jb ?_
         refine Ja rfl rfl rfl (Jc (v := .int .i64 5) rfl) ?_
         refine Jf ?_
         refine Jm ?_
         obtain rfl := Option.some.inj H43
         refine Jy (v := .int .i64 5) rfl rfl (Xh rfl)
        ·have H44 := Jo hb H42; clear H42
         refine Jr ?_
         refine Jl () () 0 [0] (by exact ⟨rfl, rfl, rfl, rfl, rfl, rfl, rfl, rfl, trivial⟩) (by decide) rfl (by exact ⟨H44, trivial⟩) (Nat.lt_succ_self _)
       ·have H45 := Jo hb H34
        refine Q4 rfl rfl ?_
        refine Q4 rfl rfl ?_
        refine Q4 rfl rfl ?_
        refine Q4 rfl rfl ?_
        refine Q4 rfl rfl ?_
        refine Q4 rfl rfl ?_
        refine Q4 rfl rfl ?_
        refine Q4 rfl rfl ?_
        refine Q4 rfl rfl ?_
        refine Jt rfl rfl (Jw (v := .bool false) rfl rfl) ?_
        refine Ui ?_
        refine Wi rfl ?_
        refine Jr ?_
        refine Jl () () 0 [0] (by exact ⟨rfl, rfl, rfl, rfl, rfl, rfl, rfl, rfl, trivial⟩) (by decide) rfl (by exact ⟨H45, trivial⟩) (Nat.lt_succ_self _)
       ) (by kernel_rfl)
     ·rintro _ _ gg H35 _
      replace H35 : Ua x11_2 next1 t14 = some r := H35
      try dsimp only
      refine Je ?_
      refine Jb ?_
      refine Ja rfl rfl rfl (Jq Tryz.runUnderlying85 rfl Tryz.sizeOf83 rfl rfl) ?_
      refine Y2 (i := 0) (vs := [.int .i64 (t14.Vec 0), .int .i64 (t14.Vec 1), .int .i64 (t14.Vec 2), .int .i64 (t14.Vec 3), .int .i64 (t14.Vec 4), .int .i64 (t14.Vec 5), .int .i64 (t14.Vec 6), .int .i64 (t14.Vec 7), .int .i64 (t14.Vec 8), .int .i64 (t14.Vec 9), .int .i64 (t14.Vec 10), .int .i64 (t14.Vec 11)]) Tryz.isAgg83 Tryz.sizeOf83 rfl rfl rfl rfl rfl ?_
      obtain ⟨t39, h_t39, H36⟩ := Jh H35; clear H35
      refine Qu (k41 h_t39) Tryz.call41 rfl rfl rfl ?_
      refine Ja rfl rfl rfl (Jc (v := .int .i64 t39) rfl) ?_
      refine Jf ?_
      refine Je ?_
      refine Jb ?_
      refine Ja rfl rfl rfl (Jd (v := .int .i64 t39) rfl) ?_
      refine Ja rfl rfl rfl (U0 rfl rfl) ?_
      refine Jf ?_
      refine J5 (b := (decide (t39 ≠ 0))) rfl (fun hb => ?_) (fun hb => ?_)
      ·have H37 := Jn hb H36; clear H36
       refine Je ?_
       refine Jb ?_
       refine Ja rfl rfl rfl (Jd (v := .int .i64 t39) rfl) ?_
       refine Ja rfl rfl rfl (Jc (v := .int .i64 t39) rfl) ?_
       refine Jf ?_
       refine Jm ?_
       obtain rfl := Option.some.inj H37
       refine Jy (v := .int .i64 t39) rfl rfl (Xh rfl)
      ·have H38 := Jo hb H36; clear H36
       refine Jr ?_
       refine Jb ?_
       obtain ⟨t43, h_t43, H39⟩ := Jh H38; clear H38
       refine Ja rfl rfl rfl (Q2 rfl rfl h_t43) ?_
       refine Ja rfl rfl rfl (Jd (v := .int .i64 t43) rfl) ?_
       refine Jf ?_
       refine Jl t43 () m1 [] (by exact ⟨rfl, rfl, rfl, rfl, trivial⟩) (by decide) rfl (by exact ⟨(by subst hn1; exact H39), trivial⟩) (Nat.lt_succ_self _)
  ·have H46 := Jo hb H26; clear H26
   refine Qr ?_
   refine Je ?_
   refine Jb ?_
   refine Ja rfl rfl rfl (Jc (v := .int .i64 0) rfl) ?_
   refine Jf ?_
   refine Jm ?_
   obtain rfl := Option.some.inj H46
   refine Jy (v := .int .i64 0) rfl rfl (Xh rfl)
theorem k47 {a0 : (List Int)} {v0 : Value} {a1 : (Int → Option (Bool))} {v1 : Value} {r : Int} {w : World} {h : J3} (hw : Know h w Zh) (f0 : FrS h 1 v0 (a0.map J4)) (f1 : FnH Tryz.prog h v1 (Jan a1)) (H : Uq a0 a1 = some r) : Does Tryz.prog 47 (List.toArray [v0, v1]) w (fun v w' => v = (.int .i64 r) ∧ Grow w w') := by
 refine enter (n := 19) Tryz.func47 rfl rfl rfl Zh [] (Sat.nil _ _) ?_
 refine Je ?_
 refine Jb ?_
 refine Ja rfl rfl rfl (Jc (v := .int .i64 0) rfl) ?_
 refine Jf ?_
 refine Je ?_
 refine Je ?_
 refine Jb ?_
 refine Ja rfl rfl rfl (Jd (v := v0) rfl) ?_
 refine Ja rfl rfl rfl (Zl Tryz.underlying24 rfl f0 rfl) ?_
 refine Ja rfl rfl rfl (Jd (v := .int .i64 0) rfl) ?_
 refine Jf ?_
 refine Ju ?_
 refine Yv (σ := Int) (τ := Unit) (fun next1 s => Y9 a0 a1 next1 s) (fun s t => [(0, v0), (1, v1), (7, .int .i64 (a0.length : Int)), (8, .int .i64 s)]) (fun s t => []) (fun s t => True) 0 () [] H (by exact trivial) (by exact ⟨rfl, rfl, rfl, rfl, trivial⟩) (by decide) rfl ?_
 rintro x8_2 _ m1 gg H9 _
 clear H
 replace H9 : Y9 a0 a1 (it (fun next1 s => Y9 a0 a1 next1 s) m1) x8_2 = some r := H9
 generalize hn1 : it (fun next1 s => Y9 a0 a1 next1 s) m1 = next1 at H9
 try dsimp only
 refine Je ?_
 refine Jb ?_
 refine Ja rfl rfl rfl (Q1 rfl rfl) ?_
 refine Jf ?_
 refine Je ?_
 refine J5 (b := (decide (x8_2 < (a0.length : Int)))) rfl (fun hb => ?_) (fun hb => ?_)
 ·have H10 := Jn hb H9; clear H9
  refine Jr ?_
  refine Je ?_
  refine Ju ?_
  refine Je ?_
  refine Jb ?_
  refine Ja rfl rfl rfl (Jd (v := .int .i64 x8_2) rfl) ?_
  refine Ja rfl rfl rfl (Jc (v := .int .i64 x8_2) rfl) ?_
  refine Jf ?_
  refine Je ?_
  refine Jb ?_
  refine Ja rfl rfl rfl (Jd (v := v1) rfl) ?_
  refine Ja rfl rfl rfl (Jd (v := v0) rfl) ?_
  refine Ja rfl rfl rfl (Jd (v := .int .i64 x8_2) rfl) ?_
  obtain ⟨t14, h_t14, H11⟩ := Jh H10; clear H10
  refine Ja rfl rfl rfl (Qm Tryz.underlying24 Tryz.sizeOf3 rfl rfl f0 h_t14) ?_
  refine Qa (fun w hF hS => Qj (f := J4) (i := x8_2) (sz := 1) (j := 0) (v := .int .i64 t14) Tryz.isAgg3 rfl rfl (f0.row (hw.now hF)) h_t14 rfl) rfl rfl rfl ?_
  obtain ⟨t16, h_t16, H12⟩ := Jh H11; clear H11
  refine l_callV (R := Jan a1) (r := .bool t16) (v := v1) (fun w hF hS => ⟨(f1.mono (hw.now hF)), ⟨t14, _, rfl, h_t16, rfl⟩⟩) rfl rfl rfl rfl ?_
  refine Jf ?_
  refine J5 (b := t16) rfl (fun hb => ?_) (fun hb => ?_)
  ·have H13 := Jn hb H12; clear H12
   refine Je ?_
   refine Jb ?_
   refine Ja rfl rfl rfl (Jd (v := .int .i64 x8_2) rfl) ?_
   refine Ja rfl rfl rfl (Jc (v := .int .i64 x8_2) rfl) ?_
   refine Jf ?_
   refine Jm ?_
   obtain rfl := Option.some.inj H13
   refine Jy (v := .int .i64 x8_2) rfl rfl (Xh rfl)
  ·have H14 := Jo hb H12; clear H12
   refine Jr ?_
   refine Jb ?_
   obtain ⟨t18, h_t18, H15⟩ := Jh H14; clear H14
   refine Ja rfl rfl rfl (Q2 rfl rfl h_t18) ?_
   refine Ja rfl rfl rfl (Jd (v := .int .i64 t18) rfl) ?_
   refine Jf ?_
   refine Jl t18 () m1 [] (by exact ⟨rfl, rfl, rfl, rfl, trivial⟩) (by decide) rfl (by exact ⟨(by subst hn1; exact H15), trivial⟩) (Nat.lt_succ_self _)
 ·have H16 := Jo hb H9; clear H9
  refine Qr ?_
  refine Je ?_
  refine Jb ?_
  refine Ja rfl rfl rfl (Jc (v := .int .i64 (-1)) rfl) ?_
  refine Jf ?_
  refine Jm ?_
  obtain rfl := Option.some.inj H16
  refine Jy (v := .int .i64 (-1)) rfl rfl (Xh rfl)
theorem k21 {a0 : (List Int)} {v0 : Value} {a1 : (Int → Option (Bool))} {v1 : Value} {r : Bool} {w : World} {h : J3} (hw : Know h w Zh) (f0 : FrS h 1 v0 (a0.map J4)) (f1 : FnH Tryz.prog h v1 (Jan a1)) (H : Y7 a0 a1 = some r) : Does Tryz.prog 21 (List.toArray [v0, v1]) w (fun v w' => v = (.bool r) ∧ Grow w w') := by
 refine enter (n := 9) Tryz.func21 rfl rfl rfl Zh [] (Sat.nil _ _) ?_
 refine Je ?_
 refine Jb ?_
 refine Ja rfl rfl rfl (Jc (v := .bool false) rfl) ?_
 refine Jf ?_
 refine Je ?_
 refine Jb ?_
 refine Ja rfl rfl rfl (Jd (v := v0) rfl) ?_
 refine Ja rfl rfl rfl (Jd (v := v1) rfl) ?_
 obtain ⟨t7, h_t7, H2⟩ := Jh H; clear H
 refine Xq (fun w hF hS => k47 (Jx w) (f0.mono (hw.now hF)) (f1.mono (hw.now hF)) h_t7) Tryz.call47 rfl rfl rfl ?_
 refine Ja rfl rfl rfl (r_geq rfl rfl) ?_
 refine Ja rfl rfl rfl (Jc (v := .bool (decide (0 ≤ t7))) rfl) ?_
 refine Jf ?_
 refine Jm ?_
 obtain rfl := Option.some.inj H2
 refine Jy (v := .bool (decide (0 ≤ t7))) rfl rfl (Xh rfl)
theorem k72 {a0 : Int} {r : Bool} (H : face_isTitle_1 a0 = some r) : Ret Tryz.prog 72 [.int .u8 a0] (.bool r) := by
 refine Qc (n := 5) Tryz.func72 rfl rfl rfl (fun wd => ?_)
 refine Je ?_
 refine Jb ?_
 refine Ja rfl rfl rfl (Jc (v := .bool false) rfl) ?_
 refine Jf ?_
 refine Je ?_
 refine Jb ?_
 refine Ja rfl rfl rfl (Jd (v := .int .u8 a0) rfl) ?_
 refine Ja rfl rfl rfl (Q1 rfl rfl) ?_
 refine Ja rfl rfl rfl (Jc (v := .bool (decide (a0 < 32))) rfl) ?_
 refine Jf ?_
 refine Jm ?_
 obtain rfl := Option.some.inj H
 refine Jy (v := .bool (decide (a0 < 32))) rfl rfl (Xh rfl)
theorem k42 {a0 : (List UInt8)} {r : Bool} (H : face_isTitle a0 = some r) : Ret Tryz.prog 42 [str a0] (.bool r) := by
 refine Qc (n := 13) Tryz.func42 rfl rfl rfl (fun wd => ?_)
 refine Je ?_
 refine Jb ?_
 refine Ja rfl rfl rfl (Jc (v := .bool false) rfl) ?_
 refine Jf ?_
 refine Je ?_
 refine Jb ?_
 refine Ja rfl rfl rfl (Jd (v := str a0) rfl) ?_
 refine Ja rfl rfl rfl (Wb Tryz.underlying9 rfl) ?_
 obtain ⟨t5, h_t5, H6⟩ := Jh H; clear H
 refine Qu (k18 h_t5) Tryz.call18 rfl rfl rfl ?_
 refine Ja rfl rfl rfl (Vt rfl) ?_
 refine Ja rfl rfl rfl (Jd (v := .bool (!t5)) rfl) ?_
 refine split (fun hb => ?_) (fun hb => ?_)
 ·have H7 := Jn hb H6; clear H6
  refine Ja rfl rfl rfl (Jd (v := str a0) rfl) ?_
  obtain ⟨t9, h_t9, H8⟩ := Jh H7; clear H7
  refine Zf (rds := []) (makes_byt (f := e_u8) (s := a0) Tryz.underlying9 Tryz.underlying107 Tryz.underlying5 rfl (fun _ => rfl) h_t9) rfl rfl rfl (fun p => ?_)
  obtain ⟨t10, h_t10, H9⟩ := Jh H8; clear H8
  refine Xq (fun w hF hS => k71 (Jx w) (frs_mk (i := 0) hS rfl) (FnH.mk ⟨72, #[], #[], rfl, Tryz.call72, fun args2 post2 w2 hk2 hR2 => by obtain ⟨a0_, r_, rfl, H_, rfl⟩ := hR2; exact k72 H_ w2⟩) h_t10) Tryz.call71 rfl rfl rfl ?_
  refine Ja rfl rfl rfl (Vt rfl) ?_
  refine Ja rfl rfl rfl (Jz (v := .bool (!t10)) rfl rfl) ?_
  refine Ja rfl rfl rfl (Jc (v := .bool (!t10)) rfl) ?_
  refine Jf ?_
  refine Jm ?_
  obtain rfl := Option.some.inj H9
  refine Jy (v := .bool (!t10)) rfl rfl (Xh rfl)
 ·have H10 := Jo hb H6; clear H6
  refine Ji rfl rfl rfl ?_
  refine Ji rfl rfl rfl ?_
  refine Ji rfl rfl rfl ?_
  refine Ji rfl rfl rfl ?_
  refine Ja rfl rfl rfl (Jw (v := .bool false) rfl rfl) ?_
  refine Ja rfl rfl rfl (Jc (v := .bool false) rfl) ?_
  refine Jf ?_
  refine Jm ?_
  obtain rfl := Option.some.inj H10
  refine Jy (v := .bool false) rfl rfl (Xh rfl)
theorem k86 {a0 : (List T_face_Likeness)} {v0 : Value} {a1 : Int} {a2 : (T_face_Likeness → Int → Option (Int))} {v2 : Value} {r : Int × Bool} {w : World} {h : J3} (hw : Know h w Zh) (f0 : FrS h 14 v0 (a0.map Qf)) (f2 : FnH Tryz.prog h v2 (Z0 a2)) (H : X7 a0 a1 a2 = some r) : Does Tryz.prog 86 (List.toArray [v0, .int .i64 a1, v2]) w (fun v w' => v = (.tuple #[.int .i64 r.1, .bool r.2]) ∧ Grow w w') := by
 refine enter (n := 49) Tryz.func86 rfl rfl rfl Zh [] (Sat.nil _ _) ?_
 refine Je ?_
 refine Jb ?_
 refine Ja rfl rfl rfl (Jc (v := .int .i64 0) rfl) ?_
 refine Ja rfl rfl rfl (Jc (v := .bool false) rfl) ?_
 refine Jf ?_
 refine Je ?_
 refine Jb ?_
 refine Ja rfl rfl rfl (Jd (v := v0) rfl) ?_
 refine Ja rfl rfl rfl (Zl Tryz.underlying22 rfl f0 rfl) ?_
 refine Ja rfl rfl rfl (Jc (v := .int .i64 (a0.length : Int)) rfl) ?_
 refine Jf ?_
 refine Je ?_
 refine Jb ?_
 refine Ja rfl rfl rfl (Jd (v := .int .i64 (a0.length : Int)) rfl) ?_
 refine Ja rfl rfl rfl (Jc (v := .int .i64 0) rfl) ?_
 refine Ja rfl rfl rfl (Jc (v := .int .i64 (a0.length : Int)) rfl) ?_
 refine Jf ?_
 refine Xi (r := r) (σ := Int) (τ := Unit) (fun s => J7 a0 a1 a2 s) (fun s t => [(0, v0), (1, .int .i64 a1), (2, v2), (8, .int .i64 (a0.length : Int)), (9, .int .i64 s)]) (fun s t => []) (fun s t => True) ?_ ?_
 ·refine Ju ?_
  refine Yv (σ := Int × Int) (τ := Unit) (fun next2 s => J1 a0 a1 a2 next2 s.1 s.2) (fun s t => [(0, v0), (1, .int .i64 a1), (2, v2), (8, .int .i64 (a0.length : Int)), (9, .int .i64 s.1), (10, .int .i64 s.2)]) (fun s t => []) (fun s t => True) (0, (a0.length : Int)) () [] H (by exact trivial) (by exact ⟨rfl, rfl, rfl, rfl, rfl, rfl, trivial⟩) (by decide) rfl ?_
  rintro ⟨x9_3, x10_2⟩ _ m2 gg H21 _
  clear H
  replace H21 : J1 a0 a1 a2 (it (fun next2 s => J1 a0 a1 a2 next2 s.1 s.2) m2) x9_3 x10_2 = some r := H21
  generalize hn2 : it (fun next2 s => J1 a0 a1 a2 next2 s.1 s.2) m2 = next2 at H21
  try dsimp only
  refine Je ?_
  refine Je ?_
  refine Jb ?_
  refine Ja rfl rfl rfl (Jd (v := .int .i64 x9_3) rfl) ?_
  refine Ja rfl rfl rfl (Jd (v := .int .i64 x10_2) rfl) ?_
  refine Ja rfl rfl rfl (Q1 rfl rfl) ?_
  refine Jf ?_
  refine J5 (b := (decide (x9_3 < x10_2))) rfl (fun hb => ?_) (fun hb => ?_)
  ·have H22 := Jn hb H21; clear H21
   refine Jr ?_
   refine Ju ?_
   refine Je ?_
   refine Jb ?_
   refine Ja rfl rfl rfl (Jd (v := .int .i64 x9_3) rfl) ?_
   refine Ja rfl rfl rfl (Jd (v := .int .i64 x10_2) rfl) ?_
   obtain ⟨t20, h_t20, H23⟩ := Jh H22; clear H22
   refine Ja rfl rfl rfl (Q2 rfl rfl h_t20) ?_
   refine Ja rfl rfl rfl (r_convG Tryz.runUnderlying3 Tryz.runUnderlying115 rfl (wr_u64 _)) ?_
   obtain ⟨t22, h_t22, H24⟩ := Jh H23; clear H23
   refine Ja rfl rfl rfl (r_shrG rfl rfl rfl h_t22) ?_
   refine Ja rfl rfl rfl (r_convG Tryz.runUnderlying115 Tryz.runUnderlying3 rfl (wr_i64 _)) ?_
   refine Ja rfl rfl rfl (Jc (v := .int .i64 (wI64 t22)) rfl) ?_
   refine Jf ?_
   refine Je ?_
   refine Jb ?_
   refine Ja rfl rfl rfl (Jd (v := v2) rfl) ?_
   refine Ja rfl rfl rfl (Jd (v := v0) rfl) ?_
   refine Ja rfl rfl rfl (Jd (v := .int .i64 (wI64 t22)) rfl) ?_
   obtain ⟨t27, h_t27, H25⟩ := Jh H24; clear H24
   refine Ja rfl rfl rfl (Qm Tryz.underlying22 Tryz.sizeOf85 rfl rfl f0 h_t27) ?_
   refine Qa (fun w hF hS => Xw (f := Qf) (i := (wI64 t22)) (sz := 14) (j := 0) (vs := [.int .i64 t27.Id, .int .i64 t27.Photo, .int .i64 (t27.Vec 0), .int .i64 (t27.Vec 1), .int .i64 (t27.Vec 2), .int .i64 (t27.Vec 3), .int .i64 (t27.Vec 4), .int .i64 (t27.Vec 5), .int .i64 (t27.Vec 6), .int .i64 (t27.Vec 7), .int .i64 (t27.Vec 8), .int .i64 (t27.Vec 9), .int .i64 (t27.Vec 10), .int .i64 (t27.Vec 11)]) Tryz.isAgg85 Tryz.sizeOf85 rfl rfl (f0.row (hw.now hF)) h_t27 rfl) rfl rfl rfl ?_
   refine Ja rfl rfl rfl (Jd (v := .int .i64 a1) rfl) ?_
   obtain ⟨t30, h_t30, H26⟩ := Jh H25; clear H25
   refine l_callV (R := Z0 a2) (r := .int .i64 t30) (v := v2) (fun w hF hS => ⟨(f2.mono (hw.now hF)), ⟨t27, a1, _, rfl, h_t30, rfl⟩⟩) rfl rfl rfl rfl ?_
   refine Ja rfl rfl rfl (Q1 rfl rfl) ?_
   refine Jf ?_
   refine J5 (b := (decide (t30 < 0))) rfl (fun hb => ?_) (fun hb => ?_)
   ·have H27 := Jn hb H26; clear H26
    refine Jb ?_
    refine Ja rfl rfl rfl (Jd (v := .int .i64 (wI64 t22)) rfl) ?_
    obtain ⟨t33, h_t33, H28⟩ := Jh H27; clear H27
    refine Ja rfl rfl rfl (Q2 rfl rfl h_t33) ?_
    refine Ja rfl rfl rfl (Jc (v := .int .i64 t33) rfl) ?_
    refine Jf ?_
    refine Jl (t33, x10_2) () m2 [] (by exact ⟨rfl, rfl, rfl, rfl, rfl, rfl, trivial⟩) (by decide) rfl (by exact ⟨(by subst hn2; exact H28), trivial⟩) (Nat.lt_succ_self _)
   ·have H29 := Jo hb H26; clear H26
    refine Jb ?_
    refine Ja rfl rfl rfl (Jd (v := .int .i64 (wI64 t22)) rfl) ?_
    refine Ja rfl rfl rfl (Jc (v := .int .i64 (wI64 t22)) rfl) ?_
    refine Jf ?_
    refine Jl (x9_3, (wI64 t22)) () m2 [] (by exact ⟨rfl, rfl, rfl, rfl, rfl, rfl, trivial⟩) (by decide) rfl (by exact ⟨(by subst hn2; exact H29), trivial⟩) (Nat.lt_succ_self _)
  ·have H30 := Jo hb H21; clear H21
   refine Qr ?_
   refine Jl x9_3 () 0 [] (by exact ⟨rfl, rfl, rfl, rfl, rfl, trivial⟩) (by decide) rfl (by exact ⟨H30, trivial⟩) (Nat.lt_succ_self _)
 ·rintro x9 _ gg H16 _
  replace H16 : J7 a0 a1 a2 x9 = some r := H16
  try dsimp only
  refine Je ?_
  refine Jb ?_
  refine Ja rfl rfl rfl (Jd (v := .int .i64 x9) rfl) ?_
  refine Ja rfl rfl rfl (Jd (v := .int .i64 x9) rfl) ?_
  refine Ja rfl rfl rfl (Jd (v := .int .i64 (a0.length : Int)) rfl) ?_
  refine Ja rfl rfl rfl (Q1 rfl rfl) ?_
  refine Ja rfl rfl rfl (Jd (v := .bool (decide (x9 < (a0.length : Int)))) rfl) ?_
  refine split (fun hb => ?_) (fun hb => ?_)
  ·have H17 := Jn hb H16; clear H16
   refine Ja rfl rfl rfl (Jd (v := v2) rfl) ?_
   refine Ja rfl rfl rfl (Jd (v := v0) rfl) ?_
   refine Ja rfl rfl rfl (Jd (v := .int .i64 x9) rfl) ?_
   obtain ⟨t43, h_t43, H18⟩ := Jh H17; clear H17
   refine Ja rfl rfl rfl (Qm Tryz.underlying22 Tryz.sizeOf85 rfl rfl f0 h_t43) ?_
   refine Qa (fun w hF hS => Xw (f := Qf) (i := x9) (sz := 14) (j := 0) (vs := [.int .i64 t43.Id, .int .i64 t43.Photo, .int .i64 (t43.Vec 0), .int .i64 (t43.Vec 1), .int .i64 (t43.Vec 2), .int .i64 (t43.Vec 3), .int .i64 (t43.Vec 4), .int .i64 (t43.Vec 5), .int .i64 (t43.Vec 6), .int .i64 (t43.Vec 7), .int .i64 (t43.Vec 8), .int .i64 (t43.Vec 9), .int .i64 (t43.Vec 10), .int .i64 (t43.Vec 11)]) Tryz.isAgg85 Tryz.sizeOf85 rfl rfl (f0.row (hw.now hF)) h_t43 rfl) rfl rfl rfl ?_
   refine Ja rfl rfl rfl (Jd (v := .int .i64 a1) rfl) ?_
   obtain ⟨t46, h_t46, H19⟩ := Jh H18; clear H18
   refine l_callV (R := Z0 a2) (r := .int .i64 t46) (v := v2) (fun w hF hS => ⟨(f2.mono (hw.now hF)), ⟨t43, a1, _, rfl, h_t46, rfl⟩⟩) rfl rfl rfl rfl ?_
   refine Ja rfl rfl rfl (Zp rfl rfl) ?_
   refine Ja rfl rfl rfl (Jz (v := .bool (decide (t46 = 0))) rfl rfl) ?_
   refine Ja rfl rfl rfl (Jc (v := .int .i64 x9) rfl) ?_
   refine Ja rfl rfl rfl (Jc (v := .bool (decide (t46 = 0))) rfl) ?_
   refine Jf ?_
   refine Jm ?_
   obtain rfl := Option.some.inj H19
   refine ret2 (v1 := .int .i64 x9) (v2 := .bool (decide (t46 = 0))) rfl rfl rfl (Xh rfl)
  ·have H20 := Jo hb H16; clear H16
   refine Ji rfl rfl rfl ?_
   refine Ji rfl rfl rfl ?_
   refine Ji rfl rfl rfl ?_
   refine Ji rfl rfl rfl ?_
   refine Ji rfl rfl rfl ?_
   refine Ji rfl rfl rfl ?_
   refine Ji rfl rfl rfl ?_
   refine Ji rfl rfl rfl ?_
   refine Ja rfl rfl rfl (Jw (v := .bool false) rfl rfl) ?_
   refine Ja rfl rfl rfl (Jc (v := .int .i64 x9) rfl) ?_
   refine Ja rfl rfl rfl (Jc (v := .bool false) rfl) ?_
   refine Jf ?_
   refine Jm ?_
   obtain rfl := Option.some.inj H20
   refine ret2 (v1 := .int .i64 x9) (v2 := .bool false) rfl rfl rfl (Xh rfl)
theorem k87 {a0 : T_face_Likeness} {a1 : Int} {r : Int} (H : face_at_1 a0 a1 = some r) : Ret Tryz.prog 87 [.agg #[.int .i64 a0.Id, .int .i64 a0.Photo, .int .i64 (a0.Vec 0), .int .i64 (a0.Vec 1), .int .i64 (a0.Vec 2), .int .i64 (a0.Vec 3), .int .i64 (a0.Vec 4), .int .i64 (a0.Vec 5), .int .i64 (a0.Vec 6), .int .i64 (a0.Vec 7), .int .i64 (a0.Vec 8), .int .i64 (a0.Vec 9), .int .i64 (a0.Vec 10), .int .i64 (a0.Vec 11)], .int .i64 a1] (.int .i64 r) := by
 refine Qc (n := 15) Tryz.func87 rfl rfl rfl (fun wd => ?_)
 refine Je ?_
 refine Jb ?_
 refine W8 (cs := [.int .i64 a0.Id, .int .i64 a0.Photo, .int .i64 (a0.Vec 0), .int .i64 (a0.Vec 1), .int .i64 (a0.Vec 2), .int .i64 (a0.Vec 3), .int .i64 (a0.Vec 4), .int .i64 (a0.Vec 5), .int .i64 (a0.Vec 6), .int .i64 (a0.Vec 7), .int .i64 (a0.Vec 8), .int .i64 (a0.Vec 9), .int .i64 (a0.Vec 10), .int .i64 (a0.Vec 11)]) rfl rfl rfl rfl (fun b1 => ?_)
 refine Ja rfl rfl rfl (Jc (v := .int .i64 0) rfl) ?_
 refine Jf ?_
 refine Je ?_
 refine Ju ?_
 refine Je ?_
 refine Jb ?_
 refine Ja rfl rfl rfl (Jq Tryz.runUnderlying85 rfl Tryz.sizeOf3 rfl rfl) ?_
 refine J0 (i := 0) (v := .int .i64 a0.Id) Tryz.isAgg3 rfl rfl rfl rfl rfl ?_
 refine Ja rfl rfl rfl (Jd (v := .int .i64 a1) rfl) ?_
 refine Ja rfl rfl rfl (Q1 rfl rfl) ?_
 refine Ja rfl rfl rfl (Jc (v := .bool (decide (a0.Id < a1))) rfl) ?_
 refine Jf ?_
 refine J5 (b := (decide (a0.Id < a1))) rfl (fun hb => ?_) (fun hb => ?_)
 ·have H5 := Jn hb H; clear H
  refine Je ?_
  refine Jb ?_
  refine Ja rfl rfl rfl (Jc (v := .int .i64 (-1)) rfl) ?_
  refine Jf ?_
  refine Jm ?_
  obtain rfl := Option.some.inj H5
  refine Jy (v := .int .i64 (-1)) rfl rfl (Xh rfl)
 ·have H6 := Jo hb H; clear H
  refine Je ?_
  refine Jb ?_
  refine Ja rfl rfl rfl (Jq Tryz.runUnderlying85 rfl Tryz.sizeOf3 rfl rfl) ?_
  refine J0 (i := 0) (v := .int .i64 a0.Id) Tryz.isAgg3 rfl rfl rfl rfl rfl ?_
  refine Ja rfl rfl rfl (Jd (v := .int .i64 a1) rfl) ?_
  refine Ja rfl rfl rfl (Wz rfl rfl) ?_
  refine Ja rfl rfl rfl (Jc (v := .bool (decide (a1 < a0.Id))) rfl) ?_
  refine Jf ?_
  refine J5 (b := (decide (a1 < a0.Id))) rfl (fun hb => ?_) (fun hb => ?_)
  ·have H7 := Jn hb H6; clear H6
   refine Je ?_
   refine Jb ?_
   refine Ja rfl rfl rfl (Jc (v := .int .i64 1) rfl) ?_
   refine Jf ?_
   refine Jm ?_
   obtain rfl := Option.some.inj H7
   refine Jy (v := .int .i64 1) rfl rfl (Xh rfl)
  ·have H8 := Jo hb H6; clear H6
   refine Jr ?_
   refine Je ?_
   refine Jb ?_
   refine Ja rfl rfl rfl (Jc (v := .int .i64 0) rfl) ?_
   refine Jf ?_
   refine Jm ?_
   obtain rfl := Option.some.inj H8
   refine Jy (v := .int .i64 0) rfl rfl (Xh rfl)
theorem k73 {a0 : (List T_face_Likeness)} {v0 : Value} {a1 : Int} {r : Int × Bool} {w : World} {h : J3} (hw : Know h w Zh) (f0 : FrS h 14 v0 (a0.map Qf)) (H : face_at a0 a1 = some r) : Does Tryz.prog 73 (List.toArray [v0, .int .i64 a1]) w (fun v w' => v = (.tuple #[.int .i64 r.1, .bool r.2]) ∧ Grow w w') := by
 refine enter (n := 11) Tryz.func73 rfl rfl rfl Zh [] (Sat.nil _ _) ?_
 refine Je ?_
 refine Jb ?_
 refine Ja rfl rfl rfl (Jc (v := .int .i64 0) rfl) ?_
 refine Ja rfl rfl rfl (Jc (v := .bool false) rfl) ?_
 refine Jf ?_
 refine Je ?_
 refine Jb ?_
 refine Ja rfl rfl rfl (Jd (v := v0) rfl) ?_
 refine Ja rfl rfl rfl (Jd (v := .int .i64 a1) rfl) ?_
 obtain ⟨t8, h_t8, H2⟩ := Jh H; clear H
 refine Xq (fun w hF hS => k86 (Jx w) (f0.mono (hw.now hF)) (FnH.mk ⟨87, #[], #[], rfl, Tryz.call87, fun args2 post2 w2 hk2 hR2 => by obtain ⟨a0_, a1_, r_, rfl, H_, rfl⟩ := hR2; exact k87 H_ w2⟩) h_t8) Tryz.call86 rfl rfl rfl ?_
 refine Ja rfl rfl rfl (Qz (v := .int .i64 t8.1) rfl rfl) ?_
 refine Ja rfl rfl rfl (Qz (v := .bool t8.2) rfl rfl) ?_
 refine Ja rfl rfl rfl (Jc (v := .int .i64 t8.1) rfl) ?_
 refine Ja rfl rfl rfl (Jc (v := .bool t8.2) rfl) ?_
 refine Jf ?_
 refine Jm ?_
 obtain rfl := Option.some.inj H2
 refine ret2 (v1 := .int .i64 t8.1) (v2 := .bool t8.2) rfl rfl rfl (Xh rfl)
theorem k43 {a0 : (List T_face_Likeness)} {v0 : Value} {a1 : (List Int)} {v1 : Value} {r : Int} {w : World} {h : J3} (hw : Know h w Zh) (f0 : FrS h 14 v0 (a0.map Qf)) (f1 : FrS h 1 v1 (a1.map J4)) (H : Jax a0 a1 = some r) : Does Tryz.prog 43 (List.toArray [v0, v1]) w (fun v w' => v = (.int .i64 r) ∧ Grow w w') := by
 refine enter (n := 36) Tryz.func43 rfl rfl rfl Zh [] (Sat.nil _ _) ?_
 refine Je ?_
 refine Jb ?_
 refine Ja rfl rfl rfl (Jc (v := .int .i64 0) rfl) ?_
 refine Jf ?_
 refine Je ?_
 refine Je ?_
 refine Jb ?_
 refine Ja rfl rfl rfl (Jd (v := v1) rfl) ?_
 refine Ja rfl rfl rfl (Zl Tryz.underlying24 rfl f1 rfl) ?_
 refine Ja rfl rfl rfl (Jd (v := .int .i64 0) rfl) ?_
 refine Jf ?_
 refine Ju ?_
 refine Yv (σ := Int) (τ := Unit) (fun next1 s => Zy a0 a1 next1 s) (fun s t => [(0, v0), (1, v1), (9, v1), (10, .int .i64 (a1.length : Int)), (11, .int .i64 s)]) (fun s t => []) (fun s t => True) 0 () [] H (by exact trivial) (by exact ⟨rfl, rfl, rfl, rfl, rfl, trivial⟩) (by decide) rfl ?_
 rintro x11_2 _ m1 gg H16 _
 clear H
 replace H16 : Zy a0 a1 (it (fun next1 s => Zy a0 a1 next1 s) m1) x11_2 = some r := H16
 generalize hn1 : it (fun next1 s => Zy a0 a1 next1 s) m1 = next1 at H16
 try dsimp only
 refine Je ?_
 refine Jb ?_
 refine Ja rfl rfl rfl (Q1 rfl rfl) ?_
 refine Jf ?_
 refine Je ?_
 refine J5 (b := (decide (x11_2 < (a1.length : Int)))) rfl (fun hb => ?_) (fun hb => ?_)
 ·have H17 := Jn hb H16; clear H16
  refine Jr ?_
  refine Xi (r := r) (σ := Unit) (τ := Unit) (fun s => Wn x11_2 next1) (fun s t => [(0, v0), (1, v1), (9, v1), (10, .int .i64 (a1.length : Int)), (11, .int .i64 x11_2)]) (fun s t => []) (fun s t => True) ?_ ?_
  ·refine Ju ?_
   refine Je ?_
   refine Jb ?_
   refine Ja rfl rfl rfl (Jd (v := .int .i64 x11_2) rfl) ?_
   obtain ⟨t14, h_t14, H20⟩ := Jh H17; clear H17
   refine Ja rfl rfl rfl (Qm Tryz.underlying24 Tryz.sizeOf3 rfl rfl f1 h_t14) ?_
   refine Qa (fun w hF hS => Qj (f := J4) (i := x11_2) (sz := 1) (j := 0) (v := .int .i64 t14) Tryz.isAgg3 rfl rfl (f1.row (hw.now hF)) h_t14 rfl) rfl rfl rfl ?_
   refine Ja rfl rfl rfl (Jc (v := .int .i64 x11_2) rfl) ?_
   refine Ja rfl rfl rfl (Jc (v := .int .i64 t14) rfl) ?_
   refine Jf ?_
   refine Je ?_
   refine Je ?_
   refine Jb ?_
   refine Ja rfl rfl rfl (Jd (v := v0) rfl) ?_
   refine Ja rfl rfl rfl (Jd (v := .int .i64 t14) rfl) ?_
   obtain ⟨t19, h_t19, H21⟩ := Jh H20; clear H20
   refine Xq (fun w hF hS => k73 (Jx w) (f0.mono (hw.now hF)) h_t19) Tryz.call73 rfl rfl rfl ?_
   refine Ja rfl rfl rfl (Jd (v := .tuple #[.int .i64 t19.1, .bool t19.2]) rfl) ?_
   refine Ja rfl rfl rfl (Qz (v := .int .i64 t19.1) rfl rfl) ?_
   refine Ja rfl rfl rfl (Qz (v := .bool t19.2) rfl rfl) ?_
   refine Ja rfl rfl rfl (Jc (v := .int .i64 t19.1) rfl) ?_
   refine Ja rfl rfl rfl (Jc (v := .bool t19.2) rfl) ?_
   refine Jf ?_
   refine Je ?_
   refine Jb ?_
   refine Ja rfl rfl rfl (Jd (v := .bool t19.2) rfl) ?_
   refine Ja rfl rfl rfl (Vt rfl) ?_
   refine Jf ?_
   refine J5 (b := (!t19.2)) rfl (fun hb => ?_) (fun hb => ?_)
   ·have H22 := Jn hb H21; clear H21
    refine Je ?_
    refine Jb ?_
    refine Ja rfl rfl rfl (Jc (v := .int .i64 7) rfl) ?_
    refine Jf ?_
    refine Jm ?_
    obtain rfl := Option.some.inj H22
    refine Jy (v := .int .i64 7) rfl rfl (Xh rfl)
   ·have H23 := Jo hb H21; clear H21
    refine Jr ?_
    refine Je ?_
    refine Jb ?_
    refine Ja rfl rfl rfl (Jd (v := .int .i64 x11_2) rfl) ?_
    refine Ja rfl rfl rfl (Wz rfl rfl) ?_
    refine Ja rfl rfl rfl (Jd (v := .bool (decide (0 < x11_2))) rfl) ?_
    refine split (fun hb => ?_) (fun hb => ?_)
    ·have H24 := Jn hb H23; clear H23
     refine Ja rfl rfl rfl (Jd (v := .int .i64 t14) rfl) ?_
     refine Ja rfl rfl rfl (Jd (v := v1) rfl) ?_
     refine Ja rfl rfl rfl (Jd (v := .int .i64 x11_2) rfl) ?_
     obtain ⟨t30, h_t30, H25⟩ := Jh H24; clear H24
     refine Ja rfl rfl rfl (U6 rfl rfl h_t30) ?_
     obtain ⟨t31, h_t31, H26⟩ := Jh H25; clear H25
     refine Ja rfl rfl rfl (Qm Tryz.underlying24 Tryz.sizeOf3 rfl rfl f1 h_t31) ?_
     refine Qa (fun w hF hS => Qj (f := J4) (i := t30) (sz := 1) (j := 0) (v := .int .i64 t31) Tryz.isAgg3 rfl rfl (f1.row (hw.now hF)) h_t31 rfl) rfl rfl rfl ?_
     refine Ja rfl rfl rfl (r_leq rfl rfl) ?_
     refine Ja rfl rfl rfl (Jz (v := .bool (decide (t14 ≤ t31))) rfl rfl) ?_
     refine Jf ?_
     refine J5 (b := (decide (t14 ≤ t31))) rfl (fun hb => ?_) (fun hb => ?_)
     ·have H27 := Jn hb H26; clear H26
      refine Je ?_
      refine Jb ?_
      refine Ja rfl rfl rfl (Jc (v := .int .i64 5) rfl) ?_
      refine Jf ?_
      refine Jm ?_
      obtain rfl := Option.some.inj H27
      refine Jy (v := .int .i64 5) rfl rfl (Xh rfl)
     ·have H28 := Jo hb H26; clear H26
      refine Jr ?_
      refine Jl () () 0 [] (by exact ⟨rfl, rfl, rfl, rfl, rfl, trivial⟩) (by decide) rfl (by exact ⟨H28, trivial⟩) (Nat.lt_succ_self _)
    ·have H29 := Jo hb H23; clear H23
     refine Ji rfl rfl rfl ?_
     refine Ji rfl rfl rfl ?_
     refine Ji rfl rfl rfl ?_
     refine Ji rfl rfl rfl ?_
     refine Ji rfl rfl rfl ?_
     refine Ji rfl rfl rfl ?_
     refine Ji rfl rfl rfl ?_
     refine Ja rfl rfl rfl (Jw (v := .bool false) rfl rfl) ?_
     refine Jf ?_
     refine Wi rfl ?_
     refine Jr ?_
     refine Jl () () 0 [] (by exact ⟨rfl, rfl, rfl, rfl, rfl, trivial⟩) (by decide) rfl (by exact ⟨H29, trivial⟩) (Nat.lt_succ_self _)
  ·rintro _ _ gg H18 _
   replace H18 : Wn x11_2 next1 = some r := H18
   try dsimp only
   refine Jb ?_
   obtain ⟨t35, h_t35, H19⟩ := Jh H18; clear H18
   refine Ja rfl rfl rfl (Q2 rfl rfl h_t35) ?_
   refine Ja rfl rfl rfl (Jd (v := .int .i64 t35) rfl) ?_
   refine Jf ?_
   refine Jl t35 () m1 [] (by exact ⟨rfl, rfl, rfl, rfl, rfl, trivial⟩) (by decide) rfl (by exact ⟨(by subst hn1; exact H19), trivial⟩) (Nat.lt_succ_self _)
 ·have H30 := Jo hb H16; clear H16
  refine Qr ?_
  refine Je ?_
  refine Jb ?_
  refine Ja rfl rfl rfl (Jc (v := .int .i64 0) rfl) ?_
  refine Jf ?_
  refine Jm ?_
  obtain rfl := Option.some.inj H30
  refine Jy (v := .int .i64 0) rfl rfl (Xh rfl)
theorem k88 {a0 : Int} {a1 : Int} {r : Bool} (H : cmp_Less_int a0 a1 = some r) : Ret Tryz.prog 88 [.int .i64 a0, .int .i64 a1] (.bool r) := by
 refine Qc (n := 17) Tryz.func88 rfl rfl rfl (fun wd => ?_)
 refine Je ?_
 refine Jb ?_
 refine Ja rfl rfl rfl (Jc (v := .bool false) rfl) ?_
 refine Jf ?_
 refine Je ?_
 refine Jb ?_
 refine Ja rfl rfl rfl (Jd (v := .int .i64 a0) rfl) ?_
 obtain ⟨t6, h_t6, H7⟩ := Jh H; clear H
 refine Qu (k108 h_t6) Tryz.call108 rfl rfl rfl ?_
 refine Ja rfl rfl rfl (Jd (v := .bool t6) rfl) ?_
 refine split (fun hb => ?_) (fun hb => ?_)
 ·have H8 := Jn hb H7; clear H7
  refine Ja rfl rfl rfl (Jd (v := .int .i64 a1) rfl) ?_
  obtain ⟨t9, h_t9, H9⟩ := Jh H8; clear H8
  refine Qu (k108 h_t9) Tryz.call108 rfl rfl rfl ?_
  refine Ja rfl rfl rfl (Vt rfl) ?_
  refine Ja rfl rfl rfl (Jz (v := .bool (!t9)) rfl rfl) ?_
  refine Ja rfl rfl rfl (Jd (v := .bool (!t9)) rfl) ?_
  refine split (fun hb => ?_) (fun hb => ?_)
  ·have H10 := Jn hb H9; clear H9
   refine Ji rfl rfl rfl ?_
   refine Ji rfl rfl rfl ?_
   refine Ji rfl rfl rfl ?_
   refine Ja rfl rfl rfl (Jz (v := .bool true) rfl rfl) ?_
   refine Ja rfl rfl rfl (Jc (v := .bool true) rfl) ?_
   refine Jf ?_
   refine Jm ?_
   obtain rfl := Option.some.inj H10
   refine Jy (v := .bool true) rfl rfl (Xh rfl)
  ·have H11 := Jo hb H9; clear H9
   refine Ja rfl rfl rfl (Jd (v := .int .i64 a0) rfl) ?_
   refine Ja rfl rfl rfl (Jd (v := .int .i64 a1) rfl) ?_
   refine Ja rfl rfl rfl (Q1 rfl rfl) ?_
   refine Ja rfl rfl rfl (Jw (v := .bool (decide (a0 < a1))) rfl rfl) ?_
   refine Ja rfl rfl rfl (Jc (v := .bool (decide (a0 < a1))) rfl) ?_
   refine Jf ?_
   refine Jm ?_
   obtain rfl := Option.some.inj H11
   refine Jy (v := .bool (decide (a0 < a1))) rfl rfl (Xh rfl)
 ·have H12 := Jo hb H7; clear H7
  refine Ji rfl rfl rfl ?_
  refine Ji rfl rfl rfl ?_
  refine Ji rfl rfl rfl ?_
  refine Ja rfl rfl rfl (Jw (v := .bool false) rfl rfl) ?_
  refine Ja rfl rfl rfl (Jd (v := .bool false) rfl) ?_
  refine Ja rfl rfl rfl (Jd (v := .int .i64 a0) rfl) ?_
  refine Ja rfl rfl rfl (Jd (v := .int .i64 a1) rfl) ?_
  refine Ja rfl rfl rfl (Q1 rfl rfl) ?_
  refine Ja rfl rfl rfl (Jw (v := .bool (decide (a0 < a1))) rfl rfl) ?_
  refine Ja rfl rfl rfl (Jc (v := .bool (decide (a0 < a1))) rfl) ?_
  refine Jf ?_
  refine Jm ?_
  obtain rfl := Option.some.inj H12
  refine Jy (v := .bool (decide (a0 < a1))) rfl rfl (Xh rfl)
theorem k89 {a0 : Int} {r : Bool} (H : Ut a0 = some r) : Ret Tryz.prog 89 [.int .i64 a0] (.bool r) := by
 refine Qc (n := 6) Tryz.func89 rfl rfl rfl (fun wd => ?_)
 refine Je ?_
 refine Jb ?_
 refine Ja rfl rfl rfl (Jc (v := .bool false) rfl) ?_
 refine Jf ?_
 refine Je ?_
 refine Jb ?_
 refine Ja rfl rfl rfl (Jd (v := .int .i64 a0) rfl) ?_
 refine Ja rfl rfl rfl (Jd (v := .int .i64 a0) rfl) ?_
 refine Ja rfl rfl rfl (U0 rfl rfl) ?_
 refine Ja rfl rfl rfl (Jc (v := .bool (decide (a0 ≠ a0))) rfl) ?_
 refine Jf ?_
 refine Jm ?_
 obtain rfl := Option.some.inj H
 refine Jy (v := .bool (decide (a0 ≠ a0))) rfl rfl (Xh rfl)
theorem k74 {a0 : (List Int)} {v0 : Value} {a1 : Int} {r : Int × Bool} {w : World} {h : J3} (hw : Know h w Zh) (f0 : FrS h 1 v0 (a0.map J4)) (H : Ww a0 a1 = some r) : Does Tryz.prog 74 (List.toArray [v0, .int .i64 a1]) w (fun v w' => v = (.tuple #[.int .i64 r.1, .bool r.2]) ∧ Grow w w') := by
 refine enter (n := 54) Tryz.func74 rfl rfl rfl Zh [] (Sat.nil _ _) ?_
 refine Je ?_
 refine Jb ?_
 refine Ja rfl rfl rfl (Jc (v := .int .i64 0) rfl) ?_
 refine Ja rfl rfl rfl (Jc (v := .bool false) rfl) ?_
 refine Jf ?_
 refine Je ?_
 refine Jb ?_
 refine Ja rfl rfl rfl (Jd (v := v0) rfl) ?_
 refine Ja rfl rfl rfl (Zl Tryz.underlying24 rfl f0 rfl) ?_
 refine Ja rfl rfl rfl (Jc (v := .int .i64 (a0.length : Int)) rfl) ?_
 refine Jf ?_
 refine Je ?_
 refine Jb ?_
 refine Ja rfl rfl rfl (Jd (v := .int .i64 (a0.length : Int)) rfl) ?_
 refine Ja rfl rfl rfl (Jc (v := .int .i64 0) rfl) ?_
 refine Ja rfl rfl rfl (Jc (v := .int .i64 (a0.length : Int)) rfl) ?_
 refine Jf ?_
 refine Xi (r := r) (σ := Int) (τ := Unit) (fun s => Yn a0 a1 s) (fun s t => [(0, v0), (1, .int .i64 a1), (6, .int .i64 (a0.length : Int)), (7, .int .i64 s)]) (fun s t => []) (fun s t => True) ?_ ?_
 ·refine Ju ?_
  refine Yv (σ := Int × Int) (τ := Unit) (fun next2 s => Qs a0 a1 next2 s.1 s.2) (fun s t => [(0, v0), (1, .int .i64 a1), (6, .int .i64 (a0.length : Int)), (7, .int .i64 s.1), (8, .int .i64 s.2)]) (fun s t => []) (fun s t => True) (0, (a0.length : Int)) () [] H (by exact trivial) (by exact ⟨rfl, rfl, rfl, rfl, rfl, trivial⟩) (by decide) rfl ?_
  rintro ⟨x7_3, x8_2⟩ _ m2 gg H33 _
  clear H
  replace H33 : Qs a0 a1 (it (fun next2 s => Qs a0 a1 next2 s.1 s.2) m2) x7_3 x8_2 = some r := H33
  generalize hn2 : it (fun next2 s => Qs a0 a1 next2 s.1 s.2) m2 = next2 at H33
  try dsimp only
  refine Je ?_
  refine Je ?_
  refine Jb ?_
  refine Ja rfl rfl rfl (Jd (v := .int .i64 x7_3) rfl) ?_
  refine Ja rfl rfl rfl (Jd (v := .int .i64 x8_2) rfl) ?_
  refine Ja rfl rfl rfl (Q1 rfl rfl) ?_
  refine Jf ?_
  refine J5 (b := (decide (x7_3 < x8_2))) rfl (fun hb => ?_) (fun hb => ?_)
  ·have H34 := Jn hb H33; clear H33
   refine Jr ?_
   refine Ju ?_
   refine Je ?_
   refine Jb ?_
   refine Ja rfl rfl rfl (Jd (v := .int .i64 x7_3) rfl) ?_
   refine Ja rfl rfl rfl (Jd (v := .int .i64 x8_2) rfl) ?_
   obtain ⟨t18, h_t18, H35⟩ := Jh H34; clear H34
   refine Ja rfl rfl rfl (Q2 rfl rfl h_t18) ?_
   refine Ja rfl rfl rfl (r_convG Tryz.runUnderlying3 Tryz.runUnderlying115 rfl (wr_u64 _)) ?_
   obtain ⟨t20, h_t20, H36⟩ := Jh H35; clear H35
   refine Ja rfl rfl rfl (r_shrG rfl rfl rfl h_t20) ?_
   refine Ja rfl rfl rfl (r_convG Tryz.runUnderlying115 Tryz.runUnderlying3 rfl (wr_i64 _)) ?_
   refine Ja rfl rfl rfl (Jc (v := .int .i64 (wI64 t20)) rfl) ?_
   refine Jf ?_
   refine Je ?_
   refine Jb ?_
   refine Ja rfl rfl rfl (Jd (v := v0) rfl) ?_
   refine Ja rfl rfl rfl (Jd (v := .int .i64 (wI64 t20)) rfl) ?_
   obtain ⟨t24, h_t24, H37⟩ := Jh H36; clear H36
   refine Ja rfl rfl rfl (Qm Tryz.underlying24 Tryz.sizeOf3 rfl rfl f0 h_t24) ?_
   refine Qa (fun w hF hS => Qj (f := J4) (i := (wI64 t20)) (sz := 1) (j := 0) (v := .int .i64 t24) Tryz.isAgg3 rfl rfl (f0.row (hw.now hF)) h_t24 rfl) rfl rfl rfl ?_
   refine Ja rfl rfl rfl (Jd (v := .int .i64 a1) rfl) ?_
   obtain ⟨t27, h_t27, H38⟩ := Jh H37; clear H37
   refine Qu (k88 h_t27) Tryz.call88 rfl rfl rfl ?_
   refine Jf ?_
   refine J5 (b := t27) rfl (fun hb => ?_) (fun hb => ?_)
   ·have H39 := Jn hb H38; clear H38
    refine Jb ?_
    refine Ja rfl rfl rfl (Jd (v := .int .i64 (wI64 t20)) rfl) ?_
    obtain ⟨t29, h_t29, H40⟩ := Jh H39; clear H39
    refine Ja rfl rfl rfl (Q2 rfl rfl h_t29) ?_
    refine Ja rfl rfl rfl (Jc (v := .int .i64 t29) rfl) ?_
    refine Jf ?_
    refine Jl (t29, x8_2) () m2 [] (by exact ⟨rfl, rfl, rfl, rfl, rfl, trivial⟩) (by decide) rfl (by exact ⟨(by subst hn2; exact H40), trivial⟩) (Nat.lt_succ_self _)
   ·have H41 := Jo hb H38; clear H38
    refine Jb ?_
    refine Ja rfl rfl rfl (Jd (v := .int .i64 (wI64 t20)) rfl) ?_
    refine Ja rfl rfl rfl (Jc (v := .int .i64 (wI64 t20)) rfl) ?_
    refine Jf ?_
    refine Jl (x7_3, (wI64 t20)) () m2 [] (by exact ⟨rfl, rfl, rfl, rfl, rfl, trivial⟩) (by decide) rfl (by exact ⟨(by subst hn2; exact H41), trivial⟩) (Nat.lt_succ_self _)
  ·have H42 := Jo hb H33; clear H33
   refine Qr ?_
   refine Jl x7_3 () 0 [] (by exact ⟨rfl, rfl, rfl, rfl, trivial⟩) (by decide) rfl (by exact ⟨H42, trivial⟩) (Nat.lt_succ_self _)
 ·rintro x7 _ gg H22 _
  replace H22 : Yn a0 a1 x7 = some r := H22
  try dsimp only
  refine Je ?_
  refine Jb ?_
  refine Ja rfl rfl rfl (Jd (v := .int .i64 x7) rfl) ?_
  refine Ja rfl rfl rfl (Jd (v := .int .i64 x7) rfl) ?_
  refine Ja rfl rfl rfl (Jd (v := .int .i64 (a0.length : Int)) rfl) ?_
  refine Ja rfl rfl rfl (Q1 rfl rfl) ?_
  refine Ja rfl rfl rfl (Jd (v := .bool (decide (x7 < (a0.length : Int)))) rfl) ?_
  refine split (fun hb => ?_) (fun hb => ?_)
  ·have H23 := Jn hb H22; clear H22
   refine Ja rfl rfl rfl (Jd (v := v0) rfl) ?_
   refine Ja rfl rfl rfl (Jd (v := .int .i64 x7) rfl) ?_
   obtain ⟨t38, h_t38, H24⟩ := Jh H23; clear H23
   refine Ja rfl rfl rfl (Qm Tryz.underlying24 Tryz.sizeOf3 rfl rfl f0 h_t38) ?_
   refine Qa (fun w hF hS => Qj (f := J4) (i := x7) (sz := 1) (j := 0) (v := .int .i64 t38) Tryz.isAgg3 rfl rfl (f0.row (hw.now hF)) h_t38 rfl) rfl rfl rfl ?_
   refine Ja rfl rfl rfl (Jd (v := .int .i64 a1) rfl) ?_
   refine Ja rfl rfl rfl (Zp rfl rfl) ?_
   refine Ja rfl rfl rfl (Jd (v := .bool (decide (t38 = a1))) rfl) ?_
   refine split (fun hb => ?_) (fun hb => ?_)
   ·have H25 := Jn hb H24; clear H24
    refine Ji rfl rfl rfl ?_
    refine Ji rfl rfl rfl ?_
    refine Ji rfl rfl rfl ?_
    refine Ji rfl rfl rfl ?_
    refine Ji rfl rfl rfl ?_
    refine Ji rfl rfl rfl ?_
    refine Ji rfl rfl rfl ?_
    refine Ji rfl rfl rfl ?_
    refine Ji rfl rfl rfl ?_
    refine Ja rfl rfl rfl (Jz (v := .bool true) rfl rfl) ?_
    refine Ja rfl rfl rfl (Jz (v := .bool true) rfl rfl) ?_
    refine Ja rfl rfl rfl (Jc (v := .int .i64 x7) rfl) ?_
    refine Ja rfl rfl rfl (Jc (v := .bool true) rfl) ?_
    refine Jf ?_
    refine Jm ?_
    obtain rfl := Option.some.inj H25
    refine ret2 (v1 := .int .i64 x7) (v2 := .bool true) rfl rfl rfl (Xh rfl)
   ·have H26 := Jo hb H24; clear H24
    refine Ja rfl rfl rfl (Jd (v := v0) rfl) ?_
    refine Ja rfl rfl rfl (Jd (v := .int .i64 x7) rfl) ?_
    obtain ⟨t45, h_t45, H27⟩ := Jh H26; clear H26
    refine Ja rfl rfl rfl (Qm Tryz.underlying24 Tryz.sizeOf3 rfl rfl f0 h_t45) ?_
    refine Qa (fun w hF hS => Qj (f := J4) (i := x7) (sz := 1) (j := 0) (v := .int .i64 t45) Tryz.isAgg3 rfl rfl (f0.row (hw.now hF)) h_t45 rfl) rfl rfl rfl ?_
    obtain ⟨t47, h_t47, H28⟩ := Jh H27; clear H27
    refine Qu (k89 h_t47) Tryz.call89 rfl rfl rfl ?_
    refine Ja rfl rfl rfl (Jd (v := .bool t47) rfl) ?_
    refine split (fun hb => ?_) (fun hb => ?_)
    ·have H29 := Jn hb H28; clear H28
     refine Ja rfl rfl rfl (Jd (v := .int .i64 a1) rfl) ?_
     obtain ⟨t50, h_t50, H30⟩ := Jh H29; clear H29
     refine Qu (k89 h_t50) Tryz.call89 rfl rfl rfl ?_
     refine Ja rfl rfl rfl (Jz (v := .bool t50) rfl rfl) ?_
     refine Ja rfl rfl rfl (Jw (v := .bool t50) rfl rfl) ?_
     refine Ja rfl rfl rfl (Jz (v := .bool t50) rfl rfl) ?_
     refine Ja rfl rfl rfl (Jc (v := .int .i64 x7) rfl) ?_
     refine Ja rfl rfl rfl (Jc (v := .bool t50) rfl) ?_
     refine Jf ?_
     refine Jm ?_
     obtain rfl := Option.some.inj H30
     refine ret2 (v1 := .int .i64 x7) (v2 := .bool t50) rfl rfl rfl (Xh rfl)
    ·have H31 := Jo hb H28; clear H28
     refine Ji rfl rfl rfl ?_
     refine Ji rfl rfl rfl ?_
     refine Ja rfl rfl rfl (Jw (v := .bool false) rfl rfl) ?_
     refine Ja rfl rfl rfl (Jw (v := .bool false) rfl rfl) ?_
     refine Ja rfl rfl rfl (Jz (v := .bool false) rfl rfl) ?_
     refine Ja rfl rfl rfl (Jc (v := .int .i64 x7) rfl) ?_
     refine Ja rfl rfl rfl (Jc (v := .bool false) rfl) ?_
     refine Jf ?_
     refine Jm ?_
     obtain rfl := Option.some.inj H31
     refine ret2 (v1 := .int .i64 x7) (v2 := .bool false) rfl rfl rfl (Xh rfl)
  ·have H32 := Jo hb H22; clear H22
   refine Ji rfl rfl rfl ?_
   refine Ji rfl rfl rfl ?_
   refine Ji rfl rfl rfl ?_
   refine Ji rfl rfl rfl ?_
   refine Ji rfl rfl rfl ?_
   refine Ji rfl rfl rfl ?_
   refine Ji rfl rfl rfl ?_
   refine Ji rfl rfl rfl ?_
   refine Ji rfl rfl rfl ?_
   refine Ji rfl rfl rfl ?_
   refine Ji rfl rfl rfl ?_
   refine Ji rfl rfl rfl ?_
   refine Ji rfl rfl rfl ?_
   refine Ji rfl rfl rfl ?_
   refine Ji rfl rfl rfl ?_
   refine Ji rfl rfl rfl ?_
   refine Ji rfl rfl rfl ?_
   refine Ja rfl rfl rfl (Jw (v := .bool false) rfl rfl) ?_
   refine Ja rfl rfl rfl (Jc (v := .int .i64 x7) rfl) ?_
   refine Ja rfl rfl rfl (Jc (v := .bool false) rfl) ?_
   refine Jf ?_
   refine Jm ?_
   obtain rfl := Option.some.inj H32
   refine ret2 (v1 := .int .i64 x7) (v2 := .bool false) rfl rfl rfl (Xh rfl)
theorem k45 {a0 : (List Int)} {v0 : Value} {a1 : Int} {r : Bool} {w : World} {h : J3} (hw : Know h w Zh) (f0 : FrS h 1 v0 (a0.map J4)) (H : Jaz a0 a1 = some r) : Does Tryz.prog 45 (List.toArray [v0, .int .i64 a1]) w (fun v w' => v = (.bool r) ∧ Grow w w') := by
 refine enter (n := 14) Tryz.func45 rfl rfl rfl Zh [] (Sat.nil _ _) ?_
 refine Je ?_
 refine Jb ?_
 refine Ja rfl rfl rfl (Jc (v := .bool false) rfl) ?_
 refine Jf ?_
 refine Je ?_
 refine Jb ?_
 refine Ja rfl rfl rfl (Jd (v := v0) rfl) ?_
 refine Ja rfl rfl rfl (Jd (v := .int .i64 a1) rfl) ?_
 obtain ⟨t10, h_t10, H2⟩ := Jh H; clear H
 refine Xq (fun w hF hS => k74 (Jx w) (f0.mono (hw.now hF)) h_t10) Tryz.call74 rfl rfl rfl ?_
 refine Ja rfl rfl rfl (Jd (v := .tuple #[.int .i64 t10.1, .bool t10.2]) rfl) ?_
 refine Ja rfl rfl rfl (Qz (v := .int .i64 t10.1) rfl rfl) ?_
 refine Ja rfl rfl rfl (Qz (v := .bool t10.2) rfl rfl) ?_
 refine Ja rfl rfl rfl (Jc (v := .int .i64 t10.1) rfl) ?_
 refine Ja rfl rfl rfl (Jc (v := .bool t10.2) rfl) ?_
 refine Jf ?_
 refine Je ?_
 refine Jb ?_
 refine Ja rfl rfl rfl (Jd (v := .bool t10.2) rfl) ?_
 refine Ja rfl rfl rfl (Jc (v := .bool t10.2) rfl) ?_
 refine Jf ?_
 refine Jm ?_
 obtain rfl := Option.some.inj H2
 refine Jy (v := .bool t10.2) rfl rfl (Xh rfl)
theorem k44 {q0 : T_face_Person} {vq0_2 : Value} {vq0_3 : Value} {c0 : Nat} {a0 : Int} {r : Bool} {w : World} {h : J3} (hw : Know h w Zh) (fq0_2 : FrS h 1 vq0_2 (q0.Likes.map J4)) (fq0_3 : FrS h 1 vq0_3 (q0.Nots.map J4)) (hc0 : h c0 = some (.cells (List.toArray [.int .i64 q0.Id, str q0.Name, vq0_2, vq0_3]) 56 (0, 0))) (H : W0 q0 a0 = some r) : Does Tryz.prog 44 (List.toArray [.int .i64 a0, .pointer (some ⟨c0, 0, none⟩)]) w (fun v w' => v = (.bool r) ∧ Grow w w') := by
 refine enter (n := 8) Tryz.func44 rfl rfl rfl Zh [] (Sat.nil _ _) ?_
 refine Je ?_
 refine Jb ?_
 refine Ja rfl rfl rfl (Jc (v := .bool false) rfl) ?_
 refine Jf ?_
 refine Je ?_
 refine Jb ?_
 refine Ja rfl rfl rfl (Jq Tryz.runUnderlying56 rfl Tryz.sizeOf24 rfl rfl) ?_
 refine Qa (fun w hF hS => Zt (v := vq0_3) Tryz.isAgg24 rfl (hw.now hF _ _ hc0) rfl) rfl rfl rfl ?_
 refine Ja rfl rfl rfl (Jd (v := .int .i64 a0) rfl) ?_
 obtain ⟨t7, h_t7, H2⟩ := Jh H; clear H
 refine Xq (fun w hF hS => k45 (Jx w) (fq0_3.mono (hw.now hF)) h_t7) Tryz.call45 rfl rfl rfl ?_
 refine Ja rfl rfl rfl (Jc (v := .bool t7) rfl) ?_
 refine Jf ?_
 refine Jm ?_
 obtain rfl := Option.some.inj H2
 refine Jy (v := .bool t7) rfl rfl (Xh rfl)
theorem k19 {a0 : (List T_face_Likeness)} {v0 : Value} {a1 : T_face_Person} {v1_2 : Value} {v1_3 : Value} {r : Int} {w : World} {h : J3} (hw : Know h w Zh) (f0 : FrS h 14 v0 (a0.map Qf)) (f1_2 : FrS h 1 v1_2 (a1.Likes.map J4)) (f1_3 : FrS h 1 v1_3 (a1.Nots.map J4)) (H : Uz a0 a1 = some r) : Does Tryz.prog 19 (List.toArray [v0, .agg #[.int .i64 a1.Id, str a1.Name, v1_2, v1_3]]) w (fun v w' => v = (.int .i64 r) ∧ Grow w w') := by
 refine enter (n := 33) Tryz.func19 rfl rfl rfl Zh [] (Sat.nil _ _) ?_
 refine Je ?_
 refine Jb ?_
 refine W8 (cs := [.int .i64 a1.Id, str a1.Name, v1_2, v1_3]) rfl rfl rfl rfl (fun b2 => ?_)
 refine Ja rfl rfl rfl (Jc (v := .int .i64 0) rfl) ?_
 refine Jf ?_
 refine Je ?_
 refine Je ?_
 refine Jb ?_
 refine Ja rfl rfl rfl (Jq Tryz.runUnderlying56 rfl Tryz.sizeOf9 rfl rfl) ?_
 refine J0 (i := 0) (v := str a1.Name) Tryz.isAgg9 rfl rfl rfl rfl rfl ?_
 obtain ⟨t10, h_t10, H16⟩ := Jh H; clear H
 refine Qu (k42 h_t10) Tryz.call42 rfl rfl rfl ?_
 refine Ja rfl rfl rfl (Vt rfl) ?_
 refine Jf ?_
 refine J5 (b := (!t10)) rfl (fun hb => ?_) (fun hb => ?_)
 ·have H17 := Jn hb H16; clear H16
  refine Je ?_
  refine Jb ?_
  refine Ja rfl rfl rfl (Jc (v := .int .i64 3) rfl) ?_
  refine Jf ?_
  refine Jm ?_
  obtain rfl := Option.some.inj H17
  refine Jy (v := .int .i64 3) rfl rfl (Xh rfl)
 ·have H18 := Jo hb H16; clear H16
  refine Jr ?_
  refine Xi (r := r) (σ := Unit) (τ := Unit) (fun s => Wk a1) (fun s t => [(3, .pointer (some ⟨b2, 0, none⟩))]) (fun s t => [Jp b2 [.int .i64 a1.Id, str a1.Name, v1_2, v1_3] 56]) (fun s t => True) ?_ ?_
  ·refine Je ?_
   refine Jb ?_
   refine Ja rfl rfl rfl (Jq Tryz.runUnderlying56 rfl Tryz.sizeOf24 rfl rfl) ?_
   refine J0 (i := 0) (v := v1_2) Tryz.isAgg24 rfl rfl rfl rfl rfl ?_
   refine Ja rfl rfl rfl (Jq Tryz.runUnderlying56 rfl Tryz.sizeOf24 rfl rfl) ?_
   refine J0 (i := 0) (v := v1_3) Tryz.isAgg24 rfl rfl rfl rfl rfl ?_
   refine Xc (vs := [v1_2, v1_3]) (cs := [v1_2, v1_3]) Tryz.underlying31 Tryz.sizeOf24 Tryz.zeroValue24 rfl rfl rfl rfl (by simp only [List.all_cons, List.all_nil, cells_sz f1_2.cells, cells_sz f1_3.cells] <;> rfl) rfl (by simp only [List.flatMap_cons, List.flatMap_nil, f1_2.cells, f1_3.cells] <;> rfl) (fun b3 => ?_)
   refine Ja rfl rfl rfl (Uj Tryz.underlying31 rfl) ?_
   refine Ja rfl rfl rfl (Jd (v := .int .i64 0) rfl) ?_
   refine Jf ?_
   refine Ju ?_
   refine Yv (σ := Int) (τ := Unit) (fun next2 s => Xf a0 a1 next2 s) (fun s t => [(0, v0), (3, .pointer (some ⟨b2, 0, none⟩)), (16, .slice (some ⟨b3, 0, none⟩) 2 2), (17, .int .i64 2), (18, .int .i64 s)]) (fun s t => [Jp b2 [.int .i64 a1.Id, str a1.Name, v1_2, v1_3] 56, Jp b3 [v1_2, v1_3] 24]) (fun s t => True) 0 () [0, 1] H18 (by exact trivial) (by exact ⟨rfl, rfl, rfl, rfl, rfl, trivial⟩) (by decide) rfl ?_
   rintro x18_2 _ m2 gg H23 _
   clear H18
   replace H23 : Xf a0 a1 (it (fun next2 s => Xf a0 a1 next2 s) m2) x18_2 = some r := H23
   generalize hn2 : it (fun next2 s => Xf a0 a1 next2 s) m2 = next2 at H23
   try dsimp only
   refine Je ?_
   refine Jb ?_
   refine Ja rfl rfl rfl (Q1 rfl rfl) ?_
   refine Jf ?_
   refine Je ?_
   refine J5 (b := (decide (x18_2 < 2))) rfl (fun hb => ?_) (fun hb => ?_)
   ·have H24 := Jn hb H23; clear H23
    refine Jr ?_
    refine Je ?_
    refine Ju ?_
    refine Je ?_
    refine Jb ?_
    obtain ⟨t20, h_t20, H25⟩ := Jh H24; clear H24
    refine Ja rfl rfl rfl (r_indexS Tryz.underlying31 Tryz.sizeOf24 rfl rfl h_t20 rfl) ?_
    refine Qa (fun w hF hS => Qj (f := (litC [v1_2, v1_3] 1)) (i := x18_2) (sz := 1) (j := 0) (v := (List.getD (List.take 1 (List.drop ((Int.toNat x18_2) * 1) [v1_2, v1_3])) 0 undef)) Tryz.isAgg24 rfl rfl (Jac (sz := 1) (xs := (List.range 2).map (litC [v1_2, v1_3] 1)) (i := 1) hS rfl rfl rfl) (gAt_range h_t20) (rg_of (cgs_int (AllG.el (G := gs_int) (h := h) (sz := 1) (cs := [v1_2, v1_3]) (xs := ([a1.Likes, a1.Nots] : List (List Int))) ⟨f1_2, f1_3, rfl⟩ _ _ (Yo h_t20).2.2)) rfl)) rfl rfl rfl ?_
    refine Ja rfl rfl rfl (Jc (v := (List.getD (List.take 1 (List.drop ((Int.toNat x18_2) * 1) [v1_2, v1_3])) 0 undef)) rfl) ?_
    refine Jf ?_
    refine Je ?_
    refine Jb ?_
    refine Ja rfl rfl rfl (Jd (v := v0) rfl) ?_
    refine Ja rfl rfl rfl (Jd (v := (List.getD (List.take 1 (List.drop ((Int.toNat x18_2) * 1) [v1_2, v1_3])) 0 undef)) rfl) ?_
    obtain ⟨t24, h_t24, H26⟩ := Jh H25; clear H25
    refine Xq (fun w hF hS => k43 (Jx w) (f0.mono (hw.now hF)) ((show FrS h 1 (List.getD (List.take 1 (List.drop ((Int.toNat x18_2) * 1) [v1_2, v1_3])) 0 undef) (t20.map J4) from (AllG.el (G := gs_int) (h := h) (sz := 1) (cs := [v1_2, v1_3]) (xs := ([a1.Likes, a1.Nots] : List (List Int))) ⟨f1_2, f1_3, rfl⟩ _ _ (Yo h_t20).2.2)).mono (hw.now hF)) h_t24) Tryz.call43 rfl rfl rfl ?_
    refine Ja rfl rfl rfl (Jc (v := .int .i64 t24) rfl) ?_
    refine Jf ?_
    refine Je ?_
    refine Jb ?_
    refine Ja rfl rfl rfl (Jd (v := .int .i64 t24) rfl) ?_
    refine Ja rfl rfl rfl (U0 rfl rfl) ?_
    refine Jf ?_
    refine J5 (b := (decide (t24 ≠ 0))) rfl (fun hb => ?_) (fun hb => ?_)
    ·have H27 := Jn hb H26; clear H26
     refine Je ?_
     refine Jb ?_
     refine Ja rfl rfl rfl (Jd (v := .int .i64 t24) rfl) ?_
     refine Ja rfl rfl rfl (Jc (v := .int .i64 t24) rfl) ?_
     refine Jf ?_
     refine Jm ?_
     obtain rfl := Option.some.inj H27
     refine Jy (v := .int .i64 t24) rfl rfl (Xh rfl)
    ·have H28 := Jo hb H26; clear H26
     refine Jr ?_
     refine Jb ?_
     obtain ⟨t28, h_t28, H29⟩ := Jh H28; clear H28
     refine Ja rfl rfl rfl (Q2 rfl rfl h_t28) ?_
     refine Ja rfl rfl rfl (Jd (v := .int .i64 t28) rfl) ?_
     refine Jf ?_
     refine Jl t28 () m2 [0, 1] (by exact ⟨rfl, rfl, rfl, rfl, rfl, trivial⟩) (by decide) rfl (by exact ⟨(by subst hn2; exact H29), trivial⟩) (Nat.lt_succ_self _)
   ·have H30 := Jo hb H23; clear H23
    refine Qr ?_
    refine Jl () () 0 [0] (by exact ⟨rfl, trivial⟩) (by decide) rfl (by exact ⟨H30, trivial⟩) (Nat.lt_succ_self _)
  ·rintro _ _ gg H19 _
   replace H19 : Wk a1 = some r := H19
   try dsimp only
   refine Je ?_
   refine Je ?_
   refine Jb ?_
   refine Ja rfl rfl rfl (Jq Tryz.runUnderlying56 rfl Tryz.sizeOf24 rfl rfl) ?_
   refine J0 (i := 0) (v := v1_2) Tryz.isAgg24 rfl rfl rfl rfl rfl ?_
   refine Ja rfl rfl rfl (r_makeFn (caps := #[.pointer (some ⟨b2, 0, none⟩)]) rfl) ?_
   obtain ⟨t32, h_t32, H20⟩ := Jh H19; clear H19
   refine Xq (fun w hF hS => k21 (Jx w) (f1_2.mono (hw.now hF)) (FnH.mk ⟨44, #[], #[.pointer (some ⟨b2, 0, none⟩)], rfl, Tryz.call44, fun args2 post2 w2 hk2 hR2 => by obtain ⟨a0_, r_, rfl, H_, rfl⟩ := hR2; exact k44 (Jx w2) ((f1_2.mono (hw.now hF)).mono hk2.up) ((f1_3.mono (hw.now hF)).mono hk2.up) (hk2.up _ _ (Q8 (i := 0) hS rfl)) H_⟩) h_t32) Tryz.call21 rfl rfl rfl ?_
   refine Jf ?_
   refine J5 (b := t32) rfl (fun hb => ?_) (fun hb => ?_)
   ·have H21 := Jn hb H20; clear H20
    refine Je ?_
    refine Jb ?_
    refine Ja rfl rfl rfl (Jc (v := .int .i64 11) rfl) ?_
    refine Jf ?_
    refine Jm ?_
    obtain rfl := Option.some.inj H21
    refine Jy (v := .int .i64 11) rfl rfl (Xh rfl)
   ·have H22 := Jo hb H20; clear H20
    refine Jr ?_
    refine Je ?_
    refine Jb ?_
    refine Ja rfl rfl rfl (Jc (v := .int .i64 0) rfl) ?_
    refine Jf ?_
    refine Jm ?_
    obtain rfl := Option.some.inj H22
    refine Jy (v := .int .i64 0) rfl rfl (Xh rfl)
theorem k46 {a0 : (List T_face_Likeness)} {v0 : Value} {a1 : Int} {r : Int} {w : World} {h : J3} (hw : Know h w Zh) (f0 : FrS h 14 v0 (a0.map Qf)) (H : face_photoOf a0 a1 = some r) : Does Tryz.prog 46 (List.toArray [v0, .int .i64 a1]) w (fun v w' => v = (.int .i64 r) ∧ Grow w w') := by
 refine enter (n := 18) Tryz.func46 rfl rfl rfl Zh [] (Sat.nil _ _) ?_
 refine Je ?_
 refine Jb ?_
 refine Ja rfl rfl rfl (Jc (v := .int .i64 0) rfl) ?_
 refine Jf ?_
 refine Je ?_
 refine Jb ?_
 refine Ja rfl rfl rfl (Jd (v := v0) rfl) ?_
 refine Ja rfl rfl rfl (Jd (v := .int .i64 a1) rfl) ?_
 obtain ⟨t10, h_t10, H3⟩ := Jh H; clear H
 refine Xq (fun w hF hS => k73 (Jx w) (f0.mono (hw.now hF)) h_t10) Tryz.call73 rfl rfl rfl ?_
 refine Ja rfl rfl rfl (Jd (v := .tuple #[.int .i64 t10.1, .bool t10.2]) rfl) ?_
 refine Ja rfl rfl rfl (Qz (v := .int .i64 t10.1) rfl rfl) ?_
 refine Ja rfl rfl rfl (Qz (v := .bool t10.2) rfl rfl) ?_
 refine Ja rfl rfl rfl (Jc (v := .int .i64 t10.1) rfl) ?_
 refine Ja rfl rfl rfl (Jc (v := .bool t10.2) rfl) ?_
 refine Jf ?_
 refine Je ?_
 refine Jb ?_
 refine Ja rfl rfl rfl (Jd (v := v0) rfl) ?_
 refine Ja rfl rfl rfl (Jd (v := .int .i64 t10.1) rfl) ?_
 obtain ⟨t15, h_t15, H4⟩ := Jh H3; clear H3
 refine Ja rfl rfl rfl (Qm Tryz.underlying22 Tryz.sizeOf85 rfl rfl f0 h_t15) ?_
 refine Ja rfl rfl rfl (r_fieldP Tryz.runUnderlying85 rfl Tryz.sizeOf3 rfl rfl (some_of_at f0 h_t15)) ?_
 refine Qa (fun w hF hS => Qj (f := Qf) (i := t10.1) (sz := 14) (j := 1) (v := .int .i64 t15.Photo) Tryz.isAgg3 rfl rfl (f0.row (hw.now hF)) h_t15 rfl) rfl rfl rfl ?_
 refine Ja rfl rfl rfl (Jc (v := .int .i64 t15.Photo) rfl) ?_
 refine Jf ?_
 refine Jm ?_
 obtain rfl := Option.some.inj H4
 refine Jy (v := .int .i64 t15.Photo) rfl rfl (Xh rfl)
theorem k20 {a0 : (List T_face_Likeness)} {v0 : Value} {a1 : (List Int)} {v1 : Value} {r : (List Int)} {w : World} {h : J3} (hw : Know h w Zh) (f0 : FrS h 14 v0 (a0.map Qf)) (f1 : FrS h 1 v1 (a1.map J4)) (H : U9 a0 a1 = some r) : Does Tryz.prog 20 (List.toArray [v0, v1]) w (fun v w' => ∃ x : (Option Addr × Nat), v = (.slice x.1 r.length x.2) ∧ Turn w w' Zh (Qq 3 1 (.slice x.1 r.length x.2) r.length (r.map J4))) := by
 refine enter (n := 22) Tryz.func20 rfl rfl rfl Zh [] (Sat.nil _ _) ?_
 refine Je ?_
 refine Jb ?_
 refine Ja rfl rfl rfl (Jc (v := .slice none 0 0) rfl) ?_
 refine Jf ?_
 refine Je ?_
 refine Jb ?_
 refine Ja rfl rfl rfl (Jc (v := .slice none 0 0) rfl) ?_
 refine Jf ?_
 refine Je ?_
 refine Je ?_
 refine Jb ?_
 refine Ja rfl rfl rfl (Jd (v := v1) rfl) ?_
 refine Ja rfl rfl rfl (Zl Tryz.underlying24 rfl f1 rfl) ?_
 refine Ja rfl rfl rfl (Jd (v := .int .i64 0) rfl) ?_
 refine Jf ?_
 refine Ju ?_
 refine Wp 3 1 ?_
 refine Yv (σ := Int × (List Int)) (τ := (Option Addr × Nat)) (fun next1 s => Y6 a0 a1 next1 s.1 s.2) (fun s t => [(0, v0), (5, .slice t.1 s.2.length t.2), (8, v1), (9, .int .i64 (a1.length : Int)), (10, .int .i64 s.1)]) (fun s t => [Qq 3 1 (.slice t.1 s.2.length t.2) s.2.length (s.2.map J4)]) (fun s t => True) (0, ([] : List Int)) ((none, 0) : Option Addr × Nat) [0] H (by exact trivial) (by exact ⟨rfl, rfl, rfl, rfl, rfl, trivial⟩) (by decide) rfl ?_
 rintro ⟨x10_2, l_2⟩ p m1 gg H8 _
 clear H
 replace H8 : Y6 a0 a1 (it (fun next1 s => Y6 a0 a1 next1 s.1 s.2) m1) x10_2 l_2 = some r := H8
 generalize hn1 : it (fun next1 s => Y6 a0 a1 next1 s.1 s.2) m1 = next1 at H8
 try dsimp only
 refine Je ?_
 refine Jb ?_
 refine Ja rfl rfl rfl (Q1 rfl rfl) ?_
 refine Jf ?_
 refine Je ?_
 refine J5 (b := (decide (x10_2 < (a1.length : Int)))) rfl (fun hb => ?_) (fun hb => ?_)
 ·have H9 := Jn hb H8; clear H8
  refine Jr ?_
  refine Je ?_
  refine Ju ?_
  refine Je ?_
  refine Jb ?_
  obtain ⟨t12, h_t12, H10⟩ := Jh H9; clear H9
  refine Ja rfl rfl rfl (Qm Tryz.underlying24 Tryz.sizeOf3 rfl rfl f1 h_t12) ?_
  refine Qa (fun w hF hS => Qj (f := J4) (i := x10_2) (sz := 1) (j := 0) (v := .int .i64 t12) Tryz.isAgg3 rfl rfl (f1.row (hw.now hF)) h_t12 rfl) rfl rfl rfl ?_
  refine Ja rfl rfl rfl (Jc (v := .int .i64 t12) rfl) ?_
  refine Jf ?_
  refine Jb ?_
  refine Ja rfl rfl rfl (Jd (v := .slice p.1 l_2.length p.2) rfl) ?_
  refine Ja rfl rfl rfl (Jd (v := v0) rfl) ?_
  refine Ja rfl rfl rfl (Jd (v := .int .i64 t12) rfl) ?_
  obtain ⟨t17, h_t17, H11⟩ := Jh H10; clear H10
  refine Xq (fun w hF hS => k46 (Jx w) (f0.mono (hw.now hF)) h_t17) Tryz.call46 rfl rfl rfl ?_
  refine Xc (vs := [.int .i64 t17]) (cs := [.int .i64 t17]) Tryz.underlying24 Tryz.sizeOf3 Tryz.zeroValue3 rfl rfl rfl rfl rfl rfl rfl (fun b1 => ?_)
  obtain ⟨l19, h_l19, H12⟩ := Jh H11; clear H11
  refine Yl (We (i := 0) (hn := rfl) (rds := [1]) (p := p) (sz := 1) (by_ := 8) (f := J4) (ys := l_2) (ls := ([t17] : List Int)) (V := .slice (some ⟨b1, 0, none⟩) 1 1) Tryz.underlying24 (W2 Tryz.typeInfo3) rfl rfl rfl rfl rfl rfl rfl rfl rfl rfl (fun w L' hF hS hi => Jac (i := 1) hS ((hi 1 (by simp)).trans rfl) rfl rfl) (fun _ => rfl) (fun _ => rfl) h_l19) rfl rfl rfl (fun p_2 => ?_)
  refine Ja rfl rfl rfl (Jc (v := .slice p_2.1 l19.length p_2.2) rfl) ?_
  refine Jf ?_
  refine Jb ?_
  obtain ⟨t20, h_t20, H13⟩ := Jh H12; clear H12
  refine Ja rfl rfl rfl (Q2 rfl rfl h_t20) ?_
  refine Ja rfl rfl rfl (Jd (v := .int .i64 t20) rfl) ?_
  refine Jf ?_
  refine Jl (t20, l19) p_2 m1 [0] (by exact ⟨rfl, rfl, rfl, rfl, rfl, trivial⟩) (by decide) rfl (by exact ⟨(by subst hn1; exact H13), trivial⟩) (Nat.lt_succ_self _)
 ·have H14 := Jo hb H8; clear H8
  refine Qr ?_
  refine Je ?_
  refine Jb ?_
  refine Ja rfl rfl rfl (Jd (v := .slice p.1 l_2.length p.2) rfl) ?_
  refine Ja rfl rfl rfl (Jc (v := .slice p.1 l_2.length p.2) rfl) ?_
  refine Jf ?_
  refine Jm ?_
  obtain rfl := Option.some.inj H14
  refine Jy (v := .slice p.1 l_2.length p.2) rfl rfl (W6 p (i := 0) rfl rfl (Imp.refl _))
theorem k22 {q0 : (List (Int × Bool))} {vq0 : Value} {c0 : Nat} {a0 : Int} {r : Bool} {w : World} {h : J3} (hw : Know h w Zh) (fq0 : FrM h (fun x_ : Int => .int .i64 x_) (fun x_ : Bool => .bool x_) vq0 q0) (hc0 : h c0 = some (.cells (List.toArray [vq0]) 54 (0, 0))) (H : Jag q0 a0 = some r) : Does Tryz.prog 22 (List.toArray [.int .i64 a0, .pointer (some ⟨c0, 0, none⟩)]) w (fun v w' => v = (.bool r) ∧ Grow w w') := by
 refine enter (n := 7) Tryz.func22 rfl rfl rfl Zh [] (Sat.nil _ _) ?_
 refine Je ?_
 refine Jb ?_
 refine Ja rfl rfl rfl (Jc (v := .bool false) rfl) ?_
 refine Jf ?_
 refine Je ?_
 refine Jb ?_
 refine Qa (fun w hF hS => Zt (v := vq0) Tryz.isAgg54 rfl (hw.now hF _ _ hc0) rfl) rfl rfl rfl ?_
 refine Ja rfl rfl rfl (Jd (v := .int .i64 a0) rfl) ?_
 refine Qa (fun w hF hS => run_lookupF (fk := (fun x_ : Int => .int .i64 x_)) (fv := (fun x_ : Bool => .bool x_)) (k := a0) (z := false) keyF_int Tryz.underlying54 Tryz.underlying3 Tryz.zeroValue4 rfl rfl (fq0.mono (hw.now hF))) rfl rfl rfl ?_
 refine Ja rfl rfl rfl (Jc (v := .bool ((mGet q0 a0).getD false)) rfl) ?_
 refine Jf ?_
 refine Jm ?_
 obtain rfl := Option.some.inj H
 refine Jy (v := .bool ((mGet q0 a0).getD false)) rfl rfl (Xh rfl)
theorem k39 {a : Option Addr} {n c : Nat} (hc : n ≤ c) : Ret Tryz.prog 39 [.slice a n c] (.slice (Y4 a 0 n 1) n n) := by
  refine Qc (n := 9) Tryz.func39 rfl rfl rfl (fun wd => ?_)
  refine Je ?_
  refine Jb ?_
  refine Ja rfl rfl rfl (Jc (v := .slice none 0 0) rfl) ?_
  refine Jf ?_
  refine Je ?_
  refine Jb ?_
  refine Ja rfl rfl rfl (Jd (v := .slice a n c) rfl) ?_
  refine Ja rfl rfl rfl (Jd (v := .slice a n c) rfl) ?_
  refine Ja rfl rfl rfl (Uj Tryz.underlying24 rfl) ?_
  refine Ja rfl rfl rfl (Jd (v := .slice a n c) rfl) ?_
  refine Ja rfl rfl rfl (Uj Tryz.underlying24 rfl) ?_
  refine Ja rfl rfl rfl (r_sliceHM (a := a) (m := n) (c := c) (h := (n : Int)) (q := (n : Int)) Tryz.underlying24 Tryz.sizeOf3 rfl rfl rfl (Int.natCast_nonneg n) (Int.le_refl _) (Int.ofNat_le.2 hc)) ?_
  refine Ja rfl rfl rfl (Jc (v := .slice (Y4 a 0 n 1) n n) rfl) ?_
  refine Jf ?_
  refine Jm ?_
  exact Jy (v := .slice (Y4 a 0 n 1) n n) rfl rfl (Xh rfl)
theorem k75 {n : Int} {u : Nat} (hg : gGroC 8 n = some u) (w : World) : Does Tryz.prog 75 (List.toArray [.slice none 0 0, .int .i64 n]) w (fun v w' => ∃ p : Option Addr × Nat, v = .slice p.1 0 p.2 ∧ Turn w w' Zh (rowC 3 1 (.slice p.1 0 p.2) 0 [] u)) := by
  obtain ⟨rfl, h0, h1, h2⟩ := gGroC_some hg
  obtain ⟨m, rfl⟩ : ∃ m : Nat, n = (m : Int) := ⟨n.toNat, (Int.toNat_of_nonneg h0).symm⟩
  rw [Int.toNat_natCast] at h2 ⊢
  refine enter (n := 27) Tryz.func75 rfl rfl rfl Zh [] (Sat.nil _ _) ?_
  refine Je ?_
  refine Jb ?_
  refine Ja rfl rfl rfl (Jc (v := .slice none 0 0) rfl) ?_
  refine Jf ?_
  refine Je ?_
  refine Je ?_
  refine Jb ?_
  refine Ja rfl rfl rfl (Jd (v := .int .i64 (m : Int)) rfl) ?_
  refine Ja rfl rfl rfl (r_decF (Q1 rfl rfl) (by omega)) ?_
  refine Jf ?_
  refine Wi rfl ?_
  refine Jr ?_
  refine Je ?_
  refine Je ?_
  refine Jb ?_
  refine Ja rfl rfl rfl (Jd (v := .int .i64 (m : Int)) rfl) ?_
  refine Ja rfl rfl rfl (Jd (v := .slice none 0 0) rfl) ?_
  refine Ja rfl rfl rfl (r_cap (c := 0) Tryz.underlying24 rfl) ?_
  refine Ja rfl rfl rfl (Jd (v := .slice none 0 0) rfl) ?_
  refine Ja rfl rfl rfl (Uj (m := 0) Tryz.underlying24 rfl) ?_
  refine Ja rfl rfl rfl (U6 (z := 0) rfl rfl (by decide)) ?_
  refine Ja rfl rfl rfl (U6 (z := (m : Int)) rfl rfl (by rw [Int.sub_zero]; exact Xg (by omega))) ?_
  refine Ja rfl rfl rfl (Jc (v := .int .i64 (m : Int)) rfl) ?_
  refine Jf ?_
  refine Je ?_
  refine Jb ?_
  refine Ja rfl rfl rfl (Jd (v := .int .i64 (m : Int)) rfl) ?_
  rcases Nat.eq_zero_or_pos m with hm | hm
  · refine Ja rfl rfl rfl (r_decF (Wz rfl rfl) (by omega)) ?_
    refine Jf ?_
    refine Wi rfl ?_
    refine Jr ?_
    refine Je ?_
    refine Jb ?_
    refine Ja rfl rfl rfl (Jd (v := .slice none 0 0) rfl) ?_
    refine Ja rfl rfl rfl (Jc (v := .slice none 0 0) rfl) ?_
    refine Jf ?_
    refine Jm ?_
    subst hm
    refine Wp 3 1 ?_
    refine c_imp 0 rfl (imp_C0 3 1 _) ?_
    exact Jy (v := .slice none 0 0) rfl rfl (W6 ((none, 0) : Option Addr × Nat) (i := 0) rfl rfl (Imp.refl _))
  · refine Ja rfl rfl rfl (r_decT (Wz rfl rfl) (by omega)) ?_
    refine Jf ?_
    refine Ur rfl ?_
    refine Jb ?_
    refine Ja rfl rfl rfl (Jd (v := .slice none 0 0) rfl) ?_
    refine Ja rfl rfl rfl (Jd (v := .slice none 0 0) rfl) ?_
    refine Ja rfl rfl rfl (r_cap (c := 0) Tryz.underlying24 rfl) ?_
    refine Ja rfl rfl rfl (r_sliceH (a := none) (m := 0) (c := 0) (h := 0) Tryz.underlying24 Tryz.sizeOf3 rfl rfl (by decide) (by decide)) ?_
    refine Ja rfl rfl rfl (Jd (v := .int .i64 (m : Int)) rfl) ?_
    refine Zf (rds := []) (makes_zerosC (E := 3) (sz := 1) (by_ := 8) (m := m) Tryz.underlying24 Tryz.underlying3 (W2 Tryz.typeInfo3) rfl rfl rfl rfl rfl rfl rfl hm (by omega) h2) rfl rfl rfl (fun ⟨g0, c0⟩ => ?_)
    refine Ja rfl rfl rfl (Jd (v := .slice none 0 0) rfl) ?_
    refine Ja rfl rfl rfl (Uj (m := 0) Tryz.underlying24 rfl) ?_
    refine Ja rfl rfl rfl (r_sliceH0 (g0 := g0) (c := c0) Tryz.underlying24 Tryz.sizeOf3 rfl rfl) ?_
    refine Ja rfl rfl rfl (Jc (v := .slice (some ⟨g0, 0, none⟩) 0 c0) rfl) ?_
    refine Jf ?_
    refine Je ?_
    refine Jb ?_
    refine Ja rfl rfl rfl (Jd (v := .slice (some ⟨g0, 0, none⟩) 0 c0) rfl) ?_
    refine Ja rfl rfl rfl (Jc (v := .slice (some ⟨g0, 0, none⟩) 0 c0) rfl) ?_
    refine Jf ?_
    refine Jm ?_
    exact Jy (v := .slice (some ⟨g0, 0, none⟩) 0 c0) rfl rfl (W6 ((some ⟨g0, 0, none⟩, c0) : Option Addr × Nat) (i := 0) rfl rfl (Imp.refl _))
theorem k48 {a0 : (List (List Int))} {v0 : Value} {r : (List Int)} {w : World} {h : J3} (hw : Know h w Zh) (f0 : FrN h 1 v0 gs_int a0) (H : Uf a0 = some r) : Does Tryz.prog 48 (List.toArray [v0]) w (fun v w' => ∃ x : (Option Addr × Nat), v = (.slice x.1 r.length x.2) ∧ Turn w w' Zh (Qq 3 1 (.slice x.1 r.length x.2) r.length (r.map J4))) := by
 refine enter (n := 36) Tryz.func48 rfl rfl rfl Zh [] (Sat.nil _ _) ?_
 refine Je ?_
 refine Jb ?_
 refine Ja rfl rfl rfl (Jc (v := .slice none 0 0) rfl) ?_
 refine Jf ?_
 refine Je ?_
 refine Jb ?_
 refine Ja rfl rfl rfl (Jc (v := .int .i64 0) rfl) ?_
 refine Jf ?_
 refine Xi (r := r) (σ := Int) (τ := Unit) (fun s => V7 a0 s) (fun s t => [(0, v0), (3, .int .i64 s)]) (fun s t => []) (fun s t => True) ?_ ?_
 ·refine Je ?_
  refine Jb ?_
  refine Ja rfl rfl rfl (Jd (v := v0) rfl) ?_
  refine Ja rfl rfl rfl (r_lenFN Tryz.underlying31 rfl f0) ?_
  refine Ja rfl rfl rfl (Jd (v := .int .i64 0) rfl) ?_
  refine Jf ?_
  refine Ju ?_
  refine Yv (σ := Int × Int) (τ := Unit) (fun next3 s => Qd a0 next3 s.1 s.2) (fun s t => [(0, v0), (3, .int .i64 s.1), (9, v0), (10, .int .i64 (a0.length : Int)), (11, .int .i64 s.2)]) (fun s t => []) (fun s t => True) (0, 0) () [] H (by exact trivial) (by exact ⟨rfl, rfl, rfl, rfl, rfl, trivial⟩) (by decide) rfl ?_
  rintro ⟨x3_3, x11_2⟩ _ m3 gg H25 _
  clear H
  replace H25 : Qd a0 (it (fun next3 s => Qd a0 next3 s.1 s.2) m3) x3_3 x11_2 = some r := H25
  generalize hn3 : it (fun next3 s => Qd a0 next3 s.1 s.2) m3 = next3 at H25
  try dsimp only
  refine Je ?_
  refine Jb ?_
  refine Ja rfl rfl rfl (Q1 rfl rfl) ?_
  refine Jf ?_
  refine Je ?_
  refine J5 (b := (decide (x11_2 < (a0.length : Int)))) rfl (fun hb => ?_) (fun hb => ?_)
  ·have H26 := Jn hb H25; clear H25
   refine Jr ?_
   refine Je ?_
   refine Ju ?_
   refine Je ?_
   refine Jb ?_
   obtain ⟨t13, h_t13, H27⟩ := Jh H26; clear H26
   refine Ja rfl rfl rfl (Qm Tryz.underlying31 Tryz.sizeOf24 rfl rfl f0.frs (f0.ix h_t13)) ?_
   refine Qa (fun w hF hS => Qj (f := (elC h v0 1)) (i := x11_2) (sz := 1) (j := 0) (v := (U3 h v0 1 (Int.toNat x11_2) 0)) Tryz.isAgg24 rfl rfl (f0.frs.row (hw.now hF)) (f0.ix h_t13) (rg_of (cgs_int (f0.at h_t13)) rfl)) rfl rfl rfl ?_
   refine Ja rfl rfl rfl (Jc (v := (U3 h v0 1 (Int.toNat x11_2) 0)) rfl) ?_
   refine Jf ?_
   refine Je ?_
   refine Jb ?_
   refine Ja rfl rfl rfl (Jd (v := .int .i64 x3_3) rfl) ?_
   refine Ja rfl rfl rfl (Jd (v := (U3 h v0 1 (Int.toNat x11_2) 0)) rfl) ?_
   refine Ja rfl rfl rfl (Zl Tryz.underlying24 rfl (show FrS h 1 (U3 h v0 1 (Int.toNat x11_2) 0) (t13.map J4) from (f0.at h_t13)) rfl) ?_
   obtain ⟨t18, h_t18, H28⟩ := Jh H27; clear H27
   refine Ja rfl rfl rfl (Q2 rfl rfl h_t18) ?_
   refine Ja rfl rfl rfl (Jc (v := .int .i64 t18) rfl) ?_
   refine Jf ?_
   refine Je ?_
   refine Jb ?_
   refine Ja rfl rfl rfl (Jd (v := .int .i64 t18) rfl) ?_
   refine Ja rfl rfl rfl (Q1 rfl rfl) ?_
   refine Jf ?_
   refine J5 (b := (decide (t18 < 0))) rfl (fun hb => ?_) (fun hb => ?_)
   ·have H29 := Jn hb H28; clear H28
    exact absurd (show (none : Option ((List Int))) = some r from H29) (fun h => by cases h)
   ·have H30 := Jo hb H28; clear H28
    refine Jr ?_
    refine Jb ?_
    obtain ⟨t22, h_t22, H31⟩ := Jh H30; clear H30
    refine Ja rfl rfl rfl (Q2 rfl rfl h_t22) ?_
    refine Ja rfl rfl rfl (Jd (v := .int .i64 t22) rfl) ?_
    refine Jf ?_
    refine Jl (t18, t22) () m3 [] (by exact ⟨rfl, rfl, rfl, rfl, rfl, trivial⟩) (by decide) rfl (by exact ⟨(by subst hn3; exact H31), trivial⟩) (Nat.lt_succ_self _)
  ·have H32 := Jo hb H25; clear H25
   refine Qr ?_
   refine Jl x3_3 () 0 [] (by exact ⟨rfl, rfl, trivial⟩) (by decide) rfl (by exact ⟨H32, trivial⟩) (Nat.lt_succ_self _)
 ·rintro x3 _ gg H17 _
  replace H17 : V7 a0 x3 = some r := H17
  try dsimp only
  refine Je ?_
  refine Jb ?_
  refine Ja rfl rfl rfl (Jd (v := .int .i64 x3) rfl) ?_
  obtain ⟨u24, h_u24, H18⟩ := Jh H17; clear H17
  refine Zf (Q3 (rds := []) (G := fun x : (Option Addr × Nat) => .slice x.1 ([] : List Int).length x.2) (C := fun x : (Option Addr × Nat) => rowC 3 1 (.slice x.1 ([] : List Int).length x.2) ([] : List Int).length (([] : List Int).map J4) u24) (fun w L' hF hS hi => k75 h_u24 w) Tryz.call75 rfl) rfl rfl rfl (fun p => ?_)
  refine Ja rfl rfl rfl (Jc (v := .slice p.1 ([] : List Int).length p.2) rfl) ?_
  refine Jf ?_
  refine Je ?_
  refine Je ?_
  refine Jb ?_
  refine Ja rfl rfl rfl (Jd (v := v0) rfl) ?_
  refine Ja rfl rfl rfl (r_lenFN Tryz.underlying31 rfl f0) ?_
  refine Ja rfl rfl rfl (Jd (v := .int .i64 0) rfl) ?_
  refine Jf ?_
  refine Ju ?_
  refine Yv (σ := Int × (List Int)) (τ := (Option Addr × Nat)) (fun next2 s => Qe a0 u24 next2 s.1 s.2) (fun s t => [(6, .slice t.1 s.2.length t.2), (25, v0), (26, .int .i64 (a0.length : Int)), (27, .int .i64 s.1)]) (fun s t => [rowC 3 1 (.slice t.1 s.2.length t.2) s.2.length (s.2.map J4) u24]) (fun s t => True) (0, ([] : List Int)) p [0] H18 (by exact trivial) (by exact ⟨rfl, rfl, rfl, rfl, trivial⟩) (by decide) rfl ?_
  rintro ⟨x27_2, l_2⟩ p_2 m2 gg H19 _
  clear H18
  replace H19 : Qe a0 u24 (it (fun next2 s => Qe a0 u24 next2 s.1 s.2) m2) x27_2 l_2 = some r := H19
  generalize hn2 : it (fun next2 s => Qe a0 u24 next2 s.1 s.2) m2 = next2 at H19
  try dsimp only
  refine Je ?_
  refine Jb ?_
  refine Ja rfl rfl rfl (Q1 rfl rfl) ?_
  refine Jf ?_
  refine Je ?_
  refine J5 (b := (decide (x27_2 < (a0.length : Int)))) rfl (fun hb => ?_) (fun hb => ?_)
  ·have H20 := Jn hb H19; clear H19
   refine Jr ?_
   refine Je ?_
   refine Ju ?_
   refine Je ?_
   refine Jb ?_
   obtain ⟨t29, h_t29, H21⟩ := Jh H20; clear H20
   refine Ja rfl rfl rfl (Qm Tryz.underlying31 Tryz.sizeOf24 rfl rfl f0.frs (f0.ix h_t29)) ?_
   refine Qa (fun w hF hS => Qj (f := (elC h v0 1)) (i := x27_2) (sz := 1) (j := 0) (v := (U3 h v0 1 (Int.toNat x27_2) 0)) Tryz.isAgg24 rfl rfl (f0.frs.row (hw.now hF)) (f0.ix h_t29) (rg_of (cgs_int (f0.at h_t29)) rfl)) rfl rfl rfl ?_
   refine Ja rfl rfl rfl (Jc (v := (U3 h v0 1 (Int.toNat x27_2) 0)) rfl) ?_
   refine Jf ?_
   refine Jb ?_
   refine Ja rfl rfl rfl (Jd (v := .slice p_2.1 l_2.length p_2.2) rfl) ?_
   refine Ja rfl rfl rfl (Jd (v := (U3 h v0 1 (Int.toNat x27_2) 0)) rfl) ?_
   obtain ⟨l33, h_l33, H22⟩ := Jh H21; clear H21
   refine Yl (turns_appC (i := 0) (hn := rfl) (rds := []) (p := p_2) (sz := 1) (by_ := 8) (f := J4) (ys := l_2) (ls := t29) (V := (U3 h v0 1 (Int.toNat x27_2) 0)) Tryz.underlying24 (W2 Tryz.typeInfo3) rfl rfl rfl rfl rfl rfl rfl rfl (show FrS h 1 (U3 h v0 1 (Int.toNat x27_2) 0) (t29.map J4) from (f0.at h_t29)).eq (List.length_map _) (fun w L' hF hS hi => ((show FrS h 1 (U3 h v0 1 (Int.toNat x27_2) 0) (t29.map J4) from (f0.at h_t29))).row (hw.now hF)) (fun _ => rfl) (fun _ => rfl) h_l33) rfl rfl rfl (fun p_3 => ?_)
   refine Ja rfl rfl rfl (Jc (v := .slice p_3.1 l33.length p_3.2) rfl) ?_
   refine Jf ?_
   refine Jb ?_
   obtain ⟨t34, h_t34, H23⟩ := Jh H22; clear H22
   refine Ja rfl rfl rfl (Q2 rfl rfl h_t34) ?_
   refine Ja rfl rfl rfl (Jd (v := .int .i64 t34) rfl) ?_
   refine Jf ?_
   refine Jl (t34, l33) p_3 m2 [0] (by exact ⟨rfl, rfl, rfl, rfl, trivial⟩) (by decide) rfl (by exact ⟨(by subst hn2; exact H23), trivial⟩) (Nat.lt_succ_self _)
  ·have H24 := Jo hb H19; clear H19
   refine Qr ?_
   refine Je ?_
   refine Jb ?_
   refine Ja rfl rfl rfl (Jd (v := .slice p_2.1 l_2.length p_2.2) rfl) ?_
   refine Ja rfl rfl rfl (Jc (v := .slice p_2.1 l_2.length p_2.2) rfl) ?_
   refine Jf ?_
   refine Jm ?_
   obtain rfl := Option.some.inj H24
   refine c_imp 0 rfl (imp_rowC _ _ _ _ _ _) ?_
   refine Jy (v := .slice p_2.1 l_2.length p_2.2) rfl rfl (W6 p_2 (i := 0) rfl rfl (Imp.refl _))
theorem k49 {a0 : (List Int)} {p0 : Option Addr × Nat} {n0 : Nat} {r : (List Int)} {w : World} {h : J3} {S : Nat → Prop} (hcs : (Qq 3 1 (.slice p0.1 n0 p0.2) n0 (a0.map J4)).P S w) (hlt : ∀ b, S b → b < w.heap.size) (_ : Know h w S) (hn0 : n0 = a0.length) (H : gSortI a0 = some r) : Does Tryz.prog 49 (List.toArray [.slice p0.1 n0 p0.2]) w (fun v w' => ∃ x : Unit, v = (.tuple #[]) ∧ Turn w w' S (Qq 3 1 (.slice p0.1 n0 p0.2) n0 (r.map J4))) :=
  sort_ints (ρ := Go.Proofs.Tryz.lays189_ren) Go.Proofs.Tryz.lays189 hcs hlt hn0 H
theorem k50 {a0 : List Int} {p0 : Option Addr × Nat} {n0 : Nat} {r : List Int} {w : World} {h : J3} {S : Nat → Prop} (hcs : (Qq 3 1 (.slice p0.1 n0 p0.2) n0 (a0.map J4)).P S w) (hlt : ∀ b, S b → b < w.heap.size) (_ : Know h w S) (hn0 : n0 = a0.length) (H : gCmpI a0 = some r) : Does Tryz.prog 50 (List.toArray [.slice p0.1 n0 p0.2]) w (fun v w' => ∃ x : (Option Addr × Nat), v = (.slice x.1 r.length x.2) ∧ Turn w w' S (Qq 3 1 (.slice x.1 r.length x.2) r.length (r.map J4))) :=
  compact_ints (ρ := Go.Proofs.Tryz.laysNm220_ren) Go.Proofs.Tryz.laysNm220 hcs hlt hn0 H
theorem k23 {a0 : (List Int)} {v0 : Value} {a1 : (List Int)} {v1 : Value} {r : (List Int)} {w : World} {h : J3} (hw : Know h w Zh) (f0 : FrS h 1 v0 (a0.map J4)) (f1 : FrS h 1 v1 (a1.map J4)) (H : face_with a0 a1 = some r) : Does Tryz.prog 23 (List.toArray [v0, v1]) w (fun v w' => ∃ x : (Option Addr × Nat), v = (.slice x.1 r.length x.2) ∧ Turn w w' Zh (roV 1 (.slice x.1 r.length x.2) r.length (r.map J4))) := by
 refine enter (n := 15) Tryz.func23 rfl rfl rfl Zh [] (Sat.nil _ _) ?_
 refine Je ?_
 refine Jb ?_
 refine Ja rfl rfl rfl (Jc (v := .slice none 0 0) rfl) ?_
 refine Jf ?_
 refine Je ?_
 refine Jb ?_
 refine Ja rfl rfl rfl (Jd (v := v0) rfl) ?_
 refine Ja rfl rfl rfl (Jd (v := v1) rfl) ?_
 refine Xc (vs := [v0, v1]) (cs := [v0, v1]) Tryz.underlying31 Tryz.sizeOf24 Tryz.zeroValue24 rfl rfl rfl rfl (by simp only [List.all_cons, List.all_nil, cells_sz f0.cells, cells_sz f1.cells] <;> rfl) rfl (by simp only [List.flatMap_cons, List.flatMap_nil, f0.cells, f1.cells] <;> rfl) (fun b2 => ?_)
 obtain ⟨t9, h_t9, H7⟩ := Jh H; clear H
 refine Zf (Q3 (rds := [0]) (G := fun x : (Option Addr × Nat) => .slice x.1 t9.length x.2) (C := fun x : (Option Addr × Nat) => Qq 3 1 (.slice x.1 t9.length x.2) t9.length (t9.map J4)) (fun w L' hF hS hi => k48 (Jx w) (frn_box (G := gs_int) (sz := 1) (xs := ([a0, a1] : List (List Int))) (i := 0) hS ((hi 0 (by simp)).trans rfl) rfl rfl rfl ⟨(f0.mono (hw.now hF)), (f1.mono (hw.now hF)), rfl⟩) h_t9) Tryz.call48 rfl) rfl rfl rfl (fun p => ?_)
 refine Ja rfl rfl rfl (Jc (v := .slice p.1 t9.length p.2) rfl) ?_
 refine Jf ?_
 refine Je ?_
 refine Jb ?_
 refine Ja rfl rfl rfl (Jd (v := .slice p.1 t9.length p.2) rfl) ?_
 obtain ⟨t11, h_t11, H8⟩ := Jh H7; clear H7
 refine Yl (Q7 (i := 1) (rds := []) (G := fun x : Unit => .tuple #[]) (C := fun x : Unit => Qq 3 1 (.slice p.1 t9.length p.2) t9.length (t11.map J4)) rfl (fun w L' S hF hS hi hp hlt ho hA => k49 hp hlt (Y0 w S) rfl h_t11) Tryz.call49 rfl) rfl rfl rfl (fun _ => ?_)
 refine c_know (fun w hF hS => lenOf (i := 1) hS rfl) (fun hl_ => ?_)
 have hl : t9.length = t11.length := by simpa using hl_.symm
 refine Jf ?_
 refine Je ?_
 refine Jb ?_
 refine Ja rfl rfl rfl (Jd (v := .slice p.1 t9.length p.2) rfl) ?_
 obtain ⟨t13, h_t13, H9⟩ := Jh H8; clear H8
 refine Yl (Q7 (i := 1) (rds := []) (G := fun x : (Option Addr × Nat) => .slice x.1 t13.length x.2) (C := fun x : (Option Addr × Nat) => Qq 3 1 (.slice x.1 t13.length x.2) t13.length (t13.map J4)) rfl (fun w L' S hF hS hi hp hlt ho hA => k50 hp hlt (Y0 w S) hl h_t13) Tryz.call50 rfl) rfl rfl rfl (fun p_2 => ?_)
 refine Xq (fun w hF hS => k39 (capOf (i := 1) hS rfl) w) Tryz.call39 rfl rfl rfl ?_
 refine Ja rfl rfl rfl (Jc (v := .slice (Y4 p_2.1 0 t13.length 1) t13.length t13.length) rfl) ?_
 refine Jf ?_
 refine Jm ?_
 obtain rfl := Option.some.inj H9
 refine c_imp 1 rfl (imp_clipO _ _ _ _ _ _) ?_
 refine Jy (v := .slice (Y4 p_2.1 0 t13.length 1) t13.length t13.length) rfl rfl (W6 (Y4 p_2.1 0 t13.length 1, t13.length) (i := 1) rfl rfl (Imp.refl _))
theorem k5 {a0 : (List T_face_Likeness)} {v0 : Value} {a1 : (List T_face_Person)} {v1 : Value} {r : Int} {w : World} {h : J3} (hw : Know h w Zh) (f0 : FrS h 14 v0 (a0.map Qf)) (f1 : FrN h 4 v1 g_face_Person a1) (H : Ys a0 a1 = some r) : Does Tryz.prog 5 (List.toArray [v0, v1]) w (fun v w' => v = (.int .i64 r) ∧ Grow w w') := by
 refine enter (n := 78) Tryz.func5 rfl rfl rfl Zh [] (Sat.nil _ _) ?_
 refine Je ?_
 refine Jb ?_
 refine Ja rfl rfl rfl (Jc (v := .int .i64 0) rfl) ?_
 refine Jf ?_
 refine Je ?_
 refine Je ?_
 refine Jb ?_
 refine Ja rfl rfl rfl (Jd (v := v0) rfl) ?_
 obtain ⟨t14, h_t14, H37⟩ := Jh H; clear H
 refine Xq (fun w hF hS => k17 (Jx w) (f0.mono (hw.now hF)) h_t14) Tryz.call17 rfl rfl rfl ?_
 refine Ja rfl rfl rfl (Jc (v := .int .i64 t14) rfl) ?_
 refine Jf ?_
 refine Je ?_
 refine Jb ?_
 refine Ja rfl rfl rfl (Jd (v := .int .i64 t14) rfl) ?_
 refine Ja rfl rfl rfl (U0 rfl rfl) ?_
 refine Jf ?_
 refine J5 (b := (decide (t14 ≠ 0))) rfl (fun hb => ?_) (fun hb => ?_)
 ·have H38 := Jn hb H37; clear H37
  refine Je ?_
  refine Jb ?_
  refine Ja rfl rfl rfl (Jd (v := .int .i64 t14) rfl) ?_
  refine Ja rfl rfl rfl (Jc (v := .int .i64 t14) rfl) ?_
  refine Jf ?_
  refine Jm ?_
  obtain rfl := Option.some.inj H38
  refine Jy (v := .int .i64 t14) rfl rfl (Xh rfl)
 ·have H39 := Jo hb H37; clear H37
  refine Jr ?_
  refine Je ?_
  refine Je ?_
  refine Jb ?_
  refine Ja rfl rfl rfl (Jd (v := v1) rfl) ?_
  refine Ja rfl rfl rfl (r_lenFN Tryz.underlying23 rfl f1) ?_
  refine Ja rfl rfl rfl (Wz rfl rfl) ?_
  refine Jf ?_
  refine J5 (b := (decide (100 < (a1.length : Int)))) rfl (fun hb => ?_) (fun hb => ?_)
  ·have H40 := Jn hb H39; clear H39
   refine Je ?_
   refine Jb ?_
   refine Ja rfl rfl rfl (Jc (v := .int .i64 4) rfl) ?_
   refine Jf ?_
   refine Jm ?_
   obtain rfl := Option.some.inj H40
   refine Jy (v := .int .i64 4) rfl rfl (Xh rfl)
  ·have H41 := Jo hb H39; clear H39
   refine Jr ?_
   refine Je ?_
   refine Jb ?_
   refine Zf (rds := []) (makes_map (fk := (fun x_ : Int => .int .i64 x_)) (fv := (fun x_ : Bool => .bool x_))) rfl rfl rfl (fun b3 => ?_)
   refine Zo (cs := [.map none]) Tryz.zeroValue54 rfl rfl rfl (fun b4 => ?_)
   refine X3 (i := 1) (vs := [.map (some b3)]) (cs' := [.map (some b3)]) Tryz.sizeOf54 rfl rfl rfl rfl rfl rfl rfl rfl rfl ?_
   refine Jf ?_
   refine Je ?_
   refine Je ?_
   refine Jb ?_
   refine Ja rfl rfl rfl (Jd (v := v1) rfl) ?_
   refine Ja rfl rfl rfl (r_lenFN Tryz.underlying23 rfl f1) ?_
   refine Ja rfl rfl rfl (Jd (v := .int .i64 0) rfl) ?_
   refine Jf ?_
   refine Ju ?_
   refine Yv (σ := Int × (List (Int × Bool))) (τ := Unit) (fun next1 s => Yx a0 a1 next1 s.1 s.2) (fun s t => [(0, v0), (1, v1), (6, .pointer (some ⟨b4, 0, none⟩)), (22, v1), (23, .int .i64 (a1.length : Int)), (24, .int .i64 s.1)]) (fun s t => [mapC (fun x_ : Int => .int .i64 x_) (fun x_ : Bool => .bool x_) b3 s.2, Jp b4 [.map (some b3)] 54]) (fun s t => True) (0, ([] : (List (Int × Bool)))) () [0, 1] H41 (by exact trivial) (by exact ⟨rfl, rfl, rfl, rfl, rfl, rfl, trivial⟩) (by decide) rfl ?_
   rintro ⟨x24_2, mp_2⟩ _ m1 gg H42 _
   clear H41
   replace H42 : Yx a0 a1 (it (fun next1 s => Yx a0 a1 next1 s.1 s.2) m1) x24_2 mp_2 = some r := H42
   generalize hn1 : it (fun next1 s => Yx a0 a1 next1 s.1 s.2) m1 = next1 at H42
   try dsimp only
   refine Je ?_
   refine Jb ?_
   refine Ja rfl rfl rfl (Q1 rfl rfl) ?_
   refine Jf ?_
   refine Je ?_
   refine J5 (b := (decide (x24_2 < (a1.length : Int)))) rfl (fun hb => ?_) (fun hb => ?_)
   ·have H43 := Jn hb H42; clear H42
    refine Jr ?_
    refine Xi (r := r) (σ := Int × Int × Bool × (List Int) × (List Int) × (List (Int × Bool))) (τ := (Option Addr × Nat) × (Option Addr × Nat)) (fun s => U1 x24_2 next1 s.1 s.2.1 s.2.2.1 s.2.2.2.1 s.2.2.2.2.1 s.2.2.2.2.2) (fun s t => [(0, v0), (1, v1), (6, .pointer (some ⟨b4, 0, none⟩)), (22, v1), (23, .int .i64 (a1.length : Int)), (24, .int .i64 x24_2), (60, .slice t.1.1 s.2.2.2.1.length t.1.2), (61, .slice t.2.1 s.2.2.2.2.1.length t.2.2), (62, .int .i64 s.1), (63, .slice t.1.1 s.2.2.2.1.length t.1.2), (64, .int .i64 s.2.1), (65, .bool s.2.2.1)]) (fun s t => [mapC (fun x_ : Int => .int .i64 x_) (fun x_ : Bool => .bool x_) b3 s.2.2.2.2.2, Jp b4 [.map (some b3)] 54, Qq 3 1 (.slice t.1.1 s.2.2.2.1.length t.1.2) s.2.2.2.1.length (s.2.2.2.1.map J4), roV 1 (.slice t.2.1 s.2.2.2.2.1.length t.2.2) s.2.2.2.2.1.length (s.2.2.2.2.1.map J4)]) (fun s t => True) ?_ ?_
    ·refine Ju ?_
     refine Je ?_
     refine Jb ?_
     refine Ja rfl rfl rfl (Jd (v := .int .i64 x24_2) rfl) ?_
     obtain ⟨t27, h_t27, H46⟩ := Jh H43; clear H43
     refine Ja rfl rfl rfl (Qm Tryz.underlying23 Tryz.sizeOf56 rfl rfl f1.frs (f1.ix h_t27)) ?_
     refine Qa (fun w hF hS => Xw (f := (elC h v1 4)) (i := x24_2) (sz := 4) (j := 0) (vs := [.int .i64 t27.Id, str t27.Name, (U3 h v1 4 (Int.toNat x24_2) 2), (U3 h v1 4 (Int.toNat x24_2) 3)]) Tryz.isAgg56 Tryz.sizeOf56 rfl rfl (f1.frs.row (hw.now hF)) (f1.ix h_t27) (rd_of (cg_face_Person (f1.at h_t27)) rfl)) rfl rfl rfl ?_
     refine Zo (cs := [.int .i64 0, str [], .slice none 0 0, .slice none 0 0]) Tryz.zeroValue56 rfl rfl rfl (fun b5 => ?_)
     refine Ja rfl rfl rfl (Jc (v := .int .i64 x24_2) rfl) ?_
     refine X3 (i := 2) (vs := [.int .i64 t27.Id, str t27.Name, (U3 h v1 4 (Int.toNat x24_2) 2), (U3 h v1 4 (Int.toNat x24_2) 3)]) (cs' := [.int .i64 t27.Id, str t27.Name, (U3 h v1 4 (Int.toNat x24_2) 2), (U3 h v1 4 (Int.toNat x24_2) 3)]) Tryz.sizeOf56 rfl rfl rfl rfl rfl rfl (by simp only [List.all_cons, List.all_nil, (show FrS h 1 (U3 h v1 4 (Int.toNat x24_2) 2) (t27.Likes.map J4) from (Yr (f1.at h_t27))).one, (show FrS h 1 (U3 h v1 4 (Int.toNat x24_2) 3) (t27.Nots.map J4) from (Jat (f1.at h_t27))).one] <;> rfl) rfl rfl ?_
     refine Jf ?_
     refine Je ?_
     refine Je ?_
     refine Jb ?_
     refine Ja rfl rfl rfl (Jq Tryz.runUnderlying56 rfl Tryz.sizeOf3 rfl rfl) ?_
     refine J0 (i := 2) (v := .int .i64 t27.Id) Tryz.isAgg3 rfl rfl rfl rfl rfl ?_
     obtain ⟨t31, h_t31, H47⟩ := Jh H46; clear H46
     refine Qu (k18 h_t31) Tryz.call18 rfl rfl rfl ?_
     refine Jf ?_
     refine J5 (b := t31) rfl (fun hb => ?_) (fun hb => ?_)
     ·have H48 := Jn hb H47; clear H47
      refine Je ?_
      refine Jb ?_
      refine Ja rfl rfl rfl (Jc (v := .int .i64 2) rfl) ?_
      refine Jf ?_
      refine Jm ?_
      obtain rfl := Option.some.inj H48
      refine Jy (v := .int .i64 2) rfl rfl (Xh rfl)
     ·have H49 := Jo hb H47; clear H47
      refine Jr ?_
      refine Xi (r := r) (σ := Unit) (τ := Unit) (fun s => Qy a0 x24_2 mp_2 next1 t27) (fun s t => [(0, v0), (1, v1), (6, .pointer (some ⟨b4, 0, none⟩)), (8, .pointer (some ⟨b5, 0, none⟩)), (22, v1), (23, .int .i64 (a1.length : Int)), (24, .int .i64 x24_2)]) (fun s t => [mapC (fun x_ : Int => .int .i64 x_) (fun x_ : Bool => .bool x_) b3 mp_2, Jp b4 [.map (some b3)] 54, Jp b5 [.int .i64 t27.Id, str t27.Name, (U3 h v1 4 (Int.toNat x24_2) 2), (U3 h v1 4 (Int.toNat x24_2) 3)] 56]) (fun s t => True) ?_ ?_
      ·refine Je ?_
       exact Za (Kd.p :: Kd.p :: Kd.p :: Kd.p :: Kd.d [2] _ :: Kd.p :: Kd.p :: Kd.p :: Kd.p :: Kd.p :: Kd.d [] _ :: Kd.p :: Kd.p :: []) 0 mixed (by
        refine Jt rfl rfl (Jd (v := .int .i64 x24_2) rfl) ?_
        refine Jt rfl rfl (Wz rfl rfl) ?_
        refine Jt rfl rfl (Jd (v := .bool (decide (0 < x24_2))) rfl) ?_
        refine splitS (fun hb => ?_) (fun hb => ?_)
        ·have H66 := Jn hb H49
         refine Jt rfl rfl (Jq Tryz.runUnderlying56 rfl Tryz.sizeOf3 rfl rfl) ?_
         refine Zb (i := 2) (v := .int .i64 t27.Id) Tryz.isAgg3 rfl rfl rfl rfl ?_
         refine Jt rfl rfl (Jd (v := v1) rfl) ?_
         refine Jt rfl rfl (Jd (v := .int .i64 x24_2) rfl) ?_
         have h_t39 := Qx H66
         have H67 := Qg H66
         refine Jt rfl rfl (U6 rfl rfl h_t39) ?_
         have h_t40 := Qx H67
         have H68 := Qg H67
         refine Jt rfl rfl (Qm Tryz.underlying23 Tryz.sizeOf56 rfl rfl f1.frs (f1.ix h_t40)) ?_
         refine Jt rfl rfl (r_fieldP Tryz.runUnderlying56 rfl Tryz.sizeOf3 rfl rfl (some_of_at f1.frs (f1.ix h_t40))) ?_
         refine d_read (fun w hF => Qj (f := (elC h v1 4)) (i := (val (gI (x24_2 - 1)))) (sz := 4) (j := 0) (v := .int .i64 (val (Qn a1 (val (gI (x24_2 - 1))))).Id) Tryz.isAgg3 rfl rfl (f1.frs.row (hw.now hF)) (f1.ix h_t40) (rg_of (cg_face_Person (f1.at h_t40)) rfl)) rfl rfl ?_
         refine Jt rfl rfl (r_leq rfl rfl) ?_
         refine Jt rfl rfl (Jz (v := .bool (decide (t27.Id ≤ (val (Qn a1 (val (gI (x24_2 - 1))))).Id))) rfl rfl) ?_
         refine Ui ?_
         refine J5 (b := (decide (t27.Id ≤ (val (Qn a1 (val (gI (x24_2 - 1))))).Id))) rfl (fun hb => ?_) (fun hb => ?_)
         ·have H69 := Jn hb H68; clear H68
          refine Je ?_
          refine Jb ?_
          refine Ja rfl rfl rfl (Jc (v := .int .i64 5) rfl) ?_
          refine Jf ?_
          refine Jm ?_
          obtain rfl := Option.some.inj H69
          refine Jy (v := .int .i64 5) rfl rfl (Xh rfl)
         ·have H70 := Jo hb H68; clear H68
          refine Jr ?_
          refine Jl () () 0 [0, 1, 2] (by exact ⟨rfl, rfl, rfl, rfl, rfl, rfl, rfl, trivial⟩) (by decide) rfl (by exact ⟨H70, trivial⟩) (Nat.lt_succ_self _)
        ·have H71 := Jo hb H49
         refine Q4 rfl rfl ?_
         refine Q4 rfl rfl ?_
         refine Q4 rfl rfl ?_
         refine Q4 rfl rfl ?_
         refine Q4 rfl rfl ?_
         refine Q4 rfl rfl ?_
         refine Q4 rfl rfl ?_
         refine Q4 rfl rfl ?_
         refine Q4 rfl rfl ?_
         refine Jt rfl rfl (Jw (v := .bool false) rfl rfl) ?_
         refine Ui ?_
         refine Wi rfl ?_
         refine Jr ?_
         refine Jl () () 0 [0, 1, 2] (by exact ⟨rfl, rfl, rfl, rfl, rfl, rfl, rfl, trivial⟩) (by decide) rfl (by exact ⟨H71, trivial⟩) (Nat.lt_succ_self _)
        ) (by kernel_rfl)
      ·rintro _ _ gg H50 _
       replace H50 : Qy a0 x24_2 mp_2 next1 t27 = some r := H50
       try dsimp only
       refine Je ?_
       refine Je ?_
       refine Jb ?_
       refine Ja rfl rfl rfl (Jd (v := v0) rfl) ?_
       refine Y2 (i := 2) (vs := [.int .i64 t27.Id, str t27.Name, (U3 h v1 4 (Int.toNat x24_2) 2), (U3 h v1 4 (Int.toNat x24_2) 3)]) Tryz.isAgg56 Tryz.sizeOf56 rfl rfl rfl rfl rfl ?_
       obtain ⟨t47, h_t47, H51⟩ := Jh H50; clear H50
       refine Xq (fun w hF hS => k19 (Jx w) (f0.mono (hw.now hF)) ((show FrS h 1 (U3 h v1 4 (Int.toNat x24_2) 2) (t27.Likes.map J4) from (Yr (f1.at h_t27))).mono (hw.now hF)) ((show FrS h 1 (U3 h v1 4 (Int.toNat x24_2) 3) (t27.Nots.map J4) from (Jat (f1.at h_t27))).mono (hw.now hF)) h_t47) Tryz.call19 rfl rfl rfl ?_
       refine Ja rfl rfl rfl (Jc (v := .int .i64 t47) rfl) ?_
       refine Jf ?_
       refine Je ?_
       refine Jb ?_
       refine Ja rfl rfl rfl (Jd (v := .int .i64 t47) rfl) ?_
       refine Ja rfl rfl rfl (U0 rfl rfl) ?_
       refine Jf ?_
       refine J5 (b := (decide (t47 ≠ 0))) rfl (fun hb => ?_) (fun hb => ?_)
       ·have H52 := Jn hb H51; clear H51
        refine Je ?_
        refine Jb ?_
        refine Ja rfl rfl rfl (Jd (v := .int .i64 t47) rfl) ?_
        refine Ja rfl rfl rfl (Jc (v := .int .i64 t47) rfl) ?_
        refine Jf ?_
        refine Jm ?_
        obtain rfl := Option.some.inj H52
        refine Jy (v := .int .i64 t47) rfl rfl (Xh rfl)
       ·have H53 := Jo hb H51; clear H51
        refine Jr ?_
        refine Je ?_
        refine Jb ?_
        refine Ja rfl rfl rfl (Jd (v := v0) rfl) ?_
        refine Ja rfl rfl rfl (Jq Tryz.runUnderlying56 rfl Tryz.sizeOf24 rfl rfl) ?_
        refine J0 (i := 2) (v := (U3 h v1 4 (Int.toNat x24_2) 2)) Tryz.isAgg24 rfl rfl rfl rfl rfl ?_
        obtain ⟨t54, h_t54, H54⟩ := Jh H53; clear H53
        refine Zf (Q3 (rds := []) (G := fun x : (Option Addr × Nat) => .slice x.1 t54.length x.2) (C := fun x : (Option Addr × Nat) => Qq 3 1 (.slice x.1 t54.length x.2) t54.length (t54.map J4)) (fun w L' hF hS hi => k20 (Jx w) (f0.mono (hw.now hF)) ((show FrS h 1 (U3 h v1 4 (Int.toNat x24_2) 2) (t27.Likes.map J4) from (Yr (f1.at h_t27))).mono (hw.now hF)) h_t54) Tryz.call20 rfl) rfl rfl rfl (fun p_3 => ?_)
        refine Ja rfl rfl rfl (Jc (v := .slice p_3.1 t54.length p_3.2) rfl) ?_
        refine Jf ?_
        refine Je ?_
        refine Je ?_
        refine Jb ?_
        refine Ja rfl rfl rfl (Jq Tryz.runUnderlying56 rfl Tryz.sizeOf24 rfl rfl) ?_
        refine J0 (i := 2) (v := (U3 h v1 4 (Int.toNat x24_2) 2)) Tryz.isAgg24 rfl rfl rfl rfl rfl ?_
        refine Ja rfl rfl rfl (r_makeFn (caps := #[.pointer (some ⟨b4, 0, none⟩)]) rfl) ?_
        obtain ⟨t58, h_t58, H55⟩ := Jh H54; clear H54
        refine Xq (fun w hF hS => k21 (Jx w) ((show FrS h 1 (U3 h v1 4 (Int.toNat x24_2) 2) (t27.Likes.map J4) from (Yr (f1.at h_t27))).mono (hw.now hF)) (FnH.mk ⟨22, #[], #[.pointer (some ⟨b4, 0, none⟩)], rfl, Tryz.call22, fun args2 post2 w2 hk2 hR2 => by obtain ⟨a0_, r_, rfl, H_, rfl⟩ := hR2; exact k22 (Jx w2) ((frs_map (fk := (fun x_ : Int => .int .i64 x_)) (fv := (fun x_ : Bool => .bool x_)) (i := 0) hS rfl).mono hk2.up) (hk2.up _ _ (Q8 (i := 1) hS rfl)) H_⟩) h_t58) Tryz.call21 rfl rfl rfl ?_
        refine Ja rfl rfl rfl (Jd (v := .bool t58) rfl) ?_
        refine split (fun hb => ?_) (fun hb => ?_)
        ·have H56 := Jn hb H55; clear H55
         refine Ji rfl rfl rfl ?_
         refine Ji rfl rfl rfl ?_
         refine Ji rfl rfl rfl ?_
         refine Ji rfl rfl rfl ?_
         refine Ji rfl rfl rfl ?_
         refine Ji rfl rfl rfl ?_
         refine Ja rfl rfl rfl (Jz (v := .bool true) rfl rfl) ?_
         refine Jf ?_
         refine Ur rfl ?_
         refine Je ?_
         refine Jb ?_
         refine Ja rfl rfl rfl (Jc (v := .int .i64 6) rfl) ?_
         refine Jf ?_
         refine Jm ?_
         obtain rfl := Option.some.inj H56
         refine Jy (v := .int .i64 6) rfl rfl (Xh rfl)
        ·have H57 := Jo hb H55; clear H55
         refine Ja rfl rfl rfl (Jd (v := .slice p_3.1 t54.length p_3.2) rfl) ?_
         obtain ⟨t61, h_t61, H58⟩ := Jh H57; clear H57
         refine Zf (Q3 (rds := [3]) (G := fun x : (Option Addr × Nat) => .slice x.1 t61.length x.2) (C := fun x : (Option Addr × Nat) => roV 1 (.slice x.1 t61.length x.2) t61.length (t61.map J4)) (fun w L' hF hS hi => k23 (Jx w) (frs_own (i := 3) rfl hS ((hi 3 (by simp)).trans rfl)) (FrS.nil _ _) h_t61) Tryz.call23 rfl) rfl rfl rfl (fun p_4 => ?_)
         refine Ja rfl rfl rfl (Uj Tryz.underlying24 rfl) ?_
         refine Ja rfl rfl rfl (Jd (v := .slice p_3.1 t54.length p_3.2) rfl) ?_
         refine Ja rfl rfl rfl (Uj Tryz.underlying24 rfl) ?_
         refine Ja rfl rfl rfl (Q1 rfl rfl) ?_
         refine Ja rfl rfl rfl (Jw (v := .bool (decide ((t61.length : Int) < (t54.length : Int)))) rfl rfl) ?_
         refine Jf ?_
         refine J5 (b := (decide ((t61.length : Int) < (t54.length : Int)))) rfl (fun hb => ?_) (fun hb => ?_)
         ·have H59 := Jn hb H58; clear H58
          refine Je ?_
          refine Jb ?_
          refine Ja rfl rfl rfl (Jc (v := .int .i64 6) rfl) ?_
          refine Jf ?_
          refine Jm ?_
          obtain rfl := Option.some.inj H59
          refine Jy (v := .int .i64 6) rfl rfl (Xh rfl)
         ·have H60 := Jo hb H58; clear H58
          refine Jr ?_
          refine Je ?_
          refine Jb ?_
          refine Ja rfl rfl rfl (Jq Tryz.runUnderlying56 rfl Tryz.sizeOf24 rfl rfl) ?_
          refine J0 (i := 2) (v := (U3 h v1 4 (Int.toNat x24_2) 2)) Tryz.isAgg24 rfl rfl rfl rfl rfl ?_
          refine Ja rfl rfl rfl (Zl Tryz.underlying24 rfl (show FrS h 1 (U3 h v1 4 (Int.toNat x24_2) 2) (t27.Likes.map J4) from (Yr (f1.at h_t27))) rfl) ?_
          refine Ja rfl rfl rfl (Jd (v := .int .i64 0) rfl) ?_
          refine Jf ?_
          refine Ju ?_
          refine c_dr 2 ?_
          try dsimp only [z1, z2, z3, z4, z5, z6, z7, z8]
          refine Yv (σ := Int × (List (Int × Bool))) (τ := Unit) (fun next4 s => Ya x24_2 next1 t27 t54 t61 next4 s.1 s.2) (fun s t => [(0, v0), (1, v1), (6, .pointer (some ⟨b4, 0, none⟩)), (22, v1), (23, .int .i64 (a1.length : Int)), (24, .int .i64 x24_2), (60, .slice p_3.1 t54.length p_3.2), (61, .slice p_4.1 t61.length p_4.2), (62, .int .i64 (t61.length : Int)), (63, .slice p_3.1 t54.length p_3.2), (64, .int .i64 (t54.length : Int)), (65, .bool (decide ((t61.length : Int) < (t54.length : Int)))), (68, (U3 h v1 4 (Int.toNat x24_2) 2)), (69, .int .i64 (t27.Likes.length : Int)), (70, .int .i64 s.1)]) (fun s t => [mapC (fun x_ : Int => .int .i64 x_) (fun x_ : Bool => .bool x_) b3 s.2, Jp b4 [.map (some b3)] 54, Qq 3 1 (.slice p_3.1 t54.length p_3.2) t54.length (t54.map J4), roV 1 (.slice p_4.1 t61.length p_4.2) t61.length (t61.map J4)]) (fun s t => True) (0, mp_2) () [0, 1, 2, 3] H60 (by exact trivial) (by exact ⟨rfl, rfl, rfl, rfl, rfl, rfl, rfl, rfl, rfl, rfl, rfl, rfl, rfl, rfl, rfl, trivial⟩) (by decide) rfl ?_
          rintro ⟨x70_2, mp_5⟩ _ m4 gg H61 _
          clear H60
          replace H61 : Ya x24_2 next1 t27 t54 t61 (it (fun next4 s => Ya x24_2 next1 t27 t54 t61 next4 s.1 s.2) m4) x70_2 mp_5 = some r := H61
          generalize hn4 : it (fun next4 s => Ya x24_2 next1 t27 t54 t61 next4 s.1 s.2) m4 = next4 at H61
          try dsimp only
          refine Je ?_
          refine Jb ?_
          refine Ja rfl rfl rfl (Q1 rfl rfl) ?_
          refine Jf ?_
          refine Je ?_
          refine J5 (b := (decide (x70_2 < (t27.Likes.length : Int)))) rfl (fun hb => ?_) (fun hb => ?_)
          ·have H62 := Jn hb H61; clear H61
           refine Jr ?_
           refine Je ?_
           refine Ju ?_
           refine Je ?_
           refine Jb ?_
           obtain ⟨t72, h_t72, H63⟩ := Jh H62; clear H62
           refine Ja rfl rfl rfl (Qm Tryz.underlying24 Tryz.sizeOf3 rfl rfl (show FrS h 1 (U3 h v1 4 (Int.toNat x24_2) 2) (t27.Likes.map J4) from (Yr (f1.at h_t27))) h_t72) ?_
           refine Qa (fun w hF hS => Qj (f := J4) (i := x70_2) (sz := 1) (j := 0) (v := .int .i64 t72) Tryz.isAgg3 rfl rfl ((show FrS h 1 (U3 h v1 4 (Int.toNat x24_2) 2) (t27.Likes.map J4) from (Yr (f1.at h_t27))).row (hw.now hF)) h_t72 rfl) rfl rfl rfl ?_
           refine Ja rfl rfl rfl (Jc (v := .int .i64 t72) rfl) ?_
           refine Jf ?_
           refine Jb ?_
           refine J0 (i := 1) (v := .map (some b3)) Tryz.isAgg54 rfl rfl rfl rfl rfl ?_
           refine Ja rfl rfl rfl (Jd (v := .int .i64 t72) rfl) ?_
           refine l_turn0 (turns_mset (u := true) (i := 0) (rds := []) (fk := (fun x_ : Int => .int .i64 x_)) (fv := (fun x_ : Bool => .bool x_)) (k := t72) (v := true) keyF_int (.inr rfl) Tryz.underlying54 Tryz.underlying3 rfl rfl rfl rfl) rfl rfl (fun _ => ?_)
           refine Jf ?_
           refine Jb ?_
           obtain ⟨t76, h_t76, H64⟩ := Jh H63; clear H63
           refine Ja rfl rfl rfl (Q2 rfl rfl h_t76) ?_
           refine Ja rfl rfl rfl (Jd (v := .int .i64 t76) rfl) ?_
           refine Jf ?_
           refine Jl (t76, (Un mp_5 t72 true)) () m4 [0, 1, 2, 3] (by exact ⟨rfl, rfl, rfl, rfl, rfl, rfl, rfl, rfl, rfl, rfl, rfl, rfl, rfl, rfl, rfl, trivial⟩) (by decide) rfl (by exact ⟨(by subst hn4; exact H64), trivial⟩) (Nat.lt_succ_self _)
          ·have H65 := Jo hb H61; clear H61
           refine Qr ?_
           refine Jl ((t61.length : Int), (t54.length : Int), (decide ((t61.length : Int) < (t54.length : Int))), t54, t61, mp_5) (p_3, p_4) 0 [0, 1, 2, 3] (by exact ⟨rfl, rfl, rfl, rfl, rfl, rfl, rfl, rfl, rfl, rfl, rfl, rfl, trivial⟩) (by decide) rfl (by exact ⟨H65, trivial⟩) (Nat.lt_succ_self _)
    ·rintro ⟨x62, x64, x65, l, l_2, mp_3⟩ ⟨p, p_2⟩ gg H44 _
     replace H44 : U1 x24_2 next1 x62 x64 x65 l l_2 mp_3 = some r := H44
     try dsimp only
     refine Jb ?_
     obtain ⟨t77, h_t77, H45⟩ := Jh H44; clear H44
     refine Ja rfl rfl rfl (Q2 rfl rfl h_t77) ?_
     refine Ja rfl rfl rfl (Jd (v := .int .i64 t77) rfl) ?_
     refine Jf ?_
     refine Jl (t77, mp_3) () m1 [0, 1] (by exact ⟨rfl, rfl, rfl, rfl, rfl, rfl, trivial⟩) (by decide) rfl (by exact ⟨(by subst hn1; exact H45), trivial⟩) (Nat.lt_succ_self _)
   ·have H72 := Jo hb H42; clear H42
    refine Qr ?_
    refine Je ?_
    refine Jb ?_
    refine Ja rfl rfl rfl (Jc (v := .int .i64 0) rfl) ?_
    refine Jf ?_
    refine Jm ?_
    obtain rfl := Option.some.inj H72
    refine Jy (v := .int .i64 0) rfl rfl (Xh rfl)
theorem k27 {q0 : Int} {c0 : Nat} {a0 : T_sync_Fact} {r : Bool} {w : World} {h : J3} (hw : Know h w Zh) (hc0 : h c0 = some (.cells (List.toArray [.int .i64 q0]) 3 (0, 0))) (H : Uc q0 a0 = some r) : Does Tryz.prog 27 (List.toArray [.agg #[.int .i64 a0.Dot.Device, .int .i64 a0.Dot.N, .int .i64 a0.Time, .int .i64 a0.Kind, .int .i64 a0.Id, str a0.Name, .int .i64 a0.Num, str a0.Text], .pointer (some ⟨c0, 0, none⟩)]) w (fun v w' => v = (.bool r) ∧ Grow w w') := by
 refine enter (n := 8) Tryz.func27 rfl rfl rfl Zh [] (Sat.nil _ _) ?_
 refine Je ?_
 refine Jb ?_
 refine W8 (cs := [.int .i64 a0.Dot.Device, .int .i64 a0.Dot.N, .int .i64 a0.Time, .int .i64 a0.Kind, .int .i64 a0.Id, str a0.Name, .int .i64 a0.Num, str a0.Text]) rfl rfl rfl rfl (fun b1 => ?_)
 refine Ja rfl rfl rfl (Jc (v := .bool false) rfl) ?_
 refine Jf ?_
 refine Je ?_
 refine Jb ?_
 refine Ja rfl rfl rfl (Jq Tryz.runUnderlying52 rfl Tryz.sizeOf3 rfl rfl) ?_
 refine J0 (i := 0) (v := .int .i64 a0.Id) Tryz.isAgg3 rfl rfl rfl rfl rfl ?_
 refine Qa (fun w hF hS => Zt (v := .int .i64 q0) Tryz.isAgg3 rfl (hw.now hF _ _ hc0) rfl) rfl rfl rfl ?_
 refine Ja rfl rfl rfl (Zp rfl rfl) ?_
 refine Ja rfl rfl rfl (Jc (v := .bool (decide (a0.Id = q0))) rfl) ?_
 refine Jf ?_
 refine Jm ?_
 obtain rfl := Option.some.inj H
 refine Jy (v := .bool (decide (a0.Id = q0))) rfl rfl (Xh rfl)
theorem k7 {a0 : T_sync_Replica} {pb0 : Nat} {p0_2 : Option Addr × Nat} {n0_2 : Nat} {a1 : Int} {r : Int × T_sync_Replica} {w : World} {h : J3} {S : Nat → Prop} (hcs : (Yk (Jp pb0 [.int .i64 a0.device_, .int .i64 (a0.knows_ 0), .int .i64 (a0.knows_ 1), .int .i64 (a0.knows_ 2), .int .i64 (a0.knows_ 3), .int .i64 (a0.knows_ 4), .int .i64 (a0.knows_ 5), .int .i64 (a0.knows_ 6), .int .i64 (a0.knows_ 7), .int .i64 (a0.knows_ 8), .int .i64 (a0.knows_ 9), .int .i64 (a0.knows_ 10), .int .i64 (a0.knows_ 11), .int .i64 (a0.knows_ 12), .int .i64 (a0.knows_ 13), .int .i64 (a0.knows_ 14), .int .i64 (a0.knows_ 15), .slice p0_2.1 n0_2 p0_2.2] 67) (Q0 52 8 (.slice p0_2.1 n0_2 p0_2.2) n0_2 (a0.facts_.map Jj))).P S w) (hlt : ∀ b, S b → b < w.heap.size) (hw : Know h w S) (hn0_2 : n0_2 = a0.facts_.length) (H : Zk a0 a1 = some r) : Does Tryz.prog 7 (List.toArray [.pointer (some ⟨pb0, 0, none⟩), .int .i64 a1]) w (fun v w' => ∃ x : (Option Addr × Nat), v = (.int .i64 r.1) ∧ Turn w w' S (Yk (Jp pb0 [.int .i64 r.2.device_, .int .i64 (r.2.knows_ 0), .int .i64 (r.2.knows_ 1), .int .i64 (r.2.knows_ 2), .int .i64 (r.2.knows_ 3), .int .i64 (r.2.knows_ 4), .int .i64 (r.2.knows_ 5), .int .i64 (r.2.knows_ 6), .int .i64 (r.2.knows_ 7), .int .i64 (r.2.knows_ 8), .int .i64 (r.2.knows_ 9), .int .i64 (r.2.knows_ 10), .int .i64 (r.2.knows_ 11), .int .i64 (r.2.knows_ 12), .int .i64 (r.2.knows_ 13), .int .i64 (r.2.knows_ 14), .int .i64 (r.2.knows_ 15), .slice x.1 r.2.facts_.length x.2] 67) (Q0 52 8 (.slice x.1 r.2.facts_.length x.2) r.2.facts_.length (r.2.facts_.map Jj)))) := by
 refine enter (n := 12) Tryz.func7 rfl rfl rfl S [Yk (Jp pb0 [.int .i64 a0.device_, .int .i64 (a0.knows_ 0), .int .i64 (a0.knows_ 1), .int .i64 (a0.knows_ 2), .int .i64 (a0.knows_ 3), .int .i64 (a0.knows_ 4), .int .i64 (a0.knows_ 5), .int .i64 (a0.knows_ 6), .int .i64 (a0.knows_ 7), .int .i64 (a0.knows_ 8), .int .i64 (a0.knows_ 9), .int .i64 (a0.knows_ 10), .int .i64 (a0.knows_ 11), .int .i64 (a0.knows_ 12), .int .i64 (a0.knows_ 13), .int .i64 (a0.knows_ 14), .int .i64 (a0.knows_ 15), .slice p0_2.1 n0_2 p0_2.2] 67) (Q0 52 8 (.slice p0_2.1 n0_2 p0_2.2) n0_2 (a0.facts_.map Jj))] (Sat.one hcs hlt) ?_
 refine Uw 0 rfl ?_
 refine Je ?_
 refine Jb ?_
 refine W8 (cs := [.int .i64 a1]) rfl rfl rfl rfl (fun b1 => ?_)
 refine Ja rfl rfl rfl (Jc (v := .int .i64 0) rfl) ?_
 refine Jf ?_
 refine Je ?_
 refine Je ?_
 refine Jb ?_
 refine Ja rfl rfl rfl (Jd (v := .pointer (some ⟨pb0, 0, none⟩)) rfl) ?_
 refine J0 (i := 2) (v := .int .i64 a1) Tryz.isAgg3 rfl rfl rfl rfl rfl ?_
 obtain ⟨t7, h_t7, H5⟩ := Jh H; clear H
 refine Xq (fun w hF hS => k25 (Jx w) (frs_off (i := 1) hn0_2 hS rfl) (Q8 (i := 0) hS rfl) h_t7) Tryz.call25 rfl rfl rfl ?_
 refine Ja rfl rfl rfl (Vt rfl) ?_
 refine Jf ?_
 refine J5 (b := (!t7)) rfl (fun hb => ?_) (fun hb => ?_)
 ·have H6 := Jn hb H5; clear H5
  refine Je ?_
  refine Jb ?_
  refine Ja rfl rfl rfl (Jc (v := .int .i64 7) rfl) ?_
  refine Jf ?_
  refine Jm ?_
  obtain rfl := Option.some.inj H6
  refine Z6 0 1 rfl rfl (by decide) ?_
  refine Jy (v := .int .i64 7) rfl rfl (W6 p0_2 (i := 0) rfl (by first | rfl | rw [(show n0_2 = a0.facts_.length from hn0_2)]) (by first | exact Imp.refl _ | exact Imp.of (by rw [(show n0_2 = a0.facts_.length from hn0_2)])))
 ·have H7 := Jo hb H5; clear H5
  refine Jr ?_
  refine Je ?_
  refine Jb ?_
  refine Ja rfl rfl rfl (Jd (v := .pointer (some ⟨pb0, 0, none⟩)) rfl) ?_
  refine Ja rfl rfl rfl (r_makeFn (caps := #[.pointer (some ⟨b1, 0, none⟩)]) rfl) ?_
  obtain ⟨t11, h_t11, H8⟩ := Jh H7; clear H7
  refine Z6 0 1 rfl rfl (by decide) ?_
  refine Yl (Q7 (i := 0) (rds := [2]) (G := fun x : (Option Addr × Nat) => .tuple #[]) (C := fun x : (Option Addr × Nat) => Yk (Jp pb0 [.int .i64 t11.device_, .int .i64 (t11.knows_ 0), .int .i64 (t11.knows_ 1), .int .i64 (t11.knows_ 2), .int .i64 (t11.knows_ 3), .int .i64 (t11.knows_ 4), .int .i64 (t11.knows_ 5), .int .i64 (t11.knows_ 6), .int .i64 (t11.knows_ 7), .int .i64 (t11.knows_ 8), .int .i64 (t11.knows_ 9), .int .i64 (t11.knows_ 10), .int .i64 (t11.knows_ 11), .int .i64 (t11.knows_ 12), .int .i64 (t11.knows_ 13), .int .i64 (t11.knows_ 14), .int .i64 (t11.knows_ 15), .slice x.1 t11.facts_.length x.2] 67) (Q0 52 8 (.slice x.1 t11.facts_.length x.2) t11.facts_.length (t11.facts_.map Jj))) rfl (fun w L' S hF hS hi hp hlt ho hA => k26 hp hlt (Y0 w S) hn0_2 (FnH.mk ⟨27, #[], #[.pointer (some ⟨b1, 0, none⟩)], rfl, Tryz.call27, fun args2 post2 w2 hk2 hR2 => by obtain ⟨a0_, r_, rfl, H_, rfl⟩ := hR2; exact k27 (Jx w2) (hk2.up _ _ (cell_but (j := 2) hA hS (by decide) ((hi 2 (by simp)).trans rfl))) H_⟩) (FrS.nil _ _) h_t11) Tryz.call26 rfl) rfl rfl rfl (fun p => ?_)
  refine Ub 0 1 rfl rfl (by decide) ?_
  refine Jf ?_
  refine Je ?_
  try dsimp only [z1, z2, z5, z6, z7, z8]
  refine Jb ?_
  refine Ja rfl rfl rfl (Jc (v := .int .i64 0) rfl) ?_
  refine Jf ?_
  refine Jm ?_
  obtain rfl := Option.some.inj H8
  refine Z6 0 1 rfl rfl (by decide) ?_
  refine Jy (v := .int .i64 0) rfl rfl (W6 p (i := 0) rfl rfl (Imp.refl _))
theorem k57 {a0 : (List T_sync_Fact)} {v0 : Value} {r : (List T_sync_Fact)} {w : World} {h : J3} (hw : Know h w Zh) (f0 : FrS h 8 v0 (a0.map Jj)) (H : Vh a0 = some r) : Does Tryz.prog 57 (List.toArray [v0]) w (fun v w' => ∃ x : (Option Addr × Nat), v = (.slice x.1 r.length x.2) ∧ Turn w w' Zh (Qq 52 8 (.slice x.1 r.length x.2) r.length (r.map Jj))) := by
 refine enter (n := 8) Tryz.func57 rfl rfl rfl Zh [] (Sat.nil _ _) ?_
 refine Je ?_
 refine Jb ?_
 refine Ja rfl rfl rfl (Jc (v := .slice none 0 0) rfl) ?_
 refine Jf ?_
 refine Je ?_
 refine Je ?_
 refine Jb ?_
 refine Ja rfl rfl rfl (Jd (v := v0) rfl) ?_
 refine Ja rfl rfl rfl (r_eqlNilS Tryz.underlying65 f0 rfl rfl) ?_
 refine Jf ?_
 refine J5 (b := isNilV v0) rfl (fun hb => ?_) (fun hb => ?_)
 ·have hn_ : a0 = [] := f0.nilV hb
  have H3 : some ([] : List T_sync_Fact) = some r := by have h_ := H; rw [hn_] at h_; exact h_
  refine Je ?_
  refine Jb ?_
  refine Ja rfl rfl rfl (Jc (v := .slice none 0 0) rfl) ?_
  refine Jf ?_
  refine Jm ?_
  refine Wp 52 8 ?_
  obtain rfl := Option.some.inj H3
  refine Jy (v := .slice ((none, 0) : Option Addr × Nat).1 ([] : List T_sync_Fact).length ((none, 0) : Option Addr × Nat).2) rfl rfl (W6 ((none, 0) : Option Addr × Nat) (i := 0) rfl rfl (Imp.refl _))
 ·skip
  refine Jr ?_
  refine Je ?_
  refine Jb ?_
  refine Xc (vs := []) (cs := []) Tryz.underlying65 Tryz.sizeOf52 Tryz.zeroValue52 rfl rfl rfl rfl rfl rfl rfl (fun b1 => ?_)
  refine Ja rfl rfl rfl (Jd (v := v0) rfl) ?_
  refine c_imp 0 rfl (imp_box (m := 0) (E := 52) (sz := 8) (xs := (([] : List T_sync_Fact)).map Jj) rfl rfl rfl ⟨rfl, by decide⟩) ?_
  obtain ⟨l7, h_l7, H4⟩ := Jh H; clear H
  refine Yl (We (i := 0) (hn := rfl) (rds := []) (p := ((some ⟨b1, 0, none⟩, 0) : Option Addr × Nat)) (sz := 8) (by_ := 80) (f := Jj) (ys := ([] : List T_sync_Fact)) (ls := a0) (V := v0) Tryz.underlying65 (W2 Tryz.typeInfo52) rfl rfl rfl rfl rfl rfl rfl rfl f0.eq (List.length_map _) (fun w L' hF hS hi => (f0).row (hw.now hF)) (fun _ => rfl) (fun _ => rfl) h_l7) rfl rfl rfl (fun p => ?_)
  refine Ja rfl rfl rfl (Jc (v := .slice p.1 l7.length p.2) rfl) ?_
  refine Jf ?_
  refine Jm ?_
  obtain rfl := Option.some.inj H4
  refine Jy (v := .slice p.1 l7.length p.2) rfl rfl (W6 p (i := 0) rfl rfl (Imp.refl _))
theorem k59 {a0 : (List T_sync_Fact)} {v0 : Value} {a1 : (T_sync_Fact → Option (Bool))} {v1 : Value} {r : Bool} {w : World} {h : J3} (hw : Know h w Zh) (f0 : FrS h 8 v0 (a0.map Jj)) (f1 : FnH Tryz.prog h v1 (Xd a1)) (H : Yy a0 a1 = some r) : Does Tryz.prog 59 (List.toArray [v0, v1]) w (fun v w' => v = (.bool r) ∧ Grow w w') := by
 refine enter (n := 9) Tryz.func59 rfl rfl rfl Zh [] (Sat.nil _ _) ?_
 refine Je ?_
 refine Jb ?_
 refine Ja rfl rfl rfl (Jc (v := .bool false) rfl) ?_
 refine Jf ?_
 refine Je ?_
 refine Jb ?_
 refine Ja rfl rfl rfl (Jd (v := v0) rfl) ?_
 refine Ja rfl rfl rfl (Jd (v := v1) rfl) ?_
 obtain ⟨t7, h_t7, H2⟩ := Jh H; clear H
 refine Xq (fun w hF hS => k78 (Jx w) (f0.mono (hw.now hF)) (f1.mono (hw.now hF)) h_t7) Tryz.call78 rfl rfl rfl ?_
 refine Ja rfl rfl rfl (r_geq rfl rfl) ?_
 refine Ja rfl rfl rfl (Jc (v := .bool (decide (0 ≤ t7))) rfl) ?_
 refine Jf ?_
 refine Jm ?_
 obtain rfl := Option.some.inj H2
 refine Jy (v := .bool (decide (0 ≤ t7))) rfl rfl (Xh rfl)
theorem k61 {a0 : T_sync_Fact} {a1 : T_sync_Fact} {r : Bool} (H : Jay a0 a1 = some r) : Ret Tryz.prog 61 [.agg #[.int .i64 a0.Dot.Device, .int .i64 a0.Dot.N, .int .i64 a0.Time, .int .i64 a0.Kind, .int .i64 a0.Id, str a0.Name, .int .i64 a0.Num, str a0.Text], .agg #[.int .i64 a1.Dot.Device, .int .i64 a1.Dot.N, .int .i64 a1.Time, .int .i64 a1.Kind, .int .i64 a1.Id, str a1.Name, .int .i64 a1.Num, str a1.Text]] (.bool r) := by
 refine Qc (n := 24) Tryz.func61 rfl rfl rfl (fun wd => ?_)
 refine Je ?_
 refine Jb ?_
 refine W8 (cs := [.int .i64 a0.Dot.Device, .int .i64 a0.Dot.N, .int .i64 a0.Time, .int .i64 a0.Kind, .int .i64 a0.Id, str a0.Name, .int .i64 a0.Num, str a0.Text]) rfl rfl rfl rfl (fun b2 => ?_)
 refine W8 (cs := [.int .i64 a1.Dot.Device, .int .i64 a1.Dot.N, .int .i64 a1.Time, .int .i64 a1.Kind, .int .i64 a1.Id, str a1.Name, .int .i64 a1.Num, str a1.Text]) rfl rfl rfl rfl (fun b3 => ?_)
 refine Ja rfl rfl rfl (Jc (v := .bool false) rfl) ?_
 refine Jf ?_
 refine Je ?_
 refine Jb ?_
 refine Ja rfl rfl rfl (Jq Tryz.runUnderlying52 rfl Tryz.sizeOf3 rfl rfl) ?_
 refine J0 (i := 0) (v := .int .i64 a0.Kind) Tryz.isAgg3 rfl rfl rfl rfl rfl ?_
 refine Ja rfl rfl rfl (Jq Tryz.runUnderlying52 rfl Tryz.sizeOf3 rfl rfl) ?_
 refine J0 (i := 1) (v := .int .i64 a1.Kind) Tryz.isAgg3 rfl rfl rfl rfl rfl ?_
 refine Ja rfl rfl rfl (Zp rfl rfl) ?_
 refine Ja rfl rfl rfl (Jd (v := .bool (decide (a0.Kind = a1.Kind))) rfl) ?_
 refine split (fun hb => ?_) (fun hb => ?_)
 ·have H5 := Jn hb H; clear H
  refine Ja rfl rfl rfl (Jq Tryz.runUnderlying52 rfl Tryz.sizeOf3 rfl rfl) ?_
  refine J0 (i := 0) (v := .int .i64 a0.Id) Tryz.isAgg3 rfl rfl rfl rfl rfl ?_
  refine Ja rfl rfl rfl (Jq Tryz.runUnderlying52 rfl Tryz.sizeOf3 rfl rfl) ?_
  refine J0 (i := 1) (v := .int .i64 a1.Id) Tryz.isAgg3 rfl rfl rfl rfl rfl ?_
  refine Ja rfl rfl rfl (Zp rfl rfl) ?_
  refine Ja rfl rfl rfl (Jz (v := .bool (decide (a0.Id = a1.Id))) rfl rfl) ?_
  refine Ja rfl rfl rfl (Jd (v := .bool (decide (a0.Id = a1.Id))) rfl) ?_
  refine split (fun hb => ?_) (fun hb => ?_)
  ·have H6 := Jn hb H5; clear H5
   refine Ja rfl rfl rfl (Jq Tryz.runUnderlying52 rfl Tryz.sizeOf9 rfl rfl) ?_
   refine J0 (i := 0) (v := str a0.Name) Tryz.isAgg9 rfl rfl rfl rfl rfl ?_
   refine Ja rfl rfl rfl (Jq Tryz.runUnderlying52 rfl Tryz.sizeOf9 rfl rfl) ?_
   refine J0 (i := 1) (v := str a1.Name) Tryz.isAgg9 rfl rfl rfl rfl rfl ?_
   refine Ja rfl rfl rfl (r_eqlT rfl rfl) ?_
   refine Ja rfl rfl rfl (Jz (v := .bool (decide (a0.Name = a1.Name))) rfl rfl) ?_
   refine Ja rfl rfl rfl (Jc (v := .bool (decide (a0.Name = a1.Name))) rfl) ?_
   refine Jf ?_
   refine Jm ?_
   obtain rfl := Option.some.inj H6
   refine Jy (v := .bool (decide (a0.Name = a1.Name))) rfl rfl (Xh rfl)
  ·have H7 := Jo hb H5; clear H5
   refine Ji rfl rfl rfl ?_
   refine Ji rfl rfl rfl ?_
   refine Ji rfl rfl rfl ?_
   refine Ji rfl rfl rfl ?_
   refine Ji rfl rfl rfl ?_
   refine Ja rfl rfl rfl (Jw (v := .bool false) rfl rfl) ?_
   refine Ja rfl rfl rfl (Jc (v := .bool false) rfl) ?_
   refine Jf ?_
   refine Jm ?_
   obtain rfl := Option.some.inj H7
   refine Jy (v := .bool false) rfl rfl (Xh rfl)
 ·have H8 := Jo hb H; clear H
  refine Ji rfl rfl rfl ?_
  refine Ji rfl rfl rfl ?_
  refine Ji rfl rfl rfl ?_
  refine Ji rfl rfl rfl ?_
  refine Ji rfl rfl rfl ?_
  refine Ja rfl rfl rfl (Jw (v := .bool false) rfl rfl) ?_
  refine Ja rfl rfl rfl (Jd (v := .bool false) rfl) ?_
  refine Ji rfl rfl rfl ?_
  refine Ji rfl rfl rfl ?_
  refine Ji rfl rfl rfl ?_
  refine Ji rfl rfl rfl ?_
  refine Ji rfl rfl rfl ?_
  refine Ja rfl rfl rfl (Jw (v := .bool false) rfl rfl) ?_
  refine Ja rfl rfl rfl (Jc (v := .bool false) rfl) ?_
  refine Jf ?_
  refine Jm ?_
  obtain rfl := Option.some.inj H8
  refine Jy (v := .bool false) rfl rfl (Xh rfl)
theorem k60 {q0 : T_sync_Fact} {c0 : Nat} {a0 : T_sync_Fact} {r : Bool} {w : World} {h : J3} (hw : Know h w Zh) (hc0 : h c0 = some (.cells (List.toArray [.int .i64 q0.Dot.Device, .int .i64 q0.Dot.N, .int .i64 q0.Time, .int .i64 q0.Kind, .int .i64 q0.Id, str q0.Name, .int .i64 q0.Num, str q0.Text]) 52 (0, 0))) (H : Vy q0 a0 = some r) : Does Tryz.prog 60 (List.toArray [.agg #[.int .i64 a0.Dot.Device, .int .i64 a0.Dot.N, .int .i64 a0.Time, .int .i64 a0.Kind, .int .i64 a0.Id, str a0.Name, .int .i64 a0.Num, str a0.Text], .pointer (some ⟨c0, 0, none⟩)]) w (fun v w' => v = (.bool r) ∧ Grow w w') := by
 refine enter (n := 7) Tryz.func60 rfl rfl rfl Zh [] (Sat.nil _ _) ?_
 refine Je ?_
 refine Jb ?_
 refine W8 (cs := [.int .i64 a0.Dot.Device, .int .i64 a0.Dot.N, .int .i64 a0.Time, .int .i64 a0.Kind, .int .i64 a0.Id, str a0.Name, .int .i64 a0.Num, str a0.Text]) rfl rfl rfl rfl (fun b1 => ?_)
 refine Ja rfl rfl rfl (Jc (v := .bool false) rfl) ?_
 refine Jf ?_
 refine Je ?_
 refine Jb ?_
 refine Y2 (i := 0) (vs := [.int .i64 a0.Dot.Device, .int .i64 a0.Dot.N, .int .i64 a0.Time, .int .i64 a0.Kind, .int .i64 a0.Id, str a0.Name, .int .i64 a0.Num, str a0.Text]) Tryz.isAgg52 Tryz.sizeOf52 rfl rfl rfl rfl rfl ?_
 refine Qa (fun w hF hS => run_loadKN (vs := [.int .i64 q0.Dot.Device, .int .i64 q0.Dot.N, .int .i64 q0.Time, .int .i64 q0.Kind, .int .i64 q0.Id, str q0.Name, .int .i64 q0.Num, str q0.Text]) Tryz.isAgg52 Tryz.sizeOf52 rfl (hw.now hF _ _ hc0) rfl) rfl rfl rfl ?_
 obtain ⟨t6, h_t6, H2⟩ := Jh H; clear H
 refine Qu (k61 h_t6) Tryz.call61 rfl rfl rfl ?_
 refine Ja rfl rfl rfl (Jc (v := .bool t6) rfl) ?_
 refine Jf ?_
 refine Jm ?_
 obtain rfl := Option.some.inj H2
 refine Jy (v := .bool t6) rfl rfl (Xh rfl)
theorem k58 {q0 : (List T_sync_Fact)} {vq0 : Value} {c0 : Nat} {a0 : T_sync_Fact} {r : Bool} {w : World} {h : J3} (hw : Know h w Zh) (fq0 : FrS h 8 vq0 (q0.map Jj)) (hc0 : h c0 = some (.cells (List.toArray [vq0]) 65 (0, 0))) (H : Qh q0 a0 = some r) : Does Tryz.prog 58 (List.toArray [.agg #[.int .i64 a0.Dot.Device, .int .i64 a0.Dot.N, .int .i64 a0.Time, .int .i64 a0.Kind, .int .i64 a0.Id, str a0.Name, .int .i64 a0.Num, str a0.Text], .pointer (some ⟨c0, 0, none⟩)]) w (fun v w' => v = (.bool r) ∧ Grow w w') := by
 refine enter (n := 7) Tryz.func58 rfl rfl rfl Zh [] (Sat.nil _ _) ?_
 refine Je ?_
 refine Jb ?_
 refine W8 (cs := [.int .i64 a0.Dot.Device, .int .i64 a0.Dot.N, .int .i64 a0.Time, .int .i64 a0.Kind, .int .i64 a0.Id, str a0.Name, .int .i64 a0.Num, str a0.Text]) rfl rfl rfl rfl (fun b1 => ?_)
 refine Ja rfl rfl rfl (Jc (v := .bool false) rfl) ?_
 refine Jf ?_
 refine Je ?_
 refine Jb ?_
 refine Qa (fun w hF hS => Zt (v := vq0) Tryz.isAgg65 rfl (hw.now hF _ _ hc0) rfl) rfl rfl rfl ?_
 refine Ja rfl rfl rfl (r_makeFn (caps := #[.pointer (some ⟨b1, 0, none⟩)]) rfl) ?_
 obtain ⟨t6, h_t6, H2⟩ := Jh H; clear H
 refine Xq (fun w hF hS => k59 (Jx w) (fq0.mono (hw.now hF)) (FnH.mk ⟨60, #[], #[.pointer (some ⟨b1, 0, none⟩)], rfl, Tryz.call60, fun args2 post2 w2 hk2 hR2 => by obtain ⟨a0_, r_, rfl, H_, rfl⟩ := hR2; exact k60 (Jx w2) (hk2.up _ _ (Q8 (i := 0) hS rfl)) H_⟩) h_t6) Tryz.call59 rfl rfl rfl ?_
 refine Ja rfl rfl rfl (Jc (v := .bool t6) rfl) ?_
 refine Jf ?_
 refine Jm ?_
 obtain rfl := Option.some.inj H2
 refine Jy (v := .bool t6) rfl rfl (Xh rfl)
theorem k29 {a0 : T_sync_Replica} {pb0 : Nat} {p0_2 : Option Addr × Nat} {n0_2 : Nat} {a1 : (List T_sync_Fact)} {v1 : Value} {r : Int × T_sync_Replica} {w : World} {h : J3} {S : Nat → Prop} (hcs : (Yk (Jp pb0 [.int .i64 a0.device_, .int .i64 (a0.knows_ 0), .int .i64 (a0.knows_ 1), .int .i64 (a0.knows_ 2), .int .i64 (a0.knows_ 3), .int .i64 (a0.knows_ 4), .int .i64 (a0.knows_ 5), .int .i64 (a0.knows_ 6), .int .i64 (a0.knows_ 7), .int .i64 (a0.knows_ 8), .int .i64 (a0.knows_ 9), .int .i64 (a0.knows_ 10), .int .i64 (a0.knows_ 11), .int .i64 (a0.knows_ 12), .int .i64 (a0.knows_ 13), .int .i64 (a0.knows_ 14), .int .i64 (a0.knows_ 15), .slice p0_2.1 n0_2 p0_2.2] 67) (Q0 52 8 (.slice p0_2.1 n0_2 p0_2.2) n0_2 (a0.facts_.map Jj))).P S w) (hlt : ∀ b, S b → b < w.heap.size) (hw : Know h w S) (hn0_2 : n0_2 = a0.facts_.length) (f1 : FrS h 8 v1 (a1.map Jj)) (H : Ug a0 a1 = some r) : Does Tryz.prog 29 (List.toArray [.pointer (some ⟨pb0, 0, none⟩), v1]) w (fun v w' => ∃ x : (Option Addr × Nat), v = (.int .i64 r.1) ∧ Turn w w' S (Yk (Jp pb0 [.int .i64 r.2.device_, .int .i64 (r.2.knows_ 0), .int .i64 (r.2.knows_ 1), .int .i64 (r.2.knows_ 2), .int .i64 (r.2.knows_ 3), .int .i64 (r.2.knows_ 4), .int .i64 (r.2.knows_ 5), .int .i64 (r.2.knows_ 6), .int .i64 (r.2.knows_ 7), .int .i64 (r.2.knows_ 8), .int .i64 (r.2.knows_ 9), .int .i64 (r.2.knows_ 10), .int .i64 (r.2.knows_ 11), .int .i64 (r.2.knows_ 12), .int .i64 (r.2.knows_ 13), .int .i64 (r.2.knows_ 14), .int .i64 (r.2.knows_ 15), .slice x.1 r.2.facts_.length x.2] 67) (Q0 52 8 (.slice x.1 r.2.facts_.length x.2) r.2.facts_.length (r.2.facts_.map Jj)))) := by
 refine enter (n := 88) Tryz.func29 rfl rfl rfl S [Yk (Jp pb0 [.int .i64 a0.device_, .int .i64 (a0.knows_ 0), .int .i64 (a0.knows_ 1), .int .i64 (a0.knows_ 2), .int .i64 (a0.knows_ 3), .int .i64 (a0.knows_ 4), .int .i64 (a0.knows_ 5), .int .i64 (a0.knows_ 6), .int .i64 (a0.knows_ 7), .int .i64 (a0.knows_ 8), .int .i64 (a0.knows_ 9), .int .i64 (a0.knows_ 10), .int .i64 (a0.knows_ 11), .int .i64 (a0.knows_ 12), .int .i64 (a0.knows_ 13), .int .i64 (a0.knows_ 14), .int .i64 (a0.knows_ 15), .slice p0_2.1 n0_2 p0_2.2] 67) (Q0 52 8 (.slice p0_2.1 n0_2 p0_2.2) n0_2 (a0.facts_.map Jj))] (Sat.one hcs hlt) ?_
 refine Uw 0 rfl ?_
 refine Je ?_
 refine Jb ?_
 refine Ja rfl rfl rfl (Jc (v := .int .i64 0) rfl) ?_
 refine Jf ?_
 refine Je ?_
 exact Za (Kd.p :: Kd.p :: Kd.p :: Kd.d [0] _ :: Kd.p :: Kd.p :: Kd.p :: Kd.p :: Kd.d [0] _ :: Kd.p :: Kd.p :: Kd.p :: Kd.d [0] _ :: Kd.p :: Kd.p :: Kd.nw 2 [_, _] 50 :: Kd.st 5 2 [_, _] 50 :: []) 1 mixed (by
  refine Jt rfl rfl (Jd (v := .pointer (some ⟨pb0, 0, none⟩)) rfl) ?_
  refine Jt rfl rfl (Qk rfl) ?_
  refine Jt rfl rfl (Jq Tryz.runUnderlying67 rfl Tryz.sizeOf3 rfl rfl) ?_
  refine Zb (i := 0) (v := .int .i64 a0.device_) Tryz.isAgg3 rfl rfl rfl rfl ?_
  refine Jt rfl rfl (Jd (v := .pointer (some ⟨pb0, 0, none⟩)) rfl) ?_
  refine Jt rfl rfl (Jd (v := .pointer (some ⟨pb0, 0, none⟩)) rfl) ?_
  refine Jt rfl rfl (Qk rfl) ?_
  refine Jt rfl rfl (Jq Tryz.runUnderlying67 rfl Tryz.sizeOf3 rfl rfl) ?_
  refine Zb (i := 0) (v := .int .i64 a0.device_) Tryz.isAgg3 rfl rfl rfl rfl ?_
  refine Jt rfl rfl (Qk rfl) ?_
  refine Jt rfl rfl (Jq Tryz.runUnderlying67 rfl Tryz.sizeOf64 rfl rfl) ?_
  have h_k23 := Qx H
  have H30 := Qg H
  refine Jt rfl rfl (Jaj Tryz.runUnderlying64 Tryz.sizeOf3 rfl rfl h_k23) ?_
  refine Zb (i := 0) (v := .int .i64 (a0.knows_ (val (Xb 16 a0.device_)))) Tryz.isAgg3 rfl rfl rfl (rg_arr (pre := [.int .i64 a0.device_]) (post := [.slice p0_2.1 n0_2 p0_2.2]) (f := fun j_ => [.int .i64 (a0.knows_ j_)]) (n := 16) (sz := 1) (q := 0) rfl rfl (fun _ => rfl) (gIx_lt h_k23) rfl) ?_
  have h_t25 := Qx H30
  have H31 := Qg H30
  refine Jt rfl rfl (Q2 rfl rfl h_t25) ?_
  refine Jt rfl rfl (r_build (pl := #[(0, 1), (1, 1)]) (ps := [(0, .int .i64 a0.device_), (1, .int .i64 (val (gI ((a0.knows_ (val (Xb 16 a0.device_))) + 1))))]) (cells := #[.int .i64 a0.device_, .int .i64 (val (gI ((a0.knows_ (val (Xb 16 a0.device_))) + 1)))]) Tryz.zeroValue50 Tryz.runUnderlying50 (fun w => by kernel_rfl) rfl rfl) ?_
  refine d_new rfl rfl (run_alloc (cs := [.int .i64 0, .int .i64 0]) Tryz.zeroValue50 rfl) rfl (fun b3 => ?_)
  refine d_store (i := 2) (vs := [.int .i64 a0.device_, .int .i64 (val (gI ((a0.knows_ (val (Xb 16 a0.device_))) + 1)))]) (cs' := [.int .i64 a0.device_, .int .i64 (val (gI ((a0.knows_ (val (Xb 16 a0.device_))) + 1)))]) Tryz.sizeOf50 rfl rfl rfl rfl rfl rfl rfl rfl rfl ?_
  refine Ui ?_
  refine Je ?_
  refine Jb ?_
  refine Ja rfl rfl rfl (Jc (v := .int .i64 1) rfl) ?_
  refine Jf ?_
  refine Xi (r := r) (σ := Int) (τ := Unit) (fun s => Z3 a0 a1 (val (gI ((a0.knows_ (val (Xb 16 a0.device_))) + 1))) s) (fun s t => [(0, .pointer (some ⟨pb0, 0, none⟩)), (1, v1), (5, .pointer (some ⟨b3, 0, none⟩)), (6, .int .i64 s)]) (fun s t => [Jp pb0 [.int .i64 a0.device_, .int .i64 (a0.knows_ 0), .int .i64 (a0.knows_ 1), .int .i64 (a0.knows_ 2), .int .i64 (a0.knows_ 3), .int .i64 (a0.knows_ 4), .int .i64 (a0.knows_ 5), .int .i64 (a0.knows_ 6), .int .i64 (a0.knows_ 7), .int .i64 (a0.knows_ 8), .int .i64 (a0.knows_ 9), .int .i64 (a0.knows_ 10), .int .i64 (a0.knows_ 11), .int .i64 (a0.knows_ 12), .int .i64 (a0.knows_ 13), .int .i64 (a0.knows_ 14), .int .i64 (a0.knows_ 15), .slice p0_2.1 n0_2 p0_2.2] 67, Q0 52 8 (.slice p0_2.1 n0_2 p0_2.2) n0_2 (a0.facts_.map Jj), Jp b3 [.int .i64 a0.device_, .int .i64 (val (gI ((a0.knows_ (val (Xb 16 a0.device_))) + 1)))] 50]) (fun s t => True) ?_ ?_
  ·refine Je ?_
   refine Jb ?_
   refine Ja rfl rfl rfl (Jd (v := .pointer (some ⟨pb0, 0, none⟩)) rfl) ?_
   refine Ja rfl rfl rfl (Qk rfl) ?_
   refine Ja rfl rfl rfl (Jq Tryz.runUnderlying67 rfl Tryz.sizeOf65 rfl rfl) ?_
   refine J0 (i := 0) (v := .slice p0_2.1 n0_2 p0_2.2) Tryz.isAgg65 rfl rfl rfl rfl rfl ?_
   refine Ja rfl rfl rfl (r_lenN Tryz.underlying65 rfl hn0_2) ?_
   refine Ja rfl rfl rfl (Jd (v := .int .i64 0) rfl) ?_
   refine Jf ?_
   refine Ju ?_
   refine Yv (σ := Int × Int) (τ := Unit) (fun next4 s => Xz a0 a1 (val (gI ((a0.knows_ (val (Xb 16 a0.device_))) + 1))) next4 s.1 s.2) (fun s t => [(0, .pointer (some ⟨pb0, 0, none⟩)), (1, v1), (5, .pointer (some ⟨b3, 0, none⟩)), (6, .int .i64 s.1), (30, .slice p0_2.1 n0_2 p0_2.2), (31, .int .i64 (a0.facts_.length : Int)), (32, .int .i64 s.2)]) (fun s t => [Jp pb0 [.int .i64 a0.device_, .int .i64 (a0.knows_ 0), .int .i64 (a0.knows_ 1), .int .i64 (a0.knows_ 2), .int .i64 (a0.knows_ 3), .int .i64 (a0.knows_ 4), .int .i64 (a0.knows_ 5), .int .i64 (a0.knows_ 6), .int .i64 (a0.knows_ 7), .int .i64 (a0.knows_ 8), .int .i64 (a0.knows_ 9), .int .i64 (a0.knows_ 10), .int .i64 (a0.knows_ 11), .int .i64 (a0.knows_ 12), .int .i64 (a0.knows_ 13), .int .i64 (a0.knows_ 14), .int .i64 (a0.knows_ 15), .slice p0_2.1 n0_2 p0_2.2] 67, Q0 52 8 (.slice p0_2.1 n0_2 p0_2.2) n0_2 (a0.facts_.map Jj), Jp b3 [.int .i64 a0.device_, .int .i64 (val (gI ((a0.knows_ (val (Xb 16 a0.device_))) + 1)))] 50]) (fun s t => True) (1, 0) () [0, 1, 2] H31 (by exact trivial) (by exact ⟨rfl, rfl, rfl, rfl, rfl, rfl, rfl, trivial⟩) (by decide) rfl ?_
   rintro ⟨x6_3, x32_2⟩ _ m4 gg H53 _
   clear H31
   replace H53 : Xz a0 a1 (val (gI ((a0.knows_ (val (Xb 16 a0.device_))) + 1))) (it (fun next4 s => Xz a0 a1 (val (gI ((a0.knows_ (val (Xb 16 a0.device_))) + 1))) next4 s.1 s.2) m4) x6_3 x32_2 = some r := H53
   generalize hn4 : it (fun next4 s => Xz a0 a1 (val (gI ((a0.knows_ (val (Xb 16 a0.device_))) + 1))) next4 s.1 s.2) m4 = next4 at H53
   try dsimp only
   refine Je ?_
   refine Jb ?_
   refine Ja rfl rfl rfl (Q1 rfl rfl) ?_
   refine Jf ?_
   refine Je ?_
   refine J5 (b := (decide (x32_2 < (a0.facts_.length : Int)))) rfl (fun hb => ?_) (fun hb => ?_)
   ·have H54 := Jn hb H53; clear H53
    refine Jr ?_
    refine Je ?_
    refine Ju ?_
    refine Je ?_
    refine Jb ?_
    obtain ⟨t34, h_t34, H55⟩ := Jh H54; clear H54
    refine Qa (fun w hF hS => Vr Tryz.underlying65 Tryz.sizeOf52 rfl rfl (offOf (i := 1) hS rfl) hn0_2 h_t34) rfl rfl rfl ?_
    refine Qa (fun w hF hS => Xw (f := Jj) (i := x32_2) (sz := 8) (j := 0) (vs := [.int .i64 t34.Dot.Device, .int .i64 t34.Dot.N, .int .i64 t34.Time, .int .i64 t34.Kind, .int .i64 t34.Id, str t34.Name, .int .i64 t34.Num, str t34.Text]) Tryz.isAgg52 Tryz.sizeOf52 rfl rfl (offOf (i := 1) hS rfl) h_t34 rfl) rfl rfl rfl ?_
    refine Zo (cs := [.int .i64 0, .int .i64 0, .int .i64 0, .int .i64 0, .int .i64 0, str [], .int .i64 0, str []]) Tryz.zeroValue52 rfl rfl rfl (fun b5 => ?_)
    refine X3 (i := 3) (vs := [.int .i64 t34.Dot.Device, .int .i64 t34.Dot.N, .int .i64 t34.Time, .int .i64 t34.Kind, .int .i64 t34.Id, str t34.Name, .int .i64 t34.Num, str t34.Text]) (cs' := [.int .i64 t34.Dot.Device, .int .i64 t34.Dot.N, .int .i64 t34.Time, .int .i64 t34.Kind, .int .i64 t34.Id, str t34.Name, .int .i64 t34.Num, str t34.Text]) Tryz.sizeOf52 rfl rfl rfl rfl rfl rfl rfl rfl rfl ?_
    refine Jf ?_
    try dsimp only [z1, z2, z5, z6, z7, z8]
    refine Jb ?_
    refine Ja rfl rfl rfl (Jd (v := .int .i64 x6_3) rfl) ?_
    refine Ja rfl rfl rfl (Jq Tryz.runUnderlying52 rfl Tryz.sizeOf3 rfl rfl) ?_
    refine J0 (i := 3) (v := .int .i64 t34.Time) Tryz.isAgg3 rfl rfl rfl rfl rfl ?_
    obtain ⟨t39, h_t39, H56⟩ := Jh H55; clear H55
    refine Ja rfl rfl rfl (Q2 rfl rfl h_t39) ?_
    refine Ja rfl rfl rfl (r_max rfl rfl) ?_
    refine Ja rfl rfl rfl (Jc (v := .int .i64 (max x6_3 t39)) rfl) ?_
    refine Jf ?_
    refine Jb ?_
    obtain ⟨t41, h_t41, H57⟩ := Jh H56; clear H56
    refine Ja rfl rfl rfl (Q2 rfl rfl h_t41) ?_
    refine Ja rfl rfl rfl (Jd (v := .int .i64 t41) rfl) ?_
    refine Jf ?_
    refine Jl ((max x6_3 t39), t41) () m4 [0, 1, 2] (by exact ⟨rfl, rfl, rfl, rfl, rfl, rfl, rfl, trivial⟩) (by decide) rfl (by exact ⟨(by subst hn4; exact H57), trivial⟩) (Nat.lt_succ_self _)
   ·have H58 := Jo hb H53; clear H53
    refine Qr ?_
    refine Jl x6_3 () 0 [0, 1, 2] (by exact ⟨rfl, rfl, rfl, rfl, trivial⟩) (by decide) rfl (by exact ⟨H58, trivial⟩) (Nat.lt_succ_self _)
  ·rintro x6 _ gg H32 _
   replace H32 : Z3 a0 a1 (val (gI ((a0.knows_ (val (Xb 16 a0.device_))) + 1))) x6 = some r := H32
   try dsimp only
   refine Je ?_
   refine Jb ?_
   refine Ja rfl rfl rfl (Jd (v := v1) rfl) ?_
   obtain ⟨t43, h_t43, H33⟩ := Jh H32; clear H32
   refine Zf (Q3 (rds := []) (G := fun x : (Option Addr × Nat) => .slice x.1 t43.length x.2) (C := fun x : (Option Addr × Nat) => Qq 52 8 (.slice x.1 t43.length x.2) t43.length (t43.map Jj)) (fun w L' hF hS hi => k57 (Jx w) (f1.mono (hw.now hF)) h_t43) Tryz.call57 rfl) rfl rfl rfl (fun p => ?_)
   refine Zo (cs := [.slice none 0 0]) Tryz.zeroValue65 rfl rfl rfl (fun b4 => ?_)
   refine X3 (i := 4) (vs := [.slice p.1 t43.length p.2]) (cs' := [.slice p.1 t43.length p.2]) Tryz.sizeOf65 rfl rfl rfl rfl rfl rfl rfl rfl rfl ?_
   refine Jf ?_
   refine Xi (r := r) (σ := (List T_sync_Fact)) (τ := Unit) (fun s => Z9 a0 (val (gI ((a0.knows_ (val (Xb 16 a0.device_))) + 1))) x6 s) (fun s t => [(0, .pointer (some ⟨pb0, 0, none⟩)), (5, .pointer (some ⟨b3, 0, none⟩)), (6, .int .i64 x6), (9, .pointer (some ⟨b4, 0, none⟩))]) (fun s t => [Jp pb0 [.int .i64 a0.device_, .int .i64 (a0.knows_ 0), .int .i64 (a0.knows_ 1), .int .i64 (a0.knows_ 2), .int .i64 (a0.knows_ 3), .int .i64 (a0.knows_ 4), .int .i64 (a0.knows_ 5), .int .i64 (a0.knows_ 6), .int .i64 (a0.knows_ 7), .int .i64 (a0.knows_ 8), .int .i64 (a0.knows_ 9), .int .i64 (a0.knows_ 10), .int .i64 (a0.knows_ 11), .int .i64 (a0.knows_ 12), .int .i64 (a0.knows_ 13), .int .i64 (a0.knows_ 14), .int .i64 (a0.knows_ 15), .slice p0_2.1 n0_2 p0_2.2] 67, Q0 52 8 (.slice p0_2.1 n0_2 p0_2.2) n0_2 (a0.facts_.map Jj), Jp b3 [.int .i64 a0.device_, .int .i64 (val (gI ((a0.knows_ (val (Xb 16 a0.device_))) + 1)))] 50, Qq 52 8 (.slice p.1 t43.length p.2) t43.length (s.map Jj), Jp b4 [.slice p.1 t43.length p.2] 65]) (fun s t => t43.length = s.length) ?_ ?_
   ·refine Je ?_
    refine Jb ?_
    refine J0 (i := 4) (v := .slice p.1 t43.length p.2) Tryz.isAgg65 rfl rfl rfl rfl rfl ?_
    refine Ja rfl rfl rfl (Uj Tryz.underlying65 rfl) ?_
    refine Ja rfl rfl rfl (Jd (v := .int .i64 0) rfl) ?_
    refine Jf ?_
    refine Ju ?_
    refine Yv (σ := Int × (List T_sync_Fact)) (τ := Unit) (fun next3 s => Yp a0 (val (gI ((a0.knows_ (val (Xb 16 a0.device_))) + 1))) x6 t43 next3 s.1 s.2) (fun s t => [(0, .pointer (some ⟨pb0, 0, none⟩)), (5, .pointer (some ⟨b3, 0, none⟩)), (6, .int .i64 x6), (9, .pointer (some ⟨b4, 0, none⟩)), (45, .int .i64 (t43.length : Int)), (46, .int .i64 s.1)]) (fun s t => [Jp pb0 [.int .i64 a0.device_, .int .i64 (a0.knows_ 0), .int .i64 (a0.knows_ 1), .int .i64 (a0.knows_ 2), .int .i64 (a0.knows_ 3), .int .i64 (a0.knows_ 4), .int .i64 (a0.knows_ 5), .int .i64 (a0.knows_ 6), .int .i64 (a0.knows_ 7), .int .i64 (a0.knows_ 8), .int .i64 (a0.knows_ 9), .int .i64 (a0.knows_ 10), .int .i64 (a0.knows_ 11), .int .i64 (a0.knows_ 12), .int .i64 (a0.knows_ 13), .int .i64 (a0.knows_ 14), .int .i64 (a0.knows_ 15), .slice p0_2.1 n0_2 p0_2.2] 67, Q0 52 8 (.slice p0_2.1 n0_2 p0_2.2) n0_2 (a0.facts_.map Jj), Jp b3 [.int .i64 a0.device_, .int .i64 (val (gI ((a0.knows_ (val (Xb 16 a0.device_))) + 1)))] 50, Qq 52 8 (.slice p.1 t43.length p.2) t43.length (s.2.map Jj), Jp b4 [.slice p.1 t43.length p.2] 65]) (fun s t => t43.length = s.2.length) (0, t43) () [0, 1, 2, 3, 4] H33 (by exact rfl) (by exact ⟨rfl, rfl, rfl, rfl, rfl, rfl, trivial⟩) (by decide) rfl ?_
    rintro ⟨x46_2, l_3⟩ _ m3 gg H45 hl_3
    clear H33
    replace H45 : Yp a0 (val (gI ((a0.knows_ (val (Xb 16 a0.device_))) + 1))) x6 t43 (it (fun next3 s => Yp a0 (val (gI ((a0.knows_ (val (Xb 16 a0.device_))) + 1))) x6 t43 next3 s.1 s.2) m3) x46_2 l_3 = some r := H45
    generalize hn3 : it (fun next3 s => Yp a0 (val (gI ((a0.knows_ (val (Xb 16 a0.device_))) + 1))) x6 t43 next3 s.1 s.2) m3 = next3 at H45
    try dsimp only
    refine Je ?_
    refine Jb ?_
    refine Ja rfl rfl rfl (Q1 rfl rfl) ?_
    refine Jf ?_
    refine Je ?_
    refine J5 (b := (decide (x46_2 < (t43.length : Int)))) rfl (fun hb => ?_) (fun hb => ?_)
    ·have H46 := Jn hb H45; clear H45
     refine Jr ?_
     refine Je ?_
     refine Ju ?_
     refine Je ?_
     refine Jb ?_
     refine Ja rfl rfl rfl (Jd (v := .int .i64 x46_2) rfl) ?_
     refine Ja rfl rfl rfl (Jc (v := .int .i64 x46_2) rfl) ?_
     refine Jf ?_
     exact Za (Kd.d [4] _ :: Kd.p :: Kd.d [4] _ :: Kd.p :: Kd.d [2] _ :: Kd.p :: Kd.d [3] _ :: Kd.d [3] _ :: Kd.sr 3 _ :: Kd.d [3] _ :: Kd.d [3] _ :: Kd.sr 3 _ :: []) 0 mixed (by
      refine Zb (i := 4) (v := .slice p.1 t43.length p.2) Tryz.isAgg65 rfl rfl rfl rfl ?_
      refine Jt rfl rfl (Jd (v := .int .i64 x46_2) rfl) ?_
      refine Zb (i := 4) (v := .slice p.1 t43.length p.2) Tryz.isAgg65 rfl rfl rfl rfl ?_
      refine Jt rfl rfl (Jd (v := .int .i64 x46_2) rfl) ?_
      refine d_loadN (i := 2) (vs := [.int .i64 a0.device_, .int .i64 (val (gI ((a0.knows_ (val (Xb 16 a0.device_))) + 1)))]) Tryz.isAgg50 Tryz.sizeOf50 rfl rfl rfl rfl ?_
      refine Jt rfl rfl (Jd (v := .int .i64 x6) rfl) ?_
      have h_t55 := Qx H46
      have H47 := Qg H46
      refine d_readD (fun w L' hF hS hi => Vr Tryz.underlying65 Tryz.sizeOf52 rfl rfl (rowOf (i := 3) (E := 52) (sz := 8) (n := t43.length) (a := p.1) (c := p.2) hS ((hi 3 (by simp)).trans rfl)) hl_3 h_t55) rfl rfl ?_
      refine d_readE rfl rfl (fun w L' hF hS hi => run_fieldG Tryz.runUnderlying52 rfl Tryz.sizeOf50 rfl rfl (rowOf (i := 3) (E := 52) (sz := 8) (n := t43.length) (a := p.1) (c := p.2) hS ((hi 3 (by simp)).trans rfl)) h_t55) ?_
      have h_l3 := Qx H47
      have H48 := Qg H47
      refine d_storeG (q := 3) (j := 0) (i := x46_2) (sz := 8) (hm := hl_3) (f := Jj) (vs := [.int .i64 a0.device_, .int .i64 (val (gI ((a0.knows_ (val (Xb 16 a0.device_))) + 1)))]) Tryz.sizeOf50 rfl rfl rfl rfl rfl rfl rfl rfl rfl (fun y_ hy_ => by first | rfl | (cases hy_.symm.trans h_t55; rfl)) h_l3 ?_
      have h_t57 := Qx H48
      have H49 := Qg H48
      refine d_readD (fun w L' hF hS hi => Vr Tryz.underlying65 Tryz.sizeOf52 rfl rfl (rowOf (i := 3) (E := 52) (sz := 8) (n := t43.length) (a := p.1) (c := p.2) hS ((hi 3 (by simp)).trans rfl)) (gSet_n hl_3 h_l3) h_t57) rfl rfl ?_
      refine d_readE rfl rfl (fun w L' hF hS hi => run_fieldG Tryz.runUnderlying52 rfl Tryz.sizeOf3 rfl rfl (rowOf (i := 3) (E := 52) (sz := 8) (n := t43.length) (a := p.1) (c := p.2) hS ((hi 3 (by simp)).trans rfl)) h_t57) ?_
      have h_l3_2 := Qx H49
      have H50 := Qg H49
      refine d_storeG (q := 3) (j := 2) (i := x46_2) (sz := 8) (hm := (gSet_n hl_3 h_l3)) (f := Jj) (vs := [.int .i64 x6]) Tryz.sizeOf3 rfl rfl rfl rfl rfl rfl rfl rfl rfl (fun y_ hy_ => by first | rfl | (cases hy_.symm.trans h_t57; rfl)) h_l3_2 ?_
      refine Ui ?_
      refine Jb ?_
      obtain ⟨t59, h_t59, H51⟩ := Jh H50; clear H50
      refine Ja rfl rfl rfl (Q2 rfl rfl h_t59) ?_
      refine Ja rfl rfl rfl (Jd (v := .int .i64 t59) rfl) ?_
      refine Jf ?_
      refine Jl (t59, (val (gSet (val (gSet l_3 x46_2 (⟨(⟨a0.device_, (val (gI ((a0.knows_ (val (Xb 16 a0.device_))) + 1)))⟩ : T_sync_Dot), (val (Qn l_3 x46_2)).Time, (val (Qn l_3 x46_2)).Kind, (val (Qn l_3 x46_2)).Id, (val (Qn l_3 x46_2)).Name, (val (Qn l_3 x46_2)).Num, (val (Qn l_3 x46_2)).Text⟩ : T_sync_Fact))) x46_2 (⟨(val (Qn (val (gSet l_3 x46_2 (⟨(⟨a0.device_, (val (gI ((a0.knows_ (val (Xb 16 a0.device_))) + 1)))⟩ : T_sync_Dot), (val (Qn l_3 x46_2)).Time, (val (Qn l_3 x46_2)).Kind, (val (Qn l_3 x46_2)).Id, (val (Qn l_3 x46_2)).Name, (val (Qn l_3 x46_2)).Num, (val (Qn l_3 x46_2)).Text⟩ : T_sync_Fact))) x46_2)).Dot, x6, (val (Qn (val (gSet l_3 x46_2 (⟨(⟨a0.device_, (val (gI ((a0.knows_ (val (Xb 16 a0.device_))) + 1)))⟩ : T_sync_Dot), (val (Qn l_3 x46_2)).Time, (val (Qn l_3 x46_2)).Kind, (val (Qn l_3 x46_2)).Id, (val (Qn l_3 x46_2)).Name, (val (Qn l_3 x46_2)).Num, (val (Qn l_3 x46_2)).Text⟩ : T_sync_Fact))) x46_2)).Kind, (val (Qn (val (gSet l_3 x46_2 (⟨(⟨a0.device_, (val (gI ((a0.knows_ (val (Xb 16 a0.device_))) + 1)))⟩ : T_sync_Dot), (val (Qn l_3 x46_2)).Time, (val (Qn l_3 x46_2)).Kind, (val (Qn l_3 x46_2)).Id, (val (Qn l_3 x46_2)).Name, (val (Qn l_3 x46_2)).Num, (val (Qn l_3 x46_2)).Text⟩ : T_sync_Fact))) x46_2)).Id, (val (Qn (val (gSet l_3 x46_2 (⟨(⟨a0.device_, (val (gI ((a0.knows_ (val (Xb 16 a0.device_))) + 1)))⟩ : T_sync_Dot), (val (Qn l_3 x46_2)).Time, (val (Qn l_3 x46_2)).Kind, (val (Qn l_3 x46_2)).Id, (val (Qn l_3 x46_2)).Name, (val (Qn l_3 x46_2)).Num, (val (Qn l_3 x46_2)).Text⟩ : T_sync_Fact))) x46_2)).Name, (val (Qn (val (gSet l_3 x46_2 (⟨(⟨a0.device_, (val (gI ((a0.knows_ (val (Xb 16 a0.device_))) + 1)))⟩ : T_sync_Dot), (val (Qn l_3 x46_2)).Time, (val (Qn l_3 x46_2)).Kind, (val (Qn l_3 x46_2)).Id, (val (Qn l_3 x46_2)).Name, (val (Qn l_3 x46_2)).Num, (val (Qn l_3 x46_2)).Text⟩ : T_sync_Fact))) x46_2)).Num, (val (Qn (val (gSet l_3 x46_2 (⟨(⟨a0.device_, (val (gI ((a0.knows_ (val (Xb 16 a0.device_))) + 1)))⟩ : T_sync_Dot), (val (Qn l_3 x46_2)).Time, (val (Qn l_3 x46_2)).Kind, (val (Qn l_3 x46_2)).Id, (val (Qn l_3 x46_2)).Name, (val (Qn l_3 x46_2)).Num, (val (Qn l_3 x46_2)).Text⟩ : T_sync_Fact))) x46_2)).Text⟩ : T_sync_Fact)))) () m3 [0, 1, 2, 3, 4] (by exact ⟨rfl, rfl, rfl, rfl, rfl, rfl, trivial⟩) (by decide) rfl (by exact ⟨(by subst hn3; exact H51), (gSet_n (gSet_n hl_3 h_l3) h_l3_2)⟩) (Nat.lt_succ_self _)
      ) (by kernel_rfl)
    ·have H52 := Jo hb H45; clear H45
     refine Qr ?_
     refine Jl l_3 () 0 [0, 1, 2, 3, 4] (by exact ⟨rfl, rfl, rfl, rfl, trivial⟩) (by decide) rfl (by exact ⟨H52, hl_3⟩) (Nat.lt_succ_self _)
   ·rintro l _ gg H34 hl
    replace H34 : Z9 a0 (val (gI ((a0.knows_ (val (Xb 16 a0.device_))) + 1))) x6 l = some r := H34
    try dsimp only
    refine Je ?_
    refine Jb ?_
    refine Ja rfl rfl rfl (r_makeFn (caps := #[.pointer (some ⟨b4, 0, none⟩)]) rfl) ?_
    refine Ja rfl rfl rfl (Jc (v := .func (.func 58) #[] #[.pointer (some ⟨b4, 0, none⟩)]) rfl) ?_
    refine Jf ?_
    refine Je ?_
    refine Je ?_
    exact Za (Kd.p :: Kd.p :: Kd.p :: Kd.d [0] _ :: Kd.p :: Kd.p :: Kd.p :: Kd.t 5 [3, 4, 0, 1] _ _ :: Kd.p :: Kd.p :: Kd.d [4] _ :: Kd.p :: Kd.p :: Kd.p :: Kd.p :: Kd.p :: Kd.d [2] _ :: Kd.p :: Kd.p :: Kd.p :: Kd.p :: Kd.p :: Kd.p :: []) 1 mixed (by
     refine Jt rfl rfl (Jd (v := .pointer (some ⟨pb0, 0, none⟩)) rfl) ?_
     refine Jt rfl rfl (Qk rfl) ?_
     refine Jt rfl rfl (Jq Tryz.runUnderlying67 rfl Tryz.sizeOf65 rfl rfl) ?_
     refine Zb (i := 0) (v := .slice p0_2.1 n0_2 p0_2.2) Tryz.isAgg65 rfl rfl rfl rfl ?_
     refine Jt rfl rfl (r_lenN Tryz.underlying65 rfl hn0_2) ?_
     refine Jt rfl rfl (Jd (v := .pointer (some ⟨pb0, 0, none⟩)) rfl) ?_
     refine Jt rfl rfl (Jd (v := .func (.func 58) #[] #[.pointer (some ⟨b4, 0, none⟩)]) rfl) ?_
     have h_t68 := Qx H34
     have H35 := Qg H34
     refine d_make (Cv := fun v => Qq 52 8 v (val (Qp a0 (Qh l))).length ((val (Qp a0 (Qh l))).map Jj)) (none, 0) (Q3 (G := fun x : (Option Addr × Nat) => .slice x.1 (val (Qp a0 (Qh l))).length x.2) (C := fun x : (Option Addr × Nat) => Qq 52 8 (.slice x.1 (val (Qp a0 (Qh l))).length x.2) (val (Qp a0 (Qh l))).length ((val (Qp a0 (Qh l))).map Jj)) (fun w L' hF hS hi => k62 (Jx w) (frs_off (i := 1) hn0_2 hS ((hi 1 (by simp)).trans rfl)) (Q8 (i := 0) hS ((hi 0 (by simp)).trans rfl)) (FnH.mk ⟨58, #[], #[.pointer (some ⟨b4, 0, none⟩)], rfl, Tryz.call58, fun args2 post2 w2 hk2 hR2 => by obtain ⟨a0_, r_, rfl, H_, rfl⟩ := hR2; exact k58 (Jx w2) ((frs_own (i := 3) hl hS ((hi 3 (by simp)).trans rfl)).mono hk2.up) (hk2.up _ _ (Q8 (i := 4) hS ((hi 4 (by simp)).trans rfl))) H_⟩) h_t68) Tryz.call62 rfl) (fun _ => rfl) rfl rfl rfl (fun p_2 => ?_)
     refine Jt rfl rfl (Uj Tryz.underlying65 rfl) ?_
     have h_t70 := Qx H35
     have H36 := Qg H35
     refine Jt rfl rfl (U6 rfl rfl h_t70) ?_
     refine Zb (i := 4) (v := .slice p.1 t43.length p.2) Tryz.isAgg65 rfl rfl rfl rfl ?_
     refine Jt rfl rfl (r_lenN Tryz.underlying65 rfl hl) ?_
     have h_t73 := Qx H36
     have H37 := Qg H36
     refine Jt rfl rfl (Q2 rfl rfl h_t73) ?_
     refine Jt rfl rfl (Wz rfl rfl) ?_
     refine Jt rfl rfl (Jd (v := .bool (decide (5000 < (val (gI ((val (gI ((a0.facts_.length : Int) - ((val (Qp a0 (Qh l))).length : Int)))) + (l.length : Int))))))) rfl) ?_
     refine splitS (fun hb => ?_) (fun hb => ?_)
     ·have H38 := Jn hb H37
      refine Q4 rfl rfl ?_
      refine Q4 rfl rfl ?_
      refine Q4 rfl rfl ?_
      refine Jt rfl rfl (Jz (v := .bool true) rfl rfl) ?_
      refine Jt rfl rfl (Jd (v := .bool true) rfl) ?_
      refine Q4 rfl rfl ?_
      refine Q4 rfl rfl ?_
      refine Jt rfl rfl (Jz (v := .bool true) rfl rfl) ?_
      refine Ui ?_
      refine Ur rfl ?_
      refine Je ?_
      refine Jb ?_
      refine Ja rfl rfl rfl (Jc (v := .int .i64 4) rfl) ?_
      refine Jf ?_
      refine Jm ?_
      obtain rfl := Option.some.inj H38
      refine Z6 0 1 rfl rfl (by decide) ?_
      refine Jy (v := .int .i64 4) rfl rfl (W6 p0_2 (i := 0) rfl (by first | rfl | rw [(show n0_2 = a0.facts_.length from hn0_2)]) (by first | exact Imp.refl _ | exact Imp.of (by rw [(show n0_2 = a0.facts_.length from hn0_2)])))
     ·have H39 := Jo hb H37
      refine Jt rfl rfl (Jq Tryz.runUnderlying50 rfl Tryz.sizeOf3 rfl rfl) ?_
      refine Zb (i := 2) (v := .int .i64 (val (gI ((a0.knows_ (val (Xb 16 a0.device_))) + 1)))) Tryz.isAgg3 rfl rfl rfl rfl ?_
      refine Jt rfl rfl (Wz rfl rfl) ?_
      refine Jt rfl rfl (Jw (v := .bool (decide (1000000 < (val (gI ((a0.knows_ (val (Xb 16 a0.device_))) + 1)))))) rfl rfl) ?_
      refine Jt rfl rfl (Jd (v := .bool (decide (1000000 < (val (gI ((a0.knows_ (val (Xb 16 a0.device_))) + 1)))))) rfl) ?_
      refine splitS (fun hb => ?_) (fun hb => ?_)
      ·have H40 := Jn hb H39
       refine Q4 rfl rfl ?_
       refine Q4 rfl rfl ?_
       refine Jt rfl rfl (Jz (v := .bool true) rfl rfl) ?_
       refine Ui ?_
       refine Ur rfl ?_
       refine Je ?_
       refine Jb ?_
       refine Ja rfl rfl rfl (Jc (v := .int .i64 4) rfl) ?_
       refine Jf ?_
       refine Jm ?_
       obtain rfl := Option.some.inj H40
       refine Z6 0 1 rfl rfl (by decide) ?_
       refine Jy (v := .int .i64 4) rfl rfl (W6 p0_2 (i := 0) rfl (by first | rfl | rw [(show n0_2 = a0.facts_.length from hn0_2)]) (by first | exact Imp.refl _ | exact Imp.of (by rw [(show n0_2 = a0.facts_.length from hn0_2)])))
      ·have H41 := Jo hb H39
       refine Jt rfl rfl (Jd (v := .int .i64 x6) rfl) ?_
       refine Jt rfl rfl (Wz rfl rfl) ?_
       refine Jt rfl rfl (Jw (v := .bool (decide (1000000 < x6))) rfl rfl) ?_
       refine Ui ?_
       refine J5 (b := (decide (1000000 < x6))) rfl (fun hb => ?_) (fun hb => ?_)
       ·have H42 := Jn hb H41; clear H41
        refine Je ?_
        try dsimp only [z1, z2, z5, z6, z7, z8]
        refine Jb ?_
        refine Ja rfl rfl rfl (Jc (v := .int .i64 4) rfl) ?_
        refine Jf ?_
        refine Jm ?_
        obtain rfl := Option.some.inj H42
        refine Z6 0 1 rfl rfl (by decide) ?_
        refine Jy (v := .int .i64 4) rfl rfl (W6 p0_2 (i := 0) rfl (by first | rfl | rw [(show n0_2 = a0.facts_.length from hn0_2)]) (by first | exact Imp.refl _ | exact Imp.of (by rw [(show n0_2 = a0.facts_.length from hn0_2)])))
       ·have H43 := Jo hb H41; clear H41
        refine Jr ?_
        refine Je ?_
        refine Jb ?_
        refine Ja rfl rfl rfl (Jd (v := .pointer (some ⟨pb0, 0, none⟩)) rfl) ?_
        refine Ja rfl rfl rfl (Jd (v := .func (.func 58) #[] #[.pointer (some ⟨b4, 0, none⟩)]) rfl) ?_
        refine J0 (i := 4) (v := .slice p.1 t43.length p.2) Tryz.isAgg65 rfl rfl rfl rfl rfl ?_
        obtain ⟨t87, h_t87, H44⟩ := Jh H43; clear H43
        refine Z6 0 1 rfl rfl (by decide) ?_
        refine Yl (Q7 (i := 0) (rds := [3, 4]) (G := fun x : (Option Addr × Nat) => .tuple #[]) (C := fun x : (Option Addr × Nat) => Yk (Jp pb0 [.int .i64 t87.device_, .int .i64 (t87.knows_ 0), .int .i64 (t87.knows_ 1), .int .i64 (t87.knows_ 2), .int .i64 (t87.knows_ 3), .int .i64 (t87.knows_ 4), .int .i64 (t87.knows_ 5), .int .i64 (t87.knows_ 6), .int .i64 (t87.knows_ 7), .int .i64 (t87.knows_ 8), .int .i64 (t87.knows_ 9), .int .i64 (t87.knows_ 10), .int .i64 (t87.knows_ 11), .int .i64 (t87.knows_ 12), .int .i64 (t87.knows_ 13), .int .i64 (t87.knows_ 14), .int .i64 (t87.knows_ 15), .slice x.1 t87.facts_.length x.2] 67) (Q0 52 8 (.slice x.1 t87.facts_.length x.2) t87.facts_.length (t87.facts_.map Jj))) rfl (fun w L' S hF hS hi hp hlt ho hA => k26 hp hlt (Y0 w S) hn0_2 (FnH.mk ⟨58, #[], #[.pointer (some ⟨b4, 0, none⟩)], rfl, Tryz.call58, fun args2 post2 w2 hk2 hR2 => by obtain ⟨a0_, r_, rfl, H_, rfl⟩ := hR2; exact k58 (Jx w2) ((frb_own (j := 3) hl hA hS (by decide) ((hi 3 (by simp)).trans rfl)).mono hk2.up) (hk2.up _ _ (cell_but (j := 4) hA hS (by decide) ((hi 4 (by simp)).trans rfl))) H_⟩) (frb_own (j := 3) hl hA hS (by decide) ((hi 3 (by simp)).trans rfl)) h_t87) Tryz.call26 rfl) rfl rfl rfl (fun p_3 => ?_)
        refine Ub 0 1 rfl rfl (by decide) ?_
        refine Jf ?_
        refine Je ?_
        refine Jb ?_
        refine Ja rfl rfl rfl (Jc (v := .int .i64 0) rfl) ?_
        refine Jf ?_
        refine Jm ?_
        obtain rfl := Option.some.inj H44
        refine Z6 0 1 rfl rfl (by decide) ?_
        refine Jy (v := .int .i64 0) rfl rfl (W6 p_3 (i := 0) rfl rfl (Imp.refl _))
     ) (by kernel_rfl)
  ) (by kernel_rfl)
theorem k8 {a0 : T_sync_Replica} {pb0 : Nat} {p0_2 : Option Addr × Nat} {n0_2 : Nat} {a1 : Int} {a2 : (List UInt8)} {r : Int × T_sync_Replica} {w : World} {h : J3} {S : Nat → Prop} (hcs : (Yk (Jp pb0 [.int .i64 a0.device_, .int .i64 (a0.knows_ 0), .int .i64 (a0.knows_ 1), .int .i64 (a0.knows_ 2), .int .i64 (a0.knows_ 3), .int .i64 (a0.knows_ 4), .int .i64 (a0.knows_ 5), .int .i64 (a0.knows_ 6), .int .i64 (a0.knows_ 7), .int .i64 (a0.knows_ 8), .int .i64 (a0.knows_ 9), .int .i64 (a0.knows_ 10), .int .i64 (a0.knows_ 11), .int .i64 (a0.knows_ 12), .int .i64 (a0.knows_ 13), .int .i64 (a0.knows_ 14), .int .i64 (a0.knows_ 15), .slice p0_2.1 n0_2 p0_2.2] 67) (Q0 52 8 (.slice p0_2.1 n0_2 p0_2.2) n0_2 (a0.facts_.map Jj))).P S w) (hlt : ∀ b, S b → b < w.heap.size) (hw : Know h w S) (hn0_2 : n0_2 = a0.facts_.length) (H : Vn a0 a1 a2 = some r) : Does Tryz.prog 8 (List.toArray [.pointer (some ⟨pb0, 0, none⟩), .int .i64 a1, str a2]) w (fun v w' => ∃ x : (Option Addr × Nat), v = (.int .i64 r.1) ∧ Turn w w' S (Yk (Jp pb0 [.int .i64 r.2.device_, .int .i64 (r.2.knows_ 0), .int .i64 (r.2.knows_ 1), .int .i64 (r.2.knows_ 2), .int .i64 (r.2.knows_ 3), .int .i64 (r.2.knows_ 4), .int .i64 (r.2.knows_ 5), .int .i64 (r.2.knows_ 6), .int .i64 (r.2.knows_ 7), .int .i64 (r.2.knows_ 8), .int .i64 (r.2.knows_ 9), .int .i64 (r.2.knows_ 10), .int .i64 (r.2.knows_ 11), .int .i64 (r.2.knows_ 12), .int .i64 (r.2.knows_ 13), .int .i64 (r.2.knows_ 14), .int .i64 (r.2.knows_ 15), .slice x.1 r.2.facts_.length x.2] 67) (Q0 52 8 (.slice x.1 r.2.facts_.length x.2) r.2.facts_.length (r.2.facts_.map Jj)))) := by
 refine enter (n := 21) Tryz.func8 rfl rfl rfl S [Yk (Jp pb0 [.int .i64 a0.device_, .int .i64 (a0.knows_ 0), .int .i64 (a0.knows_ 1), .int .i64 (a0.knows_ 2), .int .i64 (a0.knows_ 3), .int .i64 (a0.knows_ 4), .int .i64 (a0.knows_ 5), .int .i64 (a0.knows_ 6), .int .i64 (a0.knows_ 7), .int .i64 (a0.knows_ 8), .int .i64 (a0.knows_ 9), .int .i64 (a0.knows_ 10), .int .i64 (a0.knows_ 11), .int .i64 (a0.knows_ 12), .int .i64 (a0.knows_ 13), .int .i64 (a0.knows_ 14), .int .i64 (a0.knows_ 15), .slice p0_2.1 n0_2 p0_2.2] 67) (Q0 52 8 (.slice p0_2.1 n0_2 p0_2.2) n0_2 (a0.facts_.map Jj))] (Sat.one hcs hlt) ?_
 refine Uw 0 rfl ?_
 refine Je ?_
 refine Jb ?_
 refine Ja rfl rfl rfl (Jc (v := .int .i64 0) rfl) ?_
 refine Jf ?_
 refine Je ?_
 refine Jb ?_
 refine Ja rfl rfl rfl (Jd (v := .int .i64 a1) rfl) ?_
 refine Ja rfl rfl rfl (Jd (v := str a2) rfl) ?_
 refine Ja rfl rfl rfl (r_build (pl := #[(0, 2), (2, 1), (3, 1), (4, 1), (5, 1), (6, 1), (7, 1)]) (ps := [(2, .int .i64 1), (3, .int .i64 a1), (6, str a2)]) (cells := #[.int .i64 0, .int .i64 0, .int .i64 0, .int .i64 1, .int .i64 a1, str [], .int .i64 0, str a2]) Tryz.zeroValue52 Tryz.runUnderlying52 (fun w => by kernel_rfl) rfl rfl) ?_
 refine Zo (cs := [.int .i64 0, .int .i64 0, .int .i64 0, .int .i64 0, .int .i64 0, str [], .int .i64 0, str []]) Tryz.zeroValue52 rfl rfl rfl (fun b2 => ?_)
 refine X3 (i := 2) (vs := [.int .i64 0, .int .i64 0, .int .i64 0, .int .i64 1, .int .i64 a1, str [], .int .i64 0, str a2]) (cs' := [.int .i64 0, .int .i64 0, .int .i64 0, .int .i64 1, .int .i64 a1, str [], .int .i64 0, str a2]) Tryz.sizeOf52 rfl rfl rfl rfl rfl rfl rfl rfl rfl ?_
 refine Jf ?_
 refine Je ?_
 refine Je ?_
 refine Jb ?_
 refine Y2 (i := 2) (vs := [.int .i64 0, .int .i64 0, .int .i64 0, .int .i64 1, .int .i64 a1, str [], .int .i64 0, str a2]) Tryz.isAgg52 Tryz.sizeOf52 rfl rfl rfl rfl rfl ?_
 obtain ⟨t13, h_t13, H5⟩ := Jh H; clear H
 refine Qu (k28 h_t13) Tryz.call28 rfl rfl rfl ?_
 refine Ja rfl rfl rfl (Jc (v := .int .i64 t13) rfl) ?_
 refine Jf ?_
 refine Je ?_
 refine Jb ?_
 refine Ja rfl rfl rfl (Jd (v := .int .i64 t13) rfl) ?_
 refine Ja rfl rfl rfl (U0 rfl rfl) ?_
 refine Jf ?_
 refine J5 (b := (decide (t13 ≠ 0))) rfl (fun hb => ?_) (fun hb => ?_)
 ·have H6 := Jn hb H5; clear H5
  refine Je ?_
  refine Jb ?_
  refine Ja rfl rfl rfl (Jd (v := .int .i64 t13) rfl) ?_
  refine Ja rfl rfl rfl (Jc (v := .int .i64 t13) rfl) ?_
  refine Jf ?_
  refine Jm ?_
  obtain rfl := Option.some.inj H6
  refine Z6 0 1 rfl rfl (by decide) ?_
  refine Jy (v := .int .i64 t13) rfl rfl (W6 p0_2 (i := 0) rfl (by first | rfl | rw [(show n0_2 = a0.facts_.length from hn0_2)]) (by first | exact Imp.refl _ | exact Imp.of (by rw [(show n0_2 = a0.facts_.length from hn0_2)])))
 ·have H7 := Jo hb H5; clear H5
  refine Jr ?_
  refine Je ?_
  refine Jb ?_
  refine Ja rfl rfl rfl (Jd (v := .pointer (some ⟨pb0, 0, none⟩)) rfl) ?_
  refine Y2 (i := 2) (vs := [.int .i64 0, .int .i64 0, .int .i64 0, .int .i64 1, .int .i64 a1, str [], .int .i64 0, str a2]) Tryz.isAgg52 Tryz.sizeOf52 rfl rfl rfl rfl rfl ?_
  refine Xc (vs := [.agg #[.int .i64 0, .int .i64 0, .int .i64 0, .int .i64 1, .int .i64 a1, str [], .int .i64 0, str a2]]) (cs := [.int .i64 0, .int .i64 0, .int .i64 0, .int .i64 1, .int .i64 a1, str [], .int .i64 0, str a2]) Tryz.underlying65 Tryz.sizeOf52 Tryz.zeroValue52 rfl rfl rfl rfl rfl rfl rfl (fun b3 => ?_)
  obtain ⟨t20, h_t20, H8⟩ := Jh H7; clear H7
  refine Z6 0 1 rfl rfl (by decide) ?_
  refine Yl (Q7 (i := 0) (rds := [3]) (G := fun x : (Option Addr × Nat) => .int .i64 t20.1) (C := fun x : (Option Addr × Nat) => Yk (Jp pb0 [.int .i64 t20.2.device_, .int .i64 (t20.2.knows_ 0), .int .i64 (t20.2.knows_ 1), .int .i64 (t20.2.knows_ 2), .int .i64 (t20.2.knows_ 3), .int .i64 (t20.2.knows_ 4), .int .i64 (t20.2.knows_ 5), .int .i64 (t20.2.knows_ 6), .int .i64 (t20.2.knows_ 7), .int .i64 (t20.2.knows_ 8), .int .i64 (t20.2.knows_ 9), .int .i64 (t20.2.knows_ 10), .int .i64 (t20.2.knows_ 11), .int .i64 (t20.2.knows_ 12), .int .i64 (t20.2.knows_ 13), .int .i64 (t20.2.knows_ 14), .int .i64 (t20.2.knows_ 15), .slice x.1 t20.2.facts_.length x.2] 67) (Q0 52 8 (.slice x.1 t20.2.facts_.length x.2) t20.2.facts_.length (t20.2.facts_.map Jj))) rfl (fun w L' S hF hS hi hp hlt ho hA => k29 hp hlt (Y0 w S) hn0_2 (frb_box (j := 3) (xs := ([(⟨(⟨0, 0⟩ : T_sync_Dot), 0, 1, a1, [], 0, a2⟩ : T_sync_Fact)] : List T_sync_Fact)) (f := Jj) hA hS (by decide) ((hi 3 (by simp)).trans rfl) rfl rfl rfl rfl) h_t20) Tryz.call29 rfl) rfl rfl rfl (fun p => ?_)
  refine Ub 0 1 rfl rfl (by decide) ?_
  refine Ja rfl rfl rfl (Jc (v := .int .i64 t20.1) rfl) ?_
  refine Jf ?_
  refine Jm ?_
  obtain rfl := Option.some.inj H8
  refine Z6 0 1 rfl rfl (by decide) ?_
  refine Jy (v := .int .i64 t20.1) rfl rfl (W6 p (i := 0) rfl rfl (Imp.refl _))
end Go.Proofs.YtpikgcmaljmlmaaGreatDoor
