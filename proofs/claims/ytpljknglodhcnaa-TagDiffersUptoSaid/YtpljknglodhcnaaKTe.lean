/- TagDiffers, Differ: the walks, printed by our generator; each follows its model. Conditions: the model yields a value. -/
import Derived.Test.YtpljknglodhcnaaLx11
namespace Go.Proofs.Ytpljknglodhcnaa
open Go Go.Vc Go.Md Go.M Go.Lx
set_option maxRecDepth 100000
set_option maxHeartbeats 4000000
set_option linter.unusedVariables false
theorem k56 {a0 : Int} {a1 : Int} {a2 : Int} {r : Bool} (H : Vs a0 a1 a2 = some r) : Ret Try.prog 56 [.int .i64 a0, .int .i64 a1, .int .i64 a2] (.bool r) := by
 refine Y8 (n := 15) Try.func56 rfl rfl rfl (fun wd => ?_)
 refine Jf ?_
 refine Jb ?_
 refine Ja rfl rfl rfl (Jc (v := .bool false) rfl) ?_
 refine Jg ?_
 refine Jf ?_
 refine Jb ?_
 refine Ja rfl rfl rfl (Jd (v := .int .i64 a0) rfl) ?_
 refine Ja rfl rfl rfl (Jd (v := .int .i64 a1) rfl) ?_
 refine Ja rfl rfl rfl (Xy rfl rfl) ?_
 refine Ja rfl rfl rfl (Jd (v := .bool (decide (a0 < a1))) rfl) ?_
 refine split (fun hb => ?_) (fun hb => ?_)
 ·have H3 := Jo hb H; clear H
  refine Jh rfl rfl rfl ?_
  refine Jh rfl rfl rfl ?_
  refine Jh rfl rfl rfl ?_
  refine Ja rfl rfl rfl (J5 (v := .bool true) rfl rfl) ?_
  refine Ja rfl rfl rfl (Jc (v := .bool true) rfl) ?_
  refine Jg ?_
  refine Ju ?_
  obtain rfl := Option.some.inj H3
  refine Qa (v := .bool true) rfl rfl (fin rfl)
 ·have H4 := Jp hb H; clear H
  refine Ja rfl rfl rfl (Jd (v := .int .i64 a0) rfl) ?_
  refine Ja rfl rfl rfl (Jd (v := .int .i64 a2) rfl) ?_
  refine Ja rfl rfl rfl (Z0 rfl rfl) ?_
  refine Ja rfl rfl rfl (J7 (v := .bool (decide (a2 < a0))) rfl rfl) ?_
  refine Ja rfl rfl rfl (Jc (v := .bool (decide (a2 < a0))) rfl) ?_
  refine Jg ?_
  refine Ju ?_
  obtain rfl := Option.some.inj H4
  refine Qa (v := .bool (decide (a2 < a0))) rfl rfl (fin rfl)
theorem k81 {a0 : Int} {r : Int} (H : V9 a0 = some r) : Ret Try.prog 81 [.int .i64 a0] (.int .i64 r) := by
 refine Y8 (n := 16) Try.func81 rfl rfl rfl (fun wd => ?_)
 refine Jf ?_
 refine Jb ?_
 refine Ja rfl rfl rfl (Jc (v := .int .i64 0) rfl) ?_
 refine Jg ?_
 refine Jf ?_
 refine Jf ?_
 refine Jb ?_
 refine Ja rfl rfl rfl (Jd (v := .int .i64 a0) rfl) ?_
 refine Jg ?_
 refine J0 ?_
 refine Qw (r := r) (σ := Bool) (τ := Unit) (fun s => Zw a0 s) (fun s t => [(3, .int .i64 a0), (4, .bool s)]) (fun s t => []) (fun s t => True) ?_ ?_
 ·refine Jf ?_
  refine Jb ?_
  refine Ja rfl rfl rfl (Qq rfl rfl) ?_
  refine Ja rfl rfl rfl (Jc (v := .bool (decide (a0 = 1))) rfl) ?_
  refine Jg ?_
  refine Qb (b := (decide (a0 = 1))) rfl (fun hb => ?_) (fun hb => ?_)
  ·have H37 := Jo hb H; clear H
   refine Jt ?_
   refine Jn (decide (a0 = 1)) () 0 [] (by exact ⟨rfl, rfl, trivial⟩) (by decide) (by kernel_rfl) (by exact ⟨H37, trivial⟩) (Nat.lt_succ_self _)
  ·have H38 := Jp hb H; clear H
   refine Jf ?_
   refine Jb ?_
   refine Ja rfl rfl rfl (Qq rfl rfl) ?_
   refine Ja rfl rfl rfl (Jc (v := .bool (decide (a0 = 2))) rfl) ?_
   refine Jg ?_
   refine Qb (b := (decide (a0 = 2))) rfl (fun hb => ?_) (fun hb => ?_)
   ·have H39 := Jo hb H38; clear H38
    refine Jt ?_
    refine Jn (decide (a0 = 2)) () 0 [] (by exact ⟨rfl, rfl, trivial⟩) (by decide) (by kernel_rfl) (by exact ⟨H39, trivial⟩) (Nat.lt_succ_self _)
   ·have H40 := Jp hb H38; clear H38
    refine Jf ?_
    refine Jb ?_
    refine Ja rfl rfl rfl (Qq rfl rfl) ?_
    refine Ja rfl rfl rfl (Jc (v := .bool (decide (a0 = 7))) rfl) ?_
    refine Jg ?_
    refine Qb (b := (decide (a0 = 7))) rfl (fun hb => ?_) (fun hb => ?_)
    ·have H41 := Jo hb H40; clear H40
     refine Jt ?_
     refine Jn (decide (a0 = 7)) () 0 [] (by exact ⟨rfl, rfl, trivial⟩) (by decide) (by kernel_rfl) (by exact ⟨H41, trivial⟩) (Nat.lt_succ_self _)
    ·have H42 := Jp hb H40; clear H40
     refine Jb ?_
     refine Ja rfl rfl rfl (Qq rfl rfl) ?_
     refine Ja rfl rfl rfl (Jc (v := .bool (decide (a0 = 13))) rfl) ?_
     refine Jg ?_
     refine Jn (decide (a0 = 13)) () 0 [] (by exact ⟨rfl, rfl, trivial⟩) (by decide) (by kernel_rfl) (by exact ⟨H42, trivial⟩) (Nat.lt_succ_self _)
 ·rintro x4 _ gg H22 _
  replace H22 : Zw a0 x4 = some r := H22
  try dsimp only
  refine Qb (b := x4) rfl (fun hb => ?_) (fun hb => ?_)
  ·have H23 := Jo hb H22; clear H22
   refine Jf ?_
   refine Jb ?_
   refine Ja rfl rfl rfl (Jc (v := .int .i64 1) rfl) ?_
   refine Jg ?_
   refine Ju ?_
   obtain rfl := Option.some.inj H23
   refine Qa (v := .int .i64 1) rfl rfl (fin rfl)
  ·have H24 := Jp hb H22; clear H22
   refine Jf ?_
   refine Jb ?_
   refine Ja rfl rfl rfl (Qq rfl rfl) ?_
   refine Ja rfl rfl rfl (Jc (v := .bool (decide (a0 = 3))) rfl) ?_
   refine Jg ?_
   refine Qb (b := (decide (a0 = 3))) rfl (fun hb => ?_) (fun hb => ?_)
   ·have H25 := Jo hb H24; clear H24
    refine Jf ?_
    refine Jb ?_
    refine Ja rfl rfl rfl (Jc (v := .int .i64 2) rfl) ?_
    refine Jg ?_
    refine Ju ?_
    obtain rfl := Option.some.inj H25
    refine Qa (v := .int .i64 2) rfl rfl (fin rfl)
   ·have H26 := Jp hb H24; clear H24
    refine Jf ?_
    refine Jf ?_
    refine Jb ?_
    refine Ja rfl rfl rfl (Qq rfl rfl) ?_
    refine Ja rfl rfl rfl (Jc (v := .bool (decide (a0 = 4))) rfl) ?_
    refine Jg ?_
    refine Qb (b := (decide (a0 = 4))) rfl (fun hb => ?_) (fun hb => ?_)
    ·have H27 := Jo hb H26; clear H26
     refine Jt ?_
     refine Qb (b := (decide (a0 = 4))) rfl (fun hb => ?_) (fun hb => ?_)
     ·have H28 := Jo hb H27; clear H27
      refine Jf ?_
      refine Jb ?_
      refine Ja rfl rfl rfl (Jc (v := .int .i64 4) rfl) ?_
      refine Jg ?_
      refine Ju ?_
      obtain rfl := Option.some.inj H28
      refine Qa (v := .int .i64 4) rfl rfl (fin rfl)
     ·have H29 := Jp hb H27; clear H27
      refine Jf ?_
      refine Jb ?_
      refine Ja rfl rfl rfl (Qq rfl rfl) ?_
      refine Ja rfl rfl rfl (Jc (v := .bool (decide (a0 = 5))) rfl) ?_
      refine Jg ?_
      refine Qb (b := (decide (a0 = 5))) rfl (fun hb => ?_) (fun hb => ?_)
      ·have H30 := Jo hb H29; clear H29
       refine Jf ?_
       refine Jb ?_
       refine Ja rfl rfl rfl (Jc (v := .int .i64 8) rfl) ?_
       refine Jg ?_
       refine Ju ?_
       obtain rfl := Option.some.inj H30
       refine Qa (v := .int .i64 8) rfl rfl (fin rfl)
      ·have H31 := Jp hb H29; clear H29
       refine Jt ?_
       refine Jf ?_
       refine Jb ?_
       refine Ja rfl rfl rfl (Jc (v := .int .i64 0) rfl) ?_
       refine Jg ?_
       refine Ju ?_
       obtain rfl := Option.some.inj H31
       refine Qa (v := .int .i64 0) rfl rfl (fin rfl)
    ·have H32 := Jp hb H26; clear H26
     refine Jb ?_
     refine Ja rfl rfl rfl (Qq rfl rfl) ?_
     refine Ja rfl rfl rfl (Jc (v := .bool (decide (a0 = 9))) rfl) ?_
     refine Jg ?_
     refine Qb (b := (decide (a0 = 9))) rfl (fun hb => ?_) (fun hb => ?_)
     ·have H33 := Jo hb H32; clear H32
      refine Jf ?_
      refine Jb ?_
      refine Ja rfl rfl rfl (Jc (v := .int .i64 4) rfl) ?_
      refine Jg ?_
      refine Ju ?_
      obtain rfl := Option.some.inj H33
      refine Qa (v := .int .i64 4) rfl rfl (fin rfl)
     ·have H34 := Jp hb H32; clear H32
      refine Jf ?_
      refine Jb ?_
      refine Ja rfl rfl rfl (Qq rfl rfl) ?_
      refine Ja rfl rfl rfl (Jc (v := .bool (decide (a0 = 5))) rfl) ?_
      refine Jg ?_
      refine Qb (b := (decide (a0 = 5))) rfl (fun hb => ?_) (fun hb => ?_)
      ·have H35 := Jo hb H34; clear H34
       refine Jf ?_
       refine Jb ?_
       refine Ja rfl rfl rfl (Jc (v := .int .i64 8) rfl) ?_
       refine Jg ?_
       refine Ju ?_
       obtain rfl := Option.some.inj H35
       refine Qa (v := .int .i64 8) rfl rfl (fin rfl)
      ·have H36 := Jp hb H34; clear H34
       refine Jt ?_
       refine Jf ?_
       refine Jb ?_
       refine Ja rfl rfl rfl (Jc (v := .int .i64 0) rfl) ?_
       refine Jg ?_
       refine Ju ?_
       obtain rfl := Option.some.inj H36
       refine Qa (v := .int .i64 0) rfl rfl (fin rfl)
theorem k82 {a0 : Int} {r : Bool} (H : tag_isInts a0 = some r) : Ret Try.prog 82 [.int .i64 a0] (.bool r) := by
 refine Y8 (n := 17) Try.func82 rfl rfl rfl (fun wd => ?_)
 refine Jf ?_
 refine Jb ?_
 refine Ja rfl rfl rfl (Jc (v := .bool false) rfl) ?_
 refine Jg ?_
 refine Jf ?_
 refine Jb ?_
 refine Ja rfl rfl rfl (Jd (v := .int .i64 a0) rfl) ?_
 refine Ja rfl rfl rfl (Qq rfl rfl) ?_
 refine Ja rfl rfl rfl (Jd (v := .bool (decide (a0 = 1))) rfl) ?_
 refine split (fun hb => ?_) (fun hb => ?_)
 ·have H7 := Jo hb H; clear H
  refine Jh rfl rfl rfl ?_
  refine Jh rfl rfl rfl ?_
  refine Ja rfl rfl rfl (J5 (v := .bool true) rfl rfl) ?_
  refine Ja rfl rfl rfl (Jd (v := .bool true) rfl) ?_
  refine Jh rfl rfl rfl ?_
  refine Jh rfl rfl rfl ?_
  refine Ja rfl rfl rfl (J5 (v := .bool true) rfl rfl) ?_
  refine Ja rfl rfl rfl (Jd (v := .bool true) rfl) ?_
  refine Jh rfl rfl rfl ?_
  refine Jh rfl rfl rfl ?_
  refine Ja rfl rfl rfl (J5 (v := .bool true) rfl rfl) ?_
  refine Ja rfl rfl rfl (Jc (v := .bool true) rfl) ?_
  refine Jg ?_
  refine Ju ?_
  obtain rfl := Option.some.inj H7
  refine Qa (v := .bool true) rfl rfl (fin rfl)
 ·have H8 := Jp hb H; clear H
  refine Ja rfl rfl rfl (Jd (v := .int .i64 a0) rfl) ?_
  refine Ja rfl rfl rfl (Qq rfl rfl) ?_
  refine Ja rfl rfl rfl (J7 (v := .bool (decide (a0 = 3))) rfl rfl) ?_
  refine Ja rfl rfl rfl (Jd (v := .bool (decide (a0 = 3))) rfl) ?_
  refine split (fun hb => ?_) (fun hb => ?_)
  ·have H9 := Jo hb H8; clear H8
   refine Jh rfl rfl rfl ?_
   refine Jh rfl rfl rfl ?_
   refine Ja rfl rfl rfl (J5 (v := .bool true) rfl rfl) ?_
   refine Ja rfl rfl rfl (Jd (v := .bool true) rfl) ?_
   refine Jh rfl rfl rfl ?_
   refine Jh rfl rfl rfl ?_
   refine Ja rfl rfl rfl (J5 (v := .bool true) rfl rfl) ?_
   refine Ja rfl rfl rfl (Jc (v := .bool true) rfl) ?_
   refine Jg ?_
   refine Ju ?_
   obtain rfl := Option.some.inj H9
   refine Qa (v := .bool true) rfl rfl (fin rfl)
  ·have H10 := Jp hb H8; clear H8
   refine Ja rfl rfl rfl (Jd (v := .int .i64 a0) rfl) ?_
   refine Ja rfl rfl rfl (Qq rfl rfl) ?_
   refine Ja rfl rfl rfl (J7 (v := .bool (decide (a0 = 4))) rfl rfl) ?_
   refine Ja rfl rfl rfl (Jd (v := .bool (decide (a0 = 4))) rfl) ?_
   refine split (fun hb => ?_) (fun hb => ?_)
   ·have H11 := Jo hb H10; clear H10
    refine Jh rfl rfl rfl ?_
    refine Jh rfl rfl rfl ?_
    refine Ja rfl rfl rfl (J5 (v := .bool true) rfl rfl) ?_
    refine Ja rfl rfl rfl (Jc (v := .bool true) rfl) ?_
    refine Jg ?_
    refine Ju ?_
    obtain rfl := Option.some.inj H11
    refine Qa (v := .bool true) rfl rfl (fin rfl)
   ·have H12 := Jp hb H10; clear H10
    refine Ja rfl rfl rfl (Jd (v := .int .i64 a0) rfl) ?_
    refine Ja rfl rfl rfl (Qq rfl rfl) ?_
    refine Ja rfl rfl rfl (J7 (v := .bool (decide (a0 = 9))) rfl rfl) ?_
    refine Ja rfl rfl rfl (Jc (v := .bool (decide (a0 = 9))) rfl) ?_
    refine Jg ?_
    refine Ju ?_
    obtain rfl := Option.some.inj H12
    refine Qa (v := .bool (decide (a0 = 9))) rfl rfl (fin rfl)
theorem k83 {a0 : Int} {r : Bool} (H : tag_isText a0 = some r) : Ret Try.prog 83 [.int .i64 a0] (.bool r) := by
 refine Y8 (n := 9) Try.func83 rfl rfl rfl (fun wd => ?_)
 refine Jf ?_
 refine Jb ?_
 refine Ja rfl rfl rfl (Jc (v := .bool false) rfl) ?_
 refine Jg ?_
 refine Jf ?_
 refine Jb ?_
 refine Ja rfl rfl rfl (Jd (v := .int .i64 a0) rfl) ?_
 refine Ja rfl rfl rfl (Qq rfl rfl) ?_
 refine Ja rfl rfl rfl (Jd (v := .bool (decide (a0 = 2))) rfl) ?_
 refine split (fun hb => ?_) (fun hb => ?_)
 ·have H3 := Jo hb H; clear H
  refine Jh rfl rfl rfl ?_
  refine Jh rfl rfl rfl ?_
  refine Ja rfl rfl rfl (J5 (v := .bool true) rfl rfl) ?_
  refine Ja rfl rfl rfl (Jc (v := .bool true) rfl) ?_
  refine Jg ?_
  refine Ju ?_
  obtain rfl := Option.some.inj H3
  refine Qa (v := .bool true) rfl rfl (fin rfl)
 ·have H4 := Jp hb H; clear H
  refine Ja rfl rfl rfl (Jd (v := .int .i64 a0) rfl) ?_
  refine Ja rfl rfl rfl (Qq rfl rfl) ?_
  refine Ja rfl rfl rfl (J7 (v := .bool (decide (a0 = 7))) rfl rfl) ?_
  refine Ja rfl rfl rfl (Jc (v := .bool (decide (a0 = 7))) rfl) ?_
  refine Jg ?_
  refine Ju ?_
  obtain rfl := Option.some.inj H4
  refine Qa (v := .bool (decide (a0 = 7))) rfl rfl (fin rfl)
theorem k63 {a0 : T_tag_Value} {v0_2 : Value} {v0_3 : Value} {v0_4 : Value} {r : Int} {w : World} {h : Jy} (hw : Know h w Zc) (f0_2 : FrS h 1 v0_2 (a0.Ints.map J8)) (f0_3 : FrS h 2 v0_3 (a0.Ratios.map Jr)) (f0_4 : FrN h 6 v0_4 g_tag_Entry a0.Entries) (H : Vg a0 = some r) : Does Try.prog 63 (List.toArray [.agg #[.int .i64 a0.Kind, str a0.Text, v0_2, v0_3, v0_4]]) w (fun v w' => v = (.int .i64 r) ∧ Grow w w') := by
 refine enter (n := 46) Try.func63 rfl rfl rfl Zc [] (Sat.nil _ _) ?_
 refine Jf ?_
 refine Jb ?_
 refine Vi (cs := [.int .i64 a0.Kind, str a0.Text, v0_2, v0_3, v0_4]) rfl rfl rfl rfl (fun b1 => ?_)
 refine Ja rfl rfl rfl (Jc (v := .int .i64 0) rfl) ?_
 refine Jg ?_
 refine Jf ?_
 refine J0 ?_
 refine Jf ?_
 refine Jb ?_
 refine Ja rfl rfl rfl (Jl Try.runUnderlying29 rfl Try.sizeOf3 rfl rfl) ?_
 refine Jq (i := 0) (v := .int .i64 a0.Kind) Try.isAgg3 rfl rfl rfl rfl rfl ?_
 obtain ⟨t6, h_t6, H31⟩ := Jj H; clear H
 refine Z7 (k81 h_t6) Try.call81 rfl rfl rfl ?_
 refine Ja rfl rfl rfl (Qq rfl rfl) ?_
 refine Ja rfl rfl rfl (Jc (v := .bool (decide (t6 = 0))) rfl) ?_
 refine Jg ?_
 refine Qb (b := (decide (t6 = 0))) rfl (fun hb => ?_) (fun hb => ?_)
 ·have H32 := Jo hb H31; clear H31
  refine Jf ?_
  refine Jb ?_
  refine Ja rfl rfl rfl (Jc (v := .int .i64 10) rfl) ?_
  refine Jg ?_
  refine Ju ?_
  obtain rfl := Option.some.inj H32
  refine Qa (v := .int .i64 10) rfl rfl (fin rfl)
 ·have H33 := Jp hb H31; clear H31
  refine Jf ?_
  refine Qw (r := r) (σ := Bool) (τ := Unit) (fun s => Yf a0 s) (fun s t => [(1, .pointer (some ⟨b1, 0, none⟩)), (8, .bool s)]) (fun s t => [Js b1 [.int .i64 a0.Kind, str a0.Text, v0_2, v0_3, v0_4] 29]) (fun s t => True) ?_ ?_
  ·refine Jb ?_
   refine Ja rfl rfl rfl (Jl Try.runUnderlying29 rfl Try.sizeOf3 rfl rfl) ?_
   refine Jq (i := 0) (v := .int .i64 a0.Kind) Try.isAgg3 rfl rfl rfl rfl rfl ?_
   obtain ⟨t11, h_t11, H58⟩ := Jj H33; clear H33
   refine Z7 (k82 h_t11) Try.call82 rfl rfl rfl ?_
   refine Ja rfl rfl rfl (r_not rfl) ?_
   refine Ja rfl rfl rfl (Jd (v := .bool (!t11)) rfl) ?_
   refine split (fun hb => ?_) (fun hb => ?_)
   ·have H59 := Jo hb H58; clear H58
    refine Ja rfl rfl rfl (Jl Try.runUnderlying29 rfl Try.sizeOf25 rfl rfl) ?_
    refine Jq (i := 0) (v := v0_2) Try.isAgg25 rfl rfl rfl rfl rfl ?_
    refine Ja rfl rfl rfl (Z2 Try.underlying25 rfl f0_2 rfl) ?_
    refine Ja rfl rfl rfl (Z0 rfl rfl) ?_
    refine Ja rfl rfl rfl (J5 (v := .bool (decide (0 < (a0.Ints.length : Int)))) rfl rfl) ?_
    refine Ja rfl rfl rfl (Jc (v := .bool (decide (0 < (a0.Ints.length : Int)))) rfl) ?_
    refine Jg ?_
    refine Jn (decide (0 < (a0.Ints.length : Int))) () 0 [0] (by exact ⟨rfl, rfl, trivial⟩) (by decide) (by kernel_rfl) (by exact ⟨H59, trivial⟩) (Nat.lt_succ_self _)
   ·have H60 := Jp hb H58; clear H58
    refine Jh rfl rfl rfl ?_
    refine Jh rfl rfl rfl ?_
    refine Jh rfl rfl rfl ?_
    refine Jh rfl rfl rfl ?_
    refine Ja rfl rfl rfl (J7 (v := .bool false) rfl rfl) ?_
    refine Ja rfl rfl rfl (Jc (v := .bool false) rfl) ?_
    refine Jg ?_
    refine Jn false () 0 [0] (by exact ⟨rfl, rfl, trivial⟩) (by decide) (by kernel_rfl) (by exact ⟨H60, trivial⟩) (Nat.lt_succ_self _)
  ·rintro x8 _ gg H34 _
   replace H34 : Yf a0 x8 = some r := H34
   try dsimp only
   refine Qb (b := x8) rfl (fun hb => ?_) (fun hb => ?_)
   ·have H35 := Jo hb H34; clear H34
    refine Jt ?_
    refine Qb (b := x8) rfl (fun hb => ?_) (fun hb => ?_)
    ·have H36 := Jo hb H35; clear H35
     refine Jf ?_
     refine Jb ?_
     refine Ja rfl rfl rfl (Jc (v := .int .i64 1) rfl) ?_
     refine Jg ?_
     refine Ju ?_
     obtain rfl := Option.some.inj H36
     refine Qa (v := .int .i64 1) rfl rfl (fin rfl)
    ·have H37 := Jp hb H35; clear H35
     refine Jt ?_
     refine Jf ?_
     refine Jb ?_
     refine Ja rfl rfl rfl (Jc (v := .int .i64 0) rfl) ?_
     refine Jg ?_
     refine Ju ?_
     obtain rfl := Option.some.inj H37
     refine Qa (v := .int .i64 0) rfl rfl (fin rfl)
   ·have H38 := Jp hb H34; clear H34
    refine Qw (r := r) (σ := Bool) (τ := Unit) (fun s => Yd a0 s) (fun s t => [(1, .pointer (some ⟨b1, 0, none⟩)), (8, .bool s)]) (fun s t => [Js b1 [.int .i64 a0.Kind, str a0.Text, v0_2, v0_3, v0_4] 29]) (fun s t => True) ?_ ?_
    ·refine Jb ?_
     refine Ja rfl rfl rfl (Jl Try.runUnderlying29 rfl Try.sizeOf3 rfl rfl) ?_
     refine Jq (i := 0) (v := .int .i64 a0.Kind) Try.isAgg3 rfl rfl rfl rfl rfl ?_
     obtain ⟨t21, h_t21, H55⟩ := Jj H38; clear H38
     refine Z7 (k83 h_t21) Try.call83 rfl rfl rfl ?_
     refine Ja rfl rfl rfl (r_not rfl) ?_
     refine Ja rfl rfl rfl (Jd (v := .bool (!t21)) rfl) ?_
     refine split (fun hb => ?_) (fun hb => ?_)
     ·have H56 := Jo hb H55; clear H55
      refine Ja rfl rfl rfl (Jl Try.runUnderlying29 rfl Try.sizeOf9 rfl rfl) ?_
      refine Jq (i := 0) (v := str a0.Text) Try.isAgg9 rfl rfl rfl rfl rfl ?_
      refine Ja rfl rfl rfl (r_neqT rfl rfl) ?_
      refine Ja rfl rfl rfl (J5 (v := .bool (decide (a0.Text ≠ []))) rfl rfl) ?_
      refine Ja rfl rfl rfl (Jc (v := .bool (decide (a0.Text ≠ []))) rfl) ?_
      refine Jg ?_
      refine Jn (decide (a0.Text ≠ [])) () 0 [0] (by exact ⟨rfl, rfl, trivial⟩) (by decide) (by kernel_rfl) (by exact ⟨H56, trivial⟩) (Nat.lt_succ_self _)
     ·have H57 := Jp hb H55; clear H55
      refine Jh rfl rfl rfl ?_
      refine Jh rfl rfl rfl ?_
      refine Jh rfl rfl rfl ?_
      refine Ja rfl rfl rfl (J7 (v := .bool false) rfl rfl) ?_
      refine Ja rfl rfl rfl (Jc (v := .bool false) rfl) ?_
      refine Jg ?_
      refine Jn false () 0 [0] (by exact ⟨rfl, rfl, trivial⟩) (by decide) (by kernel_rfl) (by exact ⟨H57, trivial⟩) (Nat.lt_succ_self _)
    ·rintro x8_2 _ gg H39 _
     replace H39 : Yd a0 x8_2 = some r := H39
     try dsimp only
     refine Qb (b := x8_2) rfl (fun hb => ?_) (fun hb => ?_)
     ·have H40 := Jo hb H39; clear H39
      refine Jt ?_
      refine Qb (b := x8_2) rfl (fun hb => ?_) (fun hb => ?_)
      ·have H41 := Jo hb H40; clear H40
       refine Jf ?_
       refine Jb ?_
       refine Ja rfl rfl rfl (Jc (v := .int .i64 1) rfl) ?_
       refine Jg ?_
       refine Ju ?_
       obtain rfl := Option.some.inj H41
       refine Qa (v := .int .i64 1) rfl rfl (fin rfl)
      ·have H42 := Jp hb H40; clear H40
       refine Jt ?_
       refine Jf ?_
       refine Jb ?_
       refine Ja rfl rfl rfl (Jc (v := .int .i64 0) rfl) ?_
       refine Jg ?_
       refine Ju ?_
       obtain rfl := Option.some.inj H42
       refine Qa (v := .int .i64 0) rfl rfl (fin rfl)
     ·have H43 := Jp hb H39; clear H39
      refine Qw (r := r) (σ := Bool) (τ := Unit) (fun s => Yh a0 s) (fun s t => [(1, .pointer (some ⟨b1, 0, none⟩)), (8, .bool s)]) (fun s t => [Js b1 [.int .i64 a0.Kind, str a0.Text, v0_2, v0_3, v0_4] 29]) (fun s t => True) ?_ ?_
      ·refine Jb ?_
       refine Ja rfl rfl rfl (Jl Try.runUnderlying29 rfl Try.sizeOf3 rfl rfl) ?_
       refine Jq (i := 0) (v := .int .i64 a0.Kind) Try.isAgg3 rfl rfl rfl rfl rfl ?_
       refine Ja rfl rfl rfl (V0 rfl rfl) ?_
       refine Ja rfl rfl rfl (Jd (v := .bool (decide (a0.Kind ≠ 5))) rfl) ?_
       refine split (fun hb => ?_) (fun hb => ?_)
       ·have H53 := Jo hb H43; clear H43
        refine Ja rfl rfl rfl (Jl Try.runUnderlying29 rfl Try.sizeOf26 rfl rfl) ?_
        refine Jq (i := 0) (v := v0_3) Try.isAgg26 rfl rfl rfl rfl rfl ?_
        refine Ja rfl rfl rfl (Z2 Try.underlying26 rfl f0_3 rfl) ?_
        refine Ja rfl rfl rfl (Z0 rfl rfl) ?_
        refine Ja rfl rfl rfl (J5 (v := .bool (decide (0 < (a0.Ratios.length : Int)))) rfl rfl) ?_
        refine Ja rfl rfl rfl (Jc (v := .bool (decide (0 < (a0.Ratios.length : Int)))) rfl) ?_
        refine Jg ?_
        refine Jn (decide (0 < (a0.Ratios.length : Int))) () 0 [0] (by exact ⟨rfl, rfl, trivial⟩) (by decide) (by kernel_rfl) (by exact ⟨H53, trivial⟩) (Nat.lt_succ_self _)
       ·have H54 := Jp hb H43; clear H43
        refine Jh rfl rfl rfl ?_
        refine Jh rfl rfl rfl ?_
        refine Jh rfl rfl rfl ?_
        refine Jh rfl rfl rfl ?_
        refine Ja rfl rfl rfl (J7 (v := .bool false) rfl rfl) ?_
        refine Ja rfl rfl rfl (Jc (v := .bool false) rfl) ?_
        refine Jg ?_
        refine Jn false () 0 [0] (by exact ⟨rfl, rfl, trivial⟩) (by decide) (by kernel_rfl) (by exact ⟨H54, trivial⟩) (Nat.lt_succ_self _)
      ·rintro x8_3 _ gg H44 _
       replace H44 : Yh a0 x8_3 = some r := H44
       try dsimp only
       refine Qb (b := x8_3) rfl (fun hb => ?_) (fun hb => ?_)
       ·have H45 := Jo hb H44; clear H44
        refine Jt ?_
        refine Qb (b := x8_3) rfl (fun hb => ?_) (fun hb => ?_)
        ·have H46 := Jo hb H45; clear H45
         refine Jf ?_
         refine Jb ?_
         refine Ja rfl rfl rfl (Jc (v := .int .i64 1) rfl) ?_
         refine Jg ?_
         refine Ju ?_
         obtain rfl := Option.some.inj H46
         refine Qa (v := .int .i64 1) rfl rfl (fin rfl)
        ·have H47 := Jp hb H45; clear H45
         refine Jt ?_
         refine Jf ?_
         refine Jb ?_
         refine Ja rfl rfl rfl (Jc (v := .int .i64 0) rfl) ?_
         refine Jg ?_
         refine Ju ?_
         obtain rfl := Option.some.inj H47
         refine Qa (v := .int .i64 0) rfl rfl (fin rfl)
       ·have H48 := Jp hb H44; clear H44
        refine Jb ?_
        refine Ja rfl rfl rfl (Jl Try.runUnderlying29 rfl Try.sizeOf3 rfl rfl) ?_
        refine Jq (i := 0) (v := .int .i64 a0.Kind) Try.isAgg3 rfl rfl rfl rfl rfl ?_
        refine Ja rfl rfl rfl (V0 rfl rfl) ?_
        refine Ja rfl rfl rfl (Jd (v := .bool (decide (a0.Kind ≠ 13))) rfl) ?_
        refine split (fun hb => ?_) (fun hb => ?_)
        ·have H49 := Jo hb H48; clear H48
         refine Ja rfl rfl rfl (Jl Try.runUnderlying29 rfl Try.sizeOf27 rfl rfl) ?_
         refine Jq (i := 0) (v := v0_4) Try.isAgg27 rfl rfl rfl rfl rfl ?_
         refine Ja rfl rfl rfl (Qu Try.underlying27 rfl f0_4) ?_
         refine Ja rfl rfl rfl (Z0 rfl rfl) ?_
         refine Ja rfl rfl rfl (J5 (v := .bool (decide (0 < (a0.Entries.length : Int)))) rfl rfl) ?_
         refine Ja rfl rfl rfl (Jc (v := .bool (decide (0 < (a0.Entries.length : Int)))) rfl) ?_
         refine Jg ?_
         refine Qb (b := (decide (0 < (a0.Entries.length : Int)))) rfl (fun hb => ?_) (fun hb => ?_)
         ·have H50 := Jo hb H49; clear H49
          refine Jf ?_
          refine Jb ?_
          refine Ja rfl rfl rfl (Jc (v := .int .i64 1) rfl) ?_
          refine Jg ?_
          refine Ju ?_
          obtain rfl := Option.some.inj H50
          refine Qa (v := .int .i64 1) rfl rfl (fin rfl)
         ·have H51 := Jp hb H49; clear H49
          refine Jt ?_
          refine Jf ?_
          refine Jb ?_
          refine Ja rfl rfl rfl (Jc (v := .int .i64 0) rfl) ?_
          refine Jg ?_
          refine Ju ?_
          obtain rfl := Option.some.inj H51
          refine Qa (v := .int .i64 0) rfl rfl (fin rfl)
        ·have H52 := Jp hb H48; clear H48
         refine Jh rfl rfl rfl ?_
         refine Jh rfl rfl rfl ?_
         refine Jh rfl rfl rfl ?_
         refine Jh rfl rfl rfl ?_
         refine Ja rfl rfl rfl (J7 (v := .bool false) rfl rfl) ?_
         refine Ja rfl rfl rfl (Jc (v := .bool false) rfl) ?_
         refine Jg ?_
         refine Uj rfl ?_
         refine Jt ?_
         refine Jf ?_
         refine Jb ?_
         refine Ja rfl rfl rfl (Jc (v := .int .i64 0) rfl) ?_
         refine Jg ?_
         refine Ju ?_
         obtain rfl := Option.some.inj H52
         refine Qa (v := .int .i64 0) rfl rfl (fin rfl)
theorem k80 {a0 : Int} {r : Int × Int} (H : tag_bounds a0 = some r) : Ret Try.prog 80 [.int .i64 a0] (.tuple #[.int .i64 r.1, .int .i64 r.2]) := by
 refine Y8 (n := 11) Try.func80 rfl rfl rfl (fun wd => ?_)
 refine Jf ?_
 refine Jb ?_
 refine Ja rfl rfl rfl (Jc (v := .int .i64 0) rfl) ?_
 refine Ja rfl rfl rfl (Jc (v := .int .i64 0) rfl) ?_
 refine Jg ?_
 refine Jf ?_
 refine Jf ?_
 refine Jb ?_
 refine Ja rfl rfl rfl (Jd (v := .int .i64 a0) rfl) ?_
 refine Jg ?_
 refine J0 ?_
 refine Jf ?_
 refine Jb ?_
 refine Ja rfl rfl rfl (Qq rfl rfl) ?_
 refine Ja rfl rfl rfl (Jc (v := .bool (decide (a0 = 1))) rfl) ?_
 refine Jg ?_
 refine Qb (b := (decide (a0 = 1))) rfl (fun hb => ?_) (fun hb => ?_)
 ·have H7 := Jo hb H; clear H
  refine Jf ?_
  refine Jb ?_
  refine Ja rfl rfl rfl (Jc (v := .int .i64 0) rfl) ?_
  refine Ja rfl rfl rfl (Jc (v := .int .i64 255) rfl) ?_
  refine Jg ?_
  refine Ju ?_
  obtain rfl := Option.some.inj H7
  refine ret2 (v1 := .int .i64 0) (v2 := .int .i64 255) rfl rfl rfl (fin rfl)
 ·have H8 := Jp hb H; clear H
  refine Jf ?_
  refine Jb ?_
  refine Ja rfl rfl rfl (Qq rfl rfl) ?_
  refine Ja rfl rfl rfl (Jc (v := .bool (decide (a0 = 3))) rfl) ?_
  refine Jg ?_
  refine Qb (b := (decide (a0 = 3))) rfl (fun hb => ?_) (fun hb => ?_)
  ·have H9 := Jo hb H8; clear H8
   refine Jf ?_
   refine Jb ?_
   refine Ja rfl rfl rfl (Jc (v := .int .i64 0) rfl) ?_
   refine Ja rfl rfl rfl (Jc (v := .int .i64 65535) rfl) ?_
   refine Jg ?_
   refine Ju ?_
   obtain rfl := Option.some.inj H9
   refine ret2 (v1 := .int .i64 0) (v2 := .int .i64 65535) rfl rfl rfl (fin rfl)
  ·have H10 := Jp hb H8; clear H8
   refine Jf ?_
   refine Jb ?_
   refine Ja rfl rfl rfl (Qq rfl rfl) ?_
   refine Ja rfl rfl rfl (Jc (v := .bool (decide (a0 = 9))) rfl) ?_
   refine Jg ?_
   refine Qb (b := (decide (a0 = 9))) rfl (fun hb => ?_) (fun hb => ?_)
   ·have H11 := Jo hb H10; clear H10
    refine Jf ?_
    refine Jb ?_
    refine Ja rfl rfl rfl (Jc (v := .int .i64 (-2147483648)) rfl) ?_
    refine Ja rfl rfl rfl (Jc (v := .int .i64 2147483647) rfl) ?_
    refine Jg ?_
    refine Ju ?_
    obtain rfl := Option.some.inj H11
    refine ret2 (v1 := .int .i64 (-2147483648)) (v2 := .int .i64 2147483647) rfl rfl rfl (fin rfl)
   ·have H12 := Jp hb H10; clear H10
    refine Jt ?_
    refine Jf ?_
    refine Jb ?_
    refine Ja rfl rfl rfl (Jc (v := .int .i64 0) rfl) ?_
    refine Ja rfl rfl rfl (Jc (v := .int .i64 4294967295) rfl) ?_
    refine Jg ?_
    refine Ju ?_
    obtain rfl := Option.some.inj H12
    refine ret2 (v1 := .int .i64 0) (v2 := .int .i64 4294967295) rfl rfl rfl (fin rfl)
theorem k62 {a0 : T_tag_Value} {v0_2 : Value} {v0_3 : Value} {v0_4 : Value} {r : Int} {w : World} {h : Jy} (hw : Know h w Zc) (f0_2 : FrS h 1 v0_2 (a0.Ints.map J8)) (f0_3 : FrS h 2 v0_3 (a0.Ratios.map Jr)) (f0_4 : FrN h 6 v0_4 g_tag_Entry a0.Entries) (H : Wm a0 = some r) : Does Try.prog 62 (List.toArray [.agg #[.int .i64 a0.Kind, str a0.Text, v0_2, v0_3, v0_4]]) w (fun v w' => v = (.int .i64 r) ∧ Grow w w') := by
 refine enter (n := 65) Try.func62 rfl rfl rfl Zc [] (Sat.nil _ _) ?_
 refine Jf ?_
 refine Jb ?_
 refine Vi (cs := [.int .i64 a0.Kind, str a0.Text, v0_2, v0_3, v0_4]) rfl rfl rfl rfl (fun b2 => ?_)
 refine Ja rfl rfl rfl (Jc (v := .int .i64 0) rfl) ?_
 refine Jg ?_
 refine Jf ?_
 refine Jf ?_
 refine Jb ?_
 refine X2 (i := 0) (vs := [.int .i64 a0.Kind, str a0.Text, v0_2, v0_3, v0_4]) Try.isAgg29 Try.sizeOf29 rfl rfl rfl rfl rfl ?_
 obtain ⟨t12, h_t12, H35⟩ := Jj H; clear H
 refine Xa (fun w hF hS => k63 (Qf w) (f0_2.mono (hw.now hF)) (f0_3.mono (hw.now hF)) (f0_4.mono (hw.now hF)) h_t12) Try.call63 rfl rfl rfl ?_
 refine Ja rfl rfl rfl (Jc (v := .int .i64 t12) rfl) ?_
 refine Jg ?_
 refine Jf ?_
 refine Jb ?_
 refine Ja rfl rfl rfl (Jd (v := .int .i64 t12) rfl) ?_
 refine Ja rfl rfl rfl (V0 rfl rfl) ?_
 refine Jg ?_
 refine Qb (b := (decide (t12 ≠ 0))) rfl (fun hb => ?_) (fun hb => ?_)
 ·have H36 := Jo hb H35; clear H35
  refine Jf ?_
  refine Jb ?_
  refine Ja rfl rfl rfl (Jd (v := .int .i64 t12) rfl) ?_
  refine Ja rfl rfl rfl (Jc (v := .int .i64 t12) rfl) ?_
  refine Jg ?_
  refine Ju ?_
  obtain rfl := Option.some.inj H36
  refine Qa (v := .int .i64 t12) rfl rfl (fin rfl)
 ·have H37 := Jp hb H35; clear H35
  refine Jt ?_
  refine Jf ?_
  refine Jb ?_
  refine Ja rfl rfl rfl (Jl Try.runUnderlying29 rfl Try.sizeOf3 rfl rfl) ?_
  refine Jq (i := 0) (v := .int .i64 a0.Kind) Try.isAgg3 rfl rfl rfl rfl rfl ?_
  obtain ⟨t19, h_t19, H38⟩ := Jj H37; clear H37
  refine Z7 (k80 h_t19) Try.call80 rfl rfl rfl ?_
  refine Ja rfl rfl rfl (Jd (v := .tuple #[.int .i64 t19.1, .int .i64 t19.2]) rfl) ?_
  refine Ja rfl rfl rfl (Yi (v := .int .i64 t19.1) rfl rfl) ?_
  refine Ja rfl rfl rfl (Yi (v := .int .i64 t19.2) rfl rfl) ?_
  refine Ja rfl rfl rfl (Jc (v := .int .i64 t19.1) rfl) ?_
  refine Ja rfl rfl rfl (Jc (v := .int .i64 t19.2) rfl) ?_
  refine Jg ?_
  refine Qw (r := r) (σ := Unit) (τ := Unit) (fun s => Yt a0) (fun s t => [(1, .pointer (some ⟨b2, 0, none⟩))]) (fun s t => [Js b2 [.int .i64 a0.Kind, str a0.Text, v0_2, v0_3, v0_4] 29]) (fun s t => True) ?_ ?_
  ·refine Jf ?_
   refine Jb ?_
   refine Ja rfl rfl rfl (Jl Try.runUnderlying29 rfl Try.sizeOf25 rfl rfl) ?_
   refine Jq (i := 0) (v := v0_2) Try.isAgg25 rfl rfl rfl rfl rfl ?_
   refine Ja rfl rfl rfl (Z2 Try.underlying25 rfl f0_2 rfl) ?_
   refine Ja rfl rfl rfl (Jd (v := .int .i64 0) rfl) ?_
   refine Jg ?_
   refine J0 ?_
   refine Zb (σ := Int) (τ := Unit) (fun next5 s => Qy a0 t19 next5 s) (fun s t => [(1, .pointer (some ⟨b2, 0, none⟩)), (4, .int .i64 t19.1), (5, .int .i64 t19.2), (23, v0_2), (24, .int .i64 (a0.Ints.length : Int)), (25, .int .i64 s)]) (fun s t => [Js b2 [.int .i64 a0.Kind, str a0.Text, v0_2, v0_3, v0_4] 29]) (fun s t => True) 0 () [0] H38 (by exact trivial) (by exact ⟨rfl, rfl, rfl, rfl, rfl, rfl, trivial⟩) (by decide) rfl ?_
   rintro x25_2 _ m5 gg H61 _
   clear H38
   replace H61 : Qy a0 t19 (it (fun next5 s => Qy a0 t19 next5 s) m5) x25_2 = some r := H61
   generalize hn5 : it (fun next5 s => Qy a0 t19 next5 s) m5 = next5 at H61
   try dsimp only
   refine Jf ?_
   refine Jb ?_
   refine Ja rfl rfl rfl (Xy rfl rfl) ?_
   refine Jg ?_
   refine Jf ?_
   refine Qb (b := (decide (x25_2 < (a0.Ints.length : Int)))) rfl (fun hb => ?_) (fun hb => ?_)
   ·have H62 := Jo hb H61; clear H61
    refine Jt ?_
    refine Jf ?_
    refine J0 ?_
    refine Jf ?_
    refine Jb ?_
    obtain ⟨t27, h_t27, H63⟩ := Jj H62; clear H62
    refine Ja rfl rfl rfl (Qe Try.underlying25 Try.sizeOf3 rfl rfl f0_2 h_t27) ?_
    refine Xl (fun w hF hS => Qk (f := J8) (i := x25_2) (sz := 1) (j := 0) (v := .int .i64 t27) Try.isAgg3 rfl rfl (f0_2.row (hw.now hF)) h_t27 rfl) rfl rfl rfl ?_
    refine Ja rfl rfl rfl (Jc (v := .int .i64 t27) rfl) ?_
    refine Jg ?_
    refine Jf ?_
    refine Jb ?_
    refine Ja rfl rfl rfl (Jd (v := .int .i64 t27) rfl) ?_
    refine Ja rfl rfl rfl (Jd (v := .int .i64 t19.1) rfl) ?_
    refine Ja rfl rfl rfl (Jd (v := .int .i64 t19.2) rfl) ?_
    obtain ⟨t32, h_t32, H64⟩ := Jj H63; clear H63
    refine Z7 (k56 h_t32) Try.call56 rfl rfl rfl ?_
    refine Jg ?_
    refine Qb (b := t32) rfl (fun hb => ?_) (fun hb => ?_)
    ·have H65 := Jo hb H64; clear H64
     refine Jf ?_
     refine Jb ?_
     refine Ja rfl rfl rfl (Jc (v := .int .i64 2) rfl) ?_
     refine Jg ?_
     refine Ju ?_
     obtain rfl := Option.some.inj H65
     refine Qa (v := .int .i64 2) rfl rfl (fin rfl)
    ·have H66 := Jp hb H64; clear H64
     refine Jt ?_
     refine Jb ?_
     obtain ⟨t33, h_t33, H67⟩ := Jj H66; clear H66
     refine Ja rfl rfl rfl (Qn rfl rfl h_t33) ?_
     refine Ja rfl rfl rfl (Jd (v := .int .i64 t33) rfl) ?_
     refine Jg ?_
     refine Jn t33 () m5 [0] (by exact ⟨rfl, rfl, rfl, rfl, rfl, rfl, trivial⟩) (by decide) (by kernel_rfl) (by exact ⟨(by subst hn5; exact H67), trivial⟩) (Nat.lt_succ_self _)
   ·have H68 := Jp hb H61; clear H61
    refine Xq ?_
    refine Jn () () 0 [0] (by exact ⟨rfl, trivial⟩) (by decide) (by kernel_rfl) (by exact ⟨H68, trivial⟩) (Nat.lt_succ_self _)
  ·rintro _ _ gg H39 _
   replace H39 : Yt a0 = some r := H39
   try dsimp only
   refine Qw (r := r) (σ := Unit) (τ := Unit) (fun s => Yu a0) (fun s t => [(1, .pointer (some ⟨b2, 0, none⟩))]) (fun s t => [Js b2 [.int .i64 a0.Kind, str a0.Text, v0_2, v0_3, v0_4] 29]) (fun s t => True) ?_ ?_
   ·refine Jf ?_
    refine Jb ?_
    refine Ja rfl rfl rfl (Jl Try.runUnderlying29 rfl Try.sizeOf26 rfl rfl) ?_
    refine Jq (i := 0) (v := v0_3) Try.isAgg26 rfl rfl rfl rfl rfl ?_
    refine Ja rfl rfl rfl (Z2 Try.underlying26 rfl f0_3 rfl) ?_
    refine Ja rfl rfl rfl (Jd (v := .int .i64 0) rfl) ?_
    refine Jg ?_
    refine J0 ?_
    refine Zb (σ := Int) (τ := Unit) (fun next4 s => Qx a0 next4 s) (fun s t => [(1, .pointer (some ⟨b2, 0, none⟩)), (35, v0_3), (36, .int .i64 (a0.Ratios.length : Int)), (37, .int .i64 s)]) (fun s t => [Js b2 [.int .i64 a0.Kind, str a0.Text, v0_2, v0_3, v0_4] 29]) (fun s t => True) 0 () [0] H39 (by exact trivial) (by exact ⟨rfl, rfl, rfl, rfl, trivial⟩) (by decide) rfl ?_
    rintro x37_2 _ m4 gg H50 _
    clear H39
    replace H50 : Qx a0 (it (fun next4 s => Qx a0 next4 s) m4) x37_2 = some r := H50
    generalize hn4 : it (fun next4 s => Qx a0 next4 s) m4 = next4 at H50
    try dsimp only
    refine Jf ?_
    refine Jb ?_
    refine Ja rfl rfl rfl (Xy rfl rfl) ?_
    refine Jg ?_
    refine Jf ?_
    refine Qb (b := (decide (x37_2 < (a0.Ratios.length : Int)))) rfl (fun hb => ?_) (fun hb => ?_)
    ·have H51 := Jo hb H50; clear H50
     refine Jt ?_
     refine Jf ?_
     refine J0 ?_
     refine Jf ?_
     refine Jb ?_
     obtain ⟨t39, h_t39, H52⟩ := Jj H51; clear H51
     refine Ja rfl rfl rfl (Qe Try.underlying26 Try.sizeOf77 rfl rfl f0_3 h_t39) ?_
     refine Xl (fun w hF hS => Xb (f := Jr) (i := x37_2) (sz := 2) (j := 0) (vs := [.int .i64 t39.Num, .int .i64 t39.Den]) Try.isAgg77 Try.sizeOf77 rfl rfl (f0_3.row (hw.now hF)) h_t39 rfl) rfl rfl rfl ?_
     refine Vx (cs := [.int .i64 0, .int .i64 0]) Try.zeroValue77 rfl rfl rfl (fun b3 => ?_)
     refine Zn (i := 1) (vs := [.int .i64 t39.Num, .int .i64 t39.Den]) (cs' := [.int .i64 t39.Num, .int .i64 t39.Den]) Try.sizeOf77 rfl rfl rfl rfl rfl rfl rfl rfl rfl ?_
     refine Jg ?_
     refine Jf ?_
     refine Jb ?_
     refine Ja rfl rfl rfl (Jl Try.runUnderlying77 rfl Try.sizeOf3 rfl rfl) ?_
     refine Jq (i := 1) (v := .int .i64 t39.Num) Try.isAgg3 rfl rfl rfl rfl rfl ?_
     obtain ⟨t43, h_t43, H53⟩ := Jj H52; clear H52
     refine Z7 (k56 h_t43) Try.call56 rfl rfl rfl ?_
     refine Ja rfl rfl rfl (Jd (v := .bool t43) rfl) ?_
     refine split (fun hb => ?_) (fun hb => ?_)
     ·have H54 := Jo hb H53; clear H53
      refine Jh rfl rfl rfl ?_
      refine Jh rfl rfl rfl ?_
      refine Jh rfl rfl rfl ?_
      refine Ja rfl rfl rfl (J5 (v := .bool true) rfl rfl) ?_
      refine Jg ?_
      refine Wz rfl ?_
      refine Jf ?_
      refine Jb ?_
      refine Ja rfl rfl rfl (Jc (v := .int .i64 2) rfl) ?_
      refine Jg ?_
      refine Ju ?_
      obtain rfl := Option.some.inj H54
      refine Qa (v := .int .i64 2) rfl rfl (fin rfl)
     ·have H55 := Jp hb H53; clear H53
      refine Ja rfl rfl rfl (Jl Try.runUnderlying77 rfl Try.sizeOf3 rfl rfl) ?_
      refine Jq (i := 1) (v := .int .i64 t39.Den) Try.isAgg3 rfl rfl rfl rfl rfl ?_
      obtain ⟨t47, h_t47, H56⟩ := Jj H55; clear H55
      refine Z7 (k56 h_t47) Try.call56 rfl rfl rfl ?_
      refine Ja rfl rfl rfl (J7 (v := .bool t47) rfl rfl) ?_
      refine Jg ?_
      refine Qb (b := t47) rfl (fun hb => ?_) (fun hb => ?_)
      ·have H57 := Jo hb H56; clear H56
       refine Jf ?_
       refine Jb ?_
       refine Ja rfl rfl rfl (Jc (v := .int .i64 2) rfl) ?_
       refine Jg ?_
       refine Ju ?_
       obtain rfl := Option.some.inj H57
       refine Qa (v := .int .i64 2) rfl rfl (fin rfl)
      ·have H58 := Jp hb H56; clear H56
       refine Jt ?_
       refine Jb ?_
       obtain ⟨t49, h_t49, H59⟩ := Jj H58; clear H58
       refine Ja rfl rfl rfl (Qn rfl rfl h_t49) ?_
       refine Ja rfl rfl rfl (Jd (v := .int .i64 t49) rfl) ?_
       refine Jg ?_
       refine Jn t49 () m4 [0] (by exact ⟨rfl, rfl, rfl, rfl, trivial⟩) (by decide) (by kernel_rfl) (by exact ⟨(by subst hn4; exact H59), trivial⟩) (Nat.lt_succ_self _)
    ·have H60 := Jp hb H50; clear H50
     refine Xq ?_
     refine Jn () () 0 [0] (by exact ⟨rfl, trivial⟩) (by decide) (by kernel_rfl) (by exact ⟨H60, trivial⟩) (Nat.lt_succ_self _)
   ·rintro _ _ gg H40 _
    replace H40 : Yu a0 = some r := H40
    try dsimp only
    refine Jf ?_
    refine Jf ?_
    refine Jb ?_
    refine Ja rfl rfl rfl (Jl Try.runUnderlying29 rfl Try.sizeOf3 rfl rfl) ?_
    refine Jq (i := 0) (v := .int .i64 a0.Kind) Try.isAgg3 rfl rfl rfl rfl rfl ?_
    refine Ja rfl rfl rfl (Qq rfl rfl) ?_
    refine Jg ?_
    refine Qb (b := (decide (a0.Kind = 2))) rfl (fun hb => ?_) (fun hb => ?_)
    ·have H41 := Jo hb H40; clear H40
     refine Jf ?_
     refine Jb ?_
     refine Ja rfl rfl rfl (Jl Try.runUnderlying29 rfl Try.sizeOf9 rfl rfl) ?_
     refine Jq (i := 0) (v := str a0.Text) Try.isAgg9 rfl rfl rfl rfl rfl ?_
     refine Ja rfl rfl rfl (r_lenT Try.underlying9 rfl) ?_
     refine Ja rfl rfl rfl (Jd (v := .int .i64 0) rfl) ?_
     refine Jg ?_
     refine J0 ?_
     refine Zb (σ := Int) (τ := Unit) (fun next3 s => Q7 a0 next3 s) (fun s t => [(1, .pointer (some ⟨b2, 0, none⟩)), (55, .int .i64 (a0.Text.length : Int)), (56, .int .i64 s)]) (fun s t => [Js b2 [.int .i64 a0.Kind, str a0.Text, v0_2, v0_3, v0_4] 29]) (fun s t => True) 0 () [0] H41 (by exact trivial) (by exact ⟨rfl, rfl, rfl, trivial⟩) (by decide) rfl ?_
     rintro x56_2 _ m3 gg H42 _
     clear H41
     replace H42 : Q7 a0 (it (fun next3 s => Q7 a0 next3 s) m3) x56_2 = some r := H42
     generalize hn3 : it (fun next3 s => Q7 a0 next3 s) m3 = next3 at H42
     try dsimp only
     refine Jf ?_
     refine Jb ?_
     refine Ja rfl rfl rfl (Xy rfl rfl) ?_
     refine Jg ?_
     refine Jf ?_
     refine Qb (b := (decide (x56_2 < (a0.Text.length : Int)))) rfl (fun hb => ?_) (fun hb => ?_)
     ·have H43 := Jo hb H42; clear H42
      refine Jt ?_
      refine Jf ?_
      refine J0 ?_
      refine Jf ?_
      refine Jb ?_
      refine Ja rfl rfl rfl (Jd (v := .int .i64 x56_2) rfl) ?_
      refine Ja rfl rfl rfl (Jc (v := .int .i64 x56_2) rfl) ?_
      refine Jg ?_
      refine Jf ?_
      refine Jb ?_
      refine Ja rfl rfl rfl (Jl Try.runUnderlying29 rfl Try.sizeOf9 rfl rfl) ?_
      refine Jq (i := 0) (v := str a0.Text) Try.isAgg9 rfl rfl rfl rfl rfl ?_
      refine Ja rfl rfl rfl (Jd (v := .int .i64 x56_2) rfl) ?_
      obtain ⟨t62, h_t62, H44⟩ := Jj H43; clear H43
      refine Ja rfl rfl rfl (r_octG Try.underlying9 rfl rfl h_t62) ?_
      refine Ja rfl rfl rfl (Qq rfl rfl) ?_
      refine Jg ?_
      refine Qb (b := (decide (t62 = 0))) rfl (fun hb => ?_) (fun hb => ?_)
      ·have H45 := Jo hb H44; clear H44
       refine Jf ?_
       refine Jb ?_
       refine Ja rfl rfl rfl (Jc (v := .int .i64 9) rfl) ?_
       refine Jg ?_
       refine Ju ?_
       obtain rfl := Option.some.inj H45
       refine Qa (v := .int .i64 9) rfl rfl (fin rfl)
      ·have H46 := Jp hb H44; clear H44
       refine Jt ?_
       refine Jb ?_
       obtain ⟨t64, h_t64, H47⟩ := Jj H46; clear H46
       refine Ja rfl rfl rfl (Qn rfl rfl h_t64) ?_
       refine Ja rfl rfl rfl (Jd (v := .int .i64 t64) rfl) ?_
       refine Jg ?_
       refine Jn t64 () m3 [0] (by exact ⟨rfl, rfl, rfl, trivial⟩) (by decide) (by kernel_rfl) (by exact ⟨(by subst hn3; exact H47), trivial⟩) (Nat.lt_succ_self _)
     ·have H48 := Jp hb H42; clear H42
      refine Xq ?_
      refine Jf ?_
      refine Jb ?_
      refine Ja rfl rfl rfl (Jc (v := .int .i64 0) rfl) ?_
      refine Jg ?_
      refine Ju ?_
      obtain rfl := Option.some.inj H48
      refine Qa (v := .int .i64 0) rfl rfl (fin rfl)
    ·have H49 := Jp hb H40; clear H40
     refine Jt ?_
     refine Jf ?_
     refine Jb ?_
     refine Ja rfl rfl rfl (Jc (v := .int .i64 0) rfl) ?_
     refine Jg ?_
     refine Ju ?_
     obtain rfl := Option.some.inj H49
     refine Qa (v := .int .i64 0) rfl rfl (fin rfl)
theorem k54_it (mm : Nat) : ∀ {a0 : (List T_tag_Entry)} {v0 : Value} {a1 : Int} {r : Int} {w : World} {h : Jy} (hw : Know h w Zc) (f0 : FrN h 6 v0 g_tag_Entry a0) (H : it (fun (self : ((List T_tag_Entry) × Int) → Option (Int)) (s : (List T_tag_Entry) × Int) => Xr self s.1 s.2) mm (a0, a1) = some r), Does Try.prog 54 (List.toArray [v0, .int .i64 a1]) w (fun v w' => v = (.int .i64 r) ∧ Grow w w') := by
 induction mm with
 | zero => intros; rename_i H; exact absurd H (by simp [it])
 | succ mm ih =>
  intro a0 v0 a1 r w h hw f0 H
  replace H : Xr (it (fun (self : ((List T_tag_Entry) × Int) → Option (Int)) (s : (List T_tag_Entry) × Int) => Xr self s.1 s.2) mm) a0 a1 = some r := H
  generalize it (fun (self : ((List T_tag_Entry) × Int) → Option (Int)) (s : (List T_tag_Entry) × Int) => Xr self s.1 s.2) mm = self at H ih
  refine enter (n := 62) Try.func54 rfl rfl rfl Zc [] (Sat.nil _ _) ?_
  refine Jf ?_
  refine Jb ?_
  refine Ja rfl rfl rfl (Jc (v := .int .i64 0) rfl) ?_
  refine Jg ?_
  refine Jf ?_
  refine Jf ?_
  refine Jb ?_
  refine Ja rfl rfl rfl (Jd (v := .int .i64 a1) rfl) ?_
  refine Ja rfl rfl rfl (Z0 rfl rfl) ?_
  refine Ja rfl rfl rfl (Jd (v := .bool (decide (5 < a1))) rfl) ?_
  refine split (fun hb => ?_) (fun hb => ?_)
  ·have H31 := Jo hb H; clear H
   refine Jh rfl rfl rfl ?_
   refine Jh rfl rfl rfl ?_
   refine Jh rfl rfl rfl ?_
   refine Ja rfl rfl rfl (J5 (v := .bool true) rfl rfl) ?_
   refine Jg ?_
   refine Wz rfl ?_
   refine Jf ?_
   refine Jb ?_
   refine Ja rfl rfl rfl (Jc (v := .int .i64 4) rfl) ?_
   refine Jg ?_
   refine Ju ?_
   obtain rfl := Option.some.inj H31
   refine Qa (v := .int .i64 4) rfl rfl (fin rfl)
  ·have H32 := Jp hb H; clear H
   refine Ja rfl rfl rfl (Jd (v := v0) rfl) ?_
   refine Ja rfl rfl rfl (Qu Try.underlying27 rfl f0) ?_
   refine Ja rfl rfl rfl (Z0 rfl rfl) ?_
   refine Ja rfl rfl rfl (J7 (v := .bool (decide (200 < (a0.length : Int)))) rfl rfl) ?_
   refine Jg ?_
   refine Qb (b := (decide (200 < (a0.length : Int)))) rfl (fun hb => ?_) (fun hb => ?_)
   ·have H33 := Jo hb H32; clear H32
    refine Jf ?_
    refine Jb ?_
    refine Ja rfl rfl rfl (Jc (v := .int .i64 4) rfl) ?_
    refine Jg ?_
    refine Ju ?_
    obtain rfl := Option.some.inj H33
    refine Qa (v := .int .i64 4) rfl rfl (fin rfl)
   ·have H34 := Jp hb H32; clear H32
    refine Jt ?_
    refine Jf ?_
    refine Jf ?_
    refine Jb ?_
    refine Ja rfl rfl rfl (Jd (v := v0) rfl) ?_
    refine Ja rfl rfl rfl (Qu Try.underlying27 rfl f0) ?_
    refine Ja rfl rfl rfl (Jd (v := .int .i64 0) rfl) ?_
    refine Jg ?_
    refine J0 ?_
    refine Zb (σ := Int) (τ := Unit) (fun next1 s => Yw a0 a1 self next1 s) (fun s t => [(0, v0), (1, .int .i64 a1), (15, v0), (16, .int .i64 (a0.length : Int)), (17, .int .i64 s)]) (fun s t => []) (fun s t => True) 0 () [] H34 (by exact trivial) (by exact ⟨rfl, rfl, rfl, rfl, rfl, trivial⟩) (by decide) rfl ?_
    rintro x17_2 _ m1 gg H35 _
    clear H34
    replace H35 : Yw a0 a1 self (it (fun next1 s => Yw a0 a1 self next1 s) m1) x17_2 = some r := H35
    generalize hn1 : it (fun next1 s => Yw a0 a1 self next1 s) m1 = next1 at H35
    try dsimp only
    refine Jf ?_
    refine Jb ?_
    refine Ja rfl rfl rfl (Xy rfl rfl) ?_
    refine Jg ?_
    refine Jf ?_
    refine Qb (b := (decide (x17_2 < (a0.length : Int)))) rfl (fun hb => ?_) (fun hb => ?_)
    ·have H36 := Jo hb H35; clear H35
     refine Jt ?_
     refine Jf ?_
     refine J0 ?_
     refine Jf ?_
     refine Jb ?_
     refine Ja rfl rfl rfl (Jd (v := .int .i64 x17_2) rfl) ?_
     obtain ⟨t20, h_t20, H37⟩ := Jj H36; clear H36
     refine Ja rfl rfl rfl (Qe Try.underlying27 Try.sizeOf70 rfl rfl f0.frs (f0.ix h_t20)) ?_
     refine Xl (fun w hF hS => Xb (f := (V2 h v0 6)) (i := x17_2) (sz := 6) (j := 0) (vs := [.int .i64 t20.Tag, .int .i64 t20.Value.Kind, str t20.Value.Text, (J6 h v0 6 (Int.toNat x17_2) 3), (J6 h v0 6 (Int.toNat x17_2) 4), (J6 h v0 6 (Int.toNat x17_2) 5)]) Try.isAgg70 Try.sizeOf70 rfl rfl (f0.frs.row (hw.now hF)) (f0.ix h_t20) (rd_of (Qh (f0.at h_t20)) rfl)) rfl rfl rfl ?_
     refine Vx (cs := [.int .i64 0, .int .i64 0, str [], .slice none 0 0, .slice none 0 0, .slice none 0 0]) Try.zeroValue70 rfl rfl rfl (fun b1 => ?_)
     refine Ja rfl rfl rfl (Jc (v := .int .i64 x17_2) rfl) ?_
     refine Zn (i := 0) (vs := [.int .i64 t20.Tag, .int .i64 t20.Value.Kind, str t20.Value.Text, (J6 h v0 6 (Int.toNat x17_2) 3), (J6 h v0 6 (Int.toNat x17_2) 4), (J6 h v0 6 (Int.toNat x17_2) 5)]) (cs' := [.int .i64 t20.Tag, .int .i64 t20.Value.Kind, str t20.Value.Text, (J6 h v0 6 (Int.toNat x17_2) 3), (J6 h v0 6 (Int.toNat x17_2) 4), (J6 h v0 6 (Int.toNat x17_2) 5)]) Try.sizeOf70 rfl rfl rfl rfl rfl rfl (by simp only [List.all_cons, List.all_nil, (show FrN h 6 (J6 h v0 6 (Int.toNat x17_2) 5) g_tag_Entry t20.Value.Entries from (Jv (Ji (f0.at h_t20)))).one, (show FrS h 1 (J6 h v0 6 (Int.toNat x17_2) 3) (t20.Value.Ints.map J8) from (J1 (Ji (f0.at h_t20)))).one, (show FrS h 2 (J6 h v0 6 (Int.toNat x17_2) 4) (t20.Value.Ratios.map Jr) from (J2 (Ji (f0.at h_t20)))).one] <;> rfl) rfl rfl ?_
     refine Jg ?_
     refine Qw (r := r) (σ := Unit) (τ := Unit) (fun s => Vh a1 self x17_2 next1 t20) (fun s t => [(0, v0), (1, .int .i64 a1), (6, .pointer (some ⟨b1, 0, none⟩)), (15, v0), (16, .int .i64 (a0.length : Int)), (17, .int .i64 x17_2)]) (fun s t => [Js b1 [.int .i64 t20.Tag, .int .i64 t20.Value.Kind, str t20.Value.Text, (J6 h v0 6 (Int.toNat x17_2) 3), (J6 h v0 6 (Int.toNat x17_2) 4), (J6 h v0 6 (Int.toNat x17_2) 5)] 70]) (fun s t => True) ?_ ?_
     ·refine J0 ?_
      refine Jf ?_
      refine Jb ?_
      refine Ja rfl rfl rfl (Jl Try.runUnderlying70 rfl Try.sizeOf3 rfl rfl) ?_
      refine Jq (i := 0) (v := .int .i64 t20.Tag) Try.isAgg3 rfl rfl rfl rfl rfl ?_
      obtain ⟨t25, h_t25, H51⟩ := Jj H37; clear H37
      refine Z7 (k56 h_t25) Try.call56 rfl rfl rfl ?_
      refine Ja rfl rfl rfl (Jc (v := .bool t25) rfl) ?_
      refine Jg ?_
      refine Qb (b := t25) rfl (fun hb => ?_) (fun hb => ?_)
      ·have H52 := Jo hb H51; clear H51
       refine Jf ?_
       refine Jb ?_
       refine Ja rfl rfl rfl (Jc (v := .int .i64 2) rfl) ?_
       refine Jg ?_
       refine Ju ?_
       obtain rfl := Option.some.inj H52
       refine Qa (v := .int .i64 2) rfl rfl (fin rfl)
      ·have H53 := Jp hb H51; clear H51
       refine Jf ?_
       exact Q6 (Kd.p :: Kd.p :: Kd.p :: Kd.p :: Kd.d [0] _ :: Kd.p :: Kd.p :: Kd.p :: Kd.p :: Kd.p :: Kd.d [] _ :: Kd.p :: Kd.p :: Kd.p :: []) 0 mixed (by
        refine Jk rfl rfl (Jd (v := .int .i64 x17_2) rfl) ?_
        refine Jk rfl rfl (Z0 rfl rfl) ?_
        refine Jk rfl rfl (Jd (v := .bool (decide (0 < x17_2))) rfl) ?_
        refine Uc (fun hb => ?_) (fun hb => ?_)
        ·have H54 := Jo hb H53
         refine Jk rfl rfl (Jl Try.runUnderlying70 rfl Try.sizeOf3 rfl rfl) ?_
         refine Xk (i := 0) (v := .int .i64 t20.Tag) Try.isAgg3 rfl rfl rfl rfl ?_
         refine Jk rfl rfl (Jd (v := v0) rfl) ?_
         refine Jk rfl rfl (Jd (v := .int .i64 x17_2) rfl) ?_
         have h_t34 := J4 H54
         have H55 := Jw H54
         refine Jk rfl rfl (r_subG rfl rfl h_t34) ?_
         have h_t35 := J4 H55
         have H56 := Jw H55
         refine Jk rfl rfl (Qe Try.underlying27 Try.sizeOf70 rfl rfl f0.frs (f0.ix h_t35)) ?_
         refine Jk rfl rfl (Xz Try.runUnderlying70 rfl Try.sizeOf3 rfl rfl (Q2 f0.frs (f0.ix h_t35))) ?_
         refine Zp (fun w hF => Qk (f := (V2 h v0 6)) (i := (val (gI (x17_2 - 1)))) (sz := 6) (j := 0) (v := .int .i64 (val (Qj a0 (val (gI (x17_2 - 1))))).Tag) Try.isAgg3 rfl rfl (f0.frs.row (hw.now hF)) (f0.ix h_t35) (Vj (Qh (f0.at h_t35)) rfl)) rfl rfl ?_
         refine Jk rfl rfl (r_leq rfl rfl) ?_
         refine Jk rfl rfl (J5 (v := .bool (decide (t20.Tag ≤ (val (Qj a0 (val (gI (x17_2 - 1))))).Tag))) rfl rfl) ?_
         refine Jk rfl rfl (Jc (v := .bool (decide (t20.Tag ≤ (val (Qj a0 (val (gI (x17_2 - 1))))).Tag))) rfl) ?_
         refine Yp ?_
         refine Qb (b := (decide (t20.Tag ≤ (val (Qj a0 (val (gI (x17_2 - 1))))).Tag))) rfl (fun hb => ?_) (fun hb => ?_)
         ·have H57 := Jo hb H56; clear H56
          refine Jf ?_
          refine Jb ?_
          refine Ja rfl rfl rfl (Jc (v := .int .i64 5) rfl) ?_
          refine Jg ?_
          refine Ju ?_
          obtain rfl := Option.some.inj H57
          refine Qa (v := .int .i64 5) rfl rfl (fin rfl)
         ·have H58 := Jp hb H56; clear H56
          refine Jt ?_
          refine Jn () () 0 [0] (by exact ⟨rfl, rfl, rfl, rfl, rfl, rfl, trivial⟩) (by decide) (by kernel_rfl) (by exact ⟨H58, trivial⟩) (Nat.lt_succ_self _)
        ·have H59 := Jp hb H53
         refine Jx rfl rfl ?_
         refine Jx rfl rfl ?_
         refine Jx rfl rfl ?_
         refine Jx rfl rfl ?_
         refine Jx rfl rfl ?_
         refine Jx rfl rfl ?_
         refine Jx rfl rfl ?_
         refine Jx rfl rfl ?_
         refine Jx rfl rfl ?_
         refine Jk rfl rfl (J7 (v := .bool false) rfl rfl) ?_
         refine Jk rfl rfl (Jc (v := .bool false) rfl) ?_
         refine Yp ?_
         refine Uj rfl ?_
         refine Jt ?_
         refine Jn () () 0 [0] (by exact ⟨rfl, rfl, rfl, rfl, rfl, rfl, trivial⟩) (by decide) (by kernel_rfl) (by exact ⟨H59, trivial⟩) (Nat.lt_succ_self _)
        ) (by kernel_rfl)
     ·rintro _ _ gg H38 _
      replace H38 : Vh a1 self x17_2 next1 t20 = some r := H38
      try dsimp only
      refine Jf ?_
      refine Jb ?_
      refine Ja rfl rfl rfl (Jc (v := .int .i64 0) rfl) ?_
      refine Jg ?_
      refine Qw (r := r) (σ := Int) (τ := Unit) (fun s => Yv x17_2 next1 s) (fun s t => [(0, v0), (1, .int .i64 a1), (7, .int .i64 s), (15, v0), (16, .int .i64 (a0.length : Int)), (17, .int .i64 x17_2)]) (fun s t => []) (fun s t => True) ?_ ?_
      ·refine Jf ?_
       refine Jb ?_
       refine Ja rfl rfl rfl (Jl Try.runUnderlying70 rfl Try.sizeOf29 rfl rfl) ?_
       refine Ja rfl rfl rfl (Jl Try.runUnderlying29 rfl Try.sizeOf3 rfl rfl) ?_
       refine Jq (i := 0) (v := .int .i64 t20.Value.Kind) Try.isAgg3 rfl rfl rfl rfl rfl ?_
       refine Ja rfl rfl rfl (V0 rfl rfl) ?_
       refine Jg ?_
       refine Qb (b := (decide (t20.Value.Kind ≠ 13))) rfl (fun hb => ?_) (fun hb => ?_)
       ·have H43 := Jo hb H38; clear H38
        refine Jb ?_
        refine Ja rfl rfl rfl (Jl Try.runUnderlying70 rfl Try.sizeOf29 rfl rfl) ?_
        refine X2 (i := 0) (vs := [.int .i64 t20.Value.Kind, str t20.Value.Text, (J6 h v0 6 (Int.toNat x17_2) 3), (J6 h v0 6 (Int.toNat x17_2) 4), (J6 h v0 6 (Int.toNat x17_2) 5)]) Try.isAgg29 Try.sizeOf29 rfl rfl rfl rfl rfl ?_
        obtain ⟨t46, h_t46, H44⟩ := Jj H43; clear H43
        refine Xa (fun w hF hS => k62 (Qf w) ((show FrS h 1 (J6 h v0 6 (Int.toNat x17_2) 3) (t20.Value.Ints.map J8) from (J1 (Ji (f0.at h_t20)))).mono (hw.now hF)) ((show FrS h 2 (J6 h v0 6 (Int.toNat x17_2) 4) (t20.Value.Ratios.map Jr) from (J2 (Ji (f0.at h_t20)))).mono (hw.now hF)) ((show FrN h 6 (J6 h v0 6 (Int.toNat x17_2) 5) g_tag_Entry t20.Value.Entries from (Jv (Ji (f0.at h_t20)))).mono (hw.now hF)) h_t46) Try.call62 rfl rfl rfl ?_
        refine Ja rfl rfl rfl (Jc (v := .int .i64 t46) rfl) ?_
        refine Jg ?_
        refine Jn t46 () 0 [] (by exact ⟨rfl, rfl, rfl, rfl, rfl, rfl, trivial⟩) (by decide) (by kernel_rfl) (by exact ⟨H44, trivial⟩) (Nat.lt_succ_self _)
       ·have H45 := Jp hb H38; clear H38
        refine Jf ?_
        refine Jb ?_
        refine Ja rfl rfl rfl (Jl Try.runUnderlying70 rfl Try.sizeOf29 rfl rfl) ?_
        refine X2 (i := 0) (vs := [.int .i64 t20.Value.Kind, str t20.Value.Text, (J6 h v0 6 (Int.toNat x17_2) 3), (J6 h v0 6 (Int.toNat x17_2) 4), (J6 h v0 6 (Int.toNat x17_2) 5)]) Try.isAgg29 Try.sizeOf29 rfl rfl rfl rfl rfl ?_
        obtain ⟨t49, h_t49, H46⟩ := Jj H45; clear H45
        refine Xa (fun w hF hS => k63 (Qf w) ((show FrS h 1 (J6 h v0 6 (Int.toNat x17_2) 3) (t20.Value.Ints.map J8) from (J1 (Ji (f0.at h_t20)))).mono (hw.now hF)) ((show FrS h 2 (J6 h v0 6 (Int.toNat x17_2) 4) (t20.Value.Ratios.map Jr) from (J2 (Ji (f0.at h_t20)))).mono (hw.now hF)) ((show FrN h 6 (J6 h v0 6 (Int.toNat x17_2) 5) g_tag_Entry t20.Value.Entries from (Jv (Ji (f0.at h_t20)))).mono (hw.now hF)) h_t49) Try.call63 rfl rfl rfl ?_
        refine Ja rfl rfl rfl (Jc (v := .int .i64 t49) rfl) ?_
        refine Jg ?_
        refine Jf ?_
        refine Jb ?_
        refine Ja rfl rfl rfl (Jd (v := .int .i64 t49) rfl) ?_
        refine Ja rfl rfl rfl (Qq rfl rfl) ?_
        refine Jg ?_
        refine Qb (b := (decide (t49 = 0))) rfl (fun hb => ?_) (fun hb => ?_)
        ·have H47 := Jo hb H46; clear H46
         refine Jb ?_
         refine Ja rfl rfl rfl (Jl Try.runUnderlying70 rfl Try.sizeOf29 rfl rfl) ?_
         refine Ja rfl rfl rfl (Jl Try.runUnderlying29 rfl Try.sizeOf27 rfl rfl) ?_
         refine Jq (i := 0) (v := (J6 h v0 6 (Int.toNat x17_2) 5)) Try.isAgg27 rfl rfl rfl rfl rfl ?_
         refine Ja rfl rfl rfl (Jd (v := .int .i64 a1) rfl) ?_
         obtain ⟨t56, h_t56, H48⟩ := Jj H47; clear H47
         refine Ja rfl rfl rfl (Qn rfl rfl h_t56) ?_
         obtain ⟨t57, h_t57, H49⟩ := Jj H48; clear H48
         refine Xa (fun w hF hS => ih (Qf w) ((show FrN h 6 (J6 h v0 6 (Int.toNat x17_2) 5) g_tag_Entry t20.Value.Entries from (Jv (Ji (f0.at h_t20)))).mono (hw.now hF)) h_t57) Try.call54 rfl rfl rfl ?_
         refine Ja rfl rfl rfl (Jc (v := .int .i64 t57) rfl) ?_
         refine Jg ?_
         refine Jn t57 () 0 [] (by exact ⟨rfl, rfl, rfl, rfl, rfl, rfl, trivial⟩) (by decide) (by kernel_rfl) (by exact ⟨H49, trivial⟩) (Nat.lt_succ_self _)
        ·have H50 := Jp hb H46; clear H46
         refine Jt ?_
         refine Jn t49 () 0 [] (by exact ⟨rfl, rfl, rfl, rfl, rfl, rfl, trivial⟩) (by decide) (by kernel_rfl) (by exact ⟨H50, trivial⟩) (Nat.lt_succ_self _)
      ·rintro x7 _ gg H39 _
       replace H39 : Yv x17_2 next1 x7 = some r := H39
       try dsimp only
       refine Jf ?_
       refine Jb ?_
       refine Ja rfl rfl rfl (Jd (v := .int .i64 x7) rfl) ?_
       refine Ja rfl rfl rfl (V0 rfl rfl) ?_
       refine Jg ?_
       refine Qb (b := (decide (x7 ≠ 0))) rfl (fun hb => ?_) (fun hb => ?_)
       ·have H40 := Jo hb H39; clear H39
        refine Jf ?_
        refine Jb ?_
        refine Ja rfl rfl rfl (Jd (v := .int .i64 x7) rfl) ?_
        refine Ja rfl rfl rfl (Jc (v := .int .i64 x7) rfl) ?_
        refine Jg ?_
        refine Ju ?_
        obtain rfl := Option.some.inj H40
        refine Qa (v := .int .i64 x7) rfl rfl (fin rfl)
       ·have H41 := Jp hb H39; clear H39
        refine Jt ?_
        refine Jb ?_
        obtain ⟨t61, h_t61, H42⟩ := Jj H41; clear H41
        refine Ja rfl rfl rfl (Qn rfl rfl h_t61) ?_
        refine Ja rfl rfl rfl (Jd (v := .int .i64 t61) rfl) ?_
        refine Jg ?_
        refine Jn t61 () m1 [] (by exact ⟨rfl, rfl, rfl, rfl, rfl, trivial⟩) (by decide) (by kernel_rfl) (by exact ⟨(by subst hn1; exact H42), trivial⟩) (Nat.lt_succ_self _)
    ·have H60 := Jp hb H35; clear H35
     refine Xq ?_
     refine Jf ?_
     refine Jb ?_
     refine Ja rfl rfl rfl (Jc (v := .int .i64 0) rfl) ?_
     refine Jg ?_
     refine Ju ?_
     obtain rfl := Option.some.inj H60
     refine Qa (v := .int .i64 0) rfl rfl (fin rfl)
theorem k54 {a0 : (List T_tag_Entry)} {v0 : Value} {a1 : Int} {r : Int} {w : World} {h : Jy} (hw : Know h w Zc) (f0 : FrN h 6 v0 g_tag_Entry a0) (H : Uh a0 a1 = some r) : Does Try.prog 54 (List.toArray [v0, .int .i64 a1]) w (fun v w' => v = (.int .i64 r) ∧ Grow w w') := by
 obtain ⟨mm, hm⟩ := fix_it (show Z5 (fun (self : ((List T_tag_Entry) × Int) → Option (Int)) (s : (List T_tag_Entry) × Int) => Xr self s.1 s.2) (a0, a1) = some r from H)
 exact k54_it mm hw f0 hm
theorem k96 {a0 : Int} {r : Int} (H : tag_even a0 = some r) : Ret Try.prog 96 [.int .i64 a0] (.int .i64 r) := by
 refine Y8 (n := 7) Try.func96 rfl rfl rfl (fun wd => ?_)
 refine Jf ?_
 refine Jb ?_
 refine Ja rfl rfl rfl (Jc (v := .int .i64 0) rfl) ?_
 refine Jg ?_
 refine Jf ?_
 refine Jb ?_
 refine Ja rfl rfl rfl (Jd (v := .int .i64 a0) rfl) ?_
 refine Ja rfl rfl rfl (Jd (v := .int .i64 a0) rfl) ?_
 obtain ⟨t5, h_t5, H3⟩ := Jj H; clear H
 refine Ja rfl rfl rfl (r_remG rfl rfl h_t5) ?_
 obtain ⟨t6, h_t6, H4⟩ := Jj H3; clear H3
 refine Ja rfl rfl rfl (Qn rfl rfl h_t6) ?_
 refine Ja rfl rfl rfl (Jc (v := .int .i64 t6) rfl) ?_
 refine Jg ?_
 refine Ju ?_
 obtain rfl := Option.some.inj H4
 refine Qa (v := .int .i64 t6) rfl rfl (fin rfl)
theorem k115 {a0 : T_tag_Value} {v0_2 : Value} {v0_3 : Value} {v0_4 : Value} {r : Int} {w : World} {h : Jy} (hw : Know h w Zc) (f0_2 : FrS h 1 v0_2 (a0.Ints.map J8)) (f0_3 : FrS h 2 v0_3 (a0.Ratios.map Jr)) (f0_4 : FrN h 6 v0_4 g_tag_Entry a0.Entries) (H : tag_count a0 = some r) : Does Try.prog 115 (List.toArray [.agg #[.int .i64 a0.Kind, str a0.Text, v0_2, v0_3, v0_4]]) w (fun v w' => v = (.int .i64 r) ∧ Grow w w') := by
 refine enter (n := 26) Try.func115 rfl rfl rfl Zc [] (Sat.nil _ _) ?_
 refine Jf ?_
 refine Jb ?_
 refine Vi (cs := [.int .i64 a0.Kind, str a0.Text, v0_2, v0_3, v0_4]) rfl rfl rfl rfl (fun b1 => ?_)
 refine Ja rfl rfl rfl (Jc (v := .int .i64 0) rfl) ?_
 refine Jg ?_
 refine Jf ?_
 refine Jf ?_
 refine Jb ?_
 refine Ja rfl rfl rfl (Jl Try.runUnderlying29 rfl Try.sizeOf3 rfl rfl) ?_
 refine Jq (i := 0) (v := .int .i64 a0.Kind) Try.isAgg3 rfl rfl rfl rfl rfl ?_
 refine Jg ?_
 refine J0 ?_
 refine Jf ?_
 refine Jb ?_
 refine Ja rfl rfl rfl (Qq rfl rfl) ?_
 refine Ja rfl rfl rfl (Jc (v := .bool (decide (a0.Kind = 2))) rfl) ?_
 refine Jg ?_
 refine Qb (b := (decide (a0.Kind = 2))) rfl (fun hb => ?_) (fun hb => ?_)
 ·have H10 := Jo hb H; clear H
  refine Jf ?_
  refine Jb ?_
  refine Ja rfl rfl rfl (Jl Try.runUnderlying29 rfl Try.sizeOf9 rfl rfl) ?_
  refine Jq (i := 0) (v := str a0.Text) Try.isAgg9 rfl rfl rfl rfl rfl ?_
  refine Ja rfl rfl rfl (r_lenT Try.underlying9 rfl) ?_
  obtain ⟨t10, h_t10, H11⟩ := Jj H10; clear H10
  refine Ja rfl rfl rfl (Qn rfl rfl h_t10) ?_
  refine Ja rfl rfl rfl (Jc (v := .int .i64 t10) rfl) ?_
  refine Jg ?_
  refine Ju ?_
  obtain rfl := Option.some.inj H11
  refine Qa (v := .int .i64 t10) rfl rfl (fin rfl)
 ·have H12 := Jp hb H; clear H
  refine Jf ?_
  refine Jb ?_
  refine Ja rfl rfl rfl (Qq rfl rfl) ?_
  refine Ja rfl rfl rfl (Jc (v := .bool (decide (a0.Kind = 7))) rfl) ?_
  refine Jg ?_
  refine Qb (b := (decide (a0.Kind = 7))) rfl (fun hb => ?_) (fun hb => ?_)
  ·have H13 := Jo hb H12; clear H12
   refine Jf ?_
   refine Jb ?_
   refine Ja rfl rfl rfl (Jl Try.runUnderlying29 rfl Try.sizeOf9 rfl rfl) ?_
   refine Jq (i := 0) (v := str a0.Text) Try.isAgg9 rfl rfl rfl rfl rfl ?_
   refine Ja rfl rfl rfl (r_lenT Try.underlying9 rfl) ?_
   refine Ja rfl rfl rfl (Jc (v := .int .i64 (a0.Text.length : Int)) rfl) ?_
   refine Jg ?_
   refine Ju ?_
   obtain rfl := Option.some.inj H13
   refine Qa (v := .int .i64 (a0.Text.length : Int)) rfl rfl (fin rfl)
  ·have H14 := Jp hb H12; clear H12
   refine Jf ?_
   refine Jb ?_
   refine Ja rfl rfl rfl (Qq rfl rfl) ?_
   refine Ja rfl rfl rfl (Jc (v := .bool (decide (a0.Kind = 5))) rfl) ?_
   refine Jg ?_
   refine Qb (b := (decide (a0.Kind = 5))) rfl (fun hb => ?_) (fun hb => ?_)
   ·have H15 := Jo hb H14; clear H14
    refine Jf ?_
    refine Jb ?_
    refine Ja rfl rfl rfl (Jl Try.runUnderlying29 rfl Try.sizeOf26 rfl rfl) ?_
    refine Jq (i := 0) (v := v0_3) Try.isAgg26 rfl rfl rfl rfl rfl ?_
    refine Ja rfl rfl rfl (Z2 Try.underlying26 rfl f0_3 rfl) ?_
    refine Ja rfl rfl rfl (Jc (v := .int .i64 (a0.Ratios.length : Int)) rfl) ?_
    refine Jg ?_
    refine Ju ?_
    obtain rfl := Option.some.inj H15
    refine Qa (v := .int .i64 (a0.Ratios.length : Int)) rfl rfl (fin rfl)
   ·have H16 := Jp hb H14; clear H14
    refine Jf ?_
    refine Jb ?_
    refine Ja rfl rfl rfl (Qq rfl rfl) ?_
    refine Ja rfl rfl rfl (Jc (v := .bool (decide (a0.Kind = 13))) rfl) ?_
    refine Jg ?_
    refine Qb (b := (decide (a0.Kind = 13))) rfl (fun hb => ?_) (fun hb => ?_)
    ·have H17 := Jo hb H16; clear H16
     refine Jf ?_
     refine Jb ?_
     refine Ja rfl rfl rfl (Jc (v := .int .i64 1) rfl) ?_
     refine Jg ?_
     refine Ju ?_
     obtain rfl := Option.some.inj H17
     refine Qa (v := .int .i64 1) rfl rfl (fin rfl)
    ·have H18 := Jp hb H16; clear H16
     refine Jt ?_
     refine Jf ?_
     refine Jb ?_
     refine Ja rfl rfl rfl (Jl Try.runUnderlying29 rfl Try.sizeOf25 rfl rfl) ?_
     refine Jq (i := 0) (v := v0_2) Try.isAgg25 rfl rfl rfl rfl rfl ?_
     refine Ja rfl rfl rfl (Z2 Try.underlying25 rfl f0_2 rfl) ?_
     refine Ja rfl rfl rfl (Jc (v := .int .i64 (a0.Ints.length : Int)) rfl) ?_
     refine Jg ?_
     refine Ju ?_
     obtain rfl := Option.some.inj H18
     refine Qa (v := .int .i64 (a0.Ints.length : Int)) rfl rfl (fin rfl)
theorem k97 {a0 : T_tag_Value} {v0_2 : Value} {v0_3 : Value} {v0_4 : Value} {r : Int} {w : World} {h : Jy} (hw : Know h w Zc) (f0_2 : FrS h 1 v0_2 (a0.Ints.map J8)) (f0_3 : FrS h 2 v0_3 (a0.Ratios.map Jr)) (f0_4 : FrN h 6 v0_4 g_tag_Entry a0.Entries) (H : Vb a0 = some r) : Does Try.prog 97 (List.toArray [.agg #[.int .i64 a0.Kind, str a0.Text, v0_2, v0_3, v0_4]]) w (fun v w' => v = (.int .i64 r) ∧ Grow w w') := by
 refine enter (n := 9) Try.func97 rfl rfl rfl Zc [] (Sat.nil _ _) ?_
 refine Jf ?_
 refine Jb ?_
 refine Vi (cs := [.int .i64 a0.Kind, str a0.Text, v0_2, v0_3, v0_4]) rfl rfl rfl rfl (fun b1 => ?_)
 refine Ja rfl rfl rfl (Jc (v := .int .i64 0) rfl) ?_
 refine Jg ?_
 refine Jf ?_
 exact Q6 (Kd.d [0] _ :: Kd.d [] _ :: Kd.p :: Kd.d [0] _ :: Kd.d [] _ :: Kd.p :: Kd.p :: []) 0 mixed (by
  refine d_loadN (i := 0) (vs := [.int .i64 a0.Kind, str a0.Text, v0_2, v0_3, v0_4]) Try.isAgg29 Try.sizeOf29 rfl rfl rfl rfl ?_
  have h_t4 := J4 H
  have H4 := Jw H
  refine d_callD (fun w L' hF hS hi => k115 (Qf w) (f0_2.mono (hw.now hF)) (f0_3.mono (hw.now hF)) (f0_4.mono (hw.now hF)) h_t4) Try.call115 rfl rfl ?_
  refine Jk rfl rfl (Jl Try.runUnderlying29 rfl Try.sizeOf3 rfl rfl) ?_
  refine Xk (i := 0) (v := .int .i64 a0.Kind) Try.isAgg3 rfl rfl rfl rfl ?_
  have h_t7 := J4 H4
  have H5 := Jw H4
  refine d_call (k81 h_t7) Try.call81 rfl rfl ?_
  have h_t8 := J4 H5
  have H6 := Jw H5
  refine Jk rfl rfl (r_mulG rfl rfl h_t8) ?_
  refine Jk rfl rfl (Jc (v := .int .i64 (val (gI ((val (tag_count a0)) * (val (V9 a0.Kind)))))) rfl) ?_
  refine Yp ?_
  refine Ju ?_
  obtain rfl := Option.some.inj H6
  refine Qa (v := .int .i64 (val (gI ((val (tag_count a0)) * (val (V9 a0.Kind)))))) rfl rfl (fin rfl)
  ) (by kernel_rfl)
theorem k79_it (mm : Nat) : ∀ {a0 : (List T_tag_Entry)} {v0 : Value} {a1 : Int} {r : Int} {w : World} {h : Jy} (hw : Know h w Zc) (f0 : FrN h 6 v0 g_tag_Entry a0) (H : it (fun (self : ((List T_tag_Entry) × Int) → Option (Int)) (s : (List T_tag_Entry) × Int) => Yb self s.1 s.2) mm (a0, a1) = some r), Does Try.prog 79 (List.toArray [v0, .int .i64 a1]) w (fun v w' => v = (.int .i64 r) ∧ Grow w w') := by
 induction mm with
 | zero => intros; rename_i H; exact absurd H (by simp [it])
 | succ mm ih =>
  intro a0 v0 a1 r w h hw f0 H
  replace H : Yb (it (fun (self : ((List T_tag_Entry) × Int) → Option (Int)) (s : (List T_tag_Entry) × Int) => Yb self s.1 s.2) mm) a0 a1 = some r := H
  generalize it (fun (self : ((List T_tag_Entry) × Int) → Option (Int)) (s : (List T_tag_Entry) × Int) => Yb self s.1 s.2) mm = self at H ih
  refine enter (n := 44) Try.func79 rfl rfl rfl Zc [] (Sat.nil _ _) ?_
  refine Jf ?_
  refine Jb ?_
  refine Ja rfl rfl rfl (Jc (v := .int .i64 0) rfl) ?_
  refine Jg ?_
  refine Jf ?_
  refine Jb ?_
  refine Ja rfl rfl rfl (Jd (v := .int .i64 a1) rfl) ?_
  obtain ⟨t8, h_t8, H21⟩ := Jj H; clear H
  refine Z7 (k96 h_t8) Try.call96 rfl rfl rfl ?_
  obtain ⟨t9, h_t9, H22⟩ := Jj H21; clear H21
  refine Ja rfl rfl rfl (Qn rfl rfl h_t9) ?_
  refine Ja rfl rfl rfl (Jd (v := v0) rfl) ?_
  refine Ja rfl rfl rfl (Qu Try.underlying27 rfl f0) ?_
  obtain ⟨t12, h_t12, H23⟩ := Jj H22; clear H22
  refine Ja rfl rfl rfl (r_mulG rfl rfl h_t12) ?_
  obtain ⟨t13, h_t13, H24⟩ := Jj H23; clear H23
  refine Ja rfl rfl rfl (Qn rfl rfl h_t13) ?_
  obtain ⟨t14, h_t14, H25⟩ := Jj H24; clear H24
  refine Ja rfl rfl rfl (Qn rfl rfl h_t14) ?_
  refine Ja rfl rfl rfl (Jc (v := .int .i64 t14) rfl) ?_
  refine Jg ?_
  refine Jf ?_
  refine Jf ?_
  refine Jb ?_
  refine Ja rfl rfl rfl (Jd (v := v0) rfl) ?_
  refine Ja rfl rfl rfl (Qu Try.underlying27 rfl f0) ?_
  refine Ja rfl rfl rfl (Jd (v := .int .i64 0) rfl) ?_
  refine Jg ?_
  refine J0 ?_
  refine Zb (σ := Int × Int) (τ := Unit) (fun next1 s => X4 a0 self next1 s.1 s.2) (fun s t => [(1, .int .i64 s.1), (15, v0), (16, .int .i64 (a0.length : Int)), (17, .int .i64 s.2)]) (fun s t => []) (fun s t => True) (t14, 0) () [] H25 (by exact trivial) (by exact ⟨rfl, rfl, rfl, rfl, trivial⟩) (by decide) rfl ?_
  rintro ⟨x1_2, x17_2⟩ _ m1 gg H26 _
  clear H25
  replace H26 : X4 a0 self (it (fun next1 s => X4 a0 self next1 s.1 s.2) m1) x1_2 x17_2 = some r := H26
  generalize hn1 : it (fun next1 s => X4 a0 self next1 s.1 s.2) m1 = next1 at H26
  try dsimp only
  refine Jf ?_
  refine Jb ?_
  refine Ja rfl rfl rfl (Xy rfl rfl) ?_
  refine Jg ?_
  refine Jf ?_
  refine Qb (b := (decide (x17_2 < (a0.length : Int)))) rfl (fun hb => ?_) (fun hb => ?_)
  ·have H27 := Jo hb H26; clear H26
   refine Jt ?_
   refine Qw (r := r) (σ := Int) (τ := Unit) (fun s => Zv x17_2 next1 s) (fun s t => [(1, .int .i64 s), (15, v0), (16, .int .i64 (a0.length : Int)), (17, .int .i64 x17_2)]) (fun s t => []) (fun s t => True) ?_ ?_
   ·refine J0 ?_
    refine Jf ?_
    refine Jb ?_
    obtain ⟨t19, h_t19, H30⟩ := Jj H27; clear H27
    refine Ja rfl rfl rfl (Qe Try.underlying27 Try.sizeOf70 rfl rfl f0.frs (f0.ix h_t19)) ?_
    refine Xl (fun w hF hS => Xb (f := (V2 h v0 6)) (i := x17_2) (sz := 6) (j := 0) (vs := [.int .i64 t19.Tag, .int .i64 t19.Value.Kind, str t19.Value.Text, (J6 h v0 6 (Int.toNat x17_2) 3), (J6 h v0 6 (Int.toNat x17_2) 4), (J6 h v0 6 (Int.toNat x17_2) 5)]) Try.isAgg70 Try.sizeOf70 rfl rfl (f0.frs.row (hw.now hF)) (f0.ix h_t19) (rd_of (Qh (f0.at h_t19)) rfl)) rfl rfl rfl ?_
    refine Vx (cs := [.int .i64 0, .int .i64 0, str [], .slice none 0 0, .slice none 0 0, .slice none 0 0]) Try.zeroValue70 rfl rfl rfl (fun b1 => ?_)
    refine Zn (i := 0) (vs := [.int .i64 t19.Tag, .int .i64 t19.Value.Kind, str t19.Value.Text, (J6 h v0 6 (Int.toNat x17_2) 3), (J6 h v0 6 (Int.toNat x17_2) 4), (J6 h v0 6 (Int.toNat x17_2) 5)]) (cs' := [.int .i64 t19.Tag, .int .i64 t19.Value.Kind, str t19.Value.Text, (J6 h v0 6 (Int.toNat x17_2) 3), (J6 h v0 6 (Int.toNat x17_2) 4), (J6 h v0 6 (Int.toNat x17_2) 5)]) Try.sizeOf70 rfl rfl rfl rfl rfl rfl (by simp only [List.all_cons, List.all_nil, (show FrN h 6 (J6 h v0 6 (Int.toNat x17_2) 5) g_tag_Entry t19.Value.Entries from (Jv (Ji (f0.at h_t19)))).one, (show FrS h 1 (J6 h v0 6 (Int.toNat x17_2) 3) (t19.Value.Ints.map J8) from (J1 (Ji (f0.at h_t19)))).one, (show FrS h 2 (J6 h v0 6 (Int.toNat x17_2) 4) (t19.Value.Ratios.map Jr) from (J2 (Ji (f0.at h_t19)))).one] <;> rfl) rfl rfl ?_
    refine Jg ?_
    refine J0 ?_
    refine Jf ?_
    refine Jb ?_
    refine Ja rfl rfl rfl (Jl Try.runUnderlying70 rfl Try.sizeOf29 rfl rfl) ?_
    refine Ja rfl rfl rfl (Jl Try.runUnderlying29 rfl Try.sizeOf3 rfl rfl) ?_
    refine Jq (i := 0) (v := .int .i64 t19.Value.Kind) Try.isAgg3 rfl rfl rfl rfl rfl ?_
    refine Ja rfl rfl rfl (Qq rfl rfl) ?_
    refine Ja rfl rfl rfl (Jc (v := .bool (decide (t19.Value.Kind = 13))) rfl) ?_
    refine Jg ?_
    refine Qb (b := (decide (t19.Value.Kind = 13))) rfl (fun hb => ?_) (fun hb => ?_)
    ·have H31 := Jo hb H30; clear H30
     refine Jb ?_
     refine Ja rfl rfl rfl (Jl Try.runUnderlying70 rfl Try.sizeOf29 rfl rfl) ?_
     refine Ja rfl rfl rfl (Jl Try.runUnderlying29 rfl Try.sizeOf27 rfl rfl) ?_
     refine Jq (i := 0) (v := (J6 h v0 6 (Int.toNat x17_2) 5)) Try.isAgg27 rfl rfl rfl rfl rfl ?_
     refine Ja rfl rfl rfl (Jd (v := .int .i64 x1_2) rfl) ?_
     obtain ⟨t30, h_t30, H32⟩ := Jj H31; clear H31
     refine Xa (fun w hF hS => ih (Qf w) ((show FrN h 6 (J6 h v0 6 (Int.toNat x17_2) 5) g_tag_Entry t19.Value.Entries from (Jv (Ji (f0.at h_t19)))).mono (hw.now hF)) h_t30) Try.call79 rfl rfl rfl ?_
     refine Ja rfl rfl rfl (Jc (v := .int .i64 t30) rfl) ?_
     refine Jg ?_
     refine Jn t30 () 0 [] (by exact ⟨rfl, rfl, rfl, rfl, trivial⟩) (by decide) (by kernel_rfl) (by exact ⟨H32, trivial⟩) (Nat.lt_succ_self _)
    ·have H33 := Jp hb H30; clear H30
     refine Jf ?_
     refine Jb ?_
     refine Ja rfl rfl rfl (Jl Try.runUnderlying70 rfl Try.sizeOf29 rfl rfl) ?_
     refine X2 (i := 0) (vs := [.int .i64 t19.Value.Kind, str t19.Value.Text, (J6 h v0 6 (Int.toNat x17_2) 3), (J6 h v0 6 (Int.toNat x17_2) 4), (J6 h v0 6 (Int.toNat x17_2) 5)]) Try.isAgg29 Try.sizeOf29 rfl rfl rfl rfl rfl ?_
     obtain ⟨t34, h_t34, H34⟩ := Jj H33; clear H33
     refine Xa (fun w hF hS => k97 (Qf w) ((show FrS h 1 (J6 h v0 6 (Int.toNat x17_2) 3) (t19.Value.Ints.map J8) from (J1 (Ji (f0.at h_t19)))).mono (hw.now hF)) ((show FrS h 2 (J6 h v0 6 (Int.toNat x17_2) 4) (t19.Value.Ratios.map Jr) from (J2 (Ji (f0.at h_t19)))).mono (hw.now hF)) ((show FrN h 6 (J6 h v0 6 (Int.toNat x17_2) 5) g_tag_Entry t19.Value.Entries from (Jv (Ji (f0.at h_t19)))).mono (hw.now hF)) h_t34) Try.call97 rfl rfl rfl ?_
     refine Ja rfl rfl rfl (Z0 rfl rfl) ?_
     refine Ja rfl rfl rfl (Jc (v := .bool (decide (4 < t34))) rfl) ?_
     refine Jg ?_
     refine Qb (b := (decide (4 < t34))) rfl (fun hb => ?_) (fun hb => ?_)
     ·have H35 := Jo hb H34; clear H34
      exact Q6 (Kd.p :: Kd.d [] _ :: Kd.p :: Kd.d [0] _ :: Kd.d [] _ :: Kd.p :: Kd.p :: []) 0 mixed (by
       refine Jk rfl rfl (Jd (v := .int .i64 x1_2) rfl) ?_
       have h_t37 := J4 H35
       have H36 := Jw H35
       refine d_call (k96 h_t37) Try.call96 rfl rfl ?_
       refine Jk rfl rfl (Jl Try.runUnderlying70 rfl Try.sizeOf29 rfl rfl) ?_
       refine d_loadN (i := 0) (vs := [.int .i64 t19.Value.Kind, str t19.Value.Text, (J6 h v0 6 (Int.toNat x17_2) 3), (J6 h v0 6 (Int.toNat x17_2) 4), (J6 h v0 6 (Int.toNat x17_2) 5)]) Try.isAgg29 Try.sizeOf29 rfl rfl rfl rfl ?_
       have h_t40 := J4 H36
       have H37 := Jw H36
       refine d_callD (fun w L' hF hS hi => k97 (Qf w) ((show FrS h 1 (J6 h v0 6 (Int.toNat x17_2) 3) (t19.Value.Ints.map J8) from (J1 (Ji (f0.at h_t19)))).mono (hw.now hF)) ((show FrS h 2 (J6 h v0 6 (Int.toNat x17_2) 4) (t19.Value.Ratios.map Jr) from (J2 (Ji (f0.at h_t19)))).mono (hw.now hF)) ((show FrN h 6 (J6 h v0 6 (Int.toNat x17_2) 5) g_tag_Entry t19.Value.Entries from (Jv (Ji (f0.at h_t19)))).mono (hw.now hF)) h_t40) Try.call97 rfl rfl ?_
       have h_t41 := J4 H37
       have H38 := Jw H37
       refine Jk rfl rfl (Qn rfl rfl h_t41) ?_
       refine Jk rfl rfl (Jc (v := .int .i64 (val (gI ((val (tag_even x1_2)) + (val (Vb t19.Value)))))) rfl) ?_
       refine Yp ?_
       refine Jn (val (gI ((val (tag_even x1_2)) + (val (Vb t19.Value))))) () 0 [] (by exact ⟨rfl, rfl, rfl, rfl, trivial⟩) (by decide) (by kernel_rfl) (by exact ⟨H38, trivial⟩) (Nat.lt_succ_self _)
       ) (by kernel_rfl)
     ·have H39 := Jp hb H34; clear H34
      refine Jt ?_
      refine Jn x1_2 () 0 [] (by exact ⟨rfl, rfl, rfl, rfl, trivial⟩) (by decide) (by kernel_rfl) (by exact ⟨H39, trivial⟩) (Nat.lt_succ_self _)
   ·rintro x1_3 _ gg H28 _
    replace H28 : Zv x17_2 next1 x1_3 = some r := H28
    try dsimp only
    refine Jb ?_
    obtain ⟨t42, h_t42, H29⟩ := Jj H28; clear H28
    refine Ja rfl rfl rfl (Qn rfl rfl h_t42) ?_
    refine Ja rfl rfl rfl (Jd (v := .int .i64 t42) rfl) ?_
    refine Jg ?_
    refine Jn (x1_3, t42) () m1 [] (by exact ⟨rfl, rfl, rfl, rfl, trivial⟩) (by decide) (by kernel_rfl) (by exact ⟨(by subst hn1; exact H29), trivial⟩) (Nat.lt_succ_self _)
  ·have H40 := Jp hb H26; clear H26
   refine Xq ?_
   refine Jf ?_
   refine Jb ?_
   refine Ja rfl rfl rfl (Jd (v := .int .i64 x1_2) rfl) ?_
   refine Ja rfl rfl rfl (Jc (v := .int .i64 x1_2) rfl) ?_
   refine Jg ?_
   refine Ju ?_
   obtain rfl := Option.some.inj H40
   refine Qa (v := .int .i64 x1_2) rfl rfl (fin rfl)
theorem k79 {a0 : (List T_tag_Entry)} {v0 : Value} {a1 : Int} {r : Int} {w : World} {h : Jy} (hw : Know h w Zc) (f0 : FrN h 6 v0 g_tag_Entry a0) (H : tag_dirEnd a0 a1 = some r) : Does Try.prog 79 (List.toArray [v0, .int .i64 a1]) w (fun v w' => v = (.int .i64 r) ∧ Grow w w') := by
 obtain ⟨mm, hm⟩ := fix_it (show Z5 (fun (self : ((List T_tag_Entry) × Int) → Option (Int)) (s : (List T_tag_Entry) × Int) => Yb self s.1 s.2) (a0, a1) = some r from H)
 exact k79_it mm hw f0 hm
theorem k55 {a0 : T_tag_File} {v0_1 : Value} {r : Int} {w : World} {h : Jy} (hw : Know h w Zc) (f0_1 : FrN h 1 v0_1 gs_tag_Entry a0.Dirs) (H : tag_size a0 = some r) : Does Try.prog 55 (List.toArray [.agg #[.bool a0.Big, v0_1]]) w (fun v w' => v = (.int .i64 r) ∧ Grow w w') := by
 refine enter (n := 18) Try.func55 rfl rfl rfl Zc [] (Sat.nil _ _) ?_
 refine Jf ?_
 refine Jb ?_
 refine Vi (cs := [.bool a0.Big, v0_1]) rfl rfl rfl rfl (fun b1 => ?_)
 refine Ja rfl rfl rfl (Jc (v := .int .i64 0) rfl) ?_
 refine Jg ?_
 refine Jf ?_
 refine Jb ?_
 refine Ja rfl rfl rfl (Jc (v := .int .i64 8) rfl) ?_
 refine Jg ?_
 refine Jf ?_
 refine Jf ?_
 refine Jb ?_
 refine Ja rfl rfl rfl (Jl Try.runUnderlying24 rfl Try.sizeOf22 rfl rfl) ?_
 refine Jq (i := 0) (v := v0_1) Try.isAgg22 rfl rfl rfl rfl rfl ?_
 refine Ja rfl rfl rfl (Qu Try.underlying22 rfl f0_1) ?_
 refine Ja rfl rfl rfl (Jd (v := .int .i64 0) rfl) ?_
 refine Jg ?_
 refine J0 ?_
 refine c_dr 0 ?_
 try dsimp only [z1, z2, z3, z4, z5, z6, z7, z8]
 refine Zb (σ := Int × Int) (τ := Unit) (fun next1 s => Y0 a0 next1 s.1 s.2) (fun s t => [(3, .int .i64 s.1), (7, v0_1), (8, .int .i64 (a0.Dirs.length : Int)), (9, .int .i64 s.2)]) (fun s t => []) (fun s t => True) (8, 0) () [] H (by exact trivial) (by exact ⟨rfl, rfl, rfl, rfl, trivial⟩) (by decide) rfl ?_
 rintro ⟨x3_2, x9_2⟩ _ m1 gg H7 _
 clear H
 replace H7 : Y0 a0 (it (fun next1 s => Y0 a0 next1 s.1 s.2) m1) x3_2 x9_2 = some r := H7
 generalize hn1 : it (fun next1 s => Y0 a0 next1 s.1 s.2) m1 = next1 at H7
 try dsimp only
 refine Jf ?_
 refine Jb ?_
 refine Ja rfl rfl rfl (Xy rfl rfl) ?_
 refine Jg ?_
 refine Jf ?_
 refine Qb (b := (decide (x9_2 < (a0.Dirs.length : Int)))) rfl (fun hb => ?_) (fun hb => ?_)
 ·have H8 := Jo hb H7; clear H7
  refine Jt ?_
  refine Jf ?_
  refine J0 ?_
  refine Jf ?_
  refine Jb ?_
  obtain ⟨t11, h_t11, H9⟩ := Jj H8; clear H8
  refine Ja rfl rfl rfl (Qe Try.underlying22 Try.sizeOf27 rfl rfl f0_1.frs (f0_1.ix h_t11)) ?_
  refine Xl (fun w hF hS => Qk (f := (V2 h v0_1 1)) (i := x9_2) (sz := 1) (j := 0) (v := (J6 h v0_1 1 (Int.toNat x9_2) 0)) Try.isAgg27 rfl rfl (f0_1.frs.row (hw.now hF)) (f0_1.ix h_t11) (Vj (X5 (f0_1.at h_t11)) rfl)) rfl rfl rfl ?_
  refine Ja rfl rfl rfl (Jc (v := (J6 h v0_1 1 (Int.toNat x9_2) 0)) rfl) ?_
  refine Jg ?_
  refine Jb ?_
  refine Ja rfl rfl rfl (Jd (v := (J6 h v0_1 1 (Int.toNat x9_2) 0)) rfl) ?_
  refine Ja rfl rfl rfl (Jd (v := .int .i64 x3_2) rfl) ?_
  obtain ⟨t15, h_t15, H10⟩ := Jj H9; clear H9
  refine Xa (fun w hF hS => k79 (Qf w) ((show FrN h 6 (J6 h v0_1 1 (Int.toNat x9_2) 0) g_tag_Entry t11 from (f0_1.at h_t11)).mono (hw.now hF)) h_t15) Try.call79 rfl rfl rfl ?_
  refine Ja rfl rfl rfl (Jc (v := .int .i64 t15) rfl) ?_
  refine Jg ?_
  refine Jb ?_
  obtain ⟨t16, h_t16, H11⟩ := Jj H10; clear H10
  refine Ja rfl rfl rfl (Qn rfl rfl h_t16) ?_
  refine Ja rfl rfl rfl (Jd (v := .int .i64 t16) rfl) ?_
  refine Jg ?_
  refine Jn (t15, t16) () m1 [] (by exact ⟨rfl, rfl, rfl, rfl, trivial⟩) (by decide) (by kernel_rfl) (by exact ⟨(by subst hn1; exact H11), trivial⟩) (Nat.lt_succ_self _)
 ·have H12 := Jp hb H7; clear H7
  refine Xq ?_
  refine Jf ?_
  refine Jb ?_
  refine Ja rfl rfl rfl (Jd (v := .int .i64 x3_2) rfl) ?_
  refine Ja rfl rfl rfl (Jc (v := .int .i64 x3_2) rfl) ?_
  refine Jg ?_
  refine Ju ?_
  obtain rfl := Option.some.inj H12
  refine Qa (v := .int .i64 x3_2) rfl rfl (fin rfl)
theorem k22 {a0 : T_tag_File} {v0_1 : Value} {r : Int} {w : World} {h : Jy} (hw : Know h w Zc) (f0_1 : FrN h 1 v0_1 gs_tag_Entry a0.Dirs) (H : tag_Check a0 = some r) : Does Try.prog 22 (List.toArray [.agg #[.bool a0.Big, v0_1]]) w (fun v w' => v = (.int .i64 r) ∧ Grow w w') := by
 refine enter (n := 26) Try.func22 rfl rfl rfl Zc [] (Sat.nil _ _) ?_
 refine Jf ?_
 refine Jb ?_
 refine Vi (cs := [.bool a0.Big, v0_1]) rfl rfl rfl rfl (fun b1 => ?_)
 refine Ja rfl rfl rfl (Jc (v := .int .i64 0) rfl) ?_
 refine Jg ?_
 refine Jf ?_
 refine Jf ?_
 refine Jb ?_
 refine Ja rfl rfl rfl (Jl Try.runUnderlying24 rfl Try.sizeOf22 rfl rfl) ?_
 refine Jq (i := 0) (v := v0_1) Try.isAgg22 rfl rfl rfl rfl rfl ?_
 refine Ja rfl rfl rfl (Qu Try.underlying22 rfl f0_1) ?_
 refine Ja rfl rfl rfl (Z0 rfl rfl) ?_
 refine Jg ?_
 refine Qb (b := (decide (20 < (a0.Dirs.length : Int)))) rfl (fun hb => ?_) (fun hb => ?_)
 ·have H15 := Jo hb H; clear H
  refine Jf ?_
  refine Jb ?_
  refine Ja rfl rfl rfl (Jc (v := .int .i64 4) rfl) ?_
  refine Jg ?_
  refine Ju ?_
  obtain rfl := Option.some.inj H15
  refine Qa (v := .int .i64 4) rfl rfl (fin rfl)
 ·have H16 := Jp hb H; clear H
  refine Jt ?_
  refine Qw (r := r) (σ := Unit) (τ := Unit) (fun s => Uk a0) (fun s t => [(1, .pointer (some ⟨b1, 0, none⟩))]) (fun s t => [Js b1 [.bool a0.Big, v0_1] 24]) (fun s t => True) ?_ ?_
  ·refine Jf ?_
   refine Jb ?_
   refine Ja rfl rfl rfl (Jl Try.runUnderlying24 rfl Try.sizeOf22 rfl rfl) ?_
   refine Jq (i := 0) (v := v0_1) Try.isAgg22 rfl rfl rfl rfl rfl ?_
   refine Ja rfl rfl rfl (Qu Try.underlying22 rfl f0_1) ?_
   refine Ja rfl rfl rfl (Jd (v := .int .i64 0) rfl) ?_
   refine Jg ?_
   refine J0 ?_
   refine Zb (σ := Int) (τ := Unit) (fun next2 s => Yk a0 next2 s) (fun s t => [(1, .pointer (some ⟨b1, 0, none⟩)), (11, v0_1), (12, .int .i64 (a0.Dirs.length : Int)), (13, .int .i64 s)]) (fun s t => [Js b1 [.bool a0.Big, v0_1] 24]) (fun s t => True) 0 () [0] H16 (by exact trivial) (by exact ⟨rfl, rfl, rfl, rfl, trivial⟩) (by decide) rfl ?_
   rintro x13_2 _ m2 gg H21 _
   clear H16
   replace H21 : Yk a0 (it (fun next2 s => Yk a0 next2 s) m2) x13_2 = some r := H21
   generalize hn2 : it (fun next2 s => Yk a0 next2 s) m2 = next2 at H21
   try dsimp only
   refine Jf ?_
   refine Jb ?_
   refine Ja rfl rfl rfl (Xy rfl rfl) ?_
   refine Jg ?_
   refine Jf ?_
   refine Qb (b := (decide (x13_2 < (a0.Dirs.length : Int)))) rfl (fun hb => ?_) (fun hb => ?_)
   ·have H22 := Jo hb H21; clear H21
    refine Jt ?_
    refine Jf ?_
    refine J0 ?_
    refine Jf ?_
    refine Jb ?_
    obtain ⟨t15, h_t15, H23⟩ := Jj H22; clear H22
    refine Ja rfl rfl rfl (Qe Try.underlying22 Try.sizeOf27 rfl rfl f0_1.frs (f0_1.ix h_t15)) ?_
    refine Xl (fun w hF hS => Qk (f := (V2 h v0_1 1)) (i := x13_2) (sz := 1) (j := 0) (v := (J6 h v0_1 1 (Int.toNat x13_2) 0)) Try.isAgg27 rfl rfl (f0_1.frs.row (hw.now hF)) (f0_1.ix h_t15) (Vj (X5 (f0_1.at h_t15)) rfl)) rfl rfl rfl ?_
    refine Ja rfl rfl rfl (Jc (v := (J6 h v0_1 1 (Int.toNat x13_2) 0)) rfl) ?_
    refine Jg ?_
    refine Jf ?_
    refine Jb ?_
    refine Ja rfl rfl rfl (Jd (v := (J6 h v0_1 1 (Int.toNat x13_2) 0)) rfl) ?_
    obtain ⟨t18, h_t18, H24⟩ := Jj H23; clear H23
    refine Xa (fun w hF hS => k54 (Qf w) ((show FrN h 6 (J6 h v0_1 1 (Int.toNat x13_2) 0) g_tag_Entry t15 from (f0_1.at h_t15)).mono (hw.now hF)) h_t18) Try.call54 rfl rfl rfl ?_
    refine Ja rfl rfl rfl (Jc (v := .int .i64 t18) rfl) ?_
    refine Jg ?_
    refine Jf ?_
    refine Jb ?_
    refine Ja rfl rfl rfl (Jd (v := .int .i64 t18) rfl) ?_
    refine Ja rfl rfl rfl (V0 rfl rfl) ?_
    refine Jg ?_
    refine Qb (b := (decide (t18 ≠ 0))) rfl (fun hb => ?_) (fun hb => ?_)
    ·have H25 := Jo hb H24; clear H24
     refine Jf ?_
     refine Jb ?_
     refine Ja rfl rfl rfl (Jd (v := .int .i64 t18) rfl) ?_
     refine Ja rfl rfl rfl (Jc (v := .int .i64 t18) rfl) ?_
     refine Jg ?_
     refine Ju ?_
     obtain rfl := Option.some.inj H25
     refine Qa (v := .int .i64 t18) rfl rfl (fin rfl)
    ·have H26 := Jp hb H24; clear H24
     refine Jt ?_
     refine Jb ?_
     obtain ⟨t22, h_t22, H27⟩ := Jj H26; clear H26
     refine Ja rfl rfl rfl (Qn rfl rfl h_t22) ?_
     refine Ja rfl rfl rfl (Jd (v := .int .i64 t22) rfl) ?_
     refine Jg ?_
     refine Jn t22 () m2 [0] (by exact ⟨rfl, rfl, rfl, rfl, trivial⟩) (by decide) (by kernel_rfl) (by exact ⟨(by subst hn2; exact H27), trivial⟩) (Nat.lt_succ_self _)
   ·have H28 := Jp hb H21; clear H21
    refine Xq ?_
    refine Jn () () 0 [0] (by exact ⟨rfl, trivial⟩) (by decide) (by kernel_rfl) (by exact ⟨H28, trivial⟩) (Nat.lt_succ_self _)
  ·rintro _ _ gg H17 _
   replace H17 : Uk a0 = some r := H17
   try dsimp only
   refine Jf ?_
   refine Jf ?_
   refine Jb ?_
   refine X2 (i := 0) (vs := [.bool a0.Big, v0_1]) Try.isAgg24 Try.sizeOf24 rfl rfl rfl rfl rfl ?_
   obtain ⟨t24, h_t24, H18⟩ := Jj H17; clear H17
   refine Xa (fun w hF hS => k55 (Qf w) (f0_1.mono (hw.now hF)) h_t24) Try.call55 rfl rfl rfl ?_
   refine Ja rfl rfl rfl (Z0 rfl rfl) ?_
   refine Jg ?_
   refine Qb (b := (decide (65000 < t24))) rfl (fun hb => ?_) (fun hb => ?_)
   ·have H19 := Jo hb H18; clear H18
    refine Jf ?_
    refine Jb ?_
    refine Ja rfl rfl rfl (Jc (v := .int .i64 4) rfl) ?_
    refine Jg ?_
    refine Ju ?_
    obtain rfl := Option.some.inj H19
    refine Qa (v := .int .i64 4) rfl rfl (fin rfl)
   ·have H20 := Jp hb H18; clear H18
    refine Jt ?_
    refine Jf ?_
    refine Jb ?_
    refine Ja rfl rfl rfl (Jc (v := .int .i64 0) rfl) ?_
    refine Jg ?_
    refine Ju ?_
    obtain rfl := Option.some.inj H20
    refine Qa (v := .int .i64 0) rfl rfl (fin rfl)
theorem k27 {a : Option Addr} {n c : Nat} (hc : n ≤ c) : Ret Try.prog 27 [.slice a n c] (.slice (Zd a 0 n 1) n n) := by
  refine Y8 (n := 9) Try.func27 rfl rfl rfl (fun wd => ?_)
  refine Jf ?_
  refine Jb ?_
  refine Ja rfl rfl rfl (Jc (v := .slice none 0 0) rfl) ?_
  refine Jg ?_
  refine Jf ?_
  refine Jb ?_
  refine Ja rfl rfl rfl (Jd (v := .slice a n c) rfl) ?_
  refine Ja rfl rfl rfl (Jd (v := .slice a n c) rfl) ?_
  refine Ja rfl rfl rfl (r_len Try.underlying32 rfl) ?_
  refine Ja rfl rfl rfl (Jd (v := .slice a n c) rfl) ?_
  refine Ja rfl rfl rfl (r_len Try.underlying32 rfl) ?_
  refine Ja rfl rfl rfl (r_sliceHM (a := a) (m := n) (c := c) (h := (n : Int)) (q := (n : Int)) Try.underlying32 Try.sizeOf25 rfl rfl rfl (Int.natCast_nonneg n) (Int.le_refl _) (Int.ofNat_le.2 hc)) ?_
  refine Ja rfl rfl rfl (Jc (v := .slice (Zd a 0 n 1) n n) rfl) ?_
  refine Jg ?_
  refine Ju ?_
  exact Qa (v := .slice (Zd a 0 n 1) n n) rfl rfl (fin rfl)
theorem k19 {a0 : T_tag_File} {v0_1 : Value} {a1 : T_tag_File} {v1_1 : Value} {r : (List (List Int)) × Int} {w : World} {h : Jy} (hw : Know h w Zc) (f0_1 : FrN h 1 v0_1 gs_tag_Entry a0.Dirs) (f1_1 : FrN h 1 v1_1 gs_tag_Entry a1.Dirs) (H : tag_Differ a0 a1 = some r) : Does Try.prog 19 (List.toArray [.agg #[.bool a0.Big, v0_1], .agg #[.bool a1.Big, v1_1]]) w (fun v w' => ∃ x : (Option Addr × Nat), v = (.tuple #[.slice x.1 r.1.length x.2, .int .i64 r.2]) ∧ Turn w w' Zc (roD 1 gs_int (.slice x.1 r.1.length x.2) r.1.length r.1)) := by
 refine enter (n := 55) Try.func19 rfl rfl rfl Zc [] (Sat.nil _ _) ?_
 refine Wt Vw ?_
 refine Jf ?_
 refine Jb ?_
 refine Vi (cs := [.bool a0.Big, v0_1]) rfl rfl rfl rfl (fun b12 => ?_)
 refine Vi (cs := [.bool a1.Big, v1_1]) rfl rfl rfl rfl (fun b13 => ?_)
 refine Ja rfl rfl rfl (Jc (v := .slice none 0 0) rfl) ?_
 refine Ja rfl rfl rfl (Jc (v := .int .i64 0) rfl) ?_
 refine Jg ?_
 refine Qw (r := r) (σ := Unit) (τ := Unit) (fun s => Zu a0 a1) (fun s t => [(2, .pointer (some ⟨b12, 0, none⟩)), (3, .pointer (some ⟨b13, 0, none⟩))]) (fun s t => [Xh Vw Vw, Js b12 [.bool a0.Big, v0_1] 24, Js b13 [.bool a1.Big, v1_1] 24]) (fun s t => True) ?_ ?_
 ·refine Jf ?_
  refine Jb ?_
  refine X2 (i := 1) (vs := [.bool a0.Big, v0_1]) Try.isAgg24 Try.sizeOf24 rfl rfl rfl rfl rfl ?_
  refine X2 (i := 2) (vs := [.bool a1.Big, v1_1]) Try.isAgg24 Try.sizeOf24 rfl rfl rfl rfl rfl ?_
  refine Zm (vs := [.agg #[.bool a0.Big, v0_1], .agg #[.bool a1.Big, v1_1]]) (cs := [.bool a0.Big, v0_1, .bool a1.Big, v1_1]) Try.underlying88 Try.sizeOf24 Try.zeroValue24 rfl rfl rfl rfl rfl rfl rfl (fun b16 => ?_)
  refine Ja rfl rfl rfl (r_len Try.underlying88 rfl) ?_
  refine Ja rfl rfl rfl (Jd (v := .int .i64 0) rfl) ?_
  refine Jg ?_
  refine J0 ?_
  refine Zb (σ := Int) (τ := Unit) (fun next4 s => Q1 a0 a1 next4 s) (fun s t => [(2, .pointer (some ⟨b12, 0, none⟩)), (3, .pointer (some ⟨b13, 0, none⟩)), (13, .slice (some ⟨b16, 0, none⟩) 2 2), (14, .int .i64 2), (15, .int .i64 s)]) (fun s t => [Xh Vw Vw, Js b12 [.bool a0.Big, v0_1] 24, Js b13 [.bool a1.Big, v1_1] 24, Js b16 [.bool a0.Big, v0_1, .bool a1.Big, v1_1] 24]) (fun s t => True) 0 () [0, 1, 2, 3] H (by exact trivial) (by exact ⟨rfl, rfl, rfl, rfl, rfl, trivial⟩) (by decide) rfl ?_
  rintro x15_2 _ m4 gg H50 _
  clear H
  replace H50 : Q1 a0 a1 (it (fun next4 s => Q1 a0 a1 next4 s) m4) x15_2 = some r := H50
  generalize hn4 : it (fun next4 s => Q1 a0 a1 next4 s) m4 = next4 at H50
  try dsimp only
  refine Jf ?_
  refine Jb ?_
  refine Ja rfl rfl rfl (Xy rfl rfl) ?_
  refine Jg ?_
  refine Jf ?_
  refine Qb (b := (decide (x15_2 < 2))) rfl (fun hb => ?_) (fun hb => ?_)
  ·have H51 := Jo hb H50; clear H50
   refine Jt ?_
   refine Jf ?_
   refine J0 ?_
   refine Jf ?_
   refine Jb ?_
   obtain ⟨t17, h_t17, H52⟩ := Jj H51; clear H51
   refine Ja rfl rfl rfl (r_indexS Try.underlying88 Try.sizeOf24 rfl rfl h_t17 rfl) ?_
   refine Xl (fun w hF hS => Xb (f := (litC [.bool a0.Big, v0_1, .bool a1.Big, v1_1] 2)) (i := x15_2) (sz := 2) (j := 0) (vs := [.bool t17.Big, (List.getD (List.take 2 (List.drop ((Int.toNat x15_2) * 2) [.bool a0.Big, v0_1, .bool a1.Big, v1_1])) 1 undef)]) Try.isAgg24 Try.sizeOf24 rfl rfl (row_box (sz := 2) (xs := (List.range 2).map (litC [.bool a0.Big, v0_1, .bool a1.Big, v1_1] 2)) (i := 3) hS rfl rfl rfl) (gAt_range h_t17) (rd_of (cg_tag_File (AllG.el (G := g_tag_File) (h := h) (sz := 2) (cs := [.bool a0.Big, v0_1, .bool a1.Big, v1_1]) (xs := ([a0, a1] : List T_tag_File)) ⟨⟨rfl, f0_1⟩, ⟨rfl, f1_1⟩, rfl⟩ _ _ (Y5 h_t17).2.2)) rfl)) rfl rfl rfl ?_
   refine Vx (cs := [.bool false, .slice none 0 0]) Try.zeroValue24 rfl rfl rfl (fun b17 => ?_)
   refine Zn (i := 4) (vs := [.bool t17.Big, (List.getD (List.take 2 (List.drop ((Int.toNat x15_2) * 2) [.bool a0.Big, v0_1, .bool a1.Big, v1_1])) 1 undef)]) (cs' := [.bool t17.Big, (List.getD (List.take 2 (List.drop ((Int.toNat x15_2) * 2) [.bool a0.Big, v0_1, .bool a1.Big, v1_1])) 1 undef)]) Try.sizeOf24 rfl rfl rfl rfl rfl rfl (by simp only [List.all_cons, List.all_nil, (show FrN h 1 (List.getD (List.take 2 (List.drop ((Int.toNat x15_2) * 2) [.bool a0.Big, v0_1, .bool a1.Big, v1_1])) 1 undef) gs_tag_Entry t17.Dirs from (g_tag_File_p1 (AllG.el (G := g_tag_File) (h := h) (sz := 2) (cs := [.bool a0.Big, v0_1, .bool a1.Big, v1_1]) (xs := ([a0, a1] : List T_tag_File)) ⟨⟨rfl, f0_1⟩, ⟨rfl, f1_1⟩, rfl⟩ _ _ (Y5 h_t17).2.2))).one] <;> rfl) rfl rfl ?_
   refine Jg ?_
   refine Jf ?_
   refine Jb ?_
   refine X2 (i := 4) (vs := [.bool t17.Big, (List.getD (List.take 2 (List.drop ((Int.toNat x15_2) * 2) [.bool a0.Big, v0_1, .bool a1.Big, v1_1])) 1 undef)]) Try.isAgg24 Try.sizeOf24 rfl rfl rfl rfl rfl ?_
   obtain ⟨t20, h_t20, H53⟩ := Jj H52; clear H52
   refine Xa (fun w hF hS => k22 (Qf w) ((show FrN h 1 (List.getD (List.take 2 (List.drop ((Int.toNat x15_2) * 2) [.bool a0.Big, v0_1, .bool a1.Big, v1_1])) 1 undef) gs_tag_Entry t17.Dirs from (g_tag_File_p1 (AllG.el (G := g_tag_File) (h := h) (sz := 2) (cs := [.bool a0.Big, v0_1, .bool a1.Big, v1_1]) (xs := ([a0, a1] : List T_tag_File)) ⟨⟨rfl, f0_1⟩, ⟨rfl, f1_1⟩, rfl⟩ _ _ (Y5 h_t17).2.2))).mono (hw.now hF)) h_t20) Try.call22 rfl rfl rfl ?_
   refine Ja rfl rfl rfl (Jc (v := .int .i64 t20) rfl) ?_
   refine Jg ?_
   refine Jf ?_
   refine Jb ?_
   refine Ja rfl rfl rfl (Jd (v := .int .i64 t20) rfl) ?_
   refine Ja rfl rfl rfl (V0 rfl rfl) ?_
   refine Jg ?_
   refine Qb (b := (decide (t20 ≠ 0))) rfl (fun hb => ?_) (fun hb => ?_)
   ·have H54 := Jo hb H53; clear H53
    refine Jf ?_
    refine Jb ?_
    refine Ja rfl rfl rfl (Jd (v := .int .i64 t20) rfl) ?_
    refine Ja rfl rfl rfl (Jc (v := .slice none 0 0) rfl) ?_
    refine Ja rfl rfl rfl (Jc (v := .int .i64 t20) rfl) ?_
    refine Jg ?_
    refine Ju ?_
    refine Wh 25 1 ?_
    obtain rfl := Option.some.inj H54
    refine W6 5 rfl (row_ro _ _ _ _ _) ?_
    refine W0 0 5 rfl rfl (by decide) ?_
    refine W6 0 rfl (imp_roD (p := ((none, 0) : Option Addr × Nat)) rfl (AllC.nil (G := gs_int) (h := Vw) (sz := 1))) ?_
    refine ret2 (v1 := .slice ((none, 0) : Option Addr × Nat).1 (([] : List (List Value)).length) ((none, 0) : Option Addr × Nat).2) (v2 := .int .i64 t20) rfl rfl rfl (finX ((none, 0) : Option Addr × Nat) (i := 0) rfl (by first | rfl | rw [(show (([] : List (List Value)).length) = ([] : List (List Int)).length from (AllC.nil (G := gs_int) (h := Vw) (sz := 1)).len)]) (by first | exact Imp.refl _ | exact Imp.of (by rw [(show (([] : List (List Value)).length) = ([] : List (List Int)).length from (AllC.nil (G := gs_int) (h := Vw) (sz := 1)).len)] <;> rfl)))
   ·have H55 := Jp hb H53; clear H53
    refine Jt ?_
    try dsimp only [z1, z2, z5, z6, z7, z8]
    refine Jb ?_
    obtain ⟨t24, h_t24, H56⟩ := Jj H55; clear H55
    refine Ja rfl rfl rfl (Qn rfl rfl h_t24) ?_
    refine Ja rfl rfl rfl (Jd (v := .int .i64 t24) rfl) ?_
    refine Jg ?_
    refine Jn t24 () m4 [0, 1, 2, 3] (by exact ⟨rfl, rfl, rfl, rfl, rfl, trivial⟩) (by decide) (by kernel_rfl) (by exact ⟨(by subst hn4; exact H56), trivial⟩) (Nat.lt_succ_self _)
  ·have H57 := Jp hb H50; clear H50
   refine Xq ?_
   refine Jn () () 0 [0, 1, 2] (by exact ⟨rfl, rfl, trivial⟩) (by decide) (by kernel_rfl) (by exact ⟨H57, trivial⟩) (Nat.lt_succ_self _)
 ·rintro _ _ gg H39 _
  replace H39 : Zu a0 a1 = some r := H39
  try dsimp only
  refine Jf ?_
  refine Jf ?_
  refine Jb ?_
  refine Ja rfl rfl rfl (Jl Try.runUnderlying24 rfl Try.sizeOf22 rfl rfl) ?_
  refine Jq (i := 1) (v := v0_1) Try.isAgg22 rfl rfl rfl rfl rfl ?_
  refine Ja rfl rfl rfl (Qu Try.underlying22 rfl f0_1) ?_
  refine Ja rfl rfl rfl (Jl Try.runUnderlying24 rfl Try.sizeOf22 rfl rfl) ?_
  refine Jq (i := 2) (v := v1_1) Try.isAgg22 rfl rfl rfl rfl rfl ?_
  refine Ja rfl rfl rfl (Qu Try.underlying22 rfl f1_1) ?_
  refine Ja rfl rfl rfl (V0 rfl rfl) ?_
  refine Jg ?_
  refine Qb (b := (decide ((a0.Dirs.length : Int) ≠ (a1.Dirs.length : Int)))) rfl (fun hb => ?_) (fun hb => ?_)
  ·have H40 := Jo hb H39; clear H39
   refine Jf ?_
   refine Jb ?_
   refine Ja rfl rfl rfl (Jc (v := .slice none 0 0) rfl) ?_
   refine Ja rfl rfl rfl (Jc (v := .int .i64 1) rfl) ?_
   refine Jg ?_
   refine Ju ?_
   refine Wh 25 1 ?_
   obtain rfl := Option.some.inj H40
   refine W6 3 rfl (row_ro _ _ _ _ _) ?_
   refine W0 0 3 rfl rfl (by decide) ?_
   refine W6 0 rfl (imp_roD (p := ((none, 0) : Option Addr × Nat)) rfl (AllC.nil (G := gs_int) (h := Vw) (sz := 1))) ?_
   refine ret2 (v1 := .slice ((none, 0) : Option Addr × Nat).1 (([] : List (List Value)).length) ((none, 0) : Option Addr × Nat).2) (v2 := .int .i64 1) rfl rfl rfl (finX ((none, 0) : Option Addr × Nat) (i := 0) rfl (by first | rfl | rw [(show (([] : List (List Value)).length) = ([] : List (List Int)).length from (AllC.nil (G := gs_int) (h := Vw) (sz := 1)).len)]) (by first | exact Imp.refl _ | exact Imp.of (by rw [(show (([] : List (List Value)).length) = ([] : List (List Int)).length from (AllC.nil (G := gs_int) (h := Vw) (sz := 1)).len)] <;> rfl)))
  ·have H41 := Jp hb H39; clear H39
   refine Jt ?_
   refine Jf ?_
   try dsimp only [z1, z2, z5, z6, z7, z8]
   refine Jb ?_
   refine Vx (cs := [.slice none 0 0]) Try.zeroValue32 rfl rfl rfl (fun b14 => ?_)
   refine Jg ?_
   refine Qw (r := r) (σ := (List (List Int))) (τ := (Option Addr × Nat)) (fun s => tag_Differ_j2 s) (fun s t => [(9, .pointer (some ⟨b14, 0, none⟩))]) (fun s t => [Xh Vw Vw, Js b14 [.slice t.1 s.length t.2] 32, V1 25 1 gs_int (.slice t.1 s.length t.2) s.length s]) (fun s t => True) ?_ ?_
   ·refine Jf ?_
    refine Jb ?_
    refine Ja rfl rfl rfl (Jl Try.runUnderlying24 rfl Try.sizeOf22 rfl rfl) ?_
    refine Jq (i := 1) (v := v0_1) Try.isAgg22 rfl rfl rfl rfl rfl ?_
    refine Ja rfl rfl rfl (Qu Try.underlying22 rfl f0_1) ?_
    refine Ja rfl rfl rfl (Jd (v := .int .i64 0) rfl) ?_
    refine Jg ?_
    refine J0 ?_
    refine Wh 25 1 ?_
    refine Wt Vw ?_
    try dsimp only [z1, z2, z5, z6, z7, z8]
    refine W0 5 4 rfl rfl (by decide) ?_
    try dsimp only [z1, z2, z5, z6, z7, z8]
    refine W6 5 rfl (imp_rowDx (css := []) (xs := ([] : List (List Int))) (p := ((none, 0) : Option Addr × Nat)) rfl (AllC.nil (G := gs_int) (h := Vw) (sz := 1))) ?_
    refine Zb (σ := Int × (List (List Int))) (τ := (Option Addr × Nat)) (fun next3 s => X3 a0 a1 next3 s.1 s.2) (fun s t => [(2, .pointer (some ⟨b12, 0, none⟩)), (3, .pointer (some ⟨b13, 0, none⟩)), (9, .pointer (some ⟨b14, 0, none⟩)), (34, .int .i64 (a0.Dirs.length : Int)), (35, .int .i64 s.1)]) (fun s t => [Xh Vw Vw, Js b12 [.bool a0.Big, v0_1] 24, Js b13 [.bool a1.Big, v1_1] 24, Js b14 [.slice t.1 s.2.length t.2] 32, V1 25 1 gs_int (.slice t.1 s.2.length t.2) s.2.length s.2]) (fun s t => True) (0, ([] : List (List Int))) ((none, 0) : Option Addr × Nat) [0, 1, 2, 3, 5] H41 (by exact trivial) (by exact ⟨rfl, rfl, rfl, rfl, rfl, trivial⟩) (by decide) rfl ?_
    rintro ⟨x35_2, l_3⟩ p_2 m3 gg H43 _
    clear H41
    replace H43 : X3 a0 a1 (it (fun next3 s => X3 a0 a1 next3 s.1 s.2) m3) x35_2 l_3 = some r := H43
    generalize hn3 : it (fun next3 s => X3 a0 a1 next3 s.1 s.2) m3 = next3 at H43
    try dsimp only
    refine Jf ?_
    try dsimp only [z1, z2, z5, z6, z7, z8]
    refine Jb ?_
    refine Ja rfl rfl rfl (Xy rfl rfl) ?_
    refine Jg ?_
    refine Jf ?_
    refine Qb (b := (decide (x35_2 < (a0.Dirs.length : Int)))) rfl (fun hb => ?_) (fun hb => ?_)
    ·have H44 := Jo hb H43; clear H43
     refine Jt ?_
     refine Jf ?_
     refine J0 ?_
     refine Jf ?_
     refine Jb ?_
     refine Ja rfl rfl rfl (Jd (v := .int .i64 x35_2) rfl) ?_
     refine Ja rfl rfl rfl (Jc (v := .int .i64 x35_2) rfl) ?_
     refine Jg ?_
     exact Q6 (Kd.p :: Kd.d [1] _ :: Kd.p :: Kd.p :: Kd.d [] _ :: Kd.p :: Kd.d [2] _ :: Kd.p :: Kd.p :: Kd.d [] _ :: Kd.p :: Kd.ns 5 [_] 3 1 :: Kd.p :: Kd.t2 3 4 [0, 5] _ _ :: []) 1 mixed (by
      refine Jk rfl rfl (Jl Try.runUnderlying24 rfl Try.sizeOf22 rfl rfl) ?_
      refine Xk (i := 1) (v := v0_1) Try.isAgg22 rfl rfl rfl rfl ?_
      refine Jk rfl rfl (Jd (v := .int .i64 x35_2) rfl) ?_
      have h_t41 := J4 H44
      have H45 := Jw H44
      refine Jk rfl rfl (Qe Try.underlying22 Try.sizeOf27 rfl rfl f0_1.frs (f0_1.ix h_t41)) ?_
      refine Zp (fun w hF => Qk (f := (V2 h v0_1 1)) (i := x35_2) (sz := 1) (j := 0) (v := (J6 h v0_1 1 (Int.toNat x35_2) 0)) Try.isAgg27 rfl rfl (f0_1.frs.row (hw.now hF)) (f0_1.ix h_t41) (Vj (X5 (f0_1.at h_t41)) rfl)) rfl rfl ?_
      refine Jk rfl rfl (Jl Try.runUnderlying24 rfl Try.sizeOf22 rfl rfl) ?_
      refine Xk (i := 2) (v := v1_1) Try.isAgg22 rfl rfl rfl rfl ?_
      refine Jk rfl rfl (Jd (v := .int .i64 x35_2) rfl) ?_
      have h_t46 := J4 H45
      have H46 := Jw H45
      refine Jk rfl rfl (Qe Try.underlying22 Try.sizeOf27 rfl rfl f1_1.frs (f1_1.ix h_t46)) ?_
      refine Zp (fun w hF => Qk (f := (V2 h v1_1 1)) (i := x35_2) (sz := 1) (j := 0) (v := (J6 h v1_1 1 (Int.toNat x35_2) 0)) Try.isAgg27 rfl rfl (f1_1.frs.row (hw.now hF)) (f1_1.ix h_t46) (Vj (X5 (f1_1.at h_t46)) rfl)) rfl rfl ?_
      refine Jk rfl rfl (Jd (v := .int .i64 x35_2) rfl) ?_
      refine d_newS rfl rfl (Z4 (vs := [.int .i64 x35_2]) (cs := [.int .i64 x35_2]) Try.underlying25 Try.sizeOf3 Try.zeroValue3 rfl rfl rfl rfl rfl) rfl (fun b15 => ?_)
      refine Jk rfl rfl (r_makeFn (caps := #[.pointer (some ⟨b14, 0, none⟩)]) rfl) ?_
      have h_t51 := J4 H46
      have H47 := Jw H46
      refine d_turn2 (i := 3) (j := 4) (Xu (i := 3) (rds := _) (G := fun x : (Option Addr × Nat) => .tuple #[]) (C := fun x : (Option Addr × Nat) => Xw (Js b14 [.slice x.1 (val (Vd (val (Qj a0.Dirs x35_2)) (val (Qj a1.Dirs x35_2)) ([x35_2] : List Int) l_3)).length x.2] 32) (V1 25 1 gs_int (.slice x.1 (val (Vd (val (Qj a0.Dirs x35_2)) (val (Qj a1.Dirs x35_2)) ([x35_2] : List Int) l_3)).length x.2) (val (Vd (val (Qj a0.Dirs x35_2)) (val (Qj a1.Dirs x35_2)) ([x35_2] : List Int) l_3)).length (val (Vd (val (Qj a0.Dirs x35_2)) (val (Qj a1.Dirs x35_2)) ([x35_2] : List Int) l_3)))) rfl (fun w L' S hF hS hi hp hlt ho hA => k49 hp hlt (Ym w S) ((show FrN h 6 (J6 h v0_1 1 (Int.toNat x35_2) 0) g_tag_Entry (val (Qj a0.Dirs x35_2)) from (f0_1.at h_t41)).mono (hw.but hF ho)) ((show FrN h 6 (J6 h v1_1 1 (Int.toNat x35_2) 0) g_tag_Entry (val (Qj a1.Dirs x35_2)) from (f1_1.at h_t46)).mono (hw.but hF ho)) (frb_box (j := 5) (xs := ([x35_2] : List Int)) (f := J8) hA hS (by decide) ((hi 5 (by simp)).trans rfl) rfl rfl rfl rfl) h_t51) Try.call49 rfl) rfl rfl (by decide) (by decide) rfl rfl ?_
      refine Yp ?_
      refine c_ex 3 rfl (fun p_3 => ?_)
      refine c_splitAt 3 4 rfl rfl (by decide) ?_
      refine Jb ?_
      obtain ⟨t52, h_t52, H48⟩ := Jj H47; clear H47
      refine Ja rfl rfl rfl (Qn rfl rfl h_t52) ?_
      refine Ja rfl rfl rfl (Jd (v := .int .i64 t52) rfl) ?_
      refine Jg ?_
      refine Jn (t52, (val (Vd (val (Qj a0.Dirs x35_2)) (val (Qj a1.Dirs x35_2)) ([x35_2] : List Int) l_3))) p_3 m3 [0, 1, 2, 3, 4] (by exact ⟨rfl, rfl, rfl, rfl, rfl, trivial⟩) (by decide) (by kernel_rfl) (by exact ⟨(by subst hn3; exact H48), trivial⟩) (Nat.lt_succ_self _)
      ) (by kernel_rfl)
    ·have H49 := Jp hb H43; clear H43
     refine Xq ?_
     refine Jn l_3 p_2 0 [0, 3, 4] (by exact ⟨rfl, trivial⟩) (by decide) (by kernel_rfl) (by exact ⟨H49, trivial⟩) (Nat.lt_succ_self _)
   ·rintro l p gg H42 _
    replace H42 : tag_Differ_j2 l = some r := H42
    try dsimp only
    refine Jf ?_
    refine c_rowD 2 rfl (fun hp css hn pf => ?_)
    rw [hn]
    try dsimp only [z1, z2, z5, z6, z7, z8]
    refine Ui 2 rfl ?_
    try dsimp only [z1, z2, z5, z6, z7, z8]
    refine Wx 0 2 rfl rfl (by decide) (fun _ _ => noH_le) (fun hp_2 hle hle_2 => ?_)
    refine Jb ?_
    refine Jq (i := 1) (v := .slice p.1 css.length p.2) Try.isAgg32 rfl rfl rfl rfl rfl ?_
    refine Xa (fun w hF hS => k27 (capOf (i := 3) hS rfl) w) Try.call27 rfl rfl rfl ?_
    refine Ja rfl rfl rfl (Jc (v := .slice (Zd p.1 0 css.length 1) css.length css.length) rfl) ?_
    refine Ja rfl rfl rfl (Jc (v := .int .i64 0) rfl) ?_
    refine Jg ?_
    try dsimp only [z1, z2, z5, z6, z7, z8]
    refine Ju ?_
    obtain rfl := Option.some.inj H42
    refine W6 3 rfl (imp_clipO _ _ _ _ _ _) ?_
    refine W0 0 3 rfl rfl (by decide) ?_
    refine W6 0 rfl (imp_roD (p := (Zd p.1 0 css.length 1, css.length)) rfl (pf.mono hle_2)) ?_
    refine ret2 (v1 := .slice (Zd p.1 0 css.length 1) css.length css.length) (v2 := .int .i64 0) rfl rfl rfl (finX (Zd p.1 0 css.length 1, css.length) (i := 0) rfl (by first | rfl | rw [(show css.length = l.length from hn.symm)]) (by first | exact Imp.refl _ | exact Imp.of (by rw [(show css.length = l.length from hn.symm)] <;> rfl)))
end Go.Proofs.Ytpljknglodhcnaa

/- TagDiffers, Unlike: the walks, printed by our generator; each follows its model. Conditions: the model yields a value. -/
namespace Go.Proofs.Ytpljknglodhcnaa
open Go Go.Vc Go.Md Go.M Go.Lx
set_option maxRecDepth 100000
set_option maxHeartbeats 4000000
set_option linter.unusedVariables false
theorem k66 {a0 : (List T_tag_Entry)} {v0 : Value} {a1 : (List T_tag_Entry)} {v1 : Value} {a2 : (T_tag_Entry → T_tag_Entry → Option (Bool))} {v2 : Value} {r : Bool} {w : World} {h : Jy} (hw : Know h w Zc) (f0 : FrN h 6 v0 g_tag_Entry a0) (f1 : FrN h 6 v1 g_tag_Entry a1) (f2 : FnH Try.prog h v2 (Za a2)) (H : Q0 a0 a1 a2 = some r) : Does Try.prog 66 (List.toArray [v0, v1, v2]) w (fun v w' => v = (.bool r) ∧ Grow w w') := by
 refine enter (n := 32) Try.func66 rfl rfl rfl Zc [] (Sat.nil _ _) ?_
 refine Jf ?_
 refine Jb ?_
 refine Ja rfl rfl rfl (Jc (v := .bool false) rfl) ?_
 refine Jg ?_
 refine Jf ?_
 refine Jf ?_
 refine Jb ?_
 refine Ja rfl rfl rfl (Jd (v := v0) rfl) ?_
 refine Ja rfl rfl rfl (Qu Try.underlying27 rfl f0) ?_
 refine Ja rfl rfl rfl (Jd (v := v1) rfl) ?_
 refine Ja rfl rfl rfl (Qu Try.underlying27 rfl f1) ?_
 refine Ja rfl rfl rfl (V0 rfl rfl) ?_
 refine Jg ?_
 refine Qb (b := (decide ((a0.length : Int) ≠ (a1.length : Int)))) rfl (fun hb => ?_) (fun hb => ?_)
 ·have H12 := Jo hb H; clear H
  refine Jf ?_
  refine Jb ?_
  refine Ja rfl rfl rfl (Jc (v := .bool false) rfl) ?_
  refine Jg ?_
  refine Ju ?_
  obtain rfl := Option.some.inj H12
  refine Qa (v := .bool false) rfl rfl (fin rfl)
 ·have H13 := Jp hb H; clear H
  refine Jt ?_
  refine Jf ?_
  refine Jf ?_
  refine Jb ?_
  refine Ja rfl rfl rfl (Jd (v := v0) rfl) ?_
  refine Ja rfl rfl rfl (Qu Try.underlying27 rfl f0) ?_
  refine Ja rfl rfl rfl (Jd (v := .int .i64 0) rfl) ?_
  refine Jg ?_
  refine J0 ?_
  refine Zb (σ := Int) (τ := Unit) (fun next1 s => Jz a0 a1 a2 next1 s) (fun s t => [(1, v1), (2, v2), (15, v0), (16, .int .i64 (a0.length : Int)), (17, .int .i64 s)]) (fun s t => []) (fun s t => True) 0 () [] H13 (by exact trivial) (by exact ⟨rfl, rfl, rfl, rfl, rfl, trivial⟩) (by decide) rfl ?_
  rintro x17_2 _ m1 gg H14 _
  clear H13
  replace H14 : Jz a0 a1 a2 (it (fun next1 s => Jz a0 a1 a2 next1 s) m1) x17_2 = some r := H14
  generalize hn1 : it (fun next1 s => Jz a0 a1 a2 next1 s) m1 = next1 at H14
  try dsimp only
  refine Jf ?_
  refine Jb ?_
  refine Ja rfl rfl rfl (Xy rfl rfl) ?_
  refine Jg ?_
  refine Jf ?_
  refine Qb (b := (decide (x17_2 < (a0.length : Int)))) rfl (fun hb => ?_) (fun hb => ?_)
  ·have H15 := Jo hb H14; clear H14
   refine Jt ?_
   refine Jf ?_
   refine J0 ?_
   refine Jf ?_
   refine Jb ?_
   refine Ja rfl rfl rfl (Jd (v := .int .i64 x17_2) rfl) ?_
   obtain ⟨t20, h_t20, H16⟩ := Jj H15; clear H15
   refine Ja rfl rfl rfl (Qe Try.underlying27 Try.sizeOf70 rfl rfl f0.frs (f0.ix h_t20)) ?_
   refine Xl (fun w hF hS => Xb (f := (V2 h v0 6)) (i := x17_2) (sz := 6) (j := 0) (vs := [.int .i64 t20.Tag, .int .i64 t20.Value.Kind, str t20.Value.Text, (J6 h v0 6 (Int.toNat x17_2) 3), (J6 h v0 6 (Int.toNat x17_2) 4), (J6 h v0 6 (Int.toNat x17_2) 5)]) Try.isAgg70 Try.sizeOf70 rfl rfl (f0.frs.row (hw.now hF)) (f0.ix h_t20) (rd_of (Qh (f0.at h_t20)) rfl)) rfl rfl rfl ?_
   refine Vx (cs := [.int .i64 0, .int .i64 0, str [], .slice none 0 0, .slice none 0 0, .slice none 0 0]) Try.zeroValue70 rfl rfl rfl (fun b2 => ?_)
   refine Ja rfl rfl rfl (Jc (v := .int .i64 x17_2) rfl) ?_
   refine Zn (i := 0) (vs := [.int .i64 t20.Tag, .int .i64 t20.Value.Kind, str t20.Value.Text, (J6 h v0 6 (Int.toNat x17_2) 3), (J6 h v0 6 (Int.toNat x17_2) 4), (J6 h v0 6 (Int.toNat x17_2) 5)]) (cs' := [.int .i64 t20.Tag, .int .i64 t20.Value.Kind, str t20.Value.Text, (J6 h v0 6 (Int.toNat x17_2) 3), (J6 h v0 6 (Int.toNat x17_2) 4), (J6 h v0 6 (Int.toNat x17_2) 5)]) Try.sizeOf70 rfl rfl rfl rfl rfl rfl (by simp only [List.all_cons, List.all_nil, (show FrN h 6 (J6 h v0 6 (Int.toNat x17_2) 5) g_tag_Entry t20.Value.Entries from (Jv (Ji (f0.at h_t20)))).one, (show FrS h 1 (J6 h v0 6 (Int.toNat x17_2) 3) (t20.Value.Ints.map J8) from (J1 (Ji (f0.at h_t20)))).one, (show FrS h 2 (J6 h v0 6 (Int.toNat x17_2) 4) (t20.Value.Ratios.map Jr) from (J2 (Ji (f0.at h_t20)))).one] <;> rfl) rfl rfl ?_
   refine Jg ?_
   refine Jf ?_
   refine Jb ?_
   refine Ja rfl rfl rfl (Jd (v := v1) rfl) ?_
   refine Ja rfl rfl rfl (Jd (v := .int .i64 x17_2) rfl) ?_
   obtain ⟨t24, h_t24, H17⟩ := Jj H16; clear H16
   refine Ja rfl rfl rfl (Qe Try.underlying27 Try.sizeOf70 rfl rfl f1.frs (f1.ix h_t24)) ?_
   refine Xl (fun w hF hS => Xb (f := (V2 h v1 6)) (i := x17_2) (sz := 6) (j := 0) (vs := [.int .i64 t24.Tag, .int .i64 t24.Value.Kind, str t24.Value.Text, (J6 h v1 6 (Int.toNat x17_2) 3), (J6 h v1 6 (Int.toNat x17_2) 4), (J6 h v1 6 (Int.toNat x17_2) 5)]) Try.isAgg70 Try.sizeOf70 rfl rfl (f1.frs.row (hw.now hF)) (f1.ix h_t24) (rd_of (Qh (f1.at h_t24)) rfl)) rfl rfl rfl ?_
   refine Vx (cs := [.int .i64 0, .int .i64 0, str [], .slice none 0 0, .slice none 0 0, .slice none 0 0]) Try.zeroValue70 rfl rfl rfl (fun b3 => ?_)
   refine Zn (i := 1) (vs := [.int .i64 t24.Tag, .int .i64 t24.Value.Kind, str t24.Value.Text, (J6 h v1 6 (Int.toNat x17_2) 3), (J6 h v1 6 (Int.toNat x17_2) 4), (J6 h v1 6 (Int.toNat x17_2) 5)]) (cs' := [.int .i64 t24.Tag, .int .i64 t24.Value.Kind, str t24.Value.Text, (J6 h v1 6 (Int.toNat x17_2) 3), (J6 h v1 6 (Int.toNat x17_2) 4), (J6 h v1 6 (Int.toNat x17_2) 5)]) Try.sizeOf70 rfl rfl rfl rfl rfl rfl (by simp only [List.all_cons, List.all_nil, (show FrN h 6 (J6 h v1 6 (Int.toNat x17_2) 5) g_tag_Entry t24.Value.Entries from (Jv (Ji (f1.at h_t24)))).one, (show FrS h 1 (J6 h v1 6 (Int.toNat x17_2) 3) (t24.Value.Ints.map J8) from (J1 (Ji (f1.at h_t24)))).one, (show FrS h 2 (J6 h v1 6 (Int.toNat x17_2) 4) (t24.Value.Ratios.map Jr) from (J2 (Ji (f1.at h_t24)))).one] <;> rfl) rfl rfl ?_
   refine Jg ?_
   refine Jf ?_
   refine Jb ?_
   refine Ja rfl rfl rfl (Jd (v := v2) rfl) ?_
   refine X2 (i := 0) (vs := [.int .i64 t20.Tag, .int .i64 t20.Value.Kind, str t20.Value.Text, (J6 h v0 6 (Int.toNat x17_2) 3), (J6 h v0 6 (Int.toNat x17_2) 4), (J6 h v0 6 (Int.toNat x17_2) 5)]) Try.isAgg70 Try.sizeOf70 rfl rfl rfl rfl rfl ?_
   refine X2 (i := 1) (vs := [.int .i64 t24.Tag, .int .i64 t24.Value.Kind, str t24.Value.Text, (J6 h v1 6 (Int.toNat x17_2) 3), (J6 h v1 6 (Int.toNat x17_2) 4), (J6 h v1 6 (Int.toNat x17_2) 5)]) Try.isAgg70 Try.sizeOf70 rfl rfl rfl rfl rfl ?_
   obtain ⟨t29, h_t29, H18⟩ := Jj H17; clear H17
   refine l_callV (R := Za a2) (r := .bool t29) (v := v2) (fun w hF hS => ⟨(f2.mono (hw.now hF)), ⟨t20, _, _, _, t24, _, _, _, _, ((show FrS h 1 (J6 h v0 6 (Int.toNat x17_2) 3) (t20.Value.Ints.map J8) from (J1 (Ji (f0.at h_t20)))).mono (hw.now hF)), ((show FrS h 2 (J6 h v0 6 (Int.toNat x17_2) 4) (t20.Value.Ratios.map Jr) from (J2 (Ji (f0.at h_t20)))).mono (hw.now hF)), ((show FrN h 6 (J6 h v0 6 (Int.toNat x17_2) 5) g_tag_Entry t20.Value.Entries from (Jv (Ji (f0.at h_t20)))).mono (hw.now hF)), ((show FrS h 1 (J6 h v1 6 (Int.toNat x17_2) 3) (t24.Value.Ints.map J8) from (J1 (Ji (f1.at h_t24)))).mono (hw.now hF)), ((show FrS h 2 (J6 h v1 6 (Int.toNat x17_2) 4) (t24.Value.Ratios.map Jr) from (J2 (Ji (f1.at h_t24)))).mono (hw.now hF)), ((show FrN h 6 (J6 h v1 6 (Int.toNat x17_2) 5) g_tag_Entry t24.Value.Entries from (Jv (Ji (f1.at h_t24)))).mono (hw.now hF)), rfl, h_t29, rfl⟩⟩) rfl rfl rfl rfl ?_
   refine Ja rfl rfl rfl (r_not rfl) ?_
   refine Jg ?_
   refine Qb (b := (!t29)) rfl (fun hb => ?_) (fun hb => ?_)
   ·have H19 := Jo hb H18; clear H18
    refine Jf ?_
    refine Jb ?_
    refine Ja rfl rfl rfl (Jc (v := .bool false) rfl) ?_
    refine Jg ?_
    refine Ju ?_
    obtain rfl := Option.some.inj H19
    refine Qa (v := .bool false) rfl rfl (fin rfl)
   ·have H20 := Jp hb H18; clear H18
    refine Jt ?_
    refine Jb ?_
    obtain ⟨t31, h_t31, H21⟩ := Jj H20; clear H20
    refine Ja rfl rfl rfl (Qn rfl rfl h_t31) ?_
    refine Ja rfl rfl rfl (Jd (v := .int .i64 t31) rfl) ?_
    refine Jg ?_
    refine Jn t31 () m1 [] (by exact ⟨rfl, rfl, rfl, rfl, rfl, trivial⟩) (by decide) (by kernel_rfl) (by exact ⟨(by subst hn1; exact H21), trivial⟩) (Nat.lt_succ_self _)
  ·have H22 := Jp hb H14; clear H14
   refine Xq ?_
   refine Jf ?_
   refine Jb ?_
   refine Ja rfl rfl rfl (Jc (v := .bool true) rfl) ?_
   refine Jg ?_
   refine Ju ?_
   obtain rfl := Option.some.inj H22
   refine Qa (v := .bool true) rfl rfl (fin rfl)
theorem k12_b {self : ((List T_tag_Entry) × (List T_tag_Entry)) → Option (Bool)} (ih : ∀ {a0 : (List T_tag_Entry)} {v0 : Value} {a1 : (List T_tag_Entry)} {v1 : Value} {r : Bool} {w : World} {h : Jy} (hw : Know h w Zc) (f0 : FrN h 6 v0 g_tag_Entry a0) (f1 : FrN h 6 v1 g_tag_Entry a1) (_ : self (a0, a1) = some r), Does Try.prog 40 (List.toArray [v0, v1]) w (fun v w' => v = (.bool r) ∧ Grow w w')) {a0 : T_tag_Value} {v0_2 : Value} {v0_3 : Value} {v0_4 : Value} {a1 : T_tag_Value} {v1_2 : Value} {v1_3 : Value} {v1_4 : Value} {r : Bool} {w : World} {h : Jy} (hw : Know h w Zc) (f0_2 : FrS h 1 v0_2 (a0.Ints.map J8)) (f0_3 : FrS h 2 v0_3 (a0.Ratios.map Jr)) (f0_4 : FrN h 6 v0_4 g_tag_Entry a0.Entries) (f1_2 : FrS h 1 v1_2 (a1.Ints.map J8)) (f1_3 : FrS h 2 v1_3 (a1.Ratios.map Jr)) (f1_4 : FrN h 6 v1_4 g_tag_Entry a1.Entries) (H : Vy self a0 a1 = some r) : Does Try.prog 12 (List.toArray [.agg #[.int .i64 a0.Kind, str a0.Text, v0_2, v0_3, v0_4], .agg #[.int .i64 a1.Kind, str a1.Text, v1_2, v1_3, v1_4]]) w (fun v w' => v = (.bool r) ∧ Grow w w') := by
 refine enter (n := 38) Try.func12 rfl rfl rfl Zc [] (Sat.nil _ _) ?_
 refine Jf ?_
 refine Jb ?_
 refine Vi (cs := [.int .i64 a0.Kind, str a0.Text, v0_2, v0_3, v0_4]) rfl rfl rfl rfl (fun b2 => ?_)
 refine Vi (cs := [.int .i64 a1.Kind, str a1.Text, v1_2, v1_3, v1_4]) rfl rfl rfl rfl (fun b3 => ?_)
 refine Ja rfl rfl rfl (Jc (v := .bool false) rfl) ?_
 refine Jg ?_
 refine Jf ?_
 refine Jb ?_
 refine Ja rfl rfl rfl (Jl Try.runUnderlying29 rfl Try.sizeOf3 rfl rfl) ?_
 refine Jq (i := 0) (v := .int .i64 a0.Kind) Try.isAgg3 rfl rfl rfl rfl rfl ?_
 refine Ja rfl rfl rfl (Jl Try.runUnderlying29 rfl Try.sizeOf3 rfl rfl) ?_
 refine Jq (i := 1) (v := .int .i64 a1.Kind) Try.isAgg3 rfl rfl rfl rfl rfl ?_
 refine Ja rfl rfl rfl (Qq rfl rfl) ?_
 refine Ja rfl rfl rfl (Jd (v := .bool (decide (a0.Kind = a1.Kind))) rfl) ?_
 refine split (fun hb => ?_) (fun hb => ?_)
 ·have H12 := Jo hb H; clear H
  refine Ja rfl rfl rfl (Jl Try.runUnderlying29 rfl Try.sizeOf9 rfl rfl) ?_
  refine Jq (i := 0) (v := str a0.Text) Try.isAgg9 rfl rfl rfl rfl rfl ?_
  refine Ja rfl rfl rfl (Jl Try.runUnderlying29 rfl Try.sizeOf9 rfl rfl) ?_
  refine Jq (i := 1) (v := str a1.Text) Try.isAgg9 rfl rfl rfl rfl rfl ?_
  refine Ja rfl rfl rfl (r_eqlT rfl rfl) ?_
  refine Ja rfl rfl rfl (J5 (v := .bool (decide (a0.Text = a1.Text))) rfl rfl) ?_
  refine Ja rfl rfl rfl (Jd (v := .bool (decide (a0.Text = a1.Text))) rfl) ?_
  refine split (fun hb => ?_) (fun hb => ?_)
  ·have H13 := Jo hb H12; clear H12
   refine Ja rfl rfl rfl (Jl Try.runUnderlying29 rfl Try.sizeOf25 rfl rfl) ?_
   refine Jq (i := 0) (v := v0_2) Try.isAgg25 rfl rfl rfl rfl rfl ?_
   refine Ja rfl rfl rfl (Jl Try.runUnderlying29 rfl Try.sizeOf25 rfl rfl) ?_
   refine Jq (i := 1) (v := v1_2) Try.isAgg25 rfl rfl rfl rfl rfl ?_
   obtain ⟨t22, h_t22, H14⟩ := Jj H13; clear H13
   refine Xa (fun w hF hS => k30 (Qf w) (f0_2.mono (hw.now hF)) (f1_2.mono (hw.now hF)) h_t22) Try.call30 rfl rfl rfl ?_
   refine Ja rfl rfl rfl (J5 (v := .bool t22) rfl rfl) ?_
   refine Ja rfl rfl rfl (Jd (v := .bool t22) rfl) ?_
   refine split (fun hb => ?_) (fun hb => ?_)
   ·have H15 := Jo hb H14; clear H14
    refine Ja rfl rfl rfl (Jl Try.runUnderlying29 rfl Try.sizeOf26 rfl rfl) ?_
    refine Jq (i := 0) (v := v0_3) Try.isAgg26 rfl rfl rfl rfl rfl ?_
    refine Ja rfl rfl rfl (Jl Try.runUnderlying29 rfl Try.sizeOf26 rfl rfl) ?_
    refine Jq (i := 1) (v := v1_3) Try.isAgg26 rfl rfl rfl rfl rfl ?_
    obtain ⟨t29, h_t29, H16⟩ := Jj H15; clear H15
    refine Xa (fun w hF hS => k39 (Qf w) (f0_3.mono (hw.now hF)) (f1_3.mono (hw.now hF)) h_t29) Try.call39 rfl rfl rfl ?_
    refine Ja rfl rfl rfl (J5 (v := .bool t29) rfl rfl) ?_
    refine Ja rfl rfl rfl (Jd (v := .bool t29) rfl) ?_
    refine split (fun hb => ?_) (fun hb => ?_)
    ·have H17 := Jo hb H16; clear H16
     refine Ja rfl rfl rfl (Jl Try.runUnderlying29 rfl Try.sizeOf27 rfl rfl) ?_
     refine Jq (i := 0) (v := v0_4) Try.isAgg27 rfl rfl rfl rfl rfl ?_
     refine Ja rfl rfl rfl (Jl Try.runUnderlying29 rfl Try.sizeOf27 rfl rfl) ?_
     refine Jq (i := 1) (v := v1_4) Try.isAgg27 rfl rfl rfl rfl rfl ?_
     obtain ⟨t36, h_t36, H18⟩ := Jj H17; clear H17
     refine Xa (fun w hF hS => ih (Qf w) (f0_4.mono (hw.now hF)) (f1_4.mono (hw.now hF)) h_t36) Try.call40 rfl rfl rfl ?_
     refine Ja rfl rfl rfl (J5 (v := .bool t36) rfl rfl) ?_
     refine Ja rfl rfl rfl (Jc (v := .bool t36) rfl) ?_
     refine Jg ?_
     refine Ju ?_
     obtain rfl := Option.some.inj H18
     refine Qa (v := .bool t36) rfl rfl (fin rfl)
    ·have H19 := Jp hb H16; clear H16
     refine Jh rfl rfl rfl ?_
     refine Jh rfl rfl rfl ?_
     refine Jh rfl rfl rfl ?_
     refine Jh rfl rfl rfl ?_
     refine Jh rfl rfl rfl ?_
     refine Ja rfl rfl rfl (J7 (v := .bool false) rfl rfl) ?_
     refine Ja rfl rfl rfl (Jc (v := .bool false) rfl) ?_
     refine Jg ?_
     refine Ju ?_
     obtain rfl := Option.some.inj H19
     refine Qa (v := .bool false) rfl rfl (fin rfl)
   ·have H20 := Jp hb H14; clear H14
    refine Jh rfl rfl rfl ?_
    refine Jh rfl rfl rfl ?_
    refine Jh rfl rfl rfl ?_
    refine Jh rfl rfl rfl ?_
    refine Jh rfl rfl rfl ?_
    refine Ja rfl rfl rfl (J7 (v := .bool false) rfl rfl) ?_
    refine Ja rfl rfl rfl (Jd (v := .bool false) rfl) ?_
    refine Jh rfl rfl rfl ?_
    refine Jh rfl rfl rfl ?_
    refine Jh rfl rfl rfl ?_
    refine Jh rfl rfl rfl ?_
    refine Jh rfl rfl rfl ?_
    refine Ja rfl rfl rfl (J7 (v := .bool false) rfl rfl) ?_
    refine Ja rfl rfl rfl (Jc (v := .bool false) rfl) ?_
    refine Jg ?_
    refine Ju ?_
    obtain rfl := Option.some.inj H20
    refine Qa (v := .bool false) rfl rfl (fin rfl)
  ·have H21 := Jp hb H12; clear H12
   refine Jh rfl rfl rfl ?_
   refine Jh rfl rfl rfl ?_
   refine Jh rfl rfl rfl ?_
   refine Jh rfl rfl rfl ?_
   refine Jh rfl rfl rfl ?_
   refine Ja rfl rfl rfl (J7 (v := .bool false) rfl rfl) ?_
   refine Ja rfl rfl rfl (Jd (v := .bool false) rfl) ?_
   refine Jh rfl rfl rfl ?_
   refine Jh rfl rfl rfl ?_
   refine Jh rfl rfl rfl ?_
   refine Jh rfl rfl rfl ?_
   refine Jh rfl rfl rfl ?_
   refine Ja rfl rfl rfl (J7 (v := .bool false) rfl rfl) ?_
   refine Ja rfl rfl rfl (Jd (v := .bool false) rfl) ?_
   refine Jh rfl rfl rfl ?_
   refine Jh rfl rfl rfl ?_
   refine Jh rfl rfl rfl ?_
   refine Jh rfl rfl rfl ?_
   refine Jh rfl rfl rfl ?_
   refine Ja rfl rfl rfl (J7 (v := .bool false) rfl rfl) ?_
   refine Ja rfl rfl rfl (Jc (v := .bool false) rfl) ?_
   refine Jg ?_
   refine Ju ?_
   obtain rfl := Option.some.inj H21
   refine Qa (v := .bool false) rfl rfl (fin rfl)
 ·have H22 := Jp hb H; clear H
  refine Jh rfl rfl rfl ?_
  refine Jh rfl rfl rfl ?_
  refine Jh rfl rfl rfl ?_
  refine Jh rfl rfl rfl ?_
  refine Jh rfl rfl rfl ?_
  refine Ja rfl rfl rfl (J7 (v := .bool false) rfl rfl) ?_
  refine Ja rfl rfl rfl (Jd (v := .bool false) rfl) ?_
  refine Jh rfl rfl rfl ?_
  refine Jh rfl rfl rfl ?_
  refine Jh rfl rfl rfl ?_
  refine Jh rfl rfl rfl ?_
  refine Jh rfl rfl rfl ?_
  refine Ja rfl rfl rfl (J7 (v := .bool false) rfl rfl) ?_
  refine Ja rfl rfl rfl (Jd (v := .bool false) rfl) ?_
  refine Jh rfl rfl rfl ?_
  refine Jh rfl rfl rfl ?_
  refine Jh rfl rfl rfl ?_
  refine Jh rfl rfl rfl ?_
  refine Jh rfl rfl rfl ?_
  refine Ja rfl rfl rfl (J7 (v := .bool false) rfl rfl) ?_
  refine Ja rfl rfl rfl (Jd (v := .bool false) rfl) ?_
  refine Jh rfl rfl rfl ?_
  refine Jh rfl rfl rfl ?_
  refine Jh rfl rfl rfl ?_
  refine Jh rfl rfl rfl ?_
  refine Jh rfl rfl rfl ?_
  refine Ja rfl rfl rfl (J7 (v := .bool false) rfl rfl) ?_
  refine Ja rfl rfl rfl (Jc (v := .bool false) rfl) ?_
  refine Jg ?_
  refine Ju ?_
  obtain rfl := Option.some.inj H22
  refine Qa (v := .bool false) rfl rfl (fin rfl)
theorem k67_b {self : ((List T_tag_Entry) × (List T_tag_Entry)) → Option (Bool)} (ih : ∀ {a0 : (List T_tag_Entry)} {v0 : Value} {a1 : (List T_tag_Entry)} {v1 : Value} {r : Bool} {w : World} {h : Jy} (hw : Know h w Zc) (f0 : FrN h 6 v0 g_tag_Entry a0) (f1 : FrN h 6 v1 g_tag_Entry a1) (_ : self (a0, a1) = some r), Does Try.prog 40 (List.toArray [v0, v1]) w (fun v w' => v = (.bool r) ∧ Grow w w')) {a0 : T_tag_Entry} {v0_1_2 : Value} {v0_1_3 : Value} {v0_1_4 : Value} {a1 : T_tag_Entry} {v1_1_2 : Value} {v1_1_3 : Value} {v1_1_4 : Value} {r : Bool} {w : World} {h : Jy} (hw : Know h w Zc) (f0_1_2 : FrS h 1 v0_1_2 (a0.Value.Ints.map J8)) (f0_1_3 : FrS h 2 v0_1_3 (a0.Value.Ratios.map Jr)) (f0_1_4 : FrN h 6 v0_1_4 g_tag_Entry a0.Value.Entries) (f1_1_2 : FrS h 1 v1_1_2 (a1.Value.Ints.map J8)) (f1_1_3 : FrS h 2 v1_1_3 (a1.Value.Ratios.map Jr)) (f1_1_4 : FrN h 6 v1_1_4 g_tag_Entry a1.Value.Entries) (H : R_SameDir_1_body self a0 a1 = some r) : Does Try.prog 67 (List.toArray [.agg #[.int .i64 a0.Tag, .int .i64 a0.Value.Kind, str a0.Value.Text, v0_1_2, v0_1_3, v0_1_4], .agg #[.int .i64 a1.Tag, .int .i64 a1.Value.Kind, str a1.Value.Text, v1_1_2, v1_1_3, v1_1_4]]) w (fun v w' => v = (.bool r) ∧ Grow w w') := by
 refine enter (n := 17) Try.func67 rfl rfl rfl Zc [] (Sat.nil _ _) ?_
 refine Jf ?_
 refine Jb ?_
 refine Vi (cs := [.int .i64 a0.Tag, .int .i64 a0.Value.Kind, str a0.Value.Text, v0_1_2, v0_1_3, v0_1_4]) rfl rfl rfl rfl (fun b2 => ?_)
 refine Vi (cs := [.int .i64 a1.Tag, .int .i64 a1.Value.Kind, str a1.Value.Text, v1_1_2, v1_1_3, v1_1_4]) rfl rfl rfl rfl (fun b3 => ?_)
 refine Ja rfl rfl rfl (Jc (v := .bool false) rfl) ?_
 refine Jg ?_
 refine Jf ?_
 refine Jb ?_
 refine Ja rfl rfl rfl (Jl Try.runUnderlying70 rfl Try.sizeOf3 rfl rfl) ?_
 refine Jq (i := 0) (v := .int .i64 a0.Tag) Try.isAgg3 rfl rfl rfl rfl rfl ?_
 refine Ja rfl rfl rfl (Jl Try.runUnderlying70 rfl Try.sizeOf3 rfl rfl) ?_
 refine Jq (i := 1) (v := .int .i64 a1.Tag) Try.isAgg3 rfl rfl rfl rfl rfl ?_
 refine Ja rfl rfl rfl (Qq rfl rfl) ?_
 refine Ja rfl rfl rfl (Jd (v := .bool (decide (a0.Tag = a1.Tag))) rfl) ?_
 refine split (fun hb => ?_) (fun hb => ?_)
 ·have H4 := Jo hb H; clear H
  refine Ja rfl rfl rfl (Jl Try.runUnderlying70 rfl Try.sizeOf29 rfl rfl) ?_
  refine X2 (i := 0) (vs := [.int .i64 a0.Value.Kind, str a0.Value.Text, v0_1_2, v0_1_3, v0_1_4]) Try.isAgg29 Try.sizeOf29 rfl rfl rfl rfl rfl ?_
  refine Ja rfl rfl rfl (Jl Try.runUnderlying70 rfl Try.sizeOf29 rfl rfl) ?_
  refine X2 (i := 1) (vs := [.int .i64 a1.Value.Kind, str a1.Value.Text, v1_1_2, v1_1_3, v1_1_4]) Try.isAgg29 Try.sizeOf29 rfl rfl rfl rfl rfl ?_
  obtain ⟨t15, h_t15, H5⟩ := Jj H4; clear H4
  refine Xa (fun w hF hS => k12_b ih (Qf w) (f0_1_2.mono (hw.now hF)) (f0_1_3.mono (hw.now hF)) (f0_1_4.mono (hw.now hF)) (f1_1_2.mono (hw.now hF)) (f1_1_3.mono (hw.now hF)) (f1_1_4.mono (hw.now hF)) h_t15) Try.call12 rfl rfl rfl ?_
  refine Ja rfl rfl rfl (J5 (v := .bool t15) rfl rfl) ?_
  refine Ja rfl rfl rfl (Jc (v := .bool t15) rfl) ?_
  refine Jg ?_
  refine Ju ?_
  obtain rfl := Option.some.inj H5
  refine Qa (v := .bool t15) rfl rfl (fin rfl)
 ·have H6 := Jp hb H; clear H
  refine Jh rfl rfl rfl ?_
  refine Jh rfl rfl rfl ?_
  refine Jh rfl rfl rfl ?_
  refine Jh rfl rfl rfl ?_
  refine Jh rfl rfl rfl ?_
  refine Ja rfl rfl rfl (J7 (v := .bool false) rfl rfl) ?_
  refine Ja rfl rfl rfl (Jc (v := .bool false) rfl) ?_
  refine Jg ?_
  refine Ju ?_
  obtain rfl := Option.some.inj H6
  refine Qa (v := .bool false) rfl rfl (fin rfl)
theorem k40_it (mm : Nat) : ∀ {a0 : (List T_tag_Entry)} {v0 : Value} {a1 : (List T_tag_Entry)} {v1 : Value} {r : Bool} {w : World} {h : Jy} (hw : Know h w Zc) (f0 : FrN h 6 v0 g_tag_Entry a0) (f1 : FrN h 6 v1 g_tag_Entry a1) (H : it (fun (self : ((List T_tag_Entry) × (List T_tag_Entry)) → Option (Bool)) (s : (List T_tag_Entry) × (List T_tag_Entry)) => Yo self s.1 s.2) mm (a0, a1) = some r), Does Try.prog 40 (List.toArray [v0, v1]) w (fun v w' => v = (.bool r) ∧ Grow w w') := by
 induction mm with
 | zero => intros; rename_i H; exact absurd H (by simp [it])
 | succ mm ih =>
  intro a0 v0 a1 v1 r w h hw f0 f1 H
  replace H : Yo (it (fun (self : ((List T_tag_Entry) × (List T_tag_Entry)) → Option (Bool)) (s : (List T_tag_Entry) × (List T_tag_Entry)) => Yo self s.1 s.2) mm) a0 a1 = some r := H
  generalize it (fun (self : ((List T_tag_Entry) × (List T_tag_Entry)) → Option (Bool)) (s : (List T_tag_Entry) × (List T_tag_Entry)) => Yo self s.1 s.2) mm = self at H ih
  refine enter (n := 8) Try.func40 rfl rfl rfl Zc [] (Sat.nil _ _) ?_
  refine Jf ?_
  refine Jb ?_
  refine Ja rfl rfl rfl (Jc (v := .bool false) rfl) ?_
  refine Jg ?_
  refine Jf ?_
  refine Jb ?_
  refine Ja rfl rfl rfl (Jd (v := v0) rfl) ?_
  refine Ja rfl rfl rfl (Jd (v := v1) rfl) ?_
  obtain ⟨t7, h_t7, H2⟩ := Jj H; clear H
  refine Xa (fun w hF hS => k66 (Qf w) (f0.mono (hw.now hF)) (f1.mono (hw.now hF)) (FnH.mk ⟨67, #[], #[], rfl, Try.call67, fun args2 post2 w2 hk2 hR2 => by obtain ⟨a0_, v0_1_2_, v0_1_3_, v0_1_4_, a1_, v1_1_2_, v1_1_3_, v1_1_4_, r_, fa0_1_2_, fa0_1_3_, fa0_1_4_, fa1_1_2_, fa1_1_3_, fa1_1_4_, rfl, H_, rfl⟩ := hR2; exact k67_b ih (Qf w2) fa0_1_2_ fa0_1_3_ fa0_1_4_ fa1_1_2_ fa1_1_3_ fa1_1_4_ H_⟩) h_t7) Try.call66 rfl rfl rfl ?_
  refine Ja rfl rfl rfl (Jc (v := .bool t7) rfl) ?_
  refine Jg ?_
  refine Ju ?_
  obtain rfl := Option.some.inj H2
  refine Qa (v := .bool t7) rfl rfl (fin rfl)
theorem k40 {a0 : (List T_tag_Entry)} {v0 : Value} {a1 : (List T_tag_Entry)} {v1 : Value} {r : Bool} {w : World} {h : Jy} (hw : Know h w Zc) (f0 : FrN h 6 v0 g_tag_Entry a0) (f1 : FrN h 6 v1 g_tag_Entry a1) (H : R_SameDir a0 a1 = some r) : Does Try.prog 40 (List.toArray [v0, v1]) w (fun v w' => v = (.bool r) ∧ Grow w w') := by
 obtain ⟨mm, hm⟩ := fix_it (show Z5 (fun (self : ((List T_tag_Entry) × (List T_tag_Entry)) → Option (Bool)) (s : (List T_tag_Entry) × (List T_tag_Entry)) => Yo self s.1 s.2) (a0, a1) = some r from H)
 exact k40_it mm hw f0 f1 hm
theorem k12 {a0 : T_tag_Value} {v0_2 : Value} {v0_3 : Value} {v0_4 : Value} {a1 : T_tag_Value} {v1_2 : Value} {v1_3 : Value} {v1_4 : Value} {r : Bool} {w : World} {h : Jy} (hw : Know h w Zc) (f0_2 : FrS h 1 v0_2 (a0.Ints.map J8)) (f0_3 : FrS h 2 v0_3 (a0.Ratios.map Jr)) (f0_4 : FrN h 6 v0_4 g_tag_Entry a0.Entries) (f1_2 : FrS h 1 v1_2 (a1.Ints.map J8)) (f1_3 : FrS h 2 v1_3 (a1.Ratios.map Jr)) (f1_4 : FrN h 6 v1_4 g_tag_Entry a1.Entries) (H : We a0 a1 = some r) : Does Try.prog 12 (List.toArray [.agg #[.int .i64 a0.Kind, str a0.Text, v0_2, v0_3, v0_4], .agg #[.int .i64 a1.Kind, str a1.Text, v1_2, v1_3, v1_4]]) w (fun v w' => v = (.bool r) ∧ Grow w w') :=
  k12_b (self := (fun s : (List T_tag_Entry) × (List T_tag_Entry) => R_SameDir s.1 s.2)) (fun hw_ f0_ f1_ H_ => k40 hw_ f0_ f1_ H_) hw f0_2 f0_3 f0_4 f1_2 f1_3 f1_4 H
theorem k57 {a0 : (List T_tag_Entry)} {v0 : Value} {a1 : Int} {a2 : (T_tag_Entry → Int → Option (Int))} {v2 : Value} {r : Int × Bool} {w : World} {h : Jy} (hw : Know h w Zc) (f0 : FrN h 6 v0 g_tag_Entry a0) (f2 : FnH Try.prog h v2 (Y6 a2)) (H : Xp a0 a1 a2 = some r) : Does Try.prog 57 (List.toArray [v0, .int .i64 a1, v2]) w (fun v w' => v = (.tuple #[.int .i64 r.1, .bool r.2]) ∧ Grow w w') := by
 refine enter (n := 49) Try.func57 rfl rfl rfl Zc [] (Sat.nil _ _) ?_
 refine Jf ?_
 refine Jb ?_
 refine Ja rfl rfl rfl (Jc (v := .int .i64 0) rfl) ?_
 refine Ja rfl rfl rfl (Jc (v := .bool false) rfl) ?_
 refine Jg ?_
 refine Jf ?_
 refine Jb ?_
 refine Ja rfl rfl rfl (Jd (v := v0) rfl) ?_
 refine Ja rfl rfl rfl (Qu Try.underlying27 rfl f0) ?_
 refine Ja rfl rfl rfl (Jc (v := .int .i64 (a0.length : Int)) rfl) ?_
 refine Jg ?_
 refine Jf ?_
 refine Jb ?_
 refine Ja rfl rfl rfl (Jd (v := .int .i64 (a0.length : Int)) rfl) ?_
 refine Ja rfl rfl rfl (Jc (v := .int .i64 0) rfl) ?_
 refine Ja rfl rfl rfl (Jc (v := .int .i64 (a0.length : Int)) rfl) ?_
 refine Jg ?_
 refine Qw (r := r) (σ := Int) (τ := Unit) (fun s => Qi a0 a1 a2 s) (fun s t => [(0, v0), (1, .int .i64 a1), (2, v2), (8, .int .i64 (a0.length : Int)), (9, .int .i64 s)]) (fun s t => []) (fun s t => True) ?_ ?_
 ·refine J0 ?_
  refine Zb (σ := Int × Int) (τ := Unit) (fun next2 s => J3 a0 a1 a2 next2 s.1 s.2) (fun s t => [(0, v0), (1, .int .i64 a1), (2, v2), (8, .int .i64 (a0.length : Int)), (9, .int .i64 s.1), (10, .int .i64 s.2)]) (fun s t => []) (fun s t => True) (0, (a0.length : Int)) () [] H (by exact trivial) (by exact ⟨rfl, rfl, rfl, rfl, rfl, rfl, trivial⟩) (by decide) rfl ?_
  rintro ⟨x9_3, x10_2⟩ _ m2 gg H21 _
  clear H
  replace H21 : J3 a0 a1 a2 (it (fun next2 s => J3 a0 a1 a2 next2 s.1 s.2) m2) x9_3 x10_2 = some r := H21
  generalize hn2 : it (fun next2 s => J3 a0 a1 a2 next2 s.1 s.2) m2 = next2 at H21
  try dsimp only
  refine Jf ?_
  refine Jf ?_
  refine Jb ?_
  refine Ja rfl rfl rfl (Jd (v := .int .i64 x9_3) rfl) ?_
  refine Ja rfl rfl rfl (Jd (v := .int .i64 x10_2) rfl) ?_
  refine Ja rfl rfl rfl (Xy rfl rfl) ?_
  refine Jg ?_
  refine Qb (b := (decide (x9_3 < x10_2))) rfl (fun hb => ?_) (fun hb => ?_)
  ·have H22 := Jo hb H21; clear H21
   refine Jt ?_
   refine J0 ?_
   refine Jf ?_
   refine Jb ?_
   refine Ja rfl rfl rfl (Jd (v := .int .i64 x9_3) rfl) ?_
   refine Ja rfl rfl rfl (Jd (v := .int .i64 x10_2) rfl) ?_
   obtain ⟨t20, h_t20, H23⟩ := Jj H22; clear H22
   refine Ja rfl rfl rfl (Qn rfl rfl h_t20) ?_
   refine Ja rfl rfl rfl (r_convG Try.runUnderlying3 Try.runUnderlying114 rfl (wr_u64 _)) ?_
   obtain ⟨t22, h_t22, H24⟩ := Jj H23; clear H23
   refine Ja rfl rfl rfl (r_shrG rfl rfl rfl h_t22) ?_
   refine Ja rfl rfl rfl (r_convG Try.runUnderlying114 Try.runUnderlying3 rfl (wr_i64 _)) ?_
   refine Ja rfl rfl rfl (Jc (v := .int .i64 (wI64 t22)) rfl) ?_
   refine Jg ?_
   refine Jf ?_
   refine Jb ?_
   refine Ja rfl rfl rfl (Jd (v := v2) rfl) ?_
   refine Ja rfl rfl rfl (Jd (v := v0) rfl) ?_
   refine Ja rfl rfl rfl (Jd (v := .int .i64 (wI64 t22)) rfl) ?_
   obtain ⟨t27, h_t27, H25⟩ := Jj H24; clear H24
   refine Ja rfl rfl rfl (Qe Try.underlying27 Try.sizeOf70 rfl rfl f0.frs (f0.ix h_t27)) ?_
   refine Xl (fun w hF hS => Xb (f := (V2 h v0 6)) (i := (wI64 t22)) (sz := 6) (j := 0) (vs := [.int .i64 t27.Tag, .int .i64 t27.Value.Kind, str t27.Value.Text, (J6 h v0 6 (Int.toNat (wI64 t22)) 3), (J6 h v0 6 (Int.toNat (wI64 t22)) 4), (J6 h v0 6 (Int.toNat (wI64 t22)) 5)]) Try.isAgg70 Try.sizeOf70 rfl rfl (f0.frs.row (hw.now hF)) (f0.ix h_t27) (rd_of (Qh (f0.at h_t27)) rfl)) rfl rfl rfl ?_
   refine Ja rfl rfl rfl (Jd (v := .int .i64 a1) rfl) ?_
   obtain ⟨t30, h_t30, H26⟩ := Jj H25; clear H25
   refine l_callV (R := Y6 a2) (r := .int .i64 t30) (v := v2) (fun w hF hS => ⟨(f2.mono (hw.now hF)), ⟨t27, _, _, _, a1, _, ((show FrS h 1 (J6 h v0 6 (Int.toNat (wI64 t22)) 3) (t27.Value.Ints.map J8) from (J1 (Ji (f0.at h_t27)))).mono (hw.now hF)), ((show FrS h 2 (J6 h v0 6 (Int.toNat (wI64 t22)) 4) (t27.Value.Ratios.map Jr) from (J2 (Ji (f0.at h_t27)))).mono (hw.now hF)), ((show FrN h 6 (J6 h v0 6 (Int.toNat (wI64 t22)) 5) g_tag_Entry t27.Value.Entries from (Jv (Ji (f0.at h_t27)))).mono (hw.now hF)), rfl, h_t30, rfl⟩⟩) rfl rfl rfl rfl ?_
   refine Ja rfl rfl rfl (Xy rfl rfl) ?_
   refine Jg ?_
   refine Qb (b := (decide (t30 < 0))) rfl (fun hb => ?_) (fun hb => ?_)
   ·have H27 := Jo hb H26; clear H26
    refine Jb ?_
    refine Ja rfl rfl rfl (Jd (v := .int .i64 (wI64 t22)) rfl) ?_
    obtain ⟨t33, h_t33, H28⟩ := Jj H27; clear H27
    refine Ja rfl rfl rfl (Qn rfl rfl h_t33) ?_
    refine Ja rfl rfl rfl (Jc (v := .int .i64 t33) rfl) ?_
    refine Jg ?_
    refine Jn (t33, x10_2) () m2 [] (by exact ⟨rfl, rfl, rfl, rfl, rfl, rfl, trivial⟩) (by decide) (by kernel_rfl) (by exact ⟨(by subst hn2; exact H28), trivial⟩) (Nat.lt_succ_self _)
   ·have H29 := Jp hb H26; clear H26
    refine Jb ?_
    refine Ja rfl rfl rfl (Jd (v := .int .i64 (wI64 t22)) rfl) ?_
    refine Ja rfl rfl rfl (Jc (v := .int .i64 (wI64 t22)) rfl) ?_
    refine Jg ?_
    refine Jn (x9_3, (wI64 t22)) () m2 [] (by exact ⟨rfl, rfl, rfl, rfl, rfl, rfl, trivial⟩) (by decide) (by kernel_rfl) (by exact ⟨(by subst hn2; exact H29), trivial⟩) (Nat.lt_succ_self _)
  ·have H30 := Jp hb H21; clear H21
   refine Xq ?_
   refine Jn x9_3 () 0 [] (by exact ⟨rfl, rfl, rfl, rfl, rfl, trivial⟩) (by decide) (by kernel_rfl) (by exact ⟨H30, trivial⟩) (Nat.lt_succ_self _)
 ·rintro x9 _ gg H16 _
  replace H16 : Qi a0 a1 a2 x9 = some r := H16
  try dsimp only
  refine Jf ?_
  refine Jb ?_
  refine Ja rfl rfl rfl (Jd (v := .int .i64 x9) rfl) ?_
  refine Ja rfl rfl rfl (Jd (v := .int .i64 x9) rfl) ?_
  refine Ja rfl rfl rfl (Jd (v := .int .i64 (a0.length : Int)) rfl) ?_
  refine Ja rfl rfl rfl (Xy rfl rfl) ?_
  refine Ja rfl rfl rfl (Jd (v := .bool (decide (x9 < (a0.length : Int)))) rfl) ?_
  refine split (fun hb => ?_) (fun hb => ?_)
  ·have H17 := Jo hb H16; clear H16
   refine Ja rfl rfl rfl (Jd (v := v2) rfl) ?_
   refine Ja rfl rfl rfl (Jd (v := v0) rfl) ?_
   refine Ja rfl rfl rfl (Jd (v := .int .i64 x9) rfl) ?_
   obtain ⟨t43, h_t43, H18⟩ := Jj H17; clear H17
   refine Ja rfl rfl rfl (Qe Try.underlying27 Try.sizeOf70 rfl rfl f0.frs (f0.ix h_t43)) ?_
   refine Xl (fun w hF hS => Xb (f := (V2 h v0 6)) (i := x9) (sz := 6) (j := 0) (vs := [.int .i64 t43.Tag, .int .i64 t43.Value.Kind, str t43.Value.Text, (J6 h v0 6 (Int.toNat x9) 3), (J6 h v0 6 (Int.toNat x9) 4), (J6 h v0 6 (Int.toNat x9) 5)]) Try.isAgg70 Try.sizeOf70 rfl rfl (f0.frs.row (hw.now hF)) (f0.ix h_t43) (rd_of (Qh (f0.at h_t43)) rfl)) rfl rfl rfl ?_
   refine Ja rfl rfl rfl (Jd (v := .int .i64 a1) rfl) ?_
   obtain ⟨t46, h_t46, H19⟩ := Jj H18; clear H18
   refine l_callV (R := Y6 a2) (r := .int .i64 t46) (v := v2) (fun w hF hS => ⟨(f2.mono (hw.now hF)), ⟨t43, _, _, _, a1, _, ((show FrS h 1 (J6 h v0 6 (Int.toNat x9) 3) (t43.Value.Ints.map J8) from (J1 (Ji (f0.at h_t43)))).mono (hw.now hF)), ((show FrS h 2 (J6 h v0 6 (Int.toNat x9) 4) (t43.Value.Ratios.map Jr) from (J2 (Ji (f0.at h_t43)))).mono (hw.now hF)), ((show FrN h 6 (J6 h v0 6 (Int.toNat x9) 5) g_tag_Entry t43.Value.Entries from (Jv (Ji (f0.at h_t43)))).mono (hw.now hF)), rfl, h_t46, rfl⟩⟩) rfl rfl rfl rfl ?_
   refine Ja rfl rfl rfl (Qq rfl rfl) ?_
   refine Ja rfl rfl rfl (J5 (v := .bool (decide (t46 = 0))) rfl rfl) ?_
   refine Ja rfl rfl rfl (Jc (v := .int .i64 x9) rfl) ?_
   refine Ja rfl rfl rfl (Jc (v := .bool (decide (t46 = 0))) rfl) ?_
   refine Jg ?_
   refine Ju ?_
   obtain rfl := Option.some.inj H19
   refine ret2 (v1 := .int .i64 x9) (v2 := .bool (decide (t46 = 0))) rfl rfl rfl (fin rfl)
  ·have H20 := Jp hb H16; clear H16
   refine Jh rfl rfl rfl ?_
   refine Jh rfl rfl rfl ?_
   refine Jh rfl rfl rfl ?_
   refine Jh rfl rfl rfl ?_
   refine Jh rfl rfl rfl ?_
   refine Jh rfl rfl rfl ?_
   refine Jh rfl rfl rfl ?_
   refine Jh rfl rfl rfl ?_
   refine Ja rfl rfl rfl (J7 (v := .bool false) rfl rfl) ?_
   refine Ja rfl rfl rfl (Jc (v := .int .i64 x9) rfl) ?_
   refine Ja rfl rfl rfl (Jc (v := .bool false) rfl) ?_
   refine Jg ?_
   refine Ju ?_
   obtain rfl := Option.some.inj H20
   refine ret2 (v1 := .int .i64 x9) (v2 := .bool false) rfl rfl rfl (fin rfl)
theorem k85 {a0 : Int} {r : Bool} (H : W3 a0 = some r) : Ret Try.prog 85 [.int .i64 a0] (.bool r) := by
 refine Y8 (n := 6) Try.func85 rfl rfl rfl (fun wd => ?_)
 refine Jf ?_
 refine Jb ?_
 refine Ja rfl rfl rfl (Jc (v := .bool false) rfl) ?_
 refine Jg ?_
 refine Jf ?_
 refine Jb ?_
 refine Ja rfl rfl rfl (Jd (v := .int .i64 a0) rfl) ?_
 refine Ja rfl rfl rfl (Jd (v := .int .i64 a0) rfl) ?_
 refine Ja rfl rfl rfl (V0 rfl rfl) ?_
 refine Ja rfl rfl rfl (Jc (v := .bool (decide (a0 ≠ a0))) rfl) ?_
 refine Jg ?_
 refine Ju ?_
 obtain rfl := Option.some.inj H
 refine Qa (v := .bool (decide (a0 ≠ a0))) rfl rfl (fin rfl)
theorem k69 {a0 : Int} {a1 : Int} {r : Int} (H : V8 a0 a1 = some r) : Ret Try.prog 69 [.int .i64 a0, .int .i64 a1] (.int .i64 r) := by
 refine Y8 (n := 20) Try.func69 rfl rfl rfl (fun wd => ?_)
 refine Jf ?_
 refine Jb ?_
 refine Ja rfl rfl rfl (Jc (v := .int .i64 0) rfl) ?_
 refine Jg ?_
 refine Jf ?_
 refine Jb ?_
 refine Ja rfl rfl rfl (Jd (v := .int .i64 a0) rfl) ?_
 obtain ⟨t8, h_t8, H13⟩ := Jj H; clear H
 refine Z7 (k85 h_t8) Try.call85 rfl rfl rfl ?_
 refine Ja rfl rfl rfl (Jc (v := .bool t8) rfl) ?_
 refine Jg ?_
 refine Jf ?_
 refine Jb ?_
 refine Ja rfl rfl rfl (Jd (v := .int .i64 a1) rfl) ?_
 obtain ⟨t10, h_t10, H14⟩ := Jj H13; clear H13
 refine Z7 (k85 h_t10) Try.call85 rfl rfl rfl ?_
 refine Ja rfl rfl rfl (Jc (v := .bool t10) rfl) ?_
 refine Jg ?_
 refine Jf ?_
 refine Jf ?_
 refine Jb ?_
 refine Ja rfl rfl rfl (Jd (v := .bool t8) rfl) ?_
 refine Jg ?_
 refine Qb (b := t8) rfl (fun hb => ?_) (fun hb => ?_)
 ·have H15 := Jo hb H14; clear H14
  refine Jf ?_
  refine Jf ?_
  refine Jb ?_
  refine Ja rfl rfl rfl (Jd (v := .bool t10) rfl) ?_
  refine Jg ?_
  refine Qb (b := t10) rfl (fun hb => ?_) (fun hb => ?_)
  ·have H16 := Jo hb H15; clear H15
   refine Jf ?_
   refine Jb ?_
   refine Ja rfl rfl rfl (Jc (v := .int .i64 0) rfl) ?_
   refine Jg ?_
   refine Ju ?_
   obtain rfl := Option.some.inj H16
   refine Qa (v := .int .i64 0) rfl rfl (fin rfl)
  ·have H17 := Jp hb H15; clear H15
   refine Jt ?_
   refine Jf ?_
   refine Jb ?_
   refine Ja rfl rfl rfl (Jc (v := .int .i64 (-1)) rfl) ?_
   refine Jg ?_
   refine Ju ?_
   obtain rfl := Option.some.inj H17
   refine Qa (v := .int .i64 (-1)) rfl rfl (fin rfl)
 ·have H18 := Jp hb H14; clear H14
  refine Jt ?_
  refine Jf ?_
  refine Jf ?_
  refine Jb ?_
  refine Ja rfl rfl rfl (Jd (v := .bool t10) rfl) ?_
  refine Jg ?_
  refine Qb (b := t10) rfl (fun hb => ?_) (fun hb => ?_)
  ·have H19 := Jo hb H18; clear H18
   refine Jf ?_
   refine Jb ?_
   refine Ja rfl rfl rfl (Jc (v := .int .i64 1) rfl) ?_
   refine Jg ?_
   refine Ju ?_
   obtain rfl := Option.some.inj H19
   refine Qa (v := .int .i64 1) rfl rfl (fin rfl)
  ·have H20 := Jp hb H18; clear H18
   refine Jt ?_
   refine Jf ?_
   refine Jf ?_
   refine Jb ?_
   refine Ja rfl rfl rfl (Jd (v := .int .i64 a0) rfl) ?_
   refine Ja rfl rfl rfl (Jd (v := .int .i64 a1) rfl) ?_
   refine Ja rfl rfl rfl (Xy rfl rfl) ?_
   refine Jg ?_
   refine Qb (b := (decide (a0 < a1))) rfl (fun hb => ?_) (fun hb => ?_)
   ·have H21 := Jo hb H20; clear H20
    refine Jf ?_
    refine Jb ?_
    refine Ja rfl rfl rfl (Jc (v := .int .i64 (-1)) rfl) ?_
    refine Jg ?_
    refine Ju ?_
    obtain rfl := Option.some.inj H21
    refine Qa (v := .int .i64 (-1)) rfl rfl (fin rfl)
   ·have H22 := Jp hb H20; clear H20
    refine Jt ?_
    refine Jf ?_
    refine Jf ?_
    refine Jb ?_
    refine Ja rfl rfl rfl (Jd (v := .int .i64 a0) rfl) ?_
    refine Ja rfl rfl rfl (Jd (v := .int .i64 a1) rfl) ?_
    refine Ja rfl rfl rfl (Z0 rfl rfl) ?_
    refine Jg ?_
    refine Qb (b := (decide (a1 < a0))) rfl (fun hb => ?_) (fun hb => ?_)
    ·have H23 := Jo hb H22; clear H22
     refine Jf ?_
     refine Jb ?_
     refine Ja rfl rfl rfl (Jc (v := .int .i64 1) rfl) ?_
     refine Jg ?_
     refine Ju ?_
     obtain rfl := Option.some.inj H23
     refine Qa (v := .int .i64 1) rfl rfl (fin rfl)
    ·have H24 := Jp hb H22; clear H22
     refine Jt ?_
     refine Jf ?_
     refine Jb ?_
     refine Ja rfl rfl rfl (Jc (v := .int .i64 0) rfl) ?_
     refine Jg ?_
     refine Ju ?_
     obtain rfl := Option.some.inj H24
     refine Qa (v := .int .i64 0) rfl rfl (fin rfl)
theorem k68 {a0 : T_tag_Entry} {v0_1_2 : Value} {v0_1_3 : Value} {v0_1_4 : Value} {a1 : Int} {r : Int} {w : World} {h : Jy} (hw : Know h w Zc) (f0_1_2 : FrS h 1 v0_1_2 (a0.Value.Ints.map J8)) (f0_1_3 : FrS h 2 v0_1_3 (a0.Value.Ratios.map Jr)) (f0_1_4 : FrN h 6 v0_1_4 g_tag_Entry a0.Value.Entries) (H : R_find_1 a0 a1 = some r) : Does Try.prog 68 (List.toArray [.agg #[.int .i64 a0.Tag, .int .i64 a0.Value.Kind, str a0.Value.Text, v0_1_2, v0_1_3, v0_1_4], .int .i64 a1]) w (fun v w' => v = (.int .i64 r) ∧ Grow w w') := by
 refine enter (n := 9) Try.func68 rfl rfl rfl Zc [] (Sat.nil _ _) ?_
 refine Jf ?_
 refine Jb ?_
 refine Vi (cs := [.int .i64 a0.Tag, .int .i64 a0.Value.Kind, str a0.Value.Text, v0_1_2, v0_1_3, v0_1_4]) rfl rfl rfl rfl (fun b1 => ?_)
 refine Ja rfl rfl rfl (Jc (v := .int .i64 0) rfl) ?_
 refine Jg ?_
 refine Jf ?_
 refine Jb ?_
 refine Ja rfl rfl rfl (Jl Try.runUnderlying70 rfl Try.sizeOf3 rfl rfl) ?_
 refine Jq (i := 0) (v := .int .i64 a0.Tag) Try.isAgg3 rfl rfl rfl rfl rfl ?_
 refine Ja rfl rfl rfl (Jd (v := .int .i64 a1) rfl) ?_
 obtain ⟨t8, h_t8, H2⟩ := Jj H; clear H
 refine Z7 (k69 h_t8) Try.call69 rfl rfl rfl ?_
 refine Ja rfl rfl rfl (Jc (v := .int .i64 t8) rfl) ?_
 refine Jg ?_
 refine Ju ?_
 obtain rfl := Option.some.inj H2
 refine Qa (v := .int .i64 t8) rfl rfl (fin rfl)
theorem k42 {a0 : (List T_tag_Entry)} {v0 : Value} {a1 : Int} {r : Int × Bool} {w : World} {h : Jy} (hw : Know h w Zc) (f0 : FrN h 6 v0 g_tag_Entry a0) (H : R_find a0 a1 = some r) : Does Try.prog 42 (List.toArray [v0, .int .i64 a1]) w (fun v w' => v = (.tuple #[.int .i64 r.1, .bool r.2]) ∧ Grow w w') := by
 refine enter (n := 11) Try.func42 rfl rfl rfl Zc [] (Sat.nil _ _) ?_
 refine Jf ?_
 refine Jb ?_
 refine Ja rfl rfl rfl (Jc (v := .int .i64 0) rfl) ?_
 refine Ja rfl rfl rfl (Jc (v := .bool false) rfl) ?_
 refine Jg ?_
 refine Jf ?_
 refine Jb ?_
 refine Ja rfl rfl rfl (Jd (v := v0) rfl) ?_
 refine Ja rfl rfl rfl (Jd (v := .int .i64 a1) rfl) ?_
 obtain ⟨t8, h_t8, H2⟩ := Jj H; clear H
 refine Xa (fun w hF hS => k57 (Qf w) (f0.mono (hw.now hF)) (FnH.mk ⟨68, #[], #[], rfl, Try.call68, fun args2 post2 w2 hk2 hR2 => by obtain ⟨a0_, v0_1_2_, v0_1_3_, v0_1_4_, a1_, r_, fa0_1_2_, fa0_1_3_, fa0_1_4_, rfl, H_, rfl⟩ := hR2; exact k68 (Qf w2) fa0_1_2_ fa0_1_3_ fa0_1_4_ H_⟩) h_t8) Try.call57 rfl rfl rfl ?_
 refine Ja rfl rfl rfl (Yi (v := .int .i64 t8.1) rfl rfl) ?_
 refine Ja rfl rfl rfl (Yi (v := .bool t8.2) rfl rfl) ?_
 refine Ja rfl rfl rfl (Jc (v := .int .i64 t8.1) rfl) ?_
 refine Ja rfl rfl rfl (Jc (v := .bool t8.2) rfl) ?_
 refine Jg ?_
 refine Ju ?_
 obtain rfl := Option.some.inj H2
 refine ret2 (v1 := .int .i64 t8.1) (v2 := .bool t8.2) rfl rfl rfl (fin rfl)
theorem k87 {n : Int} {u : Nat} (hg : gGroC 104 n = some u) (w : World) : Does Try.prog 87 (List.toArray [.slice none 0 0, .int .i64 n]) w (fun v w' => ∃ p : Option Addr × Nat, v = .slice p.1 0 p.2 ∧ Turn w w' Zc (rowC 70 6 (.slice p.1 0 p.2) 0 [] u)) := by
  obtain ⟨rfl, h0, h1, h2⟩ := gGroC_some hg
  obtain ⟨m, rfl⟩ : ∃ m : Nat, n = (m : Int) := ⟨n.toNat, (Int.toNat_of_nonneg h0).symm⟩
  rw [Int.toNat_natCast] at h2 ⊢
  refine enter (n := 27) Try.func87 rfl rfl rfl Zc [] (Sat.nil _ _) ?_
  refine Jf ?_
  refine Jb ?_
  refine Ja rfl rfl rfl (Jc (v := .slice none 0 0) rfl) ?_
  refine Jg ?_
  refine Jf ?_
  refine Jf ?_
  refine Jb ?_
  refine Ja rfl rfl rfl (Jd (v := .int .i64 (m : Int)) rfl) ?_
  refine Ja rfl rfl rfl (r_decF (Xy rfl rfl) (by omega)) ?_
  refine Jg ?_
  refine Uj rfl ?_
  refine Jt ?_
  refine Jf ?_
  refine Jf ?_
  refine Jb ?_
  refine Ja rfl rfl rfl (Jd (v := .int .i64 (m : Int)) rfl) ?_
  refine Ja rfl rfl rfl (Jd (v := .slice none 0 0) rfl) ?_
  refine Ja rfl rfl rfl (r_cap (c := 0) Try.underlying27 rfl) ?_
  refine Ja rfl rfl rfl (Jd (v := .slice none 0 0) rfl) ?_
  refine Ja rfl rfl rfl (r_len (m := 0) Try.underlying27 rfl) ?_
  refine Ja rfl rfl rfl (r_subG (z := 0) rfl rfl (by decide)) ?_
  refine Ja rfl rfl rfl (r_subG (z := (m : Int)) rfl rfl (by rw [Int.sub_zero]; exact Qm (by omega))) ?_
  refine Ja rfl rfl rfl (Jc (v := .int .i64 (m : Int)) rfl) ?_
  refine Jg ?_
  refine Jf ?_
  refine Jb ?_
  refine Ja rfl rfl rfl (Jd (v := .int .i64 (m : Int)) rfl) ?_
  rcases Nat.eq_zero_or_pos m with hm | hm
  · refine Ja rfl rfl rfl (r_decF (Z0 rfl rfl) (by omega)) ?_
    refine Jg ?_
    refine Uj rfl ?_
    refine Jt ?_
    refine Jf ?_
    refine Jb ?_
    refine Ja rfl rfl rfl (Jd (v := .slice none 0 0) rfl) ?_
    refine Ja rfl rfl rfl (Jc (v := .slice none 0 0) rfl) ?_
    refine Jg ?_
    refine Ju ?_
    subst hm
    refine Wh 70 6 ?_
    refine W6 0 rfl (imp_C0 70 6 _) ?_
    exact Qa (v := .slice none 0 0) rfl rfl (finX ((none, 0) : Option Addr × Nat) (i := 0) rfl rfl (Imp.refl _))
  · refine Ja rfl rfl rfl (r_decT (Z0 rfl rfl) (by omega)) ?_
    refine Jg ?_
    refine Wz rfl ?_
    refine Jb ?_
    refine Ja rfl rfl rfl (Jd (v := .slice none 0 0) rfl) ?_
    refine Ja rfl rfl rfl (Jd (v := .slice none 0 0) rfl) ?_
    refine Ja rfl rfl rfl (r_cap (c := 0) Try.underlying27 rfl) ?_
    refine Ja rfl rfl rfl (r_sliceH (a := none) (m := 0) (c := 0) (h := 0) Try.underlying27 Try.sizeOf70 rfl rfl (by decide) (by decide)) ?_
    refine Ja rfl rfl rfl (Jd (v := .int .i64 (m : Int)) rfl) ?_
    refine l_make (rds := []) (makes_zerosC (E := 70) (sz := 6) (by_ := 104) (m := m) Try.underlying27 Try.underlying3 (Vo Try.typeInfo70) rfl rfl rfl rfl rfl rfl rfl hm (by omega) h2) rfl rfl rfl (fun ⟨g0, c0⟩ => ?_)
    refine Ja rfl rfl rfl (Jd (v := .slice none 0 0) rfl) ?_
    refine Ja rfl rfl rfl (r_len (m := 0) Try.underlying27 rfl) ?_
    refine Ja rfl rfl rfl (r_sliceH0 (g0 := g0) (c := c0) Try.underlying27 Try.sizeOf70 rfl rfl) ?_
    refine Ja rfl rfl rfl (Jc (v := .slice (some ⟨g0, 0, none⟩) 0 c0) rfl) ?_
    refine Jg ?_
    refine Jf ?_
    refine Jb ?_
    refine Ja rfl rfl rfl (Jd (v := .slice (some ⟨g0, 0, none⟩) 0 c0) rfl) ?_
    refine Ja rfl rfl rfl (Jc (v := .slice (some ⟨g0, 0, none⟩) 0 c0) rfl) ?_
    refine Jg ?_
    refine Ju ?_
    exact Qa (v := .slice (some ⟨g0, 0, none⟩) 0 c0) rfl rfl (finX ((some ⟨g0, 0, none⟩, c0) : Option Addr × Nat) (i := 0) rfl rfl (Imp.refl _))
theorem k72 {a0 : (List (List T_tag_Entry))} {v0 : Value} {r : (List T_tag_Entry)} {w : World} {h hA : Jy} (hwA : Know hA w Zc) (hw : Know h w Zc) (f0 : FrN hA 1 v0 (fun _ => gs_tag_Entry h) a0) (H : Ys a0 = some r) : Does Try.prog 72 (List.toArray [v0]) w (fun v w' => ∃ x : (Option Addr × Nat), v = (.slice x.1 r.length x.2) ∧ Turn w w' Zc (rowHD h 70 6 g_tag_Entry (.slice x.1 r.length x.2) r.length r)) := by
 refine enter (n := 36) Try.func72 rfl rfl rfl Zc [] (Sat.nil _ _) ?_
 refine Wt h ?_
 refine Jf ?_
 refine Jb ?_
 refine Ja rfl rfl rfl (Jc (v := .slice none 0 0) rfl) ?_
 refine Jg ?_
 refine Jf ?_
 refine Jb ?_
 refine Ja rfl rfl rfl (Jc (v := .int .i64 0) rfl) ?_
 refine Jg ?_
 refine Qw (r := r) (σ := Int) (τ := Unit) (fun s => X9 a0 s) (fun s t => [(0, v0), (3, .int .i64 s)]) (fun s t => [Xh h h]) (fun s t => True) ?_ ?_
 ·refine Jf ?_
  refine Jb ?_
  refine Ja rfl rfl rfl (Jd (v := v0) rfl) ?_
  refine Ja rfl rfl rfl (Qu Try.underlying22 rfl f0) ?_
  refine Ja rfl rfl rfl (Jd (v := .int .i64 0) rfl) ?_
  refine Jg ?_
  refine J0 ?_
  refine Zb (σ := Int × Int) (τ := Unit) (fun next3 s => Qc a0 next3 s.1 s.2) (fun s t => [(0, v0), (3, .int .i64 s.1), (9, v0), (10, .int .i64 (a0.length : Int)), (11, .int .i64 s.2)]) (fun s t => [Xh h h]) (fun s t => True) (0, 0) () [0] H (by exact trivial) (by exact ⟨rfl, rfl, rfl, rfl, rfl, trivial⟩) (by decide) rfl ?_
  rintro ⟨x3_3, x11_2⟩ _ m3 gg H41 _
  clear H
  replace H41 : Qc a0 (it (fun next3 s => Qc a0 next3 s.1 s.2) m3) x3_3 x11_2 = some r := H41
  generalize hn3 : it (fun next3 s => Qc a0 next3 s.1 s.2) m3 = next3 at H41
  try dsimp only
  refine Jf ?_
  refine Jb ?_
  refine Ja rfl rfl rfl (Xy rfl rfl) ?_
  refine Jg ?_
  refine Jf ?_
  refine Qb (b := (decide (x11_2 < (a0.length : Int)))) rfl (fun hb => ?_) (fun hb => ?_)
  ·have H42 := Jo hb H41; clear H41
   refine Jt ?_
   refine Jf ?_
   refine J0 ?_
   refine Jf ?_
   refine Jb ?_
   obtain ⟨t13, h_t13, H43⟩ := Jj H42; clear H42
   refine Ja rfl rfl rfl (Qe Try.underlying22 Try.sizeOf27 rfl rfl f0.frs (f0.ix h_t13)) ?_
   refine Xl (fun w hF hS => Qk (f := (V2 hA v0 1)) (i := x11_2) (sz := 1) (j := 0) (v := (J6 hA v0 1 (Int.toNat x11_2) 0)) Try.isAgg27 rfl rfl (f0.frs.row (hwA.now hF)) (f0.ix h_t13) (Vj (X5 (f0.at h_t13)) rfl)) rfl rfl rfl ?_
   refine Ja rfl rfl rfl (Jc (v := (J6 hA v0 1 (Int.toNat x11_2) 0)) rfl) ?_
   refine Jg ?_
   refine Jf ?_
   refine Jb ?_
   refine Ja rfl rfl rfl (Jd (v := .int .i64 x3_3) rfl) ?_
   refine Ja rfl rfl rfl (Jd (v := (J6 hA v0 1 (Int.toNat x11_2) 0)) rfl) ?_
   refine Ja rfl rfl rfl (Qu Try.underlying27 rfl (show FrN h 6 (J6 hA v0 1 (Int.toNat x11_2) 0) g_tag_Entry t13 from (f0.at h_t13))) ?_
   obtain ⟨t18, h_t18, H44⟩ := Jj H43; clear H43
   refine Ja rfl rfl rfl (Qn rfl rfl h_t18) ?_
   refine Ja rfl rfl rfl (Jc (v := .int .i64 t18) rfl) ?_
   refine Jg ?_
   refine Jf ?_
   refine Jb ?_
   refine Ja rfl rfl rfl (Jd (v := .int .i64 t18) rfl) ?_
   refine Ja rfl rfl rfl (Xy rfl rfl) ?_
   refine Jg ?_
   refine Qb (b := (decide (t18 < 0))) rfl (fun hb => ?_) (fun hb => ?_)
   ·have H45 := Jo hb H44; clear H44
    exact absurd (show (none : Option ((List T_tag_Entry))) = some r from H45) (fun h => by cases h)
   ·have H46 := Jp hb H44; clear H44
    refine Jt ?_
    refine Jb ?_
    obtain ⟨t22, h_t22, H47⟩ := Jj H46; clear H46
    refine Ja rfl rfl rfl (Qn rfl rfl h_t22) ?_
    refine Ja rfl rfl rfl (Jd (v := .int .i64 t22) rfl) ?_
    refine Jg ?_
    refine Jn (t18, t22) () m3 [0] (by exact ⟨rfl, rfl, rfl, rfl, rfl, trivial⟩) (by decide) (by kernel_rfl) (by exact ⟨(by subst hn3; exact H47), trivial⟩) (Nat.lt_succ_self _)
  ·have H48 := Jp hb H41; clear H41
   refine Xq ?_
   refine Jn x3_3 () 0 [0] (by exact ⟨rfl, rfl, trivial⟩) (by decide) (by kernel_rfl) (by exact ⟨H48, trivial⟩) (Nat.lt_succ_self _)
 ·rintro x3 _ gg H33 _
  replace H33 : X9 a0 x3 = some r := H33
  try dsimp only
  refine Jf ?_
  refine Jb ?_
  refine Ja rfl rfl rfl (Jd (v := .int .i64 x3) rfl) ?_
  obtain ⟨u24, h_u24, H34⟩ := Jj H33; clear H33
  refine l_make (Vq (rds := []) (G := fun x : (Option Addr × Nat) => .slice x.1 ([] : List (List Value)).length x.2) (C := fun x : (Option Addr × Nat) => rowC 70 6 (.slice x.1 ([] : List (List Value)).length x.2) ([] : List (List Value)).length (([] : List (List Value)).map V3) u24) (fun w L' hF hS hi => k87 h_u24 w) Try.call87 rfl) rfl rfl rfl (fun p => ?_)
  refine W6 1 rfl (imp_rowC _ _ _ _ _ _) ?_
  refine Ja rfl rfl rfl (Jc (v := .slice p.1 (([] : List (List Value)).length) p.2) rfl) ?_
  refine Jg ?_
  refine Jf ?_
  refine Jf ?_
  refine Jb ?_
  refine Ja rfl rfl rfl (Jd (v := v0) rfl) ?_
  refine Ja rfl rfl rfl (Qu Try.underlying22 rfl f0) ?_
  refine Ja rfl rfl rfl (Jd (v := .int .i64 0) rfl) ?_
  refine Jg ?_
  refine J0 ?_
  refine Zb (σ := Int × (List T_tag_Entry)) (τ := (List (List Value)) × (Option Addr × Nat)) (fun next2 s => Qd a0 next2 s.1 s.2) (fun s t => [(6, .slice t.2.1 t.1.length t.2.2), (25, v0), (26, .int .i64 (a0.length : Int)), (27, .int .i64 s.1)]) (fun s t => [Xh h h, Qt 70 6 (.slice t.2.1 t.1.length t.2.2) t.1.length (t.1.map V3)]) (fun s t => AllC g_tag_Entry h 6 t.1 s.2) (0, ([] : List T_tag_Entry)) (([] : List (List Value)), p) [0, 1] H34 (by exact (AllC.nil (G := g_tag_Entry) (h := h) (sz := 6))) (by exact ⟨rfl, rfl, rfl, rfl, trivial⟩) (by decide) rfl ?_
  rintro ⟨x27_2, l_2⟩ ⟨css, p_2⟩ m2 gg H35 pf_2
  clear H34
  replace H35 : Qd a0 (it (fun next2 s => Qd a0 next2 s.1 s.2) m2) x27_2 l_2 = some r := H35
  generalize hn2 : it (fun next2 s => Qd a0 next2 s.1 s.2) m2 = next2 at H35
  try dsimp only
  refine Jf ?_
  refine Jb ?_
  refine Ja rfl rfl rfl (Xy rfl rfl) ?_
  refine Jg ?_
  refine Jf ?_
  refine Qb (b := (decide (x27_2 < (a0.length : Int)))) rfl (fun hb => ?_) (fun hb => ?_)
  ·have H36 := Jo hb H35; clear H35
   refine Jt ?_
   refine Jf ?_
   refine J0 ?_
   refine Jf ?_
   refine Jb ?_
   obtain ⟨t29, h_t29, H37⟩ := Jj H36; clear H36
   refine Ja rfl rfl rfl (Qe Try.underlying22 Try.sizeOf27 rfl rfl f0.frs (f0.ix h_t29)) ?_
   refine Xl (fun w hF hS => Qk (f := (V2 hA v0 1)) (i := x27_2) (sz := 1) (j := 0) (v := (J6 hA v0 1 (Int.toNat x27_2) 0)) Try.isAgg27 rfl rfl (f0.frs.row (hwA.now hF)) (f0.ix h_t29) (Vj (X5 (f0.at h_t29)) rfl)) rfl rfl rfl ?_
   refine Ja rfl rfl rfl (Jc (v := (J6 hA v0 1 (Int.toNat x27_2) 0)) rfl) ?_
   refine Jg ?_
   refine Jb ?_
   refine Ja rfl rfl rfl (Jd (v := .slice p_2.1 css.length p_2.2) rfl) ?_
   refine Ja rfl rfl rfl (Jd (v := (J6 hA v0 1 (Int.toNat x27_2) 0)) rfl) ?_
   refine c_poolLe 0 rfl (fun hle_ => ?_)
   obtain ⟨l33, h_l33, H38⟩ := Jj H37; clear H37
   refine Y7 (turns_appGm (i := 1) (hn := rfl) (rds := []) (p := p_2) (sz := 6) (by_ := 104) (f := V3) (ys := css) (ls := ((List.range t29.length).map (V2 h (J6 hA v0 1 (Int.toNat x27_2) 0) 6))) (V := (J6 hA v0 1 (Int.toNat x27_2) 0)) Try.underlying27 (Vo Try.typeInfo70) rfl rfl rfl rfl rfl rfl rfl rfl (show FrN h 6 (J6 hA v0 1 (Int.toNat x27_2) 0) g_tag_Entry t29 from (f0.at h_t29)).eq (by simp) (fun w L' hF hS hi => by have := ((show FrN h 6 (J6 hA v0 1 (Int.toNat x27_2) 0) g_tag_Entry t29 from (f0.at h_t29))).frsM.row (hw.now hF); rwa [← List.map_id' ((List.range _).map _)] at this) ((show FrN h 6 (J6 hA v0 1 (Int.toNat x27_2) 0) g_tag_Entry t29 from (f0.at h_t29))).allC.lens (AllC.oneN (fun f_ j_ hj_ => by cases f_ with | mk h0 h1 h2 h3 h4 h5 h6 => rcases (show j_ = 0 ∨ j_ = 1 ∨ j_ = 2 ∨ j_ = 3 ∨ j_ = 4 ∨ j_ = 5 from by omega) with rfl | rfl | rfl | rfl | rfl | rfl <;> first | (rw [h0]; rfl) | (rw [h1]; rfl) | (rw [h2]; rfl) | exact h3.one | exact h4.one | exact h5.one) ((show FrN h 6 (J6 hA v0 1 (Int.toNat x27_2) 0) g_tag_Entry t29 from (f0.at h_t29))).allC) (pf_2.app h_l33 ((show FrN h 6 (J6 hA v0 1 (Int.toNat x27_2) 0) g_tag_Entry t29 from (f0.at h_t29))).allC.len)) rfl rfl rfl (fun p_3 => ?_)
   have pf_3 : AllC g_tag_Entry h 6 (css ++ ((List.range t29.length).map (V2 h (J6 hA v0 1 (Int.toNat x27_2) 0) 6))) l33 := by rw [(Vu h_l33).1]; exact AllC.append pf_2 (((show FrN h 6 (J6 hA v0 1 (Int.toNat x27_2) 0) g_tag_Entry t29 from (f0.at h_t29))).allC.mono hle_)
   refine Ja rfl rfl rfl (Jc (v := .slice p_3.1 ((css ++ ((List.range t29.length).map (V2 h (J6 hA v0 1 (Int.toNat x27_2) 0) 6))).length) p_3.2) rfl) ?_
   refine Jg ?_
   refine Jb ?_
   obtain ⟨t34, h_t34, H39⟩ := Jj H38; clear H38
   refine Ja rfl rfl rfl (Qn rfl rfl h_t34) ?_
   refine Ja rfl rfl rfl (Jd (v := .int .i64 t34) rfl) ?_
   refine Jg ?_
   refine Jn (t34, l33) ((css ++ ((List.range t29.length).map (V2 h (J6 hA v0 1 (Int.toNat x27_2) 0) 6))), p_3) m2 [0, 1] (by exact ⟨rfl, rfl, rfl, rfl, trivial⟩) (by decide) (by kernel_rfl) (by exact ⟨(by subst hn2; exact H39), pf_3⟩) (Nat.lt_succ_self _)
  ·have H40 := Jp hb H35; clear H35
   refine Xq ?_
   refine Jf ?_
   refine Jb ?_
   refine Ja rfl rfl rfl (Jd (v := .slice p_2.1 css.length p_2.2) rfl) ?_
   refine Ja rfl rfl rfl (Jc (v := .slice p_2.1 css.length p_2.2) rfl) ?_
   refine Jg ?_
   refine Ju ?_
   obtain rfl := Option.some.inj H40
   refine W6 1 rfl (imp_rowHD (p := p_2) rfl pf_2) ?_
   refine Qa (v := .slice p_2.1 css.length p_2.2) rfl rfl (finX p_2 (i := 1) rfl (by first | rfl | rw [(show css.length = l_2.length from pf_2.len)]) (by first | exact Imp.refl _ | exact Imp.of (by rw [(show css.length = l_2.length from pf_2.len)] <;> rfl)))
theorem k73 {a0 : (List Int)} {p0 : Option Addr × Nat} {n0 : Nat} {r : (List Int)} {w : World} {h : Jy} {S : Nat → Prop} (hcs : (Qt 3 1 (.slice p0.1 n0 p0.2) n0 (a0.map J8)).P S w) (hlt : ∀ b, S b → b < w.heap.size) (_ : Know h w S) (hn0 : n0 = a0.length) (H : gSortI a0 = some r) : Does Try.prog 73 (List.toArray [.slice p0.1 n0 p0.2]) w (fun v w' => ∃ x : Unit, v = (.tuple #[]) ∧ Turn w w' S (Qt 3 1 (.slice p0.1 n0 p0.2) n0 (r.map J8))) :=
  sort_ints (ρ := Go.Proofs.Try.lays189_ren) Go.Proofs.Try.lays189 hcs hlt hn0 H
theorem k48_it (mm : Nat) : ∀ {a0 : (List T_tag_Entry)} {v0 : Value} {a1 : (List T_tag_Entry)} {v1 : Value} {a2 : (List Int)} {v2 : Value} {r : (List (List Int))} {w : World} {h : Jy} (hw : Know h w Zc) (f0 : FrN h 6 v0 g_tag_Entry a0) (f1 : FrN h 6 v1 g_tag_Entry a1) (f2 : FrS h 1 v2 (a2.map J8)) (H : it (fun (self : ((List T_tag_Entry) × (List T_tag_Entry) × (List Int)) → Option ((List (List Int)))) (s : (List T_tag_Entry) × (List T_tag_Entry) × (List Int)) => Yx self s.1 s.2.1 s.2.2) mm (a0, a1, a2) = some r), Does Try.prog 48 (List.toArray [v0, v1, v2]) w (fun v w' => ∃ x : (Option Addr × Nat), v = (.slice x.1 r.length x.2) ∧ Turn w w' Zc (V1 25 1 gs_int (.slice x.1 r.length x.2) r.length r)) := by
 induction mm with
 | zero => intros; rename_i H; exact absurd H (by simp [it])
 | succ mm ih =>
  intro a0 v0 a1 v1 a2 v2 r w h hw f0 f1 f2 H
  replace H : Yx (it (fun (self : ((List T_tag_Entry) × (List T_tag_Entry) × (List Int)) → Option ((List (List Int)))) (s : (List T_tag_Entry) × (List T_tag_Entry) × (List Int)) => Yx self s.1 s.2.1 s.2.2) mm) a0 a1 a2 = some r := H
  generalize it (fun (self : ((List T_tag_Entry) × (List T_tag_Entry) × (List Int)) → Option ((List (List Int)))) (s : (List T_tag_Entry) × (List T_tag_Entry) × (List Int)) => Yx self s.1 s.2.1 s.2.2) mm = self at H ih
  refine enter (n := 129) Try.func48 rfl rfl rfl Zc [] (Sat.nil _ _) ?_
  refine Wt Vw ?_
  refine Jf ?_
  refine Jb ?_
  refine Ja rfl rfl rfl (Jc (v := .slice none 0 0) rfl) ?_
  refine Jg ?_
  refine Jf ?_
  refine Jb ?_
  refine Ja rfl rfl rfl (Jc (v := .slice none 0 0) rfl) ?_
  refine Jg ?_
  refine Jf ?_
  refine Jb ?_
  refine l_make (rds := []) (makes_map (fk := (fun x_ : Int => .int .i64 x_)) (fv := (fun x_ : Bool => .bool x_))) rfl rfl rfl (fun b8 => ?_)
  refine Ja rfl rfl rfl (Jc (v := .map (some b8)) rfl) ?_
  refine Jg ?_
  refine Qw (r := r) (σ := (List (Int × Bool))) (τ := Unit) (fun s => Vr a0 a1 a2 self s) (fun s t => [(0, v0), (1, v1), (2, v2), (7, .slice none 0 0), (8, .map (some b8))]) (fun s t => [Xh Vw Vw, mapC (fun x_ : Int => .int .i64 x_) (fun x_ : Bool => .bool x_) b8 s]) (fun s t => True) ?_ ?_
  ·refine Jf ?_
   refine Jb ?_
   refine Ja rfl rfl rfl (Jd (v := v0) rfl) ?_
   refine Ja rfl rfl rfl (Jd (v := v1) rfl) ?_
   refine Zm (vs := [v0, v1]) (cs := [v0, v1]) Try.underlying22 Try.sizeOf27 Try.zeroValue27 rfl rfl rfl rfl (by simp only [List.all_cons, List.all_nil, cells_sz f0.cells, cells_sz f1.cells] <;> rfl) rfl (by simp only [List.flatMap_cons, List.flatMap_nil, f0.cells, f1.cells] <;> rfl) (fun b14 => ?_)
   obtain ⟨t24, h_t24, H83⟩ := Jj H; clear H
   refine l_make (Vq (rds := [2]) (G := fun x : (Option Addr × Nat) => .slice x.1 t24.length x.2) (C := fun x : (Option Addr × Nat) => rowHD h 70 6 g_tag_Entry (.slice x.1 t24.length x.2) t24.length t24) (fun w L' hF hS hi => k72 (Qf w) (hw.at hF) (frn_box (G := fun _ => gs_tag_Entry h) (sz := 1) (xs := ([a0, a1] : List (List T_tag_Entry))) (i := 2) hS ((hi 2 (by simp)).trans rfl) rfl rfl rfl ⟨f0, f1, rfl⟩) h_t24) Try.call72 rfl) rfl rfl rfl (fun p_12 => ?_)
   refine c_rowHD 3 rfl (fun css_4 hn_2 pf_8 => ?_)
   rw [hn_2]
   refine Ja rfl rfl rfl (r_lenN Try.underlying27 rfl hn_2.symm) ?_
   refine Ja rfl rfl rfl (Jd (v := .int .i64 0) rfl) ?_
   refine Jg ?_
   try dsimp only [z1, z2, z5, z6, z7, z8]
   refine J0 ?_
   refine c_dr 2 ?_
   try dsimp only [z1, z2, z3, z4, z5, z6, z7, z8]
   refine Zb (σ := Int × (List (Int × Bool))) (τ := Unit) (fun next7 s => Yl a0 a1 a2 self t24 next7 s.1 s.2) (fun s t => [(0, v0), (1, v1), (2, v2), (7, .slice none 0 0), (8, .map (some b8)), (24, .slice p_12.1 css_4.length p_12.2), (25, .int .i64 (t24.length : Int)), (26, .int .i64 s.1)]) (fun s t => [Xh Vw Vw, mapC (fun x_ : Int => .int .i64 x_) (fun x_ : Bool => .bool x_) b8 s.2, Qt 70 6 (.slice p_12.1 css_4.length p_12.2) css_4.length (css_4.map V3)]) (fun s t => True) (0, ([] : (List (Int × Bool)))) () [0, 1, 2] H83 (by exact trivial) (by exact ⟨rfl, rfl, rfl, rfl, rfl, rfl, rfl, rfl, trivial⟩) (by decide) rfl ?_
   rintro ⟨x26_2, mp_3⟩ _ m7 gg H84 _
   clear H83
   replace H84 : Yl a0 a1 a2 self t24 (it (fun next7 s => Yl a0 a1 a2 self t24 next7 s.1 s.2) m7) x26_2 mp_3 = some r := H84
   generalize hn7 : it (fun next7 s => Yl a0 a1 a2 self t24 next7 s.1 s.2) m7 = next7 at H84
   try dsimp only
   refine Jf ?_
   refine Jb ?_
   refine Ja rfl rfl rfl (Xy rfl rfl) ?_
   refine Jg ?_
   try dsimp only [z1, z2, z5, z6, z7, z8]
   refine Jf ?_
   refine Qb (b := (decide (x26_2 < (t24.length : Int)))) rfl (fun hb => ?_) (fun hb => ?_)
   ·have H85 := Jo hb H84; clear H84
    refine Jt ?_
    refine Jf ?_
    refine J0 ?_
    refine Jf ?_
    refine Jb ?_
    obtain ⟨t28, h_t28, H86⟩ := Jj H85; clear H85
    refine Xl (fun w hF hS => run_indexO Try.underlying27 Try.sizeOf70 rfl rfl (rowOf (i := 2) hS rfl) rfl (pf_8.ix h_t28)) rfl rfl rfl ?_
    refine Xl (fun w hF hS => Xb (f := V3) (i := x26_2) (sz := 6) (j := 0) (vs := [.int .i64 t28.Tag, .int .i64 t28.Value.Kind, str t28.Value.Text, (List.getD (List.getD css_4 (Int.toNat x26_2) []) 3 undef), (List.getD (List.getD css_4 (Int.toNat x26_2) []) 4 undef), (List.getD (List.getD css_4 (Int.toNat x26_2) []) 5 undef)]) Try.isAgg70 Try.sizeOf70 rfl rfl (rowOf (i := 2) hS rfl) (pf_8.ix h_t28) (rd_of ((pf_8.eta h_t28).trans (Qh (pf_8.at h_t28))) rfl)) rfl rfl rfl ?_
    refine Vx (cs := [.int .i64 0, .int .i64 0, str [], .slice none 0 0, .slice none 0 0, .slice none 0 0]) Try.zeroValue70 rfl rfl rfl (fun b15 => ?_)
    refine Zn (i := 3) (vs := [.int .i64 t28.Tag, .int .i64 t28.Value.Kind, str t28.Value.Text, (List.getD (List.getD css_4 (Int.toNat x26_2) []) 3 undef), (List.getD (List.getD css_4 (Int.toNat x26_2) []) 4 undef), (List.getD (List.getD css_4 (Int.toNat x26_2) []) 5 undef)]) (cs' := [.int .i64 t28.Tag, .int .i64 t28.Value.Kind, str t28.Value.Text, (List.getD (List.getD css_4 (Int.toNat x26_2) []) 3 undef), (List.getD (List.getD css_4 (Int.toNat x26_2) []) 4 undef), (List.getD (List.getD css_4 (Int.toNat x26_2) []) 5 undef)]) Try.sizeOf70 rfl rfl rfl rfl rfl rfl (by simp only [List.all_cons, List.all_nil, (show FrN h 6 (List.getD (List.getD css_4 (Int.toNat x26_2) []) 5 undef) g_tag_Entry t28.Value.Entries from (Jv (Ji (pf_8.at h_t28)))).one, (show FrS h 1 (List.getD (List.getD css_4 (Int.toNat x26_2) []) 3 undef) (t28.Value.Ints.map J8) from (J1 (Ji (pf_8.at h_t28)))).one, (show FrS h 2 (List.getD (List.getD css_4 (Int.toNat x26_2) []) 4 undef) (t28.Value.Ratios.map Jr) from (J2 (Ji (pf_8.at h_t28)))).one] <;> rfl) rfl rfl ?_
    refine Jg ?_
    try dsimp only [z1, z2, z5, z6, z7, z8]
    refine Jb ?_
    refine Ja rfl rfl rfl (Jd (v := .map (some b8)) rfl) ?_
    refine Ja rfl rfl rfl (Jl Try.runUnderlying70 rfl Try.sizeOf3 rfl rfl) ?_
    refine Jq (i := 3) (v := .int .i64 t28.Tag) Try.isAgg3 rfl rfl rfl rfl rfl ?_
    refine l_turn0 (turns_mset (u := true) (i := 1) (rds := []) (fk := (fun x_ : Int => .int .i64 x_)) (fv := (fun x_ : Bool => .bool x_)) (k := t28.Tag) (v := true) keyF_int (.inr rfl) Try.underlying106 Try.underlying3 rfl rfl rfl rfl) rfl rfl (fun _ => ?_)
    refine Jg ?_
    try dsimp only [z1, z2, z5, z6, z7, z8]
    refine Jb ?_
    obtain ⟨t33, h_t33, H87⟩ := Jj H86; clear H86
    refine Ja rfl rfl rfl (Qn rfl rfl h_t33) ?_
    refine Ja rfl rfl rfl (Jd (v := .int .i64 t33) rfl) ?_
    refine Jg ?_
    try dsimp only [z1, z2, z5, z6, z7, z8]
    refine Jn (t33, (mSet mp_3 t28.Tag true)) () m7 [0, 1, 2] (by exact ⟨rfl, rfl, rfl, rfl, rfl, rfl, rfl, rfl, trivial⟩) (by decide) (by kernel_rfl) (by exact ⟨(by subst hn7; exact H87), trivial⟩) (Nat.lt_succ_self _)
   ·have H88 := Jp hb H84; clear H84
    refine Xq ?_
    refine Jn mp_3 () 0 [0, 1] (by exact ⟨rfl, rfl, rfl, rfl, rfl, trivial⟩) (by decide) (by kernel_rfl) (by exact ⟨H88, trivial⟩) (Nat.lt_succ_self _)
  ·rintro mp _ gg H45 _
   replace H45 : Vr a0 a1 a2 self mp = some r := H45
   try dsimp only
   refine Jf ?_
   refine Jb ?_
   refine Ja rfl rfl rfl (Jc (v := .slice none 0 0) rfl) ?_
   refine Jg ?_
   refine Qw (r := r) (σ := (List Int)) (τ := (Option Addr × Nat)) (fun s => R_unlike_j2 a0 a1 a2 self s) (fun s t => [(0, v0), (1, v1), (2, v2), (7, .slice none 0 0), (11, .slice t.1 s.length t.2)]) (fun s t => [Xh Vw Vw, Qt 3 1 (.slice t.1 s.length t.2) s.length (s.map J8)]) (fun s t => True) ?_ ?_
   ·refine Jf ?_
    refine Jb ?_
    refine Ja rfl rfl rfl (Jd (v := .map (some b8)) rfl) ?_
    refine Y7 (turns_rangeM (i := 1) (rds := []) (fk := (fun x_ : Int => .int .i64 x_)) (fv := (fun x_ : Bool => .bool x_)) Try.underlying106 rfl rfl) rfl rfl rfl (fun b12 => ?_)
    refine Jg ?_
    refine J0 ?_
    refine Wh 3 1 ?_
    refine Zb (σ := (List (Int × Bool)) × (List Int)) (τ := (Option Addr × Nat)) (fun next6 s => Z6 a0 a1 a2 self next6 s.1 s.2) (fun s t => [(0, v0), (1, v1), (2, v2), (7, .slice none 0 0), (11, .slice t.1 s.2.length t.2), (35, .pointer (some ⟨b12, 0, none⟩))]) (fun s t => [Xh Vw Vw, mitC (fun x_ : Int => .int .i64 x_) (fun x_ : Bool => .bool x_) b8 b12 mp s.1 none, Qt 3 1 (.slice t.1 s.2.length t.2) s.2.length (s.2.map J8)]) (fun s t => True) (mp, ([] : List Int)) ((none, 0) : Option Addr × Nat) [0, 1, 2] H45 (by exact trivial) (by exact ⟨rfl, rfl, rfl, rfl, rfl, rfl, trivial⟩) (by decide) rfl ?_
    rintro ⟨rs_2, l_6⟩ p_10 m6 gg H78 _
    clear H45
    replace H78 : Z6 a0 a1 a2 self (it (fun next6 s => Z6 a0 a1 a2 self next6 s.1 s.2) m6) rs_2 l_6 = some r := H78
    generalize hn6 : it (fun next6 s => Z6 a0 a1 a2 self next6 s.1 s.2) m6 = next6 at H78
    try dsimp only
    refine Jf ?_
    refine Jb ?_
    refine caseB (!rs_2.isEmpty) (fun hb => ?_) (fun hb => ?_)
    ·have H79 := Jo hb H78; clear H78
     refine l_nextM (i := 1) rfl rfl hb rfl rfl rfl (fun pe rs_3 hp_ => ?_)
     have H80 := gAll_some H79 hp_; clear H79 hp_
     refine Ja rfl rfl rfl (Yi (v := .bool true) rfl rfl) ?_
     refine Jg ?_
     refine Jf ?_
     refine Wz rfl ?_
     refine Jt ?_
     refine J0 ?_
     refine Jf ?_
     refine Jb ?_
     refine Xl (fun w hF hS => r_entryM (i := 1) hS rfl rfl) rfl rfl rfl ?_
     refine W6 1 rfl (imp_mit _) ?_
     refine Ja rfl rfl rfl (Yi (v := .int .i64 pe.1) rfl rfl) ?_
     refine Ja rfl rfl rfl (Jc (v := .int .i64 pe.1) rfl) ?_
     refine Jg ?_
     refine Jb ?_
     refine Ja rfl rfl rfl (Jd (v := .slice p_10.1 l_6.length p_10.2) rfl) ?_
     refine Ja rfl rfl rfl (Jd (v := .int .i64 pe.1) rfl) ?_
     refine Zm (vs := [.int .i64 pe.1]) (cs := [.int .i64 pe.1]) Try.underlying25 Try.sizeOf3 Try.zeroValue3 rfl rfl rfl rfl rfl rfl rfl (fun b13 => ?_)
     obtain ⟨l43, h_l43, H81⟩ := Jj H80; clear H80
     refine Y7 (turns_appG (i := 2) (hn := rfl) (rds := [3]) (p := p_10) (sz := 1) (by_ := 8) (f := J8) (ys := l_6) (ls := ([pe.1] : List Int)) (V := .slice (some ⟨b13, 0, none⟩) 1 1) Try.underlying25 (Vo Try.typeInfo3) rfl rfl rfl rfl rfl rfl rfl rfl rfl rfl (fun w L' hF hS hi => row_box (i := 3) hS ((hi 3 (by simp)).trans rfl) rfl rfl) (fun _ => rfl) (fun _ => rfl) h_l43) rfl rfl rfl (fun p_11 => ?_)
     refine Ja rfl rfl rfl (Jc (v := .slice p_11.1 l43.length p_11.2) rfl) ?_
     refine Jg ?_
     refine Jn (rs_3, l43) p_11 m6 [0, 1, 2] (by exact ⟨rfl, rfl, rfl, rfl, rfl, rfl, trivial⟩) (by decide) (by kernel_rfl) (by exact ⟨(by subst hn6; exact H81), trivial⟩) (Nat.lt_succ_self _)
    ·have H82 := Jp hb H78; clear H78
     refine Xl (fun w hF hS => r_nextOverM (i := 1) hS rfl rfl hb) rfl rfl rfl ?_
     refine Ja rfl rfl rfl (Yi (v := .bool false) rfl rfl) ?_
     refine Jg ?_
     refine Jf ?_
     refine Uj rfl ?_
     refine Xq ?_
     refine Jn l_6 p_10 0 [0, 2] (by exact ⟨rfl, rfl, rfl, rfl, rfl, trivial⟩) (by decide) (by kernel_rfl) (by exact ⟨H82, trivial⟩) (Nat.lt_succ_self _)
   ·rintro l p gg H46 _
    replace H46 : R_unlike_j2 a0 a1 a2 self l = some r := H46
    try dsimp only
    refine Jf ?_
    refine Jb ?_
    refine Ja rfl rfl rfl (Jd (v := .slice p.1 l.length p.2) rfl) ?_
    obtain ⟨t45, h_t45, H47⟩ := Jj H46; clear H46
    refine Y7 (Xu (i := 1) (rds := []) (G := fun x : Unit => .tuple #[]) (C := fun x : Unit => Qt 3 1 (.slice p.1 l.length p.2) l.length (t45.map J8)) rfl (fun w L' S hF hS hi hp hlt ho hA => k73 hp hlt (Ym w S) rfl h_t45) Try.call73 rfl) rfl rfl rfl (fun _ => ?_)
    refine c_know (fun w hF hS => lenOf (i := 1) hS rfl) (fun hl_ => ?_)
    have hl : l.length = t45.length := by simpa using hl_.symm
    refine Jg ?_
    refine Jf ?_
    refine Jf ?_
    refine Jb ?_
    refine Ja rfl rfl rfl (Jd (v := .slice p.1 l.length p.2) rfl) ?_
    refine Ja rfl rfl rfl (r_lenN Try.underlying25 rfl hl) ?_
    refine Ja rfl rfl rfl (Jd (v := .int .i64 0) rfl) ?_
    refine Jg ?_
    refine J0 ?_
    refine Wh 25 1 ?_
    refine Zb (σ := Int × (List (List Int))) (τ := Jy × (List (List Value)) × (Option Addr × Nat)) (fun next3 s => Zl a0 a1 a2 self t45 next3 s.1 s.2) (fun s t => [(0, v0), (1, v1), (2, v2), (7, .slice t.2.2.1 t.2.1.length t.2.2.2), (46, .slice p.1 l.length p.2), (47, .int .i64 (t45.length : Int)), (48, .int .i64 s.1)]) (fun s t => [Xh Vw t.1, Qt 3 1 (.slice p.1 l.length p.2) l.length (t45.map J8), Qt 25 1 (.slice t.2.2.1 t.2.1.length t.2.2.2) t.2.1.length (t.2.1.map V3)]) (fun s t => AllC gs_int t.1 1 t.2.1 s.2) (0, ([] : List (List Int))) (Vw, ([] : List (List Value)), ((none, 0) : Option Addr × Nat)) [0, 1, 2] H47 (by exact (AllC.nil (G := gs_int) (h := Vw) (sz := 1))) (by exact ⟨rfl, rfl, rfl, rfl, rfl, rfl, rfl, trivial⟩) (by decide) rfl ?_
    rintro ⟨x48_2, l_3⟩ ⟨hp, css, p_2⟩ m3 gg H48 pf_2
    clear H47
    replace H48 : Zl a0 a1 a2 self t45 (it (fun next3 s => Zl a0 a1 a2 self t45 next3 s.1 s.2) m3) x48_2 l_3 = some r := H48
    generalize hn3 : it (fun next3 s => Zl a0 a1 a2 self t45 next3 s.1 s.2) m3 = next3 at H48
    try dsimp only
    refine Jf ?_
    refine Jb ?_
    refine Ja rfl rfl rfl (Xy rfl rfl) ?_
    refine Jg ?_
    try dsimp only [z1, z2, z5, z6, z7, z8]
    refine Jf ?_
    refine Qb (b := (decide (x48_2 < (t45.length : Int)))) rfl (fun hb => ?_) (fun hb => ?_)
    ·have H49 := Jo hb H48; clear H48
     refine Jt ?_
     refine Qw (r := r) (σ := (List (List Int))) (τ := Jy × (List (List Value)) × (Option Addr × Nat)) (fun s => Zk x48_2 next3 s) (fun s t => [(0, v0), (1, v1), (2, v2), (7, .slice t.2.2.1 t.2.1.length t.2.2.2), (46, .slice p.1 l.length p.2), (47, .int .i64 (t45.length : Int)), (48, .int .i64 x48_2)]) (fun s t => [Xh Vw t.1, Qt 3 1 (.slice p.1 l.length p.2) l.length (t45.map J8), Qt 25 1 (.slice t.2.2.1 t.2.1.length t.2.2.2) t.2.1.length (t.2.1.map V3)]) (fun s t => AllC gs_int t.1 1 t.2.1 s) ?_ ?_
     ·refine J0 ?_
      refine Jf ?_
      refine Jb ?_
      obtain ⟨t50, h_t50, H52⟩ := Jj H49; clear H49
      refine Xl (fun w hF hS => run_indexO Try.underlying25 Try.sizeOf3 rfl rfl (rowOf (i := 1) hS rfl) hl h_t50) rfl rfl rfl ?_
      refine Xl (fun w hF hS => Qk (f := J8) (i := x48_2) (sz := 1) (j := 0) (v := .int .i64 t50) Try.isAgg3 rfl rfl (rowOf (i := 1) hS rfl) h_t50 rfl) rfl rfl rfl ?_
      refine Ja rfl rfl rfl (Jc (v := .int .i64 t50) rfl) ?_
      refine Jg ?_
      try dsimp only [z1, z2, z5, z6, z7, z8]
      refine Jf ?_
      refine Jb ?_
      refine Ja rfl rfl rfl (Jd (v := v2) rfl) ?_
      obtain ⟨t53, h_t53, H53⟩ := Jj H52; clear H52
      refine l_make (Vq (rds := []) (G := fun x : (Option Addr × Nat) => .slice x.1 t53.length x.2) (C := fun x : (Option Addr × Nat) => Qt 3 1 (.slice x.1 t53.length x.2) t53.length (t53.map J8)) (fun w L' hF hS hi => k26 (Qf w) (f2.mono (hw.now hF)) h_t53) Try.call26 rfl) rfl rfl rfl (fun p_4 => ?_)
      refine Ja rfl rfl rfl (Jd (v := .int .i64 t50) rfl) ?_
      refine Zm (vs := [.int .i64 t50]) (cs := [.int .i64 t50]) Try.underlying25 Try.sizeOf3 Try.zeroValue3 rfl rfl rfl rfl rfl rfl rfl (fun b9 => ?_)
      obtain ⟨l56, h_l56, H54⟩ := Jj H53; clear H53
      refine Y7 (turns_appG (i := 3) (hn := rfl) (rds := [4]) (p := p_4) (sz := 1) (by_ := 8) (f := J8) (ys := t53) (ls := ([t50] : List Int)) (V := .slice (some ⟨b9, 0, none⟩) 1 1) Try.underlying25 (Vo Try.typeInfo3) rfl rfl rfl rfl rfl rfl rfl rfl rfl rfl (fun w L' hF hS hi => row_box (i := 4) hS ((hi 4 (by simp)).trans rfl) rfl rfl) (fun _ => rfl) (fun _ => rfl) h_l56) rfl rfl rfl (fun p_5 => ?_)
      refine Ja rfl rfl rfl (Jc (v := .slice p_5.1 l56.length p_5.2) rfl) ?_
      refine Jg ?_
      try dsimp only [z1, z2, z5, z6, z7, z8]
      refine Jf ?_
      refine Jb ?_
      refine Ja rfl rfl rfl (Jd (v := v0) rfl) ?_
      refine Ja rfl rfl rfl (Jd (v := .int .i64 t50) rfl) ?_
      obtain ⟨t60, h_t60, H55⟩ := Jj H54; clear H54
      refine Xa (fun w hF hS => k42 (Qf w) (f0.mono (hw.now hF)) h_t60) Try.call42 rfl rfl rfl ?_
      refine Ja rfl rfl rfl (Jd (v := .tuple #[.int .i64 t60.1, .bool t60.2]) rfl) ?_
      refine Ja rfl rfl rfl (Yi (v := .int .i64 t60.1) rfl rfl) ?_
      refine Ja rfl rfl rfl (Yi (v := .bool t60.2) rfl rfl) ?_
      refine Ja rfl rfl rfl (Jc (v := .int .i64 t60.1) rfl) ?_
      refine Ja rfl rfl rfl (Jc (v := .bool t60.2) rfl) ?_
      refine Jg ?_
      try dsimp only [z1, z2, z5, z6, z7, z8]
      refine Jf ?_
      refine Jb ?_
      refine Ja rfl rfl rfl (Jd (v := v1) rfl) ?_
      refine Ja rfl rfl rfl (Jd (v := .int .i64 t50) rfl) ?_
      obtain ⟨t66, h_t66, H56⟩ := Jj H55; clear H55
      refine Xa (fun w hF hS => k42 (Qf w) (f1.mono (hw.now hF)) h_t66) Try.call42 rfl rfl rfl ?_
      refine Ja rfl rfl rfl (Jd (v := .tuple #[.int .i64 t66.1, .bool t66.2]) rfl) ?_
      refine Ja rfl rfl rfl (Yi (v := .int .i64 t66.1) rfl rfl) ?_
      refine Ja rfl rfl rfl (Yi (v := .bool t66.2) rfl rfl) ?_
      refine Ja rfl rfl rfl (Jc (v := .int .i64 t66.1) rfl) ?_
      refine Ja rfl rfl rfl (Jc (v := .bool t66.2) rfl) ?_
      refine Jg ?_
      try dsimp only [z1, z2, z5, z6, z7, z8]
      refine J0 ?_
      refine Jf ?_
      refine Jb ?_
      refine Ja rfl rfl rfl (Jd (v := .bool t60.2) rfl) ?_
      refine Ja rfl rfl rfl (Jd (v := .bool t66.2) rfl) ?_
      refine Ja rfl rfl rfl (r_neqB Try.underlying4 rfl rfl) ?_
      refine Ja rfl rfl rfl (Jc (v := .bool (decide (t60.2 ≠ t66.2))) rfl) ?_
      refine Jg ?_
      try dsimp only [z1, z2, z5, z6, z7, z8]
      refine Qb (b := (decide (t60.2 ≠ t66.2))) rfl (fun hb => ?_) (fun hb => ?_)
      ·have H57 := Jo hb H56; clear H56
       refine Jb ?_
       refine Ja rfl rfl rfl (Jd (v := .slice p_2.1 css.length p_2.2) rfl) ?_
       refine Ja rfl rfl rfl (Jd (v := .slice p_5.1 l56.length p_5.2) rfl) ?_
       refine Zm (vs := [.slice p_5.1 l56.length p_5.2]) (cs := [.slice p_5.1 l56.length p_5.2]) Try.underlying32 Try.sizeOf25 Try.zeroValue25 rfl rfl rfl rfl rfl rfl rfl (fun b10 => ?_)
       try dsimp only [z1, z2, z5, z6, z7, z8]
       refine c_freeze (Φ := fun H_ => FrS H_ 1 (.slice p_5.1 l56.length p_5.2) (l56.map J8)) 0 3 rfl rfl (by decide) (fun _ _ => noH_le) (fz_own _) (fun hp_3 hle hf => ?_)
       obtain ⟨l76, h_l76, H58⟩ := Jj H57; clear H57
       refine Y7 (turns_appendM (i := 2) (k := 5) (p := p_2) (f := V3) (ys := css) (ls := [[.slice p_5.1 l56.length p_5.2]]) Try.underlying32 (Vo Try.typeInfo25) rfl rfl rfl rfl rfl rfl rfl rfl rfl rfl rfl rfl rfl rfl (by simp only [V3, List.map_cons, List.map_nil, List.all_cons, List.all_nil, hf.one] <;> rfl) (app63 ((pf_2.mono hle).app h_l76 (nc := [[.slice p_5.1 l56.length p_5.2]]) rfl)) rfl) rfl rfl rfl (fun p_6 => ?_)
       have pf_4 : AllC gs_int hp_3 1 (css ++ [[Value.slice p_5.1 l56.length p_5.2]]) l76 := AllC.snocG (pf_2.mono hle) h_l76 rfl (hf)
       refine Ja rfl rfl rfl (Jc (v := .slice p_6.1 ((css ++ [[Value.slice p_5.1 l56.length p_5.2]]).length) p_6.2) rfl) ?_
       refine Jg ?_
       try dsimp only [z1, z2, z5, z6, z7, z8]
       refine Jn l76 (hp_3, (css ++ [[Value.slice p_5.1 l56.length p_5.2]]), p_6) 0 [0, 1, 2] (by exact ⟨rfl, rfl, rfl, rfl, rfl, rfl, rfl, trivial⟩) (by decide) (by kernel_rfl) (by exact ⟨H58, pf_4⟩) (Nat.lt_succ_self _)
      ·have H59 := Jp hb H56; clear H56
       refine Qw (r := r) (σ := Bool) (τ := Unit) (fun s => Vt a0 a1 self x48_2 l_3 next3 l56 t60 t66 s) (fun s t => [(0, v0), (1, v1), (2, v2), (7, .slice p_2.1 css.length p_2.2), (15, .slice p_5.1 l56.length p_5.2), (16, .int .i64 t60.1), (18, .int .i64 t66.1), (46, .slice p.1 l.length p.2), (47, .int .i64 (t45.length : Int)), (48, .int .i64 x48_2), (77, .bool s)]) (fun s t => [Xh Vw hp, Qt 3 1 (.slice p.1 l.length p.2) l.length (t45.map J8), Qt 25 1 (.slice p_2.1 css.length p_2.2) css.length (css.map V3), Qt 3 1 (.slice p_5.1 l56.length p_5.2) l56.length (l56.map J8)]) (fun s t => True) ?_ ?_
       ·refine Jb ?_
        refine Ja rfl rfl rfl (Jd (v := v0) rfl) ?_
        refine Ja rfl rfl rfl (Jd (v := .int .i64 t60.1) rfl) ?_
        obtain ⟨t80, h_t80, H73⟩ := Jj H59; clear H59
        refine Ja rfl rfl rfl (Qe Try.underlying27 Try.sizeOf70 rfl rfl f0.frs (f0.ix h_t80)) ?_
        refine Ja rfl rfl rfl (Xz Try.runUnderlying70 rfl Try.sizeOf29 rfl rfl (Q2 f0.frs (f0.ix h_t80))) ?_
        refine Ja rfl rfl rfl (Xz Try.runUnderlying29 rfl Try.sizeOf3 rfl rfl (Q2 f0.frs (f0.ix h_t80))) ?_
        refine Xl (fun w hF hS => Qk (f := (V2 h v0 6)) (i := t60.1) (sz := 6) (j := 1) (v := .int .i64 t80.Value.Kind) Try.isAgg3 rfl rfl (f0.frs.row (hw.now hF)) (f0.ix h_t80) (Vj (Qh (f0.at h_t80)) rfl)) rfl rfl rfl ?_
        refine Ja rfl rfl rfl (Qq rfl rfl) ?_
        refine Ja rfl rfl rfl (Jd (v := .bool (decide (t80.Value.Kind = 13))) rfl) ?_
        refine split (fun hb => ?_) (fun hb => ?_)
        ·have H74 := Jo hb H73; clear H73
         refine Ja rfl rfl rfl (Jd (v := v1) rfl) ?_
         refine Ja rfl rfl rfl (Jd (v := .int .i64 t66.1) rfl) ?_
         obtain ⟨t88, h_t88, H75⟩ := Jj H74; clear H74
         refine Ja rfl rfl rfl (Qe Try.underlying27 Try.sizeOf70 rfl rfl f1.frs (f1.ix h_t88)) ?_
         refine Ja rfl rfl rfl (Xz Try.runUnderlying70 rfl Try.sizeOf29 rfl rfl (Q2 f1.frs (f1.ix h_t88))) ?_
         refine Ja rfl rfl rfl (Xz Try.runUnderlying29 rfl Try.sizeOf3 rfl rfl (Q2 f1.frs (f1.ix h_t88))) ?_
         refine Xl (fun w hF hS => Qk (f := (V2 h v1 6)) (i := t66.1) (sz := 6) (j := 1) (v := .int .i64 t88.Value.Kind) Try.isAgg3 rfl rfl (f1.frs.row (hw.now hF)) (f1.ix h_t88) (Vj (Qh (f1.at h_t88)) rfl)) rfl rfl rfl ?_
         refine Ja rfl rfl rfl (Qq rfl rfl) ?_
         refine Ja rfl rfl rfl (J5 (v := .bool (decide (t88.Value.Kind = 13))) rfl rfl) ?_
         refine Ja rfl rfl rfl (Jc (v := .bool (decide (t88.Value.Kind = 13))) rfl) ?_
         refine Jg ?_
         try dsimp only [z1, z2, z5, z6, z7, z8]
         refine Jn (decide (t88.Value.Kind = 13)) () 0 [0, 1, 2, 3] (by exact ⟨rfl, rfl, rfl, rfl, rfl, rfl, rfl, rfl, rfl, rfl, rfl, trivial⟩) (by decide) (by kernel_rfl) (by exact ⟨H75, trivial⟩) (Nat.lt_succ_self _)
        ·have H76 := Jp hb H73; clear H73
         refine Jh rfl rfl rfl ?_
         refine Jh rfl rfl rfl ?_
         refine Jh rfl rfl rfl ?_
         refine Jh rfl rfl rfl ?_
         refine Jh rfl rfl rfl ?_
         refine Jh rfl rfl rfl ?_
         refine Jh rfl rfl rfl ?_
         refine Ja rfl rfl rfl (J7 (v := .bool false) rfl rfl) ?_
         refine Ja rfl rfl rfl (Jc (v := .bool false) rfl) ?_
         refine Jg ?_
         try dsimp only [z1, z2, z5, z6, z7, z8]
         refine Jn false () 0 [0, 1, 2, 3] (by exact ⟨rfl, rfl, rfl, rfl, rfl, rfl, rfl, rfl, rfl, rfl, rfl, trivial⟩) (by decide) (by kernel_rfl) (by exact ⟨H76, trivial⟩) (Nat.lt_succ_self _)
       ·rintro x77 _ gg H60 _
        replace H60 : Vt a0 a1 self x48_2 l_3 next3 l56 t60 t66 x77 = some r := H60
        try dsimp only
        refine Qb (b := x77) rfl (fun hb => ?_) (fun hb => ?_)
        ·have H61 := Jo hb H60; clear H60
         exact Q6 (Kd.p :: Kd.p :: Kd.p :: Kd.p :: Kd.p :: Kd.p :: Kd.d [] _ :: Kd.p :: Kd.p :: Kd.p :: Kd.p :: Kd.p :: Kd.d [] _ :: Kd.p :: Kd.t 4 [0, 3] _ _ :: Kd.t2g 2 4 [] _ _ :: Kd.p :: []) 1 mixed (by
          refine Jk rfl rfl (Jd (v := .slice p_2.1 css.length p_2.2) rfl) ?_
          refine Jk rfl rfl (Jd (v := v0) rfl) ?_
          refine Jk rfl rfl (Jd (v := .int .i64 t60.1) rfl) ?_
          have h_t97 := J4 H61
          have H62 := Jw H61
          refine Jk rfl rfl (Qe Try.underlying27 Try.sizeOf70 rfl rfl f0.frs (f0.ix h_t97)) ?_
          refine Jk rfl rfl (Xz Try.runUnderlying70 rfl Try.sizeOf29 rfl rfl (Q2 f0.frs (f0.ix h_t97))) ?_
          refine Jk rfl rfl (Xz Try.runUnderlying29 rfl Try.sizeOf27 rfl rfl (Q2 f0.frs (f0.ix h_t97))) ?_
          refine Zp (fun w hF => Qk (f := (V2 h v0 6)) (i := t60.1) (sz := 6) (j := 5) (v := (J6 h v0 6 (Int.toNat t60.1) 5)) Try.isAgg27 rfl rfl (f0.frs.row (hw.now hF)) (f0.ix h_t97) (Vj (Qh (f0.at h_t97)) rfl)) rfl rfl ?_
          refine Jk rfl rfl (Jd (v := v1) rfl) ?_
          refine Jk rfl rfl (Jd (v := .int .i64 t66.1) rfl) ?_
          have h_t103 := J4 H62
          have H63 := Jw H62
          refine Jk rfl rfl (Qe Try.underlying27 Try.sizeOf70 rfl rfl f1.frs (f1.ix h_t103)) ?_
          refine Jk rfl rfl (Xz Try.runUnderlying70 rfl Try.sizeOf29 rfl rfl (Q2 f1.frs (f1.ix h_t103))) ?_
          refine Jk rfl rfl (Xz Try.runUnderlying29 rfl Try.sizeOf27 rfl rfl (Q2 f1.frs (f1.ix h_t103))) ?_
          refine Zp (fun w hF => Qk (f := (V2 h v1 6)) (i := t66.1) (sz := 6) (j := 5) (v := (J6 h v1 6 (Int.toNat t66.1) 5)) Try.isAgg27 rfl rfl (f1.frs.row (hw.now hF)) (f1.ix h_t103) (Vj (Qh (f1.at h_t103)) rfl)) rfl rfl ?_
          refine Jk rfl rfl (Jd (v := .slice p_5.1 l56.length p_5.2) rfl) ?_
          have h_t108 := J4 H63
          have H64 := Jw H63
          refine d_make (Cv := fun v => V1 25 1 gs_int v (val (self ((val (Qj a0 t60.1)).Value.Entries, (val (Qj a1 t66.1)).Value.Entries, l56))).length (val (self ((val (Qj a0 t60.1)).Value.Entries, (val (Qj a1 t66.1)).Value.Entries, l56)))) (none, 0) (Vq (G := fun x : (Option Addr × Nat) => .slice x.1 (val (self ((val (Qj a0 t60.1)).Value.Entries, (val (Qj a1 t66.1)).Value.Entries, l56))).length x.2) (C := fun x : (Option Addr × Nat) => V1 25 1 gs_int (.slice x.1 (val (self ((val (Qj a0 t60.1)).Value.Entries, (val (Qj a1 t66.1)).Value.Entries, l56))).length x.2) (val (self ((val (Qj a0 t60.1)).Value.Entries, (val (Qj a1 t66.1)).Value.Entries, l56))).length (val (self ((val (Qj a0 t60.1)).Value.Entries, (val (Qj a1 t66.1)).Value.Entries, l56)))) (fun w L' hF hS hi => ih (Qf w) ((show FrN h 6 (J6 h v0 6 (Int.toNat t60.1) 5) g_tag_Entry (val (Qj a0 t60.1)).Value.Entries from (Jv (Ji (f0.at h_t97)))).mono (hw.now hF)) ((show FrN h 6 (J6 h v1 6 (Int.toNat t66.1) 5) g_tag_Entry (val (Qj a1 t66.1)).Value.Entries from (Jv (Ji (f1.at h_t103)))).mono (hw.now hF)) (frs_own (i := 3) rfl hS ((hi 3 (by simp)).trans rfl)) h_t108) Try.call48 rfl) (fun _ => rfl) rfl rfl rfl (fun p_7 => ?_)
          have h_l109 := J4 H64
          have H65 := Jw H64
          refine d_turn2G (Cv := fun v_ => rowDP 25 1 gs_int css v_ (css.length + (val (self ((val (Qj a0 t60.1)).Value.Entries, (val (Qj a1 t66.1)).Value.Entries, l56))).length) (val (self ((val (Qj a0 t60.1)).Value.Entries, (val (Qj a1 t66.1)).Value.Entries, l56)))) (none, 0) (turns_appDD (i := 2) (p := p_2) (p2 := p_7) (css := css) (ys := (val (self ((val (Qj a0 t60.1)).Value.Entries, (val (Qj a1 t66.1)).Value.Entries, l56)))) (by_ := 24) rfl Try.underlying32 (Vo Try.typeInfo25) rfl rfl rfl rfl rfl rfl rfl rfl (fun _ _ f_ => AllC.one1 (fun q_ => FrS.one q_) f_) (fun _ hl_ => pf_2.app h_l109 hl_)) (fun _ => rfl) rfl rfl (by decide) (by simp) rfl rfl (fun p_8 => ?_)
          refine Jk rfl rfl (Jc (v := .slice p_8.1 (css.length + (val (self ((val (Qj a0 t60.1)).Value.Entries, (val (Qj a1 t66.1)).Value.Entries, l56))).length) p_8.2) rfl) ?_
          refine Yp ?_
          refine c_rowDP 2 rfl (fun hp_4 css_3 hn pf_5 => ?_)
          rw [hn]
          try dsimp only [z1, z2, z5, z6, z7, z8]
          refine Ui 2 rfl ?_
          try dsimp only [z1, z2, z5, z6, z7, z8]
          refine Wx 0 5 rfl rfl (by decide) (fun _ _ => noH_le) (fun hp_5 hle_2 hle_3 => ?_)
          have pf_6 : AllC gs_int hp_5 1 (css ++ css_3) (val (X6 24 l_3 (val (self ((val (Qj a0 t60.1)).Value.Entries, (val (Qj a1 t66.1)).Value.Entries, l56))))) := by rw [(Vu h_l109).1]; exact AllC.append (pf_2.mono hle_2) (pf_5.mono hle_3)
          try dsimp only [z1, z2, z5, z6, z7, z8]
          refine Jn (val (X6 24 l_3 (val (self ((val (Qj a0 t60.1)).Value.Entries, (val (Qj a1 t66.1)).Value.Entries, l56))))) (hp_5, (css ++ css_3), p_8) 0 [0, 1, 2] (by exact ⟨rfl, rfl, rfl, rfl, rfl, rfl, rfl, trivial⟩) (by decide) (by kernel_rfl) (by exact ⟨H65, pf_6⟩) (Nat.lt_succ_self _)
          ) (by kernel_rfl)
        ·have H66 := Jp hb H60; clear H60
         refine Jf ?_
         exact Q6 (Kd.p :: Kd.p :: Kd.p :: Kd.p :: Kd.d [] _ :: Kd.p :: Kd.p :: Kd.p :: Kd.p :: Kd.d [] _ :: Kd.d [0] _ :: Kd.p :: Kd.p :: []) 0 mixed (by
          refine Jk rfl rfl (Jd (v := v0) rfl) ?_
          refine Jk rfl rfl (Jd (v := .int .i64 t60.1) rfl) ?_
          have h_t113 := J4 H66
          have H67 := Jw H66
          refine Jk rfl rfl (Qe Try.underlying27 Try.sizeOf70 rfl rfl f0.frs (f0.ix h_t113)) ?_
          refine Jk rfl rfl (Xz Try.runUnderlying70 rfl Try.sizeOf29 rfl rfl (Q2 f0.frs (f0.ix h_t113))) ?_
          refine Zp (fun w hF => Xb (f := (V2 h v0 6)) (i := t60.1) (sz := 6) (j := 1) (vs := [.int .i64 (val (Qj a0 t60.1)).Value.Kind, str (val (Qj a0 t60.1)).Value.Text, (J6 h v0 6 (Int.toNat t60.1) 3), (J6 h v0 6 (Int.toNat t60.1) 4), (J6 h v0 6 (Int.toNat t60.1) 5)]) Try.isAgg29 Try.sizeOf29 rfl rfl (f0.frs.row (hw.now hF)) (f0.ix h_t113) (rd_of (Qh (f0.at h_t113)) rfl)) rfl rfl ?_
          refine Jk rfl rfl (Jd (v := v1) rfl) ?_
          refine Jk rfl rfl (Jd (v := .int .i64 t66.1) rfl) ?_
          have h_t118 := J4 H67
          have H68 := Jw H67
          refine Jk rfl rfl (Qe Try.underlying27 Try.sizeOf70 rfl rfl f1.frs (f1.ix h_t118)) ?_
          refine Jk rfl rfl (Xz Try.runUnderlying70 rfl Try.sizeOf29 rfl rfl (Q2 f1.frs (f1.ix h_t118))) ?_
          refine Zp (fun w hF => Xb (f := (V2 h v1 6)) (i := t66.1) (sz := 6) (j := 1) (vs := [.int .i64 (val (Qj a1 t66.1)).Value.Kind, str (val (Qj a1 t66.1)).Value.Text, (J6 h v1 6 (Int.toNat t66.1) 3), (J6 h v1 6 (Int.toNat t66.1) 4), (J6 h v1 6 (Int.toNat t66.1) 5)]) Try.isAgg29 Try.sizeOf29 rfl rfl (f1.frs.row (hw.now hF)) (f1.ix h_t118) (rd_of (Qh (f1.at h_t118)) rfl)) rfl rfl ?_
          have h_t121 := J4 H68
          have H69 := Jw H68
          refine d_callD (fun w L' hF hS hi => k12 (Qf w) ((show FrS h 1 (J6 h v0 6 (Int.toNat t60.1) 3) ((val (Qj a0 t60.1)).Value.Ints.map J8) from (J1 (Ji (f0.at h_t113)))).mono (hw.now hF)) ((show FrS h 2 (J6 h v0 6 (Int.toNat t60.1) 4) ((val (Qj a0 t60.1)).Value.Ratios.map Jr) from (J2 (Ji (f0.at h_t113)))).mono (hw.now hF)) ((show FrN h 6 (J6 h v0 6 (Int.toNat t60.1) 5) g_tag_Entry (val (Qj a0 t60.1)).Value.Entries from (Jv (Ji (f0.at h_t113)))).mono (hw.now hF)) ((show FrS h 1 (J6 h v1 6 (Int.toNat t66.1) 3) ((val (Qj a1 t66.1)).Value.Ints.map J8) from (J1 (Ji (f1.at h_t118)))).mono (hw.now hF)) ((show FrS h 2 (J6 h v1 6 (Int.toNat t66.1) 4) ((val (Qj a1 t66.1)).Value.Ratios.map Jr) from (J2 (Ji (f1.at h_t118)))).mono (hw.now hF)) ((show FrN h 6 (J6 h v1 6 (Int.toNat t66.1) 5) g_tag_Entry (val (Qj a1 t66.1)).Value.Entries from (Jv (Ji (f1.at h_t118)))).mono (hw.now hF)) h_t121) Try.call12 rfl rfl ?_
          refine Jk rfl rfl (r_not rfl) ?_
          refine Jk rfl rfl (Jc (v := .bool (!(val (We (val (Qj a0 t60.1)).Value (val (Qj a1 t66.1)).Value)))) rfl) ?_
          refine Yp ?_
          try dsimp only [z1, z2, z5, z6, z7, z8]
          refine Qb (b := (!(val (We (val (Qj a0 t60.1)).Value (val (Qj a1 t66.1)).Value)))) rfl (fun hb => ?_) (fun hb => ?_)
          ·have H70 := Jo hb H69; clear H69
           refine Jb ?_
           refine Ja rfl rfl rfl (Jd (v := .slice p_2.1 css.length p_2.2) rfl) ?_
           refine Ja rfl rfl rfl (Jd (v := .slice p_5.1 l56.length p_5.2) rfl) ?_
           refine Zm (vs := [.slice p_5.1 l56.length p_5.2]) (cs := [.slice p_5.1 l56.length p_5.2]) Try.underlying32 Try.sizeOf25 Try.zeroValue25 rfl rfl rfl rfl rfl rfl rfl (fun b11 => ?_)
           try dsimp only [z1, z2, z5, z6, z7, z8]
           refine c_freeze (Φ := fun H_ => FrS H_ 1 (.slice p_5.1 l56.length p_5.2) (l56.map J8)) 0 3 rfl rfl (by decide) (fun _ _ => noH_le) (fz_own _) (fun hp_6 hle_4 hf_2 => ?_)
           obtain ⟨l126, h_l126, H71⟩ := Jj H70; clear H70
           refine Y7 (turns_appendM (i := 2) (k := 4) (p := p_2) (f := V3) (ys := css) (ls := [[.slice p_5.1 l56.length p_5.2]]) Try.underlying32 (Vo Try.typeInfo25) rfl rfl rfl rfl rfl rfl rfl rfl rfl rfl rfl rfl rfl rfl (by simp only [V3, List.map_cons, List.map_nil, List.all_cons, List.all_nil, hf_2.one] <;> rfl) (app63 ((pf_2.mono hle_4).app h_l126 (nc := [[.slice p_5.1 l56.length p_5.2]]) rfl)) rfl) rfl rfl rfl (fun p_9 => ?_)
           have pf_7 : AllC gs_int hp_6 1 (css ++ [[Value.slice p_5.1 l56.length p_5.2]]) l126 := AllC.snocG (pf_2.mono hle_4) h_l126 rfl (hf_2)
           refine Ja rfl rfl rfl (Jc (v := .slice p_9.1 ((css ++ [[Value.slice p_5.1 l56.length p_5.2]]).length) p_9.2) rfl) ?_
           refine Jg ?_
           try dsimp only [z1, z2, z5, z6, z7, z8]
           refine Jn l126 (hp_6, (css ++ [[Value.slice p_5.1 l56.length p_5.2]]), p_9) 0 [0, 1, 2] (by exact ⟨rfl, rfl, rfl, rfl, rfl, rfl, rfl, trivial⟩) (by decide) (by kernel_rfl) (by exact ⟨H71, pf_7⟩) (Nat.lt_succ_self _)
          ·have H72 := Jp hb H69; clear H69
           refine Jt ?_
           refine Jn l_3 (hp, css, p_2) 0 [0, 1, 2] (by exact ⟨rfl, rfl, rfl, rfl, rfl, rfl, rfl, trivial⟩) (by decide) (by kernel_rfl) (by exact ⟨H72, pf_2⟩) (Nat.lt_succ_self _)
          ) (by kernel_rfl)
     ·rintro l_4 ⟨hp_2, css_2, p_3⟩ gg H50 pf_3
      replace H50 : Zk x48_2 next3 l_4 = some r := H50
      try dsimp only
      refine Jb ?_
      obtain ⟨t127, h_t127, H51⟩ := Jj H50; clear H50
      refine Ja rfl rfl rfl (Qn rfl rfl h_t127) ?_
      refine Ja rfl rfl rfl (Jd (v := .int .i64 t127) rfl) ?_
      refine Jg ?_
      try dsimp only [z1, z2, z5, z6, z7, z8]
      refine Jn (t127, l_4) (hp_2, css_2, p_3) m3 [0, 1, 2] (by exact ⟨rfl, rfl, rfl, rfl, rfl, rfl, rfl, trivial⟩) (by decide) (by kernel_rfl) (by exact ⟨(by subst hn3; exact H51), pf_3⟩) (Nat.lt_succ_self _)
    ·have H77 := Jp hb H48; clear H48
     refine Xq ?_
     refine Jf ?_
     refine Jb ?_
     refine Ja rfl rfl rfl (Jd (v := .slice p_2.1 css.length p_2.2) rfl) ?_
     refine Ja rfl rfl rfl (Jc (v := .slice p_2.1 css.length p_2.2) rfl) ?_
     refine Jg ?_
     try dsimp only [z1, z2, z5, z6, z7, z8]
     refine Ju ?_
     obtain rfl := Option.some.inj H77
     refine W0 0 2 rfl rfl (by decide) ?_
     refine W6 0 rfl (imp_rowD (p := p_2) rfl pf_2) ?_
     refine Qa (v := .slice p_2.1 css.length p_2.2) rfl rfl (finX p_2 (i := 0) rfl (by first | rfl | rw [(show css.length = l_3.length from pf_2.len)]) (by first | exact Imp.refl _ | exact Imp.of (by rw [(show css.length = l_3.length from pf_2.len)] <;> rfl)))
theorem k48 {a0 : (List T_tag_Entry)} {v0 : Value} {a1 : (List T_tag_Entry)} {v1 : Value} {a2 : (List Int)} {v2 : Value} {r : (List (List Int))} {w : World} {h : Jy} (hw : Know h w Zc) (f0 : FrN h 6 v0 g_tag_Entry a0) (f1 : FrN h 6 v1 g_tag_Entry a1) (f2 : FrS h 1 v2 (a2.map J8)) (H : R_unlike a0 a1 a2 = some r) : Does Try.prog 48 (List.toArray [v0, v1, v2]) w (fun v w' => ∃ x : (Option Addr × Nat), v = (.slice x.1 r.length x.2) ∧ Turn w w' Zc (V1 25 1 gs_int (.slice x.1 r.length x.2) r.length r)) := by
 obtain ⟨mm, hm⟩ := fix_it (show Z5 (fun (self : ((List T_tag_Entry) × (List T_tag_Entry) × (List Int)) → Option ((List (List Int)))) (s : (List T_tag_Entry) × (List T_tag_Entry) × (List Int)) => Yx self s.1 s.2.1 s.2.2) (a0, a1, a2) = some r from H)
 exact k48_it mm hw f0 f1 f2 hm
theorem k18 {a0 : T_tag_File} {v0_1 : Value} {a1 : T_tag_File} {v1_1 : Value} {r : (List (List Int))} {w : World} {h : Jy} (hw : Know h w Zc) (f0_1 : FrN h 1 v0_1 gs_tag_Entry a0.Dirs) (f1_1 : FrN h 1 v1_1 gs_tag_Entry a1.Dirs) (H : R_Unlike a0 a1 = some r) : Does Try.prog 18 (List.toArray [.agg #[.bool a0.Big, v0_1], .agg #[.bool a1.Big, v1_1]]) w (fun v w' => ∃ x : (Option Addr × Nat), v = (.slice x.1 r.length x.2) ∧ Turn w w' Zc (V1 25 1 gs_int (.slice x.1 r.length x.2) r.length r)) := by
 refine enter (n := 29) Try.func18 rfl rfl rfl Zc [] (Sat.nil _ _) ?_
 refine Wt Vw ?_
 refine Jf ?_
 refine Jb ?_
 refine Vi (cs := [.bool a0.Big, v0_1]) rfl rfl rfl rfl (fun b3 => ?_)
 refine Vi (cs := [.bool a1.Big, v1_1]) rfl rfl rfl rfl (fun b4 => ?_)
 refine Ja rfl rfl rfl (Jc (v := .slice none 0 0) rfl) ?_
 refine Jg ?_
 refine Jf ?_
 refine Jb ?_
 refine Ja rfl rfl rfl (Jc (v := .slice none 0 0) rfl) ?_
 refine Jg ?_
 refine Jf ?_
 refine Jf ?_
 refine Jb ?_
 refine Ja rfl rfl rfl (Jl Try.runUnderlying24 rfl Try.sizeOf22 rfl rfl) ?_
 refine Jq (i := 1) (v := v0_1) Try.isAgg22 rfl rfl rfl rfl rfl ?_
 refine Ja rfl rfl rfl (Qu Try.underlying22 rfl f0_1) ?_
 refine Ja rfl rfl rfl (Jd (v := .int .i64 0) rfl) ?_
 refine Jg ?_
 refine J0 ?_
 refine c_dr 1 ?_
 try dsimp only [z1, z2, z3, z4, z5, z6, z7, z8]
 refine Wh 25 1 ?_
 refine Zb (σ := Int × (List (List Int))) (τ := Jy × (List (List Value)) × (Option Addr × Nat)) (fun next1 s => Y2 a0 a1 next1 s.1 s.2) (fun s t => [(3, .pointer (some ⟨b4, 0, none⟩)), (5, .slice t.2.2.1 t.2.1.length t.2.2.2), (9, v0_1), (10, .int .i64 (a0.Dirs.length : Int)), (11, .int .i64 s.1)]) (fun s t => [Xh Vw t.1, Js b4 [.bool a1.Big, v1_1] 24, Qt 25 1 (.slice t.2.2.1 t.2.1.length t.2.2.2) t.2.1.length (t.2.1.map V3)]) (fun s t => AllC gs_int t.1 1 t.2.1 s.2) (0, ([] : List (List Int))) (Vw, ([] : List (List Value)), ((none, 0) : Option Addr × Nat)) [0, 1, 2] H (by exact (AllC.nil (G := gs_int) (h := Vw) (sz := 1))) (by exact ⟨rfl, rfl, rfl, rfl, rfl, trivial⟩) (by decide) rfl ?_
 rintro ⟨x11_2, l_2⟩ ⟨hp, css, p⟩ m1 gg H9 pf_2
 clear H
 replace H9 : Y2 a0 a1 (it (fun next1 s => Y2 a0 a1 next1 s.1 s.2) m1) x11_2 l_2 = some r := H9
 generalize hn1 : it (fun next1 s => Y2 a0 a1 next1 s.1 s.2) m1 = next1 at H9
 try dsimp only
 refine Jf ?_
 refine Jb ?_
 refine Ja rfl rfl rfl (Xy rfl rfl) ?_
 refine Jg ?_
 try dsimp only [z1, z2, z5, z6, z7, z8]
 refine Jf ?_
 refine Qb (b := (decide (x11_2 < (a0.Dirs.length : Int)))) rfl (fun hb => ?_) (fun hb => ?_)
 ·have H10 := Jo hb H9; clear H9
  refine Jt ?_
  refine Jf ?_
  refine J0 ?_
  refine Jf ?_
  refine Jb ?_
  refine Ja rfl rfl rfl (Jd (v := .int .i64 x11_2) rfl) ?_
  obtain ⟨t14, h_t14, H11⟩ := Jj H10; clear H10
  refine Ja rfl rfl rfl (Qe Try.underlying22 Try.sizeOf27 rfl rfl f0_1.frs (f0_1.ix h_t14)) ?_
  refine Xl (fun w hF hS => Qk (f := (V2 h v0_1 1)) (i := x11_2) (sz := 1) (j := 0) (v := (J6 h v0_1 1 (Int.toNat x11_2) 0)) Try.isAgg27 rfl rfl (f0_1.frs.row (hw.now hF)) (f0_1.ix h_t14) (Vj (X5 (f0_1.at h_t14)) rfl)) rfl rfl rfl ?_
  refine Ja rfl rfl rfl (Jc (v := .int .i64 x11_2) rfl) ?_
  refine Ja rfl rfl rfl (Jc (v := (J6 h v0_1 1 (Int.toNat x11_2) 0)) rfl) ?_
  refine Jg ?_
  try dsimp only [z1, z2, z5, z6, z7, z8]
  refine Jb ?_
  refine Ja rfl rfl rfl (Jd (v := .slice p.1 css.length p.2) rfl) ?_
  refine Ja rfl rfl rfl (Jd (v := (J6 h v0_1 1 (Int.toNat x11_2) 0)) rfl) ?_
  refine Ja rfl rfl rfl (Jl Try.runUnderlying24 rfl Try.sizeOf22 rfl rfl) ?_
  refine Jq (i := 1) (v := v1_1) Try.isAgg22 rfl rfl rfl rfl rfl ?_
  refine Ja rfl rfl rfl (Jd (v := .int .i64 x11_2) rfl) ?_
  obtain ⟨t21, h_t21, H12⟩ := Jj H11; clear H11
  refine Ja rfl rfl rfl (Qe Try.underlying22 Try.sizeOf27 rfl rfl f1_1.frs (f1_1.ix h_t21)) ?_
  refine Xl (fun w hF hS => Qk (f := (V2 h v1_1 1)) (i := x11_2) (sz := 1) (j := 0) (v := (J6 h v1_1 1 (Int.toNat x11_2) 0)) Try.isAgg27 rfl rfl (f1_1.frs.row (hw.now hF)) (f1_1.ix h_t21) (Vj (X5 (f1_1.at h_t21)) rfl)) rfl rfl rfl ?_
  refine Ja rfl rfl rfl (Jd (v := .int .i64 x11_2) rfl) ?_
  refine Zm (vs := [.int .i64 x11_2]) (cs := [.int .i64 x11_2]) Try.underlying25 Try.sizeOf3 Try.zeroValue3 rfl rfl rfl rfl rfl rfl rfl (fun b5 => ?_)
  obtain ⟨t25, h_t25, H13⟩ := Jj H12; clear H12
  refine l_make (Vq (rds := [3]) (G := fun x : (Option Addr × Nat) => .slice x.1 t25.length x.2) (C := fun x : (Option Addr × Nat) => V1 25 1 gs_int (.slice x.1 t25.length x.2) t25.length t25) (fun w L' hF hS hi => k48 (Qf w) ((show FrN h 6 (J6 h v0_1 1 (Int.toNat x11_2) 0) g_tag_Entry t14 from (f0_1.at h_t14)).mono (hw.now hF)) ((show FrN h 6 (J6 h v1_1 1 (Int.toNat x11_2) 0) g_tag_Entry t21 from (f1_1.at h_t21)).mono (hw.now hF)) (frs_box (i := 3) (xs := ([x11_2] : List Int)) (f := J8) hS ((hi 3 (by simp)).trans rfl) rfl rfl rfl rfl) h_t25) Try.call48 rfl) rfl rfl rfl (fun p_2 => ?_)
  refine c_rowD 4 rfl (fun hp_2 css_2 hn pf_3 => ?_)
  rw [hn]
  refine Ui 4 rfl ?_
  refine Wx 0 4 rfl rfl (by decide) (fun _ _ => noH_le) (fun hp_3 hle hle_2 => ?_)
  obtain ⟨l26, h_l26, H14⟩ := Jj H13; clear H13
  refine Y7 (turns_appGm (i := 2) (hn := rfl) (rds := [5]) (p := p) (sz := 1) (by_ := 24) (f := V3) (ys := css) (ls := css_2) (V := .slice p_2.1 css_2.length p_2.2) Try.underlying32 (Vo Try.typeInfo25) rfl rfl rfl rfl rfl rfl rfl rfl rfl rfl (fun w L' hF hS hi => rowOf (i := 5) hS ((hi 5 (by simp)).trans rfl)) (pf_3.mono hle_2).lens (AllC.one1 (fun f_ => FrS.one f_) (pf_3.mono hle_2)) ((pf_2.mono hle).app h_l26 (pf_3.mono hle_2).len)) rfl rfl rfl (fun p_3 => ?_)
  have pf_4 : AllC gs_int hp_3 1 (css ++ css_2) l26 := by rw [(Vu h_l26).1]; exact AllC.append (pf_2.mono hle) (pf_3.mono hle_2)
  refine Ja rfl rfl rfl (Jc (v := .slice p_3.1 ((css ++ css_2).length) p_3.2) rfl) ?_
  refine Jg ?_
  try dsimp only [z1, z2, z5, z6, z7, z8]
  refine Jb ?_
  obtain ⟨t27, h_t27, H15⟩ := Jj H14; clear H14
  refine Ja rfl rfl rfl (Qn rfl rfl h_t27) ?_
  refine Ja rfl rfl rfl (Jd (v := .int .i64 t27) rfl) ?_
  refine Jg ?_
  try dsimp only [z1, z2, z5, z6, z7, z8]
  refine Jn (t27, l26) (hp_3, (css ++ css_2), p_3) m1 [0, 1, 2] (by exact ⟨rfl, rfl, rfl, rfl, rfl, trivial⟩) (by decide) (by kernel_rfl) (by exact ⟨(by subst hn1; exact H15), pf_4⟩) (Nat.lt_succ_self _)
 ·have H16 := Jp hb H9; clear H9
  refine Xq ?_
  refine Jf ?_
  refine Jb ?_
  refine Ja rfl rfl rfl (Jd (v := .slice p.1 css.length p.2) rfl) ?_
  refine Ja rfl rfl rfl (Jc (v := .slice p.1 css.length p.2) rfl) ?_
  refine Jg ?_
  try dsimp only [z1, z2, z5, z6, z7, z8]
  refine Ju ?_
  obtain rfl := Option.some.inj H16
  refine W0 0 2 rfl rfl (by decide) ?_
  refine W6 0 rfl (imp_rowD (p := p) rfl pf_2) ?_
  refine Qa (v := .slice p.1 css.length p.2) rfl rfl (finX p (i := 0) rfl (by first | rfl | rw [(show css.length = l_2.length from pf_2.len)]) (by first | exact Imp.refl _ | exact Imp.of (by rw [(show css.length = l_2.length from pf_2.len)] <;> rfl)))
end Go.Proofs.Ytpljknglodhcnaa
