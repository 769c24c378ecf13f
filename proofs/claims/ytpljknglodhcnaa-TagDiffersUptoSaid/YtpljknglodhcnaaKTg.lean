/- TagDiffers, the law: the walks, printed by our generator; each follows its model. Conditions: the model yields a value. -/
import Derived.Test.YtpljknglodhcnaaKTe
import Derived.Test.YtpljknglodhcnaaMd
namespace Go.Proofs.Ytpljknglodhcnaa
open Go Go.Vc Go.Md Go.M Go.Lx
set_option maxRecDepth 100000
set_option maxHeartbeats 4000000
set_option linter.unusedVariables false
theorem k45 {a0 : Int} {r : Int} (H : R_wide a0 = some r) : Ret Try.prog 45 [.int .i64 a0] (.int .i64 r) := by
 refine Y8 (n := 16) Try.func45 rfl rfl rfl (fun wd => ?_)
 refine Jf ?_
 refine Jb ?_
 refine Ja rfl rfl rfl (Jc (v := .int .i64 0) rfl) ?_
 refine Jg ?_
 refine Jf ?_
 refine Jf ?_
 refine Jb ?_
 refine Ja rfl rfl rfl (Jd (v := .int .i64 a0) rfl) ?_
 refine Jg ?_
 refine J0 ?_
 refine Qw (r := r) (σ := Bool) (τ := Unit) (fun s => R_wide_j1 a0 s) (fun s t => [(3, .int .i64 a0), (4, .bool s)]) (fun s t => []) (fun s t => True) ?_ ?_
 ·refine Jf ?_
  refine Jb ?_
  refine Ja rfl rfl rfl (Qq rfl rfl) ?_
  refine Ja rfl rfl rfl (Jc (v := .bool (decide (a0 = 1))) rfl) ?_
  refine Jg ?_
  refine Qb (b := (decide (a0 = 1))) rfl (fun hb => ?_) (fun hb => ?_)
  ·have H47 := Jo hb H; clear H
   refine Jt ?_
   refine Jn (decide (a0 = 1)) () 0 [] (by exact ⟨rfl, rfl, trivial⟩) (by decide) (by kernel_rfl) (by exact ⟨H47, trivial⟩) (Nat.lt_succ_self _)
  ·have H48 := Jp hb H; clear H
   refine Jf ?_
   refine Jb ?_
   refine Ja rfl rfl rfl (Qq rfl rfl) ?_
   refine Ja rfl rfl rfl (Jc (v := .bool (decide (a0 = 2))) rfl) ?_
   refine Jg ?_
   refine Qb (b := (decide (a0 = 2))) rfl (fun hb => ?_) (fun hb => ?_)
   ·have H49 := Jo hb H48; clear H48
    refine Jt ?_
    refine Jn (decide (a0 = 2)) () 0 [] (by exact ⟨rfl, rfl, trivial⟩) (by decide) (by kernel_rfl) (by exact ⟨H49, trivial⟩) (Nat.lt_succ_self _)
   ·have H50 := Jp hb H48; clear H48
    refine Jb ?_
    refine Ja rfl rfl rfl (Qq rfl rfl) ?_
    refine Ja rfl rfl rfl (Jc (v := .bool (decide (a0 = 7))) rfl) ?_
    refine Jg ?_
    refine Jn (decide (a0 = 7)) () 0 [] (by exact ⟨rfl, rfl, trivial⟩) (by decide) (by kernel_rfl) (by exact ⟨H50, trivial⟩) (Nat.lt_succ_self _)
 ·rintro x4 _ gg H26 _
  replace H26 : R_wide_j1 a0 x4 = some r := H26
  try dsimp only
  refine Qb (b := x4) rfl (fun hb => ?_) (fun hb => ?_)
  ·have H27 := Jo hb H26; clear H26
   refine Jf ?_
   refine Jb ?_
   refine Ja rfl rfl rfl (Jc (v := .int .i64 1) rfl) ?_
   refine Jg ?_
   refine Ju ?_
   obtain rfl := Option.some.inj H27
   refine Qa (v := .int .i64 1) rfl rfl (fin rfl)
  ·have H28 := Jp hb H26; clear H26
   refine Jf ?_
   refine Jb ?_
   refine Ja rfl rfl rfl (Qq rfl rfl) ?_
   refine Ja rfl rfl rfl (Jc (v := .bool (decide (a0 = 3))) rfl) ?_
   refine Jg ?_
   refine Qb (b := (decide (a0 = 3))) rfl (fun hb => ?_) (fun hb => ?_)
   ·have H29 := Jo hb H28; clear H28
    refine Jf ?_
    refine Jb ?_
    refine Ja rfl rfl rfl (Jc (v := .int .i64 2) rfl) ?_
    refine Jg ?_
    refine Ju ?_
    obtain rfl := Option.some.inj H29
    refine Qa (v := .int .i64 2) rfl rfl (fin rfl)
   ·have H30 := Jp hb H28; clear H28
    refine Jf ?_
    refine Jf ?_
    refine Jb ?_
    refine Ja rfl rfl rfl (Qq rfl rfl) ?_
    refine Ja rfl rfl rfl (Jc (v := .bool (decide (a0 = 4))) rfl) ?_
    refine Jg ?_
    refine Qb (b := (decide (a0 = 4))) rfl (fun hb => ?_) (fun hb => ?_)
    ·have H31 := Jo hb H30; clear H30
     refine Jt ?_
     refine Qb (b := (decide (a0 = 4))) rfl (fun hb => ?_) (fun hb => ?_)
     ·have H32 := Jo hb H31; clear H31
      refine Jf ?_
      refine Jb ?_
      refine Ja rfl rfl rfl (Jc (v := .int .i64 4) rfl) ?_
      refine Jg ?_
      refine Ju ?_
      obtain rfl := Option.some.inj H32
      refine Qa (v := .int .i64 4) rfl rfl (fin rfl)
     ·have H33 := Jp hb H31; clear H31
      refine Jf ?_
      refine Jb ?_
      refine Ja rfl rfl rfl (Qq rfl rfl) ?_
      refine Ja rfl rfl rfl (Jc (v := .bool (decide (a0 = 5))) rfl) ?_
      refine Jg ?_
      refine Qb (b := (decide (a0 = 5))) rfl (fun hb => ?_) (fun hb => ?_)
      ·have H34 := Jo hb H33; clear H33
       refine Jf ?_
       refine Jb ?_
       refine Ja rfl rfl rfl (Jc (v := .int .i64 8) rfl) ?_
       refine Jg ?_
       refine Ju ?_
       obtain rfl := Option.some.inj H34
       refine Qa (v := .int .i64 8) rfl rfl (fin rfl)
      ·have H35 := Jp hb H33; clear H33
       refine Jt ?_
       refine Jf ?_
       refine Jb ?_
       refine Ja rfl rfl rfl (Jc (v := .int .i64 0) rfl) ?_
       refine Jg ?_
       refine Ju ?_
       obtain rfl := Option.some.inj H35
       refine Qa (v := .int .i64 0) rfl rfl (fin rfl)
    ·have H36 := Jp hb H30; clear H30
     refine Jf ?_
     refine Jb ?_
     refine Ja rfl rfl rfl (Qq rfl rfl) ?_
     refine Ja rfl rfl rfl (Jc (v := .bool (decide (a0 = 9))) rfl) ?_
     refine Jg ?_
     refine Qb (b := (decide (a0 = 9))) rfl (fun hb => ?_) (fun hb => ?_)
     ·have H37 := Jo hb H36; clear H36
      refine Jt ?_
      refine Qb (b := (decide (a0 = 9))) rfl (fun hb => ?_) (fun hb => ?_)
      ·have H38 := Jo hb H37; clear H37
       refine Jf ?_
       refine Jb ?_
       refine Ja rfl rfl rfl (Jc (v := .int .i64 4) rfl) ?_
       refine Jg ?_
       refine Ju ?_
       obtain rfl := Option.some.inj H38
       refine Qa (v := .int .i64 4) rfl rfl (fin rfl)
      ·have H39 := Jp hb H37; clear H37
       refine Jf ?_
       refine Jb ?_
       refine Ja rfl rfl rfl (Qq rfl rfl) ?_
       refine Ja rfl rfl rfl (Jc (v := .bool (decide (a0 = 5))) rfl) ?_
       refine Jg ?_
       refine Qb (b := (decide (a0 = 5))) rfl (fun hb => ?_) (fun hb => ?_)
       ·have H40 := Jo hb H39; clear H39
        refine Jf ?_
        refine Jb ?_
        refine Ja rfl rfl rfl (Jc (v := .int .i64 8) rfl) ?_
        refine Jg ?_
        refine Ju ?_
        obtain rfl := Option.some.inj H40
        refine Qa (v := .int .i64 8) rfl rfl (fin rfl)
       ·have H41 := Jp hb H39; clear H39
        refine Jt ?_
        refine Jf ?_
        refine Jb ?_
        refine Ja rfl rfl rfl (Jc (v := .int .i64 0) rfl) ?_
        refine Jg ?_
        refine Ju ?_
        obtain rfl := Option.some.inj H41
        refine Qa (v := .int .i64 0) rfl rfl (fin rfl)
     ·have H42 := Jp hb H36; clear H36
      refine Jb ?_
      refine Ja rfl rfl rfl (Qq rfl rfl) ?_
      refine Ja rfl rfl rfl (Jc (v := .bool (decide (a0 = 13))) rfl) ?_
      refine Jg ?_
      refine Qb (b := (decide (a0 = 13))) rfl (fun hb => ?_) (fun hb => ?_)
      ·have H43 := Jo hb H42; clear H42
       refine Jf ?_
       refine Jb ?_
       refine Ja rfl rfl rfl (Jc (v := .int .i64 4) rfl) ?_
       refine Jg ?_
       refine Ju ?_
       obtain rfl := Option.some.inj H43
       refine Qa (v := .int .i64 4) rfl rfl (fin rfl)
      ·have H44 := Jp hb H42; clear H42
       refine Jf ?_
       refine Jb ?_
       refine Ja rfl rfl rfl (Qq rfl rfl) ?_
       refine Ja rfl rfl rfl (Jc (v := .bool (decide (a0 = 5))) rfl) ?_
       refine Jg ?_
       refine Qb (b := (decide (a0 = 5))) rfl (fun hb => ?_) (fun hb => ?_)
       ·have H45 := Jo hb H44; clear H44
        refine Jf ?_
        refine Jb ?_
        refine Ja rfl rfl rfl (Jc (v := .int .i64 8) rfl) ?_
        refine Jg ?_
        refine Ju ?_
        obtain rfl := Option.some.inj H45
        refine Qa (v := .int .i64 8) rfl rfl (fin rfl)
       ·have H46 := Jp hb H44; clear H44
        refine Jt ?_
        refine Jf ?_
        refine Jb ?_
        refine Ja rfl rfl rfl (Jc (v := .int .i64 0) rfl) ?_
        refine Jg ?_
        refine Ju ?_
        obtain rfl := Option.some.inj H46
        refine Qa (v := .int .i64 0) rfl rfl (fin rfl)
theorem k46 {a0 : Int} {r : Int × Int} (H : R_limits a0 = some r) : Ret Try.prog 46 [.int .i64 a0] (.tuple #[.int .i64 r.1, .int .i64 r.2]) := by
 refine Y8 (n := 11) Try.func46 rfl rfl rfl (fun wd => ?_)
 refine Jf ?_
 refine Jb ?_
 refine Ja rfl rfl rfl (Jc (v := .int .i64 0) rfl) ?_
 refine Ja rfl rfl rfl (Jc (v := .int .i64 0) rfl) ?_
 refine Jg ?_
 refine Jf ?_
 refine Jf ?_
 refine Jb ?_
 refine Ja rfl rfl rfl (Jd (v := .int .i64 a0) rfl) ?_
 refine Jg ?_
 refine J0 ?_
 refine Jf ?_
 refine Jb ?_
 refine Ja rfl rfl rfl (Qq rfl rfl) ?_
 refine Ja rfl rfl rfl (Jc (v := .bool (decide (a0 = 1))) rfl) ?_
 refine Jg ?_
 refine Qb (b := (decide (a0 = 1))) rfl (fun hb => ?_) (fun hb => ?_)
 ·have H7 := Jo hb H; clear H
  refine Jf ?_
  refine Jb ?_
  refine Ja rfl rfl rfl (Jc (v := .int .i64 0) rfl) ?_
  refine Ja rfl rfl rfl (Jc (v := .int .i64 255) rfl) ?_
  refine Jg ?_
  refine Ju ?_
  obtain rfl := Option.some.inj H7
  refine ret2 (v1 := .int .i64 0) (v2 := .int .i64 255) rfl rfl rfl (fin rfl)
 ·have H8 := Jp hb H; clear H
  refine Jf ?_
  refine Jb ?_
  refine Ja rfl rfl rfl (Qq rfl rfl) ?_
  refine Ja rfl rfl rfl (Jc (v := .bool (decide (a0 = 3))) rfl) ?_
  refine Jg ?_
  refine Qb (b := (decide (a0 = 3))) rfl (fun hb => ?_) (fun hb => ?_)
  ·have H9 := Jo hb H8; clear H8
   refine Jf ?_
   refine Jb ?_
   refine Ja rfl rfl rfl (Jc (v := .int .i64 0) rfl) ?_
   refine Ja rfl rfl rfl (Jc (v := .int .i64 65535) rfl) ?_
   refine Jg ?_
   refine Ju ?_
   obtain rfl := Option.some.inj H9
   refine ret2 (v1 := .int .i64 0) (v2 := .int .i64 65535) rfl rfl rfl (fin rfl)
  ·have H10 := Jp hb H8; clear H8
   refine Jf ?_
   refine Jb ?_
   refine Ja rfl rfl rfl (Qq rfl rfl) ?_
   refine Ja rfl rfl rfl (Jc (v := .bool (decide (a0 = 9))) rfl) ?_
   refine Jg ?_
   refine Qb (b := (decide (a0 = 9))) rfl (fun hb => ?_) (fun hb => ?_)
   ·have H11 := Jo hb H10; clear H10
    refine Jf ?_
    refine Jb ?_
    refine Ja rfl rfl rfl (Jc (v := .int .i64 (-2147483648)) rfl) ?_
    refine Ja rfl rfl rfl (Jc (v := .int .i64 2147483647) rfl) ?_
    refine Jg ?_
    refine Ju ?_
    obtain rfl := Option.some.inj H11
    refine ret2 (v1 := .int .i64 (-2147483648)) (v2 := .int .i64 2147483647) rfl rfl rfl (fin rfl)
   ·have H12 := Jp hb H10; clear H10
    refine Jt ?_
    refine Jf ?_
    refine Jb ?_
    refine Ja rfl rfl rfl (Jc (v := .int .i64 0) rfl) ?_
    refine Ja rfl rfl rfl (Jc (v := .int .i64 4294967295) rfl) ?_
    refine Jg ?_
    refine Ju ?_
    obtain rfl := Option.some.inj H12
    refine ret2 (v1 := .int .i64 0) (v2 := .int .i64 4294967295) rfl rfl rfl (fin rfl)
theorem ext86 (s : List UInt8) (c r : Int) (h : gIxB s c = some r) (w : World) : (callFunc 86 (List.toArray [str s, .int .u8 c])).run Try.prog w = .ok (.value (.int .i64 r)) w := by
  have h0 : (callFunc 86 #[str s, .int .u8 c]).run Try.prog w = (do pure (.value (← Extern.BytealgIndexByte.indexByte #[str s, .int .u8 c])) : Sem Next).run Try.prog w := by kernel_rfl
  rw [h0]
  simp only [Sem.run_bind, Go.Lx.run_ixB h, Result.andThen_ok, Sem.run_pure]
theorem k71 {a0 : (List UInt8)} {a1 : Int} {r : Int} (H : Yg a0 a1 = some r) : Ret Try.prog 71 [str a0, .int .u8 a1] (.int .i64 r) := by
 refine Y8 (n := 8) Try.func71 rfl rfl rfl (fun wd => ?_)
 refine Jf ?_
 refine Jb ?_
 refine Ja rfl rfl rfl (Jc (v := .int .i64 0) rfl) ?_
 refine Jg ?_
 refine Jf ?_
 refine Jb ?_
 refine Ja rfl rfl rfl (Jd (v := str a0) rfl) ?_
 refine Ja rfl rfl rfl (Jd (v := .int .u8 a1) rfl) ?_
 obtain ⟨t7, h_t7, H2⟩ := Jj H; clear H
 refine Ja rfl rfl rfl (r_ext (args := [str a0, .int .u8 a1]) (ext86 _ _ _ h_t7) rfl) ?_
 refine Ja rfl rfl rfl (Jc (v := .int .i64 t7) rfl) ?_
 refine Jg ?_
 refine Ju ?_
 obtain rfl := Option.some.inj H2
 refine Qa (v := .int .i64 t7) rfl rfl (fin rfl)
theorem k47 {a0 : (List UInt8)} {a1 : Int} {r : Int} (H : Wn a0 a1 = some r) : Ret Try.prog 47 [str a0, .int .u8 a1] (.int .i64 r) := by
 refine Y8 (n := 8) Try.func47 rfl rfl rfl (fun wd => ?_)
 refine Jf ?_
 refine Jb ?_
 refine Ja rfl rfl rfl (Jc (v := .int .i64 0) rfl) ?_
 refine Jg ?_
 refine Jf ?_
 refine Jb ?_
 refine Ja rfl rfl rfl (Jd (v := str a0) rfl) ?_
 refine Ja rfl rfl rfl (Jd (v := .int .u8 a1) rfl) ?_
 obtain ⟨t7, h_t7, H2⟩ := Jj H; clear H
 refine Z7 (k71 h_t7) Try.call71 rfl rfl rfl ?_
 refine Ja rfl rfl rfl (Jc (v := .int .i64 t7) rfl) ?_
 refine Jg ?_
 refine Ju ?_
 obtain rfl := Option.some.inj H2
 refine Qa (v := .int .i64 t7) rfl rfl (fin rfl)
theorem k17 {a0 : T_tag_Value} {v0_2 : Value} {v0_3 : Value} {v0_4 : Value} {r : Int} {w : World} {h : Jy} (hw : Know h w Zc) (f0_2 : FrS h 1 v0_2 (a0.Ints.map J8)) (f0_3 : FrS h 2 v0_3 (a0.Ratios.map Jr)) (f0_4 : FrN h 6 v0_4 g_tag_Entry a0.Entries) (H : Wk a0 = some r) : Does Try.prog 17 (List.toArray [.agg #[.int .i64 a0.Kind, str a0.Text, v0_2, v0_3, v0_4]]) w (fun v w' => v = (.int .i64 r) ∧ Grow w w') := by
 refine enter (n := 139) Try.func17 rfl rfl rfl Zc [] (Sat.nil _ _) ?_
 refine Jf ?_
 refine Jb ?_
 refine Vi (cs := [.int .i64 a0.Kind, str a0.Text, v0_2, v0_3, v0_4]) rfl rfl rfl rfl (fun b2 => ?_)
 refine Ja rfl rfl rfl (Jc (v := .int .i64 0) rfl) ?_
 refine Jg ?_
 refine Qw (r := r) (σ := Bool × Bool) (τ := Unit) (fun s => Q5 a0 s.1 s.2) (fun s t => [(1, .pointer (some ⟨b2, 0, none⟩)), (3, .bool s.1), (4, .bool s.2)]) (fun s t => [Js b2 [.int .i64 a0.Kind, str a0.Text, v0_2, v0_3, v0_4] 29]) (fun s t => True) ?_ ?_
 ·exact Q6 (Kd.p :: Kd.d [0] _ :: Kd.p :: Kd.p :: Kd.p :: Kd.d [0] _ :: Kd.p :: Kd.p :: Kd.p :: Kd.d [0] _ :: Kd.p :: Kd.p :: Kd.p :: Kd.d [0] _ :: Kd.p :: Kd.p :: Kd.p :: Kd.p :: Kd.d [0] _ :: Kd.p :: Kd.p :: Kd.p :: Kd.p :: Kd.d [0] _ :: Kd.p :: Kd.p :: Kd.p :: Kd.p :: []) 0 mixed (by
   refine Jk rfl rfl (Jl Try.runUnderlying29 rfl Try.sizeOf3 rfl rfl) ?_
   refine Xk (i := 0) (v := .int .i64 a0.Kind) Try.isAgg3 rfl rfl rfl rfl ?_
   refine Jk rfl rfl (Qq rfl rfl) ?_
   refine Jk rfl rfl (Jd (v := .bool (decide (a0.Kind = 2))) rfl) ?_
   refine Uc (fun hb => ?_) (fun hb => ?_)
   ·have H141 := Jo hb H
    refine Jx rfl rfl ?_
    refine Jx rfl rfl ?_
    refine Jx rfl rfl ?_
    refine Jk rfl rfl (J5 (v := .bool true) rfl rfl) ?_
    refine Jk rfl rfl (Jl Try.runUnderlying29 rfl Try.sizeOf3 rfl rfl) ?_
    refine Xk (i := 0) (v := .int .i64 a0.Kind) Try.isAgg3 rfl rfl rfl rfl ?_
    refine Jk rfl rfl (Qq rfl rfl) ?_
    refine Jk rfl rfl (Jd (v := .bool (decide (a0.Kind = 1))) rfl) ?_
    refine Uc (fun hb => ?_) (fun hb => ?_)
    ·have H142 := Jo hb H141
     refine Jx rfl rfl ?_
     refine Jx rfl rfl ?_
     refine Jx rfl rfl ?_
     refine Jk rfl rfl (J5 (v := .bool true) rfl rfl) ?_
     refine Jk rfl rfl (Jd (v := .bool true) rfl) ?_
     refine Jx rfl rfl ?_
     refine Jx rfl rfl ?_
     refine Jx rfl rfl ?_
     refine Jk rfl rfl (J5 (v := .bool true) rfl rfl) ?_
     refine Jk rfl rfl (Jd (v := .bool true) rfl) ?_
     refine Jx rfl rfl ?_
     refine Jx rfl rfl ?_
     refine Jx rfl rfl ?_
     refine Jk rfl rfl (J5 (v := .bool true) rfl rfl) ?_
     refine Jk rfl rfl (Jc (v := .bool true) rfl) ?_
     refine Jk rfl rfl (Jc (v := .bool true) rfl) ?_
     refine Yp ?_
     refine Jn (true, true) () 0 [0] (by exact ⟨rfl, rfl, rfl, trivial⟩) (by decide) (by kernel_rfl) (by exact ⟨H142, trivial⟩) (Nat.lt_succ_self _)
    ·have H143 := Jp hb H141
     refine Jk rfl rfl (Jl Try.runUnderlying29 rfl Try.sizeOf3 rfl rfl) ?_
     refine Xk (i := 0) (v := .int .i64 a0.Kind) Try.isAgg3 rfl rfl rfl rfl ?_
     refine Jk rfl rfl (Qq rfl rfl) ?_
     refine Jk rfl rfl (J7 (v := .bool (decide (a0.Kind = 3))) rfl rfl) ?_
     refine Jk rfl rfl (Jd (v := .bool (decide (a0.Kind = 3))) rfl) ?_
     refine Uc (fun hb => ?_) (fun hb => ?_)
     ·have H144 := Jo hb H143
      refine Jx rfl rfl ?_
      refine Jx rfl rfl ?_
      refine Jx rfl rfl ?_
      refine Jk rfl rfl (J5 (v := .bool true) rfl rfl) ?_
      refine Jk rfl rfl (Jd (v := .bool true) rfl) ?_
      refine Jx rfl rfl ?_
      refine Jx rfl rfl ?_
      refine Jx rfl rfl ?_
      refine Jk rfl rfl (J5 (v := .bool true) rfl rfl) ?_
      refine Jk rfl rfl (Jc (v := .bool true) rfl) ?_
      refine Jk rfl rfl (Jc (v := .bool true) rfl) ?_
      refine Yp ?_
      refine Jn (true, true) () 0 [0] (by exact ⟨rfl, rfl, rfl, trivial⟩) (by decide) (by kernel_rfl) (by exact ⟨H144, trivial⟩) (Nat.lt_succ_self _)
     ·have H145 := Jp hb H143
      refine Jk rfl rfl (Jl Try.runUnderlying29 rfl Try.sizeOf3 rfl rfl) ?_
      refine Xk (i := 0) (v := .int .i64 a0.Kind) Try.isAgg3 rfl rfl rfl rfl ?_
      refine Jk rfl rfl (Qq rfl rfl) ?_
      refine Jk rfl rfl (J7 (v := .bool (decide (a0.Kind = 4))) rfl rfl) ?_
      refine Jk rfl rfl (Jd (v := .bool (decide (a0.Kind = 4))) rfl) ?_
      refine Uc (fun hb => ?_) (fun hb => ?_)
      ·have H146 := Jo hb H145
       refine Jx rfl rfl ?_
       refine Jx rfl rfl ?_
       refine Jx rfl rfl ?_
       refine Jk rfl rfl (J5 (v := .bool true) rfl rfl) ?_
       refine Jk rfl rfl (Jc (v := .bool true) rfl) ?_
       refine Jk rfl rfl (Jc (v := .bool true) rfl) ?_
       refine Yp ?_
       refine Jn (true, true) () 0 [0] (by exact ⟨rfl, rfl, rfl, trivial⟩) (by decide) (by kernel_rfl) (by exact ⟨H146, trivial⟩) (Nat.lt_succ_self _)
      ·have H147 := Jp hb H145
       refine Jk rfl rfl (Jl Try.runUnderlying29 rfl Try.sizeOf3 rfl rfl) ?_
       refine Xk (i := 0) (v := .int .i64 a0.Kind) Try.isAgg3 rfl rfl rfl rfl ?_
       refine Jk rfl rfl (Qq rfl rfl) ?_
       refine Jk rfl rfl (J7 (v := .bool (decide (a0.Kind = 9))) rfl rfl) ?_
       refine Jk rfl rfl (Jc (v := .bool true) rfl) ?_
       refine Jk rfl rfl (Jc (v := .bool (decide (a0.Kind = 9))) rfl) ?_
       refine Yp ?_
       refine Jn (true, (decide (a0.Kind = 9))) () 0 [0] (by exact ⟨rfl, rfl, rfl, trivial⟩) (by decide) (by kernel_rfl) (by exact ⟨H147, trivial⟩) (Nat.lt_succ_self _)
   ·have H148 := Jp hb H
    refine Jk rfl rfl (Jl Try.runUnderlying29 rfl Try.sizeOf3 rfl rfl) ?_
    refine Xk (i := 0) (v := .int .i64 a0.Kind) Try.isAgg3 rfl rfl rfl rfl ?_
    refine Jk rfl rfl (Qq rfl rfl) ?_
    refine Jk rfl rfl (J7 (v := .bool (decide (a0.Kind = 7))) rfl rfl) ?_
    refine Jk rfl rfl (Jl Try.runUnderlying29 rfl Try.sizeOf3 rfl rfl) ?_
    refine Xk (i := 0) (v := .int .i64 a0.Kind) Try.isAgg3 rfl rfl rfl rfl ?_
    refine Jk rfl rfl (Qq rfl rfl) ?_
    refine Jk rfl rfl (Jd (v := .bool (decide (a0.Kind = 1))) rfl) ?_
    refine Uc (fun hb => ?_) (fun hb => ?_)
    ·have H149 := Jo hb H148
     refine Jx rfl rfl ?_
     refine Jx rfl rfl ?_
     refine Jx rfl rfl ?_
     refine Jk rfl rfl (J5 (v := .bool true) rfl rfl) ?_
     refine Jk rfl rfl (Jd (v := .bool true) rfl) ?_
     refine Jx rfl rfl ?_
     refine Jx rfl rfl ?_
     refine Jx rfl rfl ?_
     refine Jk rfl rfl (J5 (v := .bool true) rfl rfl) ?_
     refine Jk rfl rfl (Jd (v := .bool true) rfl) ?_
     refine Jx rfl rfl ?_
     refine Jx rfl rfl ?_
     refine Jx rfl rfl ?_
     refine Jk rfl rfl (J5 (v := .bool true) rfl rfl) ?_
     refine Jk rfl rfl (Jc (v := .bool (decide (a0.Kind = 7))) rfl) ?_
     refine Jk rfl rfl (Jc (v := .bool true) rfl) ?_
     refine Yp ?_
     refine Jn ((decide (a0.Kind = 7)), true) () 0 [0] (by exact ⟨rfl, rfl, rfl, trivial⟩) (by decide) (by kernel_rfl) (by exact ⟨H149, trivial⟩) (Nat.lt_succ_self _)
    ·have H150 := Jp hb H148
     refine Jk rfl rfl (Jl Try.runUnderlying29 rfl Try.sizeOf3 rfl rfl) ?_
     refine Xk (i := 0) (v := .int .i64 a0.Kind) Try.isAgg3 rfl rfl rfl rfl ?_
     refine Jk rfl rfl (Qq rfl rfl) ?_
     refine Jk rfl rfl (J7 (v := .bool (decide (a0.Kind = 3))) rfl rfl) ?_
     refine Jk rfl rfl (Jd (v := .bool (decide (a0.Kind = 3))) rfl) ?_
     refine Uc (fun hb => ?_) (fun hb => ?_)
     ·have H151 := Jo hb H150
      refine Jx rfl rfl ?_
      refine Jx rfl rfl ?_
      refine Jx rfl rfl ?_
      refine Jk rfl rfl (J5 (v := .bool true) rfl rfl) ?_
      refine Jk rfl rfl (Jd (v := .bool true) rfl) ?_
      refine Jx rfl rfl ?_
      refine Jx rfl rfl ?_
      refine Jx rfl rfl ?_
      refine Jk rfl rfl (J5 (v := .bool true) rfl rfl) ?_
      refine Jk rfl rfl (Jc (v := .bool (decide (a0.Kind = 7))) rfl) ?_
      refine Jk rfl rfl (Jc (v := .bool true) rfl) ?_
      refine Yp ?_
      refine Jn ((decide (a0.Kind = 7)), true) () 0 [0] (by exact ⟨rfl, rfl, rfl, trivial⟩) (by decide) (by kernel_rfl) (by exact ⟨H151, trivial⟩) (Nat.lt_succ_self _)
     ·have H152 := Jp hb H150
      refine Jk rfl rfl (Jl Try.runUnderlying29 rfl Try.sizeOf3 rfl rfl) ?_
      refine Xk (i := 0) (v := .int .i64 a0.Kind) Try.isAgg3 rfl rfl rfl rfl ?_
      refine Jk rfl rfl (Qq rfl rfl) ?_
      refine Jk rfl rfl (J7 (v := .bool (decide (a0.Kind = 4))) rfl rfl) ?_
      refine Jk rfl rfl (Jd (v := .bool (decide (a0.Kind = 4))) rfl) ?_
      refine Uc (fun hb => ?_) (fun hb => ?_)
      ·have H153 := Jo hb H152
       refine Jx rfl rfl ?_
       refine Jx rfl rfl ?_
       refine Jx rfl rfl ?_
       refine Jk rfl rfl (J5 (v := .bool true) rfl rfl) ?_
       refine Jk rfl rfl (Jc (v := .bool (decide (a0.Kind = 7))) rfl) ?_
       refine Jk rfl rfl (Jc (v := .bool true) rfl) ?_
       refine Yp ?_
       refine Jn ((decide (a0.Kind = 7)), true) () 0 [0] (by exact ⟨rfl, rfl, rfl, trivial⟩) (by decide) (by kernel_rfl) (by exact ⟨H153, trivial⟩) (Nat.lt_succ_self _)
      ·have H154 := Jp hb H152
       refine Jk rfl rfl (Jl Try.runUnderlying29 rfl Try.sizeOf3 rfl rfl) ?_
       refine Xk (i := 0) (v := .int .i64 a0.Kind) Try.isAgg3 rfl rfl rfl rfl ?_
       refine Jk rfl rfl (Qq rfl rfl) ?_
       refine Jk rfl rfl (J7 (v := .bool (decide (a0.Kind = 9))) rfl rfl) ?_
       refine Jk rfl rfl (Jc (v := .bool (decide (a0.Kind = 7))) rfl) ?_
       refine Jk rfl rfl (Jc (v := .bool (decide (a0.Kind = 9))) rfl) ?_
       refine Yp ?_
       refine Jn ((decide (a0.Kind = 7)), (decide (a0.Kind = 9))) () 0 [0] (by exact ⟨rfl, rfl, rfl, trivial⟩) (by decide) (by kernel_rfl) (by exact ⟨H154, trivial⟩) (Nat.lt_succ_self _)
   ) (by kernel_rfl)
 ·rintro ⟨x3, x4⟩ _ gg H78 _
  replace H78 : Q5 a0 x3 x4 = some r := H78
  try dsimp only
  refine Qw (r := r) (σ := Unit) (τ := Unit) (fun s => Q4 a0) (fun s t => [(1, .pointer (some ⟨b2, 0, none⟩))]) (fun s t => [Js b2 [.int .i64 a0.Kind, str a0.Text, v0_2, v0_3, v0_4] 29]) (fun s t => True) ?_ ?_
  ·refine J0 ?_
   refine Jf ?_
   refine Jb ?_
   refine Ja rfl rfl rfl (Jl Try.runUnderlying29 rfl Try.sizeOf3 rfl rfl) ?_
   refine Jq (i := 0) (v := .int .i64 a0.Kind) Try.isAgg3 rfl rfl rfl rfl rfl ?_
   obtain ⟨t40, h_t40, H113⟩ := Jj H78; clear H78
   refine Z7 (k45 h_t40) Try.call45 rfl rfl rfl ?_
   refine Ja rfl rfl rfl (Qq rfl rfl) ?_
   refine Ja rfl rfl rfl (Jc (v := .bool (decide (t40 = 0))) rfl) ?_
   refine Jg ?_
   refine Qb (b := (decide (t40 = 0))) rfl (fun hb => ?_) (fun hb => ?_)
   ·have H114 := Jo hb H113; clear H113
    refine Jf ?_
    refine Jb ?_
    refine Ja rfl rfl rfl (Jc (v := .int .i64 10) rfl) ?_
    refine Jg ?_
    refine Ju ?_
    obtain rfl := Option.some.inj H114
    refine Qa (v := .int .i64 10) rfl rfl (fin rfl)
   ·have H115 := Jp hb H113; clear H113
    refine Jf ?_
    refine Qw (r := r) (σ := Bool) (τ := Unit) (fun s => Zg a0 x4 s) (fun s t => [(1, .pointer (some ⟨b2, 0, none⟩)), (4, .bool x4), (42, .bool s)]) (fun s t => [Js b2 [.int .i64 a0.Kind, str a0.Text, v0_2, v0_3, v0_4] 29]) (fun s t => True) ?_ ?_
    ·refine Jb ?_
     refine Ja rfl rfl rfl (Jl Try.runUnderlying29 rfl Try.sizeOf9 rfl rfl) ?_
     refine Jq (i := 0) (v := str a0.Text) Try.isAgg9 rfl rfl rfl rfl rfl ?_
     refine Ja rfl rfl rfl (r_neqT rfl rfl) ?_
     refine Ja rfl rfl rfl (Jd (v := .bool (decide (a0.Text ≠ []))) rfl) ?_
     refine split (fun hb => ?_) (fun hb => ?_)
     ·have H139 := Jo hb H115; clear H115
      refine Ja rfl rfl rfl (Jd (v := .bool x3) rfl) ?_
      refine Ja rfl rfl rfl (r_not rfl) ?_
      refine Ja rfl rfl rfl (J5 (v := .bool (!x3)) rfl rfl) ?_
      refine Ja rfl rfl rfl (Jc (v := .bool (!x3)) rfl) ?_
      refine Jg ?_
      refine Jn (!x3) () 0 [0] (by exact ⟨rfl, rfl, rfl, trivial⟩) (by decide) (by kernel_rfl) (by exact ⟨H139, trivial⟩) (Nat.lt_succ_self _)
     ·have H140 := Jp hb H115; clear H115
      refine Jh rfl rfl rfl ?_
      refine Jh rfl rfl rfl ?_
      refine Ja rfl rfl rfl (J7 (v := .bool false) rfl rfl) ?_
      refine Ja rfl rfl rfl (Jc (v := .bool false) rfl) ?_
      refine Jg ?_
      refine Jn false () 0 [0] (by exact ⟨rfl, rfl, rfl, trivial⟩) (by decide) (by kernel_rfl) (by exact ⟨H140, trivial⟩) (Nat.lt_succ_self _)
    ·rintro x42 _ gg H116 _
     replace H116 : Zg a0 x4 x42 = some r := H116
     try dsimp only
     refine Qb (b := x42) rfl (fun hb => ?_) (fun hb => ?_)
     ·have H117 := Jo hb H116; clear H116
      refine Jt ?_
      refine Qb (b := x42) rfl (fun hb => ?_) (fun hb => ?_)
      ·have H118 := Jo hb H117; clear H117
       refine Jf ?_
       refine Jb ?_
       refine Ja rfl rfl rfl (Jc (v := .int .i64 1) rfl) ?_
       refine Jg ?_
       refine Ju ?_
       obtain rfl := Option.some.inj H118
       refine Qa (v := .int .i64 1) rfl rfl (fin rfl)
      ·have H119 := Jp hb H117; clear H117
       refine Jt ?_
       refine Jn () () 0 [0] (by exact ⟨rfl, trivial⟩) (by decide) (by kernel_rfl) (by exact ⟨H119, trivial⟩) (Nat.lt_succ_self _)
     ·have H120 := Jp hb H116; clear H116
      refine Qw (r := r) (σ := Bool) (τ := Unit) (fun s => Zf a0 s) (fun s t => [(1, .pointer (some ⟨b2, 0, none⟩)), (42, .bool s)]) (fun s t => [Js b2 [.int .i64 a0.Kind, str a0.Text, v0_2, v0_3, v0_4] 29]) (fun s t => True) ?_ ?_
      ·refine Jb ?_
       refine Ja rfl rfl rfl (Jl Try.runUnderlying29 rfl Try.sizeOf25 rfl rfl) ?_
       refine Jq (i := 0) (v := v0_2) Try.isAgg25 rfl rfl rfl rfl rfl ?_
       refine Ja rfl rfl rfl (Z2 Try.underlying25 rfl f0_2 rfl) ?_
       refine Ja rfl rfl rfl (Z0 rfl rfl) ?_
       refine Ja rfl rfl rfl (Jd (v := .bool (decide (0 < (a0.Ints.length : Int)))) rfl) ?_
       refine split (fun hb => ?_) (fun hb => ?_)
       ·have H137 := Jo hb H120; clear H120
        refine Ja rfl rfl rfl (Jd (v := .bool x4) rfl) ?_
        refine Ja rfl rfl rfl (r_not rfl) ?_
        refine Ja rfl rfl rfl (J5 (v := .bool (!x4)) rfl rfl) ?_
        refine Ja rfl rfl rfl (Jc (v := .bool (!x4)) rfl) ?_
        refine Jg ?_
        refine Jn (!x4) () 0 [0] (by exact ⟨rfl, rfl, trivial⟩) (by decide) (by kernel_rfl) (by exact ⟨H137, trivial⟩) (Nat.lt_succ_self _)
       ·have H138 := Jp hb H120; clear H120
        refine Jh rfl rfl rfl ?_
        refine Jh rfl rfl rfl ?_
        refine Ja rfl rfl rfl (J7 (v := .bool false) rfl rfl) ?_
        refine Ja rfl rfl rfl (Jc (v := .bool false) rfl) ?_
        refine Jg ?_
        refine Jn false () 0 [0] (by exact ⟨rfl, rfl, trivial⟩) (by decide) (by kernel_rfl) (by exact ⟨H138, trivial⟩) (Nat.lt_succ_self _)
      ·rintro x42_2 _ gg H121 _
       replace H121 : Zf a0 x42_2 = some r := H121
       try dsimp only
       refine Qb (b := x42_2) rfl (fun hb => ?_) (fun hb => ?_)
       ·have H122 := Jo hb H121; clear H121
        refine Jt ?_
        refine Qb (b := x42_2) rfl (fun hb => ?_) (fun hb => ?_)
        ·have H123 := Jo hb H122; clear H122
         refine Jf ?_
         refine Jb ?_
         refine Ja rfl rfl rfl (Jc (v := .int .i64 1) rfl) ?_
         refine Jg ?_
         refine Ju ?_
         obtain rfl := Option.some.inj H123
         refine Qa (v := .int .i64 1) rfl rfl (fin rfl)
        ·have H124 := Jp hb H122; clear H122
         refine Jt ?_
         refine Jn () () 0 [0] (by exact ⟨rfl, trivial⟩) (by decide) (by kernel_rfl) (by exact ⟨H124, trivial⟩) (Nat.lt_succ_self _)
       ·have H125 := Jp hb H121; clear H121
        refine Qw (r := r) (σ := Bool) (τ := Unit) (fun s => Y4 a0 s) (fun s t => [(1, .pointer (some ⟨b2, 0, none⟩)), (42, .bool s)]) (fun s t => [Js b2 [.int .i64 a0.Kind, str a0.Text, v0_2, v0_3, v0_4] 29]) (fun s t => True) ?_ ?_
        ·refine Jb ?_
         refine Ja rfl rfl rfl (Jl Try.runUnderlying29 rfl Try.sizeOf26 rfl rfl) ?_
         refine Jq (i := 0) (v := v0_3) Try.isAgg26 rfl rfl rfl rfl rfl ?_
         refine Ja rfl rfl rfl (Z2 Try.underlying26 rfl f0_3 rfl) ?_
         refine Ja rfl rfl rfl (Z0 rfl rfl) ?_
         refine Ja rfl rfl rfl (Jd (v := .bool (decide (0 < (a0.Ratios.length : Int)))) rfl) ?_
         refine split (fun hb => ?_) (fun hb => ?_)
         ·have H135 := Jo hb H125; clear H125
          refine Ja rfl rfl rfl (Jl Try.runUnderlying29 rfl Try.sizeOf3 rfl rfl) ?_
          refine Jq (i := 0) (v := .int .i64 a0.Kind) Try.isAgg3 rfl rfl rfl rfl rfl ?_
          refine Ja rfl rfl rfl (V0 rfl rfl) ?_
          refine Ja rfl rfl rfl (J5 (v := .bool (decide (a0.Kind ≠ 5))) rfl rfl) ?_
          refine Ja rfl rfl rfl (Jc (v := .bool (decide (a0.Kind ≠ 5))) rfl) ?_
          refine Jg ?_
          refine Jn (decide (a0.Kind ≠ 5)) () 0 [0] (by exact ⟨rfl, rfl, trivial⟩) (by decide) (by kernel_rfl) (by exact ⟨H135, trivial⟩) (Nat.lt_succ_self _)
         ·have H136 := Jp hb H125; clear H125
          refine Jh rfl rfl rfl ?_
          refine Jh rfl rfl rfl ?_
          refine Jh rfl rfl rfl ?_
          refine Ja rfl rfl rfl (J7 (v := .bool false) rfl rfl) ?_
          refine Ja rfl rfl rfl (Jc (v := .bool false) rfl) ?_
          refine Jg ?_
          refine Jn false () 0 [0] (by exact ⟨rfl, rfl, trivial⟩) (by decide) (by kernel_rfl) (by exact ⟨H136, trivial⟩) (Nat.lt_succ_self _)
        ·rintro x42_3 _ gg H126 _
         replace H126 : Y4 a0 x42_3 = some r := H126
         try dsimp only
         refine Qb (b := x42_3) rfl (fun hb => ?_) (fun hb => ?_)
         ·have H127 := Jo hb H126; clear H126
          refine Jt ?_
          refine Qb (b := x42_3) rfl (fun hb => ?_) (fun hb => ?_)
          ·have H128 := Jo hb H127; clear H127
           refine Jf ?_
           refine Jb ?_
           refine Ja rfl rfl rfl (Jc (v := .int .i64 1) rfl) ?_
           refine Jg ?_
           refine Ju ?_
           obtain rfl := Option.some.inj H128
           refine Qa (v := .int .i64 1) rfl rfl (fin rfl)
          ·have H129 := Jp hb H127; clear H127
           refine Jt ?_
           refine Jn () () 0 [0] (by exact ⟨rfl, trivial⟩) (by decide) (by kernel_rfl) (by exact ⟨H129, trivial⟩) (Nat.lt_succ_self _)
         ·have H130 := Jp hb H126; clear H126
          refine Jb ?_
          refine Ja rfl rfl rfl (Jl Try.runUnderlying29 rfl Try.sizeOf27 rfl rfl) ?_
          refine Jq (i := 0) (v := v0_4) Try.isAgg27 rfl rfl rfl rfl rfl ?_
          refine Ja rfl rfl rfl (Qu Try.underlying27 rfl f0_4) ?_
          refine Ja rfl rfl rfl (Z0 rfl rfl) ?_
          refine Ja rfl rfl rfl (Jd (v := .bool (decide (0 < (a0.Entries.length : Int)))) rfl) ?_
          refine split (fun hb => ?_) (fun hb => ?_)
          ·have H131 := Jo hb H130; clear H130
           refine Ja rfl rfl rfl (Jl Try.runUnderlying29 rfl Try.sizeOf3 rfl rfl) ?_
           refine Jq (i := 0) (v := .int .i64 a0.Kind) Try.isAgg3 rfl rfl rfl rfl rfl ?_
           refine Ja rfl rfl rfl (V0 rfl rfl) ?_
           refine Ja rfl rfl rfl (J5 (v := .bool (decide (a0.Kind ≠ 13))) rfl rfl) ?_
           refine Ja rfl rfl rfl (Jc (v := .bool (decide (a0.Kind ≠ 13))) rfl) ?_
           refine Jg ?_
           refine Qb (b := (decide (a0.Kind ≠ 13))) rfl (fun hb => ?_) (fun hb => ?_)
           ·have H132 := Jo hb H131; clear H131
            refine Jf ?_
            refine Jb ?_
            refine Ja rfl rfl rfl (Jc (v := .int .i64 1) rfl) ?_
            refine Jg ?_
            refine Ju ?_
            obtain rfl := Option.some.inj H132
            refine Qa (v := .int .i64 1) rfl rfl (fin rfl)
           ·have H133 := Jp hb H131; clear H131
            refine Jt ?_
            refine Jn () () 0 [0] (by exact ⟨rfl, trivial⟩) (by decide) (by kernel_rfl) (by exact ⟨H133, trivial⟩) (Nat.lt_succ_self _)
          ·have H134 := Jp hb H130; clear H130
           refine Jh rfl rfl rfl ?_
           refine Jh rfl rfl rfl ?_
           refine Jh rfl rfl rfl ?_
           refine Ja rfl rfl rfl (J7 (v := .bool false) rfl rfl) ?_
           refine Ja rfl rfl rfl (Jc (v := .bool false) rfl) ?_
           refine Jg ?_
           refine Uj rfl ?_
           refine Jt ?_
           refine Jn () () 0 [0] (by exact ⟨rfl, trivial⟩) (by decide) (by kernel_rfl) (by exact ⟨H134, trivial⟩) (Nat.lt_succ_self _)
  ·rintro _ _ gg H79 _
   replace H79 : Q4 a0 = some r := H79
   try dsimp only
   refine Jf ?_
   refine Jb ?_
   refine Ja rfl rfl rfl (Jl Try.runUnderlying29 rfl Try.sizeOf3 rfl rfl) ?_
   refine Jq (i := 0) (v := .int .i64 a0.Kind) Try.isAgg3 rfl rfl rfl rfl rfl ?_
   obtain ⟨t79, h_t79, H80⟩ := Jj H79; clear H79
   refine Z7 (k46 h_t79) Try.call46 rfl rfl rfl ?_
   refine Ja rfl rfl rfl (Jd (v := .tuple #[.int .i64 t79.1, .int .i64 t79.2]) rfl) ?_
   refine Ja rfl rfl rfl (Yi (v := .int .i64 t79.1) rfl rfl) ?_
   refine Ja rfl rfl rfl (Yi (v := .int .i64 t79.2) rfl rfl) ?_
   refine Ja rfl rfl rfl (Jc (v := .int .i64 t79.1) rfl) ?_
   refine Ja rfl rfl rfl (Jc (v := .int .i64 t79.2) rfl) ?_
   refine Jg ?_
   refine Qw (r := r) (σ := Unit) (τ := Unit) (fun s => Zi a0) (fun s t => [(1, .pointer (some ⟨b2, 0, none⟩))]) (fun s t => [Js b2 [.int .i64 a0.Kind, str a0.Text, v0_2, v0_3, v0_4] 29]) (fun s t => True) ?_ ?_
   ·refine Jf ?_
    refine Jb ?_
    refine Ja rfl rfl rfl (Jl Try.runUnderlying29 rfl Try.sizeOf25 rfl rfl) ?_
    refine Jq (i := 0) (v := v0_2) Try.isAgg25 rfl rfl rfl rfl rfl ?_
    refine Ja rfl rfl rfl (Z2 Try.underlying25 rfl f0_2 rfl) ?_
    refine Ja rfl rfl rfl (Jd (v := .int .i64 0) rfl) ?_
    refine Jg ?_
    refine J0 ?_
    refine Zb (σ := Int) (τ := Unit) (fun next7 s => Xc a0 t79 next7 s) (fun s t => [(1, .pointer (some ⟨b2, 0, none⟩)), (5, .int .i64 t79.1), (6, .int .i64 t79.2), (83, v0_2), (84, .int .i64 (a0.Ints.length : Int)), (85, .int .i64 s)]) (fun s t => [Js b2 [.int .i64 a0.Kind, str a0.Text, v0_2, v0_3, v0_4] 29]) (fun s t => True) 0 () [0] H80 (by exact trivial) (by exact ⟨rfl, rfl, rfl, rfl, rfl, rfl, trivial⟩) (by decide) rfl ?_
    rintro x85_2 _ m7 gg H104 _
    clear H80
    replace H104 : Xc a0 t79 (it (fun next7 s => Xc a0 t79 next7 s) m7) x85_2 = some r := H104
    generalize hn7 : it (fun next7 s => Xc a0 t79 next7 s) m7 = next7 at H104
    try dsimp only
    refine Jf ?_
    refine Jb ?_
    refine Ja rfl rfl rfl (Xy rfl rfl) ?_
    refine Jg ?_
    refine Jf ?_
    refine Qb (b := (decide (x85_2 < (a0.Ints.length : Int)))) rfl (fun hb => ?_) (fun hb => ?_)
    ·have H105 := Jo hb H104; clear H104
     refine Jt ?_
     refine Jf ?_
     refine J0 ?_
     refine Jf ?_
     refine Jb ?_
     obtain ⟨t87, h_t87, H106⟩ := Jj H105; clear H105
     refine Ja rfl rfl rfl (Qe Try.underlying25 Try.sizeOf3 rfl rfl f0_2 h_t87) ?_
     refine Xl (fun w hF hS => Qk (f := J8) (i := x85_2) (sz := 1) (j := 0) (v := .int .i64 t87) Try.isAgg3 rfl rfl (f0_2.row (hw.now hF)) h_t87 rfl) rfl rfl rfl ?_
     refine Ja rfl rfl rfl (Jc (v := .int .i64 t87) rfl) ?_
     refine Jg ?_
     refine Jf ?_
     refine Jb ?_
     refine Ja rfl rfl rfl (Jd (v := .int .i64 t87) rfl) ?_
     refine Ja rfl rfl rfl (Jd (v := .int .i64 t79.1) rfl) ?_
     refine Ja rfl rfl rfl (Xy rfl rfl) ?_
     refine Ja rfl rfl rfl (Jd (v := .bool (decide (t87 < t79.1))) rfl) ?_
     refine split (fun hb => ?_) (fun hb => ?_)
     ·have H107 := Jo hb H106; clear H106
      refine Jh rfl rfl rfl ?_
      refine Jh rfl rfl rfl ?_
      refine Jh rfl rfl rfl ?_
      refine Ja rfl rfl rfl (J5 (v := .bool true) rfl rfl) ?_
      refine Jg ?_
      refine Wz rfl ?_
      refine Jf ?_
      refine Jb ?_
      refine Ja rfl rfl rfl (Jc (v := .int .i64 2) rfl) ?_
      refine Jg ?_
      refine Ju ?_
      obtain rfl := Option.some.inj H107
      refine Qa (v := .int .i64 2) rfl rfl (fin rfl)
     ·have H108 := Jp hb H106; clear H106
      refine Ja rfl rfl rfl (Jd (v := .int .i64 t87) rfl) ?_
      refine Ja rfl rfl rfl (Jd (v := .int .i64 t79.2) rfl) ?_
      refine Ja rfl rfl rfl (Z0 rfl rfl) ?_
      refine Ja rfl rfl rfl (J7 (v := .bool (decide (t79.2 < t87))) rfl rfl) ?_
      refine Jg ?_
      refine Qb (b := (decide (t79.2 < t87))) rfl (fun hb => ?_) (fun hb => ?_)
      ·have H109 := Jo hb H108; clear H108
       refine Jf ?_
       refine Jb ?_
       refine Ja rfl rfl rfl (Jc (v := .int .i64 2) rfl) ?_
       refine Jg ?_
       refine Ju ?_
       obtain rfl := Option.some.inj H109
       refine Qa (v := .int .i64 2) rfl rfl (fin rfl)
      ·have H110 := Jp hb H108; clear H108
       refine Jt ?_
       refine Jb ?_
       obtain ⟨t97, h_t97, H111⟩ := Jj H110; clear H110
       refine Ja rfl rfl rfl (Qn rfl rfl h_t97) ?_
       refine Ja rfl rfl rfl (Jd (v := .int .i64 t97) rfl) ?_
       refine Jg ?_
       refine Jn t97 () m7 [0] (by exact ⟨rfl, rfl, rfl, rfl, rfl, rfl, trivial⟩) (by decide) (by kernel_rfl) (by exact ⟨(by subst hn7; exact H111), trivial⟩) (Nat.lt_succ_self _)
    ·have H112 := Jp hb H104; clear H104
     refine Xq ?_
     refine Jn () () 0 [0] (by exact ⟨rfl, trivial⟩) (by decide) (by kernel_rfl) (by exact ⟨H112, trivial⟩) (Nat.lt_succ_self _)
   ·rintro _ _ gg H81 _
    replace H81 : Zi a0 = some r := H81
    try dsimp only
    refine Qw (r := r) (σ := Unit) (τ := Unit) (fun s => Zj a0) (fun s t => [(1, .pointer (some ⟨b2, 0, none⟩))]) (fun s t => [Js b2 [.int .i64 a0.Kind, str a0.Text, v0_2, v0_3, v0_4] 29]) (fun s t => True) ?_ ?_
    ·refine Jf ?_
     refine Jb ?_
     refine Ja rfl rfl rfl (Jl Try.runUnderlying29 rfl Try.sizeOf26 rfl rfl) ?_
     refine Jq (i := 0) (v := v0_3) Try.isAgg26 rfl rfl rfl rfl rfl ?_
     refine Ja rfl rfl rfl (Z2 Try.underlying26 rfl f0_3 rfl) ?_
     refine Ja rfl rfl rfl (Jd (v := .int .i64 0) rfl) ?_
     refine Jg ?_
     refine J0 ?_
     refine Zb (σ := Int) (τ := Unit) (fun next6 s => Xd a0 next6 s) (fun s t => [(1, .pointer (some ⟨b2, 0, none⟩)), (99, v0_3), (100, .int .i64 (a0.Ratios.length : Int)), (101, .int .i64 s)]) (fun s t => [Js b2 [.int .i64 a0.Kind, str a0.Text, v0_2, v0_3, v0_4] 29]) (fun s t => True) 0 () [0] H81 (by exact trivial) (by exact ⟨rfl, rfl, rfl, rfl, trivial⟩) (by decide) rfl ?_
     rintro x101_2 _ m6 gg H91 _
     clear H81
     replace H91 : Xd a0 (it (fun next6 s => Xd a0 next6 s) m6) x101_2 = some r := H91
     generalize hn6 : it (fun next6 s => Xd a0 next6 s) m6 = next6 at H91
     try dsimp only
     refine Jf ?_
     refine Jb ?_
     refine Ja rfl rfl rfl (Xy rfl rfl) ?_
     refine Jg ?_
     refine Jf ?_
     refine Qb (b := (decide (x101_2 < (a0.Ratios.length : Int)))) rfl (fun hb => ?_) (fun hb => ?_)
     ·have H92 := Jo hb H91; clear H91
      refine Jt ?_
      refine Jf ?_
      refine J0 ?_
      refine Jf ?_
      refine Jb ?_
      obtain ⟨t103, h_t103, H93⟩ := Jj H92; clear H92
      refine Ja rfl rfl rfl (Qe Try.underlying26 Try.sizeOf77 rfl rfl f0_3 h_t103) ?_
      refine Xl (fun w hF hS => Xb (f := Jr) (i := x101_2) (sz := 2) (j := 0) (vs := [.int .i64 t103.Num, .int .i64 t103.Den]) Try.isAgg77 Try.sizeOf77 rfl rfl (f0_3.row (hw.now hF)) h_t103 rfl) rfl rfl rfl ?_
      refine Vx (cs := [.int .i64 0, .int .i64 0]) Try.zeroValue77 rfl rfl rfl (fun b3 => ?_)
      refine Zn (i := 1) (vs := [.int .i64 t103.Num, .int .i64 t103.Den]) (cs' := [.int .i64 t103.Num, .int .i64 t103.Den]) Try.sizeOf77 rfl rfl rfl rfl rfl rfl rfl rfl rfl ?_
      refine Jg ?_
      refine Jf ?_
      refine Jb ?_
      refine Ja rfl rfl rfl (Jl Try.runUnderlying77 rfl Try.sizeOf3 rfl rfl) ?_
      refine Jq (i := 1) (v := .int .i64 t103.Num) Try.isAgg3 rfl rfl rfl rfl rfl ?_
      refine Ja rfl rfl rfl (Xy rfl rfl) ?_
      refine Ja rfl rfl rfl (Jd (v := .bool (decide (t103.Num < 0))) rfl) ?_
      refine split (fun hb => ?_) (fun hb => ?_)
      ·have H94 := Jo hb H93; clear H93
       refine Jh rfl rfl rfl ?_
       refine Jh rfl rfl rfl ?_
       refine Jh rfl rfl rfl ?_
       refine Ja rfl rfl rfl (J5 (v := .bool true) rfl rfl) ?_
       refine Ja rfl rfl rfl (Jd (v := .bool true) rfl) ?_
       refine Jh rfl rfl rfl ?_
       refine Jh rfl rfl rfl ?_
       refine Jh rfl rfl rfl ?_
       refine Ja rfl rfl rfl (J5 (v := .bool true) rfl rfl) ?_
       refine Ja rfl rfl rfl (Jd (v := .bool true) rfl) ?_
       refine Jh rfl rfl rfl ?_
       refine Jh rfl rfl rfl ?_
       refine Jh rfl rfl rfl ?_
       refine Ja rfl rfl rfl (J5 (v := .bool true) rfl rfl) ?_
       refine Jg ?_
       refine Wz rfl ?_
       refine Jf ?_
       refine Jb ?_
       refine Ja rfl rfl rfl (Jc (v := .int .i64 2) rfl) ?_
       refine Jg ?_
       refine Ju ?_
       obtain rfl := Option.some.inj H94
       refine Qa (v := .int .i64 2) rfl rfl (fin rfl)
      ·have H95 := Jp hb H93; clear H93
       refine Ja rfl rfl rfl (Jl Try.runUnderlying77 rfl Try.sizeOf3 rfl rfl) ?_
       refine Jq (i := 1) (v := .int .i64 t103.Num) Try.isAgg3 rfl rfl rfl rfl rfl ?_
       refine Ja rfl rfl rfl (Z0 rfl rfl) ?_
       refine Ja rfl rfl rfl (J7 (v := .bool (decide (4294967295 < t103.Num))) rfl rfl) ?_
       refine Ja rfl rfl rfl (Jd (v := .bool (decide (4294967295 < t103.Num))) rfl) ?_
       refine split (fun hb => ?_) (fun hb => ?_)
       ·have H96 := Jo hb H95; clear H95
        refine Jh rfl rfl rfl ?_
        refine Jh rfl rfl rfl ?_
        refine Jh rfl rfl rfl ?_
        refine Ja rfl rfl rfl (J5 (v := .bool true) rfl rfl) ?_
        refine Ja rfl rfl rfl (Jd (v := .bool true) rfl) ?_
        refine Jh rfl rfl rfl ?_
        refine Jh rfl rfl rfl ?_
        refine Jh rfl rfl rfl ?_
        refine Ja rfl rfl rfl (J5 (v := .bool true) rfl rfl) ?_
        refine Jg ?_
        refine Wz rfl ?_
        refine Jf ?_
        refine Jb ?_
        refine Ja rfl rfl rfl (Jc (v := .int .i64 2) rfl) ?_
        refine Jg ?_
        refine Ju ?_
        obtain rfl := Option.some.inj H96
        refine Qa (v := .int .i64 2) rfl rfl (fin rfl)
       ·have H97 := Jp hb H95; clear H95
        refine Ja rfl rfl rfl (Jl Try.runUnderlying77 rfl Try.sizeOf3 rfl rfl) ?_
        refine Jq (i := 1) (v := .int .i64 t103.Den) Try.isAgg3 rfl rfl rfl rfl rfl ?_
        refine Ja rfl rfl rfl (Xy rfl rfl) ?_
        refine Ja rfl rfl rfl (J7 (v := .bool (decide (t103.Den < 0))) rfl rfl) ?_
        refine Ja rfl rfl rfl (Jd (v := .bool (decide (t103.Den < 0))) rfl) ?_
        refine split (fun hb => ?_) (fun hb => ?_)
        ·have H98 := Jo hb H97; clear H97
         refine Jh rfl rfl rfl ?_
         refine Jh rfl rfl rfl ?_
         refine Jh rfl rfl rfl ?_
         refine Ja rfl rfl rfl (J5 (v := .bool true) rfl rfl) ?_
         refine Jg ?_
         refine Wz rfl ?_
         refine Jf ?_
         refine Jb ?_
         refine Ja rfl rfl rfl (Jc (v := .int .i64 2) rfl) ?_
         refine Jg ?_
         refine Ju ?_
         obtain rfl := Option.some.inj H98
         refine Qa (v := .int .i64 2) rfl rfl (fin rfl)
        ·have H99 := Jp hb H97; clear H97
         refine Ja rfl rfl rfl (Jl Try.runUnderlying77 rfl Try.sizeOf3 rfl rfl) ?_
         refine Jq (i := 1) (v := .int .i64 t103.Den) Try.isAgg3 rfl rfl rfl rfl rfl ?_
         refine Ja rfl rfl rfl (Z0 rfl rfl) ?_
         refine Ja rfl rfl rfl (J7 (v := .bool (decide (4294967295 < t103.Den))) rfl rfl) ?_
         refine Jg ?_
         refine Qb (b := (decide (4294967295 < t103.Den))) rfl (fun hb => ?_) (fun hb => ?_)
         ·have H100 := Jo hb H99; clear H99
          refine Jf ?_
          refine Jb ?_
          refine Ja rfl rfl rfl (Jc (v := .int .i64 2) rfl) ?_
          refine Jg ?_
          refine Ju ?_
          obtain rfl := Option.some.inj H100
          refine Qa (v := .int .i64 2) rfl rfl (fin rfl)
         ·have H101 := Jp hb H99; clear H99
          refine Jt ?_
          refine Jb ?_
          obtain ⟨t123, h_t123, H102⟩ := Jj H101; clear H101
          refine Ja rfl rfl rfl (Qn rfl rfl h_t123) ?_
          refine Ja rfl rfl rfl (Jd (v := .int .i64 t123) rfl) ?_
          refine Jg ?_
          refine Jn t123 () m6 [0] (by exact ⟨rfl, rfl, rfl, rfl, trivial⟩) (by decide) (by kernel_rfl) (by exact ⟨(by subst hn6; exact H102), trivial⟩) (Nat.lt_succ_self _)
     ·have H103 := Jp hb H91; clear H91
      refine Xq ?_
      refine Jn () () 0 [0] (by exact ⟨rfl, trivial⟩) (by decide) (by kernel_rfl) (by exact ⟨H103, trivial⟩) (Nat.lt_succ_self _)
    ·rintro _ _ gg H82 _
     replace H82 : Zj a0 = some r := H82
     try dsimp only
     refine Qw (r := r) (σ := Unit) (τ := Unit) (fun s => Vk a0) (fun s t => [(1, .pointer (some ⟨b2, 0, none⟩))]) (fun s t => [Js b2 [.int .i64 a0.Kind, str a0.Text, v0_2, v0_3, v0_4] 29]) (fun s t => True) ?_ ?_
     ·refine Jf ?_
      refine Jb ?_
      refine Ja rfl rfl rfl (Jl Try.runUnderlying29 rfl Try.sizeOf3 rfl rfl) ?_
      refine Jq (i := 0) (v := .int .i64 a0.Kind) Try.isAgg3 rfl rfl rfl rfl rfl ?_
      refine Ja rfl rfl rfl (Qq rfl rfl) ?_
      refine Ja rfl rfl rfl (Jd (v := .bool (decide (a0.Kind = 2))) rfl) ?_
      refine split (fun hb => ?_) (fun hb => ?_)
      ·have H86 := Jo hb H82; clear H82
       refine Ja rfl rfl rfl (Jl Try.runUnderlying29 rfl Try.sizeOf9 rfl rfl) ?_
       refine Jq (i := 0) (v := str a0.Text) Try.isAgg9 rfl rfl rfl rfl rfl ?_
       obtain ⟨t130, h_t130, H87⟩ := Jj H86; clear H86
       refine Z7 (k47 h_t130) Try.call47 rfl rfl rfl ?_
       refine Ja rfl rfl rfl (r_geq rfl rfl) ?_
       refine Ja rfl rfl rfl (J5 (v := .bool (decide (0 ≤ t130))) rfl rfl) ?_
       refine Jg ?_
       refine Qb (b := (decide (0 ≤ t130))) rfl (fun hb => ?_) (fun hb => ?_)
       ·have H88 := Jo hb H87; clear H87
        refine Jf ?_
        refine Jb ?_
        refine Ja rfl rfl rfl (Jc (v := .int .i64 9) rfl) ?_
        refine Jg ?_
        refine Ju ?_
        obtain rfl := Option.some.inj H88
        refine Qa (v := .int .i64 9) rfl rfl (fin rfl)
       ·have H89 := Jp hb H87; clear H87
        refine Jt ?_
        refine Jn () () 0 [0] (by exact ⟨rfl, trivial⟩) (by decide) (by kernel_rfl) (by exact ⟨H89, trivial⟩) (Nat.lt_succ_self _)
      ·have H90 := Jp hb H82; clear H82
       refine Jh rfl rfl rfl ?_
       refine Jh rfl rfl rfl ?_
       refine Jh rfl rfl rfl ?_
       refine Jh rfl rfl rfl ?_
       refine Ja rfl rfl rfl (J7 (v := .bool false) rfl rfl) ?_
       refine Jg ?_
       refine Uj rfl ?_
       refine Jt ?_
       refine Jn () () 0 [0] (by exact ⟨rfl, trivial⟩) (by decide) (by kernel_rfl) (by exact ⟨H90, trivial⟩) (Nat.lt_succ_self _)
     ·rintro _ _ gg H83 _
      replace H83 : Vk a0 = some r := H83
      try dsimp only
      refine Jf ?_
      refine Jf ?_
      refine Jb ?_
      refine Ja rfl rfl rfl (Jl Try.runUnderlying29 rfl Try.sizeOf3 rfl rfl) ?_
      refine Jq (i := 0) (v := .int .i64 a0.Kind) Try.isAgg3 rfl rfl rfl rfl rfl ?_
      refine Ja rfl rfl rfl (Qq rfl rfl) ?_
      refine Jg ?_
      refine Qb (b := (decide (a0.Kind = 13))) rfl (fun hb => ?_) (fun hb => ?_)
      ·have H84 := Jo hb H83; clear H83
       exact absurd (show (none : Option (Int)) = some r from H84) (fun h => by cases h)
      ·have H85 := Jp hb H83; clear H83
       refine Jt ?_
       refine Jf ?_
       refine Jb ?_
       refine Ja rfl rfl rfl (Jc (v := .int .i64 0) rfl) ?_
       refine Jg ?_
       refine Ju ?_
       obtain rfl := Option.some.inj H85
       refine Qa (v := .int .i64 0) rfl rfl (fin rfl)
theorem k20_it (mm : Nat) : ∀ {a0 : (List T_tag_Entry)} {v0 : Value} {a1 : Int} {r : Int} {w : World} {h : Jy} (hw : Know h w Zc) (f0 : FrN h 6 v0 g_tag_Entry a0) (H : it (fun (self : ((List T_tag_Entry) × Int) → Option (Int)) (s : (List T_tag_Entry) × Int) => Yc self s.1 s.2) mm (a0, a1) = some r), Does Try.prog 20 (List.toArray [v0, .int .i64 a1]) w (fun v w' => v = (.int .i64 r) ∧ Grow w w') := by
 induction mm with
 | zero => intros; rename_i H; exact absurd H (by simp [it])
 | succ mm ih =>
  intro a0 v0 a1 r w h hw f0 H
  replace H : Yc (it (fun (self : ((List T_tag_Entry) × Int) → Option (Int)) (s : (List T_tag_Entry) × Int) => Yc self s.1 s.2) mm) a0 a1 = some r := H
  generalize it (fun (self : ((List T_tag_Entry) × Int) → Option (Int)) (s : (List T_tag_Entry) × Int) => Yc self s.1 s.2) mm = self at H ih
  refine enter (n := 79) Try.func20 rfl rfl rfl Zc [] (Sat.nil _ _) ?_
  refine Jf ?_
  refine Jb ?_
  refine Ja rfl rfl rfl (Jc (v := .int .i64 0) rfl) ?_
  refine Jg ?_
  refine Jf ?_
  refine Jf ?_
  refine Jb ?_
  refine Ja rfl rfl rfl (Jd (v := .int .i64 a1) rfl) ?_
  refine Ja rfl rfl rfl (Z0 rfl rfl) ?_
  refine Ja rfl rfl rfl (Jd (v := .bool (decide (5 < a1))) rfl) ?_
  refine split (fun hb => ?_) (fun hb => ?_)
  ·have H37 := Jo hb H; clear H
   refine Jh rfl rfl rfl ?_
   refine Jh rfl rfl rfl ?_
   refine Jh rfl rfl rfl ?_
   refine Ja rfl rfl rfl (J5 (v := .bool true) rfl rfl) ?_
   refine Jg ?_
   refine Wz rfl ?_
   refine Jf ?_
   refine Jb ?_
   refine Ja rfl rfl rfl (Jc (v := .int .i64 4) rfl) ?_
   refine Jg ?_
   refine Ju ?_
   obtain rfl := Option.some.inj H37
   refine Qa (v := .int .i64 4) rfl rfl (fin rfl)
  ·have H38 := Jp hb H; clear H
   refine Ja rfl rfl rfl (Jd (v := v0) rfl) ?_
   refine Ja rfl rfl rfl (Qu Try.underlying27 rfl f0) ?_
   refine Ja rfl rfl rfl (Z0 rfl rfl) ?_
   refine Ja rfl rfl rfl (J7 (v := .bool (decide (200 < (a0.length : Int)))) rfl rfl) ?_
   refine Jg ?_
   refine Qb (b := (decide (200 < (a0.length : Int)))) rfl (fun hb => ?_) (fun hb => ?_)
   ·have H39 := Jo hb H38; clear H38
    refine Jf ?_
    refine Jb ?_
    refine Ja rfl rfl rfl (Jc (v := .int .i64 4) rfl) ?_
    refine Jg ?_
    refine Ju ?_
    obtain rfl := Option.some.inj H39
    refine Qa (v := .int .i64 4) rfl rfl (fin rfl)
   ·have H40 := Jp hb H38; clear H38
    refine Jt ?_
    refine Jf ?_
    refine Jf ?_
    refine Jb ?_
    refine Ja rfl rfl rfl (Jd (v := v0) rfl) ?_
    refine Ja rfl rfl rfl (Qu Try.underlying27 rfl f0) ?_
    refine Ja rfl rfl rfl (Jd (v := .int .i64 0) rfl) ?_
    refine Jg ?_
    refine J0 ?_
    refine Zb (σ := Int) (τ := Unit) (fun next1 s => Zt a0 a1 self next1 s) (fun s t => [(0, v0), (1, .int .i64 a1), (17, v0), (18, .int .i64 (a0.length : Int)), (19, .int .i64 s)]) (fun s t => []) (fun s t => True) 0 () [] H40 (by exact trivial) (by exact ⟨rfl, rfl, rfl, rfl, rfl, trivial⟩) (by decide) rfl ?_
    rintro x19_2 _ m1 gg H41 _
    clear H40
    replace H41 : Zt a0 a1 self (it (fun next1 s => Zt a0 a1 self next1 s) m1) x19_2 = some r := H41
    generalize hn1 : it (fun next1 s => Zt a0 a1 self next1 s) m1 = next1 at H41
    try dsimp only
    refine Jf ?_
    refine Jb ?_
    refine Ja rfl rfl rfl (Xy rfl rfl) ?_
    refine Jg ?_
    refine Jf ?_
    refine Qb (b := (decide (x19_2 < (a0.length : Int)))) rfl (fun hb => ?_) (fun hb => ?_)
    ·have H42 := Jo hb H41; clear H41
     refine Jt ?_
     refine Qw (r := r) (σ := Int × Bool × Int × Int × (List UInt8) × (List Int) × (List T_tag_Ratio) × (List T_tag_Entry)) (τ := Value × Value × Value × Nat) (fun s => Vl x19_2 next1 s.1 s.2.1 s.2.2.1 s.2.2.2.1 s.2.2.2.2.1 s.2.2.2.2.2.1 s.2.2.2.2.2.2.1 s.2.2.2.2.2.2.2) (fun s t => [(0, v0), (1, .int .i64 a1), (17, v0), (18, .int .i64 (a0.length : Int)), (19, .int .i64 x19_2), (28, .pointer (some ⟨t.2.2.2, 0, none⟩)), (29, .int .i64 s.1), (30, .bool s.2.1)]) (fun s t => [Js t.2.2.2 [.int .i64 s.2.2.1, .int .i64 s.2.2.2.1, str s.2.2.2.2.1, t.1, t.2.1, t.2.2.1] 70]) (fun s t => FrS h 1 t.1 (s.2.2.2.2.2.1.map J8) ∧ FrS h 2 t.2.1 (s.2.2.2.2.2.2.1.map Jr) ∧ FrN h 6 t.2.2.1 g_tag_Entry s.2.2.2.2.2.2.2) ?_ ?_
     ·refine J0 ?_
      refine Jf ?_
      refine Jb ?_
      refine Ja rfl rfl rfl (Jd (v := .int .i64 x19_2) rfl) ?_
      obtain ⟨t22, h_t22, H45⟩ := Jj H42; clear H42
      refine Ja rfl rfl rfl (Qe Try.underlying27 Try.sizeOf70 rfl rfl f0.frs (f0.ix h_t22)) ?_
      refine Xl (fun w hF hS => Xb (f := (V2 h v0 6)) (i := x19_2) (sz := 6) (j := 0) (vs := [.int .i64 t22.Tag, .int .i64 t22.Value.Kind, str t22.Value.Text, (J6 h v0 6 (Int.toNat x19_2) 3), (J6 h v0 6 (Int.toNat x19_2) 4), (J6 h v0 6 (Int.toNat x19_2) 5)]) Try.isAgg70 Try.sizeOf70 rfl rfl (f0.frs.row (hw.now hF)) (f0.ix h_t22) (rd_of (Qh (f0.at h_t22)) rfl)) rfl rfl rfl ?_
      refine Vx (cs := [.int .i64 0, .int .i64 0, str [], .slice none 0 0, .slice none 0 0, .slice none 0 0]) Try.zeroValue70 rfl rfl rfl (fun b2 => ?_)
      refine Ja rfl rfl rfl (Jc (v := .int .i64 x19_2) rfl) ?_
      refine Zn (i := 0) (vs := [.int .i64 t22.Tag, .int .i64 t22.Value.Kind, str t22.Value.Text, (J6 h v0 6 (Int.toNat x19_2) 3), (J6 h v0 6 (Int.toNat x19_2) 4), (J6 h v0 6 (Int.toNat x19_2) 5)]) (cs' := [.int .i64 t22.Tag, .int .i64 t22.Value.Kind, str t22.Value.Text, (J6 h v0 6 (Int.toNat x19_2) 3), (J6 h v0 6 (Int.toNat x19_2) 4), (J6 h v0 6 (Int.toNat x19_2) 5)]) Try.sizeOf70 rfl rfl rfl rfl rfl rfl (by simp only [List.all_cons, List.all_nil, (show FrN h 6 (J6 h v0 6 (Int.toNat x19_2) 5) g_tag_Entry t22.Value.Entries from (Jv (Ji (f0.at h_t22)))).one, (show FrS h 1 (J6 h v0 6 (Int.toNat x19_2) 3) (t22.Value.Ints.map J8) from (J1 (Ji (f0.at h_t22)))).one, (show FrS h 2 (J6 h v0 6 (Int.toNat x19_2) 4) (t22.Value.Ratios.map Jr) from (J2 (Ji (f0.at h_t22)))).one] <;> rfl) rfl rfl ?_
      refine Jg ?_
      refine Jf ?_
      refine Jf ?_
      refine Jb ?_
      refine Ja rfl rfl rfl (Jl Try.runUnderlying70 rfl Try.sizeOf3 rfl rfl) ?_
      refine Jq (i := 0) (v := .int .i64 t22.Tag) Try.isAgg3 rfl rfl rfl rfl rfl ?_
      refine Ja rfl rfl rfl (Xy rfl rfl) ?_
      refine Ja rfl rfl rfl (Jd (v := .bool (decide (t22.Tag < 0))) rfl) ?_
      refine split (fun hb => ?_) (fun hb => ?_)
      ·have H46 := Jo hb H45; clear H45
       refine Jh rfl rfl rfl ?_
       refine Jh rfl rfl rfl ?_
       refine Jh rfl rfl rfl ?_
       refine Ja rfl rfl rfl (J5 (v := .bool true) rfl rfl) ?_
       refine Jg ?_
       refine Wz rfl ?_
       refine Jf ?_
       refine Jb ?_
       refine Ja rfl rfl rfl (Jc (v := .int .i64 2) rfl) ?_
       refine Jg ?_
       refine Ju ?_
       obtain rfl := Option.some.inj H46
       refine Qa (v := .int .i64 2) rfl rfl (fin rfl)
      ·have H47 := Jp hb H45; clear H45
       refine Ja rfl rfl rfl (Jl Try.runUnderlying70 rfl Try.sizeOf3 rfl rfl) ?_
       refine Jq (i := 0) (v := .int .i64 t22.Tag) Try.isAgg3 rfl rfl rfl rfl rfl ?_
       refine Ja rfl rfl rfl (Z0 rfl rfl) ?_
       refine Ja rfl rfl rfl (J7 (v := .bool (decide (65535 < t22.Tag))) rfl rfl) ?_
       refine Jg ?_
       refine Qb (b := (decide (65535 < t22.Tag))) rfl (fun hb => ?_) (fun hb => ?_)
       ·have H48 := Jo hb H47; clear H47
        refine Jf ?_
        refine Jb ?_
        refine Ja rfl rfl rfl (Jc (v := .int .i64 2) rfl) ?_
        refine Jg ?_
        refine Ju ?_
        obtain rfl := Option.some.inj H48
        refine Qa (v := .int .i64 2) rfl rfl (fin rfl)
       ·have H49 := Jp hb H47; clear H47
        refine Jt ?_
        refine Qw (r := r) (σ := Unit) (τ := Unit) (fun s => V7 a1 self x19_2 next1 t22) (fun s t => [(0, v0), (1, .int .i64 a1), (6, .pointer (some ⟨b2, 0, none⟩)), (17, v0), (18, .int .i64 (a0.length : Int)), (19, .int .i64 x19_2), (28, .pointer (some ⟨b2, 0, none⟩)), (29, .int .i64 t22.Tag), (30, .bool (decide (65535 < t22.Tag)))]) (fun s t => [Js b2 [.int .i64 t22.Tag, .int .i64 t22.Value.Kind, str t22.Value.Text, (J6 h v0 6 (Int.toNat x19_2) 3), (J6 h v0 6 (Int.toNat x19_2) 4), (J6 h v0 6 (Int.toNat x19_2) 5)] 70]) (fun s t => True) ?_ ?_
        ·refine Jf ?_
         exact Q6 (Kd.p :: Kd.p :: Kd.p :: Kd.p :: Kd.d [0] _ :: Kd.p :: Kd.p :: Kd.p :: Kd.p :: Kd.p :: Kd.d [] _ :: Kd.p :: Kd.p :: []) 0 mixed (by
          refine Jk rfl rfl (Jd (v := .int .i64 x19_2) rfl) ?_
          refine Jk rfl rfl (Z0 rfl rfl) ?_
          refine Jk rfl rfl (Jd (v := .bool (decide (0 < x19_2))) rfl) ?_
          refine Uc (fun hb => ?_) (fun hb => ?_)
          ·have H66 := Jo hb H49
           refine Jk rfl rfl (Jl Try.runUnderlying70 rfl Try.sizeOf3 rfl rfl) ?_
           refine Xk (i := 0) (v := .int .i64 t22.Tag) Try.isAgg3 rfl rfl rfl rfl ?_
           refine Jk rfl rfl (Jd (v := v0) rfl) ?_
           refine Jk rfl rfl (Jd (v := .int .i64 x19_2) rfl) ?_
           have h_t39 := J4 H66
           have H67 := Jw H66
           refine Jk rfl rfl (r_subG rfl rfl h_t39) ?_
           have h_t40 := J4 H67
           have H68 := Jw H67
           refine Jk rfl rfl (Qe Try.underlying27 Try.sizeOf70 rfl rfl f0.frs (f0.ix h_t40)) ?_
           refine Jk rfl rfl (Xz Try.runUnderlying70 rfl Try.sizeOf3 rfl rfl (Q2 f0.frs (f0.ix h_t40))) ?_
           refine Zp (fun w hF => Qk (f := (V2 h v0 6)) (i := (val (gI (x19_2 - 1)))) (sz := 6) (j := 0) (v := .int .i64 (val (Qj a0 (val (gI (x19_2 - 1))))).Tag) Try.isAgg3 rfl rfl (f0.frs.row (hw.now hF)) (f0.ix h_t40) (Vj (Qh (f0.at h_t40)) rfl)) rfl rfl ?_
           refine Jk rfl rfl (r_leq rfl rfl) ?_
           refine Jk rfl rfl (J5 (v := .bool (decide (t22.Tag ≤ (val (Qj a0 (val (gI (x19_2 - 1))))).Tag))) rfl rfl) ?_
           refine Yp ?_
           refine Qb (b := (decide (t22.Tag ≤ (val (Qj a0 (val (gI (x19_2 - 1))))).Tag))) rfl (fun hb => ?_) (fun hb => ?_)
           ·have H69 := Jo hb H68; clear H68
            refine Jf ?_
            refine Jb ?_
            refine Ja rfl rfl rfl (Jc (v := .int .i64 5) rfl) ?_
            refine Jg ?_
            refine Ju ?_
            obtain rfl := Option.some.inj H69
            refine Qa (v := .int .i64 5) rfl rfl (fin rfl)
           ·have H70 := Jp hb H68; clear H68
            refine Jt ?_
            refine Jn () () 0 [0] (by exact ⟨rfl, rfl, rfl, rfl, rfl, rfl, rfl, rfl, rfl, trivial⟩) (by decide) (by kernel_rfl) (by exact ⟨H70, trivial⟩) (Nat.lt_succ_self _)
          ·have H71 := Jp hb H49
           refine Jx rfl rfl ?_
           refine Jx rfl rfl ?_
           refine Jx rfl rfl ?_
           refine Jx rfl rfl ?_
           refine Jx rfl rfl ?_
           refine Jx rfl rfl ?_
           refine Jx rfl rfl ?_
           refine Jx rfl rfl ?_
           refine Jx rfl rfl ?_
           refine Jk rfl rfl (J7 (v := .bool false) rfl rfl) ?_
           refine Yp ?_
           refine Uj rfl ?_
           refine Jt ?_
           refine Jn () () 0 [0] (by exact ⟨rfl, rfl, rfl, rfl, rfl, rfl, rfl, rfl, rfl, trivial⟩) (by decide) (by kernel_rfl) (by exact ⟨H71, trivial⟩) (Nat.lt_succ_self _)
          ) (by kernel_rfl)
        ·rintro _ _ gg H50 _
         replace H50 : V7 a1 self x19_2 next1 t22 = some r := H50
         try dsimp only
         refine Jf ?_
         refine Jb ?_
         refine Ja rfl rfl rfl (Jl Try.runUnderlying70 rfl Try.sizeOf29 rfl rfl) ?_
         refine X2 (i := 0) (vs := [.int .i64 t22.Value.Kind, str t22.Value.Text, (J6 h v0 6 (Int.toNat x19_2) 3), (J6 h v0 6 (Int.toNat x19_2) 4), (J6 h v0 6 (Int.toNat x19_2) 5)]) Try.isAgg29 Try.sizeOf29 rfl rfl rfl rfl rfl ?_
         refine Vx (cs := [.int .i64 0, str [], .slice none 0 0, .slice none 0 0, .slice none 0 0]) Try.zeroValue29 rfl rfl rfl (fun b3 => ?_)
         refine Zn (i := 1) (vs := [.int .i64 t22.Value.Kind, str t22.Value.Text, (J6 h v0 6 (Int.toNat x19_2) 3), (J6 h v0 6 (Int.toNat x19_2) 4), (J6 h v0 6 (Int.toNat x19_2) 5)]) (cs' := [.int .i64 t22.Value.Kind, str t22.Value.Text, (J6 h v0 6 (Int.toNat x19_2) 3), (J6 h v0 6 (Int.toNat x19_2) 4), (J6 h v0 6 (Int.toNat x19_2) 5)]) Try.sizeOf29 rfl rfl rfl rfl rfl rfl (by simp only [List.all_cons, List.all_nil, (show FrN h 6 (J6 h v0 6 (Int.toNat x19_2) 5) g_tag_Entry t22.Value.Entries from (Jv (Ji (f0.at h_t22)))).one, (show FrS h 1 (J6 h v0 6 (Int.toNat x19_2) 3) (t22.Value.Ints.map J8) from (J1 (Ji (f0.at h_t22)))).one, (show FrS h 2 (J6 h v0 6 (Int.toNat x19_2) 4) (t22.Value.Ratios.map Jr) from (J2 (Ji (f0.at h_t22)))).one] <;> rfl) rfl rfl ?_
         refine Jg ?_
         refine Jf ?_
         refine Jf ?_
         refine Jb ?_
         refine Ja rfl rfl rfl (Jl Try.runUnderlying29 rfl Try.sizeOf3 rfl rfl) ?_
         refine Jq (i := 1) (v := .int .i64 t22.Value.Kind) Try.isAgg3 rfl rfl rfl rfl rfl ?_
         refine Ja rfl rfl rfl (V0 rfl rfl) ?_
         refine Jg ?_
         refine Qb (b := (decide (t22.Value.Kind ≠ 13))) rfl (fun hb => ?_) (fun hb => ?_)
         ·have H51 := Jo hb H50; clear H50
          refine Jf ?_
          refine Jf ?_
          refine Jb ?_
          refine X2 (i := 1) (vs := [.int .i64 t22.Value.Kind, str t22.Value.Text, (J6 h v0 6 (Int.toNat x19_2) 3), (J6 h v0 6 (Int.toNat x19_2) 4), (J6 h v0 6 (Int.toNat x19_2) 5)]) Try.isAgg29 Try.sizeOf29 rfl rfl rfl rfl rfl ?_
          obtain ⟨t51, h_t51, H52⟩ := Jj H51; clear H51
          refine Xa (fun w hF hS => k17 (Qf w) ((show FrS h 1 (J6 h v0 6 (Int.toNat x19_2) 3) (t22.Value.Ints.map J8) from (J1 (Ji (f0.at h_t22)))).mono (hw.now hF)) ((show FrS h 2 (J6 h v0 6 (Int.toNat x19_2) 4) (t22.Value.Ratios.map Jr) from (J2 (Ji (f0.at h_t22)))).mono (hw.now hF)) ((show FrN h 6 (J6 h v0 6 (Int.toNat x19_2) 5) g_tag_Entry t22.Value.Entries from (Jv (Ji (f0.at h_t22)))).mono (hw.now hF)) h_t51) Try.call17 rfl rfl rfl ?_
          refine Ja rfl rfl rfl (Jc (v := .int .i64 t51) rfl) ?_
          refine Jg ?_
          refine Jf ?_
          refine Jb ?_
          refine Ja rfl rfl rfl (Jd (v := .int .i64 t51) rfl) ?_
          refine Ja rfl rfl rfl (V0 rfl rfl) ?_
          refine Jg ?_
          refine Qb (b := (decide (t51 ≠ 0))) rfl (fun hb => ?_) (fun hb => ?_)
          ·have H53 := Jo hb H52; clear H52
           refine Jf ?_
           refine Jb ?_
           refine Ja rfl rfl rfl (Jd (v := .int .i64 t51) rfl) ?_
           refine Ja rfl rfl rfl (Jc (v := .int .i64 t51) rfl) ?_
           refine Jg ?_
           refine Ju ?_
           obtain rfl := Option.some.inj H53
           refine Qa (v := .int .i64 t51) rfl rfl (fin rfl)
          ·have H54 := Jp hb H52; clear H52
           refine Jt ?_
           refine Xq ?_
           refine Jn (t22.Tag, (decide (65535 < t22.Tag)), t22.Tag, t22.Value.Kind, t22.Value.Text, t22.Value.Ints, t22.Value.Ratios, t22.Value.Entries) ((J6 h v0 6 (Int.toNat x19_2) 3), (J6 h v0 6 (Int.toNat x19_2) 4), (J6 h v0 6 (Int.toNat x19_2) 5), b2) 0 [0] (by exact ⟨rfl, rfl, rfl, rfl, rfl, rfl, rfl, rfl, trivial⟩) (by decide) (by kernel_rfl) (by exact ⟨H54, ⟨(show FrS h 1 (J6 h v0 6 (Int.toNat x19_2) 3) (t22.Value.Ints.map J8) from (J1 (Ji (f0.at h_t22)))), (show FrS h 2 (J6 h v0 6 (Int.toNat x19_2) 4) (t22.Value.Ratios.map Jr) from (J2 (Ji (f0.at h_t22)))), (show FrN h 6 (J6 h v0 6 (Int.toNat x19_2) 5) g_tag_Entry t22.Value.Entries from (Jv (Ji (f0.at h_t22))))⟩⟩) (Nat.lt_succ_self _)
         ·have H55 := Jp hb H50; clear H50
          refine Jt ?_
          refine Jf ?_
          refine Jf ?_
          refine Jb ?_
          refine Ja rfl rfl rfl (Jl Try.runUnderlying29 rfl Try.sizeOf9 rfl rfl) ?_
          refine Jq (i := 1) (v := str t22.Value.Text) Try.isAgg9 rfl rfl rfl rfl rfl ?_
          refine Ja rfl rfl rfl (r_neqT rfl rfl) ?_
          refine Ja rfl rfl rfl (Jd (v := .bool (decide (t22.Value.Text ≠ []))) rfl) ?_
          refine split (fun hb => ?_) (fun hb => ?_)
          ·have H56 := Jo hb H55; clear H55
           refine Jh rfl rfl rfl ?_
           refine Jh rfl rfl rfl ?_
           refine Jh rfl rfl rfl ?_
           refine Jh rfl rfl rfl ?_
           refine Ja rfl rfl rfl (J5 (v := .bool true) rfl rfl) ?_
           refine Ja rfl rfl rfl (Jd (v := .bool true) rfl) ?_
           refine Jh rfl rfl rfl ?_
           refine Jh rfl rfl rfl ?_
           refine Jh rfl rfl rfl ?_
           refine Jh rfl rfl rfl ?_
           refine Ja rfl rfl rfl (J5 (v := .bool true) rfl rfl) ?_
           refine Jg ?_
           refine Wz rfl ?_
           refine Jf ?_
           refine Jb ?_
           refine Ja rfl rfl rfl (Jc (v := .int .i64 1) rfl) ?_
           refine Jg ?_
           refine Ju ?_
           obtain rfl := Option.some.inj H56
           refine Qa (v := .int .i64 1) rfl rfl (fin rfl)
          ·have H57 := Jp hb H55; clear H55
           refine Ja rfl rfl rfl (Jl Try.runUnderlying29 rfl Try.sizeOf25 rfl rfl) ?_
           refine Jq (i := 1) (v := (J6 h v0 6 (Int.toNat x19_2) 3)) Try.isAgg25 rfl rfl rfl rfl rfl ?_
           refine Ja rfl rfl rfl (Z2 Try.underlying25 rfl (show FrS h 1 (J6 h v0 6 (Int.toNat x19_2) 3) (t22.Value.Ints.map J8) from (J1 (Ji (f0.at h_t22)))) rfl) ?_
           refine Ja rfl rfl rfl (Z0 rfl rfl) ?_
           refine Ja rfl rfl rfl (J7 (v := .bool (decide (0 < (t22.Value.Ints.length : Int)))) rfl rfl) ?_
           refine Ja rfl rfl rfl (Jd (v := .bool (decide (0 < (t22.Value.Ints.length : Int)))) rfl) ?_
           refine split (fun hb => ?_) (fun hb => ?_)
           ·have H58 := Jo hb H57; clear H57
            refine Jh rfl rfl rfl ?_
            refine Jh rfl rfl rfl ?_
            refine Jh rfl rfl rfl ?_
            refine Jh rfl rfl rfl ?_
            refine Ja rfl rfl rfl (J5 (v := .bool true) rfl rfl) ?_
            refine Jg ?_
            refine Wz rfl ?_
            refine Jf ?_
            refine Jb ?_
            refine Ja rfl rfl rfl (Jc (v := .int .i64 1) rfl) ?_
            refine Jg ?_
            refine Ju ?_
            obtain rfl := Option.some.inj H58
            refine Qa (v := .int .i64 1) rfl rfl (fin rfl)
           ·have H59 := Jp hb H57; clear H57
            refine Ja rfl rfl rfl (Jl Try.runUnderlying29 rfl Try.sizeOf26 rfl rfl) ?_
            refine Jq (i := 1) (v := (J6 h v0 6 (Int.toNat x19_2) 4)) Try.isAgg26 rfl rfl rfl rfl rfl ?_
            refine Ja rfl rfl rfl (Z2 Try.underlying26 rfl (show FrS h 2 (J6 h v0 6 (Int.toNat x19_2) 4) (t22.Value.Ratios.map Jr) from (J2 (Ji (f0.at h_t22)))) rfl) ?_
            refine Ja rfl rfl rfl (Z0 rfl rfl) ?_
            refine Ja rfl rfl rfl (J7 (v := .bool (decide (0 < (t22.Value.Ratios.length : Int)))) rfl rfl) ?_
            refine Jg ?_
            refine Qb (b := (decide (0 < (t22.Value.Ratios.length : Int)))) rfl (fun hb => ?_) (fun hb => ?_)
            ·have H60 := Jo hb H59; clear H59
             refine Jf ?_
             refine Jb ?_
             refine Ja rfl rfl rfl (Jc (v := .int .i64 1) rfl) ?_
             refine Jg ?_
             refine Ju ?_
             obtain rfl := Option.some.inj H60
             refine Qa (v := .int .i64 1) rfl rfl (fin rfl)
            ·have H61 := Jp hb H59; clear H59
             refine Jt ?_
             refine Jf ?_
             refine Jb ?_
             refine Ja rfl rfl rfl (Jl Try.runUnderlying29 rfl Try.sizeOf27 rfl rfl) ?_
             refine Jq (i := 1) (v := (J6 h v0 6 (Int.toNat x19_2) 5)) Try.isAgg27 rfl rfl rfl rfl rfl ?_
             refine Ja rfl rfl rfl (Jd (v := .int .i64 a1) rfl) ?_
             obtain ⟨t73, h_t73, H62⟩ := Jj H61; clear H61
             refine Ja rfl rfl rfl (Qn rfl rfl h_t73) ?_
             obtain ⟨t74, h_t74, H63⟩ := Jj H62; clear H62
             refine Xa (fun w hF hS => ih (Qf w) ((show FrN h 6 (J6 h v0 6 (Int.toNat x19_2) 5) g_tag_Entry t22.Value.Entries from (Jv (Ji (f0.at h_t22)))).mono (hw.now hF)) h_t74) Try.call20 rfl rfl rfl ?_
             refine Ja rfl rfl rfl (Jc (v := .int .i64 t74) rfl) ?_
             refine Jg ?_
             refine Jf ?_
             refine Jb ?_
             refine Ja rfl rfl rfl (Jd (v := .int .i64 t74) rfl) ?_
             refine Ja rfl rfl rfl (V0 rfl rfl) ?_
             refine Jg ?_
             refine Qb (b := (decide (t74 ≠ 0))) rfl (fun hb => ?_) (fun hb => ?_)
             ·have H64 := Jo hb H63; clear H63
              refine Jf ?_
              refine Jb ?_
              refine Ja rfl rfl rfl (Jd (v := .int .i64 t74) rfl) ?_
              refine Ja rfl rfl rfl (Jc (v := .int .i64 t74) rfl) ?_
              refine Jg ?_
              refine Ju ?_
              obtain rfl := Option.some.inj H64
              refine Qa (v := .int .i64 t74) rfl rfl (fin rfl)
             ·have H65 := Jp hb H63; clear H63
              refine Jt ?_
              refine Jn (t22.Tag, (decide (65535 < t22.Tag)), t22.Tag, t22.Value.Kind, t22.Value.Text, t22.Value.Ints, t22.Value.Ratios, t22.Value.Entries) ((J6 h v0 6 (Int.toNat x19_2) 3), (J6 h v0 6 (Int.toNat x19_2) 4), (J6 h v0 6 (Int.toNat x19_2) 5), b2) 0 [0] (by exact ⟨rfl, rfl, rfl, rfl, rfl, rfl, rfl, rfl, trivial⟩) (by decide) (by kernel_rfl) (by exact ⟨H65, ⟨(show FrS h 1 (J6 h v0 6 (Int.toNat x19_2) 3) (t22.Value.Ints.map J8) from (J1 (Ji (f0.at h_t22)))), (show FrS h 2 (J6 h v0 6 (Int.toNat x19_2) 4) (t22.Value.Ratios.map Jr) from (J2 (Ji (f0.at h_t22)))), (show FrN h 6 (J6 h v0 6 (Int.toNat x19_2) 5) g_tag_Entry t22.Value.Entries from (Jv (Ji (f0.at h_t22))))⟩⟩) (Nat.lt_succ_self _)
     ·rintro ⟨x29, x30, m, m_2, m_3, m_4, m_5, m_6⟩ ⟨gv, gv_2, gv_3, b⟩ gg H43 ⟨gf, gf_2, gf_3⟩
      replace H43 : Vl x19_2 next1 x29 x30 m m_2 m_3 m_4 m_5 m_6 = some r := H43
      try dsimp only
      refine Jb ?_
      obtain ⟨t78, h_t78, H44⟩ := Jj H43; clear H43
      refine Ja rfl rfl rfl (Qn rfl rfl h_t78) ?_
      refine Ja rfl rfl rfl (Jd (v := .int .i64 t78) rfl) ?_
      refine Jg ?_
      refine Jn t78 () m1 [] (by exact ⟨rfl, rfl, rfl, rfl, rfl, trivial⟩) (by decide) (by kernel_rfl) (by exact ⟨(by subst hn1; exact H44), trivial⟩) (Nat.lt_succ_self _)
    ·have H72 := Jp hb H41; clear H41
     refine Xq ?_
     refine Jf ?_
     refine Jb ?_
     refine Ja rfl rfl rfl (Jc (v := .int .i64 0) rfl) ?_
     refine Jg ?_
     refine Ju ?_
     obtain rfl := Option.some.inj H72
     refine Qa (v := .int .i64 0) rfl rfl (fin rfl)
theorem k20 {a0 : (List T_tag_Entry)} {v0 : Value} {a1 : Int} {r : Int} {w : World} {h : Jy} (hw : Know h w Zc) (f0 : FrN h 6 v0 g_tag_Entry a0) (H : R_dirFault a0 a1 = some r) : Does Try.prog 20 (List.toArray [v0, .int .i64 a1]) w (fun v w' => v = (.int .i64 r) ∧ Grow w w') := by
 obtain ⟨mm, hm⟩ := fix_it (show Z5 (fun (self : ((List T_tag_Entry) × Int) → Option (Int)) (s : (List T_tag_Entry) × Int) => Yc self s.1 s.2) (a0, a1) = some r from H)
 exact k20_it mm hw f0 hm
theorem k51 {a0 : Bool} {a1 : Int} {a2 : Int} {r : (List UInt8)} (H : Xi a0 a1 a2 = some r) : Ret Try.prog 51 [.bool a0, .int .i64 a1, .int .i64 a2] (str r) := by
 refine Y8 (n := 34) Try.func51 rfl rfl rfl (fun wd => ?_)
 refine Jf ?_
 refine Jb ?_
 refine Ja rfl rfl rfl (Jc (v := str []) rfl) ?_
 refine Jg ?_
 refine Jf ?_
 refine Jb ?_
 refine Ja rfl rfl rfl (Jd (v := .int .i64 a2) rfl) ?_
 obtain ⟨t11, h_t11, H16⟩ := Jj H; clear H
 refine l_make (rds := []) (makes_makeG (E := 5) (sz := 1) (f := e_u8) (xs := t11) Try.underlying108 (Vo Try.typeInfo5) rfl rfl rfl rfl rfl rfl ⟨rfl, rfl⟩ h_t11) rfl rfl rfl (fun p => ?_)
 refine Ja rfl rfl rfl (Jc (v := .slice p.1 t11.length p.2) rfl) ?_
 refine Jg ?_
 refine Qw (r := r) (σ := (List Int)) (τ := Unit) (fun s => R_number_j1 s) (fun s t => [(7, .slice p.1 t11.length p.2)]) (fun s t => [Qt 5 1 (.slice p.1 t11.length p.2) t11.length (s.map e_u8)]) (fun s t => t11.length = s.length) ?_ ?_
 ·refine Jf ?_
  refine Jb ?_
  refine Ja rfl rfl rfl (Jd (v := .slice p.1 t11.length p.2) rfl) ?_
  refine Ja rfl rfl rfl (r_len Try.underlying108 rfl) ?_
  refine Ja rfl rfl rfl (Jd (v := .int .i64 0) rfl) ?_
  refine Jg ?_
  refine J0 ?_
  refine Zb (σ := Int × (List Int)) (τ := Unit) (fun next2 s => Yn a0 a1 a2 t11 next2 s.1 s.2) (fun s t => [(0, .bool a0), (1, .int .i64 a1), (2, .int .i64 a2), (7, .slice p.1 t11.length p.2), (13, .int .i64 (t11.length : Int)), (14, .int .i64 s.1)]) (fun s t => [Qt 5 1 (.slice p.1 t11.length p.2) t11.length (s.2.map e_u8)]) (fun s t => t11.length = s.2.length) (0, t11) () [0] H16 (by exact rfl) (by exact ⟨rfl, rfl, rfl, rfl, rfl, rfl, trivial⟩) (by decide) rfl ?_
  rintro ⟨x14_2, l_3⟩ _ m2 gg H18 hl_3
  clear H16
  replace H18 : Yn a0 a1 a2 t11 (it (fun next2 s => Yn a0 a1 a2 t11 next2 s.1 s.2) m2) x14_2 l_3 = some r := H18
  generalize hn2 : it (fun next2 s => Yn a0 a1 a2 t11 next2 s.1 s.2) m2 = next2 at H18
  try dsimp only
  refine Jf ?_
  refine Jb ?_
  refine Ja rfl rfl rfl (Xy rfl rfl) ?_
  refine Jg ?_
  refine Jf ?_
  refine Qb (b := (decide (x14_2 < (t11.length : Int)))) rfl (fun hb => ?_) (fun hb => ?_)
  ·have H19 := Jo hb H18; clear H18
   refine Jt ?_
   refine Jf ?_
   refine J0 ?_
   refine Jf ?_
   refine Jb ?_
   refine Ja rfl rfl rfl (Jd (v := .int .i64 x14_2) rfl) ?_
   refine Ja rfl rfl rfl (Jc (v := .int .i64 x14_2) rfl) ?_
   refine Jg ?_
   refine Jf ?_
   refine Jb ?_
   refine Ja rfl rfl rfl (Jd (v := .int .i64 x14_2) rfl) ?_
   refine Ja rfl rfl rfl (Jc (v := .int .i64 x14_2) rfl) ?_
   refine Jg ?_
   refine Qw (r := r) (σ := Int) (τ := Unit) (fun s => Wd a1 x14_2 l_3 next2 s) (fun s t => [(0, .bool a0), (1, .int .i64 a1), (2, .int .i64 a2), (7, .slice p.1 t11.length p.2), (8, .int .i64 x14_2), (9, .int .i64 s), (13, .int .i64 (t11.length : Int)), (14, .int .i64 x14_2)]) (fun s t => [Qt 5 1 (.slice p.1 t11.length p.2) t11.length (l_3.map e_u8)]) (fun s t => True) ?_ ?_
   ·refine Jf ?_
    refine Jb ?_
    refine Ja rfl rfl rfl (Jd (v := .bool a0) rfl) ?_
    refine Jg ?_
    refine Qb (b := a0) rfl (fun hb => ?_) (fun hb => ?_)
    ·have H26 := Jo hb H19; clear H19
     refine Jb ?_
     refine Ja rfl rfl rfl (Jd (v := .int .i64 a2) rfl) ?_
     obtain ⟨t20, h_t20, H27⟩ := Jj H26; clear H26
     refine Ja rfl rfl rfl (r_subG rfl rfl h_t20) ?_
     refine Ja rfl rfl rfl (Jd (v := .int .i64 x14_2) rfl) ?_
     obtain ⟨t22, h_t22, H28⟩ := Jj H27; clear H27
     refine Ja rfl rfl rfl (r_subG rfl rfl h_t22) ?_
     refine Ja rfl rfl rfl (Jc (v := .int .i64 t22) rfl) ?_
     refine Jg ?_
     refine Jn t22 () 0 [0] (by exact ⟨rfl, rfl, rfl, rfl, rfl, rfl, rfl, rfl, trivial⟩) (by decide) (by kernel_rfl) (by exact ⟨H28, trivial⟩) (Nat.lt_succ_self _)
    ·have H29 := Jp hb H19; clear H19
     refine Jt ?_
     refine Jn x14_2 () 0 [0] (by exact ⟨rfl, rfl, rfl, rfl, rfl, rfl, rfl, rfl, trivial⟩) (by decide) (by kernel_rfl) (by exact ⟨H29, trivial⟩) (Nat.lt_succ_self _)
   ·rintro x9 _ gg H20 _
    replace H20 : Wd a1 x14_2 l_3 next2 x9 = some r := H20
    try dsimp only
    refine Jb ?_
    refine Ja rfl rfl rfl (Jd (v := .slice p.1 t11.length p.2) rfl) ?_
    refine Ja rfl rfl rfl (Jd (v := .int .i64 x9) rfl) ?_
    refine Ja rfl rfl rfl (Jd (v := .int .i64 a1) rfl) ?_
    refine Ja rfl rfl rfl (Jd (v := .int .i64 x14_2) rfl) ?_
    obtain ⟨t27, h_t27, H21⟩ := Jj H20; clear H20
    refine Ja rfl rfl rfl (r_mulG rfl rfl h_t27) ?_
    obtain ⟨t28, h_t28, H22⟩ := Jj H21; clear H21
    refine Ja rfl rfl rfl (r_shrG rfl rfl rfl h_t28) ?_
    refine Ja rfl rfl rfl (r_convG Try.runUnderlying3 Try.runUnderlying5 rfl (wr_u8 _)) ?_
    obtain ⟨t30, h_t30, H23⟩ := Jj H22; clear H22
    refine Xl (fun w hF hS => run_indexO Try.underlying108 Try.sizeOf5 rfl rfl (rowOf (i := 0) hS rfl) hl_3 h_t30) rfl rfl rfl ?_
    obtain ⟨l0, h_l0, H24⟩ := Jj H23; clear H23
    refine l_storeG (q := 0) (j := 0) (i := x9) (sz := 1) (hm := hl_3) (f := e_u8) (vs := [.int .u8 (wU8 t28)]) Try.sizeOf5 rfl rfl rfl rfl rfl rfl rfl rfl rfl (fun y_ hy_ => by first | rfl | (cases hy_.symm.trans h_t30; rfl)) h_l0 ?_
    refine Jg ?_
    refine Jb ?_
    obtain ⟨t31, h_t31, H25⟩ := Jj H24; clear H24
    refine Ja rfl rfl rfl (Qn rfl rfl h_t31) ?_
    refine Ja rfl rfl rfl (Jd (v := .int .i64 t31) rfl) ?_
    refine Jg ?_
    refine Jn (t31, l0) () m2 [0] (by exact ⟨rfl, rfl, rfl, rfl, rfl, rfl, trivial⟩) (by decide) (by kernel_rfl) (by exact ⟨(by subst hn2; exact H25), (gSet_n hl_3 h_l0)⟩) (Nat.lt_succ_self _)
  ·have H30 := Jp hb H18; clear H18
   refine Xq ?_
   refine Jn l_3 () 0 [0] (by exact ⟨rfl, trivial⟩) (by decide) (by kernel_rfl) (by exact ⟨H30, hl_3⟩) (Nat.lt_succ_self _)
 ·rintro l _ gg H17 hl
  replace H17 : R_number_j1 l = some r := H17
  try dsimp only
  refine Jf ?_
  refine Jb ?_
  refine Ja rfl rfl rfl (Jd (v := .slice p.1 t11.length p.2) rfl) ?_
  refine Xl (fun w hF hS => run_bytes (f := e_u8) (xs := l) hl Try.underlying108 Try.underlying5 Try.underlying9 rfl (fun _ => rfl) (rowOf (i := 0) hS rfl)) rfl rfl rfl ?_
  refine Ja rfl rfl rfl (Jc (v := str (toStr l)) rfl) ?_
  refine Jg ?_
  refine Ju ?_
  obtain rfl := Option.some.inj H17
  refine Qa (v := str (toStr l)) rfl rfl (fin rfl)
theorem k53 {a0 : T_tintref2_written} {pb0 : Nat} {a1 : Int} {a2 : Int} {a3 : Int} {r : T_tintref2_written} {w : World} {h : Jy} {S : Nat → Prop} (hcs : (Js pb0 [str a0.s_, .bool a0.big_] 93).P S w) (hlt : ∀ b, S b → b < w.heap.size) (hw : Know h w S) (H : Xe a0 a1 a2 a3 = some r) : Does Try.prog 53 (List.toArray [.pointer (some ⟨pb0, 0, none⟩), .int .i64 a1, .int .i64 a2, .int .i64 a3]) w (fun v w' => ∃ x : Unit, v = (.tuple #[]) ∧ Turn w w' S (Js pb0 [str r.s_, .bool r.big_] 93)) := by
 refine enter (n := 34) Try.func53 rfl rfl rfl S [Js pb0 [str a0.s_, .bool a0.big_] 93] (Sat.one hcs hlt) ?_
 exact Q6 (Kd.p :: Kd.p :: Kd.p :: Kd.p :: Kd.d [0] _ :: Kd.p :: Kd.p :: Kd.p :: Kd.p :: Kd.p :: Kd.d [0] _ :: Kd.p :: Kd.p :: Kd.d [] _ :: Kd.p :: Kd.p :: Kd.p :: Kd.p :: Kd.d [0] _ :: Kd.p :: Kd.p :: Kd.p :: Kd.p :: Kd.p :: Kd.p :: Kd.p :: Kd.st 33 0 [_, _] 93 :: []) 0 mixed (by
  refine Jk rfl rfl (Jd (v := .pointer (some ⟨pb0, 0, none⟩)) rfl) ?_
  refine Jk rfl rfl (Jd (v := .pointer (some ⟨pb0, 0, none⟩)) rfl) ?_
  refine Jk rfl rfl (Q9 rfl) ?_
  refine Jk rfl rfl (Jl Try.runUnderlying93 rfl Try.sizeOf9 rfl rfl) ?_
  refine Xk (i := 0) (v := str a0.s_) Try.isAgg9 rfl rfl rfl rfl ?_
  refine Jk rfl rfl (Jd (v := .int .i64 a1) rfl) ?_
  have h_t14 := J4 H
  have H7 := Jw H
  refine Jk rfl rfl (r_cutToG Try.underlying9 rfl rfl h_t14) ?_
  refine Jk rfl rfl (Jd (v := .pointer (some ⟨pb0, 0, none⟩)) rfl) ?_
  refine Jk rfl rfl (Q9 rfl) ?_
  refine Jk rfl rfl (Jl Try.runUnderlying93 rfl Try.sizeOf4 rfl rfl) ?_
  refine Xk (i := 0) (v := .bool a0.big_) Try.isAgg4 rfl rfl rfl rfl ?_
  refine Jk rfl rfl (Jd (v := .int .i64 a2) rfl) ?_
  refine Jk rfl rfl (Jd (v := .int .i64 a3) rfl) ?_
  have h_t21 := J4 H7
  have H8 := Jw H7
  refine d_call (k51 h_t21) Try.call51 rfl rfl ?_
  have h_t22 := J4 H8
  have H9 := Jw H8
  refine Jk rfl rfl (Zh rfl rfl h_t22) ?_
  refine Jk rfl rfl (Jd (v := .pointer (some ⟨pb0, 0, none⟩)) rfl) ?_
  refine Jk rfl rfl (Q9 rfl) ?_
  refine Jk rfl rfl (Jl Try.runUnderlying93 rfl Try.sizeOf9 rfl rfl) ?_
  refine Xk (i := 0) (v := str a0.s_) Try.isAgg9 rfl rfl rfl rfl ?_
  refine Jk rfl rfl (Jd (v := .int .i64 a1) rfl) ?_
  refine Jk rfl rfl (Jd (v := .int .i64 a3) rfl) ?_
  have h_t29 := J4 H9
  have H10 := Jw H9
  refine Jk rfl rfl (Qn rfl rfl h_t29) ?_
  have h_t30 := J4 H10
  have H11 := Jw H10
  refine Jk rfl rfl (r_cutFromG Try.underlying9 rfl rfl h_t30) ?_
  have h_t31 := J4 H11
  have H12 := Jw H11
  refine Jk rfl rfl (Zh rfl rfl h_t31) ?_
  refine Jk rfl rfl (Q9 rfl) ?_
  refine Jk rfl rfl (Jl Try.runUnderlying93 rfl Try.sizeOf9 rfl rfl) ?_
  refine d_store (i := 0) (vs := [str (val (Vp (val (Vp (val (Wp a0.s_ 0 a1)) (val (Xi a0.big_ a2 a3)))) (val (Wp a0.s_ (val (gI (a1 + a3))) a0.s_.length))))]) (cs' := [str (val (Vp (val (Vp (val (Wp a0.s_ 0 a1)) (val (Xi a0.big_ a2 a3)))) (val (Wp a0.s_ (val (gI (a1 + a3))) a0.s_.length)))), .bool a0.big_]) Try.sizeOf9 rfl rfl rfl rfl rfl rfl rfl rfl rfl ?_
  refine Yp ?_
  obtain rfl := Option.some.inj H12
  refine ret0n rfl (finX () (i := 0) rfl rfl (Imp.refl _))
  ) (by kernel_rfl)
theorem k75 {a0 : T_tintref2_written} {pb0 : Nat} {a1 : (List UInt8)} {r : Int × T_tintref2_written} {w : World} {h : Jy} {S : Nat → Prop} (hcs : (Js pb0 [str a0.s_, .bool a0.big_] 93).P S w) (hlt : ∀ b, S b → b < w.heap.size) (hw : Know h w S) (H : V4 a0 a1 = some r) : Does Try.prog 75 (List.toArray [.pointer (some ⟨pb0, 0, none⟩), str a1]) w (fun v w' => ∃ x : Unit, v = (.int .i64 r.1) ∧ Turn w w' S (Js pb0 [str r.2.s_, .bool r.2.big_] 93)) := by
 refine enter (n := 34) Try.func75 rfl rfl rfl S [Js pb0 [str a0.s_, .bool a0.big_] 93] (Sat.one hcs hlt) ?_
 refine Jf ?_
 refine Jb ?_
 refine Ja rfl rfl rfl (Jc (v := .int .i64 0) rfl) ?_
 refine Jg ?_
 refine Qw (r := r) (σ := (List UInt8)) (τ := Unit) (fun s => Z3 a0 a1 s) (fun s t => [(0, .pointer (some ⟨pb0, 0, none⟩)), (1, str a1)]) (fun s t => [Js pb0 [str s, .bool a0.big_] 93]) (fun s t => True) ?_ ?_
 ·refine Jf ?_
  refine Jb ?_
  refine Ja rfl rfl rfl (Jd (v := .pointer (some ⟨pb0, 0, none⟩)) rfl) ?_
  refine Ja rfl rfl rfl (Q9 rfl) ?_
  refine Ja rfl rfl rfl (Jl Try.runUnderlying93 rfl Try.sizeOf9 rfl rfl) ?_
  refine Jq (i := 0) (v := str a0.s_) Try.isAgg9 rfl rfl rfl rfl rfl ?_
  refine Ja rfl rfl rfl (r_lenT Try.underlying9 rfl) ?_
  obtain ⟨t11, h_t11, H9⟩ := Jj H; clear H
  refine Ja rfl rfl rfl (r_remG rfl rfl h_t11) ?_
  refine Ja rfl rfl rfl (Qq rfl rfl) ?_
  refine Jg ?_
  refine Qb (b := (decide (t11 = 1))) rfl (fun hb => ?_) (fun hb => ?_)
  ·have H10 := Jo hb H9; clear H9
   refine Jb ?_
   refine Ja rfl rfl rfl (Jd (v := .pointer (some ⟨pb0, 0, none⟩)) rfl) ?_
   refine Ja rfl rfl rfl (Q9 rfl) ?_
   refine Ja rfl rfl rfl (Jl Try.runUnderlying93 rfl Try.sizeOf9 rfl rfl) ?_
   refine Jq (i := 0) (v := str a0.s_) Try.isAgg9 rfl rfl rfl rfl rfl ?_
   obtain ⟨t17, h_t17, H11⟩ := Jj H10; clear H10
   refine Ja rfl rfl rfl (Zh rfl rfl h_t17) ?_
   refine Ja rfl rfl rfl (Q9 rfl) ?_
   refine Ja rfl rfl rfl (Jl Try.runUnderlying93 rfl Try.sizeOf9 rfl rfl) ?_
   refine Zn (i := 0) (vs := [str t17]) (cs' := [str t17, .bool a0.big_]) Try.sizeOf9 rfl rfl rfl rfl rfl rfl rfl rfl rfl ?_
   refine Jg ?_
   refine Jn t17 () 0 [0] (by exact ⟨rfl, rfl, trivial⟩) (by decide) (by kernel_rfl) (by exact ⟨H11, trivial⟩) (Nat.lt_succ_self _)
  ·have H12 := Jp hb H9; clear H9
   refine Jt ?_
   refine Jn a0.s_ () 0 [0] (by exact ⟨rfl, rfl, trivial⟩) (by decide) (by kernel_rfl) (by exact ⟨H12, trivial⟩) (Nat.lt_succ_self _)
 ·rintro m _ gg H7 _
  replace H7 : Z3 a0 a1 m = some r := H7
  try dsimp only
  refine Jf ?_
  refine Jb ?_
  refine Ja rfl rfl rfl (Jd (v := .pointer (some ⟨pb0, 0, none⟩)) rfl) ?_
  refine Ja rfl rfl rfl (Q9 rfl) ?_
  refine Ja rfl rfl rfl (Jl Try.runUnderlying93 rfl Try.sizeOf9 rfl rfl) ?_
  refine Jq (i := 0) (v := str m) Try.isAgg9 rfl rfl rfl rfl rfl ?_
  refine Ja rfl rfl rfl (r_lenT Try.underlying9 rfl) ?_
  refine Ja rfl rfl rfl (Jc (v := .int .i64 (m.length : Int)) rfl) ?_
  refine Jg ?_
  refine Jf ?_
  refine Jb ?_
  refine Ja rfl rfl rfl (Jd (v := .pointer (some ⟨pb0, 0, none⟩)) rfl) ?_
  refine Ja rfl rfl rfl (Q9 rfl) ?_
  refine Ja rfl rfl rfl (Jl Try.runUnderlying93 rfl Try.sizeOf9 rfl rfl) ?_
  refine Jq (i := 0) (v := str m) Try.isAgg9 rfl rfl rfl rfl rfl ?_
  refine Ja rfl rfl rfl (Jd (v := str a1) rfl) ?_
  obtain ⟨t30, h_t30, H8⟩ := Jj H7; clear H7
  refine Ja rfl rfl rfl (Zh rfl rfl h_t30) ?_
  refine Ja rfl rfl rfl (Q9 rfl) ?_
  refine Ja rfl rfl rfl (Jl Try.runUnderlying93 rfl Try.sizeOf9 rfl rfl) ?_
  refine Zn (i := 0) (vs := [str t30]) (cs' := [str t30, .bool a0.big_]) Try.sizeOf9 rfl rfl rfl rfl rfl rfl rfl rfl rfl ?_
  refine Jg ?_
  refine Jf ?_
  refine Jb ?_
  refine Ja rfl rfl rfl (Jd (v := .int .i64 (m.length : Int)) rfl) ?_
  refine Ja rfl rfl rfl (Jc (v := .int .i64 (m.length : Int)) rfl) ?_
  refine Jg ?_
  refine Ju ?_
  obtain rfl := Option.some.inj H8
  refine Qa (v := .int .i64 (m.length : Int)) rfl rfl (finX () (i := 0) rfl rfl (Imp.refl _))
theorem k76 {a0 : (List UInt8)} {a1 : Int} {r : (List UInt8)} (H : gRep a0 a1 = some r) : Ret Try.prog 76 [str a0, .int .i64 a1] (str r) :=
  rep_ret (ρ := Go.Proofs.Try.lays105_ren) Go.Proofs.Try.lays105 Go.Proofs.Try.Builder_Extra_105 H
theorem k78 {a0 : Bool} {a1 : T_tag_Value} {v1_2 : Value} {v1_3 : Value} {v1_4 : Value} {r : (List UInt8)} {w : World} {h : Jy} (hw : Know h w Zc) (f1_2 : FrS h 1 v1_2 (a1.Ints.map J8)) (f1_3 : FrS h 2 v1_3 (a1.Ratios.map Jr)) (f1_4 : FrN h 6 v1_4 g_tag_Entry a1.Entries) (H : X8 a0 a1 = some r) : Does Try.prog 78 (List.toArray [.bool a0, .agg #[.int .i64 a1.Kind, str a1.Text, v1_2, v1_3, v1_4]]) w (fun v w' => v = (str r) ∧ Grow w w') := by
 refine enter (n := 53) Try.func78 rfl rfl rfl Zc [] (Sat.nil _ _) ?_
 refine Jf ?_
 refine Jb ?_
 refine Vi (cs := [.int .i64 a1.Kind, str a1.Text, v1_2, v1_3, v1_4]) rfl rfl rfl rfl (fun b2 => ?_)
 refine Ja rfl rfl rfl (Jc (v := str []) rfl) ?_
 refine Jg ?_
 refine Jf ?_
 refine Jb ?_
 refine Ja rfl rfl rfl (Jl Try.runUnderlying29 rfl Try.sizeOf9 rfl rfl) ?_
 refine Jq (i := 0) (v := str a1.Text) Try.isAgg9 rfl rfl rfl rfl rfl ?_
 refine Ja rfl rfl rfl (Jc (v := str a1.Text) rfl) ?_
 refine Jg ?_
 refine Qw (r := r) (σ := (List UInt8)) (τ := Unit) (fun s => Wf a0 a1 s) (fun s t => [(0, .bool a0), (3, .pointer (some ⟨b2, 0, none⟩)), (5, str s)]) (fun s t => [Js b2 [.int .i64 a1.Kind, str a1.Text, v1_2, v1_3, v1_4] 29]) (fun s t => True) ?_ ?_
 ·refine Jf ?_
  refine Jb ?_
  refine Ja rfl rfl rfl (Jl Try.runUnderlying29 rfl Try.sizeOf3 rfl rfl) ?_
  refine Jq (i := 0) (v := .int .i64 a1.Kind) Try.isAgg3 rfl rfl rfl rfl rfl ?_
  refine Ja rfl rfl rfl (Qq rfl rfl) ?_
  refine Jg ?_
  refine Qb (b := (decide (a1.Kind = 2))) rfl (fun hb => ?_) (fun hb => ?_)
  ·have H42 := Jo hb H; clear H
   refine Jb ?_
   refine Ja rfl rfl rfl (Jd (v := str a1.Text) rfl) ?_
   obtain ⟨t16, h_t16, H43⟩ := Jj H42; clear H42
   refine Ja rfl rfl rfl (Zh rfl rfl h_t16) ?_
   refine Ja rfl rfl rfl (Jc (v := str t16) rfl) ?_
   refine Jg ?_
   refine Jn t16 () 0 [0] (by exact ⟨rfl, rfl, rfl, trivial⟩) (by decide) (by kernel_rfl) (by exact ⟨H43, trivial⟩) (Nat.lt_succ_self _)
  ·have H44 := Jp hb H; clear H
   refine Jt ?_
   refine Jn a1.Text () 0 [0] (by exact ⟨rfl, rfl, rfl, trivial⟩) (by decide) (by kernel_rfl) (by exact ⟨H44, trivial⟩) (Nat.lt_succ_self _)
 ·rintro x5 _ gg H23 _
  replace H23 : Wf a0 a1 x5 = some r := H23
  try dsimp only
  refine Qw (r := r) (σ := (List UInt8)) (τ := Unit) (fun s => Wc a0 a1 s) (fun s t => [(0, .bool a0), (3, .pointer (some ⟨b2, 0, none⟩)), (5, str s)]) (fun s t => [Js b2 [.int .i64 a1.Kind, str a1.Text, v1_2, v1_3, v1_4] 29]) (fun s t => True) ?_ ?_
  ·refine Jf ?_
   refine Jb ?_
   refine Ja rfl rfl rfl (Jl Try.runUnderlying29 rfl Try.sizeOf25 rfl rfl) ?_
   refine Jq (i := 0) (v := v1_2) Try.isAgg25 rfl rfl rfl rfl rfl ?_
   refine Ja rfl rfl rfl (Z2 Try.underlying25 rfl f1_2 rfl) ?_
   refine Ja rfl rfl rfl (Jd (v := .int .i64 0) rfl) ?_
   refine Jg ?_
   refine J0 ?_
   refine Zb (σ := (List UInt8) × Int) (τ := Unit) (fun next4 s => Yz a0 a1 next4 s.1 s.2) (fun s t => [(0, .bool a0), (3, .pointer (some ⟨b2, 0, none⟩)), (5, str s.1), (18, v1_2), (19, .int .i64 (a1.Ints.length : Int)), (20, .int .i64 s.2)]) (fun s t => [Js b2 [.int .i64 a1.Kind, str a1.Text, v1_2, v1_3, v1_4] 29]) (fun s t => True) (x5, 0) () [0] H23 (by exact trivial) (by exact ⟨rfl, rfl, rfl, rfl, rfl, rfl, trivial⟩) (by decide) rfl ?_
   rintro ⟨x5_6, x20_2⟩ _ m4 gg H34 _
   clear H23
   replace H34 : Yz a0 a1 (it (fun next4 s => Yz a0 a1 next4 s.1 s.2) m4) x5_6 x20_2 = some r := H34
   generalize hn4 : it (fun next4 s => Yz a0 a1 next4 s.1 s.2) m4 = next4 at H34
   try dsimp only
   refine Jf ?_
   refine Jb ?_
   refine Ja rfl rfl rfl (Xy rfl rfl) ?_
   refine Jg ?_
   refine Jf ?_
   refine Qb (b := (decide (x20_2 < (a1.Ints.length : Int)))) rfl (fun hb => ?_) (fun hb => ?_)
   ·have H35 := Jo hb H34; clear H34
    refine Jt ?_
    refine Jf ?_
    refine J0 ?_
    refine Jf ?_
    refine Jb ?_
    obtain ⟨t22, h_t22, H36⟩ := Jj H35; clear H35
    refine Ja rfl rfl rfl (Qe Try.underlying25 Try.sizeOf3 rfl rfl f1_2 h_t22) ?_
    refine Xl (fun w hF hS => Qk (f := J8) (i := x20_2) (sz := 1) (j := 0) (v := .int .i64 t22) Try.isAgg3 rfl rfl (f1_2.row (hw.now hF)) h_t22 rfl) rfl rfl rfl ?_
    refine Ja rfl rfl rfl (Jc (v := .int .i64 t22) rfl) ?_
    refine Jg ?_
    refine Jb ?_
    refine Ja rfl rfl rfl (Jd (v := str x5_6) rfl) ?_
    refine Ja rfl rfl rfl (Jd (v := .bool a0) rfl) ?_
    refine Ja rfl rfl rfl (Jd (v := .int .i64 t22) rfl) ?_
    refine Ja rfl rfl rfl (Jl Try.runUnderlying29 rfl Try.sizeOf3 rfl rfl) ?_
    refine Jq (i := 0) (v := .int .i64 a1.Kind) Try.isAgg3 rfl rfl rfl rfl rfl ?_
    obtain ⟨t29, h_t29, H37⟩ := Jj H36; clear H36
    refine Z7 (k45 h_t29) Try.call45 rfl rfl rfl ?_
    obtain ⟨t30, h_t30, H38⟩ := Jj H37; clear H37
    refine Z7 (k51 h_t30) Try.call51 rfl rfl rfl ?_
    obtain ⟨t31, h_t31, H39⟩ := Jj H38; clear H38
    refine Ja rfl rfl rfl (Zh rfl rfl h_t31) ?_
    refine Ja rfl rfl rfl (Jc (v := str t31) rfl) ?_
    refine Jg ?_
    refine Jb ?_
    obtain ⟨t32, h_t32, H40⟩ := Jj H39; clear H39
    refine Ja rfl rfl rfl (Qn rfl rfl h_t32) ?_
    refine Ja rfl rfl rfl (Jd (v := .int .i64 t32) rfl) ?_
    refine Jg ?_
    refine Jn (t31, t32) () m4 [0] (by exact ⟨rfl, rfl, rfl, rfl, rfl, rfl, trivial⟩) (by decide) (by kernel_rfl) (by exact ⟨(by subst hn4; exact H40), trivial⟩) (Nat.lt_succ_self _)
   ·have H41 := Jp hb H34; clear H34
    refine Xq ?_
    refine Jn x5_6 () 0 [0] (by exact ⟨rfl, rfl, rfl, trivial⟩) (by decide) (by kernel_rfl) (by exact ⟨H41, trivial⟩) (Nat.lt_succ_self _)
  ·rintro x5_2 _ gg H24 _
   replace H24 : Wc a0 a1 x5_2 = some r := H24
   try dsimp only
   refine Jf ?_
   refine Jf ?_
   refine Jb ?_
   refine Ja rfl rfl rfl (Jl Try.runUnderlying29 rfl Try.sizeOf26 rfl rfl) ?_
   refine Jq (i := 0) (v := v1_3) Try.isAgg26 rfl rfl rfl rfl rfl ?_
   refine Ja rfl rfl rfl (Z2 Try.underlying26 rfl f1_3 rfl) ?_
   refine Ja rfl rfl rfl (Jd (v := .int .i64 0) rfl) ?_
   refine Jg ?_
   refine J0 ?_
   refine c_dr 0 ?_
   try dsimp only [z1, z2, z3, z4, z5, z6, z7, z8]
   refine Zb (σ := (List UInt8) × Int) (τ := Unit) (fun next3 s => Yy a0 a1 next3 s.1 s.2) (fun s t => [(0, .bool a0), (5, str s.1), (34, v1_3), (35, .int .i64 (a1.Ratios.length : Int)), (36, .int .i64 s.2)]) (fun s t => []) (fun s t => True) (x5_2, 0) () [] H24 (by exact trivial) (by exact ⟨rfl, rfl, rfl, rfl, rfl, trivial⟩) (by decide) rfl ?_
   rintro ⟨x5_4, x36_2⟩ _ m3 gg H25 _
   clear H24
   replace H25 : Yy a0 a1 (it (fun next3 s => Yy a0 a1 next3 s.1 s.2) m3) x5_4 x36_2 = some r := H25
   generalize hn3 : it (fun next3 s => Yy a0 a1 next3 s.1 s.2) m3 = next3 at H25
   try dsimp only
   refine Jf ?_
   refine Jb ?_
   refine Ja rfl rfl rfl (Xy rfl rfl) ?_
   refine Jg ?_
   refine Jf ?_
   refine Qb (b := (decide (x36_2 < (a1.Ratios.length : Int)))) rfl (fun hb => ?_) (fun hb => ?_)
   ·have H26 := Jo hb H25; clear H25
    refine Jt ?_
    refine Jf ?_
    refine J0 ?_
    refine Jf ?_
    refine Jb ?_
    obtain ⟨t38, h_t38, H27⟩ := Jj H26; clear H26
    refine Ja rfl rfl rfl (Qe Try.underlying26 Try.sizeOf77 rfl rfl f1_3 h_t38) ?_
    refine Xl (fun w hF hS => Xb (f := Jr) (i := x36_2) (sz := 2) (j := 0) (vs := [.int .i64 t38.Num, .int .i64 t38.Den]) Try.isAgg77 Try.sizeOf77 rfl rfl (f1_3.row (hw.now hF)) h_t38 rfl) rfl rfl rfl ?_
    refine Vx (cs := [.int .i64 0, .int .i64 0]) Try.zeroValue77 rfl rfl rfl (fun b3 => ?_)
    refine Zn (i := 0) (vs := [.int .i64 t38.Num, .int .i64 t38.Den]) (cs' := [.int .i64 t38.Num, .int .i64 t38.Den]) Try.sizeOf77 rfl rfl rfl rfl rfl rfl rfl rfl rfl ?_
    refine Jg ?_
    exact Q6 (Kd.p :: Kd.p :: Kd.p :: Kd.d [0] _ :: Kd.d [] _ :: Kd.p :: Kd.p :: Kd.d [0] _ :: Kd.d [] _ :: Kd.p :: Kd.p :: Kd.p :: []) 0 mixed (by
     refine Jk rfl rfl (Jd (v := str x5_4) rfl) ?_
     refine Jk rfl rfl (Jd (v := .bool a0) rfl) ?_
     refine Jk rfl rfl (Jl Try.runUnderlying77 rfl Try.sizeOf3 rfl rfl) ?_
     refine Xk (i := 0) (v := .int .i64 t38.Num) Try.isAgg3 rfl rfl rfl rfl ?_
     have h_t44 := J4 H27
     have H28 := Jw H27
     refine d_call (k51 h_t44) Try.call51 rfl rfl ?_
     refine Jk rfl rfl (Jd (v := .bool a0) rfl) ?_
     refine Jk rfl rfl (Jl Try.runUnderlying77 rfl Try.sizeOf3 rfl rfl) ?_
     refine Xk (i := 0) (v := .int .i64 t38.Den) Try.isAgg3 rfl rfl rfl rfl ?_
     have h_t48 := J4 H28
     have H29 := Jw H28
     refine d_call (k51 h_t48) Try.call51 rfl rfl ?_
     have h_t49 := J4 H29
     have H30 := Jw H29
     refine Jk rfl rfl (Zh rfl rfl h_t49) ?_
     have h_t50 := J4 H30
     have H31 := Jw H30
     refine Jk rfl rfl (Zh rfl rfl h_t50) ?_
     refine Jk rfl rfl (Jc (v := str (val (Vp x5_4 (val (Vp (val (Xi a0 t38.Num 4)) (val (Xi a0 t38.Den 4))))))) rfl) ?_
     refine Yp ?_
     refine Jb ?_
     obtain ⟨t51, h_t51, H32⟩ := Jj H31; clear H31
     refine Ja rfl rfl rfl (Qn rfl rfl h_t51) ?_
     refine Ja rfl rfl rfl (Jd (v := .int .i64 t51) rfl) ?_
     refine Jg ?_
     refine Jn ((val (Vp x5_4 (val (Vp (val (Xi a0 t38.Num 4)) (val (Xi a0 t38.Den 4)))))), t51) () m3 [] (by exact ⟨rfl, rfl, rfl, rfl, rfl, trivial⟩) (by decide) (by kernel_rfl) (by exact ⟨(by subst hn3; exact H32), trivial⟩) (Nat.lt_succ_self _)
     ) (by kernel_rfl)
   ·have H33 := Jp hb H25; clear H25
    refine Xq ?_
    refine Jf ?_
    refine Jb ?_
    refine Ja rfl rfl rfl (Jd (v := str x5_4) rfl) ?_
    refine Ja rfl rfl rfl (Jc (v := str x5_4) rfl) ?_
    refine Jg ?_
    refine Ju ?_
    obtain rfl := Option.some.inj H33
    refine Qa (v := str x5_4) rfl rfl (fin rfl)
theorem k77 {a0 : T_tag_Value} {v0_2 : Value} {v0_3 : Value} {v0_4 : Value} {r : Int} {w : World} {h : Jy} (hw : Know h w Zc) (f0_2 : FrS h 1 v0_2 (a0.Ints.map J8)) (f0_3 : FrS h 2 v0_3 (a0.Ratios.map Jr)) (f0_4 : FrN h 6 v0_4 g_tag_Entry a0.Entries) (H : R_count a0 = some r) : Does Try.prog 77 (List.toArray [.agg #[.int .i64 a0.Kind, str a0.Text, v0_2, v0_3, v0_4]]) w (fun v w' => v = (.int .i64 r) ∧ Grow w w') := by
 refine enter (n := 13) Try.func77 rfl rfl rfl Zc [] (Sat.nil _ _) ?_
 refine Jf ?_
 refine Jb ?_
 refine Vi (cs := [.int .i64 a0.Kind, str a0.Text, v0_2, v0_3, v0_4]) rfl rfl rfl rfl (fun b1 => ?_)
 refine Ja rfl rfl rfl (Jc (v := .int .i64 0) rfl) ?_
 refine Jg ?_
 refine Jf ?_
 refine Jf ?_
 refine Jb ?_
 refine Ja rfl rfl rfl (Jl Try.runUnderlying29 rfl Try.sizeOf3 rfl rfl) ?_
 refine Jq (i := 0) (v := .int .i64 a0.Kind) Try.isAgg3 rfl rfl rfl rfl rfl ?_
 refine Ja rfl rfl rfl (Qq rfl rfl) ?_
 refine Jg ?_
 refine Qb (b := (decide (a0.Kind = 13))) rfl (fun hb => ?_) (fun hb => ?_)
 ·have H6 := Jo hb H; clear H
  refine Jf ?_
  refine Jb ?_
  refine Ja rfl rfl rfl (Jc (v := .int .i64 1) rfl) ?_
  refine Jg ?_
  refine Ju ?_
  obtain rfl := Option.some.inj H6
  refine Qa (v := .int .i64 1) rfl rfl (fin rfl)
 ·have H7 := Jp hb H; clear H
  refine Jt ?_
  refine Jf ?_
  exact Q6 (Kd.d [0] _ :: Kd.d [] _ :: Kd.p :: Kd.p :: Kd.d [0] _ :: Kd.d [] _ :: Kd.p :: Kd.p :: []) 0 mixed (by
   refine d_loadN (i := 0) (vs := [.int .i64 a0.Kind, str a0.Text, v0_2, v0_3, v0_4]) Try.isAgg29 Try.sizeOf29 rfl rfl rfl rfl ?_
   have h_t7 := J4 H7
   have H8 := Jw H7
   refine d_callD (fun w L' hF hS hi => k78 (Qf w) (f0_2.mono (hw.now hF)) (f0_3.mono (hw.now hF)) (f0_4.mono (hw.now hF)) h_t7) Try.call78 rfl rfl ?_
   refine Jk rfl rfl (r_lenT Try.underlying9 rfl) ?_
   refine Jk rfl rfl (Jl Try.runUnderlying29 rfl Try.sizeOf3 rfl rfl) ?_
   refine Xk (i := 0) (v := .int .i64 a0.Kind) Try.isAgg3 rfl rfl rfl rfl ?_
   have h_t11 := J4 H8
   have H9 := Jw H8
   refine d_call (k45 h_t11) Try.call45 rfl rfl ?_
   have h_t12 := J4 H9
   have H10 := Jw H9
   refine Jk rfl rfl (r_quoG rfl rfl h_t12) ?_
   refine Jk rfl rfl (Jc (v := .int .i64 (val (gQuo ((val (X8 false a0)).length : Int) (val (R_wide a0.Kind))))) rfl) ?_
   refine Yp ?_
   refine Ju ?_
   obtain rfl := Option.some.inj H10
   refine Qa (v := .int .i64 (val (gQuo ((val (X8 false a0)).length : Int) (val (R_wide a0.Kind))))) rfl rfl (fin rfl)
   ) (by kernel_rfl)
theorem k52_it (mm : Nat) : ∀ {a0 : T_tintref2_written} {pb0 : Nat} {a1 : (List T_tag_Entry)} {v1 : Value} {r : Int × T_tintref2_written} {w : World} {h : Jy} {S : Nat → Prop} (hcs : (Js pb0 [str a0.s_, .bool a0.big_] 93).P S w) (hlt : ∀ b, S b → b < w.heap.size) (hw : Know h w S) (f1 : FrN h 6 v1 g_tag_Entry a1) (H : it (fun (self : (T_tintref2_written × (List T_tag_Entry)) → Option (Int × T_tintref2_written)) (s : T_tintref2_written × (List T_tag_Entry)) => Xn self s.1 s.2) mm (a0, a1) = some r), Does Try.prog 52 (List.toArray [.pointer (some ⟨pb0, 0, none⟩), v1]) w (fun v w' => ∃ x : Unit, v = (.int .i64 r.1) ∧ Turn w w' S (Js pb0 [str r.2.s_, .bool r.2.big_] 93)) := by
 induction mm with
 | zero => intros; rename_i H; exact absurd H (by simp [it])
 | succ mm ih =>
  intro a0 pb0 a1 v1 r w h S hcs hlt hw f1 H
  replace H : Xn (it (fun (self : (T_tintref2_written × (List T_tag_Entry)) → Option (Int × T_tintref2_written)) (s : T_tintref2_written × (List T_tag_Entry)) => Xn self s.1 s.2) mm) a0 a1 = some r := H
  generalize it (fun (self : (T_tintref2_written × (List T_tag_Entry)) → Option (Int × T_tintref2_written)) (s : T_tintref2_written × (List T_tag_Entry)) => Xn self s.1 s.2) mm = self at H ih
  refine enter (n := 109) Try.func52 rfl rfl rfl S [Js pb0 [str a0.s_, .bool a0.big_] 93] (Sat.one hcs hlt) ?_
  refine Jf ?_
  refine Jb ?_
  refine Ja rfl rfl rfl (Jc (v := .int .i64 0) rfl) ?_
  refine Jg ?_
  refine Jf ?_
  refine Jb ?_
  refine Ja rfl rfl rfl (Jd (v := .pointer (some ⟨pb0, 0, none⟩)) rfl) ?_
  refine Ja rfl rfl rfl (Jd (v := v1) rfl) ?_
  refine Ja rfl rfl rfl (Qu Try.underlying27 rfl f1) ?_
  obtain ⟨t13, h_t13, H40⟩ := Jj H; clear H
  refine Ja rfl rfl rfl (r_mulG rfl rfl h_t13) ?_
  obtain ⟨t14, h_t14, H41⟩ := Jj H40; clear H40
  refine Ja rfl rfl rfl (Qn rfl rfl h_t14) ?_
  obtain ⟨t15, h_t15, H42⟩ := Jj H41; clear H41
  refine Ja rfl rfl rfl (Qn rfl rfl h_t15) ?_
  obtain ⟨t16, h_t16, H43⟩ := Jj H42; clear H42
  refine Z7 (k76 h_t16) Try.call76 rfl rfl rfl ?_
  obtain ⟨t17, h_t17, H44⟩ := Jj H43; clear H43
  refine Y7 (Xu (i := 0) (rds := []) (G := fun x : Unit => .int .i64 t17.1) (C := fun x : Unit => Js pb0 [str t17.2.s_, .bool t17.2.big_] 93) rfl (fun w L' S hF hS hi hp hlt ho hA => k75 hp hlt (Ym w S)  h_t17) Try.call75 rfl) rfl rfl rfl (fun _ => ?_)
  refine Ja rfl rfl rfl (Jc (v := .int .i64 t17.1) rfl) ?_
  refine Jg ?_
  refine Jf ?_
  refine Jb ?_
  refine Ja rfl rfl rfl (Jd (v := .pointer (some ⟨pb0, 0, none⟩)) rfl) ?_
  refine Ja rfl rfl rfl (Jd (v := .int .i64 t17.1) rfl) ?_
  refine Ja rfl rfl rfl (Jd (v := v1) rfl) ?_
  refine Ja rfl rfl rfl (Qu Try.underlying27 rfl f1) ?_
  obtain ⟨t22, h_t22, H45⟩ := Jj H44; clear H44
  refine Y7 (Xu (i := 0) (rds := []) (G := fun x : Unit => .tuple #[]) (C := fun x : Unit => Js pb0 [str t22.s_, .bool t22.big_] 93) rfl (fun w L' S hF hS hi hp hlt ho hA => k53 hp hlt (Ym w S)  h_t22) Try.call53 rfl) rfl rfl rfl (fun _ => ?_)
  refine Jg ?_
  refine Jf ?_
  refine Jf ?_
  refine Jb ?_
  refine Ja rfl rfl rfl (Jd (v := v1) rfl) ?_
  refine Ja rfl rfl rfl (Qu Try.underlying27 rfl f1) ?_
  refine Ja rfl rfl rfl (Jd (v := .int .i64 0) rfl) ?_
  refine Jg ?_
  refine J0 ?_
  refine Zb (σ := Int × (List UInt8) × Bool) (τ := Unit) (fun next1 s => Xf a1 self t17 next1 s.1 s.2.1 s.2.2) (fun s t => [(0, .pointer (some ⟨pb0, 0, none⟩)), (5, .int .i64 t17.1), (23, v1), (24, .int .i64 (a1.length : Int)), (25, .int .i64 s.1)]) (fun s t => [Js pb0 [str s.2.1, .bool s.2.2] 93]) (fun s t => True) (0, t22.s_, t22.big_) () [0] H45 (by exact trivial) (by exact ⟨rfl, rfl, rfl, rfl, rfl, trivial⟩) (by decide) rfl ?_
  rintro ⟨x25_2, m_3, m_4⟩ _ m1 gg H46 _
  clear H45
  replace H46 : Xf a1 self t17 (it (fun next1 s => Xf a1 self t17 next1 s.1 s.2.1 s.2.2) m1) x25_2 m_3 m_4 = some r := H46
  generalize hn1 : it (fun next1 s => Xf a1 self t17 next1 s.1 s.2.1 s.2.2) m1 = next1 at H46
  try dsimp only
  refine Jf ?_
  refine Jb ?_
  refine Ja rfl rfl rfl (Xy rfl rfl) ?_
  refine Jg ?_
  refine Jf ?_
  refine Qb (b := (decide (x25_2 < (a1.length : Int)))) rfl (fun hb => ?_) (fun hb => ?_)
  ·have H47 := Jo hb H46; clear H46
   refine Jt ?_
   refine Qw (r := r) (σ := (List UInt8) × Bool) (τ := Unit) (fun s => Ye x25_2 next1 s.1 s.2) (fun s t => [(0, .pointer (some ⟨pb0, 0, none⟩)), (5, .int .i64 t17.1), (23, v1), (24, .int .i64 (a1.length : Int)), (25, .int .i64 x25_2)]) (fun s t => [Js pb0 [str s.1, .bool s.2] 93]) (fun s t => True) ?_ ?_
   ·refine J0 ?_
    refine Jf ?_
    refine Jb ?_
    refine Ja rfl rfl rfl (Jd (v := .int .i64 x25_2) rfl) ?_
    obtain ⟨t28, h_t28, H50⟩ := Jj H47; clear H47
    refine Ja rfl rfl rfl (Qe Try.underlying27 Try.sizeOf70 rfl rfl f1.frs (f1.ix h_t28)) ?_
    refine Xl (fun w hF hS => Xb (f := (V2 h v1 6)) (i := x25_2) (sz := 6) (j := 0) (vs := [.int .i64 t28.Tag, .int .i64 t28.Value.Kind, str t28.Value.Text, (J6 h v1 6 (Int.toNat x25_2) 3), (J6 h v1 6 (Int.toNat x25_2) 4), (J6 h v1 6 (Int.toNat x25_2) 5)]) Try.isAgg70 Try.sizeOf70 rfl rfl (f1.frs.row (hw.now hF)) (f1.ix h_t28) (rd_of (Qh (f1.at h_t28)) rfl)) rfl rfl rfl ?_
    refine Vx (cs := [.int .i64 0, .int .i64 0, str [], .slice none 0 0, .slice none 0 0, .slice none 0 0]) Try.zeroValue70 rfl rfl rfl (fun b1 => ?_)
    refine Ja rfl rfl rfl (Jc (v := .int .i64 x25_2) rfl) ?_
    refine Zn (i := 1) (vs := [.int .i64 t28.Tag, .int .i64 t28.Value.Kind, str t28.Value.Text, (J6 h v1 6 (Int.toNat x25_2) 3), (J6 h v1 6 (Int.toNat x25_2) 4), (J6 h v1 6 (Int.toNat x25_2) 5)]) (cs' := [.int .i64 t28.Tag, .int .i64 t28.Value.Kind, str t28.Value.Text, (J6 h v1 6 (Int.toNat x25_2) 3), (J6 h v1 6 (Int.toNat x25_2) 4), (J6 h v1 6 (Int.toNat x25_2) 5)]) Try.sizeOf70 rfl rfl rfl rfl rfl rfl (by simp only [List.all_cons, List.all_nil, (show FrN h 6 (J6 h v1 6 (Int.toNat x25_2) 5) g_tag_Entry t28.Value.Entries from (Jv (Ji (f1.at h_t28)))).one, (show FrS h 1 (J6 h v1 6 (Int.toNat x25_2) 3) (t28.Value.Ints.map J8) from (J1 (Ji (f1.at h_t28)))).one, (show FrS h 2 (J6 h v1 6 (Int.toNat x25_2) 4) (t28.Value.Ratios.map Jr) from (J2 (Ji (f1.at h_t28)))).one] <;> rfl) rfl rfl ?_
    refine Jg ?_
    refine Jf ?_
    refine Jb ?_
    refine Ja rfl rfl rfl (Jd (v := .int .i64 t17.1) rfl) ?_
    obtain ⟨t31, h_t31, H51⟩ := Jj H50; clear H50
    refine Ja rfl rfl rfl (Qn rfl rfl h_t31) ?_
    refine Ja rfl rfl rfl (Jd (v := .int .i64 x25_2) rfl) ?_
    obtain ⟨t33, h_t33, H52⟩ := Jj H51; clear H51
    refine Ja rfl rfl rfl (r_mulG rfl rfl h_t33) ?_
    obtain ⟨t34, h_t34, H53⟩ := Jj H52; clear H52
    refine Ja rfl rfl rfl (Qn rfl rfl h_t34) ?_
    refine Ja rfl rfl rfl (Jc (v := .int .i64 t34) rfl) ?_
    refine Jg ?_
    refine Jf ?_
    refine Jb ?_
    refine Ja rfl rfl rfl (Jd (v := .pointer (some ⟨pb0, 0, none⟩)) rfl) ?_
    refine Ja rfl rfl rfl (Jd (v := .int .i64 t34) rfl) ?_
    refine Ja rfl rfl rfl (Jl Try.runUnderlying70 rfl Try.sizeOf3 rfl rfl) ?_
    refine Jq (i := 1) (v := .int .i64 t28.Tag) Try.isAgg3 rfl rfl rfl rfl rfl ?_
    obtain ⟨t39, h_t39, H54⟩ := Jj H53; clear H53
    refine Y7 (Xu (i := 0) (rds := []) (G := fun x : Unit => .tuple #[]) (C := fun x : Unit => Js pb0 [str t39.s_, .bool t39.big_] 93) rfl (fun w L' S hF hS hi hp hlt ho hA => k53 (a0 := (⟨m_3, m_4⟩ : T_tintref2_written)) hp hlt (Ym w S)  h_t39) Try.call53 rfl) rfl rfl rfl (fun _ => ?_)
    refine Jg ?_
    refine Jf ?_
    refine Jb ?_
    refine Ja rfl rfl rfl (Jd (v := .pointer (some ⟨pb0, 0, none⟩)) rfl) ?_
    refine Ja rfl rfl rfl (Jd (v := .int .i64 t34) rfl) ?_
    obtain ⟨t42, h_t42, H55⟩ := Jj H54; clear H54
    refine Ja rfl rfl rfl (Qn rfl rfl h_t42) ?_
    refine Ja rfl rfl rfl (Jl Try.runUnderlying70 rfl Try.sizeOf29 rfl rfl) ?_
    refine Ja rfl rfl rfl (Jl Try.runUnderlying29 rfl Try.sizeOf3 rfl rfl) ?_
    refine Jq (i := 1) (v := .int .i64 t28.Value.Kind) Try.isAgg3 rfl rfl rfl rfl rfl ?_
    obtain ⟨t46, h_t46, H56⟩ := Jj H55; clear H55
    refine Y7 (Xu (i := 0) (rds := []) (G := fun x : Unit => .tuple #[]) (C := fun x : Unit => Js pb0 [str t46.s_, .bool t46.big_] 93) rfl (fun w L' S hF hS hi hp hlt ho hA => k53 hp hlt (Ym w S)  h_t46) Try.call53 rfl) rfl rfl rfl (fun _ => ?_)
    refine Jg ?_
    refine Jf ?_
    refine Jb ?_
    refine Ja rfl rfl rfl (Jd (v := .pointer (some ⟨pb0, 0, none⟩)) rfl) ?_
    refine Ja rfl rfl rfl (Jd (v := .int .i64 t34) rfl) ?_
    obtain ⟨t49, h_t49, H57⟩ := Jj H56; clear H56
    refine Ja rfl rfl rfl (Qn rfl rfl h_t49) ?_
    refine Ja rfl rfl rfl (Jl Try.runUnderlying70 rfl Try.sizeOf29 rfl rfl) ?_
    refine X2 (i := 1) (vs := [.int .i64 t28.Value.Kind, str t28.Value.Text, (J6 h v1 6 (Int.toNat x25_2) 3), (J6 h v1 6 (Int.toNat x25_2) 4), (J6 h v1 6 (Int.toNat x25_2) 5)]) Try.isAgg29 Try.sizeOf29 rfl rfl rfl rfl rfl ?_
    obtain ⟨t52, h_t52, H58⟩ := Jj H57; clear H57
    refine Xa (fun w hF hS => k77 (Qf w) ((show FrS h 1 (J6 h v1 6 (Int.toNat x25_2) 3) (t28.Value.Ints.map J8) from (J1 (Ji (f1.at h_t28)))).mono (hw.now hF)) ((show FrS h 2 (J6 h v1 6 (Int.toNat x25_2) 4) (t28.Value.Ratios.map Jr) from (J2 (Ji (f1.at h_t28)))).mono (hw.now hF)) ((show FrN h 6 (J6 h v1 6 (Int.toNat x25_2) 5) g_tag_Entry t28.Value.Entries from (Jv (Ji (f1.at h_t28)))).mono (hw.now hF)) h_t52) Try.call77 rfl rfl rfl ?_
    obtain ⟨t53, h_t53, H59⟩ := Jj H58; clear H58
    refine Y7 (Xu (i := 0) (rds := []) (G := fun x : Unit => .tuple #[]) (C := fun x : Unit => Js pb0 [str t53.s_, .bool t53.big_] 93) rfl (fun w L' S hF hS hi hp hlt ho hA => k53 hp hlt (Ym w S)  h_t53) Try.call53 rfl) rfl rfl rfl (fun _ => ?_)
    refine Jg ?_
    refine Jf ?_
    refine Jf ?_
    refine Jb ?_
    refine Ja rfl rfl rfl (Jl Try.runUnderlying70 rfl Try.sizeOf29 rfl rfl) ?_
    refine Ja rfl rfl rfl (Jl Try.runUnderlying29 rfl Try.sizeOf3 rfl rfl) ?_
    refine Jq (i := 1) (v := .int .i64 t28.Value.Kind) Try.isAgg3 rfl rfl rfl rfl rfl ?_
    refine Ja rfl rfl rfl (Qq rfl rfl) ?_
    refine Jg ?_
    refine Qb (b := (decide (t28.Value.Kind = 13))) rfl (fun hb => ?_) (fun hb => ?_)
    ·have H60 := Jo hb H59; clear H59
     refine Jf ?_
     refine Jb ?_
     refine Ja rfl rfl rfl (Jd (v := .pointer (some ⟨pb0, 0, none⟩)) rfl) ?_
     refine Ja rfl rfl rfl (Jd (v := .int .i64 t34) rfl) ?_
     obtain ⟨t60, h_t60, H61⟩ := Jj H60; clear H60
     refine Ja rfl rfl rfl (Qn rfl rfl h_t60) ?_
     refine Ja rfl rfl rfl (Jd (v := .pointer (some ⟨pb0, 0, none⟩)) rfl) ?_
     refine Ja rfl rfl rfl (Jl Try.runUnderlying70 rfl Try.sizeOf29 rfl rfl) ?_
     refine Ja rfl rfl rfl (Jl Try.runUnderlying29 rfl Try.sizeOf27 rfl rfl) ?_
     refine Jq (i := 1) (v := (J6 h v1 6 (Int.toNat x25_2) 5)) Try.isAgg27 rfl rfl rfl rfl rfl ?_
     obtain ⟨t65, h_t65, H62⟩ := Jj H61; clear H61
     refine Y7 (Xu (i := 0) (rds := []) (G := fun x : Unit => .int .i64 t65.1) (C := fun x : Unit => Js pb0 [str t65.2.s_, .bool t65.2.big_] 93) rfl (fun w L' S hF hS hi hp hlt ho hA => ih hp hlt (Ym w S) ((show FrN h 6 (J6 h v1 6 (Int.toNat x25_2) 5) g_tag_Entry t28.Value.Entries from (Jv (Ji (f1.at h_t28)))).mono (hw.but hF ho)) h_t65) Try.call52 rfl) rfl rfl rfl (fun _ => ?_)
     obtain ⟨t66, h_t66, H63⟩ := Jj H62; clear H62
     refine Y7 (Xu (i := 0) (rds := []) (G := fun x : Unit => .tuple #[]) (C := fun x : Unit => Js pb0 [str t66.s_, .bool t66.big_] 93) rfl (fun w L' S hF hS hi hp hlt ho hA => k53 hp hlt (Ym w S)  h_t66) Try.call53 rfl) rfl rfl rfl (fun _ => ?_)
     refine Jg ?_
     refine Xq ?_
     refine Jn (t66.s_, t66.big_) () 0 [0] (by exact ⟨rfl, rfl, rfl, rfl, rfl, trivial⟩) (by decide) (by kernel_rfl) (by exact ⟨H63, trivial⟩) (Nat.lt_succ_self _)
    ·have H64 := Jp hb H59; clear H59
     refine Jt ?_
     refine Jf ?_
     exact Q6 (Kd.p :: Kd.p :: Kd.p :: Kd.d [0] _ :: Kd.p :: Kd.d [1] _ :: Kd.d [] _ :: Kd.p :: []) 0 mixed (by
      refine Jk rfl rfl (Jd (v := .pointer (some ⟨pb0, 0, none⟩)) rfl) ?_
      refine Jk rfl rfl (Q9 rfl) ?_
      refine Jk rfl rfl (Jl Try.runUnderlying93 rfl Try.sizeOf4 rfl rfl) ?_
      refine Xk (i := 0) (v := .bool t53.big_) Try.isAgg4 rfl rfl rfl rfl ?_
      refine Jk rfl rfl (Jl Try.runUnderlying70 rfl Try.sizeOf29 rfl rfl) ?_
      refine d_loadN (i := 1) (vs := [.int .i64 t28.Value.Kind, str t28.Value.Text, (J6 h v1 6 (Int.toNat x25_2) 3), (J6 h v1 6 (Int.toNat x25_2) 4), (J6 h v1 6 (Int.toNat x25_2) 5)]) Try.isAgg29 Try.sizeOf29 rfl rfl rfl rfl ?_
      have h_t73 := J4 H64
      have H65 := Jw H64
      refine d_callD (fun w L' hF hS hi => k78 (Qf w) ((show FrS h 1 (J6 h v1 6 (Int.toNat x25_2) 3) (t28.Value.Ints.map J8) from (J1 (Ji (f1.at h_t28)))).mono (hw.now hF)) ((show FrS h 2 (J6 h v1 6 (Int.toNat x25_2) 4) (t28.Value.Ratios.map Jr) from (J2 (Ji (f1.at h_t28)))).mono (hw.now hF)) ((show FrN h 6 (J6 h v1 6 (Int.toNat x25_2) 5) g_tag_Entry t28.Value.Entries from (Jv (Ji (f1.at h_t28)))).mono (hw.now hF)) h_t73) Try.call78 rfl rfl ?_
      refine Jk rfl rfl (Jc (v := str (val (X8 t53.big_ t28.Value))) rfl) ?_
      refine Yp ?_
      refine Jf ?_
      refine Jf ?_
      refine Jb ?_
      refine Ja rfl rfl rfl (Jd (v := str (val (X8 t53.big_ t28.Value))) rfl) ?_
      refine Ja rfl rfl rfl (r_lenT Try.underlying9 rfl) ?_
      refine Ja rfl rfl rfl (Z0 rfl rfl) ?_
      refine Jg ?_
      refine Qb (b := (decide (4 < ((val (X8 t53.big_ t28.Value)).length : Int)))) rfl (fun hb => ?_) (fun hb => ?_)
      ·have H66 := Jo hb H65; clear H65
       refine Jf ?_
       refine Jb ?_
       refine Ja rfl rfl rfl (Jd (v := .pointer (some ⟨pb0, 0, none⟩)) rfl) ?_
       refine Ja rfl rfl rfl (Jd (v := .int .i64 t34) rfl) ?_
       obtain ⟨t79, h_t79, H67⟩ := Jj H66; clear H66
       refine Ja rfl rfl rfl (Qn rfl rfl h_t79) ?_
       refine Ja rfl rfl rfl (Jd (v := .pointer (some ⟨pb0, 0, none⟩)) rfl) ?_
       refine Ja rfl rfl rfl (Jd (v := str (val (X8 t53.big_ t28.Value))) rfl) ?_
       obtain ⟨t82, h_t82, H68⟩ := Jj H67; clear H67
       refine Y7 (Xu (i := 0) (rds := []) (G := fun x : Unit => .int .i64 t82.1) (C := fun x : Unit => Js pb0 [str t82.2.s_, .bool t82.2.big_] 93) rfl (fun w L' S hF hS hi hp hlt ho hA => k75 hp hlt (Ym w S)  h_t82) Try.call75 rfl) rfl rfl rfl (fun _ => ?_)
       obtain ⟨t83, h_t83, H69⟩ := Jj H68; clear H68
       refine Y7 (Xu (i := 0) (rds := []) (G := fun x : Unit => .tuple #[]) (C := fun x : Unit => Js pb0 [str t83.s_, .bool t83.big_] 93) rfl (fun w L' S hF hS hi hp hlt ho hA => k53 hp hlt (Ym w S)  h_t83) Try.call53 rfl) rfl rfl rfl (fun _ => ?_)
       refine Jg ?_
       refine Xq ?_
       refine Jn (t83.s_, t83.big_) () 0 [0] (by exact ⟨rfl, rfl, rfl, rfl, rfl, trivial⟩) (by decide) (by kernel_rfl) (by exact ⟨H69, trivial⟩) (Nat.lt_succ_self _)
      ·have H70 := Jp hb H65; clear H65
       refine Jt ?_
       exact Q6 (Kd.p :: Kd.p :: Kd.p :: Kd.p :: Kd.d [0] _ :: Kd.p :: Kd.p :: Kd.p :: Kd.p :: Kd.p :: Kd.p :: Kd.p :: Kd.p :: Kd.d [0] _ :: Kd.p :: Kd.p :: Kd.p :: Kd.p :: Kd.p :: Kd.p :: Kd.p :: Kd.p :: Kd.p :: Kd.st 106 0 [_, _] 93 :: []) 0 mixed (by
        refine Jk rfl rfl (Jd (v := .pointer (some ⟨pb0, 0, none⟩)) rfl) ?_
        refine Jk rfl rfl (Jd (v := .pointer (some ⟨pb0, 0, none⟩)) rfl) ?_
        refine Jk rfl rfl (Q9 rfl) ?_
        refine Jk rfl rfl (Jl Try.runUnderlying93 rfl Try.sizeOf9 rfl rfl) ?_
        refine Xk (i := 0) (v := str t53.s_) Try.isAgg9 rfl rfl rfl rfl ?_
        refine Jk rfl rfl (Jd (v := .int .i64 t34) rfl) ?_
        have h_t90 := J4 H70
        have H71 := Jw H70
        refine Jk rfl rfl (Qn rfl rfl h_t90) ?_
        have h_t91 := J4 H71
        have H72 := Jw H71
        refine Jk rfl rfl (r_cutToG Try.underlying9 rfl rfl h_t91) ?_
        refine Jk rfl rfl (Jd (v := str (val (X8 t53.big_ t28.Value))) rfl) ?_
        have h_t93 := J4 H72
        have H73 := Jw H72
        refine Jk rfl rfl (Zh rfl rfl h_t93) ?_
        refine Jk rfl rfl (Jd (v := .pointer (some ⟨pb0, 0, none⟩)) rfl) ?_
        refine Jk rfl rfl (Q9 rfl) ?_
        refine Jk rfl rfl (Jl Try.runUnderlying93 rfl Try.sizeOf9 rfl rfl) ?_
        refine Xk (i := 0) (v := str t53.s_) Try.isAgg9 rfl rfl rfl rfl ?_
        refine Jk rfl rfl (Jd (v := .int .i64 t34) rfl) ?_
        have h_t99 := J4 H73
        have H74 := Jw H73
        refine Jk rfl rfl (Qn rfl rfl h_t99) ?_
        refine Jk rfl rfl (Jd (v := str (val (X8 t53.big_ t28.Value))) rfl) ?_
        refine Jk rfl rfl (r_lenT Try.underlying9 rfl) ?_
        have h_t102 := J4 H74
        have H75 := Jw H74
        refine Jk rfl rfl (Qn rfl rfl h_t102) ?_
        have h_t103 := J4 H75
        have H76 := Jw H75
        refine Jk rfl rfl (r_cutFromG Try.underlying9 rfl rfl h_t103) ?_
        have h_t104 := J4 H76
        have H77 := Jw H76
        refine Jk rfl rfl (Zh rfl rfl h_t104) ?_
        refine Jk rfl rfl (Q9 rfl) ?_
        refine Jk rfl rfl (Jl Try.runUnderlying93 rfl Try.sizeOf9 rfl rfl) ?_
        refine d_store (i := 0) (vs := [str (val (Vp (val (Vp (val (Wp t53.s_ 0 (val (gI (t34 + 8))))) (val (X8 t53.big_ t28.Value)))) (val (Wp t53.s_ (val (gI ((val (gI (t34 + 8))) + ((val (X8 t53.big_ t28.Value)).length : Int)))) t53.s_.length))))]) (cs' := [str (val (Vp (val (Vp (val (Wp t53.s_ 0 (val (gI (t34 + 8))))) (val (X8 t53.big_ t28.Value)))) (val (Wp t53.s_ (val (gI ((val (gI (t34 + 8))) + ((val (X8 t53.big_ t28.Value)).length : Int)))) t53.s_.length)))), .bool t53.big_]) Try.sizeOf9 rfl rfl rfl rfl rfl rfl rfl rfl rfl ?_
        refine Yp ?_
        refine Jn ((val (Vp (val (Vp (val (Wp t53.s_ 0 (val (gI (t34 + 8))))) (val (X8 t53.big_ t28.Value)))) (val (Wp t53.s_ (val (gI ((val (gI (t34 + 8))) + ((val (X8 t53.big_ t28.Value)).length : Int)))) t53.s_.length)))), t53.big_) () 0 [0] (by exact ⟨rfl, rfl, rfl, rfl, rfl, trivial⟩) (by decide) (by kernel_rfl) (by exact ⟨H77, trivial⟩) (Nat.lt_succ_self _)
        ) (by kernel_rfl)
      ) (by kernel_rfl)
   ·rintro ⟨m_5, m_6⟩ _ gg H48 _
    replace H48 : Ye x25_2 next1 m_5 m_6 = some r := H48
    try dsimp only
    refine Jb ?_
    obtain ⟨t107, h_t107, H49⟩ := Jj H48; clear H48
    refine Ja rfl rfl rfl (Qn rfl rfl h_t107) ?_
    refine Ja rfl rfl rfl (Jd (v := .int .i64 t107) rfl) ?_
    refine Jg ?_
    refine Jn (t107, m_5, m_6) () m1 [0] (by exact ⟨rfl, rfl, rfl, rfl, rfl, trivial⟩) (by decide) (by kernel_rfl) (by exact ⟨(by subst hn1; exact H49), trivial⟩) (Nat.lt_succ_self _)
  ·have H78 := Jp hb H46; clear H46
   refine Xq ?_
   refine Jf ?_
   refine Jb ?_
   refine Ja rfl rfl rfl (Jd (v := .int .i64 t17.1) rfl) ?_
   refine Ja rfl rfl rfl (Jc (v := .int .i64 t17.1) rfl) ?_
   refine Jg ?_
   refine Ju ?_
   obtain rfl := Option.some.inj H78
   refine Qa (v := .int .i64 t17.1) rfl rfl (finX () (i := 0) rfl rfl (Imp.refl _))
theorem k52 {a0 : T_tintref2_written} {pb0 : Nat} {a1 : (List T_tag_Entry)} {v1 : Value} {r : Int × T_tintref2_written} {w : World} {h : Jy} {S : Nat → Prop} (hcs : (Js pb0 [str a0.s_, .bool a0.big_] 93).P S w) (hlt : ∀ b, S b → b < w.heap.size) (hw : Know h w S) (f1 : FrN h 6 v1 g_tag_Entry a1) (H : W4 a0 a1 = some r) : Does Try.prog 52 (List.toArray [.pointer (some ⟨pb0, 0, none⟩), v1]) w (fun v w' => ∃ x : Unit, v = (.int .i64 r.1) ∧ Turn w w' S (Js pb0 [str r.2.s_, .bool r.2.big_] 93)) := by
 obtain ⟨mm, hm⟩ := fix_it (show Z5 (fun (self : (T_tintref2_written × (List T_tag_Entry)) → Option (Int × T_tintref2_written)) (s : T_tintref2_written × (List T_tag_Entry)) => Xn self s.1 s.2) (a0, a1) = some r from H)
 exact k52_it mm hcs hlt hw f1 hm
theorem k21 {a0 : T_tag_File} {v0_1 : Value} {r : (List UInt8)} {w : World} {h : Jy} (hw : Know h w Zc) (f0_1 : FrN h 1 v0_1 gs_tag_Entry a0.Dirs) (H : R_Octets a0 = some r) : Does Try.prog 21 (List.toArray [.agg #[.bool a0.Big, v0_1]]) w (fun v w' => v = (str r) ∧ Grow w w') := by
 refine enter (n := 59) Try.func21 rfl rfl rfl Zc [] (Sat.nil _ _) ?_
 refine Jf ?_
 refine Jb ?_
 refine Vi (cs := [.bool a0.Big, v0_1]) rfl rfl rfl rfl (fun b2 => ?_)
 refine Ja rfl rfl rfl (Jc (v := str []) rfl) ?_
 refine Jg ?_
 refine Jf ?_
 refine Jb ?_
 refine Ja rfl rfl rfl (Jl Try.runUnderlying24 rfl Try.sizeOf4 rfl rfl) ?_
 refine Jq (i := 0) (v := .bool a0.Big) Try.isAgg4 rfl rfl rfl rfl rfl ?_
 refine Ja rfl rfl rfl (r_build (pl := #[(0, 1), (1, 1)]) (ps := [(1, .bool a0.Big)]) (cells := #[str [], .bool a0.Big]) Try.zeroValue93 Try.runUnderlying93 (fun w => by kernel_rfl) rfl rfl) ?_
 refine Vi (cs := [str [], .bool a0.Big]) rfl rfl rfl rfl (fun b3 => ?_)
 refine Ja rfl rfl rfl (Jc (v := .pointer (some ⟨b3, 0, none⟩)) rfl) ?_
 refine Jg ?_
 refine Jf ?_
 refine Jb ?_
 refine Ja rfl rfl rfl (Jd (v := .pointer (some ⟨b3, 0, none⟩)) rfl) ?_
 refine Ja rfl rfl rfl (Q9 rfl) ?_
 refine Ja rfl rfl rfl (Jl Try.runUnderlying93 rfl Try.sizeOf9 rfl rfl) ?_
 refine Zn (i := 1) (vs := [str [73, 73]]) (cs' := [str [73, 73], .bool a0.Big]) Try.sizeOf9 rfl rfl rfl rfl rfl rfl rfl rfl rfl ?_
 refine Jg ?_
 refine Qw (r := r) (σ := (List UInt8)) (τ := Unit) (fun s => Wb a0 s) (fun s t => [(1, .pointer (some ⟨b2, 0, none⟩)), (3, .pointer (some ⟨b3, 0, none⟩))]) (fun s t => [Js b2 [.bool a0.Big, v0_1] 24, Js b3 [str s, .bool a0.Big] 93]) (fun s t => True) ?_ ?_
 ·refine Jf ?_
  refine Jb ?_
  refine Ja rfl rfl rfl (Jl Try.runUnderlying24 rfl Try.sizeOf4 rfl rfl) ?_
  refine Jq (i := 0) (v := .bool a0.Big) Try.isAgg4 rfl rfl rfl rfl rfl ?_
  refine Jg ?_
  refine Qb (b := a0.Big) rfl (fun hb => ?_) (fun hb => ?_)
  ·have H35 := Jo hb H; clear H
   refine Jb ?_
   refine Ja rfl rfl rfl (Jd (v := .pointer (some ⟨b3, 0, none⟩)) rfl) ?_
   refine Ja rfl rfl rfl (Q9 rfl) ?_
   refine Ja rfl rfl rfl (Jl Try.runUnderlying93 rfl Try.sizeOf9 rfl rfl) ?_
   refine Zn (i := 1) (vs := [str [77, 77]]) (cs' := [str [77, 77], .bool a0.Big]) Try.sizeOf9 rfl rfl rfl rfl rfl rfl rfl rfl rfl ?_
   refine Jg ?_
   refine Jn [77, 77] () 0 [0, 1] (by exact ⟨rfl, rfl, trivial⟩) (by decide) (by kernel_rfl) (by exact ⟨H35, trivial⟩) (Nat.lt_succ_self _)
  ·have H36 := Jp hb H; clear H
   refine Jt ?_
   refine Jn [73, 73] () 0 [0, 1] (by exact ⟨rfl, rfl, trivial⟩) (by decide) (by kernel_rfl) (by exact ⟨H36, trivial⟩) (Nat.lt_succ_self _)
 ·rintro m _ gg H19 _
  replace H19 : Wb a0 m = some r := H19
  try dsimp only
  refine Jf ?_
  exact Q6 (Kd.p :: Kd.p :: Kd.p :: Kd.d [1] _ :: Kd.p :: Kd.d [0] _ :: Kd.d [] _ :: Kd.p :: Kd.d [0] _ :: Kd.d [] _ :: Kd.p :: Kd.p :: Kd.p :: Kd.p :: Kd.st 33 1 [_, _] 93 :: []) 0 mixed (by
   refine Jk rfl rfl (Jd (v := .pointer (some ⟨b3, 0, none⟩)) rfl) ?_
   refine Jk rfl rfl (Q9 rfl) ?_
   refine Jk rfl rfl (Jl Try.runUnderlying93 rfl Try.sizeOf9 rfl rfl) ?_
   refine Xk (i := 1) (v := str m) Try.isAgg9 rfl rfl rfl rfl ?_
   refine Jk rfl rfl (Jl Try.runUnderlying24 rfl Try.sizeOf4 rfl rfl) ?_
   refine Xk (i := 0) (v := .bool a0.Big) Try.isAgg4 rfl rfl rfl rfl ?_
   have h_t26 := J4 H19
   have H20 := Jw H19
   refine d_call (k51 h_t26) Try.call51 rfl rfl ?_
   refine Jk rfl rfl (Jl Try.runUnderlying24 rfl Try.sizeOf4 rfl rfl) ?_
   refine Xk (i := 0) (v := .bool a0.Big) Try.isAgg4 rfl rfl rfl rfl ?_
   have h_t29 := J4 H20
   have H21 := Jw H20
   refine d_call (k51 h_t29) Try.call51 rfl rfl ?_
   have h_t30 := J4 H21
   have H22 := Jw H21
   refine Jk rfl rfl (Zh rfl rfl h_t30) ?_
   have h_t31 := J4 H22
   have H23 := Jw H22
   refine Jk rfl rfl (Zh rfl rfl h_t31) ?_
   refine Jk rfl rfl (Q9 rfl) ?_
   refine Jk rfl rfl (Jl Try.runUnderlying93 rfl Try.sizeOf9 rfl rfl) ?_
   refine d_store (i := 1) (vs := [str (val (Vp m (val (Vp (val (Xi a0.Big 42 2)) (val (Xi a0.Big 0 4))))))]) (cs' := [str (val (Vp m (val (Vp (val (Xi a0.Big 42 2)) (val (Xi a0.Big 0 4)))))), .bool a0.Big]) Try.sizeOf9 rfl rfl rfl rfl rfl rfl rfl rfl rfl ?_
   refine Yp ?_
   refine Jf ?_
   refine Jb ?_
   refine Ja rfl rfl rfl (Jc (v := .int .i64 4) rfl) ?_
   refine Jg ?_
   refine Qw (r := r) (σ := (List UInt8) × Bool) (τ := Unit) (fun s => R_Octets_j2 s.1 s.2) (fun s t => [(3, .pointer (some ⟨b3, 0, none⟩))]) (fun s t => [Js b3 [str s.1, .bool s.2] 93]) (fun s t => True) ?_ ?_
   ·refine Jf ?_
    refine Jb ?_
    refine Ja rfl rfl rfl (Jl Try.runUnderlying24 rfl Try.sizeOf22 rfl rfl) ?_
    refine Jq (i := 0) (v := v0_1) Try.isAgg22 rfl rfl rfl rfl rfl ?_
    refine Ja rfl rfl rfl (Qu Try.underlying22 rfl f0_1) ?_
    refine Ja rfl rfl rfl (Jd (v := .int .i64 0) rfl) ?_
    refine Jg ?_
    refine J0 ?_
    refine c_dr 0 ?_
    try dsimp only [z1, z2, z3, z4, z5, z6, z7, z8]
    refine Zb (σ := Int × Int × (List UInt8) × Bool) (τ := Unit) (fun next3 s => Y1 a0 next3 s.1 s.2.1 s.2.2.1 s.2.2.2) (fun s t => [(3, .pointer (some ⟨b3, 0, none⟩)), (4, .int .i64 s.1), (35, v0_1), (36, .int .i64 (a0.Dirs.length : Int)), (37, .int .i64 s.2.1)]) (fun s t => [Js b3 [str s.2.2.1, .bool s.2.2.2] 93]) (fun s t => True) (4, 0, (val (Vp m (val (Vp (val (Xi a0.Big 42 2)) (val (Xi a0.Big 0 4)))))), a0.Big) () [0] H23 (by exact trivial) (by exact ⟨rfl, rfl, rfl, rfl, rfl, trivial⟩) (by decide) rfl ?_
    rintro ⟨x4_2, x37_2, m_6, m_7⟩ _ m3 gg H25 _
    clear H23
    replace H25 : Y1 a0 (it (fun next3 s => Y1 a0 next3 s.1 s.2.1 s.2.2.1 s.2.2.2) m3) x4_2 x37_2 m_6 m_7 = some r := H25
    generalize hn3 : it (fun next3 s => Y1 a0 next3 s.1 s.2.1 s.2.2.1 s.2.2.2) m3 = next3 at H25
    try dsimp only
    refine Jf ?_
    refine Jb ?_
    refine Ja rfl rfl rfl (Xy rfl rfl) ?_
    refine Jg ?_
    refine Jf ?_
    refine Qb (b := (decide (x37_2 < (a0.Dirs.length : Int)))) rfl (fun hb => ?_) (fun hb => ?_)
    ·have H26 := Jo hb H25; clear H25
     refine Jt ?_
     refine Jf ?_
     refine J0 ?_
     refine Jf ?_
     refine Jb ?_
     obtain ⟨t39, h_t39, H27⟩ := Jj H26; clear H26
     refine Ja rfl rfl rfl (Qe Try.underlying22 Try.sizeOf27 rfl rfl f0_1.frs (f0_1.ix h_t39)) ?_
     refine Xl (fun w hF hS => Qk (f := (V2 h v0_1 1)) (i := x37_2) (sz := 1) (j := 0) (v := (J6 h v0_1 1 (Int.toNat x37_2) 0)) Try.isAgg27 rfl rfl (f0_1.frs.row (hw.now hF)) (f0_1.ix h_t39) (Vj (X5 (f0_1.at h_t39)) rfl)) rfl rfl rfl ?_
     refine Ja rfl rfl rfl (Jc (v := (J6 h v0_1 1 (Int.toNat x37_2) 0)) rfl) ?_
     refine Jg ?_
     refine Jf ?_
     refine Jb ?_
     refine Ja rfl rfl rfl (Jd (v := .pointer (some ⟨b3, 0, none⟩)) rfl) ?_
     refine Ja rfl rfl rfl (Jd (v := (J6 h v0_1 1 (Int.toNat x37_2) 0)) rfl) ?_
     obtain ⟨t43, h_t43, H28⟩ := Jj H27; clear H27
     refine Y7 (Xu (i := 0) (rds := []) (G := fun x : Unit => .int .i64 t43.1) (C := fun x : Unit => Js b3 [str t43.2.s_, .bool t43.2.big_] 93) rfl (fun w L' S hF hS hi hp hlt ho hA => k52 (a0 := (⟨m_6, m_7⟩ : T_tintref2_written)) hp hlt (Ym w S) ((show FrN h 6 (J6 h v0_1 1 (Int.toNat x37_2) 0) g_tag_Entry t39 from (f0_1.at h_t39)).mono (hw.but hF ho)) h_t43) Try.call52 rfl) rfl rfl rfl (fun _ => ?_)
     refine Ja rfl rfl rfl (Jc (v := .int .i64 t43.1) rfl) ?_
     refine Jg ?_
     refine Jf ?_
     refine Jb ?_
     refine Ja rfl rfl rfl (Jd (v := .pointer (some ⟨b3, 0, none⟩)) rfl) ?_
     refine Ja rfl rfl rfl (Jd (v := .int .i64 x4_2) rfl) ?_
     refine Ja rfl rfl rfl (Jd (v := .int .i64 t43.1) rfl) ?_
     obtain ⟨t47, h_t47, H29⟩ := Jj H28; clear H28
     refine Y7 (Xu (i := 0) (rds := []) (G := fun x : Unit => .tuple #[]) (C := fun x : Unit => Js b3 [str t47.s_, .bool t47.big_] 93) rfl (fun w L' S hF hS hi hp hlt ho hA => k53 hp hlt (Ym w S)  h_t47) Try.call53 rfl) rfl rfl rfl (fun _ => ?_)
     refine Jg ?_
     refine Jb ?_
     refine Ja rfl rfl rfl (Jd (v := .int .i64 t43.1) rfl) ?_
     obtain ⟨t49, h_t49, H30⟩ := Jj H29; clear H29
     refine Ja rfl rfl rfl (Qn rfl rfl h_t49) ?_
     refine Ja rfl rfl rfl (Jd (v := (J6 h v0_1 1 (Int.toNat x37_2) 0)) rfl) ?_
     refine Ja rfl rfl rfl (Qu Try.underlying27 rfl (show FrN h 6 (J6 h v0_1 1 (Int.toNat x37_2) 0) g_tag_Entry t39 from (f0_1.at h_t39))) ?_
     obtain ⟨t52, h_t52, H31⟩ := Jj H30; clear H30
     refine Ja rfl rfl rfl (r_mulG rfl rfl h_t52) ?_
     obtain ⟨t53, h_t53, H32⟩ := Jj H31; clear H31
     refine Ja rfl rfl rfl (Qn rfl rfl h_t53) ?_
     refine Ja rfl rfl rfl (Jc (v := .int .i64 t53) rfl) ?_
     refine Jg ?_
     refine Jb ?_
     obtain ⟨t54, h_t54, H33⟩ := Jj H32; clear H32
     refine Ja rfl rfl rfl (Qn rfl rfl h_t54) ?_
     refine Ja rfl rfl rfl (Jd (v := .int .i64 t54) rfl) ?_
     refine Jg ?_
     refine Jn (t53, t54, t47.s_, t47.big_) () m3 [0] (by exact ⟨rfl, rfl, rfl, rfl, rfl, trivial⟩) (by decide) (by kernel_rfl) (by exact ⟨(by subst hn3; exact H33), trivial⟩) (Nat.lt_succ_self _)
    ·have H34 := Jp hb H25; clear H25
     refine Xq ?_
     refine Jn (m_6, m_7) () 0 [0] (by exact ⟨rfl, trivial⟩) (by decide) (by kernel_rfl) (by exact ⟨H34, trivial⟩) (Nat.lt_succ_self _)
   ·rintro ⟨m_2, m_3⟩ _ gg H24 _
    replace H24 : R_Octets_j2 m_2 m_3 = some r := H24
    try dsimp only
    refine Jf ?_
    refine Jb ?_
    refine Ja rfl rfl rfl (Jd (v := .pointer (some ⟨b3, 0, none⟩)) rfl) ?_
    refine Ja rfl rfl rfl (Q9 rfl) ?_
    refine Ja rfl rfl rfl (Jl Try.runUnderlying93 rfl Try.sizeOf9 rfl rfl) ?_
    refine Jq (i := 0) (v := str m_2) Try.isAgg9 rfl rfl rfl rfl rfl ?_
    refine Ja rfl rfl rfl (Jc (v := str m_2) rfl) ?_
    refine Jg ?_
    refine Ju ?_
    obtain rfl := Option.some.inj H24
    refine Qa (v := str m_2) rfl rfl (fin rfl)
   ) (by kernel_rfl)
theorem k5 {a0 : T_tag_File} {v0_1 : Value} {r : Int} {w : World} {h : Jy} (hw : Know h w Zc) (f0_1 : FrN h 1 v0_1 gs_tag_Entry a0.Dirs) (H : W7 a0 = some r) : Does Try.prog 5 (List.toArray [.agg #[.bool a0.Big, v0_1]]) w (fun v w' => v = (.int .i64 r) ∧ Grow w w') := by
 refine enter (n := 27) Try.func5 rfl rfl rfl Zc [] (Sat.nil _ _) ?_
 refine Jf ?_
 refine Jb ?_
 refine Vi (cs := [.bool a0.Big, v0_1]) rfl rfl rfl rfl (fun b1 => ?_)
 refine Ja rfl rfl rfl (Jc (v := .int .i64 0) rfl) ?_
 refine Jg ?_
 refine Jf ?_
 refine Jf ?_
 refine Jb ?_
 refine Ja rfl rfl rfl (Jl Try.runUnderlying24 rfl Try.sizeOf22 rfl rfl) ?_
 refine Jq (i := 0) (v := v0_1) Try.isAgg22 rfl rfl rfl rfl rfl ?_
 refine Ja rfl rfl rfl (Qu Try.underlying22 rfl f0_1) ?_
 refine Ja rfl rfl rfl (Z0 rfl rfl) ?_
 refine Jg ?_
 refine Qb (b := (decide (20 < (a0.Dirs.length : Int)))) rfl (fun hb => ?_) (fun hb => ?_)
 ·have H15 := Jo hb H; clear H
  refine Jf ?_
  refine Jb ?_
  refine Ja rfl rfl rfl (Jc (v := .int .i64 4) rfl) ?_
  refine Jg ?_
  refine Ju ?_
  obtain rfl := Option.some.inj H15
  refine Qa (v := .int .i64 4) rfl rfl (fin rfl)
 ·have H16 := Jp hb H; clear H
  refine Jt ?_
  refine Qw (r := r) (σ := Unit) (τ := Unit) (fun s => Wl a0) (fun s t => [(1, .pointer (some ⟨b1, 0, none⟩))]) (fun s t => [Js b1 [.bool a0.Big, v0_1] 24]) (fun s t => True) ?_ ?_
  ·refine Jf ?_
   refine Jb ?_
   refine Ja rfl rfl rfl (Jl Try.runUnderlying24 rfl Try.sizeOf22 rfl rfl) ?_
   refine Jq (i := 0) (v := v0_1) Try.isAgg22 rfl rfl rfl rfl rfl ?_
   refine Ja rfl rfl rfl (Qu Try.underlying22 rfl f0_1) ?_
   refine Ja rfl rfl rfl (Jd (v := .int .i64 0) rfl) ?_
   refine Jg ?_
   refine J0 ?_
   refine Zb (σ := Int) (τ := Unit) (fun next2 s => Xv a0 next2 s) (fun s t => [(1, .pointer (some ⟨b1, 0, none⟩)), (11, v0_1), (12, .int .i64 (a0.Dirs.length : Int)), (13, .int .i64 s)]) (fun s t => [Js b1 [.bool a0.Big, v0_1] 24]) (fun s t => True) 0 () [0] H16 (by exact trivial) (by exact ⟨rfl, rfl, rfl, rfl, trivial⟩) (by decide) rfl ?_
   rintro x13_2 _ m2 gg H21 _
   clear H16
   replace H21 : Xv a0 (it (fun next2 s => Xv a0 next2 s) m2) x13_2 = some r := H21
   generalize hn2 : it (fun next2 s => Xv a0 next2 s) m2 = next2 at H21
   try dsimp only
   refine Jf ?_
   refine Jb ?_
   refine Ja rfl rfl rfl (Xy rfl rfl) ?_
   refine Jg ?_
   refine Jf ?_
   refine Qb (b := (decide (x13_2 < (a0.Dirs.length : Int)))) rfl (fun hb => ?_) (fun hb => ?_)
   ·have H22 := Jo hb H21; clear H21
    refine Jt ?_
    refine Jf ?_
    refine J0 ?_
    refine Jf ?_
    refine Jb ?_
    obtain ⟨t15, h_t15, H23⟩ := Jj H22; clear H22
    refine Ja rfl rfl rfl (Qe Try.underlying22 Try.sizeOf27 rfl rfl f0_1.frs (f0_1.ix h_t15)) ?_
    refine Xl (fun w hF hS => Qk (f := (V2 h v0_1 1)) (i := x13_2) (sz := 1) (j := 0) (v := (J6 h v0_1 1 (Int.toNat x13_2) 0)) Try.isAgg27 rfl rfl (f0_1.frs.row (hw.now hF)) (f0_1.ix h_t15) (Vj (X5 (f0_1.at h_t15)) rfl)) rfl rfl rfl ?_
    refine Ja rfl rfl rfl (Jc (v := (J6 h v0_1 1 (Int.toNat x13_2) 0)) rfl) ?_
    refine Jg ?_
    refine Jf ?_
    refine Jb ?_
    refine Ja rfl rfl rfl (Jd (v := (J6 h v0_1 1 (Int.toNat x13_2) 0)) rfl) ?_
    obtain ⟨t18, h_t18, H24⟩ := Jj H23; clear H23
    refine Xa (fun w hF hS => k20 (Qf w) ((show FrN h 6 (J6 h v0_1 1 (Int.toNat x13_2) 0) g_tag_Entry t15 from (f0_1.at h_t15)).mono (hw.now hF)) h_t18) Try.call20 rfl rfl rfl ?_
    refine Ja rfl rfl rfl (Jc (v := .int .i64 t18) rfl) ?_
    refine Jg ?_
    refine Jf ?_
    refine Jb ?_
    refine Ja rfl rfl rfl (Jd (v := .int .i64 t18) rfl) ?_
    refine Ja rfl rfl rfl (V0 rfl rfl) ?_
    refine Jg ?_
    refine Qb (b := (decide (t18 ≠ 0))) rfl (fun hb => ?_) (fun hb => ?_)
    ·have H25 := Jo hb H24; clear H24
     refine Jf ?_
     refine Jb ?_
     refine Ja rfl rfl rfl (Jd (v := .int .i64 t18) rfl) ?_
     refine Ja rfl rfl rfl (Jc (v := .int .i64 t18) rfl) ?_
     refine Jg ?_
     refine Ju ?_
     obtain rfl := Option.some.inj H25
     refine Qa (v := .int .i64 t18) rfl rfl (fin rfl)
    ·have H26 := Jp hb H24; clear H24
     refine Jt ?_
     refine Jb ?_
     obtain ⟨t22, h_t22, H27⟩ := Jj H26; clear H26
     refine Ja rfl rfl rfl (Qn rfl rfl h_t22) ?_
     refine Ja rfl rfl rfl (Jd (v := .int .i64 t22) rfl) ?_
     refine Jg ?_
     refine Jn t22 () m2 [0] (by exact ⟨rfl, rfl, rfl, rfl, trivial⟩) (by decide) (by kernel_rfl) (by exact ⟨(by subst hn2; exact H27), trivial⟩) (Nat.lt_succ_self _)
   ·have H28 := Jp hb H21; clear H21
    refine Xq ?_
    refine Jn () () 0 [0] (by exact ⟨rfl, trivial⟩) (by decide) (by kernel_rfl) (by exact ⟨H28, trivial⟩) (Nat.lt_succ_self _)
  ·rintro _ _ gg H17 _
   replace H17 : Wl a0 = some r := H17
   try dsimp only
   refine Jf ?_
   refine Jf ?_
   refine Jb ?_
   refine X2 (i := 0) (vs := [.bool a0.Big, v0_1]) Try.isAgg24 Try.sizeOf24 rfl rfl rfl rfl rfl ?_
   obtain ⟨t24, h_t24, H18⟩ := Jj H17; clear H17
   refine Xa (fun w hF hS => k21 (Qf w) (f0_1.mono (hw.now hF)) h_t24) Try.call21 rfl rfl rfl ?_
   refine Ja rfl rfl rfl (r_lenT Try.underlying9 rfl) ?_
   refine Ja rfl rfl rfl (Z0 rfl rfl) ?_
   refine Jg ?_
   refine Qb (b := (decide (65000 < (t24.length : Int)))) rfl (fun hb => ?_) (fun hb => ?_)
   ·have H19 := Jo hb H18; clear H18
    refine Jf ?_
    refine Jb ?_
    refine Ja rfl rfl rfl (Jc (v := .int .i64 4) rfl) ?_
    refine Jg ?_
    refine Ju ?_
    obtain rfl := Option.some.inj H19
    refine Qa (v := .int .i64 4) rfl rfl (fin rfl)
   ·have H20 := Jp hb H18; clear H18
    refine Jt ?_
    refine Jf ?_
    refine Jb ?_
    refine Ja rfl rfl rfl (Jc (v := .int .i64 0) rfl) ?_
    refine Jg ?_
    refine Ju ?_
    obtain rfl := Option.some.inj H20
    refine Qa (v := .int .i64 0) rfl rfl (fin rfl)
theorem k29 {a0 : (List (List Int))} {v0 : Value} {a1 : (List (List Int))} {v1 : Value} {a2 : ((List Int) → (List Int) → Option (Bool))} {v2 : Value} {r : Bool} {w : World} {h : Jy} (hw : Know h w Zc) (f0 : FrN h 1 v0 gs_int a0) (f1 : FrN h 1 v1 gs_int a1) (f2 : FnH Try.prog h v2 (Wr a2)) (H : Xj a0 a1 a2 = some r) : Does Try.prog 29 (List.toArray [v0, v1, v2]) w (fun v w' => v = (.bool r) ∧ Grow w w') := by
 refine enter (n := 32) Try.func29 rfl rfl rfl Zc [] (Sat.nil _ _) ?_
 refine Jf ?_
 refine Jb ?_
 refine Ja rfl rfl rfl (Jc (v := .bool false) rfl) ?_
 refine Jg ?_
 refine Jf ?_
 refine Jf ?_
 refine Jb ?_
 refine Ja rfl rfl rfl (Jd (v := v0) rfl) ?_
 refine Ja rfl rfl rfl (Qu Try.underlying32 rfl f0) ?_
 refine Ja rfl rfl rfl (Jd (v := v1) rfl) ?_
 refine Ja rfl rfl rfl (Qu Try.underlying32 rfl f1) ?_
 refine Ja rfl rfl rfl (V0 rfl rfl) ?_
 refine Jg ?_
 refine Qb (b := (decide ((a0.length : Int) ≠ (a1.length : Int)))) rfl (fun hb => ?_) (fun hb => ?_)
 ·have H12 := Jo hb H; clear H
  refine Jf ?_
  refine Jb ?_
  refine Ja rfl rfl rfl (Jc (v := .bool false) rfl) ?_
  refine Jg ?_
  refine Ju ?_
  obtain rfl := Option.some.inj H12
  refine Qa (v := .bool false) rfl rfl (fin rfl)
 ·have H13 := Jp hb H; clear H
  refine Jt ?_
  refine Jf ?_
  refine Jf ?_
  refine Jb ?_
  refine Ja rfl rfl rfl (Jd (v := v0) rfl) ?_
  refine Ja rfl rfl rfl (Qu Try.underlying32 rfl f0) ?_
  refine Ja rfl rfl rfl (Jd (v := .int .i64 0) rfl) ?_
  refine Jg ?_
  refine J0 ?_
  refine Zb (σ := Int) (τ := Unit) (fun next1 s => J9 a0 a1 a2 next1 s) (fun s t => [(1, v1), (2, v2), (15, v0), (16, .int .i64 (a0.length : Int)), (17, .int .i64 s)]) (fun s t => []) (fun s t => True) 0 () [] H13 (by exact trivial) (by exact ⟨rfl, rfl, rfl, rfl, rfl, trivial⟩) (by decide) rfl ?_
  rintro x17_2 _ m1 gg H14 _
  clear H13
  replace H14 : J9 a0 a1 a2 (it (fun next1 s => J9 a0 a1 a2 next1 s) m1) x17_2 = some r := H14
  generalize hn1 : it (fun next1 s => J9 a0 a1 a2 next1 s) m1 = next1 at H14
  try dsimp only
  refine Jf ?_
  refine Jb ?_
  refine Ja rfl rfl rfl (Xy rfl rfl) ?_
  refine Jg ?_
  refine Jf ?_
  refine Qb (b := (decide (x17_2 < (a0.length : Int)))) rfl (fun hb => ?_) (fun hb => ?_)
  ·have H15 := Jo hb H14; clear H14
   refine Jt ?_
   refine Jf ?_
   refine J0 ?_
   refine Jf ?_
   refine Jb ?_
   refine Ja rfl rfl rfl (Jd (v := .int .i64 x17_2) rfl) ?_
   obtain ⟨t20, h_t20, H16⟩ := Jj H15; clear H15
   refine Ja rfl rfl rfl (Qe Try.underlying32 Try.sizeOf25 rfl rfl f0.frs (f0.ix h_t20)) ?_
   refine Xl (fun w hF hS => Qk (f := (V2 h v0 1)) (i := x17_2) (sz := 1) (j := 0) (v := (J6 h v0 1 (Int.toNat x17_2) 0)) Try.isAgg25 rfl rfl (f0.frs.row (hw.now hF)) (f0.ix h_t20) (Vj (cgs_int (f0.at h_t20)) rfl)) rfl rfl rfl ?_
   refine Ja rfl rfl rfl (Jc (v := .int .i64 x17_2) rfl) ?_
   refine Ja rfl rfl rfl (Jc (v := (J6 h v0 1 (Int.toNat x17_2) 0)) rfl) ?_
   refine Jg ?_
   refine Jf ?_
   refine Jb ?_
   refine Ja rfl rfl rfl (Jd (v := v1) rfl) ?_
   refine Ja rfl rfl rfl (Jd (v := .int .i64 x17_2) rfl) ?_
   obtain ⟨t24, h_t24, H17⟩ := Jj H16; clear H16
   refine Ja rfl rfl rfl (Qe Try.underlying32 Try.sizeOf25 rfl rfl f1.frs (f1.ix h_t24)) ?_
   refine Xl (fun w hF hS => Qk (f := (V2 h v1 1)) (i := x17_2) (sz := 1) (j := 0) (v := (J6 h v1 1 (Int.toNat x17_2) 0)) Try.isAgg25 rfl rfl (f1.frs.row (hw.now hF)) (f1.ix h_t24) (Vj (cgs_int (f1.at h_t24)) rfl)) rfl rfl rfl ?_
   refine Ja rfl rfl rfl (Jc (v := (J6 h v1 1 (Int.toNat x17_2) 0)) rfl) ?_
   refine Jg ?_
   refine Jf ?_
   refine Jb ?_
   refine Ja rfl rfl rfl (Jd (v := v2) rfl) ?_
   refine Ja rfl rfl rfl (Jd (v := (J6 h v0 1 (Int.toNat x17_2) 0)) rfl) ?_
   refine Ja rfl rfl rfl (Jd (v := (J6 h v1 1 (Int.toNat x17_2) 0)) rfl) ?_
   obtain ⟨t29, h_t29, H18⟩ := Jj H17; clear H17
   refine l_callV (R := Wr a2) (r := .bool t29) (v := v2) (fun w hF hS => ⟨(f2.mono (hw.now hF)), ⟨t20, _, t24, _, _, ((show FrS h 1 (J6 h v0 1 (Int.toNat x17_2) 0) (t20.map J8) from (f0.at h_t20)).mono (hw.now hF)), ((show FrS h 1 (J6 h v1 1 (Int.toNat x17_2) 0) (t24.map J8) from (f1.at h_t24)).mono (hw.now hF)), rfl, h_t29, rfl⟩⟩) rfl rfl rfl rfl ?_
   refine Ja rfl rfl rfl (r_not rfl) ?_
   refine Jg ?_
   refine Qb (b := (!t29)) rfl (fun hb => ?_) (fun hb => ?_)
   ·have H19 := Jo hb H18; clear H18
    refine Jf ?_
    refine Jb ?_
    refine Ja rfl rfl rfl (Jc (v := .bool false) rfl) ?_
    refine Jg ?_
    refine Ju ?_
    obtain rfl := Option.some.inj H19
    refine Qa (v := .bool false) rfl rfl (fin rfl)
   ·have H20 := Jp hb H18; clear H18
    refine Jt ?_
    refine Jb ?_
    obtain ⟨t31, h_t31, H21⟩ := Jj H20; clear H20
    refine Ja rfl rfl rfl (Qn rfl rfl h_t31) ?_
    refine Ja rfl rfl rfl (Jd (v := .int .i64 t31) rfl) ?_
    refine Jg ?_
    refine Jn t31 () m1 [] (by exact ⟨rfl, rfl, rfl, rfl, rfl, trivial⟩) (by decide) (by kernel_rfl) (by exact ⟨(by subst hn1; exact H21), trivial⟩) (Nat.lt_succ_self _)
  ·have H22 := Jp hb H14; clear H14
   refine Xq ?_
   refine Jf ?_
   refine Jb ?_
   refine Ja rfl rfl rfl (Jc (v := .bool true) rfl) ?_
   refine Jg ?_
   refine Ju ?_
   obtain rfl := Option.some.inj H22
   refine Qa (v := .bool true) rfl rfl (fin rfl)
theorem k8 {a0 : (List (List Int))} {v0 : Value} {a1 : Int} {a2 : (List (List Int))} {v2 : Value} {a3 : Int} {r : Bool} {w : World} {h : Jy} (hw : Know h w Zc) (f0 : FrN h 1 v0 gs_int a0) (f2 : FrN h 1 v2 gs_int a2) (H : W2 a0 a1 a2 a3 = some r) : Does Try.prog 8 (List.toArray [v0, .int .i64 a1, v2, .int .i64 a3]) w (fun v w' => v = (.bool r) ∧ Grow w w') := by
 refine enter (n := 19) Try.func8 rfl rfl rfl Zc [] (Sat.nil _ _) ?_
 refine Jf ?_
 refine Jb ?_
 refine Ja rfl rfl rfl (Jc (v := .bool false) rfl) ?_
 refine Jg ?_
 refine Qw (r := r) (σ := (List (List Int))) (τ := Value) (fun s => Z1 a0 a1 a3 s) (fun s t => [(0, v0), (1, .int .i64 a1), (2, t), (3, .int .i64 a3)]) (fun s t => []) (fun s t => FrN h 1 t gs_int s) ?_ ?_
 ·refine Jf ?_
  refine Jb ?_
  refine Ja rfl rfl rfl (Jd (v := .int .i64 a3) rfl) ?_
  refine Ja rfl rfl rfl (V0 rfl rfl) ?_
  refine Jg ?_
  refine Qb (b := (decide (a3 ≠ 0))) rfl (fun hb => ?_) (fun hb => ?_)
  ·have H11 := Jo hb H; clear H
   refine Jb ?_
   refine Ja rfl rfl rfl (Jc (v := .slice none 0 0) rfl) ?_
   refine Jg ?_
   refine Jn ([] : (List (List Int))) (.slice none 0 0) 0 [] (by exact ⟨rfl, rfl, rfl, rfl, trivial⟩) (by decide) (by kernel_rfl) (by exact ⟨H11, (FrN.nil _ _ _)⟩) (Nat.lt_succ_self _)
  ·have H12 := Jp hb H; clear H
   refine Jt ?_
   refine Jn a2 v2 0 [] (by exact ⟨rfl, rfl, rfl, rfl, trivial⟩) (by decide) (by kernel_rfl) (by exact ⟨H12, f2⟩) (Nat.lt_succ_self _)
 ·rintro x2 gv gg H7 gf
  replace H7 : Z1 a0 a1 a3 x2 = some r := H7
  try dsimp only
  refine Jf ?_
  refine Jb ?_
  refine Ja rfl rfl rfl (Jd (v := v0) rfl) ?_
  refine Ja rfl rfl rfl (Jd (v := gv) rfl) ?_
  obtain ⟨t13, h_t13, H8⟩ := Jj H7; clear H7
  refine Xa (fun w hF hS => k29 (Qf w) (f0.mono (hw.now hF)) (gf.mono (hw.now hF)) (FnH.mk ⟨30, #[], #[], rfl, Try.call30, fun args2 post2 w2 hk2 hR2 => by obtain ⟨a0_, v0_, a1_, v1_, r_, fa0_, fa1_, rfl, H_, rfl⟩ := hR2; exact k30 (Qf w2) fa0_ fa1_ H_⟩) h_t13) Try.call29 rfl rfl rfl ?_
  refine Ja rfl rfl rfl (Jd (v := .bool t13) rfl) ?_
  refine split (fun hb => ?_) (fun hb => ?_)
  ·have H9 := Jo hb H8; clear H8
   refine Ja rfl rfl rfl (Jd (v := .int .i64 a1) rfl) ?_
   refine Ja rfl rfl rfl (Jd (v := .int .i64 a3) rfl) ?_
   refine Ja rfl rfl rfl (Qq rfl rfl) ?_
   refine Ja rfl rfl rfl (J5 (v := .bool (decide (a1 = a3))) rfl rfl) ?_
   refine Ja rfl rfl rfl (Jc (v := .bool (decide (a1 = a3))) rfl) ?_
   refine Jg ?_
   refine Ju ?_
   obtain rfl := Option.some.inj H9
   refine Qa (v := .bool (decide (a1 = a3))) rfl rfl (fin rfl)
  ·have H10 := Jp hb H8; clear H8
   refine Jh rfl rfl rfl ?_
   refine Jh rfl rfl rfl ?_
   refine Jh rfl rfl rfl ?_
   refine Ja rfl rfl rfl (J7 (v := .bool false) rfl rfl) ?_
   refine Ja rfl rfl rfl (Jc (v := .bool false) rfl) ?_
   refine Jg ?_
   refine Ju ?_
   obtain rfl := Option.some.inj H10
   refine Qa (v := .bool false) rfl rfl (fin rfl)
theorem k4 {a0 : T_tag_File} {v0_1 : Value} {a1 : T_tag_File} {v1_1 : Value} {r : Bool} {w : World} {h : Jy} (hw : Know h w Zc) (f0_1 : FrN h 1 v0_1 gs_tag_Entry a0.Dirs) (f1_1 : FrN h 1 v1_1 gs_tag_Entry a1.Dirs) (H : Wi a0 a1 = some r) : Does Try.prog 4 (List.toArray [.agg #[.bool a0.Big, v0_1], .agg #[.bool a1.Big, v1_1]]) w (fun v w' => v = (.bool r) ∧ Grow w w') := by
 refine enter (n := 42) Try.func4 rfl rfl rfl Zc [] (Sat.nil _ _) ?_
 refine Wt Vw ?_
 refine Jf ?_
 refine Jb ?_
 refine Vi (cs := [.bool a0.Big, v0_1]) rfl rfl rfl rfl (fun b2 => ?_)
 refine Vi (cs := [.bool a1.Big, v1_1]) rfl rfl rfl rfl (fun b3 => ?_)
 refine Ja rfl rfl rfl (Jc (v := .bool false) rfl) ?_
 refine Jg ?_
 refine Jf ?_
 refine Jb ?_
 refine X2 (i := 1) (vs := [.bool a0.Big, v0_1]) Try.isAgg24 Try.sizeOf24 rfl rfl rfl rfl rfl ?_
 obtain ⟨t10, h_t10, H17⟩ := Jj H; clear H
 refine Xa (fun w hF hS => k5 (Qf w) (f0_1.mono (hw.now hF)) h_t10) Try.call5 rfl rfl rfl ?_
 refine Ja rfl rfl rfl (Jc (v := .int .i64 t10) rfl) ?_
 refine Jg ?_
 refine Qw (r := r) (σ := Int) (τ := Unit) (fun s => Yr a0 a1 s) (fun s t => [(2, .pointer (some ⟨b2, 0, none⟩)), (3, .pointer (some ⟨b3, 0, none⟩)), (5, .int .i64 s)]) (fun s t => [Xh Vw Vw, Js b2 [.bool a0.Big, v0_1] 24, Js b3 [.bool a1.Big, v1_1] 24]) (fun s t => True) ?_ ?_
 ·refine Jf ?_
  refine Jb ?_
  refine Ja rfl rfl rfl (Jd (v := .int .i64 t10) rfl) ?_
  refine Ja rfl rfl rfl (Qq rfl rfl) ?_
  refine Jg ?_
  refine Qb (b := (decide (t10 = 0))) rfl (fun hb => ?_) (fun hb => ?_)
  ·have H30 := Jo hb H17; clear H17
   refine Jb ?_
   refine X2 (i := 2) (vs := [.bool a1.Big, v1_1]) Try.isAgg24 Try.sizeOf24 rfl rfl rfl rfl rfl ?_
   obtain ⟨t14, h_t14, H31⟩ := Jj H30; clear H30
   refine Xa (fun w hF hS => k5 (Qf w) (f1_1.mono (hw.now hF)) h_t14) Try.call5 rfl rfl rfl ?_
   refine Ja rfl rfl rfl (Jc (v := .int .i64 t14) rfl) ?_
   refine Jg ?_
   refine Jn t14 () 0 [0, 1, 2] (by exact ⟨rfl, rfl, rfl, trivial⟩) (by decide) (by kernel_rfl) (by exact ⟨H31, trivial⟩) (Nat.lt_succ_self _)
  ·have H32 := Jp hb H17; clear H17
   refine Jt ?_
   refine Jn t10 () 0 [0, 1, 2] (by exact ⟨rfl, rfl, rfl, trivial⟩) (by decide) (by kernel_rfl) (by exact ⟨H32, trivial⟩) (Nat.lt_succ_self _)
 ·rintro x5 _ gg H18 _
  replace H18 : Yr a0 a1 x5 = some r := H18
  try dsimp only
  refine Qw (r := r) (σ := Int) (τ := Unit) (fun s => Xt a0 a1 s) (fun s t => [(2, .pointer (some ⟨b2, 0, none⟩)), (3, .pointer (some ⟨b3, 0, none⟩)), (5, .int .i64 s)]) (fun s t => [Xh Vw Vw, Js b2 [.bool a0.Big, v0_1] 24, Js b3 [.bool a1.Big, v1_1] 24]) (fun s t => True) ?_ ?_
  ·refine Jf ?_
   refine Jb ?_
   refine Ja rfl rfl rfl (Jd (v := .int .i64 x5) rfl) ?_
   refine Ja rfl rfl rfl (Qq rfl rfl) ?_
   refine Ja rfl rfl rfl (Jd (v := .bool (decide (x5 = 0))) rfl) ?_
   refine split (fun hb => ?_) (fun hb => ?_)
   ·have H26 := Jo hb H18; clear H18
    refine Ja rfl rfl rfl (Jl Try.runUnderlying24 rfl Try.sizeOf22 rfl rfl) ?_
    refine Jq (i := 1) (v := v0_1) Try.isAgg22 rfl rfl rfl rfl rfl ?_
    refine Ja rfl rfl rfl (Qu Try.underlying22 rfl f0_1) ?_
    refine Ja rfl rfl rfl (Jl Try.runUnderlying24 rfl Try.sizeOf22 rfl rfl) ?_
    refine Jq (i := 2) (v := v1_1) Try.isAgg22 rfl rfl rfl rfl rfl ?_
    refine Ja rfl rfl rfl (Qu Try.underlying22 rfl f1_1) ?_
    refine Ja rfl rfl rfl (V0 rfl rfl) ?_
    refine Ja rfl rfl rfl (J5 (v := .bool (decide ((a0.Dirs.length : Int) ≠ (a1.Dirs.length : Int)))) rfl rfl) ?_
    refine Jg ?_
    refine Qb (b := (decide ((a0.Dirs.length : Int) ≠ (a1.Dirs.length : Int)))) rfl (fun hb => ?_) (fun hb => ?_)
    ·have H27 := Jo hb H26; clear H26
     refine Jb ?_
     refine Ja rfl rfl rfl (Jc (v := .int .i64 1) rfl) ?_
     refine Jg ?_
     refine Jn 1 () 0 [0, 1, 2] (by exact ⟨rfl, rfl, rfl, trivial⟩) (by decide) (by kernel_rfl) (by exact ⟨H27, trivial⟩) (Nat.lt_succ_self _)
    ·have H28 := Jp hb H26; clear H26
     refine Jt ?_
     refine Jn x5 () 0 [0, 1, 2] (by exact ⟨rfl, rfl, rfl, trivial⟩) (by decide) (by kernel_rfl) (by exact ⟨H28, trivial⟩) (Nat.lt_succ_self _)
   ·have H29 := Jp hb H18; clear H18
    refine Jh rfl rfl rfl ?_
    refine Jh rfl rfl rfl ?_
    refine Jh rfl rfl rfl ?_
    refine Jh rfl rfl rfl ?_
    refine Jh rfl rfl rfl ?_
    refine Jh rfl rfl rfl ?_
    refine Jh rfl rfl rfl ?_
    refine Ja rfl rfl rfl (J7 (v := .bool false) rfl rfl) ?_
    refine Jg ?_
    refine Uj rfl ?_
    refine Jt ?_
    refine Jn x5 () 0 [0, 1, 2] (by exact ⟨rfl, rfl, rfl, trivial⟩) (by decide) (by kernel_rfl) (by exact ⟨H29, trivial⟩) (Nat.lt_succ_self _)
  ·rintro x5_2 _ gg H19 _
   replace H19 : Xt a0 a1 x5_2 = some r := H19
   try dsimp only
   refine Jf ?_
   refine Jb ?_
   refine Ja rfl rfl rfl (Jc (v := .slice none 0 0) rfl) ?_
   refine Jg ?_
   refine Qw (r := r) (σ := (List (List Int))) (τ := Jy × (List (List Value)) × (Option Addr × Nat)) (fun s => Yq a0 a1 x5_2 s) (fun s t => [(2, .pointer (some ⟨b2, 0, none⟩)), (3, .pointer (some ⟨b3, 0, none⟩)), (5, .int .i64 x5_2), (6, .slice t.2.2.1 t.2.1.length t.2.2.2)]) (fun s t => [Xh Vw t.1, Js b2 [.bool a0.Big, v0_1] 24, Js b3 [.bool a1.Big, v1_1] 24, Qt 25 1 (.slice t.2.2.1 t.2.1.length t.2.2.2) t.2.1.length (t.2.1.map V3)]) (fun s t => AllC gs_int t.1 1 t.2.1 s) ?_ ?_
   ·refine Jf ?_
    refine Jb ?_
    refine Ja rfl rfl rfl (Jd (v := .int .i64 x5_2) rfl) ?_
    refine Ja rfl rfl rfl (Qq rfl rfl) ?_
    refine Jg ?_
    refine Qb (b := (decide (x5_2 = 0))) rfl (fun hb => ?_) (fun hb => ?_)
    ·have H23 := Jo hb H19; clear H19
     refine Jb ?_
     refine X2 (i := 1) (vs := [.bool a0.Big, v0_1]) Try.isAgg24 Try.sizeOf24 rfl rfl rfl rfl rfl ?_
     refine X2 (i := 2) (vs := [.bool a1.Big, v1_1]) Try.isAgg24 Try.sizeOf24 rfl rfl rfl rfl rfl ?_
     obtain ⟨t30, h_t30, H24⟩ := Jj H23; clear H23
     refine l_make (Vq (rds := []) (G := fun x : (Option Addr × Nat) => .slice x.1 t30.length x.2) (C := fun x : (Option Addr × Nat) => V1 25 1 gs_int (.slice x.1 t30.length x.2) t30.length t30) (fun w L' hF hS hi => k18 (Qf w) (f0_1.mono (hw.now hF)) (f1_1.mono (hw.now hF)) h_t30) Try.call18 rfl) rfl rfl rfl (fun p_3 => ?_)
     refine c_rowD 3 rfl (fun hp_4 css_3 hn_2 pf_3 => ?_)
     rw [hn_2]
     refine Ui 3 rfl ?_
     refine Wx 0 3 rfl rfl (by decide) (fun _ _ => noH_le) (fun hp_5 hle_3 hle_4 => ?_)
     refine Ja rfl rfl rfl (Jc (v := .slice p_3.1 css_3.length p_3.2) rfl) ?_
     refine Jg ?_
     try dsimp only [z1, z2, z5, z6, z7, z8]
     refine Jn t30 (hp_5, css_3, p_3) 0 [0, 1, 2, 4] (by exact ⟨rfl, rfl, rfl, rfl, trivial⟩) (by decide) (by kernel_rfl) (by exact ⟨H24, (pf_3.mono hle_4)⟩) (Nat.lt_succ_self _)
    ·have H25 := Jp hb H19; clear H19
     refine Jt ?_
     refine Wh 25 1 ?_
     refine Jn ([] : List (List Int)) (Vw, ([] : List (List Value)), ((none, 0) : Option Addr × Nat)) 0 [0, 1, 2, 3] (by exact ⟨rfl, rfl, rfl, rfl, trivial⟩) (by decide) (by kernel_rfl) (by exact ⟨H25, (AllC.nil (G := gs_int) (h := Vw) (sz := 1))⟩) (Nat.lt_succ_self _)
   ·rintro l ⟨hp, css, p⟩ gg H20 pf
    replace H20 : Yq a0 a1 x5_2 l = some r := H20
    try dsimp only
    refine Jf ?_
    refine Jb ?_
    refine X2 (i := 1) (vs := [.bool a0.Big, v0_1]) Try.isAgg24 Try.sizeOf24 rfl rfl rfl rfl rfl ?_
    refine X2 (i := 2) (vs := [.bool a1.Big, v1_1]) Try.isAgg24 Try.sizeOf24 rfl rfl rfl rfl rfl ?_
    obtain ⟨t34, h_t34, H21⟩ := Jj H20; clear H20
    refine l_make (Vq (rds := []) (G := fun x : (Option Addr × Nat) => .tuple #[.slice x.1 t34.1.length x.2, .int .i64 t34.2]) (C := fun x : (Option Addr × Nat) => roD 1 gs_int (.slice x.1 t34.1.length x.2) t34.1.length t34.1) (fun w L' hF hS hi => k19 (Qf w) (f0_1.mono (hw.now hF)) (f1_1.mono (hw.now hF)) h_t34) Try.call19 rfl) rfl rfl rfl (fun p_2 => ?_)
    refine c_roD 4 rfl (fun hp_2 css_2 hn pf_2 => ?_)
    refine Ui 4 rfl ?_
    refine Wx 0 4 rfl rfl (by decide) (fun _ _ => noH_le) (fun hp_3 hle hle_2 => ?_)
    refine Ja rfl rfl rfl (Jd (v := .tuple #[.slice p_2.1 t34.1.length p_2.2, .int .i64 t34.2]) rfl) ?_
    refine Ja rfl rfl rfl (Yi (v := .slice p_2.1 t34.1.length p_2.2) rfl rfl) ?_
    refine Ja rfl rfl rfl (Yi (v := .int .i64 t34.2) rfl rfl) ?_
    refine Ja rfl rfl rfl (Jc (v := .slice p_2.1 t34.1.length p_2.2) rfl) ?_
    refine Ja rfl rfl rfl (Jc (v := .int .i64 t34.2) rfl) ?_
    refine Jg ?_
    try dsimp only [z1, z2, z5, z6, z7, z8]
    refine Jf ?_
    refine Jb ?_
    refine Ja rfl rfl rfl (Jd (v := .slice p_2.1 t34.1.length p_2.2) rfl) ?_
    refine Ja rfl rfl rfl (Jd (v := .int .i64 t34.2) rfl) ?_
    refine Ja rfl rfl rfl (Jd (v := .slice p.1 css.length p.2) rfl) ?_
    refine Ja rfl rfl rfl (Jd (v := .int .i64 x5_2) rfl) ?_
    obtain ⟨t41, h_t41, H22⟩ := Jj H21; clear H21
    refine Xa (fun w hF hS => k8 (Qf w) (frn_of (xs := t34.1) (frs_rd (i := 5) hS rfl) ((pf_2.mono hle_2).mono (pool_now (i := 0) hS rfl noH_le))) (frn_of (xs := l) (frs_own (i := 3) rfl hS rfl) ((pf.mono hle).mono (pool_now (i := 0) hS rfl noH_le))) h_t41) Try.call8 rfl rfl rfl ?_
    refine Ja rfl rfl rfl (Jc (v := .bool t41) rfl) ?_
    refine Jg ?_
    try dsimp only [z1, z2, z5, z6, z7, z8]
    refine Ju ?_
    obtain rfl := Option.some.inj H22
    refine Qa (v := .bool t41) rfl rfl (fin rfl)
end Go.Proofs.Ytpljknglodhcnaa

/- A number as octets, printed by our generator from the compiled program. Conditions: none. -/
namespace Go.M
open Go.Md
noncomputable def W5 (a1 : Int) (x14_2 : Int) (l_2 : (List Int)) (next1 : ((Int × (List Int)) → Option ((List Int)))) (x9 : Int) : Option ((List Int)) :=
 Qg (gI (8 * x14_2)) fun t27 =>
 Qg (gShr 64 a1 t27) fun t28 =>
 Qg (Qj l_2 x9) fun t30 =>
 Qg (gSet l_2 x9 (wU8 t28)) fun l0 =>
 Qg (gI (x14_2 + 1)) fun t31 =>
 next1 (t31, l0)
noncomputable def Zr (a0 : Bool) (a1 : Int) (a2 : Int) (t11 : (List Int)) (next1 : ((Int × (List Int)) → Option ((List Int)))) (x14_2 : Int) (l_2 : (List Int)) : Option ((List Int)) :=
 Qp (decide (x14_2 < (t11.length : Int))) (Qp a0 (Qg (gI (a2 - 1)) fun t20 =>
 Qg (gI (t20 - x14_2)) fun t22 =>
 W5 a1 x14_2 l_2 next1 t22) (W5 a1 x14_2 l_2 next1 x14_2)) (some l_2)
noncomputable def tag_number (a0 : Bool) (a1 : Int) (a2 : Int) : Option ((List Int)) :=
 Qg (gMake 1 a2 0) fun t11 =>
 Z5 (fun next1 s => Zr a0 a1 a2 t11 next1 s.1 s.2) (0, t11)
end Go.M

/- Plain lemmas about models: loops that count, scans for a first error. Conditions: none. -/
namespace Go.Pl
open Go.Md
theorem up {ρ : Type} {F : (Int → Option ρ) → Int → Option ρ} (n : Nat) (spec : Nat → Option ρ)
  (step : ∀ (next : Int → Option ρ) (k : Nat), k ≤ n → (k < n → next ((k : Int) + 1) = spec (k + 1)) → F next (k : Int) = spec k) : Z5 F 0 = spec 0 := by
 have h := fix_of (F := F) (fun i => spec i.toNat) (fun i => 0 ≤ i ∧ i ≤ n) (fun i => n - i.toNat) (by
  intro next a ⟨h0, h1⟩ ih
  obtain ⟨k, rfl⟩ := Int.eq_ofNat_of_zero_le h0
  simp only [Int.toNat_natCast]
  refine step next k (by omega) fun hk => ?_
  have := ih ((k : Int) + 1) (by omega) (by simp only [Int.toNat_natCast]; omega)
  rw [this, show ((k : Int) + 1).toNat = k + 1 from by omega]) 0 (by omega)
 simpa using h
end Go.Pl

/- More plain lemmas about models: loops that run or go on, two loops that do the same, loops that collect. Conditions: none. -/
namespace Go.Pl
open Go.Md
end Go.Pl

/- Numbers and values as octets, values checked, in plain Lean. Conditions: none. -/
namespace Go.M
open Go.Md Go.Pl
theorem cI {α : Type} {p : Prop} [Decidable p] {x y : Option α} : Qp (decide p) x y = if p then x else y := cnd_if ..
theorem fix_ofG {α ρ γ : Type} {F : (α → Option ρ) → α → Option ρ} (spec : γ → α → Option ρ) (I : γ → α → Prop) (μ : γ → Nat)
  (step : ∀ (next : α → Option ρ) (g : γ) (a : α), I g a → (∀ g' b, I g' b → μ g' < μ g → next b = spec g' b) → F next a = spec g a) (g : γ) (a : α) (ha : I g a) : Z5 F a = spec g a := by
 have key : ∀ (n : Nat) (g : γ) (a : α), I g a → μ g < n → it F n a = spec g a := by
  intro n
  induction n with
  | zero => intro g a _ h; omega
  | succ n ih => intro g a ha h; exact step _ g a ha fun g' b hb hlt => ih g' b hb (by omega)
 exact fix_ev (k := μ g + 1) fun n hn => key n g a ha (by omega)
theorem num_ex (big : Bool) (n : Int) (k : Nat) (hk : k ≤ 8) : ∃ L : List Int, tag_number big n k = some L ∧ Xi big n k = some (toStr L) ∧ L.length = k ∧ (∀ x ∈ L, 0 ≤ x ∧ x ≤ 255) ∧ (n = 0 → ∀ x ∈ L, x = 0) := by
 have key : ∀ m i : Nat, i + m = k → ∀ l : List Int, l.length = k → (∀ x ∈ l, 0 ≤ x ∧ x ≤ 255) → (n = 0 → ∀ x ∈ l, x = 0) →
   ∃ L : List Int, Z5 (fun next1 s => Zr big n k (List.replicate k 0) next1 s.1 s.2) ((i : Int), l) = some L ∧ Z5 (fun next2 s => Yn big n k (List.replicate k 0) next2 s.1 s.2) ((i : Int), l) = some (toStr L) ∧ L.length = k ∧ (∀ x ∈ L, 0 ≤ x ∧ x ≤ 255) ∧ (n = 0 → ∀ x ∈ L, x = 0) := by
  intro m
  induction m with
  | zero =>
   intro i hi l hl hx hz
   refine ⟨l, Q8 fun next => ?_, Q8 fun next => ?_, hl, hx, hz⟩
   ·show Zr big n k _ next (i : Int) l = _
    unfold Zr
    rw [cI, if_neg (by rw [List.length_replicate]; omega)]
   ·show Yn big n k _ next (i : Int) l = _
    unfold Yn
    rw [cI, if_neg (by rw [List.length_replicate]; omega)]; rfl
  | succ m ih =>
   intro i hi l hl hx hz
   have hs : ∃ y : Int, gShr 64 n (8 * (i : Int)) = some y ∧ (n = 0 → y = 0) := by
    refine ⟨n / 2 ^ min (8 * (i : Int)).toNat 64, if_pos (by omega), fun e => by rw [e]; exact Int.zero_ediv _⟩
   obtain ⟨y, hy, hy0⟩ := hs
   have hp : ∃ q : Nat, q < k ∧ (∀ (next : Int × List Int → Option (List Int)), Zr big n k (List.replicate k 0) next (i : Int) l = next ((i : Int) + 1, l.set q (wU8 y))) ∧ (∀ (next : Int × List Int → Option (List UInt8)), Yn big n k (List.replicate k 0) next (i : Int) l = next ((i : Int) + 1, l.set q (wU8 y))) := by
    cases big
    ·refine ⟨i, by omega, fun next => ?_, fun next => ?_⟩
     ·unfold Zr
      rw [cI, if_pos (by rw [List.length_replicate]; omega), Qo]
      unfold W5
      rw [Qm (by omega), Je, hy, Je, Ql (by omega), Je, gSet_ok (by omega) (by omega), Je, Qm (by omega), Je, Int.toNat_natCast]
     ·unfold Yn
      rw [cI, if_pos (by rw [List.length_replicate]; omega), Qo]
      unfold Wd
      rw [Qm (by omega), Je, hy, Je, Ql (by omega), Je, gSet_ok (by omega) (by omega), Je, Qm (by omega), Je, Int.toNat_natCast]
    ·refine ⟨k - 1 - i, by omega, fun next => ?_, fun next => ?_⟩
     ·unfold Zr
      rw [cI, if_pos (by rw [List.length_replicate]; omega), Qv, Qm (by omega), Je, Qm (by omega), Je]
      unfold W5
      rw [Qm (by omega), Je, hy, Je, gAt_ok (by omega) (by omega), Je, gSet_ok (by omega) (by omega), Je, Qm (by omega), Je, show ((k : Int) - 1 - (i : Int)).toNat = k - 1 - i from by omega]
     ·unfold Yn
      rw [cI, if_pos (by rw [List.length_replicate]; omega), Qv, Qm (by omega), Je, Qm (by omega), Je]
      unfold Wd
      rw [Qm (by omega), Je, hy, Je, gAt_ok (by omega) (by omega), Je, gSet_ok (by omega) (by omega), Je, Qm (by omega), Je, show ((k : Int) - 1 - (i : Int)).toNat = k - 1 - i from by omega]
   obtain ⟨q, hq, h1, h2⟩ := hp
   obtain ⟨L, a1, a2, a3, a4, a5⟩ := ih (i + 1) (by omega) (l.set q (wU8 y)) (by rw [List.length_set]; exact hl) (fun x hxm => by
    rcases List.mem_or_eq_of_mem_set hxm with h | h
    ·exact hx x h
    ·rw [h]; unfold wU8; omega) (fun e x hxm => by
    rcases List.mem_or_eq_of_mem_set hxm with h | h
    ·exact hz e x h
    ·rw [h, hy0 e]; rfl)
   exact ⟨L, (X0 _ h1).trans a1, (X0 _ h2).trans a2, a3, a4, a5⟩
 obtain ⟨L, a1, a2, a3⟩ := key k 0 (by omega) (List.replicate k 0) (by simp) (fun x hx => by rw [(List.mem_replicate.1 hx).2]; omega) (fun _ x hx => (List.mem_replicate.1 hx).2)
 refine ⟨L, ?_, ?_, a3⟩
 ·unfold tag_number
  rw [gMake_ok (by omega), Je, Int.toNat_natCast]; exact a1
 ·unfold Xi
  rw [gMake_ok (by omega), Je, Int.toNat_natCast]; exact a2
noncomputable def Ze (big : Bool) (n : Int) (k : Nat) : List UInt8 := toStr ((tag_number big n k).getD [])
theorem num_R (big : Bool) (n : Int) {k : Nat} (hk : k ≤ 8) : Xi big n k = some (Ze big n k) := by
 obtain ⟨L, h1, h2, _⟩ := num_ex big n k hk
 unfold Ze
 rw [h1, Option.getD_some, h2]
theorem X1 (big : Bool) (n : Int) {k : Nat} (hk : k ≤ 8) : (Ze big n k).length = k := by
 obtain ⟨L, h1, _, h3, _⟩ := num_ex big n k hk
 unfold Ze toStr
 rw [h1, Option.getD_some, List.length_map, h3]
theorem num_zero (big : Bool) {k : Nat} (hk : k ≤ 8) : Ze big 0 k = List.replicate k 0 := by
 obtain ⟨L, h1, _, h3, _, h5⟩ := num_ex big 0 k hk
 have : L = List.replicate k 0 := List.eq_replicate_iff.2 ⟨h3, h5 rfl⟩
 unfold Ze toStr
 rw [h1, Option.getD_some, this, List.map_replicate]; rfl
theorem R2 (big : Bool) (n : Int) : Xi big n 2 = some (Ze big n 2) := num_R big n (k := 2) (by omega)
theorem R4 (big : Bool) (n : Int) : Xi big n 4 = some (Ze big n 4) := num_R big n (k := 4) (by omega)
def Vn (k : Int) : Nat := if k = 1 ∨ k = 2 ∨ k = 7 then 1 else if k = 3 then 2 else if k = 4 ∨ k = 9 then 4 else if k = 5 then 8 else 0
theorem wideN_le (k : Int) : Vn k ≤ 8 := by unfold Vn; (repeat' split) <;> omega
theorem sizeOf_eq (k : Int) : V9 k = some (if k = 13 then 1 else (Vn k : Int)) := by
 unfold V9 Zw Vn
 by_cases h1 : k = 1
 ·subst h1; rfl
 by_cases h2 : k = 2
 ·subst h2; rfl
 by_cases h3 : k = 3
 ·subst h3; rfl
 by_cases h4 : k = 4
 ·subst h4; rfl
 by_cases h5 : k = 5
 ·subst h5; rfl
 by_cases h7 : k = 7
 ·subst h7; rfl
 by_cases h9 : k = 9
 ·subst h9; rfl
 by_cases h13 : k = 13
 ·subst h13; rfl
 simp [h1, h2, h3, h4, h5, h7, h9, h13, Qo]
theorem wide_eq (k : Int) : R_wide k = some (if k = 13 then 4 else (Vn k : Int)) := by
 unfold R_wide R_wide_j1 Vn
 by_cases h1 : k = 1
 ·subst h1; rfl
 by_cases h2 : k = 2
 ·subst h2; rfl
 by_cases h3 : k = 3
 ·subst h3; rfl
 by_cases h4 : k = 4
 ·subst h4; rfl
 by_cases h5 : k = 5
 ·subst h5; rfl
 by_cases h7 : k = 7
 ·subst h7; rfl
 by_cases h9 : k = 9
 ·subst h9; rfl
 by_cases h13 : k = 13
 ·subst h13; rfl
 simp [h1, h2, h3, h4, h5, h7, h9, h13, Qo]
def Wq (k : Int) : Prop := k = 1 ∨ k = 3 ∨ k = 4 ∨ k = 9
def Ue (k : Int) : Prop := k = 2 ∨ k = 7
instance (k : Int) : Decidable (Wq k) := by unfold Wq; infer_instance
instance (k : Int) : Decidable (Ue k) := by unfold Ue; infer_instance
def kindP (k : Int) : Prop := Wq k ∨ Ue k ∨ k = 5 ∨ k = 13
instance (k : Int) : Decidable (kindP k) := by unfold kindP; infer_instance
def formP (v : T_tag_Value) : Prop := (¬ Wq v.Kind ∧ v.Ints ≠ []) ∨ (¬ Ue v.Kind ∧ v.Text ≠ []) ∨ (v.Kind ≠ 5 ∧ v.Ratios ≠ []) ∨ (v.Kind ≠ 13 ∧ v.Entries ≠ [])
noncomputable def Vm (v : T_tag_Value) : Int := open Classical in if ¬ kindP v.Kind then 10 else if formP v then 1 else 0
theorem Wy {α : Type} (l : List α) : (0 : Int) < (l.length : Int) ↔ l ≠ [] := by
 cases l <;> simp <;> omega
theorem wide_zero (k : Int) (h : k ≠ 13) : (Vn k : Int) = 0 ↔ ¬ kindP k := by
 unfold Vn kindP Wq Ue
 split
 ·omega
 ·split
  ·omega
  ·split
   ·omega
   ·split <;> omega
theorem j3_fields (v : T_tag_Value) (b : Bool) : Yh v b = some (open Classical in if b = true ∨ (v.Kind ≠ 13 ∧ v.Entries ≠ []) then 1 else 0) := by
 unfold Yh
 cases b
 ·rw [Qo, cI, cI]
  by_cases h1 : v.Kind ≠ 13
  ·by_cases h2 : v.Entries = []
   ·rw [if_pos h1, if_neg (by rw [Wy]; simpa using h2), if_neg (by simp [h2])]
   ·rw [if_pos h1, if_pos ((Wy _).2 h2), if_pos (.inr ⟨h1, h2⟩)]
  ·rw [if_neg h1, if_neg (by simp [h1])]
 ·rw [Qv, Qv, if_pos (.inl rfl)]
theorem j2_fields (v : T_tag_Value) (b : Bool) : Yd v b = some (open Classical in if b = true ∨ (v.Kind ≠ 5 ∧ v.Ratios ≠ []) ∨ (v.Kind ≠ 13 ∧ v.Entries ≠ []) then 1 else 0) := by
 unfold Yd
 cases b
 ·rw [Qo, cI, j3_fields, j3_fields]
  by_cases h1 : v.Kind ≠ 5
  ·rw [if_pos h1]
   congr 1
   by_cases h2 : v.Ratios = []
   ·simp [h2]
   ·simp [h2, h1, List.length_pos_iff]
  ·rw [if_neg h1]; simp [h1]
 ·rw [Qv, Qv, if_pos (.inl rfl)]
theorem j1_fields (v : T_tag_Value) (b : Bool) : Yf v b = some (open Classical in if b = true ∨ (¬ Ue v.Kind ∧ v.Text ≠ []) ∨ (v.Kind ≠ 5 ∧ v.Ratios ≠ []) ∨ (v.Kind ≠ 13 ∧ v.Entries ≠ []) then 1 else 0) := by
 have ht : tag_isText v.Kind = some (decide (Ue v.Kind)) := by
  unfold tag_isText Ue
  rw [cI]
  by_cases h : v.Kind = 2
  ·simp [h]
  ·simp [h]
 unfold Yf
 cases b
 ·rw [Qo, ht, Je, j2_fields, j2_fields]
  by_cases h1 : Ue v.Kind
  ·rw [decide_eq_true h1]
   show Qp false _ _ = _
   rw [Qo]; simp [h1]
  ·rw [decide_eq_false h1]
   show Qp true _ _ = _
   rw [Qv]; simp [h1]
 ·rw [Qv, Qv, if_pos (.inl rfl)]
theorem checkFields_eq (v : T_tag_Value) : Vg v = some (Vm v) := by
 have hi : tag_isInts v.Kind = some (decide (Wq v.Kind)) := by
  unfold tag_isInts Wq
  rw [cI, cI, cI]
  by_cases h : v.Kind = 1
  ·simp [h]
  by_cases h3 : v.Kind = 3
  ·simp [h3]
  by_cases h4 : v.Kind = 4
  ·simp [h4]
  simp [h, h3, h4]
 unfold Vg Vm
 rw [sizeOf_eq, Je, cI]
 by_cases hk : kindP v.Kind
 ·have hz : ¬ (if v.Kind = 13 then (1 : Int) else (Vn v.Kind : Int)) = 0 := by
   by_cases h13 : v.Kind = 13
   ·rw [if_pos h13]; omega
   ·rw [if_neg h13]; exact fun e => (wide_zero _ h13).1 e hk
  rw [if_neg hz, hi, Je, j1_fields, j1_fields, if_neg (show ¬ ¬ kindP v.Kind from fun h => h hk)]
  by_cases h1 : Wq v.Kind
  ·rw [decide_eq_true h1]
   show Qp false _ _ = _
   rw [Qo]; unfold formP; simp [h1]
  ·rw [decide_eq_false h1]
   show Qp true _ _ = _
   rw [Qv]; unfold formP; simp [h1, List.length_pos_iff]
 ·have h13 : v.Kind ≠ 13 := fun e => hk (.inr (.inr (.inr e)))
  rw [if_neg h13, if_pos ((wide_zero _ h13).2 hk), if_pos hk]
def limS (k : Int) : Int × Int := if k = 1 then (0, 255) else if k = 3 then (0, 65535) else if k = 9 then (-2147483648, 2147483647) else (0, 4294967295)
theorem bounds_eq (k : Int) : tag_bounds k = some (limS k) := by
 unfold tag_bounds limS
 rw [cI, cI, cI]; (repeat' split) <;> rfl
theorem limits_eq (k : Int) : R_limits k = some (limS k) := by
 unfold R_limits limS
 rw [cI, cI, cI]; (repeat' split) <;> rfl
theorem out_tag (a b c : Int) : Vs a b c = some (decide (a < b ∨ c < a)) := by
 unfold Vs
 rw [cI]
 by_cases h : a < b
 ·rw [if_pos h]; simp [h]
 ·rw [if_neg h]; simp [h]
def ratP (r : T_tag_Ratio) : Prop := (r.Num < 0 ∨ 4294967295 < r.Num) ∨ (r.Den < 0 ∨ 4294967295 < r.Den)
noncomputable def plainE (v : T_tag_Value) : Int := open Classical in
 if Vm v ≠ 0 then Vm v else if ∃ n ∈ v.Ints, n < (limS v.Kind).1 ∨ (limS v.Kind).2 < n then 2 else if ∃ r ∈ v.Ratios, ratP r then 2 else if v.Kind = 2 ∧ (0 : UInt8) ∈ v.Text then 9 else 0
theorem look_loop {α : Type} {F : (Int → Option Int) → Int → Option Int} (xs : List α) (p : α → Prop) (e : Int) (o : Option Int) (more : ∀ (next : Int → Option Int) (k : Nat) (hk : k < xs.length), (p xs[k] → F next (k : Int) = some e) ∧ (¬ p xs[k] → F next (k : Int) = next ((k : Int) + 1))) (stop : ∀ next, F next (xs.length : Int) = o) :
  Z5 F 0 = open Classical in if ∃ x ∈ xs, p x then some e else o := by
 have key : ∀ m i : Nat, i + m = xs.length → Z5 F (i : Int) = open Classical in if ∃ x ∈ xs.drop i, p x then some e else o := by
  intro m
  induction m with
  | zero =>
   intro i hi
   have : i = xs.length := by omega
   subst this
   rw [List.drop_length, if_neg (by simp)]
   exact Q8 stop
  | succ m ih =>
   intro i hi
   have hlt : i < xs.length := by omega
   rw [List.drop_eq_getElem_cons hlt]
   by_cases hp : p xs[i]
   ·rw [if_pos ⟨_, List.mem_cons_self, hp⟩]
    exact Q8 fun next => (more next i hlt).1 hp
   ·rw [X0 ((i : Int) + 1) (fun next => (more next i hlt).2 hp)]
    have := ih (i + 1) (by omega)
    rw [show ((i : Int) + 1) = ((i + 1 : Nat) : Int) from rfl, this]
    congr 1
    apply propext
    constructor
    ·rintro ⟨x, hx, h⟩; exact ⟨x, List.mem_cons_of_mem _ hx, h⟩
    ·rintro ⟨x, hx, h⟩
     rcases List.mem_cons.1 hx with h' | h'
     ·subst h'; exact absurd h hp
     ·exact ⟨x, h', h⟩
 have := key xs.length 0 (by omega)
 rw [List.drop_zero] at this
 exact this
def vB (v : T_tag_Value) : Prop := v.Text.length ≤ 2000000 ∧ v.Ints.length ≤ 2000000 ∧ v.Ratios.length ≤ 2000000
theorem j2_plain {v : T_tag_Value} (hb : vB v) : Yu v = some (open Classical in if v.Kind = 2 ∧ (0 : UInt8) ∈ v.Text then 9 else 0) := by
 unfold Yu
 rw [cI]
 by_cases h2 : v.Kind = 2
 ·rw [if_pos h2, look_loop v.Text (fun c => c = 0) 9 (some 0) (fun next k hk => ?_) (fun next => ?_)]
  ·congr 1
   by_cases hm : (0 : UInt8) ∈ v.Text
   ·rw [if_pos ⟨0, hm, rfl⟩, if_pos ⟨h2, hm⟩]
   ·rw [if_neg (fun ⟨x, hx, e⟩ => hm (e ▸ hx)), if_neg (fun h => hm h.2)]
  ·show (_ → Q7 v next (k : Int) = _) ∧ (_ → Q7 v next (k : Int) = _)
   have := hb.1
   unfold Q7
   rw [cI, if_pos (by omega), gOct_nat hk, Je, cI]
   constructor
   ·intro e; rw [if_pos (by rw [e]; rfl)]
   ·intro e
    have : v.Text[k].toNat ≠ 0 := fun h => e (by rw [← UInt8.ofNat_toNat (x := v.Text[k]), h]; rfl)
    rw [if_neg (by omega), Qm (by omega), Je]
  ·show Q7 v next (v.Text.length : Int) = _
   unfold Q7
   rw [cI, if_neg (by omega)]
 ·rw [if_neg h2, if_neg (fun h => h2 h.1)]
theorem checkPlain_eq {v : T_tag_Value} (hb : vB v) : Wm v = some (plainE v) := by
 unfold Wm plainE
 rw [checkFields_eq, Je, cI]
 by_cases hf : Vm v ≠ 0
 ·rw [if_pos hf, if_pos hf]
 rw [if_neg hf, if_neg hf, bounds_eq, Je]
 rw [look_loop (F := fun next5 s => Qy v (limS v.Kind) next5 s) v.Ints (fun n => n < (limS v.Kind).1 ∨ (limS v.Kind).2 < n) 2 (Yt v) (fun next k hk => ?_) (fun next => ?_)]
 ·have e1 : Yt v = some (open Classical in if ∃ r ∈ v.Ratios, ratP r then 2 else if v.Kind = 2 ∧ (0 : UInt8) ∈ v.Text then 9 else 0) := by
   unfold Yt
   rw [look_loop (F := fun next4 s => Qx v next4 s) v.Ratios ratP 2 (Yu v) (fun next k hk => ?_) (fun next => ?_), j2_plain hb]
   ·split <;> rfl
   ·show (_ → Qx v next (k : Int) = _) ∧ (_ → Qx v next (k : Int) = _)
    have := hb.2.2
    unfold Qx ratP
    rw [cI, if_pos (by omega), Ql hk, Je, out_tag, Je, cI, out_tag, Je, cI]
    constructor
    ·intro e
     by_cases h1 : v.Ratios[k].Num < 0 ∨ 4294967295 < v.Ratios[k].Num
     ·rw [if_pos h1]
     ·rw [if_neg h1, if_pos (e.resolve_left h1)]
    ·intro e
     rw [if_neg (fun h => e (.inl h)), if_neg (fun h => e (.inr h)), Qm (by omega), Je]
   ·show Qx v next (v.Ratios.length : Int) = _
    unfold Qx
    rw [cI, if_neg (by omega)]
  rw [e1]; split <;> rfl
 ·show (_ → Qy v _ next (k : Int) = _) ∧ (_ → Qy v _ next (k : Int) = _)
  have := hb.2.1
  unfold Qy
  rw [cI, if_pos (by omega), Ql hk, Je, out_tag, Je, cI]
  constructor
  ·intro e; rw [if_pos e]
  ·intro e; rw [if_neg e, Qm (by omega), Je]
 ·show Qy v _ next (v.Ints.length : Int) = _
  unfold Qy
  rw [cI, if_neg (by omega)]
theorem ixB_mem (c : UInt8) (t : List UInt8) : -1 ≤ ixB t c ∧ (0 ≤ ixB t c ↔ c ∈ t) := by
 induction t with
 | nil => exact ⟨by unfold ixB; omega, by simp [ixB]⟩
 | cons b t ih =>
  unfold ixB
  by_cases hb : b = c
  ·rw [if_pos hb]; exact ⟨by omega, fun _ => by simp [hb], fun _ => by omega⟩
  ·rw [if_neg hb]
   have hc : ¬ c = b := fun e => hb e.symm
   rw [List.mem_cons]
   by_cases h1 : ixB t c = -1
   ·rw [if_pos h1]
    exact ⟨by omega, fun h => by omega, fun h => by have := ih.2.2 (h.resolve_left hc); omega⟩
   ·rw [if_neg h1]
    exact ⟨by omega, fun h => .inr (ih.2.1 (by omega)), fun h => by have := ih.2.2 (h.resolve_left hc); omega⟩
theorem j2_fault {v : T_tag_Value} (hb : vB v) (h13 : v.Kind ≠ 13) : Q4 v = some (open Classical in if ∃ n ∈ v.Ints, n < (limS v.Kind).1 ∨ (limS v.Kind).2 < n then 2 else if ∃ r ∈ v.Ratios, ratP r then 2 else if v.Kind = 2 ∧ (0 : UInt8) ∈ v.Text then 9 else 0) := by
 have e4 : Zj v = some (open Classical in if v.Kind = 2 ∧ (0 : UInt8) ∈ v.Text then 9 else 0) := by
  unfold Zj Vk
  rw [cI, cI, if_neg h13]
  by_cases h2 : v.Kind = 2
  ·rw [if_pos h2]
   unfold Wn Yg
   have hx : gIxB v.Text 0 = some (ixB v.Text 0) := by unfold gIxB; rfl
   have hm := (ixB_mem 0 v.Text).2
   rw [hx, Je, Je, Je, cI]
   by_cases h0 : (0 : UInt8) ∈ v.Text
   ·rw [if_pos (hm.2 h0), if_pos ⟨h2, h0⟩]
   ·rw [if_neg (fun h => h0 (hm.1 h)), if_neg (fun h => h0 h.2)]
  ·rw [if_neg h2, if_neg (fun h => h2 h.1)]
 have e3 : Zi v = some (open Classical in if ∃ r ∈ v.Ratios, ratP r then 2 else if v.Kind = 2 ∧ (0 : UInt8) ∈ v.Text then 9 else 0) := by
  unfold Zi
  rw [look_loop (F := fun next6 s => Xd v next6 s) v.Ratios ratP 2 (Zj v) (fun next k hk => ?_) (fun next => ?_), e4]
  ·split <;> rfl
  ·show (_ → Xd v next (k : Int) = _) ∧ (_ → Xd v next (k : Int) = _)
   have := hb.2.2
   unfold Xd ratP
   rw [cI, if_pos (by omega), Ql hk, Je, cI, cI, cI, cI]
   constructor
   ·intro e
    by_cases h1 : v.Ratios[k].Num < 0
    ·rw [if_pos h1]
    by_cases h2 : 4294967295 < v.Ratios[k].Num
    ·rw [if_neg h1, if_pos h2]
    by_cases h3 : v.Ratios[k].Den < 0
    ·rw [if_neg h1, if_neg h2, if_pos h3]
    rw [if_neg h1, if_neg h2, if_neg h3, if_pos (by omega)]
   ·intro e
    rw [if_neg (by omega), if_neg (by omega), if_neg (by omega), if_neg (by omega), Qm (by omega), Je]
  ·show Xd v next (v.Ratios.length : Int) = _
   unfold Xd
   rw [cI, if_neg (by omega)]
 unfold Q4
 rw [limits_eq, Je]
 rw [look_loop (F := fun next7 s => Xc v (limS v.Kind) next7 s) v.Ints (fun n => n < (limS v.Kind).1 ∨ (limS v.Kind).2 < n) 2 (Zi v) (fun next k hk => ?_) (fun next => ?_), e3]
 ·split <;> rfl
 ·show (_ → Xc v _ next (k : Int) = _) ∧ (_ → Xc v _ next (k : Int) = _)
  have := hb.2.1
  unfold Xc
  rw [cI, if_pos (by omega), Ql hk, Je, cI, cI]
  constructor
  ·intro e
   by_cases h1 : v.Ints[k] < (limS v.Kind).1
   ·rw [if_pos h1]
   ·rw [if_neg h1, if_pos (e.resolve_left h1)]
  ·intro e
   rw [if_neg (fun h => e (.inl h)), if_neg (fun h => e (.inr h)), Qm (by omega), Je]
 ·show Xc v _ next (v.Ints.length : Int) = _
  unfold Xc
  rw [cI, if_neg (by omega)]
theorem j10_fault (v : T_tag_Value) (b : Bool) : Y4 v b = open Classical in if b = true ∨ (v.Kind ≠ 13 ∧ v.Entries ≠ []) then some 1 else Q4 v := by
 unfold Y4
 cases b
 ·rw [Qo, cI, cI]
  by_cases h2 : v.Entries = []
  ·rw [if_neg (by rw [Wy]; simpa using h2), if_neg (by simp [h2])]
  ·rw [if_pos ((Wy _).2 h2)]
   by_cases h1 : v.Kind = 13
   ·rw [if_neg (by simpa using h1), if_neg (by simp [h1])]
   ·rw [if_pos h1, if_pos (.inr ⟨h1, h2⟩)]
 ·rw [Qv, Qv, if_pos (.inl rfl)]
theorem j9_fault (v : T_tag_Value) (b : Bool) : Zf v b = open Classical in if b = true ∨ (v.Kind ≠ 5 ∧ v.Ratios ≠ []) ∨ (v.Kind ≠ 13 ∧ v.Entries ≠ []) then some 1 else Q4 v := by
 unfold Zf
 cases b
 ·rw [Qo, cI, j10_fault, j10_fault]
  by_cases h2 : v.Ratios = []
  ·rw [if_neg (by rw [Wy]; simpa using h2)]; simp [h2]
  ·rw [if_pos ((Wy _).2 h2)]; simp [h2]
 ·rw [Qv, Qv, if_pos (.inl rfl)]
theorem j8_fault (v : T_tag_Value) (x4 b : Bool) : Zg v x4 b = open Classical in if b = true ∨ (x4 = false ∧ v.Ints ≠ []) ∨ (v.Kind ≠ 5 ∧ v.Ratios ≠ []) ∨ (v.Kind ≠ 13 ∧ v.Entries ≠ []) then some 1 else Q4 v := by
 unfold Zg
 cases b
 ·rw [Qo, cI, j9_fault, j9_fault]
  by_cases h2 : v.Ints = []
  ·rw [if_neg (by rw [Wy]; simpa using h2)]; simp [h2]
  ·rw [if_pos ((Wy _).2 h2)]; cases x4 <;> simp [h2]
 ·rw [Qv, Qv, if_pos (.inl rfl)]
theorem ValueFault_eq {v : T_tag_Value} (hb : vB v) (h13 : v.Kind ≠ 13) : Wk v = some (plainE v) := by
 have e : Wk v = Q5 v (decide (Ue v.Kind)) (decide (Wq v.Kind)) := by
  unfold Wk Ue Wq
  by_cases h2 : v.Kind = 2
  ·simp [h2, Qv, Qo]
  by_cases h1 : v.Kind = 1
  ·simp [h1, Qv, Qo]
  by_cases h3 : v.Kind = 3
  ·simp [h3, Qv, Qo]
  by_cases h4 : v.Kind = 4
  ·simp [h4, Qv, Qo]
  simp [h2, h1, h3, h4, Qo]
 rw [e]
 unfold Q5
 rw [wide_eq, Je, cI, if_neg h13]
 unfold plainE Vm
 by_cases hk : kindP v.Kind
 ·rw [if_neg (fun e => (wide_zero _ h13).1 e hk), cI, j8_fault, j8_fault, j2_fault hb h13, if_neg (show ¬ ¬ kindP v.Kind from fun h => h hk)]
  have hfm : (if v.Text ≠ [] then (open Classical in if (!decide (Ue v.Kind)) = true ∨ (decide (Wq v.Kind) = false ∧ v.Ints ≠ []) ∨ (v.Kind ≠ 5 ∧ v.Ratios ≠ []) ∨ (v.Kind ≠ 13 ∧ v.Entries ≠ []) then True else False) else (open Classical in if false = true ∨ (decide (Wq v.Kind) = false ∧ v.Ints ≠ []) ∨ (v.Kind ≠ 5 ∧ v.Ratios ≠ []) ∨ (v.Kind ≠ 13 ∧ v.Entries ≠ []) then True else False)) ↔ formP v := by
   unfold formP
   by_cases ht : v.Text = [] <;> by_cases hk1 : Ue v.Kind <;> by_cases hk2 : Wq v.Kind <;> simp [ht, hk1, hk2]
  by_cases hf : formP v
  ·rw [if_pos hf, if_pos (show (1 : Int) ≠ 0 by omega)]
   by_cases ht : v.Text = []
   ·rw [if_neg (by simpa using ht)]
    rw [if_neg (by simpa using ht)] at hfm
    have := hfm.2 hf
    split at this
    ·rename_i h; rw [if_pos h]
    ·exact this.elim
   ·rw [if_pos ht]
    rw [if_pos ht] at hfm
    have := hfm.2 hf
    split at this
    ·rename_i h; rw [if_pos h]
    ·exact this.elim
  ·rw [if_neg hf, if_neg (show ¬ ((0 : Int) ≠ 0) by omega)]
   by_cases ht : v.Text = []
   ·rw [if_neg (by simpa using ht)]
    rw [if_neg (by simpa using ht)] at hfm
    rw [if_neg (fun h => hf (hfm.1 (by rw [if_pos h]; trivial)))]
   ·rw [if_pos ht]
    rw [if_pos ht] at hfm
    rw [if_neg (fun h => hf (hfm.1 (by rw [if_pos h]; trivial)))]
 ·rw [if_pos ((wide_zero _ h13).2 hk), if_pos hk, if_pos (show (10 : Int) ≠ 0 by omega)]
end Go.M

/- Directories checked, values as octets, in plain Lean. Conditions: none. -/
namespace Go.M
open Go.Md Go.Pl
def szD : Nat → List T_tag_Entry → Nat
 | 0, _ => 0
 | d + 1, l => (l.map fun e => 1 + e.Value.Text.length + e.Value.Ints.length + e.Value.Ratios.length + szD d e.Value.Entries).sum
def szE (d : Nat) (e : T_tag_Entry) : Nat := 1 + e.Value.Text.length + e.Value.Ints.length + e.Value.Ratios.length + szD d e.Value.Entries
theorem szD_cons (d : Nat) (e : T_tag_Entry) (l : List T_tag_Entry) : szD (d + 1) (e :: l) = szE d e + szD (d + 1) l := by
 simp only [szD, szE, List.map_cons, List.sum_cons]
theorem szD_mem {d : Nat} {e : T_tag_Entry} : ∀ {l : List T_tag_Entry}, e ∈ l → szE d e ≤ szD (d + 1) l
 | [], h => by cases h
 | x :: l, h => by
  rw [szD_cons]
  rcases List.mem_cons.1 h with h | h
  ·subst h; omega
  ·have := szD_mem (d := d) h; omega
theorem vB_of {d : Nat} {e : T_tag_Entry} {l : List T_tag_Entry} (h : szD (d + 1) l ≤ 2000000) (he : e ∈ l) : vB e.Value ∧ szD d e.Value.Entries ≤ 2000000 := by
 have := szD_mem (d := d) he
 unfold szE at this
 unfold vB
 omega
def prevT (l : List T_tag_Entry) : Nat → Option Int
 | 0 => none
 | k + 1 => (l[k]?).map (·.Tag)
def lowP (pr : Option Int) (e : T_tag_Entry) : Prop := ∃ t, pr = some t ∧ e.Tag ≤ t
noncomputable def listE (f : T_tag_Entry → Int) : Option Int → List T_tag_Entry → Int
 | _, [] => 0
 | pr, e :: l => open Classical in if e.Tag < 0 ∨ 65535 < e.Tag then 2 else if lowP pr e then 5 else if f e ≠ 0 then f e else listE f (some e.Tag) l
theorem list_loop {G : (Int → Option Int) → Int → Option Int} (l : List T_tag_Entry) (f : T_tag_Entry → Int)
  (more : ∀ (next : Int → Option Int) (k : Nat) (hk : k < l.length), G next (k : Int) = open Classical in if l[k].Tag < 0 ∨ 65535 < l[k].Tag then some 2 else if lowP (prevT l k) l[k] then some 5 else if f l[k] ≠ 0 then some (f l[k]) else next ((k : Int) + 1))
  (stop : ∀ next, G next (l.length : Int) = some 0) : Z5 G 0 = some (listE f none l) := by
 have key : ∀ m i : Nat, i + m = l.length → Z5 G (i : Int) = some (listE f (prevT l i) (l.drop i)) := by
  intro m
  induction m with
  | zero =>
   intro i hi
   have : i = l.length := by omega
   subst this
   rw [List.drop_length]
   exact Q8 stop
  | succ m ih =>
   intro i hi
   have hlt : i < l.length := by omega
   rw [List.drop_eq_getElem_cons hlt]
   unfold listE
   by_cases h1 : l[i].Tag < 0 ∨ 65535 < l[i].Tag
   ·rw [if_pos h1]
    exact Q8 fun next => by rw [more next i hlt, if_pos h1]
   rw [if_neg h1]
   by_cases h2 : lowP (prevT l i) l[i]
   ·rw [if_pos h2]
    exact Q8 fun next => by rw [more next i hlt, if_neg h1, if_pos h2]
   rw [if_neg h2]
   by_cases h3 : f l[i] ≠ 0
   ·rw [if_pos h3]
    exact Q8 fun next => by rw [more next i hlt, if_neg h1, if_neg h2, if_pos h3]
   rw [if_neg h3, X0 ((i : Int) + 1) (fun next => by rw [more next i hlt, if_neg h1, if_neg h2, if_neg h3])]
   have := ih (i + 1) (by omega)
   have e1 : prevT l (i + 1) = some l[i].Tag := by show (l[i]?).map _ = _; rw [List.getElem?_eq_getElem hlt]; rfl
   rw [e1] at this
   exact this
 have := key l.length 0 (by omega)
 rw [List.drop_zero] at this
 exact this
theorem listE_zero {f : T_tag_Entry → Int} : ∀ {l : List T_tag_Entry} {pr : Option Int}, listE f pr l = 0 → ∀ e ∈ l, f e = 0
 | [], _, _, e, he => by cases he
 | x :: l, pr, h, e, he => by
  unfold listE at h
  split at h
  ·omega
  split at h
  ·omega
  split at h
  ·rename_i h1; exact absurd h h1
  ·rename_i h1
   rcases List.mem_cons.1 he with h' | h'
   ·subst h'; simpa using h1
   ·exact listE_zero h e h'
noncomputable def dE : Nat → List T_tag_Entry → Int
 | 0, _ => 4
 | d + 1, l => if 200 < l.length then 4 else listE (fun e => if e.Value.Kind ≠ 13 then plainE e.Value else if Vm e.Value ≠ 0 then Vm e.Value else dE d e.Value.Entries) none l
theorem low_step {α : Type} {l : List T_tag_Entry} {k : Nat} (hk : k < l.length) (hl : l.length ≤ 1000) (J : Option α) (x : α) :
  Qp (decide (0 < (k : Int))) (Qg (gI ((k : Int) - 1)) fun t => Qg (Qj l t) fun t35 => Qp (decide (l[k].Tag ≤ t35.Tag)) (some x) J) J = open Classical in if lowP (prevT l k) l[k] then some x else J := by
 rw [cI]
 cases k with
 | zero =>
  rw [if_neg (by omega), if_neg]
  rintro ⟨t, h, _⟩
  cases h
 | succ k =>
  have e : prevT l (k + 1) = some l[k].Tag := by show (l[k]?).map _ = _; rw [List.getElem?_eq_getElem (by omega)]; rfl
  rw [if_pos (by omega), Qm (by omega), Je, show (((k + 1 : Nat) : Int) - 1) = (k : Int) from by omega, Ql (by omega), Je, cI, e]
  by_cases h : l[k + 1].Tag ≤ l[k].Tag
  ·rw [if_pos h, if_pos ⟨_, rfl, h⟩]
  ·rw [if_neg h, if_neg]
   rintro ⟨t, ht, h'⟩
   cases ht
   exact h h'
theorem checkDir_eq (d : Nat) (l : List T_tag_Entry) (deep : Int) (hd : deep = 6 - (d : Int)) (h5 : d ≤ 5) (hz : szD d l ≤ 2000000) : Uh l deep = some (dE d l) := by
 unfold Uh
 refine fix_ofG (fun d (a : List T_tag_Entry × Int) => some (dE d a.1)) (fun d a => a.2 = 6 - (d : Int) ∧ d ≤ 5 ∧ szD d a.1 ≤ 2000000) (fun d => d) ?_ d (l, deep) ⟨hd, h5, hz⟩
 rintro next d ⟨l, deep⟩ ⟨hd, h5, hz⟩ ih
 simp only at hd hz
 show Xr next l deep = some (dE d l)
 unfold Xr
 rw [cI, cI]
 cases d with
 | zero => rw [if_pos (by omega)]; rfl
 | succ d =>
  rw [if_neg (by omega)]
  unfold dE
  by_cases hl : 200 < l.length
  ·rw [if_pos (by omega), if_pos hl]
  rw [if_neg (by omega), if_neg hl]
  refine list_loop l _ (fun nx k hk => ?_) (fun nx => ?_)
  ·obtain ⟨hb, hzn⟩ := vB_of hz (List.getElem_mem hk)
   unfold Yw
   rw [cI, if_pos (by omega), Ql hk, Je, out_tag, Je, cI]
   by_cases h1 : l[k].Tag < 0 ∨ 65535 < l[k].Tag
   ·rw [if_pos h1, if_pos h1]
   rw [if_neg h1, if_neg h1, low_step hk (by omega)]
   congr 1
   unfold Vh
   have e3 : ∀ x : Int, Yv (k : Int) nx x = if x ≠ 0 then some x else nx ((k : Int) + 1) := fun x => by
    unfold Yv; rw [cI, Qm (by omega), Je]
   rw [cI]
   by_cases h13 : l[k].Value.Kind ≠ 13
   ·rw [if_pos h13, checkPlain_eq hb, Je, e3]; simp only [if_pos h13]
   ·rw [if_neg h13, checkFields_eq, Je, cI]
    simp only [if_neg h13]
    by_cases hf : Vm l[k].Value = 0
    ·have := ih d (l[k].Value.Entries, deep + 1) ⟨by show deep + 1 = _; omega, by omega, hzn⟩ (by omega)
     rw [if_pos hf, Qm (by omega), Je, this, Je, e3, if_neg (show ¬ Vm l[k].Value ≠ 0 from fun h => h hf)]
    ·rw [if_neg hf, e3]; simp [hf]
  ·unfold Yw
   rw [cI, if_neg (by omega)]
theorem fields13 {v : T_tag_Value} (h : v.Kind = 13) : Vm v = open Classical in if v.Text ≠ [] ∨ v.Ints ≠ [] ∨ v.Ratios ≠ [] then 1 else 0 := by
 unfold Vm
 rw [if_neg (show ¬ ¬ kindP v.Kind from fun x => x (.inr (.inr (.inr h))))]
 congr 1
 apply propext
 unfold formP Wq Ue
 rw [h]
 constructor
 ·rintro (⟨_, a⟩ | ⟨_, a⟩ | ⟨_, a⟩ | ⟨a, _⟩)
  ·exact .inr (.inl a)
  ·exact .inl a
  ·exact .inr (.inr a)
  ·exact absurd rfl a
 ·rintro (a | a | a)
  ·exact .inr (.inl ⟨by omega, a⟩)
  ·exact .inl ⟨by omega, a⟩
  ·exact .inr (.inr (.inl ⟨by omega, a⟩))
theorem dirFault_eq (d : Nat) (l : List T_tag_Entry) (deep : Int) (hd : deep = 6 - (d : Int)) (h5 : d ≤ 5) (hz : szD d l ≤ 2000000) : R_dirFault l deep = some (dE d l) := by
 unfold R_dirFault
 refine fix_ofG (fun d (a : List T_tag_Entry × Int) => some (dE d a.1)) (fun d a => a.2 = 6 - (d : Int) ∧ d ≤ 5 ∧ szD d a.1 ≤ 2000000) (fun d => d) ?_ d (l, deep) ⟨hd, h5, hz⟩
 rintro next d ⟨l, deep⟩ ⟨hd, h5, hz⟩ ih
 simp only at hd hz
 show Yc next l deep = some (dE d l)
 unfold Yc
 rw [cI, cI]
 cases d with
 | zero => rw [if_pos (by omega)]; rfl
 | succ d =>
  rw [if_neg (by omega)]
  unfold dE
  by_cases hl : 200 < l.length
  ·rw [if_pos (by omega), if_pos hl]
  rw [if_neg (by omega), if_neg hl]
  refine list_loop l _ (fun nx k hk => ?_) (fun nx => ?_)
  ·obtain ⟨hb, hzn⟩ := vB_of hz (List.getElem_mem hk)
   unfold Zt
   rw [cI, if_pos (by omega), Ql hk, Je, cI, cI]
   by_cases h1 : l[k].Tag < 0
   ·rw [if_pos h1, if_pos (.inl h1)]
   by_cases h2 : 65535 < l[k].Tag
   ·rw [if_neg h1, if_pos h2, if_pos (.inr h2)]
   rw [if_neg h1, if_neg h2, if_neg (show ¬ (l[k].Tag < 0 ∨ 65535 < l[k].Tag) by omega), low_step hk (by omega)]
   congr 1
   unfold V7
   have e3 : ∀ a b c g i j m o, Vl (k : Int) nx a b c g i j m o = nx ((k : Int) + 1) := fun a b c g i j m o => by
    unfold Vl; rw [Qm (by omega), Je]
   simp only [e3]
   rw [cI]
   by_cases h13 : l[k].Value.Kind ≠ 13
   ·rw [if_pos h13, ValueFault_eq hb h13, Je, cI]; simp only [if_pos h13]
   ·have h13' : l[k].Value.Kind = 13 := by simpa using h13
    rw [if_neg h13, cI, cI, cI]
    simp only [if_neg h13]
    rw [fields13 h13']
    by_cases a1 : l[k].Value.Text = []
    ·by_cases a2 : l[k].Value.Ints = []
     ·by_cases a3 : l[k].Value.Ratios = []
      ·have := ih d (l[k].Value.Entries, deep + 1) ⟨by show deep + 1 = _; omega, by omega, hzn⟩ (by omega)
       rw [if_neg (show ¬ (l[k].Value.Text ≠ []) by simpa using a1), if_neg (by rw [Wy]; simpa using a2), if_neg (by rw [Wy]; simpa using a3), Qm (by omega), Je, this, Je, cI]
       simp [a1, a2, a3]
      ·rw [if_neg (show ¬ (l[k].Value.Text ≠ []) by simpa using a1), if_neg (by rw [Wy]; simpa using a2), if_pos ((Wy _).2 a3)]
       simp [a3]
     ·rw [if_neg (show ¬ (l[k].Value.Text ≠ []) by simpa using a1), if_pos ((Wy _).2 a2)]
      simp [a2]
    ·rw [if_pos a1]
     simp [a1]
  ·unfold Zt
   rw [cI, if_neg (by omega)]
def okV (v : T_tag_Value) : Prop := kindP v.Kind ∧ ¬ formP v
def okD : Nat → List T_tag_Entry → Prop
 | 0, _ => False
 | d + 1, l => l.length ≤ 200 ∧ ∀ e ∈ l, okV e.Value ∧ (e.Value.Kind = 13 → okD d e.Value.Entries)
theorem fields_ok {v : T_tag_Value} (h : Vm v = 0) : okV v := by
 unfold Vm at h
 split at h
 ·omega
 split at h
 ·omega
 rename_i h1 h2
 exact ⟨Classical.byContradiction h1, h2⟩
theorem dE_ok : ∀ {d : Nat} {l : List T_tag_Entry}, dE d l = 0 → okD d l := by
 intro d
 induction d with
 | zero => intro l h; unfold dE at h; omega
 | succ d ih =>
  intro l h
  unfold dE at h
  split at h
  ·omega
  rename_i hl
  refine ⟨by omega, fun e he => ?_⟩
  have := listE_zero h e he
  split at this
  ·rename_i h13
   refine ⟨?_, fun h => absurd h h13⟩
   unfold plainE at this
   split at this
   ·rename_i h1; exact absurd this h1
   ·rename_i h1; exact fields_ok (by simpa using h1)
  ·split at this
   ·rename_i h1; exact absurd this h1
   ·rename_i h1; exact ⟨fields_ok (by simpa using h1), fun _ => ih this⟩
theorem fix_listR {α ρ σ : Type} {F : (σ × Int → Option ρ) → σ × Int → Option ρ} (xs : List α) (f : σ → α → σ) (J : σ → Option ρ) (I : Nat → σ → Prop)
  (more : ∀ (next : σ × Int → Option ρ) (k : Nat) (s : σ) (hk : k < xs.length), I k s → F next (s, (k : Int)) = next (f s xs[k], (k : Int) + 1) ∧ I (k + 1) (f s xs[k]))
  (stop : ∀ (next : σ × Int → Option ρ) (s : σ), I xs.length s → F next (s, (xs.length : Int)) = J s) (s : σ) (hs : I 0 s) : Z5 F (s, 0) = J (xs.foldl f s) := by
 have key : ∀ n k s, k ≤ xs.length → xs.length - k < n → I k s → Z5 F (s, (k : Int)) = J ((xs.drop k).foldl f s) := by
  intro n
  induction n with
  | zero => intro k s _ h; omega
  | succ n ih =>
   intro k s hk h hI
   rcases Nat.lt_or_ge k xs.length with h1 | h1
   ·rw [X0 (f s xs[k], (k : Int) + 1) (fun next => (more next k s h1 hI).1), List.drop_eq_getElem_cons h1, List.foldl_cons]
    exact ih (k + 1) _ (by omega) (by omega) (more (fun _ => none) k s h1 hI).2
   ·have : k = xs.length := by omega
    subst this
    rw [List.drop_length]
    exact Q8 fun next => stop next s hI
 have := key (xs.length + 1) 0 s (Nat.zero_le _) (by omega) hs
 simpa using this
theorem fold_flat {α : Type} (g : α → List UInt8) : ∀ (xs : List α) (a : List UInt8), xs.foldl (fun s x => s ++ g x) a = a ++ xs.flatMap g
 | [], a => by simp
 | x :: xs, a => by rw [List.foldl_cons, fold_flat g xs]; simp
noncomputable def ratS (big : Bool) (r : T_tag_Ratio) : List UInt8 := Ze big r.Num 4 ++ Ze big r.Den 4
noncomputable def W9 (big : Bool) (v : T_tag_Value) : List UInt8 :=
 if v.Kind = 2 then v.Text ++ [0] else if v.Kind = 7 then v.Text else if v.Kind = 5 then v.Ratios.flatMap (ratS big) else v.Ints.flatMap fun n => Ze big n (Vn v.Kind)
def cntS (v : T_tag_Value) : Nat := if v.Kind = 2 then v.Text.length + 1 else if v.Kind = 7 then v.Text.length else if v.Kind = 5 then v.Ratios.length else if v.Kind = 13 then 1 else v.Ints.length
theorem Wv {α : Type} {g : α → List UInt8} {w : Nat} (h : ∀ x, (g x).length = w) : ∀ xs : List α, (xs.flatMap g).length = xs.length * w
 | [] => by simp
 | x :: xs => by rw [List.flatMap_cons, List.length_append, h, Wv h xs, List.length_cons, Nat.add_mul]; omega
theorem ratS_len (big : Bool) (r : T_tag_Ratio) : (ratS big r).length = 8 := by
 unfold ratS; rw [List.length_append, X1 _ _ (by omega), X1 _ _ (by omega)]
theorem octS_len (big : Bool) {v : T_tag_Value} (hv : okV v) (h13 : v.Kind ≠ 13) : (W9 big v).length = cntS v * Vn v.Kind := by
 unfold W9 cntS
 by_cases h2 : v.Kind = 2
 ·rw [if_pos h2, if_pos h2, List.length_append, h2]; simp [Vn]
 rw [if_neg h2, if_neg h2]
 by_cases h7 : v.Kind = 7
 ·rw [if_pos h7, if_pos h7, h7]; simp [Vn]
 rw [if_neg h7, if_neg h7]
 by_cases h5 : v.Kind = 5
 ·rw [if_pos h5, if_pos h5, h5, Wv (ratS_len big)]; rfl
 rw [if_neg h5, if_neg h5, if_neg h13, Wv (w := Vn v.Kind) (fun n => X1 _ _ (wideN_le _))]
theorem octS_le (big : Bool) (v : T_tag_Value) : (W9 big v).length ≤ 1 + v.Text.length + 8 * v.Ints.length + 8 * v.Ratios.length := by
 unfold W9
 split
 ·rw [List.length_append, List.length_singleton]; omega
 split
 ·omega
 split
 ·rw [Wv (ratS_len big)]; omega
 ·rw [Wv (w := Vn v.Kind) (fun n => X1 _ _ (wideN_le _))]
  have := Nat.mul_le_mul_left v.Ints.length (wideN_le v.Kind)
  omega
theorem count_eq {v : T_tag_Value} (hb : vB v) : tag_count v = some (cntS v : Int) := by
 unfold tag_count cntS
 have := hb.1
 rw [cI, cI, cI, cI]
 by_cases h2 : v.Kind = 2
 ·rw [if_pos h2, if_pos h2, Qm (by omega), Je]; rfl
 by_cases h7 : v.Kind = 7
 ·rw [if_neg h2, if_pos h7, if_neg h2, if_pos h7]
 by_cases h5 : v.Kind = 5
 ·rw [if_neg h2, if_neg h7, if_pos h5, if_neg h2, if_neg h7, if_pos h5]
 by_cases h13 : v.Kind = 13
 ·rw [if_neg h2, if_neg h7, if_neg h5, if_pos h13, if_neg h2, if_neg h7, if_neg h5, if_pos h13]; rfl
 rw [if_neg h2, if_neg h7, if_neg h5, if_neg h13, if_neg h2, if_neg h7, if_neg h5, if_neg h13]
theorem ok_parts {v : T_tag_Value} (hv : okV v) : (¬ Wq v.Kind → v.Ints = []) ∧ (¬ Ue v.Kind → v.Text = []) ∧ (v.Kind ≠ 5 → v.Ratios = []) := by
 obtain ⟨_, hf⟩ := hv
 unfold formP at hf
 refine ⟨fun h => ?_, fun h => ?_, fun h => ?_⟩
 ·exact Classical.byContradiction fun e => hf (.inl ⟨h, e⟩)
 ·exact Classical.byContradiction fun e => hf (.inr (.inl ⟨h, e⟩))
 ·exact Classical.byContradiction fun e => hf (.inr (.inr (.inl ⟨h, e⟩)))
theorem R_octets_eq {big : Bool} {v : T_tag_Value} (hb : vB v) (hv : okV v) (h13 : v.Kind ≠ 13) : X8 big v = some (W9 big v) := by
 have hb' := hb
 obtain ⟨b1, b2, b3⟩ := hb'
 obtain ⟨p1, p2, p3⟩ := ok_parts hv
 have j2 : ∀ a : List UInt8, a.length ≤ 32000000 → Wc big v a = some (a ++ v.Ratios.flatMap (ratS big)) := fun a ha => by
  unfold Wc
  rw [← fold_flat]
  refine fix_listR (F := fun next3 s => Yy big v next3 s.1 s.2) v.Ratios (fun s r => s ++ ratS big r) some (fun k s => s.length ≤ a.length + 8 * k) (fun next k s hk hs => ?_) (fun next s hs => ?_) _ (by omega)
  ·refine ⟨?_, by show (s ++ _).length ≤ _; rw [List.length_append, ratS_len]; omega⟩
   show Yy big v next s (k : Int) = _
   unfold Yy
   have l1 : (Ze big v.Ratios[k].Num 4).length = 4 := X1 _ _ (by omega)
   have l2 : (Ze big v.Ratios[k].Den 4).length = 4 := X1 _ _ (by omega)
   rw [cI, if_pos (by omega), Ql hk, Je, R4, Je, R4, Je, Vv (by omega), Je, Vv (by rw [List.length_append]; omega), Je, Qm (by omega), Je]
   rfl
  ·show Yy big v next s (v.Ratios.length : Int) = _
   unfold Yy
   rw [cI, if_neg (by omega)]
 have j1 : ∀ a : List UInt8, a.length ≤ 4000000 → Wf big v a = some (a ++ (v.Ints.flatMap fun n => Ze big n (Vn v.Kind)) ++ v.Ratios.flatMap (ratS big)) := fun a ha => by
  unfold Wf
  have hloop := fix_listR (F := fun next4 s => Yz big v next4 s.1 s.2) v.Ints (fun s n => s ++ Ze big n (Vn v.Kind)) (Wc big v) (fun k s => s.length ≤ a.length + 8 * k) (fun next k s hk hs => by
   have hw := wideN_le v.Kind
   have l1 : (Ze big v.Ints[k] (Vn v.Kind)).length = Vn v.Kind := X1 _ _ hw
   refine ⟨?_, by show (s ++ _).length ≤ _; rw [List.length_append, l1]; omega⟩
   show Yz big v next s (k : Int) = _
   unfold Yz
   rw [cI, if_pos (by omega), Ql hk, Je, wide_eq, Je, if_neg h13, num_R _ _ hw, Je, Vv (by omega), Je, Qm (by omega), Je]) (fun next s hs => by
   show Yz big v next s (v.Ints.length : Int) = _
   unfold Yz
   rw [cI, if_neg (by omega)]) a (by omega)
  rw [hloop, fold_flat, j2]
  rw [List.length_append, Wv (w := Vn v.Kind) (fun n => X1 _ _ (wideN_le _))]
  have := Nat.mul_le_mul_left v.Ints.length (wideN_le v.Kind)
  omega
 unfold X8 W9
 rw [cI]
 by_cases h2 : v.Kind = 2
 ·rw [if_pos h2, if_pos h2, Vv (by rw [List.length_singleton]; omega), Je, j1 _ (by rw [List.length_append, List.length_singleton]; omega), p1 (by rw [h2]; unfold Wq; omega), p3 (by omega)]
  simp
 rw [if_neg h2, if_neg h2, j1 _ (by omega)]
 by_cases h7 : v.Kind = 7
 ·rw [if_pos h7, p1 (by rw [h7]; unfold Wq; omega), p3 (by omega)]
  simp
 rw [if_neg h7, p2 (by unfold Ue; omega), List.nil_append]
 by_cases h5 : v.Kind = 5
 ·rw [if_pos h5, p1 (by rw [h5]; unfold Wq; omega)]; rfl
 ·rw [if_neg h5, p3 h5, List.flatMap_nil, List.append_nil]
theorem R_count_eq {v : T_tag_Value} (hb : vB v) (hv : okV v) : R_count v = some (cntS v : Int) := by
 unfold R_count
 rw [cI]
 by_cases h13 : v.Kind = 13
 ·rw [if_pos h13]; unfold cntS; rw [h13]; rfl
 ·rw [if_neg h13, R_octets_eq hb hv h13, Je, wide_eq, Je, if_neg h13, octS_len false hv h13]
  have hw : Vn v.Kind ≠ 0 := fun e => (wide_zero _ h13).1 (by rw [e]; rfl) hv.1
  have hle := octS_le false v
  rw [octS_len false hv h13] at hle
  have hb1 := hb.1; have hb2 := hb.2.1; have hb3 := hb.2.2
  have e : (((cntS v * Vn v.Kind : Nat) : Int)).tdiv (Vn v.Kind : Int) = (cntS v : Int) := by
   rw [Int.natCast_mul, Int.mul_tdiv_cancel _ (by omega)]
  have hc : cntS v ≤ cntS v * Vn v.Kind := Nat.le_mul_of_pos_right _ (by omega)
  unfold gQuo
  rw [if_neg (by omega), e, Qm (by omega), Je]
end Go.M

/- Directories and files written, in plain Lean; the law TagWrites. Conditions: none. -/
namespace Go.M
open Go.Md Go.Pl
def Ve (n : Nat) : List UInt8 := List.replicate n 0
def ev (p : Nat) : Nat := p + p % 2
def pad (p : Nat) : List UInt8 := Ve (p % 2)
def put (s : List UInt8) (at_ : Nat) (b : List UInt8) : List UInt8 := s.take at_ ++ b ++ s.drop (at_ + b.length)
theorem Xs (n : Nat) : (Ve n).length = n := List.length_replicate
theorem pad_len (p : Nat) : (pad p).length = p % 2 := Xs _
theorem zer_add (a b : Nat) : Ve (a + b) = Ve a ++ Ve b := List.replicate_append_replicate.symm
theorem put_len {s : List UInt8} {a : Nat} {b : List UInt8} (h : a + b.length ≤ s.length) : (put s a b).length = s.length := by
 unfold put
 simp only [List.length_append, List.length_take, List.length_drop]; omega
theorem put_at (A B C b : List UInt8) (h : b.length = B.length) {a : Nat} (ha : a = A.length) : put (A ++ B ++ C) a b = A ++ b ++ C := by
 subst ha
 unfold put
 rw [h, List.append_assoc A B C, List.take_left' rfl, ← List.append_assoc A B C, List.drop_left' (by rw [List.length_append])]
theorem R_set_eq {big : Bool} {s : List UInt8} {a n : Int} {p k : Nat} {k' : Int} (ha : a = (p : Int)) (hk' : k' = (k : Int)) (hk : k ≤ 8) (h : p + k ≤ s.length) (hs : s.length ≤ 4611686018427387904) : Xe ⟨s, big⟩ a n k' = some ⟨put s p (Ze big n k), big⟩ := by
 subst ha hk'
 unfold Xe
 dsimp only
 have hl := X1 big n hk
 rw [gCut_to (by omega), Je, num_R _ _ hk, Je, Vv (by rw [List.length_take]; omega), Je, Qm (by omega), Je, gCut_from (by omega), Je, Vv (by rw [List.length_append, List.length_take, List.length_drop]; omega), Je]
 unfold put
 rw [hl, Int.toNat_natCast, show ((p : Int) + (k : Int)).toNat = p + k from by omega]
theorem R_add_eq {big : Bool} {s a : List UInt8} (hs : s.length + a.length ≤ 4611686018427387904) : V4 ⟨s, big⟩ a = some (((ev s.length : Nat) : Int), ⟨s ++ pad s.length ++ a, big⟩) := by
 unfold V4 Z3 ev pad
 dsimp only
 rw [gRem_ok (by omega), Je, cI]
 have e : ((s.length : Int)).tmod 2 = ((s.length % 2 : Nat) : Int) := by rw [Int.tmod_eq_emod_of_nonneg (by omega)]; omega
 by_cases h : s.length % 2 = 0
 ·rw [e, if_neg (by omega), h, Vv (by omega), Je]
  simp [Ve]
 ·have h1 : s.length % 2 = 1 := by omega
  rw [e, if_pos (by omega), Vv (by rw [List.length_singleton]; omega), Je, h1, Vv (by rw [List.length_append, List.length_singleton]; omega), Je]
  simp [Ve]
noncomputable def Wg (big : Bool) (e : T_tag_Entry) : List UInt8 := Ze big e.Tag 2 ++ Ze big e.Value.Kind 2 ++ Ze big (cntS e.Value) 4
theorem hdr_len (big : Bool) (e : T_tag_Entry) : (Wg big e).length = 8 := by
 unfold Wg; rw [List.length_append, List.length_append, X1 _ _ (by omega), X1 _ _ (by omega), X1 _ _ (by omega)]
noncomputable def entF (G : List T_tag_Entry → Nat → List UInt8) (big : Bool) (e : T_tag_Entry) (q : Nat) : List UInt8 × List UInt8 :=
 if e.Value.Kind = 13 then (Ze big (ev q) 4, G e.Value.Entries q)
 else if (W9 big e.Value).length ≤ 4 then (W9 big e.Value ++ Ve (4 - (W9 big e.Value).length), [])
 else (Ze big (ev q) 4, pad q ++ W9 big e.Value)
theorem entF_len (G : List T_tag_Entry → Nat → List UInt8) (big : Bool) (e : T_tag_Entry) (q : Nat) : (entF G big e q).1.length = 4 := by
 unfold entF
 split
 ·exact X1 _ _ (by omega)
 split
 ·rw [List.length_append, Xs]; omega
 ·exact X1 _ _ (by omega)
noncomputable def bods (G : List T_tag_Entry → Nat → List UInt8) (big : Bool) : List T_tag_Entry → Nat → List UInt8 × List UInt8
 | [], _ => ([], [])
 | e :: l, q => (Wg big e ++ (entF G big e q).1 ++ (bods G big l (q + (entF G big e q).2.length)).1, (entF G big e q).2 ++ (bods G big l (q + (entF G big e q).2.length)).2)
theorem bods_len (G : List T_tag_Entry → Nat → List UInt8) (big : Bool) : ∀ (l : List T_tag_Entry) (q : Nat), (bods G big l q).1.length = 12 * l.length
 | [], _ => rfl
 | e :: l, q => by
  unfold bods
  rw [List.length_append, List.length_append, hdr_len, entF_len, bods_len G big l, List.length_cons]; omega
noncomputable def dirB (G : List T_tag_Entry → Nat → List UInt8) (big : Bool) (l : List T_tag_Entry) (p : Nat) : List UInt8 :=
 pad p ++ Ze big l.length 2 ++ (bods G big l (ev p + 2 + 12 * l.length + 4)).1 ++ Ve 4 ++ (bods G big l (ev p + 2 + 12 * l.length + 4)).2
noncomputable def Z9 : Nat → Bool → List T_tag_Entry → Nat → List UInt8
 | 0, _ => fun _ _ => []
 | d + 1, big => dirB (Z9 d big) big
theorem dirB_len (G : List T_tag_Entry → Nat → List UInt8) (big : Bool) (l : List T_tag_Entry) (p : Nat) : p + (dirB G big l p).length = ev p + 2 + 12 * l.length + 4 + (bods G big l (ev p + 2 + 12 * l.length + 4)).2.length := by
 unfold dirB ev
 simp only [List.length_append, pad_len, X1 _ _ (show 2 ≤ 8 by omega), bods_len, Xs]; omega
theorem dirS_le (big : Bool) : ∀ (d : Nat) (l : List T_tag_Entry) (p : Nat), (Z9 d big l p).length ≤ 8 + 32 * szD d l := by
 intro d
 induction d with
 | zero => intro l p; exact Nat.zero_le _
 | succ d ih =>
  intro l p
  have hb : ∀ (l : List T_tag_Entry) (q : Nat), (bods (Z9 d big) big l q).2.length + 12 * l.length ≤ 32 * szD (d + 1) l := by
   intro l
   induction l with
   | nil => intro q; exact Nat.zero_le _
   | cons e l ih2 =>
    intro q
    unfold bods
    rw [List.length_append, List.length_cons, szD_cons]
    have h1 := ih2 (q + (entF (Z9 d big) big e q).2.length)
    have h2 : (entF (Z9 d big) big e q).2.length + 12 ≤ 32 * szE d e := by
     unfold entF szE
     split
     ·have := ih e.Value.Entries q; simp only; omega
     split
     ·simp only [List.length_nil]; omega
     ·have := octS_le big e.Value
      simp only [List.length_append, pad_len]; omega
    omega
  have h1 := dirB_len (Z9 d big) big l p
  have h2 := hb l (ev p + 2 + 12 * l.length + 4)
  show (dirB (Z9 d big) big l p).length ≤ _
  have h3 : ev p ≤ p + 1 := by unfold ev; omega
  omega
end Go.M

/- Directories and files written by both, in plain Lean. Conditions: none. -/
namespace Go.M
open Go.Md Go.Pl
theorem zer_mul (n : Nat) : Ve (12 * (n + 1)) = Ve 2 ++ Ve 2 ++ Ve 4 ++ Ve 4 ++ Ve (12 * n) := by
 rw [← zer_add, ← zer_add, ← zer_add, ← zer_add]; congr 1; omega
theorem spec_loop {big : Bool} {l : List T_tag_Entry} (hl : l.length ≤ 200) (hv : ∀ e ∈ l, okV e.Value ∧ vB e.Value) {G : List T_tag_Entry → Nat → List UInt8} {self : T_tintref2_written × List T_tag_Entry → Option (Int × T_tintref2_written)}
  (hself : ∀ e ∈ l, e.Value.Kind = 13 → ∀ s : List UInt8, s.length + (G e.Value.Entries s.length).length ≤ 1099511627776 → self (⟨s, big⟩, e.Value.Entries) = some (((ev s.length : Nat) : Int), ⟨s ++ G e.Value.Entries s.length, big⟩))
  {t17 : Int × T_tintref2_written} {at_ : Nat} (ht : t17.1 = (at_ : Int)) :
  ∀ (l2 : List T_tag_Entry) (i : Nat) (X Y : List UInt8), i + l2.length = l.length → l.drop i = l2 → X.length = at_ + 2 + 12 * i → X.length + 12 * l2.length + 4 + Y.length + (bods G big l2 (X.length + 12 * l2.length + 4 + Y.length)).2.length ≤ 1099511627776 →
   Z5 (fun next1 a => Xf l self t17 next1 a.1 a.2.1 a.2.2) ((i : Int), X ++ Ve (12 * l2.length) ++ Ve 4 ++ Y, big) = some (t17.1, ⟨X ++ (bods G big l2 (X.length + 12 * l2.length + 4 + Y.length)).1 ++ Ve 4 ++ Y ++ (bods G big l2 (X.length + 12 * l2.length + 4 + Y.length)).2, big⟩) := by
 intro l2
 induction l2 with
 | nil =>
  intro i X Y hi _ hX hM
  refine Q8 fun next => ?_
  show Xf l self t17 next (i : Int) _ big = _
  unfold Xf
  rw [cI, if_neg (by rw [List.length_nil] at hi; omega)]
  unfold bods
  simp [Ve]
 | cons e l2 ih =>
  intro i X Y hi hd hX hM
  have hlt : i < l.length := by rw [List.length_cons] at hi; omega
  have he : l[i] = e := by have := List.drop_eq_getElem_cons hlt; rw [hd] at this; injection this with h1 h2; exact h1.symm
  have hd' : l.drop (i + 1) = l2 := by have := List.drop_eq_getElem_cons hlt; rw [hd] at this; injection this with h1 h2; exact h2.symm
  have hmem : e ∈ l := he ▸ List.getElem_mem hlt
  obtain ⟨hok, hvb⟩ := hv e hmem
  generalize hp : X.length + 12 * (e :: l2).length + 4 + Y.length = p at hM ⊢
  rw [List.length_cons] at hp hi ⊢
  unfold bods at hM ⊢
  simp only at hM ⊢
  generalize hF : entF G big e p = F at hM ⊢
  obtain ⟨f, b⟩ := F
  have hf4 : f.length = 4 := by have := entF_len G big e p; rw [hF] at this; exact this
  simp only at hM ⊢
  rw [List.length_append] at hM
  have n2 : ∀ n, (Ze big n 2).length = 2 := fun n => X1 _ _ (by omega)
  have n4 : ∀ n, (Ze big n 4).length = 4 := fun n => X1 _ _ (by omega)
  generalize hR : Ve (12 * l2.length) ++ Ve 4 ++ Y = R
  have hRl : R.length = 12 * l2.length + 4 + Y.length := by rw [← hR]; simp only [List.length_append, Xs]
  have s0 : X ++ Ve (12 * (l2.length + 1)) ++ Ve 4 ++ Y = X ++ Ve 2 ++ (Ve 2 ++ Ve 4 ++ Ve 4 ++ R) := by
   rw [zer_mul, ← hR]; simp only [List.append_assoc]
  have e1 : put (X ++ Ve 2 ++ (Ve 2 ++ Ve 4 ++ Ve 4 ++ R)) X.length (Ze big e.Tag 2) = (X ++ Ze big e.Tag 2) ++ Ve 2 ++ (Ve 4 ++ Ve 4 ++ R) := by
   rw [put_at _ _ _ _ (by rw [n2, Xs]) rfl]; simp only [List.append_assoc]
  have e2 : put ((X ++ Ze big e.Tag 2) ++ Ve 2 ++ (Ve 4 ++ Ve 4 ++ R)) (X.length + 2) (Ze big e.Value.Kind 2) = (X ++ Ze big e.Tag 2 ++ Ze big e.Value.Kind 2) ++ Ve 4 ++ (Ve 4 ++ R) := by
   rw [put_at _ _ _ _ (by rw [n2, Xs]) (by rw [List.length_append, n2])]; simp only [List.append_assoc]
  have e3 : put ((X ++ Ze big e.Tag 2 ++ Ze big e.Value.Kind 2) ++ Ve 4 ++ (Ve 4 ++ R)) (X.length + 4) (Ze big (cntS e.Value) 4) = (X ++ Wg big e) ++ Ve 4 ++ R := by
   rw [put_at _ _ _ _ (by rw [n4, Xs]) (by rw [List.length_append, List.length_append, n2, n2])]
   unfold Wg; simp only [List.append_assoc]
  have hS : ((X ++ Wg big e) ++ Ve 4 ++ R).length = p := by
   simp only [List.length_append, hdr_len, Xs, hRl]; omega
  have hpos : (at_ : Int) + 2 + 12 * (i : Int) + 8 = ((X ++ Wg big e).length : Int) := by
   rw [List.length_append, hdr_len]; omega
  have hround : ∀ next : Int × List UInt8 × Bool → Option (Int × T_tintref2_written), Xf l self t17 next (i : Int) (X ++ Ve (12 * (l2.length + 1)) ++ Ve 4 ++ Y) big = next (((i + 1 : Nat) : Int), (X ++ Wg big e ++ f) ++ Ve (12 * l2.length) ++ Ve 4 ++ (Y ++ b), big) := fun next => by
   unfold Xf
   have e5 : ∀ m a, Ye (i : Int) next m a = next (((i + 1 : Nat) : Int), m, a) := fun m a => by
    unfold Ye; rw [Qm (by omega), Je]; rfl
   rw [cI, if_pos (by omega), Ql hlt, Je, he, ht, Qm (by omega), Je, Qm (by omega), Je, Qm (by omega), Je, s0]
   rw [R_set_eq (p := X.length) (k := 2) (k' := 2) (by omega) rfl (by omega) (by simp only [List.length_append, Xs]; omega) (by simp only [List.length_append, Xs, hRl]; omega), Je, e1, Qm (by omega), Je]
   rw [R_set_eq (p := X.length + 2) (k := 2) (k' := 2) (by omega) rfl (by omega) (by simp only [List.length_append, Xs, n2]; omega) (by simp only [List.length_append, Xs, hRl, n2]; omega), Je, e2, Qm (by omega), Je, R_count_eq hvb hok, Je]
   rw [R_set_eq (p := X.length + 4) (k := 4) (k' := 4) (by omega) rfl (by omega) (by simp only [List.length_append, Xs, n2]; omega) (by simp only [List.length_append, Xs, hRl, n2]; omega), Je, e3, cI]
   unfold entF at hF
   by_cases h13 : e.Value.Kind = 13
   ·rw [if_pos h13] at hF ⊢
    obtain ⟨hF1, hF2⟩ := Prod.mk.inj hF
    rw [Qm (by omega), Je, hself e hmem h13 ((X ++ Wg big e) ++ Ve 4 ++ R) (by rw [hS, hF2]; omega), Je]
    show Qg (Xe ⟨(X ++ Wg big e) ++ Ve 4 ++ R ++ G e.Value.Entries ((X ++ Wg big e) ++ Ve 4 ++ R).length, big⟩ _ _ 4) _ = _
    rw [hS, hF2, R_set_eq (p := (X ++ Wg big e).length) (k := 4) (k' := 4) (by omega) rfl (by omega) (by simp only [List.length_append, Xs]; omega) (by rw [List.length_append, hS]; omega), Je, e5, hF1]
    have : (X ++ Wg big e) ++ Ve 4 ++ R ++ b = (X ++ Wg big e) ++ Ve 4 ++ (R ++ b) := by simp only [List.append_assoc]
    rw [this, put_at _ _ _ _ (by rw [hf4, Xs]) rfl, ← hR]
    simp only [List.append_assoc]
   ·rw [if_neg h13] at hF ⊢
    dsimp only
    rw [R_octets_eq hvb hok h13, Je, cI]
    by_cases ho : (W9 big e.Value).length ≤ 4
    ·rw [if_pos ho] at hF
     obtain ⟨hF1, hF2⟩ := Prod.mk.inj hF
     have hpn : ((at_ : Int) + 2 + 12 * (i : Int) + 8).toNat = (X ++ Wg big e).length := by omega
     have hp2 : ((at_ : Int) + 2 + 12 * (i : Int) + 8 + ((W9 big e.Value).length : Int)).toNat = (X ++ Wg big e).length + (W9 big e.Value).length := by omega
     have hXl : (X ++ Wg big e).length = X.length + 8 := by rw [List.length_append, hdr_len]
     rw [if_neg (by omega), Qm (by omega), Je, gCut_to (by rw [hS]; omega), Je, hpn]
     rw [Vv (by rw [List.length_take]; omega), Je, Je, Qm (by omega), Je, gCut_from (by rw [hS]; omega), Je, hp2]
     rw [Vv (by simp only [List.length_append, List.length_take, List.length_drop, hS]; omega), Je, e5]
     have hput : List.take (X ++ Wg big e).length ((X ++ Wg big e) ++ Ve 4 ++ R) ++ W9 big e.Value ++ List.drop ((X ++ Wg big e).length + (W9 big e.Value).length) ((X ++ Wg big e) ++ Ve 4 ++ R) = put ((X ++ Wg big e) ++ Ve 4 ++ R) (X ++ Wg big e).length (W9 big e.Value) := rfl
     have hz : Ve 4 = Ve (W9 big e.Value).length ++ Ve (4 - (W9 big e.Value).length) := by rw [← zer_add]; congr 1; omega
     have h1 : (X ++ Wg big e) ++ Ve 4 ++ R = (X ++ Wg big e) ++ Ve (W9 big e.Value).length ++ (Ve (4 - (W9 big e.Value).length) ++ R) := by
      rw [hz]
      simp only [List.append_assoc]
     rw [hput, h1, put_at _ _ _ _ (by rw [Xs]) rfl, ← hF1, ← hF2, ← hR]
     simp only [List.append_assoc, List.append_nil]
    ·rw [if_neg ho] at hF
     obtain ⟨hF1, hF2⟩ := Prod.mk.inj hF
     have hbl : b.length = p % 2 + (W9 big e.Value).length := by rw [← hF2, List.length_append, pad_len]
     rw [if_pos (by omega), Qm (by omega), Je, R_add_eq (by rw [hS]; omega), Je]
     dsimp only
     rw [hS, R_set_eq (p := (X ++ Wg big e).length) (k := 4) (k' := 4) (by omega) rfl (by omega) (by simp only [List.length_append, Xs]; omega) (by simp only [List.length_append, pad_len]; rw [← List.length_append, ← List.length_append, ← List.length_append, hS]; omega), Je, e5]
     have : (X ++ Wg big e) ++ Ve 4 ++ R ++ pad p ++ W9 big e.Value = (X ++ Wg big e) ++ Ve 4 ++ (R ++ pad p ++ W9 big e.Value) := by simp only [List.append_assoc]
     rw [this, put_at _ _ _ _ (by rw [n4, Xs]) rfl, ← hF1, ← hF2, ← hR]
     simp only [List.append_assoc]
  rw [X0 _ hround]
  have hq : (X ++ Wg big e ++ f).length + 12 * l2.length + 4 + (Y ++ b).length = p + b.length := by
   simp only [List.length_append, hdr_len, hf4]; omega
  have := ih (i + 1) (X ++ Wg big e ++ f) (Y ++ b) (by omega) hd' (by simp only [List.length_append, hdr_len, hf4]; omega) (by rw [hq]; omega)
  rw [this, hq]
  simp only [List.append_assoc]
end Go.M

/- Files written and checked; the law TagWrites, in plain Lean. Conditions: none. -/
namespace Go.M
open Go.Md Go.Pl
theorem rep_zero (n : Nat) : (List.replicate n ([0] : List UInt8)).flatten = Ve n := by
 unfold Ve
 induction n with
 | zero => rfl
 | succ n ih => rw [List.replicate_succ, List.flatten_cons, ih, List.replicate_succ]; rfl
theorem R_dir_eq (d : Nat) (big : Bool) (s : List UInt8) (l : List T_tag_Entry) (hok : okD d l) (hz : szD d l ≤ 2000000) (hM : s.length + (Z9 d big l s.length).length ≤ 1099511627776) :
  W4 ⟨s, big⟩ l = some (((ev s.length : Nat) : Int), ⟨s ++ Z9 d big l s.length, big⟩) := by
 unfold W4
 have := fix_ofG (F := fun (self : (T_tintref2_written × List T_tag_Entry) → Option (Int × T_tintref2_written)) (s : T_tintref2_written × List T_tag_Entry) => Xn self s.1 s.2)
  (fun (g : Nat × Bool × List UInt8) (a : T_tintref2_written × List T_tag_Entry) => some (((ev g.2.2.length : Nat) : Int), ⟨g.2.2 ++ Z9 g.1 g.2.1 a.2 g.2.2.length, g.2.1⟩))
  (fun g a => a.1 = ⟨g.2.2, g.2.1⟩ ∧ okD g.1 a.2 ∧ szD g.1 a.2 ≤ 2000000 ∧ g.2.2.length + (Z9 g.1 g.2.1 a.2 g.2.2.length).length ≤ 1099511627776) (fun g => g.1) ?_ (d, big, s) (⟨s, big⟩, l) ⟨rfl, hok, hz, hM⟩
 ·exact this
 rintro next ⟨d, big, s⟩ ⟨w, l⟩ ⟨hw, hok, hz, hM⟩ ih
 simp only at hw hok hz hM ih ⊢
 subst hw
 cases d with
 | zero => exact hok.elim
 | succ d =>
  obtain ⟨hl, hall⟩ := hok
  have hM' := dirB_len (Z9 d big) big l s.length
  have hMM : s.length + (dirB (Z9 d big) big l s.length).length ≤ 1099511627776 := hM
  have hev : ev s.length = (s ++ pad s.length).length := by rw [List.length_append, pad_len]; rfl
  unfold Xn
  have ht : (2 + 12 * (l.length : Int) + 4).toNat = 2 + 12 * l.length + 4 := by omega
  rw [Qm (by omega), Je, Qm (by omega), Je, Qm (by omega), Je]
  have hrep : gRep [0] (2 + 12 * (l.length : Int) + 4) = some (Ve (2 + 12 * l.length + 4)) := by
   unfold gRep
   rw [if_pos (by rw [List.length_singleton]; omega), ht, rep_zero]
  rw [hrep, Je, R_add_eq (by rw [Xs]; omega), Je]
  have hsp : s ++ pad s.length ++ Ve (2 + 12 * l.length + 4) = (s ++ pad s.length) ++ Ve 2 ++ (Ve (12 * l.length) ++ Ve 4) := by
   rw [zer_add, zer_add]; simp only [List.append_assoc]
  show Qg (Xe ⟨s ++ pad s.length ++ Ve (2 + 12 * l.length + 4), big⟩ _ _ 2) _ = _
  rw [R_set_eq (p := ev s.length) (k := 2) (k' := 2) rfl rfl (by omega) (by rw [List.length_append, ← hev, Xs]; omega) (by rw [List.length_append, ← hev, Xs]; omega), Je, hsp, put_at _ _ _ _ (by rw [X1 _ _ (by omega), Xs]) hev]
  have hX : (s ++ pad s.length ++ Ze big l.length 2).length = ev s.length + 2 := by rw [List.length_append, ← hev, X1 _ _ (by omega)]
  have := spec_loop (big := big) hl (fun e he => ⟨(hall e he).1, (vB_of hz he).1⟩) (G := Z9 d big) (self := next) (fun e he h13 s' hs' => ih (d, big, s') (⟨s', big⟩, e.Value.Entries) ⟨rfl, (hall e he).2 h13, (vB_of hz he).2, hs'⟩ (by simp))
   (t17 := (((ev s.length : Nat) : Int), ⟨s ++ pad s.length ++ Ve (2 + 12 * l.length + 4), big⟩)) (at_ := ev s.length) rfl l 0 (s ++ pad s.length ++ Ze big l.length 2) [] (by omega) rfl (by rw [hX]) (by rw [hX, List.length_nil, Nat.add_zero]; omega)
  rw [List.append_nil] at this
  have hst : s ++ pad s.length ++ Ze big l.length 2 ++ (Ve (12 * l.length) ++ Ve 4) = s ++ pad s.length ++ Ze big l.length 2 ++ Ve (12 * l.length) ++ Ve 4 := by simp only [List.append_assoc]
  rw [hst, ← hsp]
  refine this.trans ?_
  rw [hX, List.length_nil, Nat.add_zero, List.append_nil]
  show some _ = some (_, (⟨s ++ dirB (Z9 d big) big l s.length, big⟩ : T_tintref2_written))
  unfold dirB
  simp only [List.append_assoc]
theorem even_eq (p : Nat) (hp : p ≤ 4611686018427387904) : tag_even (p : Int) = some ((ev p : Nat) : Int) := by
 unfold tag_even ev
 have e : ((p : Int)).tmod 2 = ((p % 2 : Nat) : Int) := by rw [Int.tmod_eq_emod_of_nonneg (by omega)]; omega
 rw [gRem_ok (by omega), Je, e, Qm (by omega), Je]; rfl
theorem octetsOf_eq {v : T_tag_Value} (hb : vB v) (hok : okV v) (h13 : v.Kind ≠ 13) (big : Bool) : Vb v = some ((W9 big v).length : Int) := by
 unfold Vb
 have h1 := octS_le big v
 have h2 := octS_len big hok h13
 obtain ⟨b1, b2, b3⟩ := hb
 rw [count_eq ⟨b1, b2, b3⟩, Je, sizeOf_eq, Je, if_neg h13, ← Int.natCast_mul, ← h2, Qm (by omega), Je]
theorem dirEnd_eq (big : Bool) (d : Nat) (l : List T_tag_Entry) (p : Nat) (hok : okD d l) (hz : szD d l ≤ 2000000) (hM : p + (Z9 d big l p).length ≤ 1099511627776) :
  tag_dirEnd l (p : Int) = some (((p + (Z9 d big l p).length : Nat)) : Int) := by
 unfold tag_dirEnd
 have := fix_ofG (F := fun (self : (List T_tag_Entry × Int) → Option Int) (s : List T_tag_Entry × Int) => Yb self s.1 s.2)
  (fun (g : Nat × Nat) (a : List T_tag_Entry × Int) => some (((g.2 + (Z9 g.1 big a.1 g.2).length : Nat)) : Int))
  (fun g a => a.2 = (g.2 : Int) ∧ okD g.1 a.1 ∧ szD g.1 a.1 ≤ 2000000 ∧ g.2 + (Z9 g.1 big a.1 g.2).length ≤ 1099511627776) (fun g => g.1) ?_ (d, p) (l, (p : Int)) ⟨rfl, hok, hz, hM⟩
 ·exact this
 rintro next ⟨d, p⟩ ⟨l, a⟩ ⟨hw, hok, hz, hM⟩ ih
 simp only at hw hok hz hM ih ⊢
 subst hw
 cases d with
 | zero => exact hok.elim
 | succ d =>
  obtain ⟨hl, hall⟩ := hok
  have hM' := dirB_len (Z9 d big) big l p
  have hMM : p + (dirB (Z9 d big) big l p).length ≤ 1099511627776 := hM
  unfold Yb
  rw [even_eq p (by omega), Je, Qm (by omega), Je, Qm (by omega), Je, Qm (by omega), Je, Qm (by omega), Je]
  have key : ∀ (l2 : List T_tag_Entry) (i q : Nat), i + l2.length = l.length → l.drop i = l2 → q + (bods (Z9 d big) big l2 q).2.length ≤ 1099511627776 → Z5 (fun next1 s => X4 l next next1 s.1 s.2) ((q : Int), (i : Int)) = some (((q + (bods (Z9 d big) big l2 q).2.length : Nat)) : Int) := by
   intro l2
   induction l2 with
   | nil =>
    intro i q hi _ _
    refine Q8 fun nx => ?_
    show X4 l next nx (q : Int) (i : Int) = _
    unfold X4
    rw [cI, if_neg (by rw [List.length_nil] at hi; omega)]
    rfl
   | cons e l2 ih2 =>
    intro i q hi hd hq
    have hlt : i < l.length := by rw [List.length_cons] at hi; omega
    have he : l[i] = e := by have := List.drop_eq_getElem_cons hlt; rw [hd] at this; injection this with h1 h2; exact h1.symm
    have hd' : l.drop (i + 1) = l2 := by have := List.drop_eq_getElem_cons hlt; rw [hd] at this; injection this with h1 h2; exact h2.symm
    have hmem : e ∈ l := he ▸ List.getElem_mem hlt
    have hvb := (vB_of hz hmem).1
    have hok := (hall e hmem).1
    rw [List.length_cons] at hi
    unfold bods at hq ⊢
    simp only at hq ⊢
    generalize hF : entF (Z9 d big) big e q = F at hq ⊢
    obtain ⟨f, b⟩ := F
    simp only at hq ⊢
    rw [List.length_append] at hq ⊢
    have hround : ∀ nx : Int × Int → Option Int, X4 l next nx (q : Int) (i : Int) = nx (((q + b.length : Nat) : Int), ((i + 1 : Nat) : Int)) := fun nx => by
     unfold X4
     have e2 : ∀ x, Zv (i : Int) nx x = nx (x, ((i + 1 : Nat) : Int)) := fun x => by
      unfold Zv; rw [Qm (by omega), Je]; rfl
     rw [cI, if_pos (by omega), Ql hlt, Je, he, cI]
     unfold entF at hF
     by_cases h13 : e.Value.Kind = 13
     ·rw [if_pos h13] at hF ⊢
      obtain ⟨_, hF2⟩ := Prod.mk.inj hF
      have := ih (d, q) (e.Value.Entries, (q : Int)) ⟨rfl, (hall e hmem).2 h13, (vB_of hz hmem).2, by show q + (Z9 d big e.Value.Entries q).length ≤ _; rw [hF2]; omega⟩ (by simp)
      rw [this, Je, e2]
      show nx (((q + (Z9 d big e.Value.Entries q).length : Nat) : Int), _) = _
      rw [hF2]
     ·rw [if_neg h13] at hF ⊢
      rw [octetsOf_eq hvb hok h13 big, Je, cI, e2]
      by_cases ho : (W9 big e.Value).length ≤ 4
      ·rw [if_pos ho] at hF
       obtain ⟨_, hF2⟩ := Prod.mk.inj hF
       rw [if_neg (by omega), ← hF2]; rfl
      ·rw [if_neg ho] at hF
       obtain ⟨_, hF2⟩ := Prod.mk.inj hF
       have hbl : b.length = q % 2 + (W9 big e.Value).length := by rw [← hF2, List.length_append, pad_len]
       rw [if_pos (by omega), even_eq q (by omega), Je, Je, Qm (by unfold ev; omega), Je, e2, hbl]
       congr 2
       unfold ev; omega
    rw [X0 _ hround, ih2 (i + 1) (q + b.length) (by omega) hd' (by omega)]
    congr 2
    omega
  have := key l 0 (ev p + 2 + 12 * l.length + 4) (by omega) rfl (by omega)
  have e0 : ((ev p : Nat) : Int) + 2 + 12 * (l.length : Int) + 4 = ((ev p + 2 + 12 * l.length + 4 : Nat) : Int) := by omega
  rw [e0]
  refine this.trans ?_
  rw [← hM']
  rfl
noncomputable def filS (big : Bool) : List (List T_tag_Entry) → List UInt8 → Nat → List UInt8
 | [], s, _ => s
 | l :: ls, s, link => filS big ls (put (s ++ Z9 5 big l s.length) link (Ze big ((ev s.length : Nat) : Int) 4)) (ev s.length + 2 + 12 * l.length)
noncomputable def lenF (big : Bool) : List (List T_tag_Entry) → Nat → Nat
 | [], p => p
 | l :: ls, p => lenF big ls (p + (Z9 5 big l p).length)
def szL : List (List T_tag_Entry) → Nat
 | [] => 0
 | l :: ls => 8 + 32 * szD 5 l + szL ls
def dirsOk (ls : List (List T_tag_Entry)) : Prop := ∀ l ∈ ls, okD 5 l ∧ szD 5 l ≤ 2000000
theorem dir5_len {big : Bool} {l : List T_tag_Entry} {p : Nat} : ev p + 2 + 12 * l.length + 4 ≤ p + (Z9 5 big l p).length := by
 have := dirB_len (Z9 4 big) big l p
 show _ ≤ p + (dirB (Z9 4 big) big l p).length
 omega
theorem filS_len (big : Bool) : ∀ (ls : List (List T_tag_Entry)) (s : List UInt8) (link : Nat), link + 4 ≤ s.length → (filS big ls s link).length = lenF big ls s.length
 | [], _, _, _ => rfl
 | l :: ls, s, link, h => by
  unfold filS lenF
  have h5 := dir5_len (big := big) (l := l) (p := s.length)
  have hp : (put (s ++ Z9 5 big l s.length) link (Ze big ((ev s.length : Nat) : Int) 4)).length = s.length + (Z9 5 big l s.length).length := by
   rw [put_len (by rw [X1 _ _ (by omega), List.length_append]; omega), List.length_append]
  rw [filS_len big ls _ _ (by rw [hp]; omega), hp]
noncomputable def headS (big : Bool) : List UInt8 := (if big then [77, 77] else [73, 73]) ++ Ze big 42 2 ++ Ve 4
theorem headS_len (big : Bool) : (headS big).length = 8 := by
 unfold headS
 rw [List.length_append, List.length_append, X1 _ _ (by omega), Xs]
 cases big <;> rfl
noncomputable def octF (f : T_tag_File) : List UInt8 := filS f.Big f.Dirs (headS f.Big) 4
theorem octF_len (f : T_tag_File) : (octF f).length = lenF f.Big f.Dirs 8 := by
 unfold octF; rw [filS_len _ _ _ _ (by rw [headS_len]; omega), headS_len]
theorem size_eq {f : T_tag_File} (hok : dirsOk f.Dirs) (hn : f.Dirs.length ≤ 20) (hsz : szL f.Dirs ≤ 274877906944) : tag_size f = some ((octF f).length : Int) := by
 rw [octF_len]
 unfold tag_size
 have key : ∀ (ls : List (List T_tag_Entry)) (i p : Nat), i + ls.length = f.Dirs.length → f.Dirs.drop i = ls → p + szL ls ≤ 549755813888 → Z5 (fun next1 s => Y0 f next1 s.1 s.2) ((p : Int), (i : Int)) = some (lenF f.Big ls p : Int) := by
  intro ls
  induction ls with
  | nil =>
   intro i p hi _ _
   rw [List.length_nil] at hi
   refine Q8 fun next => ?_
   show Y0 f next (p : Int) (i : Int) = _
   unfold Y0
   rw [cI, if_neg (by omega)]; rfl
  | cons l ls ih =>
   intro i p hi hd hs
   rw [List.length_cons] at hi
   have hlt : i < f.Dirs.length := by omega
   have he : f.Dirs[i] = l := by have := List.drop_eq_getElem_cons hlt; rw [hd] at this; injection this with h1 h2; exact h1.symm
   have hd' : f.Dirs.drop (i + 1) = ls := by have := List.drop_eq_getElem_cons hlt; rw [hd] at this; injection this with h1 h2; exact h2.symm
   obtain ⟨o1, o2⟩ := hok l (he ▸ List.getElem_mem hlt)
   unfold szL at hs
   have hle := dirS_le f.Big 5 l p
   refine Eq.trans (X0 (((p + (Z9 5 f.Big l p).length : Nat) : Int), ((i + 1 : Nat) : Int)) fun next => ?_) (ih (i + 1) (p + (Z9 5 f.Big l p).length) (by omega) hd' (by omega))
   show Y0 f next (p : Int) (i : Int) = _
   unfold Y0
   rw [cI, if_pos (by omega), Ql hlt, Je, he, dirEnd_eq f.Big 5 l p o1 o2 (by omega), Je, Qm (by omega), Je]
   rfl
 exact key f.Dirs 0 8 (by omega) rfl (by omega)
noncomputable def Vf : List (List T_tag_Entry) → Int
 | [] => 0
 | l :: ls => if dE 5 l ≠ 0 then dE 5 l else Vf ls
theorem firstD_ok : ∀ {ls : List (List T_tag_Entry)}, Vf ls = 0 → ∀ l ∈ ls, dE 5 l = 0
 | [], _, l, hl => by cases hl
 | x :: ls, h, l, hl => by
  unfold Vf at h
  split at h
  ·rename_i h1; exact absurd h h1
  ·rename_i h1
   rcases List.mem_cons.1 hl with h' | h'
   ·subst h'; simpa using h1
   ·exact firstD_ok h l h'
theorem scan_dirs {F : (Int → Option Int) → Int → Option Int} (ls : List (List T_tag_Entry)) (o : Option Int) (more : ∀ (next : Int → Option Int) (k : Nat) (hk : k < ls.length), F next (k : Int) = if dE 5 ls[k] ≠ 0 then some (dE 5 ls[k]) else next ((k : Int) + 1)) (stop : Vf ls = 0 → ∀ next, F next (ls.length : Int) = o) :
  Z5 F 0 = if Vf ls ≠ 0 then some (Vf ls) else o := by
 have key : ∀ m i : Nat, i + m = ls.length → (Vf ls = Vf (ls.drop i)) → Z5 F (i : Int) = if Vf ls ≠ 0 then some (Vf ls) else o := by
  intro m
  induction m with
  | zero =>
   intro i hi hf
   have : i = ls.length := by omega
   subst this
   rw [List.drop_length] at hf
   have h0 : Vf ls = 0 := hf
   rw [if_neg (by simpa using h0)]
   exact Q8 (stop h0)
  | succ m ih =>
   intro i hi hf
   have hlt : i < ls.length := by omega
   rw [List.drop_eq_getElem_cons hlt] at hf
   unfold Vf at hf
   by_cases h : dE 5 ls[i] ≠ 0
   ·rw [if_pos h] at hf
    have : Z5 F (i : Int) = some (dE 5 ls[i]) := Q8 fun next => by rw [more next i hlt, if_pos h]
    have hf' : Vf ls = dE 5 ls[i] := by unfold Vf; exact hf
    rw [this, hf', if_pos h]
   ·rw [if_neg h] at hf
    rw [X0 ((i : Int) + 1) (fun next => by rw [more next i hlt, if_neg h])]
    exact ih (i + 1) (by omega) (by conv => lhs; unfold Vf
                                    exact hf)
 exact key ls.length 0 (by omega) rfl
def fileB (f : T_tag_File) : Prop := (∀ l ∈ f.Dirs, szD 5 l ≤ 2000000) ∧ szL f.Dirs ≤ 274877906944
noncomputable def Uf (f : T_tag_File) : Int := if 20 < f.Dirs.length then 4 else if Vf f.Dirs ≠ 0 then Vf f.Dirs else if 65000 < (octF f).length then 4 else 0
theorem dirs_ok {f : T_tag_File} (hb : fileB f) (h : Vf f.Dirs = 0) : dirsOk f.Dirs := fun l hl => ⟨dE_ok (firstD_ok h l hl), hb.1 l hl⟩
theorem Check_eq {f : T_tag_File} (hb : fileB f) : tag_Check f = some (Uf f) := by
 unfold tag_Check Uf
 rw [cI]
 by_cases hn : 20 < f.Dirs.length
 ·rw [if_pos (by omega), if_pos hn]
 rw [if_neg (by omega), if_neg hn]
 rw [scan_dirs (F := fun next2 s => Yk f next2 s) f.Dirs (some (if 65000 < (octF f).length then 4 else 0)) (fun next k hk => ?_) (fun h0 next => ?_)]
 ·split <;> rfl
 ·show Yk f next (k : Int) = _
  unfold Yk
  rw [cI, if_pos (by omega), Ql hk, Je, checkDir_eq 5 _ 1 (by omega) (by omega) (hb.1 _ (List.getElem_mem hk)), Je, cI, Qm (by omega), Je]
 ·show Yk f next (f.Dirs.length : Int) = _
  unfold Yk
  rw [cI, if_neg (by omega)]
  unfold Uk
  rw [size_eq (dirs_ok hb h0) (by omega) hb.2, Je, cI]
  by_cases h : 65000 < (octF f).length
  ·rw [if_pos (by omega), if_pos h]
  ·rw [if_neg (by omega), if_neg h]
theorem fileE_zero {f : T_tag_File} (hb : fileB f) (h : Uf f = 0) : dirsOk f.Dirs ∧ f.Dirs.length ≤ 20 := by
 unfold Uf at h
 split at h
 ·omega
 rename_i hn
 split at h
 ·rename_i h1; exact absurd h h1
 ·rename_i h1; exact ⟨dirs_ok hb (by simpa using h1), by omega⟩
theorem szL_eq : ∀ ls : List (List T_tag_Entry), szL ls = 8 * ls.length + 32 * (ls.map (szD 5)).sum
 | [] => rfl
 | l :: ls => by unfold szL; rw [szL_eq ls, List.map_cons, List.sum_cons, List.length_cons]; omega
theorem sz_in {l : List T_tag_Entry} : ∀ {ls : List (List T_tag_Entry)}, l ∈ ls → szD 5 l ≤ (ls.map (szD 5)).sum
 | [], h => by cases h
 | x :: ls, h => by
  rw [List.map_cons, List.sum_cons]
  rcases List.mem_cons.1 h with h | h
  ·subst h; omega
  ·have := sz_in h; omega
theorem fileB_of {f : T_tag_File} (h1 : f.Dirs.length ≤ 1048576) (h2 : (f.Dirs.map (szD 5)).sum ≤ 1048576) : fileB f :=
 ⟨fun l hl => by have := sz_in hl; omega, by rw [szL_eq]; omega⟩
end Go.M

/- The reference's octets and faults of a file. Conditions: sizes. -/
namespace Go.M
open Go.Md
set_option linter.unusedVariables false
theorem oct_loop (f : T_tag_File) (hok : dirsOk f.Dirs) (hn : f.Dirs.length ≤ 20) : ∀ (ls : List (List T_tag_Entry)) (i : Nat) (s : List UInt8) (link : Nat), i + ls.length = f.Dirs.length → f.Dirs.drop i = ls → link + 4 ≤ s.length → s.length + szL ls ≤ 549755813888 →
  Z5 (fun next3 a => Y1 f next3 a.1 a.2.1 a.2.2.1 a.2.2.2) ((link : Int), (i : Int), s, f.Big) = some (filS f.Big ls s link) := by
 intro ls
 induction ls with
 | nil =>
  intro i s link hi _ _ _
  rw [List.length_nil] at hi
  refine Q8 fun next => ?_
  show Y1 f next _ (i : Int) s f.Big = _
  unfold Y1
  rw [cI, if_neg (by omega)]; rfl
 | cons l ls ih =>
  intro i s link hi hd hlk hsz
  rw [List.length_cons] at hi
  have hlt : i < f.Dirs.length := by omega
  have he : f.Dirs[i] = l := by have := List.drop_eq_getElem_cons hlt; rw [hd] at this; injection this with h1 h2; exact h1.symm
  have hd' : f.Dirs.drop (i + 1) = ls := by have := List.drop_eq_getElem_cons hlt; rw [hd] at this; injection this with h1 h2; exact h2.symm
  obtain ⟨o1, o2⟩ := hok l (he ▸ List.getElem_mem hlt)
  unfold szL at hsz
  have hle := dirS_le f.Big 5 l s.length
  have h5 := dir5_len (big := f.Big) (l := l) (p := s.length)
  have hl200 : l.length ≤ 200 := o1.1
  have hp : (put (s ++ Z9 5 f.Big l s.length) link (Ze f.Big ((ev s.length : Nat) : Int) 4)).length = s.length + (Z9 5 f.Big l s.length).length := by
   rw [put_len (by rw [X1 _ _ (by omega), List.length_append]; omega), List.length_append]
  have a1 := ih (i + 1) (put (s ++ Z9 5 f.Big l s.length) link (Ze f.Big ((ev s.length : Nat) : Int) 4)) (ev s.length + 2 + 12 * l.length) (by omega) hd' (by rw [hp]; omega) (by rw [hp]; omega)
  have hev : ev s.length ≤ s.length + 1 := by unfold ev; omega
  refine Eq.trans (X0 _ fun next => ?_) a1
  show Y1 f next (link : Int) (i : Int) s f.Big = _
  unfold Y1
  rw [cI, if_pos (by omega), Ql hlt, Je, he, R_dir_eq 5 f.Big s l o1 o2 (by omega), Je]
  show Qg (Xe ⟨s ++ Z9 5 f.Big l s.length, f.Big⟩ _ _ 4) _ = _
  rw [R_set_eq (p := link) (k := 4) (k' := 4) rfl rfl (by omega) (by rw [List.length_append]; omega) (by rw [List.length_append]; omega), Je]
  show Qg (gI (((ev s.length : Nat) : Int) + 2)) _ = _
  rw [Qm (by omega), Je, Qm (by omega), Je, Qm (by omega), Je, Qm (by omega), Je]
  rfl
theorem Octets_eq {f : T_tag_File} (hok : dirsOk f.Dirs) (hn : f.Dirs.length ≤ 20) (hsz : szL f.Dirs ≤ 274877906944) : R_Octets f = some (octF f) := by
 have key : ∀ m : List UInt8, m.length = 2 → m ++ Ze f.Big 42 2 ++ Ve 4 = headS f.Big → Wb f m = some (octF f) := fun m hm hh => by
  unfold Wb
  have hz : Ze f.Big 0 4 = Ve 4 := num_zero f.Big (by omega)
  rw [R2, Je, R4, Je, hz, Vv (by rw [X1 _ _ (by omega), Xs]; omega), Je, Vv (by rw [List.length_append, X1 _ _ (by omega), Xs]; omega), Je, ← List.append_assoc, hh]
  exact (oct_loop f hok hn f.Dirs 0 (headS f.Big) 4 (by omega) rfl (by rw [headS_len]; omega) (by rw [headS_len]; omega))
 unfold R_Octets
 cases h : f.Big
 ·rw [Qo, key [73, 73] rfl (by rw [h]; rfl)]
 ·rw [Qv, key [77, 77] rfl (by rw [h]; rfl)]
theorem FileFault_eq {f : T_tag_File} (hb : fileB f) : W7 f = some (Uf f) := by
 unfold W7 Uf
 rw [cI]
 by_cases hn : 20 < f.Dirs.length
 ·rw [if_pos (by omega), if_pos hn]
 rw [if_neg (by omega), if_neg hn]
 rw [scan_dirs (F := fun next2 s => Xv f next2 s) f.Dirs (some (if 65000 < (octF f).length then 4 else 0)) (fun next k hk => ?_) (fun h0 next => ?_)]
 ·split <;> rfl
 ·show Xv f next (k : Int) = _
  unfold Xv
  rw [cI, if_pos (by omega), Ql hk, Je, dirFault_eq 5 _ 1 (by omega) (by omega) (hb.1 _ (List.getElem_mem hk)), Je, cI, Qm (by omega), Je]
 ·show Xv f next (f.Dirs.length : Int) = _
  unfold Xv
  rw [cI, if_neg (by omega)]
  unfold Wl
  rw [Octets_eq (dirs_ok hb h0) (by omega) hb.2, Je, cI]
  by_cases h : 65000 < (octF f).length
  ·rw [if_pos (by omega), if_pos h]
  ·rw [if_neg (by omega), if_neg h]
end Go.M

/- TagDiffers, in plain Lean: what two directories differ in, and the program's merge. Conditions: sizes. -/
namespace Go.M
open Go.Md Go.Pl
set_option linter.unusedVariables false
def Ris (l : List T_tag_Entry) : Prop := l.Pairwise fun x y => x.Tag < y.Tag
def okR : Nat → List T_tag_Entry → Prop
 | 0, _ => False
 | d + 1, l => l.length ≤ 200 ∧ Ris l ∧ ∀ e ∈ l, okV e.Value ∧ (e.Value.Kind = 13 → okR d e.Value.Entries)
theorem listE_rise {f : T_tag_Entry → Int} : ∀ {l : List T_tag_Entry} {pr : Option Int}, listE f pr l = 0 → (∀ t, pr = some t → ∀ e ∈ l, t < e.Tag) ∧ Ris l := by
 intro l
 induction l with
 | nil => intro pr _; exact ⟨fun _ _ _ h => (by cases h), List.Pairwise.nil⟩
 | cons e l ih =>
  intro pr h
  unfold listE at h
  split at h
  ·omega
  split at h
  ·omega
  rename_i h1 h2
  split at h
  ·rename_i h3; exact absurd h h3
  obtain ⟨a1, a2⟩ := ih h
  have key : ∀ t, pr = some t → t < e.Tag := fun t ht => Classical.byContradiction fun hh => h2 ⟨t, ht, by omega⟩
  refine ⟨fun t ht x hx => ?_, List.pairwise_cons.2 ⟨fun x hx => a1 _ rfl x hx, a2⟩⟩
  rcases List.mem_cons.1 hx with h | h
  ·subst h; exact key t ht
  ·have := key t ht; have := a1 _ rfl x h; omega
theorem dE_okR : ∀ {d : Nat} {l : List T_tag_Entry}, dE d l = 0 → okR d l := by
 intro d
 induction d with
 | zero => intro l h; unfold dE at h; omega
 | succ d ih =>
  intro l h
  have hok := dE_ok h
  unfold dE at h
  split at h
  ·omega
  refine ⟨hok.1, (listE_rise h).2, fun e he => ⟨(hok.2 e he).1, fun h13 => ?_⟩⟩
  have := listE_zero h e he
  rw [if_neg (fun hh => hh h13)] at this
  split at this
  ·rename_i h1; exact absurd this h1
  ·exact ih this
def same (v w : T_tag_Value) : Prop := v.Kind = w.Kind ∧ v.Text = w.Text ∧ v.Ints = w.Ints ∧ v.Ratios = w.Ratios
noncomputable def dm (Y3 : T_tag_Entry → T_tag_Entry → List (List Int)) (path : List Int) : List T_tag_Entry → List T_tag_Entry → List (List Int)
 | [], [] => []
 | a :: az, [] => (path ++ [a.Tag]) :: dm Y3 path az []
 | [], b :: bs => (path ++ [b.Tag]) :: dm Y3 path [] bs
 | a :: az, b :: bs => if a.Tag < b.Tag then (path ++ [a.Tag]) :: dm Y3 path az (b :: bs) else if b.Tag < a.Tag then (path ++ [b.Tag]) :: dm Y3 path (a :: az) bs else Y3 a b ++ dm Y3 path az bs
termination_by a b => a.length + b.length
noncomputable def dif : Nat → List T_tag_Entry → List T_tag_Entry → List Int → List (List Int)
 | 0, _, _, _ => []
 | d + 1, a, b, path => dm (fun x y => open Classical in if x.Value.Kind = 13 ∧ y.Value.Kind = 13 then dif d x.Value.Entries y.Value.Entries (path ++ [x.Tag]) else if same x.Value y.Value then [] else [path ++ [x.Tag]]) path a b
noncomputable def Y3 (d : Nat) (path : List Int) (x y : T_tag_Entry) : List (List Int) := open Classical in if x.Value.Kind = 13 ∧ y.Value.Kind = 13 then dif d x.Value.Entries y.Value.Entries (path ++ [x.Tag]) else if same x.Value y.Value then [] else [path ++ [x.Tag]]
theorem dif_succ (d : Nat) (a b : List T_tag_Entry) (path : List Int) : dif (d + 1) a b path = dm (Y3 d path) path a b := rfl
theorem dm_len {h : T_tag_Entry → T_tag_Entry → List (List Int)} {path : List Int} {m : T_tag_Entry → Nat} : ∀ (n : Nat) (a b : List T_tag_Entry), a.length + b.length ≤ n → (∀ x ∈ a, 1 ≤ m x) → (∀ y ∈ b, 1 ≤ m y) → (∀ x ∈ a, ∀ y ∈ b, (h x y).length ≤ m x + m y) →
  (dm h path a b).length ≤ (a.map m).sum + (b.map m).sum := by
 intro n
 induction n with
 | zero =>
  intro a b hn _ _ _
  obtain rfl : a = [] := List.length_eq_zero_iff.1 (by omega)
  obtain rfl : b = [] := List.length_eq_zero_iff.1 (by omega)
  rw [dm]; simp
 | succ n ih =>
  intro a b hn h1 h2 h3
  cases a with
  | nil =>
   cases b with
   | nil => rw [dm]; simp
   | cons b bs =>
    rw [dm]
    have := ih [] bs (by simp only [List.length_cons, List.length_nil] at hn ⊢; omega) h1 (fun y hy => h2 y (.tail _ hy)) (fun x hx => by cases hx)
    have hb := h2 b (.head _)
    simp only [List.length_cons, List.map_cons, List.sum_cons, List.map_nil, List.sum_nil] at this ⊢
    omega
  | cons a az =>
   have ha := h1 a (.head _)
   cases b with
   | nil =>
    rw [dm]
    have := ih az [] (by simp only [List.length_cons, List.length_nil] at hn ⊢; omega) (fun y hy => h1 y (.tail _ hy)) h2 (fun x _ y hy => by cases hy)
    simp only [List.length_cons, List.map_cons, List.sum_cons, List.map_nil, List.sum_nil] at this ⊢
    omega
   | cons b bs =>
    have hb := h2 b (.head _)
    simp only [List.length_cons] at hn
    rw [dm]
    split
    ·have := ih az (b :: bs) (by simp only [List.length_cons]; omega) (fun y hy => h1 y (.tail _ hy)) h2 (fun x hx y hy => h3 x (.tail _ hx) y hy)
     simp only [List.length_cons, List.map_cons, List.sum_cons] at this ⊢
     omega
    ·split
     ·have := ih (a :: az) bs (by simp only [List.length_cons]; omega) h1 (fun y hy => h2 y (.tail _ hy)) (fun x hx y hy => h3 x hx y (.tail _ hy))
      simp only [List.length_cons, List.map_cons, List.sum_cons] at this ⊢
      omega
     ·have := ih az bs (by omega) (fun y hy => h1 y (.tail _ hy)) (fun y hy => h2 y (.tail _ hy)) (fun x hx y hy => h3 x (.tail _ hx) y (.tail _ hy))
      have h4 := h3 a (.head _) b (.head _)
      simp only [List.length_append, List.map_cons, List.sum_cons] at this ⊢
      omega
theorem szD_sum (d : Nat) (l : List T_tag_Entry) : (l.map (szE d)).sum = szD (d + 1) l := rfl
theorem dif_len : ∀ (d : Nat) (a b : List T_tag_Entry) (path : List Int), (dif d a b path).length ≤ szD d a + szD d b := by
 intro d
 induction d with
 | zero => intro a b path; exact Nat.zero_le _
 | succ d ih =>
  intro a b path
  rw [dif_succ, ← szD_sum, ← szD_sum]
  refine dm_len _ a b (Nat.le_refl _) (fun x _ => by unfold szE; omega) (fun x _ => by unfold szE; omega) fun x _ y _ => ?_
  unfold Y3
  split
  ·have := ih x.Value.Entries y.Value.Entries (path ++ [x.Tag])
   unfold szE; omega
  ·split
   ·simp
   ·unfold szE; simp only [List.length_cons, List.length_nil]; omega
theorem dm_mem {h : T_tag_Entry → T_tag_Entry → List (List Int)} {path q : List Int} {N : Nat} (hp : path.length + 1 ≤ N) : ∀ (n : Nat) (a b : List T_tag_Entry), a.length + b.length ≤ n → (∀ x y, ∀ q ∈ h x y, q.length ≤ N) → q ∈ dm h path a b → q.length ≤ N := by
 have one : ∀ t : Int, (path ++ [t]).length ≤ N := fun t => by simpa using hp
 intro n
 induction n with
 | zero =>
  intro a b hn _ hq
  obtain rfl : a = [] := List.length_eq_zero_iff.1 (by omega)
  obtain rfl : b = [] := List.length_eq_zero_iff.1 (by omega)
  rw [dm] at hq; cases hq
 | succ n ih =>
  intro a b hn h3 hq
  cases a with
  | nil =>
   cases b with
   | nil => rw [dm] at hq; cases hq
   | cons b bs =>
    rw [dm] at hq
    rcases List.mem_cons.1 hq with h | h
    ·rw [h]; exact one _
    ·exact ih [] bs (by simp only [List.length_cons, List.length_nil] at hn ⊢; omega) h3 h
  | cons a az =>
   cases b with
   | nil =>
    rw [dm] at hq
    rcases List.mem_cons.1 hq with h | h
    ·rw [h]; exact one _
    ·exact ih az [] (by simp only [List.length_cons, List.length_nil] at hn ⊢; omega) h3 h
   | cons b bs =>
    simp only [List.length_cons] at hn
    rw [dm] at hq
    split at hq
    ·rcases List.mem_cons.1 hq with h | h
     ·rw [h]; exact one _
     ·exact ih az (b :: bs) (by simp only [List.length_cons]; omega) h3 h
    ·split at hq
     ·rcases List.mem_cons.1 hq with h | h
      ·rw [h]; exact one _
      ·exact ih (a :: az) bs (by simp only [List.length_cons]; omega) h3 h
     ·rcases List.mem_append.1 hq with h | h
      ·exact h3 a b _ h
      ·exact ih az bs (by omega) h3 h
theorem dif_mem : ∀ (d : Nat) (a b : List T_tag_Entry) (path : List Int), ∀ q ∈ dif d a b path, q.length ≤ path.length + d := by
 intro d
 induction d with
 | zero => intro a b path q h; cases h
 | succ d ih =>
  intro a b path q hq
  rw [dif_succ] at hq
  refine dm_mem (N := path.length + (d + 1)) (by omega) _ a b (Nat.le_refl _) (fun x y q hq => ?_) hq
  unfold Y3 at hq
  split at hq
  ·have := ih _ _ _ q hq
   rw [List.length_append, List.length_singleton] at this; omega
  ·split at hq
   ·cases hq
   ·rw [List.mem_singleton.1 hq, List.length_append, List.length_singleton]; omega
theorem eqInts (a b : List Int) (h : a.length ≤ 2000000) : Xo a b = some (decide (a = b)) := by
 unfold Xo
 rw [cI]
 by_cases hl : a.length = b.length
 ·rw [if_neg (by omega)]
  refine (up (F := fun next1 s => Xg a b next1 s) a.length (fun k => some (decide (a.drop k = b.drop k))) fun next k hk ih => ?_)
  show Xg a b next (k : Int) = _
  unfold Xg
  rw [cI]
  by_cases h : k < a.length
  ·rw [if_pos (by omega), Ql h, Je, Ql (by omega), Je, cI]
   have q : (a.drop k = b.drop k) = (a[k] = b[k]'(by omega) ∧ a.drop (k + 1) = b.drop (k + 1)) := by
    rw [List.drop_eq_getElem_cons h, List.drop_eq_getElem_cons (show k < b.length by omega), List.cons.injEq]
   simp only [q]
   by_cases he : a[k] = b[k]'(by omega)
   ·rw [if_neg (fun hh => hh he), Qm (by omega), Je, ih h]; simp [he]
   ·rw [if_pos he]; simp [he]
  ·rw [if_neg (by omega), List.drop_eq_nil_of_le (by omega), List.drop_eq_nil_of_le (by omega)]; simp
 ·rw [if_pos (by omega), decide_eq_false (fun hh => hl (by rw [hh]))]
theorem eqRats (a b : List T_tag_Ratio) (h : a.length ≤ 2000000) : X7 a b = some (open Classical in decide (a = b)) := by
 classical
 unfold X7
 rw [cI]
 by_cases hl : a.length = b.length
 ·rw [if_neg (by omega)]
  refine (up (F := fun next1 s => Qs a b next1 s) a.length (fun k => some (decide (a.drop k = b.drop k))) fun next k hk ih => ?_).trans (by simp)
  show Qs a b next (k : Int) = _
  unfold Qs
  rw [cI]
  by_cases h : k < a.length
  ·rw [if_pos (by omega), Ql h, Je, Ql (by omega), Je]
   have q : (a.drop k = b.drop k) = (a[k] = b[k]'(by omega) ∧ a.drop (k + 1) = b.drop (k + 1)) := by
    rw [List.drop_eq_getElem_cons h, List.drop_eq_getElem_cons (show k < b.length by omega), List.cons.injEq]
   simp only [q]
   have e : ∀ x y : T_tag_Ratio, Wj x y = decide (x = y) := fun x y => by
    unfold Wj; cases x; cases y; simp
   rw [e]
   by_cases he : a[k] = b[k]'(by omega)
   ·rw [decide_eq_true he]
    show Qp false _ _ = _
    rw [Qo, Qm (by omega), Je, ih h]; simp [he]
   ·rw [decide_eq_false he]
    show Qp true _ _ = _
    rw [Qv]; simp [he]
  ·rw [if_neg (by omega), List.drop_eq_nil_of_le (by omega), List.drop_eq_nil_of_le (by omega)]; simp
 ·rw [if_pos (by omega), decide_eq_false (fun hh => hl (by rw [hh]))]
theorem sameValue_eq (v w : T_tag_Value) (h : vB v) : W1 v w = some (open Classical in decide (same v w)) := by
 classical
 unfold W1 same
 rw [cI]
 by_cases h1 : v.Kind = w.Kind
 ·rw [if_pos h1, cI]
  by_cases h2 : v.Text = w.Text
  ·rw [if_pos h2, eqInts _ _ h.2.1, Je, cI]
   by_cases h3 : v.Ints = w.Ints
   ·rw [if_pos h3, eqRats _ _ h.2.2, Je]; simp [h1, h2, h3]
   ·rw [if_neg h3]; simp [h3]
  ·rw [if_neg h2]; simp [h2]
 ·rw [if_neg h1]; simp [h1]
theorem SameDir_nil : R_SameDir [] [] = some true := by
 unfold R_SameDir
 refine Q8 fun next => ?_
 show Yo next [] [] = _
 unfold Yo Q0
 rw [cI, if_neg (fun h => h rfl), Q8 (o := some true) (fun next => ?_)]; rfl
 show Jz _ _ _ next 0 = _
 unfold Jz
 rw [cI, if_neg (by simp)]
theorem no_entries {v : T_tag_Value} (h : okV v) (h13 : v.Kind ≠ 13) : v.Entries = [] :=
 Classical.byContradiction fun hh => h.2 (.inr (.inr (.inr ⟨h13, hh⟩)))
theorem SameValue_eq (v w : T_tag_Value) (h : vB v) (hv : okV v) (hw : okV w) (h13 : ¬ (v.Kind = 13 ∧ w.Kind = 13)) : We v w = some (open Classical in decide (same v w)) := by
 classical
 unfold We Vy same
 rw [cI]
 by_cases h1 : v.Kind = w.Kind
 ·have e1 := no_entries hv (fun hh => h13 ⟨hh, h1 ▸ hh⟩)
  have e2 := no_entries hw (fun hh => h13 ⟨h1.trans hh, hh⟩)
  rw [if_pos h1, cI]
  by_cases h2 : v.Text = w.Text
  ·rw [if_pos h2, eqInts _ _ h.2.1, Je, cI]
   by_cases h3 : v.Ints = w.Ints
   ·rw [if_pos h3, eqRats _ _ h.2.2, Je, cI]
    by_cases h4 : v.Ratios = w.Ratios
    ·rw [if_pos h4, e1, e2]
     show Qg (R_SameDir [] []) _ = _
     rw [SameDir_nil, Je]; simp [h1, h2, h3, h4]
    ·rw [if_neg h4]; simp [h4]
   ·rw [if_neg h3]; simp [h3]
  ·rw [if_neg h2]; simp [h2]
 ·rw [if_neg h1]; simp [h1]
theorem clone_eq (p : List Int) (h : p.length ≤ 1000000) : Jm p = some p := by
 unfold Jm
 rw [Wo (by simp only [List.length_nil]; omega), Je]; rfl
theorem tell_eq (l : List (List Int)) (p : List Int) (h : p.length ≤ 1000000) (hl : l.length ≤ 1000000000000) : Q3 l p = some (l ++ [p]) := by
 unfold Q3
 rw [clone_eq p h, Je, Wo (by simp only [List.length_cons, List.length_nil]; omega), Je]
def DI (d : Nat) (path : List Int) (a b : List T_tag_Entry) (s : Int × Int × List (List Int)) : Prop :=
 ∃ i k : Nat, s.1 = i ∧ s.2.1 = k ∧ i ≤ a.length ∧ k ≤ b.length ∧ s.2.2.length + (dm (Y3 d path) path (a.drop i) (b.drop k)).length ≤ 1000000000000
theorem differ_eq (d : Nat) : ∀ (a b : List T_tag_Entry) (path : List Int) (l : List (List Int)), okR d a → okR d b → szD d a ≤ 2000000 → szD d b ≤ 2000000 → path.length + d ≤ 100 → l.length + (dif d a b path).length ≤ 1000000000000 →
  Vd a b path l = some (l ++ dif d a b path) := by
 intro a b path l h1 h2 h3 h4 h5 h6
 unfold Vd
 refine fix_ofG (fun (g : Nat) (s : List T_tag_Entry × List T_tag_Entry × List Int × List (List Int)) => some (s.2.2.2 ++ dif g s.1 s.2.1 s.2.2.1))
  (fun g s => okR g s.1 ∧ okR g s.2.1 ∧ szD g s.1 ≤ 2000000 ∧ szD g s.2.1 ≤ 2000000 ∧ s.2.2.1.length + g ≤ 100 ∧ s.2.2.2.length + (dif g s.1 s.2.1 s.2.2.1).length ≤ 1000000000000) (fun g => g) ?_ d (a, b, path, l) ⟨h1, h2, h3, h4, h5, h6⟩
 clear h1 h2 h3 h4 h5 h6 a b path l d
 classical
 rintro next g ⟨a, b, path, l⟩ ⟨h1, h2, h3, h4, h5, h6⟩ ih
 simp only at h1 h2 h3 h4 h5 h6 ih
 show Ya next a b path l = some (l ++ dif g a b path)
 cases g with
 | zero => exact absurd h1 id
 | succ d =>
  obtain ⟨la, ra, ea⟩ := h1
  obtain ⟨lb, rb, eb⟩ := h2
  rw [dif_succ] at h6 ⊢
  unfold Ya
  have fin := fix_of (F := fun next1 s => Xx a b path next next1 s.1 s.2.1 s.2.2) (fun s => some (s.2.2 ++ dm (Y3 d path) path (a.drop s.1.toNat) (b.drop s.2.1.toNat))) (DI d path a b)
   (fun s => (a.length - s.1.toNat) + (b.length - s.2.1.toNat)) ?_ (0, 0, l) ⟨0, 0, rfl, rfl, Nat.zero_le _, Nat.zero_le _, h6⟩
  ·exact fin
  rintro nx ⟨x, y, l⟩ ⟨i, k, hx, hy, hi, hk, hl⟩ ih2
  simp only at hx hy hl ih2
  subst hx; subst hy
  simp only [Int.toNat_natCast]
  show Xx a b path next nx (i : Int) (k : Int) l = _
  have gp : ∀ t : Int, X6 8 path ([t] : List Int) = some (path ++ [t]) := fun t => Wo (by simp only [List.length_cons, List.length_nil]; omega)
  have pl : ∀ t : Int, (path ++ [t]).length ≤ 1000000 := fun t => by rw [List.length_append, List.length_singleton]; omega
  have SA : ∀ (hi' : i < a.length), dm (Y3 d path) path (a.drop i) (b.drop k) = (path ++ [a[i].Tag]) :: dm (Y3 d path) path (a.drop (i + 1)) (b.drop k) →
    Yj a b path next (i : Int) (k : Int) l nx true = some (l ++ dm (Y3 d path) path (a.drop i) (b.drop k)) := fun hi' e => by
   rw [e, List.length_cons] at hl
   unfold Yj
   rw [Qv, Ql hi', Je, gp, Je, tell_eq _ _ (pl _) (by omega), Je, Qm (by omega), Je]
   refine (ih2 (((i + 1 : Nat) : Int), (k : Int), l ++ [path ++ [a[i].Tag]]) ⟨i + 1, k, rfl, rfl, hi', hk, ?_⟩ ?_).trans ?_
   ·rw [List.length_append, List.length_singleton]; omega
   ·simp only [Int.toNat_natCast]; omega
   ·simp only [Int.toNat_natCast]; rw [e, List.append_assoc]; rfl
  have SB : ∀ (hk' : k < b.length), dm (Y3 d path) path (a.drop i) (b.drop k) = (path ++ [b[k].Tag]) :: dm (Y3 d path) path (a.drop i) (b.drop (k + 1)) →
    Zs a b path next (i : Int) (k : Int) l nx true = some (l ++ dm (Y3 d path) path (a.drop i) (b.drop k)) := fun hk' e => by
   rw [e, List.length_cons] at hl
   unfold Zs
   rw [Qv, Ql hk', Je, gp, Je, tell_eq _ _ (pl _) (by omega), Je, Qm (by omega), Je]
   refine (ih2 ((i : Int), ((k + 1 : Nat) : Int), l ++ [path ++ [b[k].Tag]]) ⟨i, k + 1, rfl, rfl, hi, hk', ?_⟩ ?_).trans ?_
   ·rw [List.length_append, List.length_singleton]; omega
   ·simp only [Int.toNat_natCast]; omega
   ·simp only [Int.toNat_natCast]; rw [e, List.append_assoc]; rfl
  rcases Nat.lt_or_ge i a.length with hi' | hi'
  ·have ea1 := List.drop_eq_getElem_cons hi'
   have hgo : Xx a b path next nx (i : Int) (k : Int) l = Zq a b path next (i : Int) (k : Int) l nx := by
    unfold Xx
    rw [cI, if_pos (by omega)]
   rw [hgo]
   unfold Zq
   rw [cI]
   rcases Nat.lt_or_ge k b.length with hk' | hk'
   ·have eb1 := List.drop_eq_getElem_cons hk'
    rw [if_neg (by omega), cI, if_pos (by omega), Ql hi', Je, Ql hk', Je]
    by_cases hab : a[i].Tag < b[k].Tag
    ·rw [decide_eq_true hab]
     refine SA hi' ?_
     rw [ea1, eb1, dm, if_pos hab]
    rw [decide_eq_false hab]
    unfold Yj
    rw [Qo, cI, if_neg (by omega), Ql hk', Je, Ql hi', Je]
    by_cases hba : b[k].Tag < a[i].Tag
    ·rw [decide_eq_true hba]
     refine SB hk' ?_
     rw [ea1, eb1, dm, if_neg hab, if_pos hba]
    rw [decide_eq_false hba]
    have e : dm (Y3 d path) path (a.drop i) (b.drop k) = Y3 d path a[i] b[k] ++ dm (Y3 d path) path (a.drop (i + 1)) (b.drop (k + 1)) := by
     rw [ea1, eb1, dm, if_neg hab, if_neg hba]
    rw [e, List.length_append] at hl
    rw [e]
    unfold Zs
    rw [Qo, Ql hi', Je, gp, Je, Je, Ql hk', Je]
    have mi : a[i] ∈ a := List.getElem_mem hi'
    have mk : b[k] ∈ b := List.getElem_mem hk'
    obtain ⟨va, sa⟩ := vB_of h3 mi
    obtain ⟨vb, sb⟩ := vB_of h4 mk
    have step : ∀ l' : List (List Int), l' = l ++ Y3 d path a[i] b[k] → Zx (i : Int) (k : Int) nx l' = some (l ++ (Y3 d path a[i] b[k] ++ dm (Y3 d path) path (a.drop (i + 1)) (b.drop (k + 1)))) := fun l' hl' => by
     unfold Zx
     rw [Qm (by omega), Je, Qm (by omega), Je]
     refine (ih2 (((i + 1 : Nat) : Int), ((k + 1 : Nat) : Int), l') ⟨i + 1, k + 1, rfl, rfl, hi', hk', ?_⟩ ?_).trans ?_
     ·rw [hl', List.length_append]; omega
     ·simp only [Int.toNat_natCast]; omega
     ·simp only [Int.toNat_natCast]; rw [hl', List.append_assoc]
    have plain : ¬ (a[i].Value.Kind = 13 ∧ b[k].Value.Kind = 13) → Zy next (i : Int) (k : Int) l nx (path ++ [a[i].Tag]) a[i] b[k] false = some (l ++ (Y3 d path a[i] b[k] ++ dm (Y3 d path) path (a.drop (i + 1)) (b.drop (k + 1)))) := fun hn => by
     unfold Zy
     rw [Qo, sameValue_eq _ _ va, Je]
     by_cases hs : same a[i].Value b[k].Value
     ·rw [decide_eq_true hs]
      show Qp false _ _ = _
      rw [Qo]
      refine step l ?_
      unfold Y3; rw [if_neg hn, if_pos hs, List.append_nil]
     ·rw [decide_eq_false hs]
      show Qp true _ _ = _
      have eh : Y3 d path a[i] b[k] = [path ++ [a[i].Tag]] := by unfold Y3; rw [if_neg hn, if_neg hs]
      rw [Qv, tell_eq _ _ (pl _) (by omega), Je]
      exact step _ (by rw [eh])
    rw [cI]
    by_cases ha13 : a[i].Value.Kind = 13
    ·rw [if_pos ha13]
     by_cases hb13 : b[k].Value.Kind = 13
     ·have eh : Y3 d path a[i] b[k] = dif d a[i].Value.Entries b[k].Value.Entries (path ++ [a[i].Tag]) := by unfold Y3; rw [if_pos ⟨ha13, hb13⟩]
      rw [decide_eq_true hb13]
      unfold Zy
      rw [Qv]
      have := ih d (a[i].Value.Entries, b[k].Value.Entries, path ++ [a[i].Tag], l) ⟨(ea _ mi).2 ha13, (eb _ mk).2 hb13, sa, sb, by rw [List.length_append, List.length_singleton]; omega, by show l.length + (dif d a[i].Value.Entries b[k].Value.Entries (path ++ [a[i].Tag])).length ≤ 1000000000000; rw [← eh]; omega⟩ (by omega)
      simp only at this
      rw [this, Je]
      exact step _ (by rw [eh])
     ·rw [decide_eq_false hb13]
      exact plain fun h => hb13 h.2
    ·rw [if_neg ha13]
     exact plain fun h => ha13 h.1
   ·obtain rfl : k = b.length := by omega
    rw [if_pos rfl]
    refine SA hi' ?_
    rw [List.drop_length, ea1, dm]
  ·obtain rfl : i = a.length := by omega
   rcases Nat.lt_or_ge k b.length with hk' | hk'
   ·have eb1 := List.drop_eq_getElem_cons hk'
    unfold Xx
    rw [cI, if_neg (by omega), cI, if_pos (by omega)]
    unfold Zq
    rw [cI, if_neg (by omega), cI, if_neg (by omega)]
    unfold Yj
    rw [Qo, cI, if_pos rfl]
    refine SB hk' ?_
    rw [List.drop_length, eb1, dm]
   ·obtain rfl : k = b.length := by omega
    unfold Xx
    rw [cI, if_neg (by omega), cI, if_neg (by omega), List.drop_length, List.drop_length, dm, List.append_nil]
end Go.M

/- TagDiffers, in plain Lean: the reference's list, and the law. Conditions: sizes. -/
namespace Go.M
open Go.Md Go.Pl
set_option linter.unusedVariables false
theorem half {x : Int} (h : 0 ≤ x ∧ x ≤ 4611686018427387904) : gShr 64 (wU64 x) 1 = some (x / 2) ∧ wI64 (x / 2) = x / 2 := by
 refine ⟨?_, wI64_in (by omega)⟩
 rw [wU64_in (by omega)]
 unfold gShr
 rw [if_pos (by omega)]
 rfl
theorem bin_loop {α ρ : Type} {F : (Int × Int → Option ρ) → Int × Int → Option ρ} (l : List α) (p : α → Bool) (mono : ∀ (i j : Nat) (hi : i < l.length) (hj : j < l.length), i < j → p l[j] = true → p l[i] = true) (J : Int → Option ρ)
  (more : ∀ (next : Int × Int → Option ρ) (i j : Nat) (h : (i + j) / 2 < l.length), i < j → j ≤ l.length → F next ((i : Int), (j : Int)) = if p l[(i + j) / 2] = true then next (((i + j) / 2 : Nat) + 1, (j : Int)) else next ((i : Int), (((i + j) / 2 : Nat) : Int)))
  (stop : ∀ next (i : Nat), i ≤ l.length → F next ((i : Int), (i : Int)) = J i) :
  ∃ k : Nat, k ≤ l.length ∧ (∀ (i : Nat) (h : i < l.length), i < k → p l[i] = true) ∧ (∀ (i : Nat) (h : i < l.length), k ≤ i → p l[i] = false) ∧ Z5 F (0, (l.length : Int)) = J k := by
 have key : ∀ n i j, i ≤ j → j ≤ l.length → j - i < n → (∀ (q : Nat) (h : q < l.length), q < i → p l[q] = true) → (∀ (q : Nat) (h : q < l.length), j ≤ q → p l[q] = false) →
   ∃ k : Nat, k ≤ l.length ∧ (∀ (i : Nat) (h : i < l.length), i < k → p l[i] = true) ∧ (∀ (i : Nat) (h : i < l.length), k ≤ i → p l[i] = false) ∧ Z5 F ((i : Int), (j : Int)) = J k := by
  intro n
  induction n with
  | zero => intro i j _ _ h; omega
  | succ n ih =>
   intro i j h1 h2 h3 h4 h5
   rcases Nat.lt_or_ge i j with h | h
   ·have hb : (i + j) / 2 < l.length := by omega
    by_cases hp : p l[(i + j) / 2] = true
    ·rw [X0 ((((i + j) / 2 + 1 : Nat) : Int), (j : Int)) fun next => by rw [more next i j hb h h2, if_pos hp]; rfl]
     refine ih _ _ (by omega) h2 (by omega) (fun q hq hq2 => ?_) h5
     rcases Nat.lt_or_ge q ((i + j) / 2) with h6 | h6
     ·exact mono q _ hq hb h6 hp
     ·have : q = (i + j) / 2 := by omega
      subst this; exact hp
    ·rw [X0 ((i : Int), (((i + j) / 2 : Nat) : Int)) fun next => by rw [more next i j hb h h2, if_neg hp]]
     refine ih _ _ (by omega) (by omega) (by omega) h4 fun q hq hq2 => ?_
     rcases Nat.lt_or_ge ((i + j) / 2) q with h6 | h6
     ·cases h7 : p l[q] with
      | false => rfl
      | true => exact absurd (mono _ q hb hq h6 h7) hp
     ·have : q = (i + j) / 2 := by omega
      subst this; simpa using hp
   ·have : i = j := by omega
    subst this
    exact ⟨i, h2, h4, h5, Q8 fun next => stop next i h2⟩
 simpa using key (l.length + 1) 0 l.length (Nat.zero_le _) (Nat.le_refl _) (by omega) (fun q _ h => by omega) (fun q h h' => by omega)
def lk : List T_tag_Entry → Int → Option T_tag_Entry
 | [], _ => none
 | e :: l, t => if e.Tag = t then some e else lk l t
def tg : List T_tag_Entry → List T_tag_Entry → List Int
 | [], [] => []
 | a :: az, [] => a.Tag :: tg az []
 | [], b :: bs => b.Tag :: tg [] bs
 | a :: az, b :: bs => if a.Tag < b.Tag then a.Tag :: tg az (b :: bs) else if b.Tag < a.Tag then b.Tag :: tg (a :: az) bs else a.Tag :: tg az bs
termination_by a b => a.length + b.length
noncomputable def stp (h : T_tag_Entry → T_tag_Entry → List (List Int)) (path : List Int) (a b : List T_tag_Entry) (t : Int) : List (List Int) :=
 match lk a t, lk b t with
 | some x, some y => h x y
 | _, _ => [path ++ [t]]
theorem tg_mem {t : Int} : ∀ (n : Nat) (a b : List T_tag_Entry), a.length + b.length ≤ n → (t ∈ tg a b ↔ (∃ x ∈ a, x.Tag = t) ∨ ∃ y ∈ b, y.Tag = t) := by
 intro n
 induction n with
 | zero =>
  intro a b hn
  obtain rfl : a = [] := List.length_eq_zero_iff.1 (by omega)
  obtain rfl : b = [] := List.length_eq_zero_iff.1 (by omega)
  rw [tg]; simp
 | succ n ih =>
  intro a b hn
  cases a with
  | nil =>
   cases b with
   | nil => rw [tg]; simp
   | cons b bs =>
    rw [tg, List.mem_cons, ih [] bs (by simp only [List.length_cons, List.length_nil] at hn ⊢; omega)]
    simp [eq_comm]
  | cons a az =>
   cases b with
   | nil =>
    rw [tg, List.mem_cons, ih az [] (by simp only [List.length_cons, List.length_nil] at hn ⊢; omega)]
    simp [eq_comm]
   | cons b bs =>
    simp only [List.length_cons] at hn
    rw [tg]
    split
    ·rw [List.mem_cons, ih az (b :: bs) (by simp only [List.length_cons]; omega)]
     simp [eq_comm, or_assoc]
    ·split
     ·rw [List.mem_cons, ih (a :: az) bs (by simp only [List.length_cons]; omega)]
      simp only [List.mem_cons, exists_eq_or_imp, eq_comm (a := t)]
      constructor
      ·rintro (h | h | h)
       ·exact .inr (.inl h)
       ·exact .inl h
       ·exact .inr (.inr h)
      ·rintro (h | h | h)
       ·exact .inr (.inl h)
       ·exact .inl h
       ·exact .inr (.inr h)
     ·rename_i h1 h2
      have e : a.Tag = b.Tag := by omega
      rw [List.mem_cons, ih az bs (by omega)]
      simp only [List.mem_cons, exists_eq_or_imp, ← e, eq_comm (a := t)]
      constructor
      ·rintro (h | h | h)
       ·exact .inl (.inl h)
       ·exact .inl (.inr h)
       ·exact .inr (.inr h)
      ·rintro ((h | h) | h | h)
       ·exact .inl h
       ·exact .inr (.inl h)
       ·exact .inl h
       ·exact .inr (.inr h)
theorem tg_m {t : Int} {a b : List T_tag_Entry} : t ∈ tg a b ↔ (∃ x ∈ a, x.Tag = t) ∨ ∃ y ∈ b, y.Tag = t := tg_mem _ a b (Nat.le_refl _)
theorem tg_rise : ∀ (n : Nat) (a b : List T_tag_Entry), a.length + b.length ≤ n → Ris a → Ris b → (tg a b).Pairwise fun x y => x < y := by
 intro n
 induction n with
 | zero =>
  intro a b hn _ _
  obtain rfl : a = [] := List.length_eq_zero_iff.1 (by omega)
  obtain rfl : b = [] := List.length_eq_zero_iff.1 (by omega)
  rw [tg]; exact List.Pairwise.nil
 | succ n ih =>
  intro a b hn ha hb
  cases a with
  | nil =>
   cases b with
   | nil => rw [tg]; exact List.Pairwise.nil
   | cons b bs =>
    obtain ⟨b1, b2⟩ := List.pairwise_cons.1 hb
    rw [tg]
    refine List.pairwise_cons.2 ⟨fun t ht => ?_, ih [] bs (by simp only [List.length_cons, List.length_nil] at hn ⊢; omega) ha b2⟩
    rcases tg_m.1 ht with ⟨x, hx, rfl⟩ | ⟨x, hx, rfl⟩
    ·cases hx
    ·exact b1 x hx
  | cons a az =>
   obtain ⟨a1, a2⟩ := List.pairwise_cons.1 ha
   cases b with
   | nil =>
    rw [tg]
    refine List.pairwise_cons.2 ⟨fun t ht => ?_, ih az [] (by simp only [List.length_cons, List.length_nil] at hn ⊢; omega) a2 hb⟩
    rcases tg_m.1 ht with ⟨x, hx, rfl⟩ | ⟨x, hx, rfl⟩
    ·exact a1 x hx
    ·cases hx
   | cons b bs =>
    obtain ⟨b1, b2⟩ := List.pairwise_cons.1 hb
    simp only [List.length_cons] at hn
    rw [tg]
    split
    ·rename_i h
     refine List.pairwise_cons.2 ⟨fun t ht => ?_, ih az (b :: bs) (by simp only [List.length_cons]; omega) a2 hb⟩
     rcases tg_m.1 ht with ⟨x, hx, rfl⟩ | ⟨x, hx, rfl⟩
     ·exact a1 x hx
     ·rcases List.mem_cons.1 hx with e | e
      ·subst e; exact h
      ·have := b1 x e; omega
    ·rename_i h
     split
     ·rename_i h'
      refine List.pairwise_cons.2 ⟨fun t ht => ?_, ih (a :: az) bs (by simp only [List.length_cons]; omega) ha b2⟩
      rcases tg_m.1 ht with ⟨x, hx, rfl⟩ | ⟨x, hx, rfl⟩
      ·rcases List.mem_cons.1 hx with e | e
       ·subst e; exact h'
       ·have := a1 x e; omega
      ·exact b1 x hx
     ·rename_i h'
      refine List.pairwise_cons.2 ⟨fun t ht => ?_, ih az bs (by omega) a2 b2⟩
      rcases tg_m.1 ht with ⟨x, hx, rfl⟩ | ⟨x, hx, rfl⟩
      ·exact a1 x hx
      ·have := b1 x hx; omega
theorem fm_congr {α β : Type} {f g : α → List β} : ∀ {l : List α}, (∀ x ∈ l, f x = g x) → l.flatMap f = l.flatMap g
 | [], _ => rfl
 | x :: l, h => by rw [List.flatMap_cons, List.flatMap_cons, h x (.head _), fm_congr fun y hy => h y (.tail _ hy)]
theorem lk_ne {e : T_tag_Entry} {l : List T_tag_Entry} {t : Int} (h : e.Tag < t) : lk (e :: l) t = lk l t := by rw [lk, if_neg (by omega)]
theorem lk_low {l : List T_tag_Entry} {t : Int} (h : ∀ x ∈ l, t < x.Tag) : lk l t = none := by
 induction l with
 | nil => rfl
 | cons x l ih => rw [lk, if_neg (by have := h x (.head _); omega), ih fun y hy => h y (.tail _ hy)]
theorem cons_app {α : Type} {q : α} {y z w : List α} (h1 : y = [q]) (h2 : z = w) : q :: z = y ++ w := by rw [h1, h2]; rfl
theorem dm_flat {h : T_tag_Entry → T_tag_Entry → List (List Int)} {path : List Int} : ∀ (n : Nat) (a b : List T_tag_Entry), a.length + b.length ≤ n → Ris a → Ris b → dm h path a b = (tg a b).flatMap (stp h path a b) := by
 intro n
 induction n with
 | zero =>
  intro a b hn _ _
  obtain rfl : a = [] := List.length_eq_zero_iff.1 (by omega)
  obtain rfl : b = [] := List.length_eq_zero_iff.1 (by omega)
  rw [tg, dm]; rfl
 | succ n ih =>
  intro a b hn ha hb
  have rise := tg_rise _ a b (Nat.le_refl _) ha hb
  cases a with
  | nil =>
   cases b with
   | nil => rw [tg, dm]; rfl
   | cons b bs =>
    obtain ⟨b1, b2⟩ := List.pairwise_cons.1 hb
    rw [tg] at rise ⊢
    have r1 := (List.pairwise_cons.1 rise).1
    rw [dm, ih [] bs (by simp only [List.length_cons, List.length_nil] at hn ⊢; omega) ha b2, List.flatMap_cons]
    refine cons_app ?_ (fm_congr fun t ht => ?_)
    ·unfold stp; simp only [lk]
    ·unfold stp; rw [lk_ne (r1 t ht)]
  | cons a az =>
   obtain ⟨a1, a2⟩ := List.pairwise_cons.1 ha
   cases b with
   | nil =>
    rw [tg] at rise ⊢
    have r1 := (List.pairwise_cons.1 rise).1
    rw [dm, ih az [] (by simp only [List.length_cons, List.length_nil] at hn ⊢; omega) a2 hb, List.flatMap_cons]
    refine cons_app ?_ (fm_congr fun t ht => ?_)
    ·unfold stp; rw [show lk ([] : List T_tag_Entry) a.Tag = none from rfl]; cases lk (a :: az) a.Tag <;> rfl
    ·unfold stp; rw [lk_ne (r1 t ht)]
   | cons b bs =>
    obtain ⟨b1, b2⟩ := List.pairwise_cons.1 hb
    simp only [List.length_cons] at hn
    rw [tg] at rise ⊢
    rw [dm]
    by_cases h1 : a.Tag < b.Tag
    ·rw [if_pos h1] at rise ⊢
     rw [if_pos h1]
     have r1 := (List.pairwise_cons.1 rise).1
     rw [ih az (b :: bs) (by simp only [List.length_cons]; omega) a2 hb, List.flatMap_cons]
     refine cons_app ?_ (fm_congr fun t ht => ?_)
     ·unfold stp; rw [lk_low (l := b :: bs) (t := a.Tag) (fun x hx => by
       rcases List.mem_cons.1 hx with e | e
       ·subst e; exact h1
       ·have := b1 x e; omega)]
      cases lk (a :: az) a.Tag <;> rfl
     ·unfold stp; rw [lk_ne (r1 t ht)]
    ·rw [if_neg h1] at rise ⊢
     rw [if_neg h1]
     by_cases h2 : b.Tag < a.Tag
     ·rw [if_pos h2] at rise ⊢
      rw [if_pos h2]
      have r1 := (List.pairwise_cons.1 rise).1
      rw [ih (a :: az) bs (by simp only [List.length_cons]; omega) ha b2, List.flatMap_cons]
      refine cons_app ?_ (fm_congr fun t ht => ?_)
      ·unfold stp; rw [lk_low (l := a :: az) (t := b.Tag) (fun x hx => by
        rcases List.mem_cons.1 hx with e | e
        ·subst e; exact h2
        ·have := a1 x e; omega)]
      ·unfold stp; rw [lk_ne (e := b) (r1 t ht)]
     ·rw [if_neg h2] at rise ⊢
      rw [if_neg h2]
      have r1 := (List.pairwise_cons.1 rise).1
      have e : b.Tag = a.Tag := by omega
      rw [ih az bs (by omega) a2 b2, List.flatMap_cons]
      refine congr (congrArg _ ?_) (fm_congr fun t ht => ?_)
      ·unfold stp; rw [lk, if_pos rfl, lk, if_pos e]
      ·have := r1 t ht
       unfold stp; rw [lk_ne (e := a) this, lk_ne (e := b) (by omega)]
theorem lk_at {l : List T_tag_Entry} (hr : Ris l) {k : Nat} (hk : k < l.length) : lk l l[k].Tag = some l[k] := by
 induction l generalizing k with
 | nil => cases hk
 | cons e l ih =>
  obtain ⟨h1, h2⟩ := List.pairwise_cons.1 hr
  cases k with
  | zero => rw [lk]; exact if_pos rfl
  | succ k =>
   have hk' : k < l.length := by simpa using hk
   rw [show (e :: l)[k + 1] = l[k] from rfl, lk_ne (h1 _ (List.getElem_mem hk'))]
   exact ih h2 hk'
theorem lk_no {l : List T_tag_Entry} {t : Int} (h : ∀ x ∈ l, x.Tag ≠ t) : lk l t = none := by
 induction l with
 | nil => rfl
 | cons x l ih => rw [lk, if_neg (h x (.head _)), ih fun y hy => h y (.tail _ hy)]
theorem cmp_eq (x y : Int) : V8 x y = some (if x < y then -1 else if y < x then 1 else 0) := by
 unfold V8 W3
 rw [Je, Je, decide_eq_false (fun h => h rfl), Qo, decide_eq_false (fun h => h rfl), Qo, cI, cI]
 split
 ·rfl
 ·split <;> rfl
theorem find1_eq (e : T_tag_Entry) (t : Int) : R_find_1 e t = some (if e.Tag < t then -1 else if t < e.Tag then 1 else 0) := by
 unfold R_find_1; rw [cmp_eq, Je]
theorem find_eq (l : List T_tag_Entry) (t : Int) (hr : Ris l) (hl : l.length ≤ 200) :
  (R_find l t = some (R_find l t |>.getD (0, false)) ∧ lk l t = none ∧ (R_find l t |>.getD (0, false)).2 = false) ∨ ∃ k, ∃ hk : k < l.length, R_find l t = some ((k : Int), true) ∧ lk l t = some l[k] ∧ l[k].Tag = t := by
 have hp := List.pairwise_iff_getElem.1 hr
 obtain ⟨k, h1, h2, h3, h4⟩ := bin_loop (F := fun next2 s => J3 l t R_find_1 next2 s.1 s.2) l (fun x => decide (x.Tag < t)) (fun i j hi hj hij h => by have := hp i j hi hj hij; simp at h ⊢; omega) (Qi l t R_find_1)
  (fun next i j h hij hj => by
   obtain ⟨f1, f2⟩ := half (x := (i : Int) + j) (by omega)
   rw [show ((i : Int) + j) / 2 = (((i + j) / 2 : Nat) : Int) by omega] at f1 f2
   simp only [J3]
   rw [cI, if_pos (by omega), Qm (by omega), Je, f1, Je, f2, Ql h, Je, find1_eq, Je, cI]
   by_cases hlt : l[(i + j) / 2].Tag < t
   ·rw [if_pos hlt, if_pos (by omega), Qm (by omega), Je, if_pos (by simpa using hlt)]
   ·rw [if_neg hlt, if_neg (by split <;> omega), if_neg (by simpa using hlt)])
  (fun next i hi => by
   simp only [J3]
   rw [cI, if_neg (by omega)])
 have hfix : R_find l t = Qg (Qi l t R_find_1 k) fun t8 => some (t8.1, t8.2) := by
  unfold R_find Xp
  rw [h4]
 unfold Qi at hfix
 have out : ∀ j (hj : j < l.length), l[j].Tag = t → k < l.length ∧ j = k := fun j hj e => by
  rcases Nat.lt_or_ge j k with h | h
  ·have := h2 j hj h; simp at this; omega
  ·rcases Nat.lt_or_ge k j with h' | h'
   ·have g3 := h3 k (by omega) (Nat.le_refl _); simp at g3
    have := hp k j (by omega) hj h'; omega
   ·exact ⟨by omega, by omega⟩
 rw [cI] at hfix
 rcases Nat.lt_or_ge k l.length with hk | hk
 ·rw [if_pos (by omega), Ql hk, Je, find1_eq, Je, Je] at hfix
  by_cases he : l[k].Tag = t
  ·refine .inr ⟨k, hk, ?_, by rw [← he]; exact lk_at hr hk, he⟩
   rw [hfix, if_neg (by omega), if_neg (by omega)]; rfl
  ·refine .inl ⟨by rw [hfix]; rfl, lk_no fun x hx e => ?_, ?_⟩
   ·obtain ⟨j, hj, rfl⟩ := List.getElem_of_mem hx
    obtain ⟨_, rfl⟩ := out j hj e
    exact he e
   ·rw [hfix]
    show decide _ = false
    refine decide_eq_false ?_
    split
    ·omega
    ·rw [if_pos (by omega)]; omega
 ·rw [if_neg (by omega), Je] at hfix
  refine .inl ⟨by rw [hfix]; rfl, lk_no fun x hx e => ?_, by rw [hfix]; rfl⟩
  obtain ⟨j, hj, rfl⟩ := List.getElem_of_mem hx
  have := out j hj e
  omega
theorem concat_eq (a b : List T_tag_Entry) (ha : a.length ≤ 200) (hb : b.length ≤ 200) : Ys [a, b] = some (a ++ b) := by
 unfold Ys
 have g0 : Qj [a, b] (0 : Int) = some a := Ql (xs := [a, b]) (k := 0) (by simp)
 have g1 : Qj [a, b] (1 : Int) = some b := Ql (xs := [a, b]) (k := 1) (by simp)
 refine (X0 ((a.length : Int), 1) fun next => ?_).trans ?_
 ·show Qc [a, b] next 0 0 = _
  unfold Qc
  rw [cI, if_pos (by simp), g0, Je, Int.zero_add, Qm (by omega), Je, cI, if_neg (by omega), Qm (by omega), Je]; rfl
 refine (X0 ((a.length : Int) + b.length, 2) fun next => ?_).trans ?_
 ·show Qc [a, b] next (a.length : Int) 1 = _
  unfold Qc
  rw [cI, if_pos (by simp), g1, Je, Qm (by omega), Je, cI, if_neg (by omega), Qm (by omega), Je]; rfl
 refine Q8 fun next => ?_
 show Qc [a, b] next ((a.length : Int) + b.length) 2 = _
 unfold Qc
 rw [cI, if_neg (by simp)]
 unfold X9
 rw [gGroC_ok (by omega), Je]
 refine (X0 (1, a) fun next => ?_).trans ?_
 ·show Qd [a, b] next 0 [] = _
  unfold Qd
  rw [cI, if_pos (by simp), g0, Je, Wo (by simp only [List.length_nil]; omega), Je, Qm (by omega), Je]; rfl
 refine (X0 (2, a ++ b) fun next => ?_).trans ?_
 ·show Qd [a, b] next 1 a = _
  unfold Qd
  rw [cI, if_pos (by simp), g1, Je, Wo (by omega), Je, Qm (by omega), Je]; rfl
 refine Q8 fun next => ?_
 show Qd [a, b] next 2 (a ++ b) = _
 unfold Qd
 rw [cI, if_neg (by simp)]
noncomputable def keysM (l : List T_tag_Entry) (m : List (Int × Bool)) : List (Int × Bool) := l.foldl (fun m x => mSet m x.Tag true) m
theorem mset_keys (m : List (Int × Bool)) (k : Int) : (mSet m k true).map (·.1) = if k ∈ m.map (·.1) then m.map (·.1) else m.map (·.1) ++ [k] := by
 unfold mSet mHas
 by_cases h : (m.any fun p => decide (p.1 = k)) = true
 ·rw [if_pos h, if_pos (by
   obtain ⟨p, hp, e⟩ := List.any_eq_true.1 h
   exact List.mem_map.2 ⟨p, hp, by simpa using e⟩), List.map_map]
  refine List.map_congr_left fun p _ => ?_
  show (if p.1 = k then (k, true) else p).1 = p.1
  split
  ·rename_i e; exact e.symm
  ·rfl
 ·rw [if_neg h, if_neg (fun hm => h (by
   obtain ⟨p, hp, e⟩ := List.mem_map.1 hm
   exact List.any_eq_true.2 ⟨p, hp, by simpa using e⟩)), List.map_append]; rfl
theorem keysM_nodup : ∀ (l : List T_tag_Entry) (m : List (Int × Bool)), (m.map (·.1)).Nodup → ((keysM l m).map (·.1)).Nodup ∧ ∀ t, t ∈ (keysM l m).map (·.1) ↔ t ∈ m.map (·.1) ∨ ∃ x ∈ l, x.Tag = t := by
 intro l
 induction l with
 | nil => intro m h; exact ⟨h, fun t => by simp [keysM]⟩
 | cons x l ih =>
  intro m h
  have hk := mset_keys m x.Tag
  have hn : ((mSet m x.Tag true).map (·.1)).Nodup := by
   rw [hk]
   split
   ·exact h
   ·rename_i hx
    exact List.nodup_append.2 ⟨h, by simp, fun a ha b hb => by rw [List.mem_singleton.1 hb]; intro e; exact hx (e ▸ ha)⟩
  obtain ⟨g1, g2⟩ := ih (mSet m x.Tag true) hn
  refine ⟨g1, fun t => ?_⟩
  show t ∈ (keysM l (mSet m x.Tag true)).map (·.1) ↔ _
  rw [g2, hk]
  by_cases hx : x.Tag ∈ m.map (·.1)
  ·rw [if_pos hx]
   constructor
   ·rintro (h | ⟨y, hy, e⟩)
    ·exact .inl h
    ·exact .inr ⟨y, .tail _ hy, e⟩
   ·rintro (h | ⟨y, hy, e⟩)
    ·exact .inl h
    ·rcases List.mem_cons.1 hy with h | h
     ·subst h; subst e; exact .inl hx
     ·exact .inr ⟨y, h, e⟩
  ·rw [if_neg hx, List.mem_append, List.mem_singleton]
   constructor
   ·rintro ((h | h) | ⟨y, hy, e⟩)
    ·exact .inl h
    ·exact .inr ⟨x, .head _, h.symm⟩
    ·exact .inr ⟨y, .tail _ hy, e⟩
   ·rintro (h | ⟨y, hy, e⟩)
    ·exact .inl (.inl h)
    ·rcases List.mem_cons.1 hy with h | h
     ·subst h; exact .inl (.inr e.symm)
     ·exact .inr ⟨y, h, e⟩
theorem keys_perm {a b : List T_tag_Entry} (ha : Ris a) (hb : Ris b) : ((keysM (a ++ b) []).map (·.1)).Perm (tg a b) := by
 obtain ⟨h1, h2⟩ := keysM_nodup (a ++ b) [] (by simp)
 refine (List.perm_ext_iff_of_nodup h1 ((tg_rise _ a b (Nat.le_refl _) ha hb).imp fun h e => by omega)).2 fun t => ?_
 rw [h2, tg_m]
 simp only [List.map_nil, List.not_mem_nil, false_or, List.mem_append]
 constructor
 ·rintro ⟨x, h | h, e⟩
  ·exact .inl ⟨x, h, e⟩
  ·exact .inr ⟨x, h, e⟩
 ·rintro (⟨x, h, e⟩ | ⟨x, h, e⟩)
  ·exact ⟨x, .inl h, e⟩
  ·exact ⟨x, .inr h, e⟩
theorem sort_tg {a b : List T_tag_Entry} (ha : Ris a) (hb : Ris b) {l : List Int} (h : l.Perm (tg a b)) : (l.mergeSort fun x y => decide (x ≤ y)) = tg a b := by
 refine List.Perm.eq_of_pairwise (le := fun x y : Int => decide (x ≤ y) = true) (fun x y _ _ h1 h2 => ?_) (List.pairwise_mergeSort (le := fun x y : Int => decide (x ≤ y)) (fun x y z h1 h2 => ?_) (fun x y => ?_) l) ((tg_rise _ a b (Nat.le_refl _) ha hb).imp fun h => ?_) ((List.mergeSort_perm l _).trans h)
 ·simp at h1 h2; omega
 ·simp at h1 h2 ⊢; omega
 ·simp; omega
 ·simp; omega
theorem tg_len : ∀ (n : Nat) (a b : List T_tag_Entry), a.length + b.length ≤ n → (tg a b).length ≤ a.length + b.length := by
 intro n
 induction n with
 | zero =>
  intro a b hn
  obtain rfl : a = [] := List.length_eq_zero_iff.1 (by omega)
  obtain rfl : b = [] := List.length_eq_zero_iff.1 (by omega)
  rw [tg]; simp
 | succ n ih =>
  intro a b hn
  cases a with
  | nil =>
   cases b with
   | nil => rw [tg]; simp
   | cons b bs =>
    have := ih [] bs (by simp only [List.length_cons, List.length_nil] at hn ⊢; omega)
    rw [tg]; simp only [List.length_cons, List.length_nil] at this ⊢; omega
  | cons a az =>
   cases b with
   | nil =>
    have := ih az [] (by simp only [List.length_cons, List.length_nil] at hn ⊢; omega)
    rw [tg]; simp only [List.length_cons, List.length_nil] at this ⊢; omega
   | cons b bs =>
    simp only [List.length_cons] at hn
    have i1 := ih az (b :: bs) (by simp only [List.length_cons]; omega)
    have i2 := ih (a :: az) bs (by simp only [List.length_cons]; omega)
    have i3 := ih az bs (by omega)
    rw [tg]
    simp only [List.length_cons] at i1 i2 i3 ⊢
    split
    ·simp only [List.length_cons]; omega
    ·split <;> (simp only [List.length_cons]; omega)
end Go.M
