/- TagPictures, the law: the walks, printed by our generator; each follows its model. Conditions: the model yields a value. -/
import Derived.Test.YtemkoikdkfkijaaKQb
import Derived.Test.YtemkoikdkfkijaaMd
namespace Go.Proofs.Ytemkoikdkfkijaa
open Go Go.Vc Go.Md Go.M Go.Lx
set_option maxRecDepth 100000
set_option maxHeartbeats 4000000
set_option linter.unusedVariables false
theorem k115 {a0 : T_tag_Ratio} {r : Int} (H : tag_checkRatio a0 = some r) : Ret Try.prog 115 [.agg #[.int .i64 a0.Num, .int .i64 a0.Den]] (.int .i64 r) := by
 refine Z5 (n := 11) Try.func115 rfl rfl rfl (fun wd => ?_)
 refine Jf ?_
 refine Jb ?_
 refine U6 (cs := [.int .i64 a0.Num, .int .i64 a0.Den]) rfl rfl rfl rfl (fun b1 => ?_)
 refine Ja rfl rfl rfl (Jc (v := .int .i64 0) rfl) ?_
 refine Jg ?_
 refine Jf ?_
 refine Jf ?_
 refine Jb ?_
 refine Ja rfl rfl rfl (Jk Try.runUnderlying103 rfl Try.sizeOf3 rfl rfl) ?_
 refine Jw (i := 0) (v := .int .i64 a0.Num) Try.isAgg3 rfl rfl rfl rfl rfl ?_
 obtain ⟨t5, h_t5, H7⟩ := Jh H; clear H
 refine Zu (k97 h_t5) Try.call97 rfl rfl rfl ?_
 refine Ja rfl rfl rfl (Jd (v := .bool t5) rfl) ?_
 refine split (fun hb => ?_) (fun hb => ?_)
 ·have H8 := Jr hb H7; clear H7
  refine Ji rfl rfl rfl ?_
  refine Ji rfl rfl rfl ?_
  refine Ji rfl rfl rfl ?_
  refine Ja rfl rfl rfl (J7 (v := .bool true) rfl rfl) ?_
  refine Jg ?_
  refine Wo rfl ?_
  refine Jf ?_
  refine Jb ?_
  refine Ja rfl rfl rfl (Jc (v := .int .i64 2) rfl) ?_
  refine Jg ?_
  refine Ju ?_
  obtain rfl := Option.some.inj H8
  refine Qq (v := .int .i64 2) rfl rfl (Yn rfl)
 ·have H9 := Jq hb H7; clear H7
  refine Ja rfl rfl rfl (Jk Try.runUnderlying103 rfl Try.sizeOf3 rfl rfl) ?_
  refine Jw (i := 0) (v := .int .i64 a0.Den) Try.isAgg3 rfl rfl rfl rfl rfl ?_
  obtain ⟨t9, h_t9, H10⟩ := Jh H9; clear H9
  refine Zu (k97 h_t9) Try.call97 rfl rfl rfl ?_
  refine Ja rfl rfl rfl (Qk (v := .bool t9) rfl rfl) ?_
  refine Jg ?_
  refine Qf (b := t9) rfl (fun hb => ?_) (fun hb => ?_)
  ·have H11 := Jr hb H10; clear H10
   refine Jf ?_
   refine Jb ?_
   refine Ja rfl rfl rfl (Jc (v := .int .i64 2) rfl) ?_
   refine Jg ?_
   refine Ju ?_
   obtain rfl := Option.some.inj H11
   refine Qq (v := .int .i64 2) rfl rfl (Yn rfl)
  ·have H12 := Jq hb H10; clear H10
   refine Jt ?_
   refine Jf ?_
   refine Jb ?_
   refine Ja rfl rfl rfl (Jc (v := .int .i64 0) rfl) ?_
   refine Jg ?_
   refine Ju ?_
   obtain rfl := Option.some.inj H12
   refine Qq (v := .int .i64 0) rfl rfl (Yn rfl)
theorem k69 {a0 : T_tag_Ratio} {r : T_tag_Ratio × Int} (H : tag_Lowest a0 = some r) : Ret Try.prog 69 [.agg #[.int .i64 a0.Num, .int .i64 a0.Den]] (.tuple #[.agg #[.int .i64 r.1.Num, .int .i64 r.1.Den], .int .i64 r.2]) := by
 refine Z5 (n := 32) Try.func69 rfl rfl rfl (fun wd => ?_)
 refine Jf ?_
 refine Jb ?_
 refine U6 (cs := [.int .i64 a0.Num, .int .i64 a0.Den]) rfl rfl rfl rfl (fun b2 => ?_)
 refine Zc (cs := [.int .i64 0, .int .i64 0]) Try.zeroValue103 rfl rfl rfl (fun b3 => ?_)
 refine Ja rfl rfl rfl (Jc (v := .int .i64 0) rfl) ?_
 refine Jg ?_
 refine Jf ?_
 refine Jf ?_
 refine Jb ?_
 refine Zd (i := 0) (vs := [.int .i64 a0.Num, .int .i64 a0.Den]) Try.isAgg103 Try.sizeOf103 rfl rfl rfl rfl rfl ?_
 obtain ⟨t8, h_t8, H11⟩ := Jh H; clear H
 refine Zu (k115 h_t8) Try.call115 rfl rfl rfl ?_
 refine Ja rfl rfl rfl (Jc (v := .int .i64 t8) rfl) ?_
 refine Jg ?_
 refine Jf ?_
 refine Jb ?_
 refine Ja rfl rfl rfl (Jd (v := .int .i64 t8) rfl) ?_
 refine Ja rfl rfl rfl (Zr rfl rfl) ?_
 refine Jg ?_
 refine Qf (b := (decide (t8 ≠ 0))) rfl (fun hb => ?_) (fun hb => ?_)
 ·have H12 := Jr hb H11; clear H11
  refine Jf ?_
  refine Jb ?_
  refine Ja rfl rfl rfl (Y5 (pl := #[(0, 1), (1, 1)]) (ps := []) (cells := #[.int .i64 0, .int .i64 0]) Try.zeroValue103 Try.runUnderlying103 (fun w => by kernel_rfl) rfl rfl) ?_
  refine Ja rfl rfl rfl (Jd (v := .int .i64 t8) rfl) ?_
  refine Qy (i := 1) (vs := [.int .i64 0, .int .i64 0]) (cs' := [.int .i64 0, .int .i64 0]) Try.sizeOf103 rfl rfl rfl rfl rfl rfl rfl rfl rfl ?_
  refine Ja rfl rfl rfl (Jc (v := .int .i64 t8) rfl) ?_
  refine Jg ?_
  refine Ju ?_
  obtain rfl := Option.some.inj H12
  refine retCt (i := 1) (vs := [.int .i64 0, .int .i64 0]) (v2 := .int .i64 t8) Try.isAgg103 Try.sizeOf103 rfl rfl rfl rfl rfl (Yn rfl)
 ·have H13 := Jq hb H11; clear H11
  refine Jt ?_
  refine Jf ?_
  exact Xf (Kd.p :: Kd.d [0] _ :: Kd.p :: Kd.d [0] _ :: Kd.p :: Kd.p :: []) 0 mixed (by
   refine Jn rfl rfl (Jk Try.runUnderlying103 rfl Try.sizeOf3 rfl rfl) ?_
   refine Yh (i := 0) (v := .int .i64 a0.Num) Try.isAgg3 rfl rfl rfl rfl ?_
   refine Jn rfl rfl (Jk Try.runUnderlying103 rfl Try.sizeOf3 rfl rfl) ?_
   refine Yh (i := 0) (v := .int .i64 a0.Den) Try.isAgg3 rfl rfl rfl rfl ?_
   refine Jn rfl rfl (Jc (v := .int .i64 a0.Num) rfl) ?_
   refine Jn rfl rfl (Jc (v := .int .i64 a0.Den) rfl) ?_
   refine V1 ?_
   refine Xq (r := r) (σ := Int) (τ := Unit) (fun s => tag_Lowest_j1 a0 s) (fun s t => [(1, .pointer (some ⟨b2, 0, none⟩)), (2, .pointer (some ⟨b3, 0, none⟩)), (5, .int .i64 s)]) (fun s t => [Jl b2 [.int .i64 a0.Num, .int .i64 a0.Den] 103, Jl b3 [.int .i64 0, .int .i64 0] 103]) (fun s t => True) ?_ ?_
   ·refine J4 ?_
    refine V2 (σ := Int × Int) (τ := Unit) (fun next2 s => Yb a0 next2 s.1 s.2) (fun s t => [(1, .pointer (some ⟨b2, 0, none⟩)), (2, .pointer (some ⟨b3, 0, none⟩)), (5, .int .i64 s.1), (6, .int .i64 s.2)]) (fun s t => [Jl b2 [.int .i64 a0.Num, .int .i64 a0.Den] 103, Jl b3 [.int .i64 0, .int .i64 0] 103]) (fun s t => True) (a0.Num, a0.Den) () [0, 1] H13 (by exact trivial) (by exact ⟨rfl, rfl, rfl, rfl, trivial⟩) (by decide) rfl ?_
    rintro ⟨x5_3, x6_2⟩ _ m2 gg H17 _
    clear H13
    replace H17 : Yb a0 (it (fun next2 s => Yb a0 next2 s.1 s.2) m2) x5_3 x6_2 = some r := H17
    generalize hn2 : it (fun next2 s => Yb a0 next2 s.1 s.2) m2 = next2 at H17
    try dsimp only
    refine Jf ?_
    refine Jf ?_
    refine Jb ?_
    refine Ja rfl rfl rfl (Jd (v := .int .i64 x6_2) rfl) ?_
    refine Ja rfl rfl rfl (Zr rfl rfl) ?_
    refine Jg ?_
    refine Qf (b := (decide (x6_2 ≠ 0))) rfl (fun hb => ?_) (fun hb => ?_)
    ·have H18 := Jr hb H17; clear H17
     refine Jt ?_
     refine J4 ?_
     exact Xf (Kd.p :: Kd.p :: Kd.p :: Kd.p :: Kd.p :: Kd.p :: []) 0 mixed (by
      refine Jn rfl rfl (Jd (v := .int .i64 x6_2) rfl) ?_
      refine Jn rfl rfl (Jd (v := .int .i64 x5_3) rfl) ?_
      refine Jn rfl rfl (Jd (v := .int .i64 x6_2) rfl) ?_
      have h_t22 := Qi H18
      have H19 := J6 H18
      refine Jn rfl rfl (r_remG rfl rfl h_t22) ?_
      refine Jn rfl rfl (Jc (v := .int .i64 x6_2) rfl) ?_
      refine Jn rfl rfl (Jc (v := .int .i64 (val (gRem x5_3 x6_2))) rfl) ?_
      refine V1 ?_
      refine Jp (x6_2, (val (gRem x5_3 x6_2))) () m2 [0, 1] (by exact ⟨rfl, rfl, rfl, rfl, trivial⟩) (by decide) (by kernel_rfl) (by exact ⟨(by subst hn2; exact H19), trivial⟩) (Nat.lt_succ_self _)
      ) (by kernel_rfl)
    ·have H20 := Jq hb H17; clear H17
     refine Yk ?_
     refine Jp x5_3 () 0 [0, 1] (by exact ⟨rfl, rfl, rfl, trivial⟩) (by decide) (by kernel_rfl) (by exact ⟨H20, trivial⟩) (Nat.lt_succ_self _)
   ·rintro x5 _ gg H14 _
    replace H14 : tag_Lowest_j1 a0 x5 = some r := H14
    try dsimp only
    refine Jf ?_
    exact Xf (Kd.p :: Kd.d [0] _ :: Kd.p :: Kd.p :: Kd.p :: Kd.d [0] _ :: Kd.p :: Kd.p :: Kd.p :: Kd.st 2 1 [_, _] 103 :: Kd.p :: []) 0 mixed (by
     refine Jn rfl rfl (Jk Try.runUnderlying103 rfl Try.sizeOf3 rfl rfl) ?_
     refine Yh (i := 0) (v := .int .i64 a0.Num) Try.isAgg3 rfl rfl rfl rfl ?_
     refine Jn rfl rfl (Jd (v := .int .i64 x5) rfl) ?_
     have h_t26 := Qi H14
     have H15 := J6 H14
     refine Jn rfl rfl (r_quoG rfl rfl h_t26) ?_
     refine Jn rfl rfl (Jk Try.runUnderlying103 rfl Try.sizeOf3 rfl rfl) ?_
     refine Yh (i := 0) (v := .int .i64 a0.Den) Try.isAgg3 rfl rfl rfl rfl ?_
     refine Jn rfl rfl (Jd (v := .int .i64 x5) rfl) ?_
     have h_t30 := Qi H15
     have H16 := J6 H15
     refine Jn rfl rfl (r_quoG rfl rfl h_t30) ?_
     refine Jn rfl rfl (Y5 (pl := #[(0, 1), (1, 1)]) (ps := [(0, .int .i64 (val (gQuo a0.Num x5))), (1, .int .i64 (val (gQuo a0.Den x5)))]) (cells := #[.int .i64 (val (gQuo a0.Num x5)), .int .i64 (val (gQuo a0.Den x5))]) Try.zeroValue103 Try.runUnderlying103 (fun w => by kernel_rfl) rfl rfl) ?_
     refine d_store (i := 1) (vs := [.int .i64 (val (gQuo a0.Num x5)), .int .i64 (val (gQuo a0.Den x5))]) (cs' := [.int .i64 (val (gQuo a0.Num x5)), .int .i64 (val (gQuo a0.Den x5))]) Try.sizeOf103 rfl rfl rfl rfl rfl rfl rfl rfl rfl ?_
     refine Jn rfl rfl (Jc (v := .int .i64 0) rfl) ?_
     refine V1 ?_
     refine Ju ?_
     obtain rfl := Option.some.inj H16
     refine retCt (i := 1) (vs := [.int .i64 (val (gQuo a0.Num x5)), .int .i64 (val (gQuo a0.Den x5))]) (v2 := .int .i64 0) Try.isAgg103 Try.sizeOf103 rfl rfl rfl rfl rfl (Yn rfl)
     ) (by kernel_rfl)
   ) (by kernel_rfl)
theorem k23 {r : Bool} (H : U1 = some r) : Ret Try.prog 23 [] (.bool r) := by
 refine Z5 (n := 15) Try.func23 rfl rfl rfl (fun wd => ?_)
 refine Jf ?_
 refine Jb ?_
 refine Ja rfl rfl rfl (Jc (v := .bool false) rfl) ?_
 refine Jg ?_
 refine Jf ?_
 refine Jb ?_
 refine Ja rfl rfl rfl (Y5 (pl := #[(0, 1), (1, 1)]) (ps := [(0, .int .i64 2), (1, .int .i64 4)]) (cells := #[.int .i64 2, .int .i64 4]) Try.zeroValue103 Try.runUnderlying103 (fun w => by kernel_rfl) rfl rfl) ?_
 obtain ⟨t5, h_t5, H4⟩ := Jh H; clear H
 refine Zu (k69 h_t5) Try.call69 rfl rfl rfl ?_
 refine Ja rfl rfl rfl (Jd (v := .tuple #[.agg #[.int .i64 t5.1.Num, .int .i64 t5.1.Den], .int .i64 t5.2]) rfl) ?_
 refine Ja rfl rfl rfl (Qh (v := .agg #[.int .i64 t5.1.Num, .int .i64 t5.1.Den]) rfl rfl) ?_
 refine Ja rfl rfl rfl (Qh (v := .int .i64 t5.2) rfl rfl) ?_
 refine Zc (cs := [.int .i64 0, .int .i64 0]) Try.zeroValue103 rfl rfl rfl (fun b1 => ?_)
 refine Qy (i := 0) (vs := [.int .i64 t5.1.Num, .int .i64 t5.1.Den]) (cs' := [.int .i64 t5.1.Num, .int .i64 t5.1.Den]) Try.sizeOf103 rfl rfl rfl rfl rfl rfl rfl rfl rfl ?_
 refine Ja rfl rfl rfl (Jc (v := .int .i64 t5.2) rfl) ?_
 refine Jg ?_
 refine Jf ?_
 refine Jb ?_
 refine Ja rfl rfl rfl (Jd (v := .int .i64 t5.2) rfl) ?_
 refine Ja rfl rfl rfl (Xl rfl rfl) ?_
 refine Ja rfl rfl rfl (Jd (v := .bool (decide (t5.2 = 0))) rfl) ?_
 refine split (fun hb => ?_) (fun hb => ?_)
 ·have H5 := Jr hb H4; clear H4
  refine Zd (i := 0) (vs := [.int .i64 t5.1.Num, .int .i64 t5.1.Den]) Try.isAgg103 Try.sizeOf103 rfl rfl rfl rfl rfl ?_
  refine Ja rfl rfl rfl (Y5 (pl := #[(0, 1), (1, 1)]) (ps := [(0, .int .i64 1), (1, .int .i64 2)]) (cells := #[.int .i64 1, .int .i64 2]) Try.zeroValue103 Try.runUnderlying103 (fun w => by kernel_rfl) rfl rfl) ?_
  refine Ja rfl rfl rfl (r_eqlA (xs := #[.int .i64 t5.1.Num, .int .i64 t5.1.Den]) (ys := #[.int .i64 1, .int .i64 2]) Try.eqGuardType103 (fun w => run_eq_tag_Ratio w t5.1 (⟨1, 2⟩ : T_tag_Ratio)) rfl rfl) ?_
  refine Ja rfl rfl rfl (J7 (v := .bool (Ui t5.1 (⟨1, 2⟩ : T_tag_Ratio))) rfl rfl) ?_
  refine Ja rfl rfl rfl (Jc (v := .bool (Ui t5.1 (⟨1, 2⟩ : T_tag_Ratio))) rfl) ?_
  refine Jg ?_
  refine Ju ?_
  obtain rfl := Option.some.inj H5
  refine Qq (v := .bool (Ui t5.1 (⟨1, 2⟩ : T_tag_Ratio))) rfl rfl (Yn rfl)
 ·have H6 := Jq hb H4; clear H4
  refine Ji rfl rfl rfl ?_
  refine Ji rfl rfl rfl ?_
  refine Ji rfl rfl rfl ?_
  refine Ja rfl rfl rfl (Qk (v := .bool false) rfl rfl) ?_
  refine Ja rfl rfl rfl (Jc (v := .bool false) rfl) ?_
  refine Jg ?_
  refine Ju ?_
  obtain rfl := Option.some.inj H6
  refine Qq (v := .bool false) rfl rfl (Yn rfl)
theorem k80 {a0 : Int} {r : Bool} (H : tag_isKind a0 = some r) : Ret Try.prog 80 [.int .i64 a0] (.bool r) := by
 refine Z5 (n := 14) Try.func80 rfl rfl rfl (fun wd => ?_)
 refine Jf ?_
 refine Jb ?_
 refine Ja rfl rfl rfl (Jc (v := .bool false) rfl) ?_
 refine Jg ?_
 refine Jf ?_
 refine Jb ?_
 refine Ja rfl rfl rfl (Jd (v := .int .i64 a0) rfl) ?_
 obtain ⟨t4, h_t4, H6⟩ := Jh H; clear H
 refine Zu (k97 h_t4) Try.call97 rfl rfl rfl ?_
 refine Ja rfl rfl rfl (r_not rfl) ?_
 refine Ja rfl rfl rfl (Jd (v := .bool (!t4)) rfl) ?_
 refine split (fun hb => ?_) (fun hb => ?_)
 ·have H7 := Jr hb H6; clear H6
  refine Ja rfl rfl rfl (Jd (v := .int .i64 a0) rfl) ?_
  refine Ja rfl rfl rfl (Zr rfl rfl) ?_
  refine Ja rfl rfl rfl (J7 (v := .bool (decide (a0 ≠ 216))) rfl rfl) ?_
  refine Ja rfl rfl rfl (Jd (v := .bool (decide (a0 ≠ 216))) rfl) ?_
  refine split (fun hb => ?_) (fun hb => ?_)
  ·have H8 := Jr hb H7; clear H7
   refine Ja rfl rfl rfl (Jd (v := .int .i64 a0) rfl) ?_
   refine Ja rfl rfl rfl (Zr rfl rfl) ?_
   refine Ja rfl rfl rfl (J7 (v := .bool (decide (a0 ≠ 217))) rfl rfl) ?_
   refine Ja rfl rfl rfl (Jc (v := .bool (decide (a0 ≠ 217))) rfl) ?_
   refine Jg ?_
   refine Ju ?_
   obtain rfl := Option.some.inj H8
   refine Qq (v := .bool (decide (a0 ≠ 217))) rfl rfl (Yn rfl)
  ·have H9 := Jq hb H7; clear H7
   refine Ji rfl rfl rfl ?_
   refine Ji rfl rfl rfl ?_
   refine Ja rfl rfl rfl (Qk (v := .bool false) rfl rfl) ?_
   refine Ja rfl rfl rfl (Jc (v := .bool false) rfl) ?_
   refine Jg ?_
   refine Ju ?_
   obtain rfl := Option.some.inj H9
   refine Qq (v := .bool false) rfl rfl (Yn rfl)
 ·have H10 := Jq hb H6; clear H6
  refine Ji rfl rfl rfl ?_
  refine Ji rfl rfl rfl ?_
  refine Ja rfl rfl rfl (Qk (v := .bool false) rfl rfl) ?_
  refine Ja rfl rfl rfl (Jd (v := .bool false) rfl) ?_
  refine Ji rfl rfl rfl ?_
  refine Ji rfl rfl rfl ?_
  refine Ja rfl rfl rfl (Qk (v := .bool false) rfl rfl) ?_
  refine Ja rfl rfl rfl (Jc (v := .bool false) rfl) ?_
  refine Jg ?_
  refine Ju ?_
  obtain rfl := Option.some.inj H10
  refine Qq (v := .bool false) rfl rfl (Yn rfl)
theorem k81 {a : Option Addr} {n c : Nat} (hc : n ≤ c) : Ret Try.prog 81 [.slice a n c] (.slice (Z1 a 0 n 2) n n) := by
  refine Z5 (n := 9) Try.func81 rfl rfl rfl (fun wd => ?_)
  refine Jf ?_
  refine Jb ?_
  refine Ja rfl rfl rfl (Jc (v := .slice none 0 0) rfl) ?_
  refine Jg ?_
  refine Jf ?_
  refine Jb ?_
  refine Ja rfl rfl rfl (Jd (v := .slice a n c) rfl) ?_
  refine Ja rfl rfl rfl (Jd (v := .slice a n c) rfl) ?_
  refine Ja rfl rfl rfl (r_len Try.underlying69 rfl) ?_
  refine Ja rfl rfl rfl (Jd (v := .slice a n c) rfl) ?_
  refine Ja rfl rfl rfl (r_len Try.underlying69 rfl) ?_
  refine Ja rfl rfl rfl (r_sliceHM (a := a) (m := n) (c := c) (h := (n : Int)) (q := (n : Int)) Try.underlying69 Try.sizeOf74 rfl rfl rfl (Int.natCast_nonneg n) (Int.le_refl _) (Int.ofNat_le.2 hc)) ?_
  refine Ja rfl rfl rfl (Jc (v := .slice (Z1 a 0 n 2) n n) rfl) ?_
  refine Jg ?_
  refine Ju ?_
  exact Qq (v := .slice (Z1 a 0 n 2) n n) rfl rfl (Yn rfl)
theorem k33 {a0 : (List UInt8)} {r : (List T_tag_Segment) × Int} {w : World} {h : J3} (hw : Know h w Wf) (H : Yi a0 = some r) : Does Try.prog 33 (List.toArray [str a0]) w (fun v w' => ∃ x : (Option Addr × Nat), v = (.tuple #[.slice x.1 r.1.length x.2, .int .i64 r.2]) ∧ Turn w w' Wf (rofD true 74 2 g_tag_Segment (.slice x.1 r.1.length x.2) r.1.length r.1)) := by
 refine enter (n := 98) Try.func33 rfl rfl rfl Wf [] (Sat.nil _ _) ?_
 refine Z2 Yg ?_
 refine Jf ?_
 refine Jb ?_
 refine Ja rfl rfl rfl (Jc (v := .slice none 0 0) rfl) ?_
 refine Ja rfl rfl rfl (Jc (v := .int .i64 0) rfl) ?_
 refine Jg ?_
 refine Jf ?_
 refine Jf ?_
 refine Jb ?_
 refine Ja rfl rfl rfl (Jd (v := str a0) rfl) ?_
 refine Ja rfl rfl rfl (Vj Try.underlying9 rfl) ?_
 refine Ja rfl rfl rfl (Wj rfl rfl) ?_
 refine Jg ?_
 refine Qf (b := (decide (200000 < (a0.length : Int)))) rfl (fun hb => ?_) (fun hb => ?_)
 ·have H105 := Jr hb H; clear H
  refine Jf ?_
  refine Jb ?_
  refine Ja rfl rfl rfl (Jc (v := .slice none 0 0) rfl) ?_
  refine Ja rfl rfl rfl (Jc (v := .int .i64 4) rfl) ?_
  refine Jg ?_
  refine Ju ?_
  refine Qb 74 2 ?_
  obtain rfl := Option.some.inj H105
  refine Xv 1 rfl (Z7 _ _ _ _ _) ?_
  refine Jv 0 1 rfl rfl (by decide) ?_
  refine Xv 0 rfl (Vy (k := true) (p := ((none, 0) : Option Addr × Nat)) rfl (fun _ => rfl) (AllC.nil (G := g_tag_Segment) (h := Yg) (sz := 2))) ?_
  refine W8 (v1 := .slice ((none, 0) : Option Addr × Nat).1 (([] : List (List Value)).length) ((none, 0) : Option Addr × Nat).2) (v2 := .int .i64 4) rfl rfl rfl (Vl ((none, 0) : Option Addr × Nat) (i := 0) rfl (by first | rfl | rw [(show (([] : List (List Value)).length) = ([] : List T_tag_Segment).length from (AllC.nil (G := g_tag_Segment) (h := Yg) (sz := 2)).len)]) (by first | exact Imp.refl _ | exact Imp.of (by rw [(show (([] : List (List Value)).length) = ([] : List T_tag_Segment).length from (AllC.nil (G := g_tag_Segment) (h := Yg) (sz := 2)).len)] <;> rfl)))
 ·have H106 := Jq hb H; clear H
  refine Jt ?_
  refine Jf ?_
  refine Jf ?_
  refine Jb ?_
  refine Ja rfl rfl rfl (Jd (v := str a0) rfl) ?_
  refine Ja rfl rfl rfl (Vj Try.underlying9 rfl) ?_
  refine Ja rfl rfl rfl (Z0 rfl rfl) ?_
  refine Ja rfl rfl rfl (Jd (v := .bool (decide ((a0.length : Int) < 2))) rfl) ?_
  refine split (fun hb => ?_) (fun hb => ?_)
  ·have H107 := Jr hb H106; clear H106
   refine Ji rfl rfl rfl ?_
   refine Ji rfl rfl rfl ?_
   refine Ji rfl rfl rfl ?_
   refine Ja rfl rfl rfl (J7 (v := .bool true) rfl rfl) ?_
   refine Jg ?_
   refine Wo rfl ?_
   refine Jf ?_
   refine Jb ?_
   refine Ja rfl rfl rfl (Jc (v := .slice none 0 0) rfl) ?_
   refine Ja rfl rfl rfl (Jc (v := .int .i64 8) rfl) ?_
   refine Jg ?_
   refine Ju ?_
   refine Qb 74 2 ?_
   obtain rfl := Option.some.inj H107
   refine Xv 1 rfl (Z7 _ _ _ _ _) ?_
   refine Jv 0 1 rfl rfl (by decide) ?_
   refine Xv 0 rfl (Vy (k := true) (p := ((none, 0) : Option Addr × Nat)) rfl (fun _ => rfl) (AllC.nil (G := g_tag_Segment) (h := Yg) (sz := 2))) ?_
   refine W8 (v1 := .slice ((none, 0) : Option Addr × Nat).1 (([] : List (List Value)).length) ((none, 0) : Option Addr × Nat).2) (v2 := .int .i64 8) rfl rfl rfl (Vl ((none, 0) : Option Addr × Nat) (i := 0) rfl (by first | rfl | rw [(show (([] : List (List Value)).length) = ([] : List T_tag_Segment).length from (AllC.nil (G := g_tag_Segment) (h := Yg) (sz := 2)).len)]) (by first | exact Imp.refl _ | exact Imp.of (by rw [(show (([] : List (List Value)).length) = ([] : List T_tag_Segment).length from (AllC.nil (G := g_tag_Segment) (h := Yg) (sz := 2)).len)] <;> rfl)))
  ·have H108 := Jq hb H106; clear H106
   refine Ja rfl rfl rfl (Jd (v := str a0) rfl) ?_
   obtain ⟨t15, h_t15, H109⟩ := Jh H108; clear H108
   refine Ja rfl rfl rfl (r_cutToG Try.underlying9 rfl rfl h_t15) ?_
   refine Ja rfl rfl rfl (r_neqT rfl rfl) ?_
   refine Ja rfl rfl rfl (Qk (v := .bool (decide (t15 ≠ [255, 216]))) rfl rfl) ?_
   refine Jg ?_
   refine Qf (b := (decide (t15 ≠ [255, 216]))) rfl (fun hb => ?_) (fun hb => ?_)
   ·have H110 := Jr hb H109; clear H109
    refine Jf ?_
    refine Jb ?_
    refine Ja rfl rfl rfl (Jc (v := .slice none 0 0) rfl) ?_
    refine Ja rfl rfl rfl (Jc (v := .int .i64 8) rfl) ?_
    refine Jg ?_
    refine Ju ?_
    refine Qb 74 2 ?_
    obtain rfl := Option.some.inj H110
    refine Xv 1 rfl (Z7 _ _ _ _ _) ?_
    refine Jv 0 1 rfl rfl (by decide) ?_
    refine Xv 0 rfl (Vy (k := true) (p := ((none, 0) : Option Addr × Nat)) rfl (fun _ => rfl) (AllC.nil (G := g_tag_Segment) (h := Yg) (sz := 2))) ?_
    refine W8 (v1 := .slice ((none, 0) : Option Addr × Nat).1 (([] : List (List Value)).length) ((none, 0) : Option Addr × Nat).2) (v2 := .int .i64 8) rfl rfl rfl (Vl ((none, 0) : Option Addr × Nat) (i := 0) rfl (by first | rfl | rw [(show (([] : List (List Value)).length) = ([] : List T_tag_Segment).length from (AllC.nil (G := g_tag_Segment) (h := Yg) (sz := 2)).len)]) (by first | exact Imp.refl _ | exact Imp.of (by rw [(show (([] : List (List Value)).length) = ([] : List T_tag_Segment).length from (AllC.nil (G := g_tag_Segment) (h := Yg) (sz := 2)).len)] <;> rfl)))
   ·have H111 := Jq hb H109; clear H109
    refine Jt ?_
    refine Jf ?_
    refine Jb ?_
    refine Ja rfl rfl rfl (Jc (v := .slice none 0 0) rfl) ?_
    refine Jg ?_
    refine Xq (r := r) (σ := (List UInt8) × (List T_tag_Segment)) (τ := (List (List Value)) × (Option Addr × Nat)) (fun s => W7 s.1 s.2) (fun s t => [(0, str s.1), (4, .slice t.2.1 t.1.length t.2.2)]) (fun s t => [Yu Yg Yg, Jz 74 2 (.slice t.2.1 t.1.length t.2.2) t.1.length (t.1.map idC)]) (fun s t => AllC g_tag_Segment Yg 2 t.1 s.2) ?_ ?_
    ·refine Jf ?_
     refine Jb ?_
     refine Ja rfl rfl rfl (Jd (v := str a0) rfl) ?_
     obtain ⟨t19, h_t19, H124⟩ := Jh H111; clear H111
     refine Ja rfl rfl rfl (r_cutFromG Try.underlying9 rfl rfl h_t19) ?_
     refine Ja rfl rfl rfl (Jc (v := str t19) rfl) ?_
     refine Jg ?_
     refine J4 ?_
     refine Qb 74 2 ?_
     refine V2 (σ := (List UInt8) × (List T_tag_Segment)) (τ := (List (List Value)) × (Option Addr × Nat)) (fun next2 s => Qe next2 s.1 s.2) (fun s t => [(0, str s.1), (4, .slice t.2.1 t.1.length t.2.2)]) (fun s t => [Yu Yg Yg, Jz 74 2 (.slice t.2.1 t.1.length t.2.2) t.1.length (t.1.map idC)]) (fun s t => AllC g_tag_Segment Yg 2 t.1 s.2) (t19, ([] : List T_tag_Segment)) (([] : List (List Value)), ((none, 0) : Option Addr × Nat)) [0, 1] H124 (by exact (AllC.nil (G := g_tag_Segment) (h := Yg) (sz := 2))) (by exact ⟨rfl, rfl, trivial⟩) (by decide) rfl ?_
     rintro ⟨x0_3, l_3⟩ ⟨css_2, p_3⟩ m2 gg H125 pf_4
     clear H124
     replace H125 : Qe (it (fun next2 s => Qe next2 s.1 s.2) m2) x0_3 l_3 = some r := H125
     generalize hn2 : it (fun next2 s => Qe next2 s.1 s.2) m2 = next2 at H125
     try dsimp only
     refine J4 ?_
     refine Jf ?_
     refine Jf ?_
     refine Jb ?_
     refine Ja rfl rfl rfl (Jd (v := str x0_3) rfl) ?_
     refine Ja rfl rfl rfl (Vj Try.underlying9 rfl) ?_
     refine Ja rfl rfl rfl (Z0 rfl rfl) ?_
     refine Ja rfl rfl rfl (Jd (v := .bool (decide ((x0_3.length : Int) < 2))) rfl) ?_
     refine split (fun hb => ?_) (fun hb => ?_)
     ·have H126 := Jr hb H125; clear H125
      refine Ji rfl rfl rfl ?_
      refine Ji rfl rfl rfl ?_
      refine Ji rfl rfl rfl ?_
      refine Ja rfl rfl rfl (J7 (v := .bool true) rfl rfl) ?_
      refine Ja rfl rfl rfl (Jd (v := .bool true) rfl) ?_
      refine Ji rfl rfl rfl ?_
      refine Ji rfl rfl rfl ?_
      refine Ji rfl rfl rfl ?_
      refine Ji rfl rfl rfl ?_
      refine Ji rfl rfl rfl ?_
      refine Ja rfl rfl rfl (J7 (v := .bool true) rfl rfl) ?_
      refine Jg ?_
      refine Wo rfl ?_
      refine Jf ?_
      refine Jb ?_
      refine Ja rfl rfl rfl (Jc (v := .slice none 0 0) rfl) ?_
      refine Ja rfl rfl rfl (Jc (v := .int .i64 8) rfl) ?_
      refine Jg ?_
      refine Ju ?_
      refine Qb 74 2 ?_
      obtain rfl := Option.some.inj H126
      refine Xv 2 rfl (Z7 _ _ _ _ _) ?_
      refine Jv 0 2 rfl rfl (by decide) ?_
      refine Xv 0 rfl (Vy (k := true) (p := ((none, 0) : Option Addr × Nat)) rfl (fun _ => rfl) (AllC.nil (G := g_tag_Segment) (h := Yg) (sz := 2))) ?_
      refine W8 (v1 := .slice ((none, 0) : Option Addr × Nat).1 (([] : List (List Value)).length) ((none, 0) : Option Addr × Nat).2) (v2 := .int .i64 8) rfl rfl rfl (Vl ((none, 0) : Option Addr × Nat) (i := 0) rfl (by first | rfl | rw [(show (([] : List (List Value)).length) = ([] : List T_tag_Segment).length from (AllC.nil (G := g_tag_Segment) (h := Yg) (sz := 2)).len)]) (by first | exact Imp.refl _ | exact Imp.of (by rw [(show (([] : List (List Value)).length) = ([] : List T_tag_Segment).length from (AllC.nil (G := g_tag_Segment) (h := Yg) (sz := 2)).len)] <;> rfl)))
     ·have H127 := Jq hb H125; clear H125
      refine Ja rfl rfl rfl (Jd (v := str x0_3) rfl) ?_
      obtain ⟨t25, h_t25, H128⟩ := Jh H127; clear H127
      refine Ja rfl rfl rfl (r_octG Try.underlying9 rfl rfl h_t25) ?_
      refine Ja rfl rfl rfl (Zr rfl rfl) ?_
      refine Ja rfl rfl rfl (Qk (v := .bool (decide (t25 ≠ 255))) rfl rfl) ?_
      refine Ja rfl rfl rfl (Jd (v := .bool (decide (t25 ≠ 255))) rfl) ?_
      refine split (fun hb => ?_) (fun hb => ?_)
      ·have H129 := Jr hb H128; clear H128
       refine Ji rfl rfl rfl ?_
       refine Ji rfl rfl rfl ?_
       refine Ji rfl rfl rfl ?_
       refine Ji rfl rfl rfl ?_
       refine Ji rfl rfl rfl ?_
       refine Ja rfl rfl rfl (J7 (v := .bool true) rfl rfl) ?_
       refine Jg ?_
       refine Wo rfl ?_
       refine Jf ?_
       refine Jb ?_
       refine Ja rfl rfl rfl (Jc (v := .slice none 0 0) rfl) ?_
       refine Ja rfl rfl rfl (Jc (v := .int .i64 8) rfl) ?_
       refine Jg ?_
       refine Ju ?_
       refine Qb 74 2 ?_
       obtain rfl := Option.some.inj H129
       refine Xv 2 rfl (Z7 _ _ _ _ _) ?_
       refine Jv 0 2 rfl rfl (by decide) ?_
       refine Xv 0 rfl (Vy (k := true) (p := ((none, 0) : Option Addr × Nat)) rfl (fun _ => rfl) (AllC.nil (G := g_tag_Segment) (h := Yg) (sz := 2))) ?_
       refine W8 (v1 := .slice ((none, 0) : Option Addr × Nat).1 (([] : List (List Value)).length) ((none, 0) : Option Addr × Nat).2) (v2 := .int .i64 8) rfl rfl rfl (Vl ((none, 0) : Option Addr × Nat) (i := 0) rfl (by first | rfl | rw [(show (([] : List (List Value)).length) = ([] : List T_tag_Segment).length from (AllC.nil (G := g_tag_Segment) (h := Yg) (sz := 2)).len)]) (by first | exact Imp.refl _ | exact Imp.of (by rw [(show (([] : List (List Value)).length) = ([] : List T_tag_Segment).length from (AllC.nil (G := g_tag_Segment) (h := Yg) (sz := 2)).len)] <;> rfl)))
      ·have H130 := Jq hb H128; clear H128
       refine Ja rfl rfl rfl (Jd (v := str x0_3) rfl) ?_
       obtain ⟨t30, h_t30, H131⟩ := Jh H130; clear H130
       refine Ja rfl rfl rfl (r_octG Try.underlying9 rfl rfl h_t30) ?_
       obtain ⟨t31, h_t31, H132⟩ := Jh H131; clear H131
       refine Ja rfl rfl rfl (r_convG Try.runUnderlying5 Try.runUnderlying3 rfl (gK_i64 h_t31)) ?_
       obtain ⟨t32, h_t32, H133⟩ := Jh H132; clear H132
       refine Zu (k80 h_t32) Try.call80 rfl rfl rfl ?_
       refine Ja rfl rfl rfl (r_not rfl) ?_
       refine Ja rfl rfl rfl (Qk (v := .bool (!t32)) rfl rfl) ?_
       refine Jg ?_
       refine Qf (b := (!t32)) rfl (fun hb => ?_) (fun hb => ?_)
       ·have H134 := Jr hb H133; clear H133
        refine Jf ?_
        refine Jb ?_
        refine Ja rfl rfl rfl (Jc (v := .slice none 0 0) rfl) ?_
        refine Ja rfl rfl rfl (Jc (v := .int .i64 8) rfl) ?_
        refine Jg ?_
        refine Ju ?_
        refine Qb 74 2 ?_
        obtain rfl := Option.some.inj H134
        refine Xv 2 rfl (Z7 _ _ _ _ _) ?_
        refine Jv 0 2 rfl rfl (by decide) ?_
        refine Xv 0 rfl (Vy (k := true) (p := ((none, 0) : Option Addr × Nat)) rfl (fun _ => rfl) (AllC.nil (G := g_tag_Segment) (h := Yg) (sz := 2))) ?_
        refine W8 (v1 := .slice ((none, 0) : Option Addr × Nat).1 (([] : List (List Value)).length) ((none, 0) : Option Addr × Nat).2) (v2 := .int .i64 8) rfl rfl rfl (Vl ((none, 0) : Option Addr × Nat) (i := 0) rfl (by first | rfl | rw [(show (([] : List (List Value)).length) = ([] : List T_tag_Segment).length from (AllC.nil (G := g_tag_Segment) (h := Yg) (sz := 2)).len)]) (by first | exact Imp.refl _ | exact Imp.of (by rw [(show (([] : List (List Value)).length) = ([] : List T_tag_Segment).length from (AllC.nil (G := g_tag_Segment) (h := Yg) (sz := 2)).len)] <;> rfl)))
       ·have H135 := Jq hb H133; clear H133
        refine Jt ?_
        refine Jf ?_
        refine Jb ?_
        refine Ja rfl rfl rfl (Jd (v := str x0_3) rfl) ?_
        obtain ⟨t36, h_t36, H136⟩ := Jh H135; clear H135
        refine Ja rfl rfl rfl (r_octG Try.underlying9 rfl rfl h_t36) ?_
        obtain ⟨t37, h_t37, H137⟩ := Jh H136; clear H136
        refine Ja rfl rfl rfl (r_convG Try.runUnderlying5 Try.runUnderlying3 rfl (gK_i64 h_t37)) ?_
        refine Ja rfl rfl rfl (Jc (v := .int .i64 t37) rfl) ?_
        refine Jg ?_
        refine Jf ?_
        refine Jf ?_
        refine Jb ?_
        refine Ja rfl rfl rfl (Jd (v := .int .i64 t37) rfl) ?_
        refine Ja rfl rfl rfl (Xl rfl rfl) ?_
        refine Jg ?_
        refine Qf (b := (decide (t37 = 218))) rfl (fun hb => ?_) (fun hb => ?_)
        ·have H138 := Jr hb H137; clear H137
         refine Yk ?_
         refine Jp (x0_3, l_3) (css_2, p_3) 0 [0, 1] (by exact ⟨rfl, rfl, trivial⟩) (by decide) (by kernel_rfl) (by exact ⟨H138, pf_4⟩) (Nat.lt_succ_self _)
        ·have H139 := Jq hb H137; clear H137
         refine Jt ?_
         refine Jf ?_
         refine Jf ?_
         refine Jb ?_
         refine Ja rfl rfl rfl (Jd (v := str x0_3) rfl) ?_
         refine Ja rfl rfl rfl (Vj Try.underlying9 rfl) ?_
         refine Ja rfl rfl rfl (Z0 rfl rfl) ?_
         refine Jg ?_
         refine Qf (b := (decide ((x0_3.length : Int) < 4))) rfl (fun hb => ?_) (fun hb => ?_)
         ·have H140 := Jr hb H139; clear H139
          refine Jf ?_
          refine Jb ?_
          refine Ja rfl rfl rfl (Jc (v := .slice none 0 0) rfl) ?_
          refine Ja rfl rfl rfl (Jc (v := .int .i64 8) rfl) ?_
          refine Jg ?_
          refine Ju ?_
          refine Qb 74 2 ?_
          obtain rfl := Option.some.inj H140
          refine Xv 2 rfl (Z7 _ _ _ _ _) ?_
          refine Jv 0 2 rfl rfl (by decide) ?_
          refine Xv 0 rfl (Vy (k := true) (p := ((none, 0) : Option Addr × Nat)) rfl (fun _ => rfl) (AllC.nil (G := g_tag_Segment) (h := Yg) (sz := 2))) ?_
          refine W8 (v1 := .slice ((none, 0) : Option Addr × Nat).1 (([] : List (List Value)).length) ((none, 0) : Option Addr × Nat).2) (v2 := .int .i64 8) rfl rfl rfl (Vl ((none, 0) : Option Addr × Nat) (i := 0) rfl (by first | rfl | rw [(show (([] : List (List Value)).length) = ([] : List T_tag_Segment).length from (AllC.nil (G := g_tag_Segment) (h := Yg) (sz := 2)).len)]) (by first | exact Imp.refl _ | exact Imp.of (by rw [(show (([] : List (List Value)).length) = ([] : List T_tag_Segment).length from (AllC.nil (G := g_tag_Segment) (h := Yg) (sz := 2)).len)] <;> rfl)))
         ·have H141 := Jq hb H139; clear H139
          refine Jt ?_
          refine Jf ?_
          exact Xf (Kd.p :: Kd.p :: Kd.p :: Kd.p :: Kd.p :: Kd.p :: Kd.p :: Kd.p :: Kd.p :: []) 0 mixed (by
           refine Jn rfl rfl (Jd (v := str x0_3) rfl) ?_
           have h_t44 := Qi H141
           have H142 := J6 H141
           refine Jn rfl rfl (r_octG Try.underlying9 rfl rfl h_t44) ?_
           have h_t45 := Qi H142
           have H143 := J6 H142
           refine Jn rfl rfl (r_convG Try.runUnderlying5 Try.runUnderlying3 rfl (gK_i64 h_t45)) ?_
           have h_t46 := Qi H143
           have H144 := J6 H143
           refine Jn rfl rfl (r_shlG rfl rfl h_t46) ?_
           refine Jn rfl rfl (Jd (v := str x0_3) rfl) ?_
           have h_t48 := Qi H144
           have H145 := J6 H144
           refine Jn rfl rfl (r_octG Try.underlying9 rfl rfl h_t48) ?_
           have h_t49 := Qi H145
           have H146 := J6 H145
           refine Jn rfl rfl (r_convG Try.runUnderlying5 Try.runUnderlying3 rfl (gK_i64 h_t49)) ?_
           refine Jn rfl rfl (r_bitsOr (bits := 64) rfl rfl rfl (wr_i64 _)) ?_
           refine Jn rfl rfl (Jc (v := .int .i64 (wI64 (bOr 64 (val (gShl (val (gK (-9223372036854775808) 9223372036854775807 (val (Wm x0_3 2)))) 8)) (val (gK (-9223372036854775808) 9223372036854775807 (val (Wm x0_3 3))))))) rfl) ?_
           refine V1 ?_
           refine Jf ?_
           refine Jf ?_
           refine Jb ?_
           refine Ja rfl rfl rfl (Jd (v := .int .i64 (wI64 (bOr 64 (val (gShl (val (gK (-9223372036854775808) 9223372036854775807 (val (Wm x0_3 2)))) 8)) (val (gK (-9223372036854775808) 9223372036854775807 (val (Wm x0_3 3))))))) rfl) ?_
           refine Ja rfl rfl rfl (Z0 rfl rfl) ?_
           refine Ja rfl rfl rfl (Jd (v := .bool (decide ((wI64 (bOr 64 (val (gShl (val (gK (-9223372036854775808) 9223372036854775807 (val (Wm x0_3 2)))) 8)) (val (gK (-9223372036854775808) 9223372036854775807 (val (Wm x0_3 3)))))) < 2))) rfl) ?_
           refine split (fun hb => ?_) (fun hb => ?_)
           ·have H147 := Jr hb H146; clear H146
            refine Ji rfl rfl rfl ?_
            refine Ji rfl rfl rfl ?_
            refine Ji rfl rfl rfl ?_
            refine Ji rfl rfl rfl ?_
            refine Ji rfl rfl rfl ?_
            refine Ja rfl rfl rfl (J7 (v := .bool true) rfl rfl) ?_
            refine Jg ?_
            refine Wo rfl ?_
            refine Jf ?_
            refine Jb ?_
            refine Ja rfl rfl rfl (Jc (v := .slice none 0 0) rfl) ?_
            refine Ja rfl rfl rfl (Jc (v := .int .i64 8) rfl) ?_
            refine Jg ?_
            refine Ju ?_
            refine Qb 74 2 ?_
            obtain rfl := Option.some.inj H147
            refine Xv 2 rfl (Z7 _ _ _ _ _) ?_
            refine Jv 0 2 rfl rfl (by decide) ?_
            refine Xv 0 rfl (Vy (k := true) (p := ((none, 0) : Option Addr × Nat)) rfl (fun _ => rfl) (AllC.nil (G := g_tag_Segment) (h := Yg) (sz := 2))) ?_
            refine W8 (v1 := .slice ((none, 0) : Option Addr × Nat).1 (([] : List (List Value)).length) ((none, 0) : Option Addr × Nat).2) (v2 := .int .i64 8) rfl rfl rfl (Vl ((none, 0) : Option Addr × Nat) (i := 0) rfl (by first | rfl | rw [(show (([] : List (List Value)).length) = ([] : List T_tag_Segment).length from (AllC.nil (G := g_tag_Segment) (h := Yg) (sz := 2)).len)]) (by first | exact Imp.refl _ | exact Imp.of (by rw [(show (([] : List (List Value)).length) = ([] : List T_tag_Segment).length from (AllC.nil (G := g_tag_Segment) (h := Yg) (sz := 2)).len)] <;> rfl)))
           ·have H148 := Jq hb H146; clear H146
            refine Ja rfl rfl rfl (Jd (v := .int .i64 (wI64 (bOr 64 (val (gShl (val (gK (-9223372036854775808) 9223372036854775807 (val (Wm x0_3 2)))) 8)) (val (gK (-9223372036854775808) 9223372036854775807 (val (Wm x0_3 3))))))) rfl) ?_
            refine Ja rfl rfl rfl (Jd (v := str x0_3) rfl) ?_
            refine Ja rfl rfl rfl (Vj Try.underlying9 rfl) ?_
            obtain ⟨t57, h_t57, H149⟩ := Jh H148; clear H148
            refine Ja rfl rfl rfl (Uq rfl rfl h_t57) ?_
            refine Ja rfl rfl rfl (Wj rfl rfl) ?_
            refine Ja rfl rfl rfl (Qk (v := .bool (decide (t57 < (wI64 (bOr 64 (val (gShl (val (gK (-9223372036854775808) 9223372036854775807 (val (Wm x0_3 2)))) 8)) (val (gK (-9223372036854775808) 9223372036854775807 (val (Wm x0_3 3))))))))) rfl rfl) ?_
            refine Jg ?_
            refine Qf (b := (decide (t57 < (wI64 (bOr 64 (val (gShl (val (gK (-9223372036854775808) 9223372036854775807 (val (Wm x0_3 2)))) 8)) (val (gK (-9223372036854775808) 9223372036854775807 (val (Wm x0_3 3))))))))) rfl (fun hb => ?_) (fun hb => ?_)
            ·have H150 := Jr hb H149; clear H149
             refine Jf ?_
             refine Jb ?_
             refine Ja rfl rfl rfl (Jc (v := .slice none 0 0) rfl) ?_
             refine Ja rfl rfl rfl (Jc (v := .int .i64 8) rfl) ?_
             refine Jg ?_
             refine Ju ?_
             refine Qb 74 2 ?_
             obtain rfl := Option.some.inj H150
             refine Xv 2 rfl (Z7 _ _ _ _ _) ?_
             refine Jv 0 2 rfl rfl (by decide) ?_
             refine Xv 0 rfl (Vy (k := true) (p := ((none, 0) : Option Addr × Nat)) rfl (fun _ => rfl) (AllC.nil (G := g_tag_Segment) (h := Yg) (sz := 2))) ?_
             refine W8 (v1 := .slice ((none, 0) : Option Addr × Nat).1 (([] : List (List Value)).length) ((none, 0) : Option Addr × Nat).2) (v2 := .int .i64 8) rfl rfl rfl (Vl ((none, 0) : Option Addr × Nat) (i := 0) rfl (by first | rfl | rw [(show (([] : List (List Value)).length) = ([] : List T_tag_Segment).length from (AllC.nil (G := g_tag_Segment) (h := Yg) (sz := 2)).len)]) (by first | exact Imp.refl _ | exact Imp.of (by rw [(show (([] : List (List Value)).length) = ([] : List T_tag_Segment).length from (AllC.nil (G := g_tag_Segment) (h := Yg) (sz := 2)).len)] <;> rfl)))
            ·have H151 := Jq hb H149; clear H149
             refine Jt ?_
             refine Jf ?_
             refine Jb ?_
             refine Ja rfl rfl rfl (Jd (v := .slice p_3.1 css_2.length p_3.2) rfl) ?_
             refine Ja rfl rfl rfl (Jd (v := .int .i64 t37) rfl) ?_
             refine Ja rfl rfl rfl (Jd (v := str x0_3) rfl) ?_
             refine Ja rfl rfl rfl (Jd (v := .int .i64 (wI64 (bOr 64 (val (gShl (val (gK (-9223372036854775808) 9223372036854775807 (val (Wm x0_3 2)))) 8)) (val (gK (-9223372036854775808) 9223372036854775807 (val (Wm x0_3 3))))))) rfl) ?_
             obtain ⟨t64, h_t64, H152⟩ := Jh H151; clear H151
             refine Ja rfl rfl rfl (Qm rfl rfl h_t64) ?_
             obtain ⟨t65, h_t65, H153⟩ := Jh H152; clear H152
             refine Ja rfl rfl rfl (r_cutTG Try.underlying9 rfl rfl rfl h_t65) ?_
             refine Ja rfl rfl rfl (Y5 (pl := #[(0, 1), (1, 1)]) (ps := [(0, .int .i64 t37), (1, str t65)]) (cells := #[.int .i64 t37, str t65]) Try.zeroValue74 Try.runUnderlying74 (fun w => by kernel_rfl) rfl rfl) ?_
             refine Qx (vs := [.agg #[.int .i64 t37, str t65]]) (cs := [.int .i64 t37, str t65]) Try.underlying69 Try.sizeOf74 Try.zeroValue74 rfl rfl rfl rfl rfl rfl rfl (fun b5 => ?_)
             obtain ⟨l68, h_l68, H154⟩ := Jh H153; clear H153
             refine Qs (U0 (i := 1) (k := 2) (p := p_3) (f := idC) (ys := css_2) (ls := [[.int .i64 t37, str t65]]) Try.underlying69 (Xe Try.typeInfo74) rfl rfl rfl rfl rfl rfl rfl rfl rfl rfl rfl rfl rfl rfl rfl (app63 (pf_4.app h_l68 (nc := [[.int .i64 t37, str t65]]) rfl)) rfl) rfl rfl rfl (fun p_4 => ?_)
             have pf_5 : AllC g_tag_Segment Yg 2 (css_2 ++ [[.int .i64 t37, str t65]]) l68 := AllC.snocG pf_4 h_l68 rfl (⟨rfl, rfl⟩)
             refine Ja rfl rfl rfl (Jc (v := .slice p_4.1 ((css_2 ++ [[.int .i64 t37, str t65]]).length) p_4.2) rfl) ?_
             refine Jg ?_
             try dsimp only [z1, z2, z5, z6, z7, z8]
             refine Jb ?_
             refine Ja rfl rfl rfl (Jd (v := str x0_3) rfl) ?_
             refine Ja rfl rfl rfl (Jd (v := .int .i64 (wI64 (bOr 64 (val (gShl (val (gK (-9223372036854775808) 9223372036854775807 (val (Wm x0_3 2)))) 8)) (val (gK (-9223372036854775808) 9223372036854775807 (val (Wm x0_3 3))))))) rfl) ?_
             obtain ⟨t71, h_t71, H155⟩ := Jh H154; clear H154
             refine Ja rfl rfl rfl (Qm rfl rfl h_t71) ?_
             obtain ⟨t72, h_t72, H156⟩ := Jh H155; clear H155
             refine Ja rfl rfl rfl (r_cutFromG Try.underlying9 rfl rfl h_t72) ?_
             refine Ja rfl rfl rfl (Jc (v := str t72) rfl) ?_
             refine Jg ?_
             try dsimp only [z1, z2, z5, z6, z7, z8]
             refine Jp (t72, l68) ((css_2 ++ [[.int .i64 t37, str t65]]), p_4) m2 [0, 1] (by exact ⟨rfl, rfl, trivial⟩) (by decide) (by kernel_rfl) (by exact ⟨(by subst hn2; exact H156), pf_5⟩) (Nat.lt_succ_self _)
           ) (by kernel_rfl)
    ·rintro ⟨x0, l⟩ ⟨css, p⟩ gg H112 pf
     replace H112 : W7 x0 l = some r := H112
     try dsimp only
     refine Jf ?_
     refine Jf ?_
     refine Jb ?_
     refine Ja rfl rfl rfl (Jd (v := str x0) rfl) ?_
     refine Ja rfl rfl rfl (Vj Try.underlying9 rfl) ?_
     refine Ja rfl rfl rfl (Z0 rfl rfl) ?_
     refine Ja rfl rfl rfl (Jd (v := .bool (decide ((x0.length : Int) < 4))) rfl) ?_
     refine split (fun hb => ?_) (fun hb => ?_)
     ·have H113 := Jr hb H112; clear H112
      refine Ji rfl rfl rfl ?_
      refine Ji rfl rfl rfl ?_
      refine Ji rfl rfl rfl ?_
      refine Ji rfl rfl rfl ?_
      refine Ji rfl rfl rfl ?_
      refine Ji rfl rfl rfl ?_
      refine Ja rfl rfl rfl (J7 (v := .bool true) rfl rfl) ?_
      refine Jg ?_
      refine Wo rfl ?_
      refine Jf ?_
      refine Jb ?_
      refine Ja rfl rfl rfl (Jc (v := .slice none 0 0) rfl) ?_
      refine Ja rfl rfl rfl (Jc (v := .int .i64 8) rfl) ?_
      refine Jg ?_
      refine Ju ?_
      refine Qb 74 2 ?_
      obtain rfl := Option.some.inj H113
      refine Xv 2 rfl (Z7 _ _ _ _ _) ?_
      refine Jv 0 2 rfl rfl (by decide) ?_
      refine Xv 0 rfl (Vy (k := true) (p := ((none, 0) : Option Addr × Nat)) rfl (fun _ => rfl) (AllC.nil (G := g_tag_Segment) (h := Yg) (sz := 2))) ?_
      refine W8 (v1 := .slice ((none, 0) : Option Addr × Nat).1 (([] : List (List Value)).length) ((none, 0) : Option Addr × Nat).2) (v2 := .int .i64 8) rfl rfl rfl (Vl ((none, 0) : Option Addr × Nat) (i := 0) rfl (by first | rfl | rw [(show (([] : List (List Value)).length) = ([] : List T_tag_Segment).length from (AllC.nil (G := g_tag_Segment) (h := Yg) (sz := 2)).len)]) (by first | exact Imp.refl _ | exact Imp.of (by rw [(show (([] : List (List Value)).length) = ([] : List T_tag_Segment).length from (AllC.nil (G := g_tag_Segment) (h := Yg) (sz := 2)).len)] <;> rfl)))
     ·have H114 := Jq hb H112; clear H112
      refine Ja rfl rfl rfl (Jd (v := str x0) rfl) ?_
      refine Ja rfl rfl rfl (Jd (v := str x0) rfl) ?_
      refine Ja rfl rfl rfl (Vj Try.underlying9 rfl) ?_
      obtain ⟨t80, h_t80, H115⟩ := Jh H114; clear H114
      refine Ja rfl rfl rfl (Uq rfl rfl h_t80) ?_
      obtain ⟨t81, h_t81, H116⟩ := Jh H115; clear H115
      refine Ja rfl rfl rfl (r_cutFromG Try.underlying9 rfl rfl h_t81) ?_
      refine Ja rfl rfl rfl (r_neqT rfl rfl) ?_
      refine Ja rfl rfl rfl (Qk (v := .bool (decide (t81 ≠ [255, 217]))) rfl rfl) ?_
      refine Jg ?_
      refine Qf (b := (decide (t81 ≠ [255, 217]))) rfl (fun hb => ?_) (fun hb => ?_)
      ·have H117 := Jr hb H116; clear H116
       refine Jf ?_
       refine Jb ?_
       refine Ja rfl rfl rfl (Jc (v := .slice none 0 0) rfl) ?_
       refine Ja rfl rfl rfl (Jc (v := .int .i64 8) rfl) ?_
       refine Jg ?_
       refine Ju ?_
       refine Qb 74 2 ?_
       obtain rfl := Option.some.inj H117
       refine Xv 2 rfl (Z7 _ _ _ _ _) ?_
       refine Jv 0 2 rfl rfl (by decide) ?_
       refine Xv 0 rfl (Vy (k := true) (p := ((none, 0) : Option Addr × Nat)) rfl (fun _ => rfl) (AllC.nil (G := g_tag_Segment) (h := Yg) (sz := 2))) ?_
       refine W8 (v1 := .slice ((none, 0) : Option Addr × Nat).1 (([] : List (List Value)).length) ((none, 0) : Option Addr × Nat).2) (v2 := .int .i64 8) rfl rfl rfl (Vl ((none, 0) : Option Addr × Nat) (i := 0) rfl (by first | rfl | rw [(show (([] : List (List Value)).length) = ([] : List T_tag_Segment).length from (AllC.nil (G := g_tag_Segment) (h := Yg) (sz := 2)).len)]) (by first | exact Imp.refl _ | exact Imp.of (by rw [(show (([] : List (List Value)).length) = ([] : List T_tag_Segment).length from (AllC.nil (G := g_tag_Segment) (h := Yg) (sz := 2)).len)] <;> rfl)))
      ·have H118 := Jq hb H116; clear H116
       refine Jt ?_
       refine Jf ?_
       refine Jb ?_
       refine Ja rfl rfl rfl (Jd (v := .slice p.1 css.length p.2) rfl) ?_
       refine Ja rfl rfl rfl (Jd (v := str x0) rfl) ?_
       refine Ja rfl rfl rfl (Jd (v := str x0) rfl) ?_
       refine Ja rfl rfl rfl (Vj Try.underlying9 rfl) ?_
       obtain ⟨t88, h_t88, H119⟩ := Jh H118; clear H118
       refine Ja rfl rfl rfl (Uq rfl rfl h_t88) ?_
       obtain ⟨t89, h_t89, H120⟩ := Jh H119; clear H119
       refine Ja rfl rfl rfl (r_cutTG Try.underlying9 rfl rfl rfl h_t89) ?_
       refine Ja rfl rfl rfl (Y5 (pl := #[(0, 1), (1, 1)]) (ps := [(0, .int .i64 218), (1, str t89)]) (cells := #[.int .i64 218, str t89]) Try.zeroValue74 Try.runUnderlying74 (fun w => by kernel_rfl) rfl rfl) ?_
       refine Qx (vs := [.agg #[.int .i64 218, str t89]]) (cs := [.int .i64 218, str t89]) Try.underlying69 Try.sizeOf74 Try.zeroValue74 rfl rfl rfl rfl rfl rfl rfl (fun b4 => ?_)
       obtain ⟨l92, h_l92, H121⟩ := Jh H120; clear H120
       refine Qs (U0 (i := 1) (k := 2) (p := p) (f := idC) (ys := css) (ls := [[.int .i64 218, str t89]]) Try.underlying69 (Xe Try.typeInfo74) rfl rfl rfl rfl rfl rfl rfl rfl rfl rfl rfl rfl rfl rfl rfl (app63 (pf.app h_l92 (nc := [[.int .i64 218, str t89]]) rfl)) rfl) rfl rfl rfl (fun p_2 => ?_)
       have pf_2 : AllC g_tag_Segment Yg 2 (css ++ [[.int .i64 218, str t89]]) l92 := AllC.snocG pf h_l92 rfl (⟨rfl, rfl⟩)
       refine Ja rfl rfl rfl (Jc (v := .slice p_2.1 ((css ++ [[.int .i64 218, str t89]]).length) p_2.2) rfl) ?_
       refine Jg ?_
       try dsimp only [z1, z2, z5, z6, z7, z8]
       refine Jf ?_
       refine Jf ?_
       refine Jb ?_
       refine Ja rfl rfl rfl (Jd (v := .slice p_2.1 ((css ++ [[.int .i64 218, str t89]]).length) p_2.2) rfl) ?_
       refine Ja rfl rfl rfl (r_lenN Try.underlying69 rfl pf_2.len) ?_
       refine Ja rfl rfl rfl (Wj rfl rfl) ?_
       refine Jg ?_
       try dsimp only [z1, z2, z5, z6, z7, z8]
       refine Qf (b := (decide (200 < (l92.length : Int)))) rfl (fun hb => ?_) (fun hb => ?_)
       ·have H122 := Jr hb H121; clear H121
        refine Jf ?_
        refine Jb ?_
        refine Ja rfl rfl rfl (Jc (v := .slice none 0 0) rfl) ?_
        refine Ja rfl rfl rfl (Jc (v := .int .i64 4) rfl) ?_
        refine Jg ?_
        try dsimp only [z1, z2, z5, z6, z7, z8]
        refine Ju ?_
        refine Qb 74 2 ?_
        obtain rfl := Option.some.inj H122
        refine Xv 3 rfl (Z7 _ _ _ _ _) ?_
        refine Jv 0 3 rfl rfl (by decide) ?_
        refine Xv 0 rfl (Vy (k := true) (p := ((none, 0) : Option Addr × Nat)) rfl (fun _ => rfl) (AllC.nil (G := g_tag_Segment) (h := Yg) (sz := 2))) ?_
        refine W8 (v1 := .slice ((none, 0) : Option Addr × Nat).1 (([] : List (List Value)).length) ((none, 0) : Option Addr × Nat).2) (v2 := .int .i64 4) rfl rfl rfl (Vl ((none, 0) : Option Addr × Nat) (i := 0) rfl (by first | rfl | rw [(show (([] : List (List Value)).length) = ([] : List T_tag_Segment).length from (AllC.nil (G := g_tag_Segment) (h := Yg) (sz := 2)).len)]) (by first | exact Imp.refl _ | exact Imp.of (by rw [(show (([] : List (List Value)).length) = ([] : List T_tag_Segment).length from (AllC.nil (G := g_tag_Segment) (h := Yg) (sz := 2)).len)] <;> rfl)))
       ·have H123 := Jq hb H121; clear H121
        refine Jt ?_
        refine Jf ?_
        refine Jb ?_
        refine Ja rfl rfl rfl (Jd (v := .slice p_2.1 ((css ++ [[.int .i64 218, str t89]]).length) p_2.2) rfl) ?_
        refine Q4 (fun w hF hS => k81 (capOf (i := 1) hS rfl) w) Try.call81 rfl rfl rfl ?_
        refine Ja rfl rfl rfl (Jc (v := .slice (Z1 p_2.1 0 ((css ++ [[.int .i64 218, str t89]]).length) 2) ((css ++ [[.int .i64 218, str t89]]).length) ((css ++ [[.int .i64 218, str t89]]).length)) rfl) ?_
        refine Ja rfl rfl rfl (Jc (v := .int .i64 0) rfl) ?_
        refine Jg ?_
        try dsimp only [z1, z2, z5, z6, z7, z8]
        refine Ju ?_
        obtain rfl := Option.some.inj H123
        refine Xv 1 rfl (imp_clipR _ _ _ _ _ _) ?_
        refine Jv 0 1 rfl rfl (by decide) ?_
        refine Xv 0 rfl (Vy (k := true) (p := (Z1 p_2.1 0 ((css ++ [[.int .i64 218, str t89]]).length) 2, ((css ++ [[.int .i64 218, str t89]]).length))) rfl (fun _ => rfl) pf_2) ?_
        refine W8 (v1 := .slice (Z1 p_2.1 0 ((css ++ [[.int .i64 218, str t89]]).length) 2) ((css ++ [[.int .i64 218, str t89]]).length) ((css ++ [[.int .i64 218, str t89]]).length)) (v2 := .int .i64 0) rfl rfl rfl (Vl (Z1 p_2.1 0 ((css ++ [[.int .i64 218, str t89]]).length) 2, ((css ++ [[.int .i64 218, str t89]]).length)) (i := 0) rfl (by first | rfl | rw [(show ((css ++ [[.int .i64 218, str t89]]).length) = l92.length from pf_2.len)]) (by first | exact Imp.refl _ | exact Imp.of (by rw [(show ((css ++ [[.int .i64 218, str t89]]).length) = l92.length from pf_2.len)] <;> rfl)))
theorem k82 {a0 : T_tag_Segment} {a1 : Bool} {r : Int} (H : Wx a0 a1 = some r) : Ret Try.prog 82 [.agg #[.int .i64 a0.Kind, str a0.Text], .bool a1] (.int .i64 r) := by
 refine Z5 (n := 26) Try.func82 rfl rfl rfl (fun wd => ?_)
 refine Jf ?_
 refine Jb ?_
 refine U6 (cs := [.int .i64 a0.Kind, str a0.Text]) rfl rfl rfl rfl (fun b1 => ?_)
 refine Ja rfl rfl rfl (Jc (v := .int .i64 0) rfl) ?_
 refine Jg ?_
 refine Jf ?_
 refine J4 ?_
 refine Jf ?_
 refine Jb ?_
 refine Ja rfl rfl rfl (Jk Try.runUnderlying74 rfl Try.sizeOf3 rfl rfl) ?_
 refine Jw (i := 0) (v := .int .i64 a0.Kind) Try.isAgg3 rfl rfl rfl rfl rfl ?_
 obtain ⟨t8, h_t8, H10⟩ := Jh H; clear H
 refine Zu (k80 h_t8) Try.call80 rfl rfl rfl ?_
 refine Ja rfl rfl rfl (r_not rfl) ?_
 refine Ja rfl rfl rfl (Jc (v := .bool (!t8)) rfl) ?_
 refine Jg ?_
 refine Qf (b := (!t8)) rfl (fun hb => ?_) (fun hb => ?_)
 ·have H11 := Jr hb H10; clear H10
  refine Jf ?_
  refine Jb ?_
  refine Ja rfl rfl rfl (Jc (v := .int .i64 10) rfl) ?_
  refine Jg ?_
  refine Ju ?_
  obtain rfl := Option.some.inj H11
  refine Qq (v := .int .i64 10) rfl rfl (Yn rfl)
 ·have H12 := Jq hb H10; clear H10
  refine Jf ?_
  refine Jb ?_
  refine Ja rfl rfl rfl (Jk Try.runUnderlying74 rfl Try.sizeOf3 rfl rfl) ?_
  refine Jw (i := 0) (v := .int .i64 a0.Kind) Try.isAgg3 rfl rfl rfl rfl rfl ?_
  refine Ja rfl rfl rfl (Xl rfl rfl) ?_
  refine Ja rfl rfl rfl (Jd (v := .bool a1) rfl) ?_
  refine Ja rfl rfl rfl (r_neqB Try.underlying4 rfl rfl) ?_
  refine Ja rfl rfl rfl (Jc (v := .bool (decide ((decide (a0.Kind = 218)) ≠ a1))) rfl) ?_
  refine Jg ?_
  refine Qf (b := (decide ((decide (a0.Kind = 218)) ≠ a1))) rfl (fun hb => ?_) (fun hb => ?_)
  ·have H13 := Jr hb H12; clear H12
   refine Jf ?_
   refine Jb ?_
   refine Ja rfl rfl rfl (Jc (v := .int .i64 5) rfl) ?_
   refine Jg ?_
   refine Ju ?_
   obtain rfl := Option.some.inj H13
   refine Qq (v := .int .i64 5) rfl rfl (Yn rfl)
  ·have H14 := Jq hb H12; clear H12
   refine Jf ?_
   refine Jb ?_
   refine Ja rfl rfl rfl (Jk Try.runUnderlying74 rfl Try.sizeOf3 rfl rfl) ?_
   refine Jw (i := 0) (v := .int .i64 a0.Kind) Try.isAgg3 rfl rfl rfl rfl rfl ?_
   refine Ja rfl rfl rfl (Zr rfl rfl) ?_
   refine Ja rfl rfl rfl (Jd (v := .bool (decide (a0.Kind ≠ 218))) rfl) ?_
   refine split (fun hb => ?_) (fun hb => ?_)
   ·have H15 := Jr hb H14; clear H14
    refine Ja rfl rfl rfl (Jk Try.runUnderlying74 rfl Try.sizeOf9 rfl rfl) ?_
    refine Jw (i := 0) (v := str a0.Text) Try.isAgg9 rfl rfl rfl rfl rfl ?_
    refine Ja rfl rfl rfl (Vj Try.underlying9 rfl) ?_
    refine Ja rfl rfl rfl (Wj rfl rfl) ?_
    refine Ja rfl rfl rfl (J7 (v := .bool (decide (65533 < (a0.Text.length : Int)))) rfl rfl) ?_
    refine Ja rfl rfl rfl (Jc (v := .bool (decide (65533 < (a0.Text.length : Int)))) rfl) ?_
    refine Jg ?_
    refine Qf (b := (decide (65533 < (a0.Text.length : Int)))) rfl (fun hb => ?_) (fun hb => ?_)
    ·have H16 := Jr hb H15; clear H15
     refine Jf ?_
     refine Jb ?_
     refine Ja rfl rfl rfl (Jc (v := .int .i64 4) rfl) ?_
     refine Jg ?_
     refine Ju ?_
     obtain rfl := Option.some.inj H16
     refine Qq (v := .int .i64 4) rfl rfl (Yn rfl)
    ·have H17 := Jq hb H15; clear H15
     refine Jt ?_
     refine Jf ?_
     refine Jb ?_
     refine Ja rfl rfl rfl (Jc (v := .int .i64 0) rfl) ?_
     refine Jg ?_
     refine Ju ?_
     obtain rfl := Option.some.inj H17
     refine Qq (v := .int .i64 0) rfl rfl (Yn rfl)
   ·have H18 := Jq hb H14; clear H14
    refine Ji rfl rfl rfl ?_
    refine Ji rfl rfl rfl ?_
    refine Ji rfl rfl rfl ?_
    refine Ji rfl rfl rfl ?_
    refine Ja rfl rfl rfl (Qk (v := .bool false) rfl rfl) ?_
    refine Ja rfl rfl rfl (Jc (v := .bool false) rfl) ?_
    refine Jg ?_
    refine c_false rfl ?_
    refine Jt ?_
    refine Jf ?_
    refine Jb ?_
    refine Ja rfl rfl rfl (Jc (v := .int .i64 0) rfl) ?_
    refine Jg ?_
    refine Ju ?_
    obtain rfl := Option.some.inj H18
    refine Qq (v := .int .i64 0) rfl rfl (Yn rfl)
theorem k35 {a0 : (List T_tag_Segment)} {v0 : Value} {r : (List UInt8) × Int} {w : World} {h : J3} (hw : Know h w Wf) (f0 : FrN h 2 v0 g_tag_Segment a0) (H : Vn a0 = some r) : Does Try.prog 35 (List.toArray [v0]) w (fun v w' => v = (.tuple #[str r.1, .int .i64 r.2]) ∧ Grow w w') := by
 refine enter (n := 67) Try.func35 rfl rfl rfl Wf [] (Sat.nil _ _) ?_
 refine Jf ?_
 refine Jb ?_
 refine Ja rfl rfl rfl (Jc (v := str []) rfl) ?_
 refine Ja rfl rfl rfl (Jc (v := .int .i64 0) rfl) ?_
 refine Jg ?_
 refine Jf ?_
 refine J4 ?_
 refine Jf ?_
 refine Jb ?_
 refine Ja rfl rfl rfl (Jd (v := v0) rfl) ?_
 refine Ja rfl rfl rfl (Zf Try.underlying69 rfl f0) ?_
 refine Ja rfl rfl rfl (Wj rfl rfl) ?_
 refine Ja rfl rfl rfl (Jc (v := .bool (decide (200 < (a0.length : Int)))) rfl) ?_
 refine Jg ?_
 refine Qf (b := (decide (200 < (a0.length : Int)))) rfl (fun hb => ?_) (fun hb => ?_)
 ·have H29 := Jr hb H; clear H
  refine Jf ?_
  refine Jb ?_
  refine Ja rfl rfl rfl (Jc (v := str []) rfl) ?_
  refine Ja rfl rfl rfl (Jc (v := .int .i64 4) rfl) ?_
  refine Jg ?_
  refine Ju ?_
  obtain rfl := Option.some.inj H29
  refine W8 (v1 := str []) (v2 := .int .i64 4) rfl rfl rfl (Yn rfl)
 ·have H30 := Jq hb H; clear H
  refine Jf ?_
  refine Jb ?_
  refine Ja rfl rfl rfl (Jd (v := v0) rfl) ?_
  refine Ja rfl rfl rfl (Zf Try.underlying69 rfl f0) ?_
  refine Ja rfl rfl rfl (Xl rfl rfl) ?_
  refine Ja rfl rfl rfl (Jc (v := .bool (decide ((a0.length : Int) = 0))) rfl) ?_
  refine Jg ?_
  refine Qf (b := (decide ((a0.length : Int) = 0))) rfl (fun hb => ?_) (fun hb => ?_)
  ·have H31 := Jr hb H30; clear H30
   refine Jf ?_
   refine Jb ?_
   refine Ja rfl rfl rfl (Jc (v := str []) rfl) ?_
   refine Ja rfl rfl rfl (Jc (v := .int .i64 5) rfl) ?_
   refine Jg ?_
   refine Ju ?_
   obtain rfl := Option.some.inj H31
   refine W8 (v1 := str []) (v2 := .int .i64 5) rfl rfl rfl (Yn rfl)
  ·have H32 := Jq hb H30; clear H30
   refine Jt ?_
   refine Jf ?_
   refine Jb ?_
   refine Qx (vs := [.int .u8 255, .int .u8 216]) (cs := [.int .u8 255, .int .u8 216]) Try.underlying133 Try.sizeOf5 Try.zeroValue5 rfl rfl rfl rfl rfl rfl rfl (fun b4 => ?_)
   refine Qs (turns_mark (i := 0) (rds := []) (f := Xa) (xs := ([255, 216] : List Int)) (m := 2) (sz := 1) rfl Try.underlying133 Try.underlying5 rfl rfl rfl rfl rfl rfl) rfl rfl rfl (fun _ => ?_)
   refine Ja rfl rfl rfl (Jc (v := .slice ((some ⟨b4, 0, none⟩, 2) : Option Addr × Nat).1 2 ((some ⟨b4, 0, none⟩, 2) : Option Addr × Nat).2) rfl) ?_
   refine Jg ?_
   refine Xq (r := r) (σ := (List Int)) (τ := (Option Addr × Nat) × Nat) (fun s => Uy s) (fun s t => [(4, .slice t.1.1 t.2 t.1.2)]) (fun s t => [apV 5 1 (.slice t.1.1 t.2 t.1.2) t.2 (s.map Xa)]) (fun s t => t.2 = s.length) ?_ ?_
   ·refine Jf ?_
    refine Jb ?_
    refine Ja rfl rfl rfl (Jd (v := v0) rfl) ?_
    refine Ja rfl rfl rfl (Zf Try.underlying69 rfl f0) ?_
    refine Ja rfl rfl rfl (Jd (v := .int .i64 0) rfl) ?_
    refine Jg ?_
    refine J4 ?_
    refine V2 (σ := Int × (List Int)) (τ := (Option Addr × Nat) × Nat) (fun next2 s => Xz a0 next2 s.1 s.2) (fun s t => [(0, v0), (4, .slice t.1.1 t.2 t.1.2), (18, v0), (19, .int .i64 (a0.length : Int)), (20, .int .i64 s.1)]) (fun s t => [apV 5 1 (.slice t.1.1 t.2 t.1.2) t.2 (s.2.map Xa)]) (fun s t => t.2 = s.2.length) (0, ([255, 216] : List Int)) (((some ⟨b4, 0, none⟩, 2) : Option Addr × Nat), 2) [0] H32 (by exact rfl) (by exact ⟨rfl, rfl, rfl, rfl, rfl, trivial⟩) (by decide) rfl ?_
    rintro ⟨x20_2, l_3⟩ ⟨p_3, n_2⟩ m2 gg H37 hl_3
    clear H32
    replace H37 : Xz a0 (it (fun next2 s => Xz a0 next2 s.1 s.2) m2) x20_2 l_3 = some r := H37
    generalize hn2 : it (fun next2 s => Xz a0 next2 s.1 s.2) m2 = next2 at H37
    try dsimp only
    refine Jf ?_
    refine Jb ?_
    refine Ja rfl rfl rfl (Z0 rfl rfl) ?_
    refine Jg ?_
    refine Jf ?_
    refine Qf (b := (decide (x20_2 < (a0.length : Int)))) rfl (fun hb => ?_) (fun hb => ?_)
    ·have H38 := Jr hb H37; clear H37
     refine Jt ?_
     refine Xq (r := r) (σ := (List Int)) (τ := (Option Addr × Nat)) (fun s => Wc x20_2 next2 s) (fun s t => [(0, v0), (4, .slice t.1 s.length t.2), (18, v0), (19, .int .i64 (a0.length : Int)), (20, .int .i64 x20_2)]) (fun s t => [Jz 5 1 (.slice t.1 s.length t.2) s.length (s.map Xa)]) (fun s t => True) ?_ ?_
     ·refine J4 ?_
      refine Jf ?_
      refine Jb ?_
      refine Ja rfl rfl rfl (Jd (v := .int .i64 x20_2) rfl) ?_
      obtain ⟨t23, h_t23, H41⟩ := Jh H38; clear H38
      refine Ja rfl rfl rfl (Y6 Try.underlying69 Try.sizeOf74 rfl rfl f0.frs (f0.ix h_t23)) ?_
      refine Yw (fun w hF hS => Zp (f := (elC h v0 2)) (i := x20_2) (sz := 2) (j := 0) (vs := [.int .i64 t23.Kind, str t23.Text]) Try.isAgg74 Try.sizeOf74 rfl rfl (f0.frs.row (hw.now hF)) (f0.ix h_t23) (rd_of (Ze (f0.at h_t23)) rfl)) rfl rfl rfl ?_
      refine Zc (cs := [.int .i64 0, str []]) Try.zeroValue74 rfl rfl rfl (fun b6 => ?_)
      refine Ja rfl rfl rfl (Jc (v := .int .i64 x20_2) rfl) ?_
      refine Qy (i := 1) (vs := [.int .i64 t23.Kind, str t23.Text]) (cs' := [.int .i64 t23.Kind, str t23.Text]) Try.sizeOf74 rfl rfl rfl rfl rfl rfl rfl rfl rfl ?_
      refine Jg ?_
      refine Jf ?_
      refine Jf ?_
      refine Jb ?_
      refine Zd (i := 1) (vs := [.int .i64 t23.Kind, str t23.Text]) Try.isAgg74 Try.sizeOf74 rfl rfl rfl rfl rfl ?_
      refine Ja rfl rfl rfl (Jd (v := .int .i64 x20_2) rfl) ?_
      refine Ja rfl rfl rfl (Jd (v := v0) rfl) ?_
      refine Ja rfl rfl rfl (Zf Try.underlying69 rfl f0) ?_
      obtain ⟨t29, h_t29, H42⟩ := Jh H41; clear H41
      refine Ja rfl rfl rfl (Uq rfl rfl h_t29) ?_
      refine Ja rfl rfl rfl (Xl rfl rfl) ?_
      obtain ⟨t31, h_t31, H43⟩ := Jh H42; clear H42
      refine Zu (k82 h_t31) Try.call82 rfl rfl rfl ?_
      refine Ja rfl rfl rfl (Jc (v := .int .i64 t31) rfl) ?_
      refine Jg ?_
      refine Jf ?_
      refine Jb ?_
      refine Ja rfl rfl rfl (Jd (v := .int .i64 t31) rfl) ?_
      refine Ja rfl rfl rfl (Zr rfl rfl) ?_
      refine Jg ?_
      refine Qf (b := (decide (t31 ≠ 0))) rfl (fun hb => ?_) (fun hb => ?_)
      ·have H44 := Jr hb H43; clear H43
       refine Jf ?_
       refine Jb ?_
       refine Ja rfl rfl rfl (Jd (v := .int .i64 t31) rfl) ?_
       refine Ja rfl rfl rfl (Jc (v := str []) rfl) ?_
       refine Ja rfl rfl rfl (Jc (v := .int .i64 t31) rfl) ?_
       refine Jg ?_
       refine Ju ?_
       obtain rfl := Option.some.inj H44
       refine W8 (v1 := str []) (v2 := .int .i64 t31) rfl rfl rfl (Yn rfl)
      ·have H45 := Jq hb H43; clear H43
       refine Jt ?_
       refine Jf ?_
       refine Jb ?_
       refine Ja rfl rfl rfl (Jd (v := .slice p_3.1 n_2 p_3.2) rfl) ?_
       refine Ja rfl rfl rfl (Jk Try.runUnderlying74 rfl Try.sizeOf3 rfl rfl) ?_
       refine Jw (i := 1) (v := .int .i64 t23.Kind) Try.isAgg3 rfl rfl rfl rfl rfl ?_
       refine Ja rfl rfl rfl (r_convG Try.runUnderlying3 Try.runUnderlying5 rfl (wr_u8 _)) ?_
       refine Qx (vs := [.int .u8 255, .int .u8 (wU8 t23.Kind)]) (cs := [.int .u8 255, .int .u8 (wU8 t23.Kind)]) Try.underlying133 Try.sizeOf5 Try.zeroValue5 rfl rfl rfl rfl rfl rfl rfl (fun b7 => ?_)
       obtain ⟨l40, h_l40, H46⟩ := Jh H45; clear H45
       refine Qs (turns_appN (i := 0) (hn := hl_3) (rds := [2]) (p := p_3) (sz := 1) (by_ := 1) (f := Xa) (ys := l_3) (ls := ([255, (wU8 t23.Kind)] : List Int)) (V := .slice (some ⟨b7, 0, none⟩) 2 2) Try.underlying133 (Xe Try.typeInfo5) rfl rfl rfl rfl rfl rfl rfl rfl rfl rfl (fun w L' hF hS hi => Wr (i := 2) hS ((hi 2 (by simp)).trans rfl) rfl rfl) (fun _ => rfl) (fun _ => rfl) h_l40) rfl rfl rfl (fun p_5 => ?_)
       refine Ja rfl rfl rfl (Jc (v := .slice p_5.1 l40.length p_5.2) rfl) ?_
       refine Jg ?_
       refine Xq (r := r) (σ := (List Int)) (τ := (Option Addr × Nat)) (fun s => We x20_2 next2 t23 s) (fun s t => [(0, v0), (4, .slice t.1 s.length t.2), (6, .pointer (some ⟨b6, 0, none⟩)), (18, v0), (19, .int .i64 (a0.length : Int)), (20, .int .i64 x20_2)]) (fun s t => [Jz 5 1 (.slice t.1 s.length t.2) s.length (s.map Xa), Jl b6 [.int .i64 t23.Kind, str t23.Text] 74]) (fun s t => True) ?_ ?_
       ·refine Jf ?_
        try dsimp only [z1, z2, z5, z6, z7, z8]
        refine Jb ?_
        refine Ja rfl rfl rfl (Jk Try.runUnderlying74 rfl Try.sizeOf3 rfl rfl) ?_
        refine Jw (i := 1) (v := .int .i64 t23.Kind) Try.isAgg3 rfl rfl rfl rfl rfl ?_
        refine Ja rfl rfl rfl (Zr rfl rfl) ?_
        refine Jg ?_
        refine Qf (b := (decide (t23.Kind ≠ 218))) rfl (fun hb => ?_) (fun hb => ?_)
        ·have H51 := Jr hb H46; clear H46
         refine Jb ?_
         refine Ja rfl rfl rfl (Jd (v := .slice p_5.1 l40.length p_5.2) rfl) ?_
         refine Ja rfl rfl rfl (Jk Try.runUnderlying74 rfl Try.sizeOf9 rfl rfl) ?_
         refine Jw (i := 1) (v := str t23.Text) Try.isAgg9 rfl rfl rfl rfl rfl ?_
         refine Ja rfl rfl rfl (Vj Try.underlying9 rfl) ?_
         obtain ⟨t48, h_t48, H52⟩ := Jh H51; clear H51
         refine Ja rfl rfl rfl (Qm rfl rfl h_t48) ?_
         obtain ⟨t49, h_t49, H53⟩ := Jh H52; clear H52
         refine Wp (Xs (rds := []) (G := fun x : (Option Addr × Nat) => .slice x.1 t49.length x.2) (C := fun x : (Option Addr × Nat) => Jz 5 1 (.slice x.1 t49.length x.2) t49.length (t49.map Xa)) (fun w L' hF hS hi => k83 (Jy w)  h_t49) Try.call83 rfl) rfl rfl rfl (fun p_8 => ?_)
         obtain ⟨l50, h_l50, H54⟩ := Jh H53; clear H53
         refine Qs (Xr (i := 0) (hn := rfl) (rds := [3]) (p := p_5) (sz := 1) (by_ := 1) (f := Xa) (ys := l40) (ls := t49) (V := .slice p_8.1 t49.length p_8.2) Try.underlying133 (Xe Try.typeInfo5) rfl rfl rfl rfl rfl rfl rfl rfl rfl rfl (fun w L' hF hS hi => rowOf (i := 3) hS ((hi 3 (by simp)).trans rfl)) (fun _ => rfl) (fun _ => rfl) h_l50) rfl rfl rfl (fun p_9 => ?_)
         refine Ja rfl rfl rfl (Jc (v := .slice p_9.1 l50.length p_9.2) rfl) ?_
         refine Jg ?_
         refine Jp l50 p_9 0 [0, 1] (by exact ⟨rfl, rfl, rfl, rfl, rfl, rfl, trivial⟩) (by decide) (by kernel_rfl) (by exact ⟨H54, trivial⟩) (Nat.lt_succ_self _)
        ·have H55 := Jq hb H46; clear H46
         refine Jt ?_
         refine Jp l40 p_5 0 [0, 1] (by exact ⟨rfl, rfl, rfl, rfl, rfl, rfl, trivial⟩) (by decide) (by kernel_rfl) (by exact ⟨H55, trivial⟩) (Nat.lt_succ_self _)
       ·rintro l_5 p_6 gg H47 _
        replace H47 : We x20_2 next2 t23 l_5 = some r := H47
        try dsimp only
        refine Jf ?_
        refine Jb ?_
        refine Ja rfl rfl rfl (Jd (v := .slice p_6.1 l_5.length p_6.2) rfl) ?_
        refine Ja rfl rfl rfl (r_len Try.underlying133 rfl) ?_
        refine Ja rfl rfl rfl (r_leq rfl rfl) ?_
        refine Jg ?_
        refine Qf (b := (decide ((l_5.length : Int) ≤ 200000))) rfl (fun hb => ?_) (fun hb => ?_)
        ·have H48 := Jr hb H47; clear H47
         refine Jb ?_
         refine Ja rfl rfl rfl (Jd (v := .slice p_6.1 l_5.length p_6.2) rfl) ?_
         refine Ja rfl rfl rfl (Jk Try.runUnderlying74 rfl Try.sizeOf9 rfl rfl) ?_
         refine Jw (i := 1) (v := str t23.Text) Try.isAgg9 rfl rfl rfl rfl rfl ?_
         obtain ⟨l57, h_l57, H49⟩ := Jh H48; clear H48
         refine Qs (turns_strG (i := 0) (rds := []) (p := p_6) (f := Xa) (ys := l_5) rfl Try.underlying133 Try.underlying9 (Xe Try.typeInfo5) rfl rfl rfl rfl rfl rfl (fun _ => rfl) h_l57) rfl rfl rfl (fun p_7 => ?_)
         refine Ja rfl rfl rfl (Jc (v := .slice p_7.1 l57.length p_7.2) rfl) ?_
         refine Jg ?_
         refine Jp l57 p_7 0 [0] (by exact ⟨rfl, rfl, rfl, rfl, rfl, trivial⟩) (by decide) (by kernel_rfl) (by exact ⟨H49, trivial⟩) (Nat.lt_succ_self _)
        ·have H50 := Jq hb H47; clear H47
         refine Jt ?_
         refine Jp l_5 p_6 0 [0] (by exact ⟨rfl, rfl, rfl, rfl, rfl, trivial⟩) (by decide) (by kernel_rfl) (by exact ⟨H50, trivial⟩) (Nat.lt_succ_self _)
     ·rintro l_4 p_4 gg H39 _
      replace H39 : Wc x20_2 next2 l_4 = some r := H39
      try dsimp only
      refine Jb ?_
      obtain ⟨t58, h_t58, H40⟩ := Jh H39; clear H39
      refine Ja rfl rfl rfl (Qm rfl rfl h_t58) ?_
      refine Ja rfl rfl rfl (Jd (v := .int .i64 t58) rfl) ?_
      refine Jg ?_
      refine Xv 0 rfl (imp_ap _ _ _ _ _) ?_
      refine Jp (t58, l_4) (p_4, l_4.length) m2 [0] (by exact ⟨rfl, rfl, rfl, rfl, rfl, trivial⟩) (by decide) (by kernel_rfl) (by exact ⟨(by subst hn2; exact H40), rfl⟩) (Nat.lt_succ_self _)
    ·have H56 := Jq hb H37; clear H37
     refine Yk ?_
     refine Jp l_3 (p_3, n_2) 0 [0] (by exact ⟨rfl, trivial⟩) (by decide) (by kernel_rfl) (by exact ⟨H56, hl_3⟩) (Nat.lt_succ_self _)
   ·rintro l ⟨p, n⟩ gg H33 hl
    replace H33 : Uy l = some r := H33
    try dsimp only
    refine Jf ?_
    refine Jb ?_
    refine Ja rfl rfl rfl (Jd (v := .slice p.1 n p.2) rfl) ?_
    refine Qx (vs := [.int .u8 255, .int .u8 217]) (cs := [.int .u8 255, .int .u8 217]) Try.underlying133 Try.sizeOf5 Try.zeroValue5 rfl rfl rfl rfl rfl rfl rfl (fun b5 => ?_)
    obtain ⟨l61, h_l61, H34⟩ := Jh H33; clear H33
    refine Qs (turns_appN (i := 0) (hn := hl) (rds := [1]) (p := p) (sz := 1) (by_ := 1) (f := Xa) (ys := l) (ls := ([255, 217] : List Int)) (V := .slice (some ⟨b5, 0, none⟩) 2 2) Try.underlying133 (Xe Try.typeInfo5) rfl rfl rfl rfl rfl rfl rfl rfl rfl rfl (fun w L' hF hS hi => Wr (i := 1) hS ((hi 1 (by simp)).trans rfl) rfl rfl) (fun _ => rfl) (fun _ => rfl) h_l61) rfl rfl rfl (fun p_2 => ?_)
    refine Ja rfl rfl rfl (Jc (v := .slice p_2.1 l61.length p_2.2) rfl) ?_
    refine Jg ?_
    refine Jf ?_
    refine Jf ?_
    refine Jb ?_
    refine Ja rfl rfl rfl (Jd (v := .slice p_2.1 l61.length p_2.2) rfl) ?_
    refine Ja rfl rfl rfl (r_len Try.underlying133 rfl) ?_
    refine Ja rfl rfl rfl (Wj rfl rfl) ?_
    refine Jg ?_
    refine Qf (b := (decide (200000 < (l61.length : Int)))) rfl (fun hb => ?_) (fun hb => ?_)
    ·have H35 := Jr hb H34; clear H34
     refine Jf ?_
     refine Jb ?_
     refine Ja rfl rfl rfl (Jc (v := str []) rfl) ?_
     refine Ja rfl rfl rfl (Jc (v := .int .i64 4) rfl) ?_
     refine Jg ?_
     refine Ju ?_
     obtain rfl := Option.some.inj H35
     refine W8 (v1 := str []) (v2 := .int .i64 4) rfl rfl rfl (Yn rfl)
    ·have H36 := Jq hb H34; clear H34
     refine Jt ?_
     refine Jf ?_
     refine Jb ?_
     refine Ja rfl rfl rfl (Jd (v := .slice p_2.1 l61.length p_2.2) rfl) ?_
     refine Yw (fun w hF hS => run_bytes (f := Xa) (xs := l61) rfl Try.underlying133 Try.underlying5 Try.underlying9 rfl (fun _ => rfl) (rowOf (i := 0) hS rfl)) rfl rfl rfl ?_
     refine Ja rfl rfl rfl (Jc (v := str (Vo l61)) rfl) ?_
     refine Ja rfl rfl rfl (Jc (v := .int .i64 0) rfl) ?_
     refine Jg ?_
     refine Ju ?_
     obtain rfl := Option.some.inj H36
     refine W8 (v1 := str (Vo l61)) (v2 := .int .i64 0) rfl rfl rfl (Yn rfl)
theorem k132 {a0 : (List T_tag_Segment)} {v0 : Value} {a1 : (T_tag_Segment → Option (Bool))} {v1 : Value} {r : Int} {w : World} {h : J3} (hw : Know h w Wf) (f0 : FrN h 2 v0 g_tag_Segment a0) (f1 : FnH Try.prog h v1 (W3 a1)) (H : Zn a0 a1 = some r) : Does Try.prog 132 (List.toArray [v0, v1]) w (fun v w' => v = (.int .i64 r) ∧ Grow w w') := by
 refine enter (n := 19) Try.func132 rfl rfl rfl Wf [] (Sat.nil _ _) ?_
 refine Jf ?_
 refine Jb ?_
 refine Ja rfl rfl rfl (Jc (v := .int .i64 0) rfl) ?_
 refine Jg ?_
 refine Jf ?_
 refine Jf ?_
 refine Jb ?_
 refine Ja rfl rfl rfl (Jd (v := v0) rfl) ?_
 refine Ja rfl rfl rfl (Zf Try.underlying69 rfl f0) ?_
 refine Ja rfl rfl rfl (Jd (v := .int .i64 0) rfl) ?_
 refine Jg ?_
 refine J4 ?_
 refine V2 (σ := Int) (τ := Unit) (fun next1 s => J1 a0 a1 next1 s) (fun s t => [(0, v0), (1, v1), (7, .int .i64 (a0.length : Int)), (8, .int .i64 s)]) (fun s t => []) (fun s t => True) 0 () [] H (by exact trivial) (by exact ⟨rfl, rfl, rfl, rfl, trivial⟩) (by decide) rfl ?_
 rintro x8_2 _ m1 gg H9 _
 clear H
 replace H9 : J1 a0 a1 (it (fun next1 s => J1 a0 a1 next1 s) m1) x8_2 = some r := H9
 generalize hn1 : it (fun next1 s => J1 a0 a1 next1 s) m1 = next1 at H9
 try dsimp only
 refine Jf ?_
 refine Jb ?_
 refine Ja rfl rfl rfl (Z0 rfl rfl) ?_
 refine Jg ?_
 refine Jf ?_
 refine Qf (b := (decide (x8_2 < (a0.length : Int)))) rfl (fun hb => ?_) (fun hb => ?_)
 ·have H10 := Jr hb H9; clear H9
  refine Jt ?_
  refine Jf ?_
  refine J4 ?_
  refine Jf ?_
  refine Jb ?_
  refine Ja rfl rfl rfl (Jd (v := .int .i64 x8_2) rfl) ?_
  refine Ja rfl rfl rfl (Jc (v := .int .i64 x8_2) rfl) ?_
  refine Jg ?_
  refine Jf ?_
  refine Jb ?_
  refine Ja rfl rfl rfl (Jd (v := v1) rfl) ?_
  refine Ja rfl rfl rfl (Jd (v := v0) rfl) ?_
  refine Ja rfl rfl rfl (Jd (v := .int .i64 x8_2) rfl) ?_
  obtain ⟨t14, h_t14, H11⟩ := Jh H10; clear H10
  refine Ja rfl rfl rfl (Y6 Try.underlying69 Try.sizeOf74 rfl rfl f0.frs (f0.ix h_t14)) ?_
  refine Yw (fun w hF hS => Zp (f := (elC h v0 2)) (i := x8_2) (sz := 2) (j := 0) (vs := [.int .i64 t14.Kind, str t14.Text]) Try.isAgg74 Try.sizeOf74 rfl rfl (f0.frs.row (hw.now hF)) (f0.ix h_t14) (rd_of (Ze (f0.at h_t14)) rfl)) rfl rfl rfl ?_
  obtain ⟨t16, h_t16, H12⟩ := Jh H11; clear H11
  refine l_callV (R := W3 a1) (r := .bool t16) (v := v1) (fun w hF hS => ⟨(f1.mono (hw.now hF)), ⟨t14, _, rfl, h_t16, rfl⟩⟩) rfl rfl rfl rfl ?_
  refine Jg ?_
  refine Qf (b := t16) rfl (fun hb => ?_) (fun hb => ?_)
  ·have H13 := Jr hb H12; clear H12
   refine Jf ?_
   refine Jb ?_
   refine Ja rfl rfl rfl (Jd (v := .int .i64 x8_2) rfl) ?_
   refine Ja rfl rfl rfl (Jc (v := .int .i64 x8_2) rfl) ?_
   refine Jg ?_
   refine Ju ?_
   obtain rfl := Option.some.inj H13
   refine Qq (v := .int .i64 x8_2) rfl rfl (Yn rfl)
  ·have H14 := Jq hb H12; clear H12
   refine Jt ?_
   refine Jb ?_
   obtain ⟨t18, h_t18, H15⟩ := Jh H14; clear H14
   refine Ja rfl rfl rfl (Qm rfl rfl h_t18) ?_
   refine Ja rfl rfl rfl (Jd (v := .int .i64 t18) rfl) ?_
   refine Jg ?_
   refine Jp t18 () m1 [] (by exact ⟨rfl, rfl, rfl, rfl, trivial⟩) (by decide) (by kernel_rfl) (by exact ⟨(by subst hn1; exact H15), trivial⟩) (Nat.lt_succ_self _)
 ·have H16 := Jq hb H9; clear H9
  refine Yk ?_
  refine Jf ?_
  refine Jb ?_
  refine Ja rfl rfl rfl (Jc (v := .int .i64 (-1)) rfl) ?_
  refine Jg ?_
  refine Ju ?_
  obtain rfl := Option.some.inj H16
  refine Qq (v := .int .i64 (-1)) rfl rfl (Yn rfl)
theorem k133 {a0 : T_tag_Segment} {r : Bool} (H : Z8 a0 = some r) : Ret Try.prog 133 [.agg #[.int .i64 a0.Kind, str a0.Text]] (.bool r) := by
 refine Z5 (n := 18) Try.func133 rfl rfl rfl (fun wd => ?_)
 refine Jf ?_
 refine Jb ?_
 refine U6 (cs := [.int .i64 a0.Kind, str a0.Text]) rfl rfl rfl rfl (fun b1 => ?_)
 refine Ja rfl rfl rfl (Jc (v := .bool false) rfl) ?_
 refine Jg ?_
 refine Jf ?_
 refine Jb ?_
 refine Ja rfl rfl rfl (Jk Try.runUnderlying74 rfl Try.sizeOf3 rfl rfl) ?_
 refine Jw (i := 0) (v := .int .i64 a0.Kind) Try.isAgg3 rfl rfl rfl rfl rfl ?_
 refine Ja rfl rfl rfl (Xl rfl rfl) ?_
 refine Ja rfl rfl rfl (Jd (v := .bool (decide (a0.Kind = 225))) rfl) ?_
 refine split (fun hb => ?_) (fun hb => ?_)
 ·have H6 := Jr hb H; clear H
  refine Ja rfl rfl rfl (Jk Try.runUnderlying74 rfl Try.sizeOf9 rfl rfl) ?_
  refine Jw (i := 0) (v := str a0.Text) Try.isAgg9 rfl rfl rfl rfl rfl ?_
  refine Ja rfl rfl rfl (Vj Try.underlying9 rfl) ?_
  refine Ja rfl rfl rfl (r_geq rfl rfl) ?_
  refine Ja rfl rfl rfl (J7 (v := .bool (decide (6 ≤ (a0.Text.length : Int)))) rfl rfl) ?_
  refine Ja rfl rfl rfl (Jd (v := .bool (decide (6 ≤ (a0.Text.length : Int)))) rfl) ?_
  refine split (fun hb => ?_) (fun hb => ?_)
  ·have H7 := Jr hb H6; clear H6
   refine Ja rfl rfl rfl (Jk Try.runUnderlying74 rfl Try.sizeOf9 rfl rfl) ?_
   refine Jw (i := 0) (v := str a0.Text) Try.isAgg9 rfl rfl rfl rfl rfl ?_
   obtain ⟨t15, h_t15, H8⟩ := Jh H7; clear H7
   refine Ja rfl rfl rfl (r_cutToG Try.underlying9 rfl rfl h_t15) ?_
   refine Ja rfl rfl rfl (r_eqlT rfl rfl) ?_
   refine Ja rfl rfl rfl (J7 (v := .bool (decide (t15 = [69, 120, 105, 102, 0, 0]))) rfl rfl) ?_
   refine Ja rfl rfl rfl (Jc (v := .bool (decide (t15 = [69, 120, 105, 102, 0, 0]))) rfl) ?_
   refine Jg ?_
   refine Ju ?_
   obtain rfl := Option.some.inj H8
   refine Qq (v := .bool (decide (t15 = [69, 120, 105, 102, 0, 0]))) rfl rfl (Yn rfl)
  ·have H9 := Jq hb H6; clear H6
   refine Ji rfl rfl rfl ?_
   refine Ji rfl rfl rfl ?_
   refine Ji rfl rfl rfl ?_
   refine Ji rfl rfl rfl ?_
   refine Ja rfl rfl rfl (Qk (v := .bool false) rfl rfl) ?_
   refine Ja rfl rfl rfl (Jc (v := .bool false) rfl) ?_
   refine Jg ?_
   refine Ju ?_
   obtain rfl := Option.some.inj H9
   refine Qq (v := .bool false) rfl rfl (Yn rfl)
 ·have H10 := Jq hb H; clear H
  refine Ji rfl rfl rfl ?_
  refine Ji rfl rfl rfl ?_
  refine Ji rfl rfl rfl ?_
  refine Ji rfl rfl rfl ?_
  refine Ja rfl rfl rfl (Qk (v := .bool false) rfl rfl) ?_
  refine Ja rfl rfl rfl (Jd (v := .bool false) rfl) ?_
  refine Ji rfl rfl rfl ?_
  refine Ji rfl rfl rfl ?_
  refine Ji rfl rfl rfl ?_
  refine Ji rfl rfl rfl ?_
  refine Ja rfl rfl rfl (Qk (v := .bool false) rfl rfl) ?_
  refine Ja rfl rfl rfl (Jc (v := .bool false) rfl) ?_
  refine Jg ?_
  refine Ju ?_
  obtain rfl := Option.some.inj H10
  refine Qq (v := .bool false) rfl rfl (Yn rfl)
theorem k78 {a0 : (List T_tag_Segment)} {v0 : Value} {r : Int} {w : World} {h : J3} (hw : Know h w Wf) (f0 : FrN h 2 v0 g_tag_Segment a0) (H : Zv a0 = some r) : Does Try.prog 78 (List.toArray [v0]) w (fun v w' => v = (.int .i64 r) ∧ Grow w w') := by
 refine enter (n := 5) Try.func78 rfl rfl rfl Wf [] (Sat.nil _ _) ?_
 refine Jf ?_
 refine Jb ?_
 refine Ja rfl rfl rfl (Jc (v := .int .i64 0) rfl) ?_
 refine Jg ?_
 refine Jf ?_
 refine Jb ?_
 refine Ja rfl rfl rfl (Jd (v := v0) rfl) ?_
 obtain ⟨t4, h_t4, H2⟩ := Jh H; clear H
 refine Q4 (fun w hF hS => k132 (Jy w) (f0.mono (hw.now hF)) (FnH.mk ⟨133, #[], #[], rfl, Try.call133, fun args2 post2 w2 hk2 hR2 => by obtain ⟨a0_, r_, rfl, H_, rfl⟩ := hR2; exact k133 H_ w2⟩) h_t4) Try.call132 rfl rfl rfl ?_
 refine Ja rfl rfl rfl (Jc (v := .int .i64 t4) rfl) ?_
 refine Jg ?_
 refine Ju ?_
 obtain rfl := Option.some.inj H2
 refine Qq (v := .int .i64 t4) rfl rfl (Yn rfl)
theorem k79 {css r : List (List Value)} {cs1 : List Value} {p0 : Option Addr × Nat} {n0 : Nat} {a1 : Int} {v2 : Value} {w : World} {h : J3} {S : Nat → Prop} (hcs : (V6 74 2 (.slice p0.1 n0 p0.2) n0 (css.map idC)).P S w) (hlt : ∀ b, S b → b < w.heap.size) (hw : Know h w S) (hn0 : n0 = css.length) (hcap : p0.2 = n0) (hone : ∀ cs ∈ css, ∀ u ∈ cs, u.oneCell' = true) (hone1 : (([cs1].map idC).all fun x => x.all Value.oneCell') = true) (hl1 : cs1.length = 2) (f2 : FrS h 2 v2 ([cs1].map idC)) (H : gInsN 24 css a1 cs1 = some r) :
    Does Try.prog 79 (List.toArray [.slice p0.1 n0 p0.2, .int .i64 a1, v2]) w (fun v w' => ∃ x : Option Addr × Nat, v = .slice x.1 r.length x.2 ∧ Turn w w' S (V6 74 2 (.slice x.1 r.length x.2) r.length (r.map idC))) := by
 obtain ⟨rfl, g0, g1, g2, g3⟩ := gInsN_some H
 obtain ⟨ax, c2, rfl, hc2, hm2, f2r⟩ := f2.out
 have hone1 : ∀ u ∈ cs1, u.oneCell' = true := fun u hu => List.all_eq_true.1 (List.all_eq_true.1 hone1 cs1 (by simp [idC])) u hu
 have hins : (insL css a1 cs1).length = css.length + 1 := insL_len g1 g0
 have h_hi : Zo css a1 css.length = some (css.drop a1.toNat) := Vd (by omega)
 have l_hi : (css.drop a1.toNat).length = css.length - a1.toNat := List.length_drop
 refine enter (n := 95) Try.func79 rfl rfl rfl S [V6 74 2 (.slice p0.1 n0 p0.2) n0 (css.map idC)] (Sat.one hcs hlt) ?_
 refine c_know (fun w hF hS => rowO_all (i := 0) hS rfl) (fun hall => ?_)
 rw [Uo] at hall
 refine Jf ?_
 refine Jb ?_
 refine Ja rfl rfl rfl (Jc (v := .slice none 0 0) rfl) ?_
 refine Jg ?_
 refine Jf ?_
 refine Jb ?_
 refine Ja rfl rfl rfl (Jd (v := .slice p0.1 n0 p0.2) rfl) ?_
 refine Ja rfl rfl rfl (Jd (v := .int .i64 a1) rfl) ?_
 refine Yw (fun w hF hS => Wq (xs := css) Try.underlying69 Try.sizeOf74 rfl rfl hn0 (by omega) h_hi) rfl rfl rfl ?_
 refine Jg ?_
 refine Jf ?_
 refine Jb ?_
 refine Ja rfl rfl rfl (Jd (v := .slice ax 1 c2) rfl) ?_
 refine Ja rfl rfl rfl (r_len Try.underlying69 rfl) ?_
 refine Ja rfl rfl rfl (Jc (v := .int .i64 ((1 : Nat) : Int)) rfl) ?_
 refine Jg ?_
 refine Jf ?_
 refine Jf ?_
 refine Jb ?_
 refine Ja rfl rfl rfl (Jd (v := .int .i64 ((1 : Nat) : Int)) rfl) ?_
 refine Ja rfl rfl rfl (Xl rfl rfl) ?_
 refine Jg ?_
 refine Qf (b := (decide (((1 : Nat) : Int) = 0))) rfl (fun hb => absurd hb (by decide)) (fun hb => ?_)
 refine Jt ?_
 refine Jf ?_
 refine Jb ?_
 refine Ja rfl rfl rfl (Jd (v := .slice p0.1 n0 p0.2) rfl) ?_
 refine Ja rfl rfl rfl (r_lenN Try.underlying69 rfl hn0) ?_
 refine Ja rfl rfl rfl (Jc (v := .int .i64 (css.length : Int)) rfl) ?_
 refine Jg ?_
 refine Jf ?_
 refine Jf ?_
 refine Jb ?_
 refine Ja rfl rfl rfl (Jd (v := .int .i64 a1) rfl) ?_
 refine Ja rfl rfl rfl (Jd (v := .int .i64 (css.length : Int)) rfl) ?_
 refine Ja rfl rfl rfl (Xl rfl rfl) ?_
 refine Jg ?_
 refine Qf (b := (decide (a1 = (css.length : Int)))) rfl (fun hb => ?_) (fun hb => ?_)
 ·have hab : a1 = css.length := of_decide_eq_true hb
  have he : css ++ [cs1] = insL css a1 cs1 := by
   have ht : a1.toNat = css.length := by omega
   unfold insL; rw [ht, List.take_length, List.drop_length, List.append_nil]
  refine Jf ?_
  refine Jb ?_
  refine Ja rfl rfl rfl (Jd (v := .slice p0.1 n0 p0.2) rfl) ?_
  refine Ja rfl rfl rfl (Jd (v := .slice ax 1 c2) rfl) ?_
  obtain ⟨ad, rfl⟩ : ∃ ad, ax = some ad := by
   rcases f2r with hz | ⟨b, off, cur, t_, k_, ha, _⟩
   ·simp at hz
   ·exact ⟨_, ha⟩
  refine Qs (turns_appendO (i := 0) (sz := 2) (by_ := 24) (rds := []) (news := [cs1].map idC) (m := n0) (q := 1) (p := p0) Try.underlying69 (Xe Try.typeInfo74) rfl rfl rfl rfl rfl rfl rfl rfl rfl (fun x hx => by rw [Uo] at hx; rw [List.mem_singleton.1 hx]; exact hl1) (fun w L' hF hS hj => f2r.row (hw.now hF)) (fun x hx => by rw [Uo] at hx; rw [List.mem_singleton.1 hx]; exact hone1) (by simp only [maxLen]; omega) (by rw [hn0]; exact g2)) rfl rfl rfl (fun p1 => ?_)
  refine Ja rfl rfl rfl (Jc (v := .slice p1.1 (n0 + 1) p1.2) rfl) ?_
  refine Jg ?_
  refine Ju ?_
  refine Qq (v := .slice p1.1 (n0 + 1) p1.2) rfl rfl (Vl p1 (i := 0) rfl (by rw [hins, hn0]) (Imp.of (by rw [hins, hn0, ← List.map_append, he])))
 ·have hab : ¬ a1 = css.length := of_decide_eq_false hb
  refine Jt ?_
  refine Jf ?_
  refine Jf ?_
  refine Jb ?_
  refine Ja rfl rfl rfl (Jd (v := .int .i64 (css.length : Int)) rfl) ?_
  refine Ja rfl rfl rfl (Jd (v := .int .i64 ((1 : Nat) : Int)) rfl) ?_
  refine Ja rfl rfl rfl (r_add rfl rfl (by omega)) ?_
  refine Ja rfl rfl rfl (Jd (v := .slice p0.1 n0 p0.2) rfl) ?_
  refine Ja rfl rfl rfl (r_cap Try.underlying69 rfl) ?_
  refine Ja rfl rfl rfl (Wj rfl rfl) ?_
  refine Jg ?_
  refine Qf (b := (decide ((p0.2 : Int) < (css.length : Int) + ((1 : Nat) : Int)))) rfl (fun hb => ?_) (fun hb => absurd (of_decide_eq_false hb) (by omega))
  have h_lo : Zo css 0 a1 = some (css.take a1.toNat) := gCut_to (by omega)
  have l_lo : (css.take a1.toNat).length = a1.toNat := by rw [List.length_take]; omega
  refine Jf ?_
  refine Jb ?_
  refine Ja rfl rfl rfl (Jd (v := .slice p0.1 n0 p0.2) rfl) ?_
  refine Ja rfl rfl rfl (Jd (v := .int .i64 a1) rfl) ?_
  refine Yw (v := .slice p0.1 (css.take a1.toNat).length p0.2) (fun w hF hS => run_sliceHO0 (xs := css) Try.underlying69 Try.sizeOf74 rfl rfl hn0 (by omega) h_lo) rfl rfl rfl ?_
  refine Ja rfl rfl rfl (Jd (v := .int .i64 (css.length : Int)) rfl) ?_
  refine Ja rfl rfl rfl (Jd (v := .int .i64 ((1 : Nat) : Int)) rfl) ?_
  refine Ja rfl rfl rfl (r_add rfl rfl (by omega)) ?_
  refine Ja rfl rfl rfl (Jd (v := .int .i64 a1) rfl) ?_
  refine Ja rfl rfl rfl (r_sub rfl rfl (by omega)) ?_
  have hk : (css.length : Int) + ((1 : Nat) : Int) - a1 = ((css.length + 1 - a1.toNat : Nat) : Int) := by omega
  rw [l_lo, hk]
  have hsum : a1.toNat + (css.length + 1 - a1.toNat) = css.length + 1 := by omega
  refine Wp (makes_growZ (i := 0) (sz := 2) (by_ := 24) (xs := css.map idC) (p := p0) (m := n0) (a := a1.toNat) (k := css.length + 1 - a1.toNat) Try.underlying69 Try.underlying3 (Xe Try.typeInfo74) rfl rfl rfl rfl rfl rfl rfl (by omega) rfl (by omega) (by omega) (by rw [hsum]; simp only [maxLen]; omega) (by rw [hsum]; exact g2)) rfl rfl rfl (fun p1 => ?_)
  refine Ja rfl rfl rfl (Jc (v := .slice p1.1 (a1.toNat + (css.length + 1 - a1.toNat)) p1.2) rfl) ?_
  refine Jg ?_
  have hr1 : (css.map idC).take a1.toNat ++ List.replicate (css.length + 1 - a1.toNat) [.int .i64 0, str []] = (css.take a1.toNat ++ (List.replicate (css.length + 1 - a1.toNat) [.int .i64 0, str []])) := by rw [Uo]
  refine Xv 1 rfl (Imp.of (congrArg (Jz 74 2 (.slice p1.1 (a1.toNat + (css.length + 1 - a1.toNat)) p1.2) (a1.toNat + (css.length + 1 - a1.toNat))) hr1)) ?_
  have len1 : (css.take a1.toNat ++ (List.replicate (css.length + 1 - a1.toNat) [.int .i64 0, str []])).length = (a1.toNat + (css.length + 1 - a1.toNat)) := by rw [List.length_append, l_lo, List.length_replicate]
  generalize hR1 : (css.take a1.toNat ++ (List.replicate (css.length + 1 - a1.toNat) [.int .i64 0, str []])) = R1 at len1
  have hcut1 : Zo R1 a1 R1.length = some (R1.drop a1.toNat) := Vd (by omega)
  have ldr1 : (R1.drop a1.toNat).length = css.length + 1 - a1.toNat := by rw [List.length_drop, len1]; omega
  refine Jf ?_
  refine Jb ?_
  refine Ja rfl rfl rfl (Jd (v := .slice p1.1 (a1.toNat + (css.length + 1 - a1.toNat)) p1.2) rfl) ?_
  refine Ja rfl rfl rfl (Jd (v := .int .i64 a1) rfl) ?_
  refine Yw (v := .slice (Z1 p1.1 a1.toNat p1.2 2) (R1.drop a1.toNat).length (p1.2 - a1.toNat)) (fun w hF hS => Wq (xs := R1) Try.underlying69 Try.sizeOf74 rfl rfl len1.symm (capOf (i := 1) hS rfl) hcut1) rfl rfl rfl ?_
  refine Ja rfl rfl rfl (Jd (v := .slice ax 1 c2) rfl) ?_
  refine Qs (turns_copyK (i := 1) (rds := []) (xs := R1) (news := [cs1].map idC) (sz := 2) (m := (a1.toNat + (css.length + 1 - a1.toNat))) (a := a1.toNat) (q := 1) (p := p1) Try.underlying69 (Xe Try.typeInfo74) rfl rfl len1.symm rfl (by omega) rfl (by omega) rfl (by omega) (fun w L' hF hS hj => f2r.row (hw.now hF)) (fun x hx => by rw [Uo] at hx; rw [List.mem_singleton.1 hx]; exact hl1) (fun x hx => by rw [Uo] at hx; rw [List.mem_singleton.1 hx]; exact hone1)) rfl rfl rfl (fun _ => ?_)
  refine Jg ?_
  have len2 : (R1.take a1.toNat ++ [cs1].map idC ++ R1.drop (a1.toNat + 1)).length = (a1.toNat + (css.length + 1 - a1.toNat)) := by simp only [List.length_append, List.length_take, List.length_drop, List.length_map, List.length_cons, List.length_nil, len1]; omega
  generalize hR2 : R1.take a1.toNat ++ [cs1].map idC ++ R1.drop (a1.toNat + 1) = R2 at len2
  have hcut2 : Zo R2 (a1 + ((1 : Nat) : Int)) R2.length = some (R2.drop (a1 + ((1 : Nat) : Int)).toNat) := Vd (by omega)
  have ht1 : (a1 + ((1 : Nat) : Int)).toNat = a1.toNat + 1 := by omega
  rw [ht1] at hcut2
  have ldr2 : (R2.drop (a1.toNat + 1)).length = css.length - a1.toNat := by rw [List.length_drop, len2]; omega
  refine Jf ?_
  exact Xf (Kd.p :: Kd.p :: Kd.p :: Kd.p :: Kd.d [1] _ :: Kd.p :: Kd.p :: Kd.d [0] _ :: Kd.t 1 [0] _ _ :: []) 0 mixed (by
   refine Jn rfl rfl (Jd (v := .slice p1.1 (a1.toNat + (css.length + 1 - a1.toNat)) p1.2) rfl) ?_
   refine Jn rfl rfl (Jd (v := .int .i64 a1) rfl) ?_
   refine Jn rfl rfl (Jd (v := .int .i64 ((1 : Nat) : Int)) rfl) ?_
   refine Jn rfl rfl (r_add rfl rfl (by omega)) ?_
   refine U2 (v := .slice (Z1 p1.1 (a1.toNat + 1) p1.2 2) (R2.drop (a1.toNat + 1)).length (p1.2 - (a1.toNat + 1))) (fun w L' hF hS hi => ht1 ▸ Wq (xs := R2) Try.underlying69 Try.sizeOf74 rfl rfl len2.symm (capOf (i := 1) hS ((hi 1 (by simp)).trans rfl)) (ht1.symm ▸ hcut2)) rfl rfl ?_
   refine Jn rfl rfl (Jd (v := .slice p0.1 n0 p0.2) rfl) ?_
   refine Jn rfl rfl (Jd (v := .int .i64 a1) rfl) ?_
   refine U2 (v := .slice (Z1 p0.1 a1.toNat p0.2 2) (css.drop a1.toNat).length (p0.2 - a1.toNat)) (fun w L' hF hS hi => Wq (xs := css) Try.underlying69 Try.sizeOf74 rfl rfl hn0 (by omega) h_hi) rfl rfl ?_
   refine d_turn (Cv := fun _ => Jz 74 2 (.slice p1.1 (a1.toNat + (css.length + 1 - a1.toNat)) p1.2) (a1.toNat + (css.length + 1 - a1.toNat)) (R2.take (a1.toNat + 1) ++ (css.drop a1.toNat).map idC ++ R2.drop (a1.toNat + 1 + (css.drop a1.toNat).length))) ()
    (turns_copyK (i := 1) (rds := [0]) (xs := R2) (news := (css.drop a1.toNat).map idC) (sz := 2) (m := (a1.toNat + (css.length + 1 - a1.toNat))) (a := a1.toNat + 1) (q := (css.drop a1.toNat).length) (p := p1) Try.underlying69 (Xe Try.typeInfo74) rfl rfl len2.symm rfl (by omega) rfl (by omega) (List.length_map _).symm (by omega)
     (fun w L' hF hS hj => Row.cutG (xs := css) (f := idC) (offOf (i := 0) hS ((hj 0 (by simp)).trans rfl)) hn0 (by omega) h_hi) (by rw [Uo]; exact fun x hx => hall x (List.mem_of_mem_drop hx)) (by rw [Uo]; exact fun x hx => hone x (List.mem_of_mem_drop hx))) (fun _ => rfl) rfl rfl (fun _ => ?_)
   refine V1 ?_
   have hch : R2.take (a1.toNat + 1) ++ (css.drop a1.toNat).map idC ++ R2.drop (a1.toNat + 1 + (css.drop a1.toNat).length) = (insL css a1 cs1).map idC := by
    have e3 : R2.drop (a1.toNat + 1 + (css.drop a1.toNat).length) = [] := List.eq_nil_of_length_eq_zero (by rw [List.length_drop, len2]; omega)
    have t1 : R1.take a1.toNat = css.take a1.toNat := by rw [← hR1, List.take_append_of_le_length (by omega), List.take_of_length_le (by omega)]
    have t2 : R2.take (a1.toNat + 1) = css.take a1.toNat ++ [cs1] := by
     rw [← hR2, t1, List.take_append_of_le_length (by simp only [List.length_append, List.length_map, List.length_cons, List.length_nil, l_lo]; omega), List.take_of_length_le (by simp only [List.length_append, List.length_map, List.length_cons, List.length_nil, l_lo]; omega), Uo]
    rw [e3, t2, List.append_nil, Uo, Uo, List.append_assoc]; rfl
   refine Jf ?_
   refine Jb ?_
   refine Ja rfl rfl rfl (Jd (v := .slice p1.1 (a1.toNat + (css.length + 1 - a1.toNat)) p1.2) rfl) ?_
   refine Ja rfl rfl rfl (Jc (v := .slice p1.1 (a1.toNat + (css.length + 1 - a1.toNat)) p1.2) rfl) ?_
   refine Jg ?_
   refine Ju ?_
   refine Xv 1 rfl (Z7 _ _ _ _ _) ?_
   refine Qq (v := .slice p1.1 (a1.toNat + (css.length + 1 - a1.toNat)) p1.2) rfl rfl (Vl p1 (i := 1) rfl (by rw [hins, hsum]) (Imp.of (by rw [hins, hch, hsum])))
   ) (by kernel_rfl)
theorem k31 {a0 : (List UInt8)} {a1 : T_tag_File} {v1_1 : Value} {r : (List UInt8) × Int} {w : World} {h : J3} (hw : Know h w Wf) (f1_1 : FrN h 1 v1_1 gs_tag_Entry a1.Dirs) (H : Wu a0 a1 = some r) : Does Try.prog 31 (List.toArray [str a0, .agg #[.bool a1.Big, v1_1]]) w (fun v w' => v = (.tuple #[str r.1, .int .i64 r.2]) ∧ Grow w w') := by
 refine enter (n := 44) Try.func31 rfl rfl rfl Wf [] (Sat.nil _ _) ?_
 refine Z2 Yg ?_
 refine Jf ?_
 refine Jb ?_
 refine U6 (cs := [.bool a1.Big, v1_1]) rfl rfl rfl rfl (fun b3 => ?_)
 refine Ja rfl rfl rfl (Jc (v := str []) rfl) ?_
 refine Ja rfl rfl rfl (Jc (v := .int .i64 0) rfl) ?_
 refine Jg ?_
 refine Jf ?_
 refine Jf ?_
 refine Jb ?_
 refine Zd (i := 1) (vs := [.bool a1.Big, v1_1]) Try.isAgg24 Try.sizeOf24 rfl rfl rfl rfl rfl ?_
 obtain ⟨t12, h_t12, H17⟩ := Jh H; clear H
 refine Q4 (fun w hF hS => k41 (Jy w) (f1_1.mono (hw.now hF)) h_t12) Try.call41 rfl rfl rfl ?_
 refine Ja rfl rfl rfl (Jc (v := .int .i64 t12) rfl) ?_
 refine Jg ?_
 refine Jf ?_
 refine Jb ?_
 refine Ja rfl rfl rfl (Jd (v := .int .i64 t12) rfl) ?_
 refine Ja rfl rfl rfl (Zr rfl rfl) ?_
 refine Jg ?_
 refine Qf (b := (decide (t12 ≠ 0))) rfl (fun hb => ?_) (fun hb => ?_)
 ·have H18 := Jr hb H17; clear H17
  refine Jf ?_
  refine Jb ?_
  refine Ja rfl rfl rfl (Jd (v := .int .i64 t12) rfl) ?_
  refine Ja rfl rfl rfl (Jc (v := str []) rfl) ?_
  refine Ja rfl rfl rfl (Jc (v := .int .i64 t12) rfl) ?_
  refine Jg ?_
  refine Ju ?_
  obtain rfl := Option.some.inj H18
  refine W8 (v1 := str []) (v2 := .int .i64 t12) rfl rfl rfl (Yn rfl)
 ·have H19 := Jq hb H17; clear H17
  refine Jt ?_
  refine Jf ?_
  refine Jb ?_
  refine Ja rfl rfl rfl (Jd (v := str a0) rfl) ?_
  obtain ⟨t18, h_t18, H20⟩ := Jh H19; clear H19
  refine Wp (Xs (rds := []) (G := fun x : (Option Addr × Nat) => .tuple #[.slice x.1 t18.1.length x.2, .int .i64 t18.2]) (C := fun x : (Option Addr × Nat) => rofD true 74 2 g_tag_Segment (.slice x.1 t18.1.length x.2) t18.1.length t18.1) (fun w L' hF hS hi => k33 (Jy w)  h_t18) Try.call33 rfl) rfl rfl rfl (fun p => ?_)
  refine c_rofD 2 rfl (fun hp css hn hc pf => ?_)
  rw [hn]
  refine Xo 2 rfl ?_
  refine Vh 0 2 rfl rfl (by decide) (fun _ _ => Vk) (fun hp_2 hle hle_2 => ?_)
  refine Ja rfl rfl rfl (Jd (v := .tuple #[.slice p.1 css.length p.2, .int .i64 t18.2]) rfl) ?_
  refine Ja rfl rfl rfl (Qh (v := .slice p.1 css.length p.2) rfl rfl) ?_
  refine Ja rfl rfl rfl (Qh (v := .int .i64 t18.2) rfl rfl) ?_
  refine Ja rfl rfl rfl (Jc (v := .slice p.1 css.length p.2) rfl) ?_
  refine Ja rfl rfl rfl (Jc (v := .int .i64 t18.2) rfl) ?_
  refine Jg ?_
  try dsimp only [z1, z2, z5, z6, z7, z8]
  refine Jf ?_
  refine Jf ?_
  refine Jb ?_
  refine Ja rfl rfl rfl (Jd (v := .int .i64 t18.2) rfl) ?_
  refine Ja rfl rfl rfl (Zr rfl rfl) ?_
  refine Jg ?_
  try dsimp only [z1, z2, z5, z6, z7, z8]
  refine Qf (b := (decide (t18.2 ≠ 0))) rfl (fun hb => ?_) (fun hb => ?_)
  ·have H21 := Jr hb H20; clear H20
   refine Jf ?_
   refine Jb ?_
   refine Ja rfl rfl rfl (Jd (v := .int .i64 t18.2) rfl) ?_
   refine Ja rfl rfl rfl (Jc (v := str []) rfl) ?_
   refine Ja rfl rfl rfl (Jc (v := .int .i64 t18.2) rfl) ?_
   refine Jg ?_
   try dsimp only [z1, z2, z5, z6, z7, z8]
   refine Ju ?_
   obtain rfl := Option.some.inj H21
   refine W8 (v1 := str []) (v2 := .int .i64 t18.2) rfl rfl rfl (Yn rfl)
  ·have H22 := Jq hb H20; clear H20
   refine Jt ?_
   refine Jf ?_
   refine Jb ?_
   refine Zd (i := 1) (vs := [.bool a1.Big, v1_1]) Try.isAgg24 Try.sizeOf24 rfl rfl rfl rfl rfl ?_
   obtain ⟨t25, h_t25, H23⟩ := Jh H22; clear H22
   refine Q4 (fun w hF hS => k70 (Jy w) (f1_1.mono (hw.now hF)) h_t25) Try.call70 rfl rfl rfl ?_
   obtain ⟨t26, h_t26, H24⟩ := Jh H23; clear H23
   refine Ja rfl rfl rfl (r_concatG rfl rfl h_t26) ?_
   refine Ja rfl rfl rfl (Y5 (pl := #[(0, 1), (1, 1)]) (ps := [(0, .int .i64 225), (1, str t26)]) (cells := #[.int .i64 225, str t26]) Try.zeroValue74 Try.runUnderlying74 (fun w => by kernel_rfl) rfl rfl) ?_
   refine Zc (cs := [.int .i64 0, str []]) Try.zeroValue74 rfl rfl rfl (fun b4 => ?_)
   refine Qy (i := 4) (vs := [.int .i64 225, str t26]) (cs' := [.int .i64 225, str t26]) Try.sizeOf74 rfl rfl rfl rfl rfl rfl rfl rfl rfl ?_
   refine Jg ?_
   try dsimp only [z1, z2, z5, z6, z7, z8]
   refine Xq (r := r) (σ := (List T_tag_Segment)) (τ := (List (List Value)) × (Option Addr × Nat)) (fun s => Yz s) (fun s t => [(7, .slice t.2.1 t.1.length t.2.2)]) (fun s t => [Yu Yg hp_2, V6 74 2 (.slice t.2.1 t.1.length t.2.2) t.1.length (t.1.map idC)]) (fun s t => AllC g_tag_Segment hp_2 2 t.1 s) ?_ ?_
   ·refine Jf ?_
    try dsimp only [z1, z2, z5, z6, z7, z8]
    refine Jb ?_
    refine Ja rfl rfl rfl (Jd (v := .slice p.1 css.length p.2) rfl) ?_
    obtain ⟨t29, h_t29, H27⟩ := Jh H24; clear H24
    refine Q4 (fun w hF hS => k78 (Jy w) (Uv (xs := t18.1) (frs_off (i := 3) rfl hS rfl) ((pf.mono hle_2).mono (U7 (i := 0) hS rfl Vk))) h_t29) Try.call78 rfl rfl rfl ?_
    refine Ja rfl rfl rfl (Jc (v := .int .i64 t29) rfl) ?_
    refine Jg ?_
    try dsimp only [z1, z2, z5, z6, z7, z8]
    refine Jf ?_
    refine Jb ?_
    refine Ja rfl rfl rfl (Jd (v := .int .i64 t29) rfl) ?_
    refine Ja rfl rfl rfl (r_geq rfl rfl) ?_
    refine Jg ?_
    try dsimp only [z1, z2, z5, z6, z7, z8]
    refine Qf (b := (decide (0 ≤ t29))) rfl (fun hb => ?_) (fun hb => ?_)
    ·have H28 := Jr hb H27; clear H27
     refine Jb ?_
     refine Ja rfl rfl rfl (Jd (v := .slice p.1 css.length p.2) rfl) ?_
     refine Ja rfl rfl rfl (Jd (v := .int .i64 t29) rfl) ?_
     refine Zd (i := 4) (vs := [.int .i64 225, str t26]) Try.isAgg74 Try.sizeOf74 rfl rfl rfl rfl rfl ?_
     obtain ⟨t35, h_t35, H29⟩ := Jh H28; clear H28
     refine Yw (fun w hF hS => Ub Try.underlying69 Try.sizeOf74 rfl rfl (offOf (i := 3) hS rfl) rfl ((pf.mono hle_2).ix h_t35)) rfl rfl rfl ?_
     obtain ⟨l3, h_l3, H30⟩ := Jh H29; clear H29
     refine l_turn0 (turns_storeGO (rds := []) (q := 3) (j := 0) (i := t29) (sz := 2) (hm := rfl) (f := idC) (xs := css) (z := [.int .i64 225, str t26]) (vs := [.int .i64 225, str t26]) Try.sizeOf74 rfl rfl rfl rfl rfl rfl rfl rfl (fun y_ hy_ => (pf.mono hle_2).wrE h_l3 rfl y_ hy_) ((pf.mono hle_2).gSetE h_l3)) rfl rfl (fun _ => ?_)
     have pf_3 : AllC g_tag_Segment hp_2 2 (List.set css (Int.toNat t29) [Value.int .i64 225, str t26]) l3 := AllC.setE (pf.mono hle_2) h_l3 rfl (⟨rfl, rfl⟩)
     refine Jg ?_
     try dsimp only [z1, z2, z5, z6, z7, z8]
     rw [show css.length = (List.set css (Int.toNat t29) [Value.int .i64 225, str t26]).length from (rfl.trans (setE_len _ _ _))]
     refine Jp l3 ((List.set css (Int.toNat t29) [Value.int .i64 225, str t26]), p) 0 [0, 3] (by exact ⟨rfl, trivial⟩) (by decide) (by kernel_rfl) (by exact ⟨H30, pf_3⟩) (Nat.lt_succ_self _)
    ·have H31 := Jq hb H27; clear H27
     refine Jb ?_
     refine Ja rfl rfl rfl (Jd (v := .slice p.1 css.length p.2) rfl) ?_
     refine Zd (i := 4) (vs := [.int .i64 225, str t26]) Try.isAgg74 Try.sizeOf74 rfl rfl rfl rfl rfl ?_
     refine Qx (vs := [.agg #[.int .i64 225, str t26]]) (cs := [.int .i64 225, str t26]) Try.underlying69 Try.sizeOf74 Try.zeroValue74 rfl rfl rfl rfl rfl rfl rfl (fun b5 => ?_)
     obtain ⟨t39, h_t39, H32⟩ := Jh H31; clear H31
     obtain ⟨hg, pf_4⟩ := AllC.ins (cs := [.int .i64 225, str t26]) (pf.mono hle_2) h_t39 rfl (⟨rfl, rfl⟩)
     refine Qs (Qj (i := 3) (rds := [5]) (G := fun x : Option Addr × Nat => .slice x.1 (insL css 0 [.int .i64 225, str t26]).length x.2) (C := fun x : Option Addr × Nat => V6 74 2 (.slice x.1 (insL css 0 [.int .i64 225, str t26]).length x.2) (insL css 0 [.int .i64 225, str t26]).length ((insL css 0 [.int .i64 225, str t26]).map idC)) rfl (fun w L' S hF hS hi hp hlt ho hA => k79 (p0 := p) (cs1 := [.int .i64 225, str t26]) hp hlt (Xg w S) rfl ((hc rfl).trans hn) (AllC.ones (pf.mono hle_2) (fun c_ x_ f_ => by obtain ⟨q0_, q1_⟩ := f_; exact fun j_ hj_ => match j_, hj_ with | 0, _ => (by rw [q0_]; rfl) | 1, _ => (by rw [q1_]; rfl))) rfl rfl (frb_box (j := 5) (xs := [[.int .i64 225, str t26]]) (f := idC) hA hS (by decide) ((hi 5 (by simp)).trans rfl) rfl rfl rfl rfl) hg) Try.call79 rfl) rfl rfl rfl (fun p_3 => ?_)
     refine Ja rfl rfl rfl (Jc (v := .slice p_3.1 ((insL css 0 [.int .i64 225, str t26]).length) p_3.2) rfl) ?_
     refine Jg ?_
     try dsimp only [z1, z2, z5, z6, z7, z8]
     refine Jp t39 ((insL css 0 [.int .i64 225, str t26]), p_3) 0 [0, 3] (by exact ⟨rfl, trivial⟩) (by decide) (by kernel_rfl) (by exact ⟨H32, pf_4⟩) (Nat.lt_succ_self _)
   ·rintro l ⟨css_2, p_2⟩ gg H25 pf_2
    replace H25 : Yz l = some r := H25
    try dsimp only
    refine Jf ?_
    refine Jb ?_
    refine Ja rfl rfl rfl (Jd (v := .slice p_2.1 css_2.length p_2.2) rfl) ?_
    obtain ⟨t41, h_t41, H26⟩ := Jh H25; clear H25
    refine Q4 (fun w hF hS => k35 (Jy w) (Uv (xs := l) (frs_off (i := 1) rfl hS rfl) (pf_2.mono (U7 (i := 0) hS rfl Vk))) h_t41) Try.call35 rfl rfl rfl ?_
    refine Ja rfl rfl rfl (Qh (v := str t41.1) rfl rfl) ?_
    refine Ja rfl rfl rfl (Qh (v := .int .i64 t41.2) rfl rfl) ?_
    refine Ja rfl rfl rfl (Jc (v := str t41.1) rfl) ?_
    refine Ja rfl rfl rfl (Jc (v := .int .i64 t41.2) rfl) ?_
    refine Jg ?_
    refine Ju ?_
    obtain rfl := Option.some.inj H26
    refine W8 (v1 := str t41.1) (v2 := .int .i64 t41.2) rfl rfl rfl (Yn rfl)
theorem k37 {a0 : (List UInt8)} {r : T_tag_File × Int} {w : World} {h : J3} (hw : Know h w Wf) (H : tag_Read a0 = some r) : Does Try.prog 37 (List.toArray [str a0]) w (fun v w' => ∃ x : (Option Addr × Nat), v = (.tuple #[.agg #[.bool r.1.Big, .slice x.1 r.1.Dirs.length x.2], .int .i64 r.2]) ∧ Turn w w' Wf (U8 27 1 gs_tag_Entry (.slice x.1 r.1.Dirs.length x.2) r.1.Dirs.length r.1.Dirs)) := by
 refine enter (n := 15) Try.func37 rfl rfl rfl Wf [] (Sat.nil _ _) ?_
 refine Z2 Yg ?_
 refine Jf ?_
 refine Jb ?_
 refine Zc (cs := [.bool false, .slice none 0 0]) Try.zeroValue24 rfl rfl rfl (fun b2 => ?_)
 refine Ja rfl rfl rfl (Jc (v := .int .i64 0) rfl) ?_
 refine Jg ?_
 refine Jf ?_
 refine Jb ?_
 refine Ja rfl rfl rfl (Jd (v := str a0) rfl) ?_
 obtain ⟨t9, h_t9, H2⟩ := Jh H; clear H
 refine Wp (Xs (rds := []) (G := fun x : (Option Addr × Nat) × (Option Addr × Nat) => .tuple #[.agg #[.bool t9.1.Big, .slice x.1.1 t9.1.Dirs.length x.1.2], .slice x.2.1 t9.2.1.length x.2.2, .int .i64 t9.2.2]) (C := fun x : (Option Addr × Nat) × (Option Addr × Nat) => J0 (U8 27 1 gs_tag_Entry (.slice x.1.1 t9.1.Dirs.length x.1.2) t9.1.Dirs.length t9.1.Dirs) (Jz 62 2 (.slice x.2.1 t9.2.1.length x.2.2) t9.2.1.length (t9.2.1.map Jo))) (fun w L' hF hS hi => k71 (Jy w)  h_t9) Try.call71 rfl) rfl rfl rfl (fun ⟨p, p_2⟩ => ?_)
 refine Xo 2 rfl ?_
 refine c_rowD 2 rfl (fun hp css hn pf => ?_)
 rw [hn]
 refine Xo 2 rfl ?_
 refine Vh 0 2 rfl rfl (by decide) (fun _ _ => Vk) (fun hp_2 hle hle_2 => ?_)
 refine Ja rfl rfl rfl (Jd (v := .tuple #[.agg #[.bool t9.1.Big, .slice p.1 css.length p.2], .slice p_2.1 t9.2.1.length p_2.2, .int .i64 t9.2.2]) rfl) ?_
 refine Ja rfl rfl rfl (Qh (v := .agg #[.bool t9.1.Big, .slice p.1 css.length p.2]) rfl rfl) ?_
 refine Ja rfl rfl rfl (Qh (v := .slice p_2.1 t9.2.1.length p_2.2) rfl rfl) ?_
 refine Ja rfl rfl rfl (Qh (v := .int .i64 t9.2.2) rfl rfl) ?_
 refine Zc (cs := [.bool false, .slice none 0 0]) Try.zeroValue24 rfl rfl rfl (fun b3 => ?_)
 refine Qy (i := 5) (vs := [.bool t9.1.Big, .slice p.1 css.length p.2]) (cs' := [.bool t9.1.Big, .slice p.1 css.length p.2]) Try.sizeOf24 rfl rfl rfl rfl rfl rfl rfl rfl rfl ?_
 refine Ja rfl rfl rfl (Jc (v := .slice p_2.1 t9.2.1.length p_2.2) rfl) ?_
 refine Ja rfl rfl rfl (Jc (v := .int .i64 t9.2.2) rfl) ?_
 refine Jg ?_
 try dsimp only [z1, z2, z5, z6, z7, z8]
 refine Jf ?_
 refine Jb ?_
 refine Zd (i := 5) (vs := [.bool t9.1.Big, .slice p.1 css.length p.2]) Try.isAgg24 Try.sizeOf24 rfl rfl rfl rfl rfl ?_
 refine Ja rfl rfl rfl (Jd (v := .int .i64 t9.2.2) rfl) ?_
 refine Qy (i := 1) (vs := [.bool t9.1.Big, .slice p.1 css.length p.2]) (cs' := [.bool t9.1.Big, .slice p.1 css.length p.2]) Try.sizeOf24 rfl rfl rfl rfl rfl rfl rfl rfl rfl ?_
 refine Ja rfl rfl rfl (Jc (v := .int .i64 t9.2.2) rfl) ?_
 refine Jg ?_
 try dsimp only [z1, z2, z5, z6, z7, z8]
 refine Ju ?_
 obtain rfl := Option.some.inj H2
 refine Jv 0 4 rfl rfl (by decide) ?_
 refine Xv 0 rfl (Vx (p := p) rfl (pf.mono hle_2)) ?_
 refine retCt (i := 1) (vs := [.bool t9.1.Big, .slice p.1 css.length p.2]) (v2 := .int .i64 t9.2.2) Try.isAgg24 Try.sizeOf24 rfl rfl rfl rfl rfl (Vl p (i := 0) rfl (by first | rfl | rw [(show css.length = t9.1.Dirs.length from hn.symm)]) (by first | exact Imp.refl _ | exact Imp.of (by rw [(show css.length = t9.1.Dirs.length from hn.symm)] <;> rfl)))
theorem k32 {a0 : (List UInt8)} {r : T_tag_File × Int} {w : World} {h : J3} (hw : Know h w Wf) (H : Wz a0 = some r) : Does Try.prog 32 (List.toArray [str a0]) w (fun v w' => ∃ x : (Option Addr × Nat), v = (.tuple #[.agg #[.bool r.1.Big, .slice x.1 r.1.Dirs.length x.2], .int .i64 r.2]) ∧ Turn w w' Wf (U8 27 1 gs_tag_Entry (.slice x.1 r.1.Dirs.length x.2) r.1.Dirs.length r.1.Dirs)) := by
 refine enter (n := 30) Try.func32 rfl rfl rfl Wf [] (Sat.nil _ _) ?_
 refine Z2 Yg ?_
 refine Jf ?_
 refine Jb ?_
 refine Zc (cs := [.bool false, .slice none 0 0]) Try.zeroValue24 rfl rfl rfl (fun b1 => ?_)
 refine Ja rfl rfl rfl (Jc (v := .int .i64 0) rfl) ?_
 refine Jg ?_
 refine Jf ?_
 refine Jb ?_
 refine Ja rfl rfl rfl (Jd (v := str a0) rfl) ?_
 obtain ⟨t9, h_t9, H10⟩ := Jh H; clear H
 refine Wp (Xs (rds := []) (G := fun x : (Option Addr × Nat) => .tuple #[.slice x.1 t9.1.length x.2, .int .i64 t9.2]) (C := fun x : (Option Addr × Nat) => rofD true 74 2 g_tag_Segment (.slice x.1 t9.1.length x.2) t9.1.length t9.1) (fun w L' hF hS hi => k33 (Jy w)  h_t9) Try.call33 rfl) rfl rfl rfl (fun p => ?_)
 refine c_rofD 2 rfl (fun hp css hn hc pf => ?_)
 rw [hn]
 refine Xo 2 rfl ?_
 refine Vh 0 2 rfl rfl (by decide) (fun _ _ => Vk) (fun hp_2 hle hle_2 => ?_)
 refine Ja rfl rfl rfl (Jd (v := .tuple #[.slice p.1 css.length p.2, .int .i64 t9.2]) rfl) ?_
 refine Ja rfl rfl rfl (Qh (v := .slice p.1 css.length p.2) rfl rfl) ?_
 refine Ja rfl rfl rfl (Qh (v := .int .i64 t9.2) rfl rfl) ?_
 refine Ja rfl rfl rfl (Jc (v := .slice p.1 css.length p.2) rfl) ?_
 refine Ja rfl rfl rfl (Jc (v := .int .i64 t9.2) rfl) ?_
 refine Jg ?_
 try dsimp only [z1, z2, z5, z6, z7, z8]
 refine Jf ?_
 refine Jf ?_
 refine Jb ?_
 refine Ja rfl rfl rfl (Jd (v := .int .i64 t9.2) rfl) ?_
 refine Ja rfl rfl rfl (Zr rfl rfl) ?_
 refine Jg ?_
 try dsimp only [z1, z2, z5, z6, z7, z8]
 refine Qf (b := (decide (t9.2 ≠ 0))) rfl (fun hb => ?_) (fun hb => ?_)
 ·have H11 := Jr hb H10; clear H10
  refine Jf ?_
  refine Jb ?_
  refine Ja rfl rfl rfl (Y5 (pl := #[(0, 1), (1, 1)]) (ps := []) (cells := #[.bool false, .slice none 0 0]) Try.zeroValue24 Try.runUnderlying24 (fun w => by kernel_rfl) rfl rfl) ?_
  refine Ja rfl rfl rfl (Jd (v := .int .i64 t9.2) rfl) ?_
  refine Qy (i := 1) (vs := [.bool false, .slice none 0 0]) (cs' := [.bool false, .slice none 0 0]) Try.sizeOf24 rfl rfl rfl rfl rfl rfl rfl rfl rfl ?_
  refine Ja rfl rfl rfl (Jc (v := .int .i64 t9.2) rfl) ?_
  refine Jg ?_
  try dsimp only [z1, z2, z5, z6, z7, z8]
  refine Ju ?_
  refine Qb 27 1 ?_
  obtain rfl := Option.some.inj H11
  refine Jv 0 4 rfl rfl (by decide) ?_
  refine Xv 0 rfl (Vx (p := ((none, 0) : Option Addr × Nat)) rfl (AllC.nil (G := gs_tag_Entry) (h := hp_2) (sz := 1))) ?_
  refine retCt (i := 1) (vs := [.bool false, .slice ((none, 0) : Option Addr × Nat).1 (([] : List (List Value)).length) ((none, 0) : Option Addr × Nat).2]) (v2 := .int .i64 t9.2) Try.isAgg24 Try.sizeOf24 rfl rfl rfl rfl rfl (Vl ((none, 0) : Option Addr × Nat) (i := 0) rfl (by first | rfl | rw [(show (([] : List (List Value)).length) = ([] : List (List T_tag_Entry)).length from (AllC.nil (G := gs_tag_Entry) (h := hp_2) (sz := 1)).len)]) (by first | exact Imp.refl _ | exact Imp.of (by rw [(show (([] : List (List Value)).length) = ([] : List (List T_tag_Entry)).length from (AllC.nil (G := gs_tag_Entry) (h := hp_2) (sz := 1)).len)] <;> rfl)))
 ·have H12 := Jq hb H10; clear H10
  refine Jt ?_
  refine Jf ?_
  refine Jb ?_
  refine Ja rfl rfl rfl (Jd (v := .slice p.1 css.length p.2) rfl) ?_
  obtain ⟨t17, h_t17, H13⟩ := Jh H12; clear H12
  refine Q4 (fun w hF hS => k78 (Jy w) (Uv (xs := t9.1) (frs_off (i := 3) rfl hS rfl) ((pf.mono hle_2).mono (U7 (i := 0) hS rfl Vk))) h_t17) Try.call78 rfl rfl rfl ?_
  refine Ja rfl rfl rfl (Jc (v := .int .i64 t17) rfl) ?_
  refine Jg ?_
  try dsimp only [z1, z2, z5, z6, z7, z8]
  refine Jf ?_
  refine Jf ?_
  refine Jb ?_
  refine Ja rfl rfl rfl (Jd (v := .int .i64 t17) rfl) ?_
  refine Ja rfl rfl rfl (Z0 rfl rfl) ?_
  refine Jg ?_
  try dsimp only [z1, z2, z5, z6, z7, z8]
  refine Qf (b := (decide (t17 < 0))) rfl (fun hb => ?_) (fun hb => ?_)
  ·have H14 := Jr hb H13; clear H13
   refine Jf ?_
   refine Jb ?_
   refine Ja rfl rfl rfl (Y5 (pl := #[(0, 1), (1, 1)]) (ps := []) (cells := #[.bool false, .slice none 0 0]) Try.zeroValue24 Try.runUnderlying24 (fun w => by kernel_rfl) rfl rfl) ?_
   refine Qy (i := 1) (vs := [.bool false, .slice none 0 0]) (cs' := [.bool false, .slice none 0 0]) Try.sizeOf24 rfl rfl rfl rfl rfl rfl rfl rfl rfl ?_
   refine Ja rfl rfl rfl (Jc (v := .int .i64 7) rfl) ?_
   refine Jg ?_
   try dsimp only [z1, z2, z5, z6, z7, z8]
   refine Ju ?_
   refine Qb 27 1 ?_
   obtain rfl := Option.some.inj H14
   refine Jv 0 4 rfl rfl (by decide) ?_
   refine Xv 0 rfl (Vx (p := ((none, 0) : Option Addr × Nat)) rfl (AllC.nil (G := gs_tag_Entry) (h := hp_2) (sz := 1))) ?_
   refine retCt (i := 1) (vs := [.bool false, .slice ((none, 0) : Option Addr × Nat).1 (([] : List (List Value)).length) ((none, 0) : Option Addr × Nat).2]) (v2 := .int .i64 7) Try.isAgg24 Try.sizeOf24 rfl rfl rfl rfl rfl (Vl ((none, 0) : Option Addr × Nat) (i := 0) rfl (by first | rfl | rw [(show (([] : List (List Value)).length) = ([] : List (List T_tag_Entry)).length from (AllC.nil (G := gs_tag_Entry) (h := hp_2) (sz := 1)).len)]) (by first | exact Imp.refl _ | exact Imp.of (by rw [(show (([] : List (List Value)).length) = ([] : List (List T_tag_Entry)).length from (AllC.nil (G := gs_tag_Entry) (h := hp_2) (sz := 1)).len)] <;> rfl)))
  ·have H15 := Jq hb H13; clear H13
   refine Jt ?_
   refine Jf ?_
   refine Jb ?_
   refine Ja rfl rfl rfl (Jd (v := .slice p.1 css.length p.2) rfl) ?_
   refine Ja rfl rfl rfl (Jd (v := .int .i64 t17) rfl) ?_
   obtain ⟨t23, h_t23, H16⟩ := Jh H15; clear H15
   refine Yw (fun w hF hS => Ub Try.underlying69 Try.sizeOf74 rfl rfl (offOf (i := 3) hS rfl) rfl ((pf.mono hle_2).ix h_t23)) rfl rfl rfl ?_
   refine c_know (fun w hF hS => someOfO (i := 3) hS rfl ((pf.mono hle_2).ix h_t23)) (fun hs => ?_)
   refine Ja rfl rfl rfl (r_fieldP Try.runUnderlying74 rfl Try.sizeOf9 rfl rfl hs) ?_
   refine Yw (fun w hF hS => Z6 (f := idC) (i := t17) (sz := 2) (j := 1) (v := str t23.Text) Try.isAgg9 rfl rfl (offOf (i := 3) hS rfl) ((pf.mono hle_2).ix h_t23) (rg_of (((pf.mono hle_2).eta h_t23).trans (Ze ((pf.mono hle_2).at h_t23))) rfl)) rfl rfl rfl ?_
   obtain ⟨t26, h_t26, H17⟩ := Jh H16; clear H16
   refine Ja rfl rfl rfl (r_cutFromG Try.underlying9 rfl rfl h_t26) ?_
   obtain ⟨t27, h_t27, H18⟩ := Jh H17; clear H17
   refine Wp (Xs (rds := []) (G := fun x : (Option Addr × Nat) => .tuple #[.agg #[.bool t27.1.Big, .slice x.1 t27.1.Dirs.length x.2], .int .i64 t27.2]) (C := fun x : (Option Addr × Nat) => U8 27 1 gs_tag_Entry (.slice x.1 t27.1.Dirs.length x.2) t27.1.Dirs.length t27.1.Dirs) (fun w L' hF hS hi => k37 (Jy w)  h_t27) Try.call37 rfl) rfl rfl rfl (fun p_2 => ?_)
   refine c_rowD 4 rfl (fun hp_3 css_2 hn_2 pf_2 => ?_)
   rw [hn_2]
   refine Xo 4 rfl ?_
   refine Vh 0 4 rfl rfl (by decide) (fun _ _ => Vk) (fun hp_4 hle_3 hle_4 => ?_)
   refine Ja rfl rfl rfl (Qh (v := .agg #[.bool t27.1.Big, .slice p_2.1 css_2.length p_2.2]) rfl rfl) ?_
   refine Ja rfl rfl rfl (Qh (v := .int .i64 t27.2) rfl rfl) ?_
   refine Qy (i := 1) (vs := [.bool t27.1.Big, .slice p_2.1 css_2.length p_2.2]) (cs' := [.bool t27.1.Big, .slice p_2.1 css_2.length p_2.2]) Try.sizeOf24 rfl rfl rfl rfl rfl rfl rfl rfl rfl ?_
   refine Ja rfl rfl rfl (Jc (v := .int .i64 t27.2) rfl) ?_
   refine Jg ?_
   try dsimp only [z1, z2, z5, z6, z7, z8]
   refine Ju ?_
   obtain rfl := Option.some.inj H18
   refine Jv 0 5 rfl rfl (by decide) ?_
   refine Xv 0 rfl (Vx (p := p_2) rfl (pf_2.mono hle_4)) ?_
   refine retCt (i := 1) (vs := [.bool t27.1.Big, .slice p_2.1 css_2.length p_2.2]) (v2 := .int .i64 t27.2) Try.isAgg24 Try.sizeOf24 rfl rfl rfl rfl rfl (Vl p_2 (i := 0) rfl (by first | rfl | rw [(show css_2.length = t27.1.Dirs.length from hn_2.symm)]) (by first | exact Imp.refl _ | exact Imp.of (by rw [(show css_2.length = t27.1.Dirs.length from hn_2.symm)] <;> rfl)))
theorem k34 {a0 : (List T_tag_Segment)} {v0 : Value} {a1 : (List T_tag_Segment)} {v1 : Value} {r : Bool} {w : World} {h : J3} (hw : Know h w Wf) (f0 : FrN h 2 v0 g_tag_Segment a0) (f1 : FrN h 2 v1 g_tag_Segment a1) (H : X8 a0 a1 = some r) : Does Try.prog 34 (List.toArray [v0, v1]) w (fun v w' => v = (.bool r) ∧ Grow w w') := by
 refine enter (n := 26) Try.func34 rfl rfl rfl Wf [] (Sat.nil _ _) ?_
 refine Jf ?_
 refine Jb ?_
 refine Ja rfl rfl rfl (Jc (v := .bool false) rfl) ?_
 refine Jg ?_
 refine Jf ?_
 refine Jf ?_
 refine Jb ?_
 refine Ja rfl rfl rfl (Jd (v := v0) rfl) ?_
 refine Ja rfl rfl rfl (Zf Try.underlying69 rfl f0) ?_
 refine Ja rfl rfl rfl (Jd (v := v1) rfl) ?_
 refine Ja rfl rfl rfl (Zf Try.underlying69 rfl f1) ?_
 refine Ja rfl rfl rfl (Zr rfl rfl) ?_
 refine Jg ?_
 refine Qf (b := (decide ((a0.length : Int) ≠ (a1.length : Int)))) rfl (fun hb => ?_) (fun hb => ?_)
 ·have H11 := Jr hb H; clear H
  refine Jf ?_
  refine Jb ?_
  refine Ja rfl rfl rfl (Jc (v := .bool false) rfl) ?_
  refine Jg ?_
  refine Ju ?_
  obtain rfl := Option.some.inj H11
  refine Qq (v := .bool false) rfl rfl (Yn rfl)
 ·have H12 := Jq hb H; clear H
  refine Jt ?_
  refine Jf ?_
  refine Jf ?_
  refine Jb ?_
  refine Ja rfl rfl rfl (Jd (v := v0) rfl) ?_
  refine Ja rfl rfl rfl (Zf Try.underlying69 rfl f0) ?_
  refine Ja rfl rfl rfl (Jd (v := .int .i64 0) rfl) ?_
  refine Jg ?_
  refine J4 ?_
  refine V2 (σ := Int) (τ := Unit) (fun next1 s => Qt a0 a1 next1 s) (fun s t => [(0, v0), (1, v1), (12, .int .i64 (a0.length : Int)), (13, .int .i64 s)]) (fun s t => []) (fun s t => True) 0 () [] H12 (by exact trivial) (by exact ⟨rfl, rfl, rfl, rfl, trivial⟩) (by decide) rfl ?_
  rintro x13_2 _ m1 gg H13 _
  clear H12
  replace H13 : Qt a0 a1 (it (fun next1 s => Qt a0 a1 next1 s) m1) x13_2 = some r := H13
  generalize hn1 : it (fun next1 s => Qt a0 a1 next1 s) m1 = next1 at H13
  try dsimp only
  refine Jf ?_
  refine Jb ?_
  refine Ja rfl rfl rfl (Z0 rfl rfl) ?_
  refine Jg ?_
  refine Jf ?_
  refine Qf (b := (decide (x13_2 < (a0.length : Int)))) rfl (fun hb => ?_) (fun hb => ?_)
  ·have H14 := Jr hb H13; clear H13
   refine Jt ?_
   refine Jf ?_
   refine J4 ?_
   refine Jf ?_
   refine Jb ?_
   refine Ja rfl rfl rfl (Jd (v := .int .i64 x13_2) rfl) ?_
   refine Ja rfl rfl rfl (Jc (v := .int .i64 x13_2) rfl) ?_
   refine Jg ?_
   refine Jf ?_
   exact Xf (Kd.p :: Kd.p :: Kd.p :: Kd.d [] _ :: Kd.p :: Kd.p :: Kd.p :: Kd.d [] _ :: Kd.p :: []) 0 mixed (by
    refine Jn rfl rfl (Jd (v := v0) rfl) ?_
    refine Jn rfl rfl (Jd (v := .int .i64 x13_2) rfl) ?_
    have h_t18 := Qi H14
    have H15 := J6 H14
    refine Jn rfl rfl (Y6 Try.underlying69 Try.sizeOf74 rfl rfl f0.frs (f0.ix h_t18)) ?_
    refine d_read (fun w hF => Zp (f := (elC h v0 2)) (i := x13_2) (sz := 2) (j := 0) (vs := [.int .i64 (val (Zh a0 x13_2)).Kind, str (val (Zh a0 x13_2)).Text]) Try.isAgg74 Try.sizeOf74 rfl rfl (f0.frs.row (hw.now hF)) (f0.ix h_t18) (rd_of (Ze (f0.at h_t18)) rfl)) rfl rfl ?_
    refine Jn rfl rfl (Jd (v := v1) rfl) ?_
    refine Jn rfl rfl (Jd (v := .int .i64 x13_2) rfl) ?_
    have h_t22 := Qi H15
    have H16 := J6 H15
    refine Jn rfl rfl (Y6 Try.underlying69 Try.sizeOf74 rfl rfl f1.frs (f1.ix h_t22)) ?_
    refine d_read (fun w hF => Zp (f := (elC h v1 2)) (i := x13_2) (sz := 2) (j := 0) (vs := [.int .i64 (val (Zh a1 x13_2)).Kind, str (val (Zh a1 x13_2)).Text]) Try.isAgg74 Try.sizeOf74 rfl rfl (f1.frs.row (hw.now hF)) (f1.ix h_t22) (rd_of (Ze (f1.at h_t22)) rfl)) rfl rfl ?_
    refine Jn rfl rfl (r_neqA (xs := #[.int .i64 (val (Zh a0 x13_2)).Kind, str (val (Zh a0 x13_2)).Text]) (ys := #[.int .i64 (val (Zh a1 x13_2)).Kind, str (val (Zh a1 x13_2)).Text]) Try.eqGuardType74 (fun w => run_eq_tag_Segment w (val (Zh a0 x13_2)) (val (Zh a1 x13_2))) rfl rfl) ?_
    refine V1 ?_
    refine Qf (b := (!(Ye (val (Zh a0 x13_2)) (val (Zh a1 x13_2))))) rfl (fun hb => ?_) (fun hb => ?_)
    ·have H17 := Jr hb H16; clear H16
     refine Jf ?_
     refine Jb ?_
     refine Ja rfl rfl rfl (Jc (v := .bool false) rfl) ?_
     refine Jg ?_
     refine Ju ?_
     obtain rfl := Option.some.inj H17
     refine Qq (v := .bool false) rfl rfl (Yn rfl)
    ·have H18 := Jq hb H16; clear H16
     refine Jt ?_
     refine Jb ?_
     obtain ⟨t25, h_t25, H19⟩ := Jh H18; clear H18
     refine Ja rfl rfl rfl (Qm rfl rfl h_t25) ?_
     refine Ja rfl rfl rfl (Jd (v := .int .i64 t25) rfl) ?_
     refine Jg ?_
     refine Jp t25 () m1 [] (by exact ⟨rfl, rfl, rfl, rfl, trivial⟩) (by decide) (by kernel_rfl) (by exact ⟨(by subst hn1; exact H19), trivial⟩) (Nat.lt_succ_self _)
    ) (by kernel_rfl)
  ·have H20 := Jq hb H13; clear H13
   refine Yk ?_
   refine Jf ?_
   refine Jb ?_
   refine Ja rfl rfl rfl (Jc (v := .bool true) rfl) ?_
   refine Jg ?_
   refine Ju ?_
   obtain rfl := Option.some.inj H20
   refine Qq (v := .bool true) rfl rfl (Yn rfl)
theorem k6 {a0 : (List UInt8)} {a1 : T_tag_File} {v1_1 : Value} {r : Bool} {w : World} {h : J3} (hw : Know h w Wf) (f1_1 : FrN h 1 v1_1 gs_tag_Entry a1.Dirs) (H : Ww a0 a1 = some r) : Does Try.prog 6 (List.toArray [str a0, .agg #[.bool a1.Big, v1_1]]) w (fun v w' => v = (.bool r) ∧ Grow w w') := by
 refine enter (n := 144) Try.func6 rfl rfl rfl Wf [] (Sat.nil _ _) ?_
 refine Z2 Yg ?_
 refine Jf ?_
 refine Jb ?_
 refine U6 (cs := [.bool a1.Big, v1_1]) rfl rfl rfl rfl (fun b3 => ?_)
 refine Ja rfl rfl rfl (Jc (v := .bool false) rfl) ?_
 refine Jg ?_
 refine Jf ?_
 refine Jf ?_
 refine Jb ?_
 obtain ⟨t21, h_t21, H52⟩ := Jh H; clear H
 refine Zu (k23 h_t21) Try.call23 rfl rfl rfl ?_
 refine Ja rfl rfl rfl (r_not rfl) ?_
 refine Jg ?_
 refine Qf (b := (!t21)) rfl (fun hb => ?_) (fun hb => ?_)
 ·have H53 := Jr hb H52; clear H52
  refine Jf ?_
  refine Jb ?_
  refine Ja rfl rfl rfl (Jc (v := .bool false) rfl) ?_
  refine Jg ?_
  refine Ju ?_
  obtain rfl := Option.some.inj H53
  refine Qq (v := .bool false) rfl rfl (Yn rfl)
 ·have H54 := Jq hb H52; clear H52
  refine Jt ?_
  refine Jf ?_
  refine Jb ?_
  refine Ja rfl rfl rfl (Jd (v := str a0) rfl) ?_
  refine Zd (i := 1) (vs := [.bool a1.Big, v1_1]) Try.isAgg24 Try.sizeOf24 rfl rfl rfl rfl rfl ?_
  obtain ⟨t26, h_t26, H55⟩ := Jh H54; clear H54
  refine Q4 (fun w hF hS => k31 (Jy w) (f1_1.mono (hw.now hF)) h_t26) Try.call31 rfl rfl rfl ?_
  refine Ja rfl rfl rfl (Jd (v := .tuple #[str t26.1, .int .i64 t26.2]) rfl) ?_
  refine Ja rfl rfl rfl (Qh (v := str t26.1) rfl rfl) ?_
  refine Ja rfl rfl rfl (Qh (v := .int .i64 t26.2) rfl rfl) ?_
  refine Ja rfl rfl rfl (Jc (v := str t26.1) rfl) ?_
  refine Ja rfl rfl rfl (Jc (v := .int .i64 t26.2) rfl) ?_
  refine Jg ?_
  refine Jf ?_
  refine Jf ?_
  refine Jb ?_
  refine Ja rfl rfl rfl (Jd (v := .int .i64 t26.2) rfl) ?_
  refine Ja rfl rfl rfl (Zr rfl rfl) ?_
  refine Jg ?_
  refine Qf (b := (decide (t26.2 ≠ 0))) rfl (fun hb => ?_) (fun hb => ?_)
  ·have H56 := Jr hb H55; clear H55
   refine Jf ?_
   refine Jb ?_
   refine Ja rfl rfl rfl (Jd (v := str t26.1) rfl) ?_
   refine Ja rfl rfl rfl (r_eqlT rfl rfl) ?_
   refine Ja rfl rfl rfl (Jc (v := .bool (decide (t26.1 = []))) rfl) ?_
   refine Jg ?_
   refine Ju ?_
   obtain rfl := Option.some.inj H56
   refine Qq (v := .bool (decide (t26.1 = []))) rfl rfl (Yn rfl)
  ·have H57 := Jq hb H55; clear H55
   refine Jt ?_
   refine Jf ?_
   refine Jb ?_
   refine Ja rfl rfl rfl (Jd (v := str t26.1) rfl) ?_
   obtain ⟨t35, h_t35, H58⟩ := Jh H57; clear H57
   refine Wp (Xs (rds := []) (G := fun x : (Option Addr × Nat) => .tuple #[.agg #[.bool t35.1.Big, .slice x.1 t35.1.Dirs.length x.2], .int .i64 t35.2]) (C := fun x : (Option Addr × Nat) => U8 27 1 gs_tag_Entry (.slice x.1 t35.1.Dirs.length x.2) t35.1.Dirs.length t35.1.Dirs) (fun w L' hF hS hi => k32 (Jy w)  h_t35) Try.call32 rfl) rfl rfl rfl (fun p => ?_)
   refine c_rowD 2 rfl (fun hp css hn pf => ?_)
   rw [hn]
   refine Xo 2 rfl ?_
   refine Vh 0 2 rfl rfl (by decide) (fun _ _ => Vk) (fun hp_2 hle hle_2 => ?_)
   refine Ja rfl rfl rfl (Jd (v := .tuple #[.agg #[.bool t35.1.Big, .slice p.1 css.length p.2], .int .i64 t35.2]) rfl) ?_
   refine Ja rfl rfl rfl (Qh (v := .agg #[.bool t35.1.Big, .slice p.1 css.length p.2]) rfl rfl) ?_
   refine Ja rfl rfl rfl (Qh (v := .int .i64 t35.2) rfl rfl) ?_
   refine Zc (cs := [.bool false, .slice none 0 0]) Try.zeroValue24 rfl rfl rfl (fun b4 => ?_)
   refine Qy (i := 4) (vs := [.bool t35.1.Big, .slice p.1 css.length p.2]) (cs' := [.bool t35.1.Big, .slice p.1 css.length p.2]) Try.sizeOf24 rfl rfl rfl rfl rfl rfl rfl rfl rfl ?_
   refine Ja rfl rfl rfl (Jc (v := .int .i64 t35.2) rfl) ?_
   refine Jg ?_
   try dsimp only [z1, z2, z5, z6, z7, z8]
   refine Jf ?_
   refine Jb ?_
   refine Zd (i := 1) (vs := [.bool a1.Big, v1_1]) Try.isAgg24 Try.sizeOf24 rfl rfl rfl rfl rfl ?_
   obtain ⟨t40, h_t40, H59⟩ := Jh H58; clear H58
   refine Q4 (fun w hF hS => k24 (Jy w) (f1_1.mono (hw.now hF)) h_t40) Try.call24 rfl rfl rfl ?_
   refine Ja rfl rfl rfl (Jd (v := .tuple #[str t40.1, .int .i64 t40.2]) rfl) ?_
   refine Ja rfl rfl rfl (Qh (v := str t40.1) rfl rfl) ?_
   refine Ja rfl rfl rfl (Qh (v := .int .i64 t40.2) rfl rfl) ?_
   refine Ja rfl rfl rfl (Jc (v := str t40.1) rfl) ?_
   refine Ja rfl rfl rfl (Jc (v := .int .i64 t40.2) rfl) ?_
   refine Jg ?_
   try dsimp only [z1, z2, z5, z6, z7, z8]
   refine Jf ?_
   refine Jb ?_
   refine Zd (i := 4) (vs := [.bool t35.1.Big, .slice p.1 css.length p.2]) Try.isAgg24 Try.sizeOf24 rfl rfl rfl rfl rfl ?_
   obtain ⟨t45, h_t45, H60⟩ := Jh H59; clear H59
   refine Q4 (fun w hF hS => k24 (Jy w) (Uv (xs := t35.1.Dirs) (Va (i := 3) rfl hS rfl) ((pf.mono hle_2).mono (U7 (i := 0) hS rfl Vk))) h_t45) Try.call24 rfl rfl rfl ?_
   refine Ja rfl rfl rfl (Jd (v := .tuple #[str t45.1, .int .i64 t45.2]) rfl) ?_
   refine Ja rfl rfl rfl (Qh (v := str t45.1) rfl rfl) ?_
   refine Ja rfl rfl rfl (Qh (v := .int .i64 t45.2) rfl rfl) ?_
   refine Ja rfl rfl rfl (Jc (v := str t45.1) rfl) ?_
   refine Ja rfl rfl rfl (Jc (v := .int .i64 t45.2) rfl) ?_
   refine Jg ?_
   try dsimp only [z1, z2, z5, z6, z7, z8]
   refine Jf ?_
   refine Jb ?_
   refine Ja rfl rfl rfl (Jd (v := str a0) rfl) ?_
   obtain ⟨t50, h_t50, H61⟩ := Jh H60; clear H60
   refine Wp (Xs (rds := []) (G := fun x : (Option Addr × Nat) => .tuple #[.slice x.1 t50.1.length x.2, .int .i64 t50.2]) (C := fun x : (Option Addr × Nat) => rofD true 74 2 g_tag_Segment (.slice x.1 t50.1.length x.2) t50.1.length t50.1) (fun w L' hF hS hi => k33 (Jy w)  h_t50) Try.call33 rfl) rfl rfl rfl (fun p_2 => ?_)
   refine c_rofD 5 rfl (fun hp_3 css_2 hn_2 hc pf_2 => ?_)
   rw [hn_2]
   refine Xo 5 rfl ?_
   refine Vh 0 5 rfl rfl (by decide) (fun _ _ => Vk) (fun hp_4 hle_3 hle_4 => ?_)
   refine Ja rfl rfl rfl (Jd (v := .tuple #[.slice p_2.1 css_2.length p_2.2, .int .i64 t50.2]) rfl) ?_
   refine Ja rfl rfl rfl (Qh (v := .slice p_2.1 css_2.length p_2.2) rfl rfl) ?_
   refine Ja rfl rfl rfl (Qh (v := .int .i64 t50.2) rfl rfl) ?_
   refine Ja rfl rfl rfl (Jc (v := .slice p_2.1 css_2.length p_2.2) rfl) ?_
   refine Ja rfl rfl rfl (Jc (v := .int .i64 t50.2) rfl) ?_
   refine Jg ?_
   try dsimp only [z1, z2, z5, z6, z7, z8]
   refine Jf ?_
   refine Jb ?_
   refine Ja rfl rfl rfl (Jd (v := str t26.1) rfl) ?_
   obtain ⟨t55, h_t55, H62⟩ := Jh H61; clear H61
   refine Wp (Xs (rds := []) (G := fun x : (Option Addr × Nat) => .tuple #[.slice x.1 t55.1.length x.2, .int .i64 t55.2]) (C := fun x : (Option Addr × Nat) => rofD true 74 2 g_tag_Segment (.slice x.1 t55.1.length x.2) t55.1.length t55.1) (fun w L' hF hS hi => k33 (Jy w)  h_t55) Try.call33 rfl) rfl rfl rfl (fun p_3 => ?_)
   refine c_rofD 7 rfl (fun hp_5 css_3 hn_3 hc_2 pf_3 => ?_)
   rw [hn_3]
   refine Xo 7 rfl ?_
   refine Vh 0 7 rfl rfl (by decide) (fun _ _ => Vk) (fun hp_6 hle_5 hle_6 => ?_)
   refine Ja rfl rfl rfl (Jd (v := .tuple #[.slice p_3.1 css_3.length p_3.2, .int .i64 t55.2]) rfl) ?_
   refine Ja rfl rfl rfl (Qh (v := .slice p_3.1 css_3.length p_3.2) rfl rfl) ?_
   refine Ja rfl rfl rfl (Qh (v := .int .i64 t55.2) rfl rfl) ?_
   refine Ja rfl rfl rfl (Jc (v := .slice p_3.1 css_3.length p_3.2) rfl) ?_
   refine Ja rfl rfl rfl (Jc (v := .int .i64 t55.2) rfl) ?_
   refine Jg ?_
   try dsimp only [z1, z2, z5, z6, z7, z8]
   refine Jf ?_
   refine Jf ?_
   refine Jb ?_
   refine Ja rfl rfl rfl (Jd (v := .int .i64 t35.2) rfl) ?_
   refine Ja rfl rfl rfl (Zr rfl rfl) ?_
   refine Ja rfl rfl rfl (Jd (v := .bool (decide (t35.2 ≠ 0))) rfl) ?_
   refine split (fun hb => ?_) (fun hb => ?_)
   ·have H63 := Jr hb H62; clear H62
    refine Ji rfl rfl rfl ?_
    refine Ji rfl rfl rfl ?_
    refine Ja rfl rfl rfl (J7 (v := .bool true) rfl rfl) ?_
    refine Ja rfl rfl rfl (Jd (v := .bool true) rfl) ?_
    refine Ji rfl rfl rfl ?_
    refine Ji rfl rfl rfl ?_
    refine Ja rfl rfl rfl (J7 (v := .bool true) rfl rfl) ?_
    refine Ja rfl rfl rfl (Jd (v := .bool true) rfl) ?_
    refine Ji rfl rfl rfl ?_
    refine Ji rfl rfl rfl ?_
    refine Ja rfl rfl rfl (J7 (v := .bool true) rfl rfl) ?_
    refine Ja rfl rfl rfl (Jd (v := .bool true) rfl) ?_
    refine Ji rfl rfl rfl ?_
    refine Ji rfl rfl rfl ?_
    refine Ja rfl rfl rfl (J7 (v := .bool true) rfl rfl) ?_
    refine Ja rfl rfl rfl (Jd (v := .bool true) rfl) ?_
    refine Ji rfl rfl rfl ?_
    refine Ji rfl rfl rfl ?_
    refine Ji rfl rfl rfl ?_
    refine Ja rfl rfl rfl (J7 (v := .bool true) rfl rfl) ?_
    refine Jg ?_
    try dsimp only [z1, z2, z5, z6, z7, z8]
    refine Wo rfl ?_
    refine Jf ?_
    refine Jb ?_
    refine Ja rfl rfl rfl (Jc (v := .bool false) rfl) ?_
    refine Jg ?_
    try dsimp only [z1, z2, z5, z6, z7, z8]
    refine Ju ?_
    obtain rfl := Option.some.inj H63
    refine Qq (v := .bool false) rfl rfl (Yn rfl)
   ·have H64 := Jq hb H62; clear H62
    refine Ja rfl rfl rfl (Jd (v := .int .i64 t40.2) rfl) ?_
    refine Ja rfl rfl rfl (Zr rfl rfl) ?_
    refine Ja rfl rfl rfl (Qk (v := .bool (decide (t40.2 ≠ 0))) rfl rfl) ?_
    refine Ja rfl rfl rfl (Jd (v := .bool (decide (t40.2 ≠ 0))) rfl) ?_
    refine split (fun hb => ?_) (fun hb => ?_)
    ·have H65 := Jr hb H64; clear H64
     refine Ji rfl rfl rfl ?_
     refine Ji rfl rfl rfl ?_
     refine Ja rfl rfl rfl (J7 (v := .bool true) rfl rfl) ?_
     refine Ja rfl rfl rfl (Jd (v := .bool true) rfl) ?_
     refine Ji rfl rfl rfl ?_
     refine Ji rfl rfl rfl ?_
     refine Ja rfl rfl rfl (J7 (v := .bool true) rfl rfl) ?_
     refine Ja rfl rfl rfl (Jd (v := .bool true) rfl) ?_
     refine Ji rfl rfl rfl ?_
     refine Ji rfl rfl rfl ?_
     refine Ja rfl rfl rfl (J7 (v := .bool true) rfl rfl) ?_
     refine Ja rfl rfl rfl (Jd (v := .bool true) rfl) ?_
     refine Ji rfl rfl rfl ?_
     refine Ji rfl rfl rfl ?_
     refine Ji rfl rfl rfl ?_
     refine Ja rfl rfl rfl (J7 (v := .bool true) rfl rfl) ?_
     refine Jg ?_
     try dsimp only [z1, z2, z5, z6, z7, z8]
     refine Wo rfl ?_
     refine Jf ?_
     refine Jb ?_
     refine Ja rfl rfl rfl (Jc (v := .bool false) rfl) ?_
     refine Jg ?_
     try dsimp only [z1, z2, z5, z6, z7, z8]
     refine Ju ?_
     obtain rfl := Option.some.inj H65
     refine Qq (v := .bool false) rfl rfl (Yn rfl)
    ·have H66 := Jq hb H64; clear H64
     refine Ja rfl rfl rfl (Jd (v := .int .i64 t45.2) rfl) ?_
     refine Ja rfl rfl rfl (Zr rfl rfl) ?_
     refine Ja rfl rfl rfl (Qk (v := .bool (decide (t45.2 ≠ 0))) rfl rfl) ?_
     refine Ja rfl rfl rfl (Jd (v := .bool (decide (t45.2 ≠ 0))) rfl) ?_
     refine split (fun hb => ?_) (fun hb => ?_)
     ·have H67 := Jr hb H66; clear H66
      refine Ji rfl rfl rfl ?_
      refine Ji rfl rfl rfl ?_
      refine Ja rfl rfl rfl (J7 (v := .bool true) rfl rfl) ?_
      refine Ja rfl rfl rfl (Jd (v := .bool true) rfl) ?_
      refine Ji rfl rfl rfl ?_
      refine Ji rfl rfl rfl ?_
      refine Ja rfl rfl rfl (J7 (v := .bool true) rfl rfl) ?_
      refine Ja rfl rfl rfl (Jd (v := .bool true) rfl) ?_
      refine Ji rfl rfl rfl ?_
      refine Ji rfl rfl rfl ?_
      refine Ji rfl rfl rfl ?_
      refine Ja rfl rfl rfl (J7 (v := .bool true) rfl rfl) ?_
      refine Jg ?_
      try dsimp only [z1, z2, z5, z6, z7, z8]
      refine Wo rfl ?_
      refine Jf ?_
      refine Jb ?_
      refine Ja rfl rfl rfl (Jc (v := .bool false) rfl) ?_
      refine Jg ?_
      try dsimp only [z1, z2, z5, z6, z7, z8]
      refine Ju ?_
      obtain rfl := Option.some.inj H67
      refine Qq (v := .bool false) rfl rfl (Yn rfl)
     ·have H68 := Jq hb H66; clear H66
      refine Ja rfl rfl rfl (Jd (v := .int .i64 t50.2) rfl) ?_
      refine Ja rfl rfl rfl (Zr rfl rfl) ?_
      refine Ja rfl rfl rfl (Qk (v := .bool (decide (t50.2 ≠ 0))) rfl rfl) ?_
      refine Ja rfl rfl rfl (Jd (v := .bool (decide (t50.2 ≠ 0))) rfl) ?_
      refine split (fun hb => ?_) (fun hb => ?_)
      ·have H69 := Jr hb H68; clear H68
       refine Ji rfl rfl rfl ?_
       refine Ji rfl rfl rfl ?_
       refine Ja rfl rfl rfl (J7 (v := .bool true) rfl rfl) ?_
       refine Ja rfl rfl rfl (Jd (v := .bool true) rfl) ?_
       refine Ji rfl rfl rfl ?_
       refine Ji rfl rfl rfl ?_
       refine Ji rfl rfl rfl ?_
       refine Ja rfl rfl rfl (J7 (v := .bool true) rfl rfl) ?_
       refine Jg ?_
       try dsimp only [z1, z2, z5, z6, z7, z8]
       refine Wo rfl ?_
       refine Jf ?_
       refine Jb ?_
       refine Ja rfl rfl rfl (Jc (v := .bool false) rfl) ?_
       refine Jg ?_
       try dsimp only [z1, z2, z5, z6, z7, z8]
       refine Ju ?_
       obtain rfl := Option.some.inj H69
       refine Qq (v := .bool false) rfl rfl (Yn rfl)
      ·have H70 := Jq hb H68; clear H68
       refine Ja rfl rfl rfl (Jd (v := .int .i64 t55.2) rfl) ?_
       refine Ja rfl rfl rfl (Zr rfl rfl) ?_
       refine Ja rfl rfl rfl (Qk (v := .bool (decide (t55.2 ≠ 0))) rfl rfl) ?_
       refine Ja rfl rfl rfl (Jd (v := .bool (decide (t55.2 ≠ 0))) rfl) ?_
       refine split (fun hb => ?_) (fun hb => ?_)
       ·have H71 := Jr hb H70; clear H70
        refine Ji rfl rfl rfl ?_
        refine Ji rfl rfl rfl ?_
        refine Ji rfl rfl rfl ?_
        refine Ja rfl rfl rfl (J7 (v := .bool true) rfl rfl) ?_
        refine Jg ?_
        try dsimp only [z1, z2, z5, z6, z7, z8]
        refine Wo rfl ?_
        refine Jf ?_
        refine Jb ?_
        refine Ja rfl rfl rfl (Jc (v := .bool false) rfl) ?_
        refine Jg ?_
        try dsimp only [z1, z2, z5, z6, z7, z8]
        refine Ju ?_
        obtain rfl := Option.some.inj H71
        refine Qq (v := .bool false) rfl rfl (Yn rfl)
       ·have H72 := Jq hb H70; clear H70
        refine Ja rfl rfl rfl (Jd (v := str t40.1) rfl) ?_
        refine Ja rfl rfl rfl (Jd (v := str t45.1) rfl) ?_
        refine Ja rfl rfl rfl (r_neqT rfl rfl) ?_
        refine Ja rfl rfl rfl (Qk (v := .bool (decide (t40.1 ≠ t45.1))) rfl rfl) ?_
        refine Jg ?_
        try dsimp only [z1, z2, z5, z6, z7, z8]
        refine Qf (b := (decide (t40.1 ≠ t45.1))) rfl (fun hb => ?_) (fun hb => ?_)
        ·have H73 := Jr hb H72; clear H72
         refine Jf ?_
         refine Jb ?_
         refine Ja rfl rfl rfl (Jc (v := .bool false) rfl) ?_
         refine Jg ?_
         try dsimp only [z1, z2, z5, z6, z7, z8]
         refine Ju ?_
         obtain rfl := Option.some.inj H73
         refine Qq (v := .bool false) rfl rfl (Yn rfl)
        ·have H74 := Jq hb H72; clear H72
         refine Jt ?_
         refine Jf ?_
         refine Jf ?_
         refine Jb ?_
         refine Ja rfl rfl rfl (Jd (v := .slice p_3.1 css_3.length p_3.2) rfl) ?_
         refine Ja rfl rfl rfl (r_lenN Try.underlying69 rfl hn_3.symm) ?_
         refine Ja rfl rfl rfl (Jd (v := .slice p_2.1 css_2.length p_2.2) rfl) ?_
         refine Ja rfl rfl rfl (r_lenN Try.underlying69 rfl ((pf_2.mono hle_4).mono hle_5).len) ?_
         obtain ⟨t85, h_t85, H75⟩ := Jh H74; clear H74
         refine Ja rfl rfl rfl (Qm rfl rfl h_t85) ?_
         refine Ja rfl rfl rfl (Xl rfl rfl) ?_
         refine Jg ?_
         try dsimp only [z1, z2, z5, z6, z7, z8]
         refine Qf (b := (decide ((t55.1.length : Int) = t85))) rfl (fun hb => ?_) (fun hb => ?_)
         ·have H76 := Jr hb H75; clear H75
          refine Jf ?_
          refine Jb ?_
          refine Ja rfl rfl rfl (Jd (v := .slice p_3.1 css_3.length p_3.2) rfl) ?_
          obtain ⟨t88, h_t88, H77⟩ := Jh H76; clear H76
          refine Yw (v := .slice (Z1 p_3.1 (Int.toNat 1) p_3.2 2) (cutL css_3 1 t55.1.length).length (p_3.2 - Int.toNat 1)) (fun w hF hS => Wq (xs := css_3) Try.underlying69 Try.sizeOf74 rfl rfl rfl (capO (i := 8) hS rfl) (by rw [(pf_3.mono hle_6).len]; exact (pf_3.mono hle_6).cutG h_t88)) rfl rfl rfl ?_
          refine Xv 8 rfl (imp_cutO rfl ((pf_3.mono hle_6).cutG h_t88)) ?_
          have pf_4 : AllC g_tag_Segment hp_6 2 (cutL css_3 1 t55.1.length) t88 := (pf_3.mono hle_6).cut h_t88
          refine Ja rfl rfl rfl (Jd (v := .slice p_2.1 css_2.length p_2.2) rfl) ?_
          obtain ⟨t90, h_t90, H78⟩ := Jh H77; clear H77
          refine Q4 (fun w hF hS => k34 (Jy w) (Uv (xs := t88) (frs_off (i := 8) (p := ((Z1 p_3.1 (Int.toNat 1) p_3.2 2, p_3.2 - Int.toNat 1) : Option Addr × Nat)) rfl hS rfl) (pf_4.mono (U7 (i := 0) hS rfl Vk))) (Uv (xs := t50.1) (frs_off (i := 6) rfl hS rfl) (((pf_2.mono hle_4).mono hle_5).mono (U7 (i := 0) hS rfl Vk))) h_t90) Try.call34 rfl rfl rfl ?_
          refine Ja rfl rfl rfl (Jc (v := .bool t90) rfl) ?_
          refine Jg ?_
          try dsimp only [z1, z2, z5, z6, z7, z8]
          refine Ju ?_
          obtain rfl := Option.some.inj H78
          refine Qq (v := .bool t90) rfl rfl (Yn rfl)
         ·have H79 := Jq hb H75; clear H75
          refine Jt ?_
          refine Jf ?_
          refine Jb ?_
          refine Ja rfl rfl rfl (Jc (v := .int .i64 0) rfl) ?_
          refine Jg ?_
          try dsimp only [z1, z2, z5, z6, z7, z8]
          refine Xq (r := r) (σ := Int) (τ := Unit) (fun s => Vr a0 t50 t55 s) (fun s t => [(0, str a0), (13, .slice p_2.1 css_2.length p_2.2), (15, .slice p_3.1 css_3.length p_3.2), (17, .int .i64 s)]) (fun s t => [Yu Yg hp_6, V6 74 2 (.slice p_2.1 css_2.length p_2.2) css_2.length (css_2.map idC), V6 74 2 (.slice p_3.1 css_3.length p_3.2) css_3.length (css_3.map idC)]) (fun s t => AllC g_tag_Segment hp_6 2 css_2 t50.1 ∧ AllC g_tag_Segment hp_6 2 css_3 t55.1) ?_ ?_
          ·refine Jf ?_
           refine Jb ?_
           refine Ja rfl rfl rfl (Jd (v := .slice p_2.1 css_2.length p_2.2) rfl) ?_
           refine Ja rfl rfl rfl (r_lenN Try.underlying69 rfl ((pf_2.mono hle_4).mono hle_5).len) ?_
           refine Ja rfl rfl rfl (Jd (v := .int .i64 0) rfl) ?_
           refine Jg ?_
           try dsimp only [z1, z2, z5, z6, z7, z8]
           refine J4 ?_
           refine c_dr 7 <| c_dr 5 <| c_dr 4 <| c_dr 3 <| c_dr 2 <| c_dr 1 ?_
           try dsimp only [z1, z2, z3, z4, z5, z6, z7, z8]
           refine V2 (σ := Int × Int) (τ := Unit) (fun next2 s => Qw a0 t50 t55 next2 s.1 s.2) (fun s t => [(0, str a0), (13, .slice p_2.1 css_2.length p_2.2), (15, .slice p_3.1 css_3.length p_3.2), (17, .int .i64 s.1), (91, .slice p_2.1 css_2.length p_2.2), (92, .int .i64 (t50.1.length : Int)), (93, .int .i64 s.2)]) (fun s t => [Yu Yg hp_6, V6 74 2 (.slice p_2.1 css_2.length p_2.2) css_2.length (css_2.map idC), V6 74 2 (.slice p_3.1 css_3.length p_3.2) css_3.length (css_3.map idC)]) (fun s t => True) (0, 0) () [0, 1, 2] H79 (by exact trivial) (by exact ⟨rfl, rfl, rfl, rfl, rfl, rfl, rfl, trivial⟩) (by decide) rfl ?_
           rintro ⟨x17_3, x93_2⟩ _ m2 gg H88 _
           clear H79
           replace H88 : Qw a0 t50 t55 (it (fun next2 s => Qw a0 t50 t55 next2 s.1 s.2) m2) x17_3 x93_2 = some r := H88
           generalize hn2 : it (fun next2 s => Qw a0 t50 t55 next2 s.1 s.2) m2 = next2 at H88
           try dsimp only
           refine Jf ?_
           refine Jb ?_
           refine Ja rfl rfl rfl (Z0 rfl rfl) ?_
           refine Jg ?_
           try dsimp only [z1, z2, z5, z6, z7, z8]
           refine Jf ?_
           refine Qf (b := (decide (x93_2 < (t50.1.length : Int)))) rfl (fun hb => ?_) (fun hb => ?_)
           ·have H89 := Jr hb H88; clear H88
            refine Jt ?_
            refine Xq (r := r) (σ := Int × Int × Int × Bool × Int × (List UInt8)) (τ := Nat) (fun s => Zs x93_2 next2 s.1 s.2.1 s.2.2.1 s.2.2.2.1 s.2.2.2.2.1 s.2.2.2.2.2) (fun s t => [(0, str a0), (13, .slice p_2.1 css_2.length p_2.2), (15, .slice p_3.1 css_3.length p_3.2), (17, .int .i64 s.1), (91, .slice p_2.1 css_2.length p_2.2), (92, .int .i64 (t50.1.length : Int)), (93, .int .i64 x93_2), (103, .pointer (some ⟨t, 0, none⟩)), (104, .int .i64 s.2.1), (105, .slice p_3.1 css_3.length p_3.2), (106, .int .i64 x93_2), (109, .int .i64 s.2.2.1), (110, .bool s.2.2.2.1)]) (fun s t => [Yu Yg hp_6, V6 74 2 (.slice p_2.1 css_2.length p_2.2) css_2.length (css_2.map idC), V6 74 2 (.slice p_3.1 css_3.length p_3.2) css_3.length (css_3.map idC), Jl t [.int .i64 s.2.2.2.2.1, str s.2.2.2.2.2] 74]) (fun s t => True) ?_ ?_
            ·refine J4 ?_
             refine Jf ?_
             refine Jb ?_
             refine Ja rfl rfl rfl (Jd (v := .int .i64 x93_2) rfl) ?_
             obtain ⟨t96, h_t96, H92⟩ := Jh H89; clear H89
             refine Yw (fun w hF hS => Ub Try.underlying69 Try.sizeOf74 rfl rfl (offOf (i := 1) hS rfl) rfl (((pf_2.mono hle_4).mono hle_5).ix h_t96)) rfl rfl rfl ?_
             refine Yw (fun w hF hS => Zp (f := idC) (i := x93_2) (sz := 2) (j := 0) (vs := [.int .i64 t96.Kind, str t96.Text]) Try.isAgg74 Try.sizeOf74 rfl rfl (offOf (i := 1) hS rfl) (((pf_2.mono hle_4).mono hle_5).ix h_t96) (rd_of ((((pf_2.mono hle_4).mono hle_5).eta h_t96).trans (Ze (((pf_2.mono hle_4).mono hle_5).at h_t96))) rfl)) rfl rfl rfl ?_
             refine Zc (cs := [.int .i64 0, str []]) Try.zeroValue74 rfl rfl rfl (fun b5 => ?_)
             refine Ja rfl rfl rfl (Jc (v := .int .i64 x93_2) rfl) ?_
             refine Qy (i := 3) (vs := [.int .i64 t96.Kind, str t96.Text]) (cs' := [.int .i64 t96.Kind, str t96.Text]) Try.sizeOf74 rfl rfl rfl rfl rfl rfl rfl rfl rfl ?_
             refine Jg ?_
             try dsimp only [z1, z2, z5, z6, z7, z8]
             refine Jf ?_
             refine Jf ?_
             exact Xf (Kd.p :: Kd.p :: Kd.p :: Kd.p :: Kd.p :: Kd.p :: Kd.d [3] _ :: Kd.p :: Kd.p :: Kd.d [2] _ :: Kd.d [2] _ :: Kd.d [2] _ :: Kd.p :: Kd.p :: []) 0 mixed (by
              refine Jn rfl rfl (Jd (v := .int .i64 x93_2) rfl) ?_
              refine Jn rfl rfl (Jd (v := .slice p_3.1 css_3.length p_3.2) rfl) ?_
              refine Jn rfl rfl (r_lenN Try.underlying69 rfl hn_3.symm) ?_
              refine Jn rfl rfl (r_geq rfl rfl) ?_
              refine Jn rfl rfl (Jd (v := .bool (decide ((t55.1.length : Int) ≤ x93_2))) rfl) ?_
              refine splitS (fun hb => ?_) (fun hb => ?_)
              ·have H93 := Jr hb H92
               refine Ym rfl rfl ?_
               refine Ym rfl rfl ?_
               refine Ym rfl rfl ?_
               refine Ym rfl rfl ?_
               refine Ym rfl rfl ?_
               refine Ym rfl rfl ?_
               refine Ym rfl rfl ?_
               refine Ym rfl rfl ?_
               refine Jn rfl rfl (J7 (v := .bool true) rfl rfl) ?_
               refine V1 ?_
               try dsimp only [z1, z2, z5, z6, z7, z8]
               refine Wo rfl ?_
               refine Jf ?_
               refine Jb ?_
               refine Ja rfl rfl rfl (Jc (v := .bool false) rfl) ?_
               refine Jg ?_
               try dsimp only [z1, z2, z5, z6, z7, z8]
               refine Ju ?_
               obtain rfl := Option.some.inj H93
               refine Qq (v := .bool false) rfl rfl (Yn rfl)
              ·have H94 := Jq hb H92
               refine Jn rfl rfl (Jk Try.runUnderlying74 rfl Try.sizeOf3 rfl rfl) ?_
               refine Yh (i := 3) (v := .int .i64 t96.Kind) Try.isAgg3 rfl rfl rfl rfl ?_
               refine Jn rfl rfl (Jd (v := .slice p_3.1 css_3.length p_3.2) rfl) ?_
               refine Jn rfl rfl (Jd (v := .int .i64 x93_2) rfl) ?_
               have h_t107 := Qi H94
               have H95 := J6 H94
               refine U2 (fun w L' hF hS hi => Ub Try.underlying69 Try.sizeOf74 rfl rfl (offOf (i := 2) (E := 74) (sz := 2) (n := css_3.length) (a := p_3.1) (c := p_3.2) hS ((hi 2 (by simp)).trans rfl)) rfl ((pf_3.mono hle_6).ix h_t107)) rfl rfl ?_
               refine d_readE rfl rfl (fun w L' hF hS hi => run_fieldG Try.runUnderlying74 rfl Try.sizeOf3 rfl rfl (offOf (i := 2) (E := 74) (sz := 2) (n := css_3.length) (a := p_3.1) (c := p_3.2) hS ((hi 2 (by simp)).trans rfl)) ((pf_3.mono hle_6).ix h_t107)) ?_
               refine U2 (fun w L' hF hS hi => Z6 (f := idC) (i := x93_2) (sz := 2) (j := 0) (v := .int .i64 (val (Zh t55.1 x93_2)).Kind) Try.isAgg3 rfl rfl (offOf (i := 2) (E := 74) (sz := 2) (n := css_3.length) (a := p_3.1) (c := p_3.2) hS ((hi 2 (by simp)).trans rfl)) ((pf_3.mono hle_6).ix h_t107) (rg_of (((pf_3.mono hle_6).eta h_t107).trans (Ze ((pf_3.mono hle_6).at h_t107))) rfl)) rfl rfl ?_
               refine Jn rfl rfl (Zr rfl rfl) ?_
               refine Jn rfl rfl (Qk (v := .bool (decide (t96.Kind ≠ (val (Zh t55.1 x93_2)).Kind))) rfl rfl) ?_
               refine V1 ?_
               try dsimp only [z1, z2, z5, z6, z7, z8]
               refine Qf (b := (decide (t96.Kind ≠ (val (Zh t55.1 x93_2)).Kind))) rfl (fun hb => ?_) (fun hb => ?_)
               ·have H96 := Jr hb H95; clear H95
                refine Jf ?_
                refine Jb ?_
                refine Ja rfl rfl rfl (Jc (v := .bool false) rfl) ?_
                refine Jg ?_
                try dsimp only [z1, z2, z5, z6, z7, z8]
                refine Ju ?_
                obtain rfl := Option.some.inj H96
                refine Qq (v := .bool false) rfl rfl (Yn rfl)
               ·have H97 := Jq hb H95; clear H95
                refine Jt ?_
                refine Jf ?_
                exact Xf (Kd.d [3] _ :: Kd.p :: Kd.p :: Kd.d [2] _ :: Kd.d [2] _ :: Kd.p :: []) 0 mixed (by
                 refine d_loadN (i := 3) (vs := [.int .i64 t96.Kind, str t96.Text]) Try.isAgg74 Try.sizeOf74 rfl rfl rfl rfl ?_
                 refine Jn rfl rfl (Jd (v := .slice p_3.1 css_3.length p_3.2) rfl) ?_
                 refine Jn rfl rfl (Jd (v := .int .i64 x93_2) rfl) ?_
                 have h_t115 := Qi H97
                 have H98 := J6 H97
                 refine U2 (fun w L' hF hS hi => Ub Try.underlying69 Try.sizeOf74 rfl rfl (offOf (i := 2) (E := 74) (sz := 2) (n := css_3.length) (a := p_3.1) (c := p_3.2) hS ((hi 2 (by simp)).trans rfl)) rfl ((pf_3.mono hle_6).ix h_t115)) rfl rfl ?_
                 refine U2 (fun w L' hF hS hi => Zp (f := idC) (i := x93_2) (sz := 2) (j := 0) (vs := [.int .i64 (val (Zh t55.1 x93_2)).Kind, str (val (Zh t55.1 x93_2)).Text]) Try.isAgg74 Try.sizeOf74 rfl rfl (offOf (i := 2) (E := 74) (sz := 2) (n := css_3.length) (a := p_3.1) (c := p_3.2) hS ((hi 2 (by simp)).trans rfl)) ((pf_3.mono hle_6).ix h_t115) (rd_of (((pf_3.mono hle_6).eta h_t115).trans (Ze ((pf_3.mono hle_6).at h_t115))) rfl)) rfl rfl ?_
                 refine Jn rfl rfl (r_neqA (xs := #[.int .i64 t96.Kind, str t96.Text]) (ys := #[.int .i64 (val (Zh t55.1 x93_2)).Kind, str (val (Zh t55.1 x93_2)).Text]) Try.eqGuardType74 (fun w => run_eq_tag_Segment w t96 (val (Zh t55.1 x93_2))) rfl rfl) ?_
                 refine V1 ?_
                 try dsimp only [z1, z2, z5, z6, z7, z8]
                 refine Qf (b := (!(Ye t96 (val (Zh t55.1 x93_2))))) rfl (fun hb => ?_) (fun hb => ?_)
                 ·have H99 := Jr hb H98; clear H98
                  refine Jb ?_
                  refine Ja rfl rfl rfl (Jd (v := .int .i64 x17_3) rfl) ?_
                  obtain ⟨t119, h_t119, H100⟩ := Jh H99; clear H99
                  refine Ja rfl rfl rfl (Qm rfl rfl h_t119) ?_
                  refine Ja rfl rfl rfl (Jc (v := .int .i64 t119) rfl) ?_
                  refine Jg ?_
                  try dsimp only [z1, z2, z5, z6, z7, z8]
                  refine Jp (t119, t96.Kind, (val (Zh t55.1 x93_2)).Kind, (decide (t96.Kind ≠ (val (Zh t55.1 x93_2)).Kind)), t96.Kind, t96.Text) b5 0 [0, 1, 2, 3] (by exact ⟨rfl, rfl, rfl, rfl, rfl, rfl, rfl, rfl, rfl, rfl, rfl, rfl, rfl, trivial⟩) (by decide) (by kernel_rfl) (by exact ⟨H100, trivial⟩) (Nat.lt_succ_self _)
                 ·have H101 := Jq hb H98; clear H98
                  refine Jt ?_
                  refine Jp (x17_3, t96.Kind, (val (Zh t55.1 x93_2)).Kind, (decide (t96.Kind ≠ (val (Zh t55.1 x93_2)).Kind)), t96.Kind, t96.Text) b5 0 [0, 1, 2, 3] (by exact ⟨rfl, rfl, rfl, rfl, rfl, rfl, rfl, rfl, rfl, rfl, rfl, rfl, rfl, trivial⟩) (by decide) (by kernel_rfl) (by exact ⟨H101, trivial⟩) (Nat.lt_succ_self _)
                 ) (by kernel_rfl)
              ) (by kernel_rfl)
            ·rintro ⟨x17_4, x104, x109, x110, m, m_2⟩ b gg H90 _
             replace H90 : Zs x93_2 next2 x17_4 x104 x109 x110 m m_2 = some r := H90
             try dsimp only
             refine Jb ?_
             obtain ⟨t120, h_t120, H91⟩ := Jh H90; clear H90
             refine Ja rfl rfl rfl (Qm rfl rfl h_t120) ?_
             refine Ja rfl rfl rfl (Jd (v := .int .i64 t120) rfl) ?_
             refine Jg ?_
             try dsimp only [z1, z2, z5, z6, z7, z8]
             refine Jp (x17_4, t120) () m2 [0, 1, 2] (by exact ⟨rfl, rfl, rfl, rfl, rfl, rfl, rfl, trivial⟩) (by decide) (by kernel_rfl) (by exact ⟨(by subst hn2; exact H91), trivial⟩) (Nat.lt_succ_self _)
           ·have H102 := Jq hb H88; clear H88
            refine Yk ?_
            refine Jp x17_3 () 0 [0, 1, 2] (by exact ⟨rfl, rfl, rfl, rfl, trivial⟩) (by decide) (by kernel_rfl) (by exact ⟨H102, ⟨((pf_2.mono hle_4).mono hle_5), (pf_3.mono hle_6)⟩⟩) (Nat.lt_succ_self _)
          ·rintro x17 _ gg H80 ⟨pf_5, pf_6⟩
           replace H80 : Vr a0 t50 t55 x17 = some r := H80
           try dsimp only
           refine Jf ?_
           refine Jb ?_
           refine Ja rfl rfl rfl (Jd (v := .slice p_2.1 css_2.length p_2.2) rfl) ?_
           obtain ⟨t123, h_t123, H81⟩ := Jh H80; clear H80
           refine Q4 (fun w hF hS => k35 (Jy w) (Uv (xs := t50.1) (frs_off (i := 1) rfl hS rfl) (pf_5.mono (U7 (i := 0) hS rfl Vk))) h_t123) Try.call35 rfl rfl rfl ?_
           refine Ja rfl rfl rfl (Jd (v := .tuple #[str t123.1, .int .i64 t123.2]) rfl) ?_
           refine Ja rfl rfl rfl (Qh (v := str t123.1) rfl rfl) ?_
           refine Ja rfl rfl rfl (Qh (v := .int .i64 t123.2) rfl rfl) ?_
           refine Ja rfl rfl rfl (Jc (v := str t123.1) rfl) ?_
           refine Ja rfl rfl rfl (Jc (v := .int .i64 t123.2) rfl) ?_
           refine Jg ?_
           try dsimp only [z1, z2, z5, z6, z7, z8]
           refine Jf ?_
           refine Jb ?_
           refine Ja rfl rfl rfl (Jd (v := .slice p_2.1 css_2.length p_2.2) rfl) ?_
           refine Ja rfl rfl rfl (r_lenN Try.underlying69 rfl pf_5.len) ?_
           refine Ja rfl rfl rfl (Jd (v := .slice p_3.1 css_3.length p_3.2) rfl) ?_
           refine Ja rfl rfl rfl (r_lenN Try.underlying69 rfl pf_6.len) ?_
           refine Ja rfl rfl rfl (Xl rfl rfl) ?_
           refine Ja rfl rfl rfl (Jd (v := .bool (decide ((t50.1.length : Int) = (t55.1.length : Int)))) rfl) ?_
           refine split (fun hb => ?_) (fun hb => ?_)
           ·have H82 := Jr hb H81; clear H81
            refine Ja rfl rfl rfl (Jd (v := .int .i64 x17) rfl) ?_
            refine Ja rfl rfl rfl (r_leq rfl rfl) ?_
            refine Ja rfl rfl rfl (J7 (v := .bool (decide (x17 ≤ 1))) rfl rfl) ?_
            refine Ja rfl rfl rfl (Jd (v := .bool (decide (x17 ≤ 1))) rfl) ?_
            refine split (fun hb => ?_) (fun hb => ?_)
            ·have H83 := Jr hb H82; clear H82
             refine Ja rfl rfl rfl (Jd (v := .int .i64 t123.2) rfl) ?_
             refine Ja rfl rfl rfl (Xl rfl rfl) ?_
             refine Ja rfl rfl rfl (J7 (v := .bool (decide (t123.2 = 0))) rfl rfl) ?_
             refine Ja rfl rfl rfl (Jd (v := .bool (decide (t123.2 = 0))) rfl) ?_
             refine split (fun hb => ?_) (fun hb => ?_)
             ·have H84 := Jr hb H83; clear H83
              refine Ja rfl rfl rfl (Jd (v := str t123.1) rfl) ?_
              refine Ja rfl rfl rfl (Jd (v := str a0) rfl) ?_
              refine Ja rfl rfl rfl (r_eqlT rfl rfl) ?_
              refine Ja rfl rfl rfl (J7 (v := .bool (decide (t123.1 = a0))) rfl rfl) ?_
              refine Ja rfl rfl rfl (Jc (v := .bool (decide (t123.1 = a0))) rfl) ?_
              refine Jg ?_
              try dsimp only [z1, z2, z5, z6, z7, z8]
              refine Ju ?_
              obtain rfl := Option.some.inj H84
              refine Qq (v := .bool (decide (t123.1 = a0))) rfl rfl (Yn rfl)
             ·have H85 := Jq hb H83; clear H83
              refine Ji rfl rfl rfl ?_
              refine Ji rfl rfl rfl ?_
              refine Ji rfl rfl rfl ?_
              refine Ja rfl rfl rfl (Qk (v := .bool false) rfl rfl) ?_
              refine Ja rfl rfl rfl (Jc (v := .bool false) rfl) ?_
              refine Jg ?_
              try dsimp only [z1, z2, z5, z6, z7, z8]
              refine Ju ?_
              obtain rfl := Option.some.inj H85
              refine Qq (v := .bool false) rfl rfl (Yn rfl)
            ·have H86 := Jq hb H82; clear H82
             refine Ji rfl rfl rfl ?_
             refine Ji rfl rfl rfl ?_
             refine Ja rfl rfl rfl (Qk (v := .bool false) rfl rfl) ?_
             refine Ja rfl rfl rfl (Jd (v := .bool false) rfl) ?_
             refine Ji rfl rfl rfl ?_
             refine Ji rfl rfl rfl ?_
             refine Ji rfl rfl rfl ?_
             refine Ja rfl rfl rfl (Qk (v := .bool false) rfl rfl) ?_
             refine Ja rfl rfl rfl (Jc (v := .bool false) rfl) ?_
             refine Jg ?_
             try dsimp only [z1, z2, z5, z6, z7, z8]
             refine Ju ?_
             obtain rfl := Option.some.inj H86
             refine Qq (v := .bool false) rfl rfl (Yn rfl)
           ·have H87 := Jq hb H81; clear H81
            refine Ji rfl rfl rfl ?_
            refine Ji rfl rfl rfl ?_
            refine Ja rfl rfl rfl (Qk (v := .bool false) rfl rfl) ?_
            refine Ja rfl rfl rfl (Jd (v := .bool false) rfl) ?_
            refine Ji rfl rfl rfl ?_
            refine Ji rfl rfl rfl ?_
            refine Ja rfl rfl rfl (Qk (v := .bool false) rfl rfl) ?_
            refine Ja rfl rfl rfl (Jd (v := .bool false) rfl) ?_
            refine Ji rfl rfl rfl ?_
            refine Ji rfl rfl rfl ?_
            refine Ji rfl rfl rfl ?_
            refine Ja rfl rfl rfl (Qk (v := .bool false) rfl rfl) ?_
            refine Ja rfl rfl rfl (Jc (v := .bool false) rfl) ?_
            refine Jg ?_
            try dsimp only [z1, z2, z5, z6, z7, z8]
            refine Ju ?_
            obtain rfl := Option.some.inj H87
            refine Qq (v := .bool false) rfl rfl (Yn rfl)
end Go.Proofs.Ytemkoikdkfkijaa

/- Plain lemmas about models: loops that count, scans for a first error. Conditions: none. -/
namespace Go.Pl
open Go.Md
end Go.Pl

/- More plain lemmas about models: loops that run or go on, two loops that do the same, loops that collect. Conditions: none. -/
namespace Go.Pl
open Go.Md
theorem Wb {α β : Type} {m : Option α} {k k' : α → Option β} (h : ∀ a, m = some a → k a = k' a) : J2 m k = J2 m k' := by
 cases m with
 | none => rfl
 | some a => exact h a rfl
theorem cnd_congr {α : Type} {b : Bool} {x y x' y' : Option α} (h1 : b = true → x = x') (h2 : b = false → y = y') : Q3 b x y = Q3 b x' y' := by
 cases b
 ·exact h2 rfl
 ·exact h1 rfl
theorem fix_list {α ρ σ : Type} {F : (Int × σ → Option ρ) → Int × σ → Option ρ} (xs : List α) (f : σ → α → σ) (J : σ → Option ρ) (I : Nat → σ → Prop)
  (more : ∀ (next : Int × σ → Option ρ) (k : Nat) (s : σ) (hk : k < xs.length), I k s → F next ((k : Int), s) = next ((k : Int) + 1, f s xs[k]) ∧ I (k + 1) (f s xs[k]))
  (stop : ∀ (next : Int × σ → Option ρ) (s : σ), I xs.length s → F next ((xs.length : Int), s) = J s) (s : σ) (hs : I 0 s) : Wk F (0, s) = J (xs.foldl f s) := by
 have key : ∀ n k s, k ≤ xs.length → xs.length - k < n → I k s → Wk F ((k : Int), s) = J ((xs.drop k).foldl f s) := by
  intro n
  induction n with
  | zero => intro k s _ h; omega
  | succ n ih =>
   intro k s hk h hI
   rcases Nat.lt_or_ge k xs.length with h1 | h1
   ·rw [Xm ((k : Int) + 1, f s xs[k]) (fun next => (more next k s h1 hI).1), List.drop_eq_getElem_cons h1, List.foldl_cons]
    exact ih (k + 1) _ (by omega) (by omega) (more (fun _ => none) k s h1 hI).2
   ·have : k = xs.length := by omega
    subst this
    rw [List.drop_length]
    exact Qr fun next => stop next s hI
 have := key (xs.length + 1) 0 s (Nat.zero_le _) (by omega) hs
 simpa using this
theorem foldl_app {α β : Type} (f : α → β) : ∀ (xs : List α) (s : List β), xs.foldl (fun s x => s ++ [f x]) s = s ++ xs.map f
 | [], s => by simp
 | x :: xs, s => by rw [List.foldl_cons, foldl_app f xs]; simp
end Go.Pl

/- Numbers and values as octets, values checked, in plain Lean. Conditions: none. -/
namespace Go.M
open Go.Md Go.Pl
theorem cI {α : Type} {p : Prop} [Decidable p] {x y : Option α} : Q3 (decide p) x y = if p then x else y := cnd_if ..
theorem fix_ofG {α ρ γ : Type} {F : (α → Option ρ) → α → Option ρ} (spec : γ → α → Option ρ) (I : γ → α → Prop) (μ : γ → Nat)
  (step : ∀ (next : α → Option ρ) (g : γ) (a : α), I g a → (∀ g' b, I g' b → μ g' < μ g → next b = spec g' b) → F next a = spec g a) (g : γ) (a : α) (ha : I g a) : Wk F a = spec g a := by
 have key : ∀ (n : Nat) (g : γ) (a : α), I g a → μ g < n → it F n a = spec g a := by
  intro n
  induction n with
  | zero => intro g a _ h; omega
  | succ n ih => intro g a ha h; exact step _ g a ha fun g' b hb hlt => ih g' b hb (by omega)
 exact fix_ev (k := μ g + 1) fun n hn => key n g a ha (by omega)
theorem X6 (a b : List UInt8) : Qa (a ++ b) = Qa a ++ Qa b := List.map_append
theorem Qg (a : List UInt8) : (Qa a).length = a.length := List.length_map _
theorem toStr_ofStr (a : List UInt8) : Vo (Qa a) = a := by
 unfold Vo Qa
 rw [List.map_map]
 conv => rhs; rw [← List.map_id a]
 apply List.map_congr_left
 intro c _
 show UInt8.ofNat ((c.toNat : Int).toNat) = c
 rw [Int.toNat_natCast, UInt8.ofNat_toNat]
theorem ofStr_toStr {l : List Int} (h : ∀ x ∈ l, 0 ≤ x ∧ x ≤ 255) : Qa (Vo l) = l := by
 unfold Vo Qa
 rw [List.map_map]
 conv => rhs; rw [← List.map_id l]
 apply List.map_congr_left
 intro c hc
 have := h c hc
 show (((UInt8.ofNat c.toNat).toNat : Nat) : Int) = c
 rw [UInt8.toNat_ofNat']
 omega
theorem num_ex (big : Bool) (n : Int) (k : Nat) (hk : k ≤ 8) : ∃ L : List Int, Jj big n k = some L ∧ L.length = k ∧ (∀ x ∈ L, 0 ≤ x ∧ x ≤ 255) ∧ (n = 0 → ∀ x ∈ L, x = 0) := by
 have key : ∀ m i : Nat, i + m = k → ∀ l : List Int, l.length = k → (∀ x ∈ l, 0 ≤ x ∧ x ≤ 255) → (n = 0 → ∀ x ∈ l, x = 0) →
   ∃ L : List Int, Wk (fun next1 s => Q8 big n k (List.replicate k 0) next1 s.1 s.2) ((i : Int), l) = some L ∧ L.length = k ∧ (∀ x ∈ L, 0 ≤ x ∧ x ≤ 255) ∧ (n = 0 → ∀ x ∈ L, x = 0) := by
  intro m
  induction m with
  | zero =>
   intro i hi l hl hx hz
   refine ⟨l, Qr fun next => ?_, hl, hx, hz⟩
   show Q8 big n k _ next (i : Int) l = _
   unfold Q8
   rw [cI, if_neg (by rw [List.length_replicate]; omega)]
  | succ m ih =>
   intro i hi l hl hx hz
   have hs : ∃ y : Int, gShr 64 n (8 * (i : Int)) = some y ∧ (n = 0 → y = 0) := by
    refine ⟨n / 2 ^ min (8 * (i : Int)).toNat 64, if_pos (by omega), fun e => by rw [e]; exact Int.zero_ediv _⟩
   obtain ⟨y, hy, hy0⟩ := hs
   have hp : ∃ q : Nat, q < k ∧ (∀ (next : Int × List Int → Option (List Int)), Q8 big n k (List.replicate k 0) next (i : Int) l = next ((i : Int) + 1, l.set q (wU8 y))) := by
    cases big
    ·refine ⟨i, by omega, fun next => ?_⟩
     unfold Q8
     rw [cI, if_pos (by rw [List.length_replicate]; omega), Qp]
     unfold Zw
     rw [J9 (by omega), Je, hy, Je, X5 (by omega), Je, gSet_ok (by omega) (by omega), Je, J9 (by omega), Je, Int.toNat_natCast]
    ·refine ⟨k - 1 - i, by omega, fun next => ?_⟩
     unfold Q8
     rw [cI, if_pos (by rw [List.length_replicate]; omega), Yf, J9 (by omega), Je, J9 (by omega), Je]
     unfold Zw
     rw [J9 (by omega), Je, hy, Je, gAt_ok (by omega) (by omega), Je, gSet_ok (by omega) (by omega), Je, J9 (by omega), Je, show ((k : Int) - 1 - (i : Int)).toNat = k - 1 - i from by omega]
   obtain ⟨q, hq, h1⟩ := hp
   obtain ⟨L, a1, a3, a4, a5⟩ := ih (i + 1) (by omega) (l.set q (wU8 y)) (by rw [List.length_set]; exact hl) (fun x hxm => by
    rcases List.mem_or_eq_of_mem_set hxm with h | h
    ·exact hx x h
    ·rw [h]; unfold wU8; omega) (fun e x hxm => by
    rcases List.mem_or_eq_of_mem_set hxm with h | h
    ·exact hz e x h
    ·rw [h, hy0 e]; rfl)
   exact ⟨L, (Xm _ h1).trans a1, a3, a4, a5⟩
 obtain ⟨L, a1, a3⟩ := key k 0 (by omega) (List.replicate k 0) (by simp) (fun x hx => by rw [(List.mem_replicate.1 hx).2]; omega) (fun _ x hx => (List.mem_replicate.1 hx).2)
 refine ⟨L, ?_, a3⟩
 unfold Jj
 rw [gMake_ok (by omega), Je, Int.toNat_natCast]; exact a1
noncomputable def Xi (big : Bool) (n : Int) (k : Nat) : List UInt8 := Vo ((Jj big n k).getD [])
theorem num_tag (big : Bool) (n : Int) {k : Nat} (hk : k ≤ 8) : Jj big n k = some (Qa (Xi big n k)) := by
 obtain ⟨L, h1, _, h4, _⟩ := num_ex big n k hk
 unfold Xi
 rw [h1, Option.getD_some, ofStr_toStr h4]
theorem Ql (big : Bool) (n : Int) {k : Nat} (hk : k ≤ 8) : (Xi big n k).length = k := by
 obtain ⟨L, h1, h3, _⟩ := num_ex big n k hk
 unfold Xi Vo
 rw [h1, Option.getD_some, List.length_map, h3]
theorem num_zero (big : Bool) {k : Nat} (hk : k ≤ 8) : Xi big 0 k = List.replicate k 0 := by
 obtain ⟨L, h1, h3, _, h5⟩ := num_ex big 0 k hk
 have : L = List.replicate k 0 := List.eq_replicate_iff.2 ⟨h3, h5 rfl⟩
 unfold Xi Vo
 rw [h1, Option.getD_some, this, List.map_replicate]; rfl
theorem tag2 (big : Bool) (n : Int) : Jj big n 2 = some (Qa (Xi big n 2)) := num_tag big n (k := 2) (by omega)
theorem tag4 (big : Bool) (n : Int) : Jj big n 4 = some (Qa (Xi big n 4)) := num_tag big n (k := 4) (by omega)
def Qz (k : Int) : Nat := if k = 1 ∨ k = 2 ∨ k = 7 then 1 else if k = 3 then 2 else if k = 4 ∨ k = 9 then 4 else if k = 5 then 8 else 0
theorem U9 (k : Int) : Qz k ≤ 8 := by unfold Qz; (repeat' split) <;> omega
theorem sizeOf_eq (k : Int) : Za k = some (if k = 13 then 1 else (Qz k : Int)) := by
 unfold Za Vm Qz
 by_cases h1 : k = 1
 ·subst h1; rfl
 by_cases h2 : k = 2
 ·subst h2; rfl
 by_cases h3 : k = 3
 ·subst h3; rfl
 by_cases h4 : k = 4
 ·subst h4; rfl
 by_cases h5 : k = 5
 ·subst h5; rfl
 by_cases h7 : k = 7
 ·subst h7; rfl
 by_cases h9 : k = 9
 ·subst h9; rfl
 by_cases h13 : k = 13
 ·subst h13; rfl
 simp [h1, h2, h3, h4, h5, h7, h9, h13, Qp]
def Ut (k : Int) : Prop := k = 1 ∨ k = 3 ∨ k = 4 ∨ k = 9
def textK (k : Int) : Prop := k = 2 ∨ k = 7
instance (k : Int) : Decidable (Ut k) := by unfold Ut; infer_instance
instance (k : Int) : Decidable (textK k) := by unfold textK; infer_instance
def kindP (k : Int) : Prop := Ut k ∨ textK k ∨ k = 5 ∨ k = 13
instance (k : Int) : Decidable (kindP k) := by unfold kindP; infer_instance
def formP (v : T_tag_Value) : Prop := (¬ Ut v.Kind ∧ v.Ints ≠ []) ∨ (¬ textK v.Kind ∧ v.Text ≠ []) ∨ (v.Kind ≠ 5 ∧ v.Ratios ≠ []) ∨ (v.Kind ≠ 13 ∧ v.Entries ≠ [])
noncomputable def V4 (v : T_tag_Value) : Int := open Classical in if ¬ kindP v.Kind then 10 else if formP v then 1 else 0
theorem ne_len {α : Type} (l : List α) : (0 : Int) < (l.length : Int) ↔ l ≠ [] := by
 cases l <;> simp <;> omega
theorem wide_zero (k : Int) (h : k ≠ 13) : (Qz k : Int) = 0 ↔ ¬ kindP k := by
 unfold Qz kindP Ut textK
 split
 ·omega
 ·split
  ·omega
  ·split
   ·omega
   ·split <;> omega
theorem j3_fields (v : T_tag_Value) (b : Bool) : Y8 v b = some (open Classical in if b = true ∨ (v.Kind ≠ 13 ∧ v.Entries ≠ []) then 1 else 0) := by
 unfold Y8
 cases b
 ·rw [Qp, cI, cI]
  by_cases h1 : v.Kind ≠ 13
  ·by_cases h2 : v.Entries = []
   ·rw [if_pos h1, if_neg (by rw [ne_len]; simpa using h2), if_neg (by simp [h2])]
   ·rw [if_pos h1, if_pos ((ne_len _).2 h2), if_pos (.inr ⟨h1, h2⟩)]
  ·rw [if_neg h1, if_neg (by simp [h1])]
 ·rw [Yf, Yf, if_pos (.inl rfl)]
theorem j2_fields (v : T_tag_Value) (b : Bool) : Y7 v b = some (open Classical in if b = true ∨ (v.Kind ≠ 5 ∧ v.Ratios ≠ []) ∨ (v.Kind ≠ 13 ∧ v.Entries ≠ []) then 1 else 0) := by
 unfold Y7
 cases b
 ·rw [Qp, cI, j3_fields, j3_fields]
  by_cases h1 : v.Kind ≠ 5
  ·rw [if_pos h1]
   congr 1
   by_cases h2 : v.Ratios = []
   ·simp [h2]
   ·simp [h2, h1, List.length_pos_iff]
  ·rw [if_neg h1]; simp [h1]
 ·rw [Yf, Yf, if_pos (.inl rfl)]
theorem j1_fields (v : T_tag_Value) (b : Bool) : Y9 v b = some (open Classical in if b = true ∨ (¬ textK v.Kind ∧ v.Text ≠ []) ∨ (v.Kind ≠ 5 ∧ v.Ratios ≠ []) ∨ (v.Kind ≠ 13 ∧ v.Entries ≠ []) then 1 else 0) := by
 have ht : tag_isText v.Kind = some (decide (textK v.Kind)) := by
  unfold tag_isText textK
  rw [cI]
  by_cases h : v.Kind = 2
  ·simp [h]
  ·simp [h]
 unfold Y9
 cases b
 ·rw [Qp, ht, Je, j2_fields, j2_fields]
  by_cases h1 : textK v.Kind
  ·rw [decide_eq_true h1]
   show Q3 false _ _ = _
   rw [Qp]; simp [h1]
  ·rw [decide_eq_false h1]
   show Q3 true _ _ = _
   rw [Yf]; simp [h1]
 ·rw [Yf, Yf, if_pos (.inl rfl)]
theorem checkFields_eq (v : T_tag_Value) : Wa v = some (V4 v) := by
 have hi : tag_isInts v.Kind = some (decide (Ut v.Kind)) := by
  unfold tag_isInts Ut
  rw [cI, cI, cI]
  by_cases h : v.Kind = 1
  ·simp [h]
  by_cases h3 : v.Kind = 3
  ·simp [h3]
  by_cases h4 : v.Kind = 4
  ·simp [h4]
  simp [h, h3, h4]
 unfold Wa V4
 rw [sizeOf_eq, Je, cI]
 by_cases hk : kindP v.Kind
 ·have hz : ¬ (if v.Kind = 13 then (1 : Int) else (Qz v.Kind : Int)) = 0 := by
   by_cases h13 : v.Kind = 13
   ·rw [if_pos h13]; omega
   ·rw [if_neg h13]; exact fun e => (wide_zero _ h13).1 e hk
  rw [if_neg hz, hi, Je, j1_fields, j1_fields, if_neg (show ¬ ¬ kindP v.Kind from fun h => h hk)]
  by_cases h1 : Ut v.Kind
  ·rw [decide_eq_true h1]
   show Q3 false _ _ = _
   rw [Qp]; unfold formP; simp [h1]
  ·rw [decide_eq_false h1]
   show Q3 true _ _ = _
   rw [Yf]; unfold formP; simp [h1, List.length_pos_iff]
 ·have h13 : v.Kind ≠ 13 := fun e => hk (.inr (.inr (.inr e)))
  rw [if_neg h13, if_pos ((wide_zero _ h13).2 hk), if_pos hk]
def limS (k : Int) : Int × Int := if k = 1 then (0, 255) else if k = 3 then (0, 65535) else if k = 9 then (-2147483648, 2147483647) else (0, 4294967295)
theorem bounds_eq (k : Int) : tag_bounds k = some (limS k) := by
 unfold tag_bounds limS
 rw [cI, cI, cI]; (repeat' split) <;> rfl
theorem out_tag (a b c : Int) : Zy a b c = some (decide (a < b ∨ c < a)) := by
 unfold Zy
 rw [cI]
 by_cases h : a < b
 ·rw [if_pos h]; simp [h]
 ·rw [if_neg h]; simp [h]
def ratP (r : T_tag_Ratio) : Prop := (r.Num < 0 ∨ 4294967295 < r.Num) ∨ (r.Den < 0 ∨ 4294967295 < r.Den)
noncomputable def plainE (v : T_tag_Value) : Int := open Classical in
 if V4 v ≠ 0 then V4 v else if ∃ n ∈ v.Ints, n < (limS v.Kind).1 ∨ (limS v.Kind).2 < n then 2 else if ∃ r ∈ v.Ratios, ratP r then 2 else if v.Kind = 2 ∧ (0 : UInt8) ∈ v.Text then 9 else 0
theorem look_loop {α : Type} {F : (Int → Option Int) → Int → Option Int} (xs : List α) (p : α → Prop) (e : Int) (o : Option Int) (more : ∀ (next : Int → Option Int) (k : Nat) (hk : k < xs.length), (p xs[k] → F next (k : Int) = some e) ∧ (¬ p xs[k] → F next (k : Int) = next ((k : Int) + 1))) (stop : ∀ next, F next (xs.length : Int) = o) :
  Wk F 0 = open Classical in if ∃ x ∈ xs, p x then some e else o := by
 have key : ∀ m i : Nat, i + m = xs.length → Wk F (i : Int) = open Classical in if ∃ x ∈ xs.drop i, p x then some e else o := by
  intro m
  induction m with
  | zero =>
   intro i hi
   have : i = xs.length := by omega
   subst this
   rw [List.drop_length, if_neg (by simp)]
   exact Qr stop
  | succ m ih =>
   intro i hi
   have hlt : i < xs.length := by omega
   rw [List.drop_eq_getElem_cons hlt]
   by_cases hp : p xs[i]
   ·rw [if_pos ⟨_, List.mem_cons_self, hp⟩]
    exact Qr fun next => (more next i hlt).1 hp
   ·rw [Xm ((i : Int) + 1) (fun next => (more next i hlt).2 hp)]
    have := ih (i + 1) (by omega)
    rw [show ((i : Int) + 1) = ((i + 1 : Nat) : Int) from rfl, this]
    congr 1
    apply propext
    constructor
    ·rintro ⟨x, hx, h⟩; exact ⟨x, List.mem_cons_of_mem _ hx, h⟩
    ·rintro ⟨x, hx, h⟩
     rcases List.mem_cons.1 hx with h' | h'
     ·subst h'; exact absurd h hp
     ·exact ⟨x, h', h⟩
 have := key xs.length 0 (by omega)
 rw [List.drop_zero] at this
 exact this
def vB (v : T_tag_Value) : Prop := v.Text.length ≤ 2000000 ∧ v.Ints.length ≤ 2000000 ∧ v.Ratios.length ≤ 2000000
theorem j2_plain {v : T_tag_Value} (hb : vB v) : Zg v = some (open Classical in if v.Kind = 2 ∧ (0 : UInt8) ∈ v.Text then 9 else 0) := by
 unfold Zg
 rw [cI]
 by_cases h2 : v.Kind = 2
 ·rw [if_pos h2, look_loop v.Text (fun c => c = 0) 9 (some 0) (fun next k hk => ?_) (fun next => ?_)]
  ·congr 1
   by_cases hm : (0 : UInt8) ∈ v.Text
   ·rw [if_pos ⟨0, hm, rfl⟩, if_pos ⟨h2, hm⟩]
   ·rw [if_neg (fun ⟨x, hx, e⟩ => hm (e ▸ hx)), if_neg (fun h => hm h.2)]
  ·show (_ → Xp v next (k : Int) = _) ∧ (_ → Xp v next (k : Int) = _)
   have := hb.1
   unfold Xp
   rw [cI, if_pos (by omega), gOct_nat hk, Je, cI]
   constructor
   ·intro e; rw [if_pos (by rw [e]; rfl)]
   ·intro e
    have : v.Text[k].toNat ≠ 0 := fun h => e (by rw [← UInt8.ofNat_toNat (x := v.Text[k]), h]; rfl)
    rw [if_neg (by omega), J9 (by omega), Je]
  ·show Xp v next (v.Text.length : Int) = _
   unfold Xp
   rw [cI, if_neg (by omega)]
 ·rw [if_neg h2, if_neg (fun h => h2 h.1)]
theorem checkPlain_eq {v : T_tag_Value} (hb : vB v) : Uk v = some (plainE v) := by
 unfold Uk plainE
 rw [checkFields_eq, Je, cI]
 by_cases hf : V4 v ≠ 0
 ·rw [if_pos hf, if_pos hf]
 rw [if_neg hf, if_neg hf, bounds_eq, Je]
 rw [look_loop (F := fun next5 s => Xc v (limS v.Kind) next5 s) v.Ints (fun n => n < (limS v.Kind).1 ∨ (limS v.Kind).2 < n) 2 (Zk v) (fun next k hk => ?_) (fun next => ?_)]
 ·have e1 : Zk v = some (open Classical in if ∃ r ∈ v.Ratios, ratP r then 2 else if v.Kind = 2 ∧ (0 : UInt8) ∈ v.Text then 9 else 0) := by
   unfold Zk
   rw [look_loop (F := fun next4 s => Xb v next4 s) v.Ratios ratP 2 (Zg v) (fun next k hk => ?_) (fun next => ?_), j2_plain hb]
   ·split <;> rfl
   ·show (_ → Xb v next (k : Int) = _) ∧ (_ → Xb v next (k : Int) = _)
    have := hb.2.2
    unfold Xb ratP
    rw [cI, if_pos (by omega), X5 hk, Je, out_tag, Je, cI, out_tag, Je, cI]
    constructor
    ·intro e
     by_cases h1 : v.Ratios[k].Num < 0 ∨ 4294967295 < v.Ratios[k].Num
     ·rw [if_pos h1]
     ·rw [if_neg h1, if_pos (e.resolve_left h1)]
    ·intro e
     rw [if_neg (fun h => e (.inl h)), if_neg (fun h => e (.inr h)), J9 (by omega), Je]
   ·show Xb v next (v.Ratios.length : Int) = _
    unfold Xb
    rw [cI, if_neg (by omega)]
  rw [e1]; split <;> rfl
 ·show (_ → Xc v _ next (k : Int) = _) ∧ (_ → Xc v _ next (k : Int) = _)
  have := hb.2.1
  unfold Xc
  rw [cI, if_pos (by omega), X5 hk, Je, out_tag, Je, cI]
  constructor
  ·intro e; rw [if_pos e]
  ·intro e; rw [if_neg e, J9 (by omega), Je]
 ·show Xc v _ next (v.Ints.length : Int) = _
  unfold Xc
  rw [cI, if_neg (by omega)]
end Go.M

/- Directories checked, values as octets, in plain Lean. Conditions: none. -/
namespace Go.M
open Go.Md Go.Pl
def szD : Nat → List T_tag_Entry → Nat
 | 0, _ => 0
 | d + 1, l => (l.map fun e => 1 + e.Value.Text.length + e.Value.Ints.length + e.Value.Ratios.length + szD d e.Value.Entries).sum
def szE (d : Nat) (e : T_tag_Entry) : Nat := 1 + e.Value.Text.length + e.Value.Ints.length + e.Value.Ratios.length + szD d e.Value.Entries
theorem szD_cons (d : Nat) (e : T_tag_Entry) (l : List T_tag_Entry) : szD (d + 1) (e :: l) = szE d e + szD (d + 1) l := by
 simp only [szD, szE, List.map_cons, List.sum_cons]
theorem szD_mem {d : Nat} {e : T_tag_Entry} : ∀ {l : List T_tag_Entry}, e ∈ l → szE d e ≤ szD (d + 1) l
 | [], h => by cases h
 | x :: l, h => by
  rw [szD_cons]
  rcases List.mem_cons.1 h with h | h
  ·subst h; omega
  ·have := szD_mem (d := d) h; omega
theorem vB_of {d : Nat} {e : T_tag_Entry} {l : List T_tag_Entry} (h : szD (d + 1) l ≤ 2000000) (he : e ∈ l) : vB e.Value ∧ szD d e.Value.Entries ≤ 2000000 := by
 have := szD_mem (d := d) he
 unfold szE at this
 unfold vB
 omega
def prevT (l : List T_tag_Entry) : Nat → Option Int
 | 0 => none
 | k + 1 => (l[k]?).map (·.Tag)
def lowP (pr : Option Int) (e : T_tag_Entry) : Prop := ∃ t, pr = some t ∧ e.Tag ≤ t
noncomputable def listE (f : T_tag_Entry → Int) : Option Int → List T_tag_Entry → Int
 | _, [] => 0
 | pr, e :: l => open Classical in if e.Tag < 0 ∨ 65535 < e.Tag then 2 else if lowP pr e then 5 else if f e ≠ 0 then f e else listE f (some e.Tag) l
theorem list_loop {G : (Int → Option Int) → Int → Option Int} (l : List T_tag_Entry) (f : T_tag_Entry → Int)
  (more : ∀ (next : Int → Option Int) (k : Nat) (hk : k < l.length), G next (k : Int) = open Classical in if l[k].Tag < 0 ∨ 65535 < l[k].Tag then some 2 else if lowP (prevT l k) l[k] then some 5 else if f l[k] ≠ 0 then some (f l[k]) else next ((k : Int) + 1))
  (stop : ∀ next, G next (l.length : Int) = some 0) : Wk G 0 = some (listE f none l) := by
 have key : ∀ m i : Nat, i + m = l.length → Wk G (i : Int) = some (listE f (prevT l i) (l.drop i)) := by
  intro m
  induction m with
  | zero =>
   intro i hi
   have : i = l.length := by omega
   subst this
   rw [List.drop_length]
   exact Qr stop
  | succ m ih =>
   intro i hi
   have hlt : i < l.length := by omega
   rw [List.drop_eq_getElem_cons hlt]
   unfold listE
   by_cases h1 : l[i].Tag < 0 ∨ 65535 < l[i].Tag
   ·rw [if_pos h1]
    exact Qr fun next => by rw [more next i hlt, if_pos h1]
   rw [if_neg h1]
   by_cases h2 : lowP (prevT l i) l[i]
   ·rw [if_pos h2]
    exact Qr fun next => by rw [more next i hlt, if_neg h1, if_pos h2]
   rw [if_neg h2]
   by_cases h3 : f l[i] ≠ 0
   ·rw [if_pos h3]
    exact Qr fun next => by rw [more next i hlt, if_neg h1, if_neg h2, if_pos h3]
   rw [if_neg h3, Xm ((i : Int) + 1) (fun next => by rw [more next i hlt, if_neg h1, if_neg h2, if_neg h3])]
   have := ih (i + 1) (by omega)
   have e1 : prevT l (i + 1) = some l[i].Tag := by show (l[i]?).map _ = _; rw [List.getElem?_eq_getElem hlt]; rfl
   rw [e1] at this
   exact this
 have := key l.length 0 (by omega)
 rw [List.drop_zero] at this
 exact this
theorem listE_zero {f : T_tag_Entry → Int} : ∀ {l : List T_tag_Entry} {pr : Option Int}, listE f pr l = 0 → ∀ e ∈ l, f e = 0
 | [], _, _, e, he => by cases he
 | x :: l, pr, h, e, he => by
  unfold listE at h
  split at h
  ·omega
  split at h
  ·omega
  split at h
  ·rename_i h1; exact absurd h h1
  ·rename_i h1
   rcases List.mem_cons.1 he with h' | h'
   ·subst h'; simpa using h1
   ·exact listE_zero h e h'
noncomputable def dE : Nat → List T_tag_Entry → Int
 | 0, _ => 4
 | d + 1, l => if 200 < l.length then 4 else listE (fun e => if e.Value.Kind ≠ 13 then plainE e.Value else if V4 e.Value ≠ 0 then V4 e.Value else dE d e.Value.Entries) none l
theorem low_step {α : Type} {l : List T_tag_Entry} {k : Nat} (hk : k < l.length) (hl : l.length ≤ 1000) (J : Option α) (x : α) :
  Q3 (decide (0 < (k : Int))) (J2 (gI ((k : Int) - 1)) fun t => J2 (Zh l t) fun t35 => Q3 (decide (l[k].Tag ≤ t35.Tag)) (some x) J) J = open Classical in if lowP (prevT l k) l[k] then some x else J := by
 rw [cI]
 cases k with
 | zero =>
  rw [if_neg (by omega), if_neg]
  rintro ⟨t, h, _⟩
  cases h
 | succ k =>
  have e : prevT l (k + 1) = some l[k].Tag := by show (l[k]?).map _ = _; rw [List.getElem?_eq_getElem (by omega)]; rfl
  rw [if_pos (by omega), J9 (by omega), Je, show (((k + 1 : Nat) : Int) - 1) = (k : Int) from by omega, X5 (by omega), Je, cI, e]
  by_cases h : l[k + 1].Tag ≤ l[k].Tag
  ·rw [if_pos h, if_pos ⟨_, rfl, h⟩]
  ·rw [if_neg h, if_neg]
   rintro ⟨t, ht, h'⟩
   cases ht
   exact h h'
theorem checkDir_eq (d : Nat) (l : List T_tag_Entry) (deep : Int) (hd : deep = 6 - (d : Int)) (h5 : d ≤ 5) (hz : szD d l ≤ 2000000) : tag_checkDir l deep = some (dE d l) := by
 unfold tag_checkDir
 refine fix_ofG (fun d (a : List T_tag_Entry × Int) => some (dE d a.1)) (fun d a => a.2 = 6 - (d : Int) ∧ d ≤ 5 ∧ szD d a.1 ≤ 2000000) (fun d => d) ?_ d (l, deep) ⟨hd, h5, hz⟩
 rintro next d ⟨l, deep⟩ ⟨hd, h5, hz⟩ ih
 simp only at hd hz
 show X4 next l deep = some (dE d l)
 unfold X4
 rw [cI, cI]
 cases d with
 | zero => rw [if_pos (by omega)]; rfl
 | succ d =>
  rw [if_neg (by omega)]
  unfold dE
  by_cases hl : 200 < l.length
  ·rw [if_pos (by omega), if_pos hl]
  rw [if_neg (by omega), if_neg hl]
  refine list_loop l _ (fun nx k hk => ?_) (fun nx => ?_)
  ·obtain ⟨hb, hzn⟩ := vB_of hz (List.getElem_mem hk)
   unfold Zl
   rw [cI, if_pos (by omega), X5 hk, Je, out_tag, Je, cI]
   by_cases h1 : l[k].Tag < 0 ∨ 65535 < l[k].Tag
   ·rw [if_pos h1, if_pos h1]
   rw [if_neg h1, if_neg h1, low_step hk (by omega)]
   congr 1
   unfold V9
   have e3 : ∀ x : Int, Zm (k : Int) nx x = if x ≠ 0 then some x else nx ((k : Int) + 1) := fun x => by
    unfold Zm; rw [cI, J9 (by omega), Je]
   rw [cI]
   by_cases h13 : l[k].Value.Kind ≠ 13
   ·rw [if_pos h13, checkPlain_eq hb, Je, e3]; simp only [if_pos h13]
   ·rw [if_neg h13, checkFields_eq, Je, cI]
    simp only [if_neg h13]
    by_cases hf : V4 l[k].Value = 0
    ·have := ih d (l[k].Value.Entries, deep + 1) ⟨by show deep + 1 = _; omega, by omega, hzn⟩ (by omega)
     rw [if_pos hf, J9 (by omega), Je, this, Je, e3, if_neg (show ¬ V4 l[k].Value ≠ 0 from fun h => h hf)]
    ·rw [if_neg hf, e3]; simp [hf]
  ·unfold Zl
   rw [cI, if_neg (by omega)]
theorem fields13 {v : T_tag_Value} (h : v.Kind = 13) : V4 v = open Classical in if v.Text ≠ [] ∨ v.Ints ≠ [] ∨ v.Ratios ≠ [] then 1 else 0 := by
 unfold V4
 rw [if_neg (show ¬ ¬ kindP v.Kind from fun x => x (.inr (.inr (.inr h))))]
 congr 1
 apply propext
 unfold formP Ut textK
 rw [h]
 constructor
 ·rintro (⟨_, a⟩ | ⟨_, a⟩ | ⟨_, a⟩ | ⟨a, _⟩)
  ·exact .inr (.inl a)
  ·exact .inl a
  ·exact .inr (.inr a)
  ·exact absurd rfl a
 ·rintro (a | a | a)
  ·exact .inr (.inl ⟨by omega, a⟩)
  ·exact .inl ⟨by omega, a⟩
  ·exact .inr (.inr (.inl ⟨by omega, a⟩))
def okV (v : T_tag_Value) : Prop := kindP v.Kind ∧ ¬ formP v
def okD : Nat → List T_tag_Entry → Prop
 | 0, _ => False
 | d + 1, l => l.length ≤ 200 ∧ ∀ e ∈ l, okV e.Value ∧ (e.Value.Kind = 13 → okD d e.Value.Entries)
theorem fields_ok {v : T_tag_Value} (h : V4 v = 0) : okV v := by
 unfold V4 at h
 split at h
 ·omega
 split at h
 ·omega
 rename_i h1 h2
 exact ⟨Classical.byContradiction h1, h2⟩
theorem dE_ok : ∀ {d : Nat} {l : List T_tag_Entry}, dE d l = 0 → okD d l := by
 intro d
 induction d with
 | zero => intro l h; unfold dE at h; omega
 | succ d ih =>
  intro l h
  unfold dE at h
  split at h
  ·omega
  rename_i hl
  refine ⟨by omega, fun e he => ?_⟩
  have := listE_zero h e he
  split at this
  ·rename_i h13
   refine ⟨?_, fun h => absurd h h13⟩
   unfold plainE at this
   split at this
   ·rename_i h1; exact absurd this h1
   ·rename_i h1; exact fields_ok (by simpa using h1)
  ·split at this
   ·rename_i h1; exact absurd this h1
   ·rename_i h1; exact ⟨fields_ok (by simpa using h1), fun _ => ih this⟩
theorem fold_ofStr {α : Type} (g : α → List UInt8) : ∀ (xs : List α) (a : List UInt8), xs.foldl (fun s x => s ++ Qa (g x)) (Qa a) = Qa (a ++ xs.flatMap g)
 | [], a => by simp
 | x :: xs, a => by rw [List.foldl_cons, ← X6, fold_ofStr g xs]; simp
noncomputable def ratS (big : Bool) (r : T_tag_Ratio) : List UInt8 := Xi big r.Num 4 ++ Xi big r.Den 4
noncomputable def Wl (big : Bool) (v : T_tag_Value) : List UInt8 :=
 if v.Kind = 2 then v.Text ++ [0] else if v.Kind = 7 then v.Text else if v.Kind = 5 then v.Ratios.flatMap (ratS big) else v.Ints.flatMap fun n => Xi big n (Qz v.Kind)
def cntS (v : T_tag_Value) : Nat := if v.Kind = 2 then v.Text.length + 1 else if v.Kind = 7 then v.Text.length else if v.Kind = 5 then v.Ratios.length else if v.Kind = 13 then 1 else v.Ints.length
theorem W9 {α : Type} {g : α → List UInt8} {w : Nat} (h : ∀ x, (g x).length = w) : ∀ xs : List α, (xs.flatMap g).length = xs.length * w
 | [] => by simp
 | x :: xs => by rw [List.flatMap_cons, List.length_append, h, W9 h xs, List.length_cons, Nat.add_mul]; omega
theorem ratS_len (big : Bool) (r : T_tag_Ratio) : (ratS big r).length = 8 := by
 unfold ratS; rw [List.length_append, Ql _ _ (by omega), Ql _ _ (by omega)]
theorem octS_len (big : Bool) {v : T_tag_Value} (hv : okV v) (h13 : v.Kind ≠ 13) : (Wl big v).length = cntS v * Qz v.Kind := by
 unfold Wl cntS
 by_cases h2 : v.Kind = 2
 ·rw [if_pos h2, if_pos h2, List.length_append, h2]; simp [Qz]
 rw [if_neg h2, if_neg h2]
 by_cases h7 : v.Kind = 7
 ·rw [if_pos h7, if_pos h7, h7]; simp [Qz]
 rw [if_neg h7, if_neg h7]
 by_cases h5 : v.Kind = 5
 ·rw [if_pos h5, if_pos h5, h5, W9 (ratS_len big)]; rfl
 rw [if_neg h5, if_neg h5, if_neg h13, W9 (w := Qz v.Kind) (fun n => Ql _ _ (U9 _))]
theorem octS_le (big : Bool) (v : T_tag_Value) : (Wl big v).length ≤ 1 + v.Text.length + 8 * v.Ints.length + 8 * v.Ratios.length := by
 unfold Wl
 split
 ·rw [List.length_append, List.length_singleton]; omega
 split
 ·omega
 split
 ·rw [W9 (ratS_len big)]; omega
 ·rw [W9 (w := Qz v.Kind) (fun n => Ql _ _ (U9 _))]
  have := Nat.mul_le_mul_left v.Ints.length (U9 v.Kind)
  omega
theorem count_eq {v : T_tag_Value} (hb : vB v) : Xx v = some (cntS v : Int) := by
 unfold Xx cntS
 have := hb.1
 rw [cI, cI, cI, cI]
 by_cases h2 : v.Kind = 2
 ·rw [if_pos h2, if_pos h2, J9 (by omega), Je]; rfl
 by_cases h7 : v.Kind = 7
 ·rw [if_neg h2, if_pos h7, if_neg h2, if_pos h7]
 by_cases h5 : v.Kind = 5
 ·rw [if_neg h2, if_neg h7, if_pos h5, if_neg h2, if_neg h7, if_pos h5]
 by_cases h13 : v.Kind = 13
 ·rw [if_neg h2, if_neg h7, if_neg h5, if_pos h13, if_neg h2, if_neg h7, if_neg h5, if_pos h13]; rfl
 rw [if_neg h2, if_neg h7, if_neg h5, if_neg h13, if_neg h2, if_neg h7, if_neg h5, if_neg h13]
theorem ok_parts {v : T_tag_Value} (hv : okV v) : (¬ Ut v.Kind → v.Ints = []) ∧ (¬ textK v.Kind → v.Text = []) ∧ (v.Kind ≠ 5 → v.Ratios = []) := by
 obtain ⟨_, hf⟩ := hv
 unfold formP at hf
 refine ⟨fun h => ?_, fun h => ?_, fun h => ?_⟩
 ·exact Classical.byContradiction fun e => hf (.inl ⟨h, e⟩)
 ·exact Classical.byContradiction fun e => hf (.inr (.inl ⟨h, e⟩))
 ·exact Classical.byContradiction fun e => hf (.inr (.inr (.inl ⟨h, e⟩)))
theorem tag_ratios {big : Bool} {v : T_tag_Value} (hb : vB v) (a : List UInt8) (ha : a.length ≤ 16000000) : Wd big v (Qa a) = some (Qa (a ++ v.Ratios.flatMap (ratS big))) := by
 unfold Wd
 have hr := hb.2.2
 rw [← fold_ofStr]
 refine fix_list (F := fun next2 s => Yt big v next2 s.1 s.2) v.Ratios (fun s r => s ++ Qa (ratS big r)) some (fun k s => s.length ≤ a.length + 8 * k) (fun next k s hk hs => ?_) (fun next s hs => ?_) _ (by rw [Qg]; omega)
 ·refine ⟨?_, by show (s ++ _).length ≤ _; rw [List.length_append, Qg, ratS_len]; omega⟩
  show Yt big v next (k : Int) s = _
  unfold Yt
  have l1 : (Qa (Xi big v.Ratios[k].Num 4)).length = 4 := by rw [Qg, Ql _ _ (by omega)]
  have l2 : (Qa (Xi big v.Ratios[k].Den 4)).length = 4 := by rw [Qg, Ql _ _ (by omega)]
  rw [cI, if_pos (by omega), X5 hk, Je, tag4, Je, Yp (by omega), Je, tag4, Je, Yp (by rw [List.length_append]; omega), Je, J9 (by omega), Je]
  unfold ratS
  rw [X6, List.append_assoc]
 ·show Yt big v next (v.Ratios.length : Int) s = _
  unfold Yt
  rw [cI, if_neg (by omega)]
theorem octets_eq {big : Bool} {v : T_tag_Value} (hb : vB v) (hv : okV v) (h13 : v.Kind ≠ 13) : Xt big v = some (Qa (Wl big v)) := by
 have hb' := hb
 obtain ⟨b1, b2, b3⟩ := hb'
 obtain ⟨p1, p2, p3⟩ := ok_parts hv
 unfold Xt Wl
 rw [cI, cI]
 by_cases h2 : v.Kind = 2
 ·rw [if_pos h2, if_pos h2, gByt_ok (by omega), Je, gApL_ok (by rw [Qg, List.length_singleton]; omega), Je, X6]; rfl
 by_cases h7 : v.Kind = 7
 ·rw [if_neg h2, if_pos h7, if_neg h2, if_pos h7, gByt_ok (by omega), Je]
 rw [if_neg h2, if_neg h7, if_neg h2, if_neg h7]
 have hloop := fix_list (F := fun next3 s => Yr big v next3 s.1 s.2) v.Ints (fun s n => s ++ Qa (Xi big n (Qz v.Kind))) (Wd big v) (fun k s => s.length ≤ 8 * k) (fun next k s hk hs => by
   have hw := U9 v.Kind
   have l1 : (Qa (Xi big v.Ints[k] (Qz v.Kind))).length = Qz v.Kind := by rw [Qg, Ql _ _ hw]
   refine ⟨?_, by show (s ++ _).length ≤ _; rw [List.length_append, l1]; omega⟩
   show Yr big v next (k : Int) s = _
   unfold Yr
   rw [cI, if_pos (by omega), X5 hk, Je, sizeOf_eq, Je, if_neg h13, num_tag _ _ hw, Je, Yp (by omega), Je, J9 (by omega), Je]) (fun next s hs => by
   show Yr big v next (v.Ints.length : Int) s = _
   unfold Yr
   rw [cI, if_neg (by omega)]) [] (by simp)
 rw [hloop, show ([] : List Int) = Qa [] from rfl, fold_ofStr, List.nil_append]
 have hlen : (v.Ints.flatMap fun n => Xi big n (Qz v.Kind)).length ≤ 16000000 := by
  rw [W9 (w := Qz v.Kind) (fun n => Ql _ _ (U9 _))]
  have := Nat.mul_le_mul_left v.Ints.length (U9 v.Kind)
  omega
 rw [tag_ratios hb _ hlen]
 by_cases h5 : v.Kind = 5
 ·rw [if_pos h5, p1 (by rw [h5]; unfold Ut; omega)]; rfl
 ·rw [if_neg h5, p3 h5, List.flatMap_nil, List.append_nil]
end Go.M

/- Directories and files written, in plain Lean; the law TagWrites. Conditions: none. -/
namespace Go.M
open Go.Md Go.Pl
def zer (n : Nat) : List UInt8 := List.replicate n 0
def ev (p : Nat) : Nat := p + p % 2
def pad (p : Nat) : List UInt8 := zer (p % 2)
def put (s : List UInt8) (at_ : Nat) (b : List UInt8) : List UInt8 := s.take at_ ++ b ++ s.drop (at_ + b.length)
theorem Vq (n : Nat) : (zer n).length = n := List.length_replicate
theorem pad_len (p : Nat) : (pad p).length = p % 2 := Vq _
theorem ofStr_zer4 : Qa (zer 4) = [0, 0, 0, 0] := rfl
theorem zer_add (a b : Nat) : zer (a + b) = zer a ++ zer b := List.replicate_append_replicate.symm
theorem put_len {s : List UInt8} {a : Nat} {b : List UInt8} (h : a + b.length ≤ s.length) : (put s a b).length = s.length := by
 unfold put
 simp only [List.length_append, List.length_take, List.length_drop]; omega
theorem put_at (A B C b : List UInt8) (h : b.length = B.length) {a : Nat} (ha : a = A.length) : put (A ++ B ++ C) a b = A ++ b ++ C := by
 subst ha
 unfold put
 rw [h, List.append_assoc A B C, List.take_left' rfl, ← List.append_assoc A B C, List.drop_left' (by rw [List.length_append])]
theorem ofStr_take (s : List UInt8) (n : Nat) : (Qa s).take n = Qa (s.take n) := List.map_take.symm
theorem ofStr_drop (s : List UInt8) (n : Nat) : (Qa s).drop n = Qa (s.drop n) := List.map_drop.symm
theorem cpy_put {s b : List UInt8} {a : Int} {m : Nat} {p : Nat} (ha : a = (p : Int)) (hm : b.length ≤ m) : cpyL (Qa s) a m (Qa b) = Qa (put s p b) := by
 subst ha
 unfold cpyL put
 have h1 : (Qa b).take m = Qa b := List.take_of_length_le (by rw [Qg]; exact hm)
 rw [Int.toNat_natCast, Qg, Nat.min_eq_right hm, h1, ofStr_take, ofStr_drop, X6, X6, List.append_assoc]
theorem set_eq4 {big : Bool} {s : List UInt8} {a n : Int} {p : Nat} (ha : a = (p : Int)) (h : p + 4 ≤ s.length) : Z4 ⟨big, Qa s⟩ a n = some ⟨big, Qa (put s p (Xi big n 4))⟩ := by
 unfold Z4
 dsimp only
 rw [Vd (by rw [Qg]; omega), Je, tag4, Je]
 rw [cpy_put ha (by rw [Ql _ _ (by omega), List.length_drop, Qg]; omega)]
theorem begin_eq {big : Bool} {s : List UInt8} (hs : s.length ≤ 1099511627776) : Vv ⟨big, Qa s⟩ = some (((ev s.length : Nat) : Int), ⟨big, Qa (s ++ pad s.length)⟩) := by
 unfold Vv Zq ev pad
 dsimp only
 rw [gRem_ok (by omega), Je, cI, Qg]
 have e : ((s.length : Int)).tmod 2 = ((s.length % 2 : Nat) : Int) := by rw [Int.tmod_eq_emod_of_nonneg (by omega)]; omega
 by_cases h : s.length % 2 = 0
 ·rw [e, if_neg (by omega), h]
  simp [zer]
 ·have h1 : s.length % 2 = 1 := by omega
  rw [e, if_pos (by omega), Yp (by rw [Qg, List.length_singleton]; omega), Je, h1, X6]
  simp only [List.length_append, Qg, List.length_singleton]
  rfl
noncomputable def hdrS (big : Bool) (e : T_tag_Entry) : List UInt8 := Xi big e.Tag 2 ++ Xi big e.Value.Kind 2 ++ Xi big (cntS e.Value) 4
theorem hdr_len (big : Bool) (e : T_tag_Entry) : (hdrS big e).length = 8 := by
 unfold hdrS; rw [List.length_append, List.length_append, Ql _ _ (by omega), Ql _ _ (by omega), Ql _ _ (by omega)]
noncomputable def Ug (G : List T_tag_Entry → Nat → List UInt8) (big : Bool) (e : T_tag_Entry) (q : Nat) : List UInt8 × List UInt8 :=
 if e.Value.Kind = 13 then (Xi big (ev q) 4, G e.Value.Entries q)
 else if (Wl big e.Value).length ≤ 4 then (Wl big e.Value ++ zer (4 - (Wl big e.Value).length), [])
 else (Xi big (ev q) 4, pad q ++ Wl big e.Value)
theorem entF_len (G : List T_tag_Entry → Nat → List UInt8) (big : Bool) (e : T_tag_Entry) (q : Nat) : (Ug G big e q).1.length = 4 := by
 unfold Ug
 split
 ·exact Ql _ _ (by omega)
 split
 ·rw [List.length_append, Vq]; omega
 ·exact Ql _ _ (by omega)
noncomputable def Uh (G : List T_tag_Entry → Nat → List UInt8) (big : Bool) : List T_tag_Entry → Nat → List UInt8 × List UInt8
 | [], _ => ([], [])
 | e :: l, q => (hdrS big e ++ (Ug G big e q).1 ++ (Uh G big l (q + (Ug G big e q).2.length)).1, (Ug G big e q).2 ++ (Uh G big l (q + (Ug G big e q).2.length)).2)
theorem bods_len (G : List T_tag_Entry → Nat → List UInt8) (big : Bool) : ∀ (l : List T_tag_Entry) (q : Nat), (Uh G big l q).1.length = 12 * l.length
 | [], _ => rfl
 | e :: l, q => by
  unfold Uh
  rw [List.length_append, List.length_append, hdr_len, entF_len, bods_len G big l, List.length_cons]; omega
noncomputable def dirB (G : List T_tag_Entry → Nat → List UInt8) (big : Bool) (l : List T_tag_Entry) (p : Nat) : List UInt8 :=
 pad p ++ Xi big l.length 2 ++ (Uh G big l (ev p + 2 + 12 * l.length + 4)).1 ++ zer 4 ++ (Uh G big l (ev p + 2 + 12 * l.length + 4)).2
noncomputable def Q2 : Nat → Bool → List T_tag_Entry → Nat → List UInt8
 | 0, _ => fun _ _ => []
 | d + 1, big => dirB (Q2 d big) big
theorem dirB_len (G : List T_tag_Entry → Nat → List UInt8) (big : Bool) (l : List T_tag_Entry) (p : Nat) : p + (dirB G big l p).length = ev p + 2 + 12 * l.length + 4 + (Uh G big l (ev p + 2 + 12 * l.length + 4)).2.length := by
 unfold dirB ev
 simp only [List.length_append, pad_len, Ql _ _ (show 2 ≤ 8 by omega), bods_len, Vq]; omega
theorem dirS_le (big : Bool) : ∀ (d : Nat) (l : List T_tag_Entry) (p : Nat), (Q2 d big l p).length ≤ 8 + 32 * szD d l := by
 intro d
 induction d with
 | zero => intro l p; exact Nat.zero_le _
 | succ d ih =>
  intro l p
  have hb : ∀ (l : List T_tag_Entry) (q : Nat), (Uh (Q2 d big) big l q).2.length + 12 * l.length ≤ 32 * szD (d + 1) l := by
   intro l
   induction l with
   | nil => intro q; exact Nat.zero_le _
   | cons e l ih2 =>
    intro q
    unfold Uh
    rw [List.length_append, List.length_cons, szD_cons]
    have h1 := ih2 (q + (Ug (Q2 d big) big e q).2.length)
    have h2 : (Ug (Q2 d big) big e q).2.length + 12 ≤ 32 * szE d e := by
     unfold Ug szE
     split
     ·have := ih e.Value.Entries q; simp only; omega
     split
     ·simp only [List.length_nil]; omega
     ·have := octS_le big e.Value
      simp only [List.length_append, pad_len]; omega
    omega
  have h1 := dirB_len (Q2 d big) big l p
  have h2 := hb l (ev p + 2 + 12 * l.length + 4)
  show (dirB (Q2 d big) big l p).length ≤ _
  have h3 : ev p ≤ p + 1 := by unfold ev; omega
  omega
noncomputable def hzS (big : Bool) (l : List T_tag_Entry) : List UInt8 := l.flatMap fun e => hdrS big e ++ zer 4
theorem hz_len (big : Bool) (l : List T_tag_Entry) : (hzS big l).length = 12 * l.length := by
 unfold hzS
 rw [W9 (w := 12) (fun e => by rw [List.length_append, hdr_len, Vq])]; omega
theorem heads_loop {big : Bool} {l : List T_tag_Entry} (hl : l.length ≤ 200) (hv : ∀ e ∈ l, vB e.Value) {self : T_tag_writer × List T_tag_Entry → Option (Int × Int × T_tag_writer)} {t15 : Int × T_tag_writer} (ht : t15.2.big_ = big) (s : List UInt8) (hs : s.length ≤ 1099511627776) :
  Wk (fun next5 a => Xd l self t15 next5 a.1 a.2) (0, Qa s) = Zj l self t15 (Qa (s ++ hzS big l)) := by
 unfold hzS
 rw [← fold_ofStr]
 refine fix_list (F := fun next5 a => Xd l self t15 next5 a.1 a.2) l (fun s e => s ++ Qa (hdrS big e ++ zer 4)) (Zj l self t15) (fun k a => a.length ≤ s.length + 12 * k) (fun next k a hk ha => ?_) (fun next a ha => ?_) _ (by rw [Qg]; omega)
 ·refine ⟨?_, by show (a ++ _).length ≤ _; rw [List.length_append, Qg, List.length_append, hdr_len, Vq]; omega⟩
  show Xd l self t15 next (k : Int) a = _
  unfold Xd
  have n2 : ∀ n, (Qa (Xi big n 2)).length = 2 := fun n => by rw [Qg, Ql _ _ (by omega)]
  have n4 : ∀ n, (Qa (Xi big n 4)).length = 4 := fun n => by rw [Qg, Ql _ _ (by omega)]
  rw [cI, if_pos (by omega), X5 hk, Je, ht, tag2, Je, Yp (by rw [n2]; omega), Je, tag2, Je, Yp (by rw [List.length_append, n2, n2]; omega), Je, count_eq (hv _ (List.getElem_mem hk)), Je, tag4, Je, Yp (by rw [List.length_append, List.length_append, n2, n2, n4]; omega), Je, Yp (by rw [List.length_append, List.length_append, List.length_append, n2, n2, n4]; simp; omega), Je, J9 (by omega), Je]
  unfold hdrS
  rw [X6, X6, X6, ofStr_zer4]
  simp only [List.append_assoc]
 ·show Xd l self t15 next (l.length : Int) a = _
  unfold Xd
  rw [cI, if_neg (by omega)]
theorem prog_loop {big : Bool} {l : List T_tag_Entry} (hl : l.length ≤ 200) (hv : ∀ e ∈ l, okV e.Value ∧ vB e.Value) {G : List T_tag_Entry → Nat → List UInt8} {self : T_tag_writer × List T_tag_Entry → Option (Int × Int × T_tag_writer)}
  (hself : ∀ e ∈ l, e.Value.Kind = 13 → ∀ s : List UInt8, s.length + (G e.Value.Entries s.length).length ≤ 1099511627776 → ∃ q, self (⟨big, Qa s⟩, e.Value.Entries) = some (((ev s.length : Nat) : Int), q, ⟨big, Qa (s ++ G e.Value.Entries s.length)⟩))
  {t15 : Int × T_tag_writer} {at_ : Nat} (ht : t15.1 = (at_ : Int)) (L : List Int) :
  ∀ (l2 : List T_tag_Entry) (i : Nat) (X Y : List UInt8), i + l2.length = l.length → l.drop i = l2 → X.length = at_ + 2 + 12 * i → X.length + 12 * l2.length + 4 + Y.length + (Uh G big l2 (X.length + 12 * l2.length + 4 + Y.length)).2.length ≤ 1099511627776 →
   Wk (fun next3 a => Xn l self t15 L next3 a.1 a.2.1 a.2.2) ((i : Int), big, Qa (X ++ hzS big l2 ++ zer 4 ++ Y)) = some (t15.1, (L.length : Int), ⟨big, Qa (X ++ (Uh G big l2 (X.length + 12 * l2.length + 4 + Y.length)).1 ++ zer 4 ++ Y ++ (Uh G big l2 (X.length + 12 * l2.length + 4 + Y.length)).2)⟩) := by
 intro l2
 induction l2 with
 | nil =>
  intro i X Y hi _ hX hM
  refine Qr fun next => ?_
  show Xn l self t15 L next (i : Int) big _ = _
  unfold Xn
  rw [cI, if_neg (by rw [List.length_nil] at hi; omega)]
  unfold Wh Uh hzS
  simp
 | cons e l2 ih =>
  intro i X Y hi hd hX hM
  have hlt : i < l.length := by rw [List.length_cons] at hi; omega
  have he : l[i] = e := by have := List.drop_eq_getElem_cons hlt; rw [hd] at this; injection this with h1 h2; exact h1.symm
  have hd' : l.drop (i + 1) = l2 := by have := List.drop_eq_getElem_cons hlt; rw [hd] at this; injection this with h1 h2; exact h2.symm
  have hmem : e ∈ l := he ▸ List.getElem_mem hlt
  obtain ⟨hok, hvb⟩ := hv e hmem
  generalize hp : X.length + 12 * (e :: l2).length + 4 + Y.length = p at hM ⊢
  rw [List.length_cons] at hp hi
  unfold Uh at hM ⊢
  simp only at hM ⊢
  generalize hF : Ug G big e p = F at hM ⊢
  obtain ⟨f, b⟩ := F
  have hf4 : f.length = 4 := by have := entF_len G big e p; rw [hF] at this; exact this
  simp only at hM ⊢
  rw [List.length_append] at hM
  have hS : (X ++ hzS big (e :: l2) ++ zer 4 ++ Y).length = p := by
   simp only [List.length_append, hz_len, Vq, List.length_cons]; omega
  have hsplit : ∀ Z : List UInt8, X ++ hzS big (e :: l2) ++ zer 4 ++ Y ++ Z = (X ++ hdrS big e) ++ zer 4 ++ (hzS big l2 ++ zer 4 ++ Y ++ Z) := fun Z => by
   unfold hzS
   rw [List.flatMap_cons]
   simp only [List.append_assoc]
  have hpos : (at_ : Int) + 2 + 12 * (i : Int) + 8 = ((X ++ hdrS big e).length : Int) := by
   rw [List.length_append, hdr_len]; omega
  have hround : ∀ next : Int × Bool × List Int → Option (Int × Int × T_tag_writer), Xn l self t15 L next (i : Int) big (Qa (X ++ hzS big (e :: l2) ++ zer 4 ++ Y)) = next (((i + 1 : Nat) : Int), big, Qa ((X ++ hdrS big e ++ f) ++ hzS big l2 ++ zer 4 ++ (Y ++ b))) := fun next => by
   unfold Xn
   have e4 : ∀ a m, Yx (i : Int) next a m = next (((i + 1 : Nat) : Int), a, m) := fun a m => by
    unfold Yx; rw [J9 (by omega), Je]; rfl
   rw [cI, if_pos (by omega), X5 hlt, Je, he, ht, J9 (by omega), Je, J9 (by omega), Je, J9 (by omega), Je, J9 (by omega), Je, cI]
   unfold Ug at hF
   by_cases h13 : e.Value.Kind = 13
   ·rw [if_pos h13] at hF ⊢
    injection hF with hF1 hF2
    obtain ⟨q, hq⟩ := hself e hmem h13 (X ++ hzS big (e :: l2) ++ zer 4 ++ Y) (by rw [hS, hF2]; omega)
    rw [hq, Je]
    simp only
    rw [hS, hF2, set_eq4 (p := (X ++ hdrS big e).length) hpos (by rw [hsplit]; simp only [List.length_append, Vq]; omega), Je, e4, hF1, hsplit, put_at _ _ _ _ (by rw [hf4, Vq]) rfl]
    simp only [List.append_assoc]
   ·rw [if_neg h13] at hF ⊢
    rw [octets_eq hvb hok h13, Je, cI, Qg]
    by_cases ho : (Wl big e.Value).length ≤ 4
    ·rw [if_pos ho] at hF
     injection hF with hF1 hF2
     have hpn : ((at_ : Int) + 2 + 12 * (i : Int) + 8).toNat = X.length + 8 := by omega
     rw [if_pos (by omega), Vd (by rw [Qg, hS]; omega), Je, e4, cpy_put (p := (X ++ hdrS big e).length) hpos (by rw [List.length_drop, Qg, hS, hpn]; omega)]
     have h0 := hsplit []
     rw [List.append_nil] at h0
     have hz : zer 4 = zer (Wl big e.Value).length ++ zer (4 - (Wl big e.Value).length) := by rw [← zer_add]; congr 1; omega
     have h1 : ∀ R, (X ++ hdrS big e) ++ zer 4 ++ R = (X ++ hdrS big e) ++ zer (Wl big e.Value).length ++ (zer (4 - (Wl big e.Value).length) ++ R) := fun R => by
      rw [hz]
      simp only [List.append_assoc]
     rw [h0]
     rw [h1, put_at _ _ _ _ (by rw [Vq]) rfl, ← hF1, ← hF2]
     simp only [List.append_assoc, List.append_nil]
    ·rw [if_neg ho] at hF
     injection hF with hF1 hF2
     rw [if_neg (by omega), begin_eq (by rw [hS]; omega), Je]
     simp only
     have hol := octS_le big e.Value
     rw [hS, set_eq4 (p := (X ++ hdrS big e).length) hpos (by rw [hsplit]; simp only [List.length_append, Vq]; omega), Je]
     simp only
     rw [Yp (by rw [Qg, Qg, put_len (by rw [hsplit, Ql _ _ (by omega)]; simp only [List.length_append, Vq]; omega), List.length_append, hS, pad_len]; rw [← hF2, List.length_append, pad_len] at hM; omega), Je, e4, hsplit, put_at _ _ _ _ (by rw [Ql _ _ (by omega), Vq]) rfl, ← X6, ← hF1, ← hF2]
     simp only [List.append_assoc]
  rw [Xm _ hround]
  have hq : (X ++ hdrS big e ++ f).length + 12 * l2.length + 4 + (Y ++ b).length = p + b.length := by
   simp only [List.length_append, hdr_len, hf4]; omega
  have := ih (i + 1) (X ++ hdrS big e ++ f) (Y ++ b) (by omega) hd' (by simp only [List.length_append, hdr_len, hf4]; omega) (by rw [hq]; omega)
  rw [this, hq]
  simp only [List.append_assoc]
end Go.M

/- Directories and files written by both, in plain Lean. Conditions: none. -/
namespace Go.M
open Go.Md Go.Pl
theorem dir_eq (d : Nat) (big : Bool) (s : List UInt8) (l : List T_tag_Entry) (hok : okD d l) (hz : szD d l ≤ 2000000) (hM : s.length + (Q2 d big l s.length).length ≤ 1099511627776) :
  Up ⟨big, Qa s⟩ l = some (((ev s.length : Nat) : Int), ((ev s.length + 2 + 12 * l.length : Nat) : Int), ⟨big, Qa (s ++ Q2 d big l s.length)⟩) := by
 unfold Up
 have := fix_ofG (F := fun (self : (T_tag_writer × List T_tag_Entry) → Option (Int × Int × T_tag_writer)) (s : T_tag_writer × List T_tag_Entry) => Xw self s.1 s.2)
  (fun (g : Nat × Bool × List UInt8) (a : T_tag_writer × List T_tag_Entry) => some (((ev g.2.2.length : Nat) : Int), ((ev g.2.2.length + 2 + 12 * a.2.length : Nat) : Int), ⟨g.2.1, Qa (g.2.2 ++ Q2 g.1 g.2.1 a.2 g.2.2.length)⟩))
  (fun g a => a.1 = ⟨g.2.1, Qa g.2.2⟩ ∧ okD g.1 a.2 ∧ szD g.1 a.2 ≤ 2000000 ∧ g.2.2.length + (Q2 g.1 g.2.1 a.2 g.2.2.length).length ≤ 1099511627776) (fun g => g.1) ?_ (d, big, s) (⟨big, Qa s⟩, l) ⟨rfl, hok, hz, hM⟩
 ·exact this
 rintro next ⟨d, big, s⟩ ⟨w, l⟩ ⟨hw, hok, hz, hM⟩ ih
 simp only at hw hok hz hM ih ⊢
 subst hw
 cases d with
 | zero => exact hok.elim
 | succ d =>
  obtain ⟨hl, hall⟩ := hok
  have hM' := dirB_len (Q2 d big) big l s.length
  have hMM : s.length + (dirB (Q2 d big) big l s.length).length ≤ 1099511627776 := hM
  unfold Xw
  have hev : ev s.length = (s ++ pad s.length).length := by rw [List.length_append, pad_len]; rfl
  rw [begin_eq (by omega), Je]
  dsimp only
  rw [tag2, Je, Yp (by rw [Qg, Qg, ← hev, Ql _ _ (by omega)]; omega), Je, ← X6]
  have hX : (s ++ pad s.length ++ Xi big l.length 2).length = ev s.length + 2 := by rw [List.length_append, ← hev, Ql _ _ (by omega)]
  rw [heads_loop hl (fun e he => (vB_of hz he).1) rfl _ (by rw [hX]; omega)]
  unfold Zj
  dsimp only
  rw [Yp (by rw [Qg, List.length_append, hX, hz_len]; simp; omega), Je, ← ofStr_zer4, ← X6]
  have := prog_loop (big := big) hl (fun e he => ⟨(hall e he).1, (vB_of hz he).1⟩) (G := Q2 d big) (self := next) (fun e he h13 s' hs' => ⟨_, ih (d, big, s') (⟨big, Qa s'⟩, e.Value.Entries) ⟨rfl, (hall e he).2 h13, (vB_of hz he).2, hs'⟩ (by simp)⟩)
   (t15 := (((ev s.length : Nat) : Int), ⟨big, Qa (s ++ pad s.length)⟩)) (at_ := ev s.length) rfl (Qa (s ++ pad s.length ++ Xi big l.length 2 ++ hzS big l)) l 0 (s ++ pad s.length ++ Xi big l.length 2) [] (by omega) rfl (by rw [hX]) (by rw [hX, List.length_nil, Nat.add_zero]; omega)
  rw [List.append_nil] at this
  refine this.trans ?_
  rw [hX, Qg, List.length_append, hX, hz_len, List.length_nil, Nat.add_zero, List.append_nil]
  show some _ = some (_, _, (⟨big, Qa (s ++ dirB (Q2 d big) big l s.length)⟩ : T_tag_writer))
  unfold dirB
  simp only [List.append_assoc]
end Go.M

/- Files written and checked; the law TagWrites, in plain Lean. Conditions: none. -/
namespace Go.M
open Go.Md Go.Pl
theorem even_eq (p : Nat) (hp : p ≤ 4611686018427387904) : tag_even (p : Int) = some ((ev p : Nat) : Int) := by
 unfold tag_even ev
 have e : ((p : Int)).tmod 2 = ((p % 2 : Nat) : Int) := by rw [Int.tmod_eq_emod_of_nonneg (by omega)]; omega
 rw [gRem_ok (by omega), Je, e, J9 (by omega), Je]; rfl
theorem octetsOf_eq {v : T_tag_Value} (hb : vB v) (hok : okV v) (h13 : v.Kind ≠ 13) (big : Bool) : V5 v = some ((Wl big v).length : Int) := by
 unfold V5
 have h1 := octS_le big v
 have h2 := octS_len big hok h13
 obtain ⟨b1, b2, b3⟩ := hb
 rw [count_eq ⟨b1, b2, b3⟩, Je, sizeOf_eq, Je, if_neg h13, ← Int.natCast_mul, ← h2, J9 (by omega), Je]
theorem dirEnd_eq (big : Bool) (d : Nat) (l : List T_tag_Entry) (p : Nat) (hok : okD d l) (hz : szD d l ≤ 2000000) (hM : p + (Q2 d big l p).length ≤ 1099511627776) :
  tag_dirEnd l (p : Int) = some (((p + (Q2 d big l p).length : Nat)) : Int) := by
 unfold tag_dirEnd
 have := fix_ofG (F := fun (self : (List T_tag_Entry × Int) → Option Int) (s : List T_tag_Entry × Int) => Y4 self s.1 s.2)
  (fun (g : Nat × Nat) (a : List T_tag_Entry × Int) => some (((g.2 + (Q2 g.1 big a.1 g.2).length : Nat)) : Int))
  (fun g a => a.2 = (g.2 : Int) ∧ okD g.1 a.1 ∧ szD g.1 a.1 ≤ 2000000 ∧ g.2 + (Q2 g.1 big a.1 g.2).length ≤ 1099511627776) (fun g => g.1) ?_ (d, p) (l, (p : Int)) ⟨rfl, hok, hz, hM⟩
 ·exact this
 rintro next ⟨d, p⟩ ⟨l, a⟩ ⟨hw, hok, hz, hM⟩ ih
 simp only at hw hok hz hM ih ⊢
 subst hw
 cases d with
 | zero => exact hok.elim
 | succ d =>
  obtain ⟨hl, hall⟩ := hok
  have hM' := dirB_len (Q2 d big) big l p
  have hMM : p + (dirB (Q2 d big) big l p).length ≤ 1099511627776 := hM
  unfold Y4
  rw [even_eq p (by omega), Je, J9 (by omega), Je, J9 (by omega), Je, J9 (by omega), Je, J9 (by omega), Je]
  have key : ∀ (l2 : List T_tag_Entry) (i q : Nat), i + l2.length = l.length → l.drop i = l2 → q + (Uh (Q2 d big) big l2 q).2.length ≤ 1099511627776 → Wk (fun next1 s => Ys l next next1 s.1 s.2) ((q : Int), (i : Int)) = some (((q + (Uh (Q2 d big) big l2 q).2.length : Nat)) : Int) := by
   intro l2
   induction l2 with
   | nil =>
    intro i q hi _ _
    refine Qr fun nx => ?_
    show Ys l next nx (q : Int) (i : Int) = _
    unfold Ys
    rw [cI, if_neg (by rw [List.length_nil] at hi; omega)]
    rfl
   | cons e l2 ih2 =>
    intro i q hi hd hq
    have hlt : i < l.length := by rw [List.length_cons] at hi; omega
    have he : l[i] = e := by have := List.drop_eq_getElem_cons hlt; rw [hd] at this; injection this with h1 h2; exact h1.symm
    have hd' : l.drop (i + 1) = l2 := by have := List.drop_eq_getElem_cons hlt; rw [hd] at this; injection this with h1 h2; exact h2.symm
    have hmem : e ∈ l := he ▸ List.getElem_mem hlt
    have hvb := (vB_of hz hmem).1
    have hok := (hall e hmem).1
    rw [List.length_cons] at hi
    unfold Uh at hq ⊢
    simp only at hq ⊢
    generalize hF : Ug (Q2 d big) big e q = F at hq ⊢
    obtain ⟨f, b⟩ := F
    simp only at hq ⊢
    rw [List.length_append] at hq ⊢
    have hround : ∀ nx : Int × Int → Option Int, Ys l next nx (q : Int) (i : Int) = nx (((q + b.length : Nat) : Int), ((i + 1 : Nat) : Int)) := fun nx => by
     unfold Ys
     have e2 : ∀ x, Vi (i : Int) nx x = nx (x, ((i + 1 : Nat) : Int)) := fun x => by
      unfold Vi; rw [J9 (by omega), Je]; rfl
     rw [cI, if_pos (by omega), X5 hlt, Je, he, cI]
     unfold Ug at hF
     by_cases h13 : e.Value.Kind = 13
     ·rw [if_pos h13] at hF ⊢
      obtain ⟨_, hF2⟩ := Prod.mk.inj hF
      have := ih (d, q) (e.Value.Entries, (q : Int)) ⟨rfl, (hall e hmem).2 h13, (vB_of hz hmem).2, by show q + (Q2 d big e.Value.Entries q).length ≤ _; rw [hF2]; omega⟩ (by simp)
      rw [this, Je, e2]
      show nx (((q + (Q2 d big e.Value.Entries q).length : Nat) : Int), _) = _
      rw [hF2]
     ·rw [if_neg h13] at hF ⊢
      rw [octetsOf_eq hvb hok h13 big, Je, cI, e2]
      by_cases ho : (Wl big e.Value).length ≤ 4
      ·rw [if_pos ho] at hF
       obtain ⟨_, hF2⟩ := Prod.mk.inj hF
       rw [if_neg (by omega), ← hF2]; rfl
      ·rw [if_neg ho] at hF
       obtain ⟨_, hF2⟩ := Prod.mk.inj hF
       have hbl : b.length = q % 2 + (Wl big e.Value).length := by rw [← hF2, List.length_append, pad_len]
       rw [if_pos (by omega), even_eq q (by omega), Je, Je, J9 (by unfold ev; omega), Je, e2, hbl]
       congr 2
       unfold ev; omega
    rw [Xm _ hround, ih2 (i + 1) (q + b.length) (by omega) hd' (by omega)]
    congr 2
    omega
  have := key l 0 (ev p + 2 + 12 * l.length + 4) (by omega) rfl (by omega)
  have e0 : ((ev p : Nat) : Int) + 2 + 12 * (l.length : Int) + 4 = ((ev p + 2 + 12 * l.length + 4 : Nat) : Int) := by omega
  rw [e0]
  refine this.trans ?_
  rw [← hM']
  rfl
noncomputable def filS (big : Bool) : List (List T_tag_Entry) → List UInt8 → Nat → List UInt8
 | [], s, _ => s
 | l :: ls, s, link => filS big ls (put (s ++ Q2 5 big l s.length) link (Xi big ((ev s.length : Nat) : Int) 4)) (ev s.length + 2 + 12 * l.length)
noncomputable def lenF (big : Bool) : List (List T_tag_Entry) → Nat → Nat
 | [], p => p
 | l :: ls, p => lenF big ls (p + (Q2 5 big l p).length)
def szL : List (List T_tag_Entry) → Nat
 | [] => 0
 | l :: ls => 8 + 32 * szD 5 l + szL ls
def dirsOk (ls : List (List T_tag_Entry)) : Prop := ∀ l ∈ ls, okD 5 l ∧ szD 5 l ≤ 2000000
theorem dir5_len {big : Bool} {l : List T_tag_Entry} {p : Nat} : ev p + 2 + 12 * l.length + 4 ≤ p + (Q2 5 big l p).length := by
 have := dirB_len (Q2 4 big) big l p
 show _ ≤ p + (dirB (Q2 4 big) big l p).length
 omega
theorem filS_len (big : Bool) : ∀ (ls : List (List T_tag_Entry)) (s : List UInt8) (link : Nat), link + 4 ≤ s.length → (filS big ls s link).length = lenF big ls s.length
 | [], _, _, _ => rfl
 | l :: ls, s, link, h => by
  unfold filS lenF
  have h5 := dir5_len (big := big) (l := l) (p := s.length)
  have hp : (put (s ++ Q2 5 big l s.length) link (Xi big ((ev s.length : Nat) : Int) 4)).length = s.length + (Q2 5 big l s.length).length := by
   rw [put_len (by rw [Ql _ _ (by omega), List.length_append]; omega), List.length_append]
  rw [filS_len big ls _ _ (by rw [hp]; omega), hp]
theorem oct_loop (f : T_tag_File) (hok : dirsOk f.Dirs) (hn : f.Dirs.length ≤ 20) : ∀ (ls : List (List T_tag_Entry)) (i : Nat) (s : List UInt8) (link : Nat), i + ls.length = f.Dirs.length → f.Dirs.drop i = ls → link + 4 ≤ s.length → s.length + szL ls ≤ 549755813888 →
  Wk (fun next3 a => Yc f next3 a.1 a.2.1 a.2.2.1 a.2.2.2) ((link : Int), (i : Int), f.Big, Qa s) = some (filS f.Big ls s link) := by
 intro ls
 induction ls with
 | nil =>
  intro i s link hi _ _ _
  rw [List.length_nil] at hi
  refine Qr fun next => ?_
  ·show Yc f next _ (i : Int) f.Big (Qa s) = _
   unfold Yc
   rw [cI, if_neg (by omega)]
   unfold Us filS
   rw [toStr_ofStr]
 | cons l ls ih =>
  intro i s link hi hd hlk hsz
  rw [List.length_cons] at hi
  have hlt : i < f.Dirs.length := by omega
  have he : f.Dirs[i] = l := by have := List.drop_eq_getElem_cons hlt; rw [hd] at this; injection this with h1 h2; exact h1.symm
  have hd' : f.Dirs.drop (i + 1) = ls := by have := List.drop_eq_getElem_cons hlt; rw [hd] at this; injection this with h1 h2; exact h2.symm
  obtain ⟨o1, o2⟩ := hok l (he ▸ List.getElem_mem hlt)
  unfold szL at hsz
  have hle := dirS_le f.Big 5 l s.length
  have h5 := dir5_len (big := f.Big) (l := l) (p := s.length)
  have hl200 : l.length ≤ 200 := o1.1
  have hp : (put (s ++ Q2 5 f.Big l s.length) link (Xi f.Big ((ev s.length : Nat) : Int) 4)).length = s.length + (Q2 5 f.Big l s.length).length := by
   rw [put_len (by rw [Ql _ _ (by omega), List.length_append]; omega), List.length_append]
  have a2 := ih (i + 1) (put (s ++ Q2 5 f.Big l s.length) link (Xi f.Big ((ev s.length : Nat) : Int) 4)) (ev s.length + 2 + 12 * l.length) (by omega) hd' (by rw [hp]; omega) (by rw [hp]; omega)
  have hev : ev s.length ≤ s.length + 1 := by unfold ev; omega
  ·refine Eq.trans (Xm _ fun next => ?_) a2
   show Yc f next (link : Int) (i : Int) f.Big (Qa s) = _
   unfold Yc
   rw [cI, if_pos (by omega), X5 hlt, Je, he, dir_eq 5 f.Big s l o1 o2 (by omega), Je]
   show J2 (Z4 ⟨f.Big, Qa (s ++ Q2 5 f.Big l s.length)⟩ _ _) _ = _
   rw [set_eq4 (p := link) rfl (by rw [List.length_append]; omega), Je, J9 (by omega), Je]
   rfl
noncomputable def headS (big : Bool) : List UInt8 := (if big then [77, 77] else [73, 73]) ++ Xi big 42 2 ++ zer 4
theorem Vu (big : Bool) : (headS big).length = 8 := by
 unfold headS
 rw [List.length_append, List.length_append, Ql _ _ (by omega), Vq]
 cases big <;> rfl
noncomputable def Uc (f : T_tag_File) : List UInt8 := filS f.Big f.Dirs (headS f.Big) 4
theorem octF_len (f : T_tag_File) : (Uc f).length = lenF f.Big f.Dirs 8 := by
 unfold Uc; rw [filS_len _ _ _ _ (by rw [Vu]; omega), Vu]
theorem written_eq {f : T_tag_File} (hok : dirsOk f.Dirs) (hn : f.Dirs.length ≤ 20) (hsz : szL f.Dirs ≤ 274877906944) : tag_written f = some (Uc f) := by
 have key : ∀ m : List UInt8, m.length = 2 → m ++ Xi f.Big 42 2 ++ zer 4 = headS f.Big → Vw f (Qa m) = some (Uc f) := fun m hm hh => by
  unfold Vw
  have l2 : (Qa (Xi f.Big 42 2)).length = 2 := by rw [Qg, Ql _ _ (by omega)]
  rw [tag2, Je, gApN_ok (by rw [l2, Qg, hm]; omega), Je, Yp (by rw [List.length_append, l2, Qg, hm]; simp), Je, ← X6, ← ofStr_zer4, ← X6, hh, Qg, List.length_append, hm, Ql _ _ (by omega)]
  exact (oct_loop f hok hn f.Dirs 0 (headS f.Big) 4 (by omega) rfl (by rw [Vu]; omega) (by rw [Vu]; omega))
 unfold tag_written
 cases h : f.Big
 ·rw [Qp, show ([73, 73] : List Int) = Qa [73, 73] from rfl, key [73, 73] rfl (by rw [h]; rfl)]
 ·rw [Yf, show ([77, 77] : List Int) = Qa [77, 77] from rfl, key [77, 77] rfl (by rw [h]; rfl)]
theorem size_eq {f : T_tag_File} (hok : dirsOk f.Dirs) (hn : f.Dirs.length ≤ 20) (hsz : szL f.Dirs ≤ 274877906944) : tag_size f = some ((Uc f).length : Int) := by
 rw [octF_len]
 unfold tag_size
 have key : ∀ (ls : List (List T_tag_Entry)) (i p : Nat), i + ls.length = f.Dirs.length → f.Dirs.drop i = ls → p + szL ls ≤ 549755813888 → Wk (fun next1 s => Zx f next1 s.1 s.2) ((p : Int), (i : Int)) = some (lenF f.Big ls p : Int) := by
  intro ls
  induction ls with
  | nil =>
   intro i p hi _ _
   rw [List.length_nil] at hi
   refine Qr fun next => ?_
   show Zx f next (p : Int) (i : Int) = _
   unfold Zx
   rw [cI, if_neg (by omega)]; rfl
  | cons l ls ih =>
   intro i p hi hd hs
   rw [List.length_cons] at hi
   have hlt : i < f.Dirs.length := by omega
   have he : f.Dirs[i] = l := by have := List.drop_eq_getElem_cons hlt; rw [hd] at this; injection this with h1 h2; exact h1.symm
   have hd' : f.Dirs.drop (i + 1) = ls := by have := List.drop_eq_getElem_cons hlt; rw [hd] at this; injection this with h1 h2; exact h2.symm
   obtain ⟨o1, o2⟩ := hok l (he ▸ List.getElem_mem hlt)
   unfold szL at hs
   have hle := dirS_le f.Big 5 l p
   refine Eq.trans (Xm (((p + (Q2 5 f.Big l p).length : Nat) : Int), ((i + 1 : Nat) : Int)) fun next => ?_) (ih (i + 1) (p + (Q2 5 f.Big l p).length) (by omega) hd' (by omega))
   show Zx f next (p : Int) (i : Int) = _
   unfold Zx
   rw [cI, if_pos (by omega), X5 hlt, Je, he, dirEnd_eq f.Big 5 l p o1 o2 (by omega), Je, J9 (by omega), Je]
   rfl
 exact key f.Dirs 0 8 (by omega) rfl (by omega)
noncomputable def Wg : List (List T_tag_Entry) → Int
 | [] => 0
 | l :: ls => if dE 5 l ≠ 0 then dE 5 l else Wg ls
theorem firstD_ok : ∀ {ls : List (List T_tag_Entry)}, Wg ls = 0 → ∀ l ∈ ls, dE 5 l = 0
 | [], _, l, hl => by cases hl
 | x :: ls, h, l, hl => by
  unfold Wg at h
  split at h
  ·rename_i h1; exact absurd h h1
  ·rename_i h1
   rcases List.mem_cons.1 hl with h' | h'
   ·subst h'; simpa using h1
   ·exact firstD_ok h l h'
theorem scan_dirs {F : (Int → Option Int) → Int → Option Int} (ls : List (List T_tag_Entry)) (o : Option Int) (more : ∀ (next : Int → Option Int) (k : Nat) (hk : k < ls.length), F next (k : Int) = if dE 5 ls[k] ≠ 0 then some (dE 5 ls[k]) else next ((k : Int) + 1)) (stop : Wg ls = 0 → ∀ next, F next (ls.length : Int) = o) :
  Wk F 0 = if Wg ls ≠ 0 then some (Wg ls) else o := by
 have key : ∀ m i : Nat, i + m = ls.length → (Wg ls = Wg (ls.drop i)) → Wk F (i : Int) = if Wg ls ≠ 0 then some (Wg ls) else o := by
  intro m
  induction m with
  | zero =>
   intro i hi hf
   have : i = ls.length := by omega
   subst this
   rw [List.drop_length] at hf
   have h0 : Wg ls = 0 := hf
   rw [if_neg (by simpa using h0)]
   exact Qr (stop h0)
  | succ m ih =>
   intro i hi hf
   have hlt : i < ls.length := by omega
   rw [List.drop_eq_getElem_cons hlt] at hf
   unfold Wg at hf
   by_cases h : dE 5 ls[i] ≠ 0
   ·rw [if_pos h] at hf
    have : Wk F (i : Int) = some (dE 5 ls[i]) := Qr fun next => by rw [more next i hlt, if_pos h]
    have hf' : Wg ls = dE 5 ls[i] := by unfold Wg; exact hf
    rw [this, hf', if_pos h]
   ·rw [if_neg h] at hf
    rw [Xm ((i : Int) + 1) (fun next => by rw [more next i hlt, if_neg h])]
    exact ih (i + 1) (by omega) (by conv => lhs; unfold Wg
                                    exact hf)
 exact key ls.length 0 (by omega) rfl
def fileB (f : T_tag_File) : Prop := (∀ l ∈ f.Dirs, szD 5 l ≤ 2000000) ∧ szL f.Dirs ≤ 274877906944
noncomputable def fileE (f : T_tag_File) : Int := if 20 < f.Dirs.length then 4 else if Wg f.Dirs ≠ 0 then Wg f.Dirs else if 65000 < (Uc f).length then 4 else 0
theorem dirs_ok {f : T_tag_File} (hb : fileB f) (h : Wg f.Dirs = 0) : dirsOk f.Dirs := fun l hl => ⟨dE_ok (firstD_ok h l hl), hb.1 l hl⟩
theorem Check_eq {f : T_tag_File} (hb : fileB f) : tag_Check f = some (fileE f) := by
 unfold tag_Check fileE
 rw [cI]
 by_cases hn : 20 < f.Dirs.length
 ·rw [if_pos (by omega), if_pos hn]
 rw [if_neg (by omega), if_neg hn]
 rw [scan_dirs (F := fun next2 s => Zb f next2 s) f.Dirs (some (if 65000 < (Uc f).length then 4 else 0)) (fun next k hk => ?_) (fun h0 next => ?_)]
 ·split <;> rfl
 ·show Zb f next (k : Int) = _
  unfold Zb
  rw [cI, if_pos (by omega), X5 hk, Je, checkDir_eq 5 _ 1 (by omega) (by omega) (hb.1 _ (List.getElem_mem hk)), Je, cI, J9 (by omega), Je]
 ·show Zb f next (f.Dirs.length : Int) = _
  unfold Zb
  rw [cI, if_neg (by omega)]
  unfold tag_Check_j1
  rw [size_eq (dirs_ok hb h0) (by omega) hb.2, Je, cI]
  by_cases h : 65000 < (Uc f).length
  ·rw [if_pos (by omega), if_pos h]
  ·rw [if_neg (by omega), if_neg h]
theorem fileE_zero {f : T_tag_File} (hb : fileB f) (h : fileE f = 0) : dirsOk f.Dirs ∧ f.Dirs.length ≤ 20 := by
 unfold fileE at h
 split at h
 ·omega
 rename_i hn
 split at h
 ·rename_i h1; exact absurd h h1
 ·rename_i h1; exact ⟨dirs_ok hb (by simpa using h1), by omega⟩
theorem szL_eq : ∀ ls : List (List T_tag_Entry), szL ls = 8 * ls.length + 32 * (ls.map (szD 5)).sum
 | [] => rfl
 | l :: ls => by unfold szL; rw [szL_eq ls, List.map_cons, List.sum_cons, List.length_cons]; omega
theorem sz_in {l : List T_tag_Entry} : ∀ {ls : List (List T_tag_Entry)}, l ∈ ls → szD 5 l ≤ (ls.map (szD 5)).sum
 | [], h => by cases h
 | x :: ls, h => by
  rw [List.map_cons, List.sum_cons]
  rcases List.mem_cons.1 h with h | h
  ·subst h; omega
  ·have := sz_in h; omega
theorem fileB_of {f : T_tag_File} (h1 : f.Dirs.length ≤ 1048576) (h2 : (f.Dirs.map (szD 5)).sum ≤ 1048576) : fileB f :=
 ⟨fun l hl => by have := sz_in hl; omega, by rw [szL_eq]; omega⟩
end Go.M

/- Numbers and values read from octets, in plain Lean. Conditions: none. -/
namespace Go.M
open Go.Md Go.Pl
set_option linter.unusedVariables false
def valB (big : Bool) (bs : List UInt8) : Nat := (if big then bs else bs.reverse).foldl (fun v b => v * 256 + b.toNat) 0
theorem fold_bd : ∀ (L : List UInt8) (v : Nat), L.foldl (fun v b => v * 256 + b.toNat) v < (v + 1) * 256 ^ L.length
 | [], v => by simp
 | b :: L, v => by
  rw [List.foldl_cons, List.length_cons, Nat.pow_succ]
  have h := fold_bd L (v * 256 + b.toNat)
  have hb := b.toNat_lt
  have : (v * 256 + b.toNat + 1) * 256 ^ L.length ≤ ((v + 1) * 256) * 256 ^ L.length := Nat.mul_le_mul_right _ (by omega)
  calc _ < _ := h
   _ ≤ _ := this
   _ = _ := by rw [Nat.mul_assoc, Nat.mul_comm 256]
theorem valB_lt (big : Bool) (bs : List UInt8) : valB big bs < 256 ^ bs.length := by
 unfold valB
 have := fold_bd (if big then bs else bs.reverse) 0
 cases big <;> simpa using this
theorem valB4 (big : Bool) {bs : List UInt8} (h : bs.length ≤ 4) : valB big bs ≤ 4294967295 := by
 have := valB_lt big bs
 have h2 : 256 ^ bs.length ≤ 256 ^ 4 := Nat.pow_le_pow_right (by omega) h
 omega
theorem valB2 (big : Bool) {bs : List UInt8} (h : bs.length ≤ 2) : valB big bs ≤ 65535 := by
 have := valB_lt big bs
 have h2 : 256 ^ bs.length ≤ 256 ^ 2 := Nat.pow_le_pow_right (by omega) h
 omega
theorem or_byte {v b : Nat} (hv : v ≤ 16777216) (hb : b < 256) : wI64 (bOr 64 ((v : Int) * 256) (b : Int)) = ((v * 256 + b : Nat) : Int) := by
 have e : bOr 64 ((v : Int) * 256) (b : Int) = ((v * 256 + b : Nat) : Int) := by
  unfold bOr
  rw [BitVec.toNat_or, show (v : Int) * 256 = ((v * 256 : Nat) : Int) by omega]
  have h1 : (BitVec.ofInt 64 ((v * 256 : Nat) : Int)).toNat = v * 256 := by rw [BitVec.ofInt_natCast, BitVec.toNat_ofNat, Nat.mod_eq_of_lt (by omega)]
  have h2 : (BitVec.ofInt 64 ((b : Nat) : Int)).toNat = b := by rw [BitVec.ofInt_natCast, BitVec.toNat_ofNat, Nat.mod_eq_of_lt (by omega)]
  rw [h1, h2]
  have := Nat.shiftLeft_add_eq_or_of_lt (i := 8) (b := b) (by omega) v
  rw [Nat.shiftLeft_eq] at this
  rw [← this]
 rw [e]
 unfold wI64; omega
theorem numAt_eq (big : Bool) (s : List UInt8) {a k : Nat} (h : a + k ≤ s.length) (hk : k ≤ 4) (hs : s.length ≤ 65000) : Wv big s (a : Int) (k : Int) = some (valB big ((s.drop a).take k) : Int) := by
 let L := if big then (s.drop a).take k else ((s.drop a).take k).reverse
 have hL : L.length = k := by
  show (if big then (s.drop a).take k else ((s.drop a).take k).reverse).length = k
  cases big <;> simp <;> omega
 have hi : ∀ i (hik : i < k), ∃ q : Nat, ∃ hq : q < k, q = (if big then i else k - 1 - i) ∧ s[a + q]'(by omega) = L[i]'(by omega) := by
  intro i hik
  cases big
  ·refine ⟨k - 1 - i, by omega, rfl, ?_⟩
   show _ = (((s.drop a).take k).reverse)[i]'_
   rw [List.getElem_reverse, List.getElem_take, List.getElem_drop]
   congr 2; simp; omega
  ·refine ⟨i, by omega, rfl, ?_⟩
   show _ = ((s.drop a).take k)[i]'_
   rw [List.getElem_take, List.getElem_drop]
 have key : ∀ m i v : Nat, i + m = k → v < 256 ^ i → Wk (fun next1 s' => Xy big s a k next1 s'.1 s'.2) ((v : Int), (i : Int)) = some (((L.drop i).foldl (fun v b => v * 256 + b.toNat) v : Nat) : Int) := by
  intro m
  induction m with
  | zero =>
   intro i v him hv
   rw [List.drop_eq_nil_of_le (by omega)]
   refine Qr fun next => ?_
   show Xy big s a k next (v : Int) (i : Int) = _
   unfold Xy
   rw [cI, if_neg (by omega)]; rfl
  | succ m ih =>
   intro i v him hv
   obtain ⟨q, hq, hqe, hsq⟩ := hi i (by omega)
   have hv4 : v < 16777216 := Nat.lt_of_lt_of_le hv (Nat.le_trans (Nat.pow_le_pow_right (by omega) (show i ≤ 3 by omega)) (by decide))
   have hb := (s[a + q]'(by omega)).toNat_lt
   rw [List.drop_eq_getElem_cons (show i < L.length by omega), List.foldl_cons]
   have hlt : v * 256 + (L[i]'(by omega)).toNat < 256 ^ (i + 1) := by
    rw [← hsq, Nat.pow_succ]; omega
   refine Eq.trans (Xm _ fun next => ?_) (ih (i + 1) (v * 256 + (L[i]'(by omega)).toNat) (by omega) hlt)
   show Xy big s a k next (v : Int) (i : Int) = _
   unfold Xy
   rw [cI, if_pos (by omega), J9 (by omega), Je, J9 (by omega), Je]
   have go : ∀ x : Int, x = (q : Int) → Vb s a v i next x = next (((v * 256 + (L[i]'(by omega)).toNat : Nat) : Int), ((i + 1 : Nat) : Int)) := by
    intro x hx
    subst hx
    unfold Vb
    have e8 : (2 : Int) ^ (8 : Int).toNat = 256 := by decide
    have hsh : gShl (v : Int) 8 = some ((v : Int) * 256) := by
     unfold gShl
     rw [if_pos ⟨by decide, by decide⟩, e8]
     exact J9 (by omega)
    rw [hsh, Je, J9 (by omega), Je, show (a : Int) + (q : Int) = ((a + q : Nat) : Int) by omega, gOct_nat (by omega), Je]
    unfold gK
    rw [if_pos (by omega), Je, J9 (by omega), Je, or_byte (by omega) hb, hsq]
    rfl
   cases big
   ·rw [Qp]; exact go _ (by rw [hqe]; simp; omega)
   ·rw [Yf]; exact go _ (by rw [hqe]; simp)
 unfold Wv
 have := key k 0 0 (by omega) (by simp)
 rw [List.drop_zero] at this
 exact this
theorem number_eq (r : T_tag_reader) {a k : Nat} (h : a + k ≤ r.s_.length) (hk : k ≤ 4) (hs : r.s_.length ≤ 65000) : Jm r (a : Int) (k : Int) = some (valB r.big_ ((r.s_.drop a).take k) : Int) := by
 unfold Jm
 rw [numAt_eq _ _ h hk hs]; rfl
theorem number4 (r : T_tag_reader) {a : Nat} (h : a + 4 ≤ r.s_.length) (hs : r.s_.length ≤ 65000) : Jm r (a : Int) 4 = some (valB r.big_ ((r.s_.drop a).take 4) : Int) := number_eq (k := 4) r h (by omega) hs
theorem number2 (r : T_tag_reader) {a : Nat} (h : a + 2 ≤ r.s_.length) (hs : r.s_.length ≤ 65000) : Jm r (a : Int) 2 = some (valB r.big_ ((r.s_.drop a).take 2) : Int) := number_eq (k := 2) r h (by omega) hs
def fl (r : T_tag_reader) (e : Int) : T_tag_reader := if r.no_ = 0 then ⟨r.s_, r.big_, r.parts_, r.seen_, r.dirs_, r.found_, e⟩ else r
theorem Vs (r : T_tag_reader) (e : Int) : Qo r e = some (fl r e) := by
 unfold Qo fl
 rw [cI]; split <;> rfl
theorem fl_fl (r : T_tag_reader) {e : Int} (h : e ≠ 0) : fl (fl r e) e = fl r e := by
 unfold fl
 by_cases h0 : r.no_ = 0
 ·rw [if_pos h0, if_neg h]
 ·rw [if_neg h0, if_neg h0]
theorem fl_no (r : T_tag_reader) {e : Int} (h : e ≠ 0) : (fl r e).no_ ≠ 0 := by
 unfold fl
 split
 ·exact h
 ·assumption
theorem there_eq (r : T_tag_reader) {p n : Nat} (hn : n ≤ 1099511627776) (hs : r.s_.length ≤ 65000) : Z3 r (p : Int) (n : Int) = some (decide (8 ≤ p ∧ p + n ≤ r.s_.length)) := by
 unfold Z3
 rw [cI, cI]
 by_cases h1 : 8 ≤ p
 ·rw [if_pos (by omega)]
  by_cases h2 : n ≤ r.s_.length
  ·rw [if_pos (by omega), J9 (by omega), Je]
   congr 1
   rw [decide_eq_decide]; omega
  ·rw [if_neg (by omega)]
   congr 1; symm; rw [decide_eq_false_iff_not]; omega
 ·rw [if_neg (by omega)]
  congr 1; symm; rw [decide_eq_false_iff_not]; omega
def ratR (big : Bool) (b : List UInt8) (i : Nat) : T_tag_Ratio := ⟨(valB big ((b.drop (8 * i)).take 4) : Nat), (valB big ((b.drop (8 * i + 4)).take 4) : Nat)⟩
def intR (big : Bool) (k : Int) (b : List UInt8) (i : Nat) : Int := if k = 9 then wI64 (wI32 (valB big ((b.drop (i * Qz k)).take (Qz k)))) else valB big ((b.drop (i * Qz k)).take (Qz k))
noncomputable def valT (r : T_tag_reader) (k : Int) (c : Nat) (b : List UInt8) : T_tag_Value × T_tag_reader := open Classical in
 if k = 2 then (if b = [] ∨ b.getLast? ≠ some 0 then (⟨2, [], [], [], []⟩, fl r 1) else (⟨2, b.dropLast, [], [], []⟩, if (0 : UInt8) ∈ b.dropLast then fl r 9 else r))
 else if k = 7 then (⟨7, b, [], [], []⟩, r)
 else if k = 5 then (⟨5, [], [], (List.range c).map (ratR r.big_ b), []⟩, r)
 else (⟨k, [], (List.range c).map (intR r.big_ k b), [], []⟩, r)
noncomputable def valR (r : T_tag_reader) (k : Int) (c a : Nat) : T_tag_Value × T_tag_reader :=
 if 4 < c * Qz k then
  let p := valB r.big_ ((r.s_.drop a).take 4)
  if 8 ≤ p ∧ p + c * Qz k ≤ r.s_.length then valT ⟨r.s_, r.big_, r.parts_ ++ [⟨(p : Int), ((p + c * Qz k : Nat) : Int)⟩], r.seen_, r.dirs_, r.found_, r.no_⟩ k c ((r.s_.drop p).take (c * Qz k))
  else (⟨0, [], [], [], []⟩, fl r 2)
 else valT r k c ((r.s_.drop a).take (c * Qz k))
theorem ascii_loop (t : List UInt8) (ht : t.length ≤ 65000) : ∀ (m i : Nat) (r : T_tag_reader), i + m = t.length →
  Wk (fun next1 s => Qv t next1 s.1 s.2.1 s.2.2.1 s.2.2.2.1 s.2.2.2.2.1 s.2.2.2.2.2.1 s.2.2.2.2.2.2.1 s.2.2.2.2.2.2.2) ((i : Int), r.s_, r.big_, r.dirs_, r.found_, r.no_, r.parts_, r.seen_) = some (t, open Classical in if (0 : UInt8) ∈ t.drop i then fl r 9 else r) := by
 intro m
 induction m with
 | zero =>
  intro i r hi
  rw [List.drop_eq_nil_of_le (by omega), if_neg (by simp)]
  refine Qr fun next => ?_
  show Qv t next (i : Int) _ _ _ _ _ _ _ = _
  unfold Qv
  rw [cI, if_neg (by omega)]
 | succ m ih =>
  intro i r hi
  have hb := (t[i]'(by omega)).toNat_lt
  rw [List.drop_eq_getElem_cons (show i < t.length by omega)]
  by_cases h0 : t[i]'(by omega) = 0
  ·have e : (open Classical in if (0 : UInt8) ∈ t[i]'(by omega) :: t.drop (i + 1) then fl r 9 else r) = (open Classical in if (0 : UInt8) ∈ t.drop (i + 1) then fl (fl r 9) 9 else fl r 9) := by
    rw [if_pos (by rw [h0]; simp), fl_fl _ (by decide)]; split <;> rfl
   rw [e]
   refine Eq.trans (Xm _ fun next => ?_) (ih (i + 1) (fl r 9) (by omega))
   show Qv t next (i : Int) _ _ _ _ _ _ _ = _
   unfold Qv
   rw [cI, if_pos (by omega), gOct_nat (by omega), Je, cI, if_pos (by rw [h0]; rfl), Vs, Je]
   unfold Y2
   rw [J9 (by omega), Je]; rfl
  ·have e : (open Classical in if (0 : UInt8) ∈ t[i]'(by omega) :: t.drop (i + 1) then fl r 9 else r) = (open Classical in if (0 : UInt8) ∈ t.drop (i + 1) then fl r 9 else r) := by
    simp only [List.mem_cons, show (0 : UInt8) = t[i]'(by omega) ↔ False from ⟨fun e => h0 e.symm, False.elim⟩, false_or]
   rw [e]
   refine Eq.trans (Xm _ fun next => ?_) (ih (i + 1) r (by omega))
   show Qv t next (i : Int) _ _ _ _ _ _ _ = _
   unfold Qv
   rw [cI, if_pos (by omega), gOct_nat (by omega), Je, cI, if_neg (fun e => h0 (UInt8.toNat_inj.1 (by have : ((t[i]'(by omega)).toNat : Int) = 0 := e; show _ = 0; omega)))]
   unfold Y2
   rw [J9 (by omega), Je]; rfl
theorem ascii_eq (r : T_tag_reader) (t : List UInt8) (ht : t.length ≤ 65000) : Wy r t = some (open Classical in if t = [] ∨ t.getLast? ≠ some 0 then ([], fl r 1) else (t.dropLast, if (0 : UInt8) ∈ t.dropLast then fl r 9 else r)) := by
 unfold Wy
 rw [cI]
 by_cases h : t = []
 ·rw [if_pos h, if_pos (.inl h), Vs]; rfl
 ·have hl : 0 < t.length := List.length_pos_iff.2 h
  have hg : t.getLast? = some (t[t.length - 1]'(by omega)) := by rw [List.getLast?_eq_getElem?, List.getElem?_eq_getElem (by omega)]
  rw [if_neg h, J9 (by omega), Je, show (t.length : Int) - 1 = ((t.length - 1 : Nat) : Int) by omega, gOct_nat (by omega), Je, cI]
  by_cases h0 : t[t.length - 1]'(by omega) = 0
  ·rw [if_neg (by rw [h0]; decide), if_neg (by rw [hg, h0]; simp [h]), Je, gCut_to (by omega), Je, Int.toNat_natCast, ← List.dropLast_eq_take]
   have := ascii_loop t.dropLast (by rw [List.length_dropLast]; omega) t.dropLast.length 0 r (by omega)
   rw [List.drop_zero] at this
   exact this
  ·rw [if_pos (fun e => h0 (UInt8.toNat_inj.1 (by have : ((t[t.length - 1]'(by omega)).toNat : Int) = 0 := e; show _ = 0; omega))), if_pos (.inr (by rw [hg]; simpa using h0)), Vs]; rfl
theorem drop_in (s : List UInt8) {p n o k : Nat} (h : o + k ≤ n) : ((s.drop p).take n |>.drop o).take k = (s.drop (p + o)).take k := by
 rw [List.drop_take, List.take_take, List.drop_drop, Nat.min_eq_left (by omega)]
theorem wide_pos {k : Int} (h : Qz k ≠ 0) (h2 : k ≠ 2) (h7 : k ≠ 7) (h5 : k ≠ 5) : Qz k ≤ 4 ∧ 1 ≤ Qz k := by
 refine ⟨?_, by omega⟩
 unfold Qz
 (repeat' split) <;> omega
theorem value_j1 (r : T_tag_reader) {k : Int} {c p : Nat} (parts : List T_tag_Span) (hw : Qz k ≠ 0) (h13 : k ≠ 13) (hp : p + c * Qz k ≤ r.s_.length) (hs : r.s_.length ≤ 65000) :
  Yy r k (c : Int) ((c * Qz k : Nat) : Int) (p : Int) parts = some (valT ⟨r.s_, r.big_, parts, r.seen_, r.dirs_, r.found_, r.no_⟩ k c ((r.s_.drop p).take (c * Qz k))) := by
 have hcw : c ≤ c * Qz k := Nat.le_mul_of_pos_right _ (by omega)
 unfold Yy valT
 rw [cI, cI, cI]
 by_cases h2 : k = 2
 ·rw [if_pos h2, if_pos h2, J9 (by omega), Je, gCut_ok (by omega), Je, show ((p : Int) + ((c * Qz k : Nat) : Int)).toNat - (p : Int).toNat = c * Qz k by omega, Int.toNat_natCast, ascii_eq _ _ (by rw [List.length_take, List.length_drop]; omega), Je, h2]
  split <;> rfl
 rw [if_neg h2, if_neg h2]
 by_cases h7 : k = 7
 ·rw [if_pos h7, if_pos h7, J9 (by omega), Je, gCut_ok (by omega), Je, show ((p : Int) + ((c * Qz k : Nat) : Int)).toNat - (p : Int).toNat = c * Qz k by omega, Int.toNat_natCast, h7]
  rfl
 rw [if_neg h7, if_neg h7]
 by_cases h5 : k = 5
 ·rw [if_pos h5, if_pos h5]
  have hw8 : Qz k = 8 := by rw [h5]; rfl
  rw [hw8] at hp ⊢
  have := fix_list (F := fun next3 s => Q6 r k (c : Int) (p : Int) parts next3 s.1 s.2) (List.range c) (fun l i => l ++ [ratR r.big_ ((r.s_.drop p).take (c * 8)) i]) (fun l => some ((⟨k, [], [], l, []⟩ : T_tag_Value), (⟨r.s_, r.big_, parts, r.seen_, r.dirs_, r.found_, r.no_⟩ : T_tag_reader))) (fun i l => l.length = i)
   (fun next i l hi hl => by
    have hic : i < c := by rw [List.length_range] at hi; exact hi
    refine ⟨?_, by rw [List.length_append, hl]; rfl⟩
    rw [List.getElem_range]
    show Q6 r k (c : Int) (p : Int) parts next (i : Int) l = _
    unfold Q6
    rw [cI, if_pos (by omega), J9 (by omega), Je, J9 (by omega), Je, show (p : Int) + 8 * (i : Int) = ((p + 8 * i : Nat) : Int) by omega, number4 ⟨r.s_, r.big_, parts, r.seen_, r.dirs_, r.found_, r.no_⟩ (by show _ ≤ r.s_.length; omega) hs, Je, Je, J9 (by omega), Je, J9 (by omega), Je]
    rw [show (p : Int) + 8 * (i : Int) + 4 = ((p + (8 * i + 4) : Nat) : Int) by omega, number4 ⟨r.s_, r.big_, parts, r.seen_, r.dirs_, r.found_, r.no_⟩ (by show _ ≤ r.s_.length; omega) hs, Je, Yp (by rw [hl]; simp; omega), Je, J9 (by omega), Je]
    unfold ratR
    rw [drop_in _ (by omega), drop_in _ (by omega)])
   (fun next l hl => by
    rw [List.length_range]
    show Q6 r k (c : Int) (p : Int) parts next (c : Int) l = _
    unfold Q6
    rw [cI, if_neg (by omega)]; rfl) [] rfl
  rw [foldl_app] at this
  rw [this, h5]; rfl
 ·rw [if_neg h5, if_neg h5]
  obtain ⟨w4, w1⟩ := wide_pos hw h2 h7 h5
  have := fix_list (F := fun next4 s => Q7 r k (c : Int) (p : Int) parts next4 s.1 s.2) (List.range c) (fun l i => l ++ [intR r.big_ k ((r.s_.drop p).take (c * Qz k)) i]) (fun l => some ((⟨k, [], l, [], []⟩ : T_tag_Value), (⟨r.s_, r.big_, parts, r.seen_, r.dirs_, r.found_, r.no_⟩ : T_tag_reader))) (fun i l => l.length = i)
   (fun next i l hi hl => by
    have hic : i < c := by rw [List.length_range] at hi; exact hi
    have hiw : i * Qz k + Qz k ≤ c * Qz k := by
     have := Nat.mul_le_mul_right (Qz k) (show i + 1 ≤ c by omega)
     rw [Nat.add_mul] at this; omega
    refine ⟨?_, by rw [List.length_append, hl]; rfl⟩
    rw [List.getElem_range]
    show Q7 r k (c : Int) (p : Int) parts next (i : Int) l = _
    unfold Q7
    have esz : Za k = some ((Qz k : Nat) : Int) := by rw [sizeOf_eq, if_neg h13]
    rw [cI, if_pos (by omega), esz, Je, show (i : Int) * ((Qz k : Nat) : Int) = ((i * Qz k : Nat) : Int) by rw [Int.natCast_mul], J9 (by omega), Je, J9 (by omega), Je, Je,
     show (p : Int) + ((i * Qz k : Nat) : Int) = ((p + i * Qz k : Nat) : Int) by omega, number_eq ⟨r.s_, r.big_, parts, r.seen_, r.dirs_, r.found_, r.no_⟩ (by show _ ≤ r.s_.length; omega) w4 hs, Je, cI]
    have go : ∀ x : Int, x = intR r.big_ k ((r.s_.drop p).take (c * Qz k)) i → Y1 (i : Int) l next x = next ((i : Int) + 1, l ++ [intR r.big_ k ((r.s_.drop p).take (c * Qz k)) i]) := by
     intro x hx
     unfold Y1
     rw [Yp (by rw [hl]; simp; omega), Je, J9 (by omega), Je, hx]
    have hd : ((r.s_.drop p).take (c * Qz k) |>.drop (i * Qz k)).take (Qz k) = (r.s_.drop (p + i * Qz k)).take (Qz k) := drop_in _ hiw
    by_cases h9 : k = 9
    ·rw [if_pos h9]; exact go _ (by unfold intR; rw [if_pos h9, hd])
    ·rw [if_neg h9]; exact go _ (by unfold intR; rw [if_neg h9, hd]))
   (fun next l hl => by
    rw [List.length_range]
    show Q7 r k (c : Int) (p : Int) parts next (c : Int) l = _
    unfold Q7
    rw [cI, if_neg (by omega)]; rfl) [] rfl
  rw [foldl_app] at this
  rw [this]; rfl
theorem value_eq (r : T_tag_reader) {k : Int} {c a : Nat} (hw : Qz k ≠ 0) (h13 : k ≠ 13) (hc : c ≤ 4294967295) (ha : a + 4 ≤ r.s_.length) (hs : r.s_.length ≤ 65000) (hp : r.parts_.length ≤ 8000000000000) :
  W1 r k (c : Int) (a : Int) = some (valR r k c a) := by
 have hcw : c * Qz k ≤ 4294967295 * 8 := Nat.mul_le_mul hc (U9 k)
 unfold W1 valR
 rw [sizeOf_eq, if_neg h13, Je, show (c : Int) * ((Qz k : Nat) : Int) = ((c * Qz k : Nat) : Int) by rw [Int.natCast_mul], J9 (by omega), Je, cI]
 by_cases h4 : 4 < c * Qz k
 ·rw [if_pos (by omega), if_pos h4, number4 _ ha hs, Je, there_eq _ (by omega) hs, Je]
  have hv := valB4 r.big_ (bs := (r.s_.drop a).take 4) (by rw [List.length_take]; omega)
  by_cases ht : 8 ≤ valB r.big_ ((r.s_.drop a).take 4) ∧ valB r.big_ ((r.s_.drop a).take 4) + c * Qz k ≤ r.s_.length
  ·rw [decide_eq_true ht, Bool.not_true, Qp, J9 (by omega), Je, Yp (by simp; omega), Je, value_j1 r _ hw h13 ht.2 hs]
   simp only [if_pos ht]
   rfl
  ·rw [decide_eq_false ht, Bool.not_false, Yf, Vs, Je]
   simp only [if_neg ht]
 ·rw [if_neg (by omega), if_neg h4, value_j1 r _ hw h13 (by omega) hs]
end Go.M

/- Directories read from octets, in plain Lean. Conditions: none. -/
namespace Go.M
open Go.Md Go.Pl
set_option linter.unusedVariables false
abbrev U5 := (T_tag_reader × Int × (List Int)) → Option ((List T_tag_Entry) × Int × T_tag_reader)
abbrev Q9 (r : T_tag_reader) (a k : Nat) : Nat := valB r.big_ ((r.s_.drop a).take k)
theorem n2 (r : T_tag_reader) {a : Nat} (h : a + 2 ≤ r.s_.length) (hs : r.s_.length ≤ 65000) : Jm r (a : Int) 2 = some (Q9 r a 2 : Int) := number2 r h hs
theorem n4 (r : T_tag_reader) {a : Nat} (h : a + 4 ≤ r.s_.length) (hs : r.s_.length ≤ 65000) : Jm r (a : Int) 4 = some (Q9 r a 4 : Int) := number4 r h hs
theorem v4 (r : T_tag_reader) (a : Nat) : Q9 r a 4 ≤ 4294967295 := valB4 _ (by rw [List.length_take]; omega)
theorem v2 (r : T_tag_reader) (a : Nat) : Q9 r a 2 ≤ 65535 := valB2 _ (by rw [List.length_take]; omega)
theorem found_ok {f : Nat} (h : f ≤ 1) : ∃ g, mft121 f = some g ∧ ∀ l a, g l a = some () := by
 match f, h with
 | 0, _ => exact ⟨_, rfl, fun _ _ => rfl⟩
 | 1, _ => exact ⟨_, rfl, fun _ _ => rfl⟩
theorem clone_eq {l : List Int} (h : l.length ≤ 1000) : Vz l = some l := by
 unfold Vz
 rw [Yp (by simp; omega), Je]; simp
theorem pack_eq (t : Int) (v : T_tag_Value) (r : T_tag_reader) : X3 t v.Kind v.Text v.Ints v.Ratios v.Entries r.s_ r.big_ r.dirs_ r.found_ r.no_ r.parts_ r.seen_ = some (⟨t, v⟩, r) := by cases v; cases r; rfl
noncomputable def entR (self : U5) (r : T_tag_reader) (a : Nat) (path : List Int) : Option (T_tag_Entry × T_tag_reader) :=
 if (Q9 r (a + 2) 2 : Int) = 13 then
  (if Q9 r (a + 4) 4 = 1 then J2 (self (r, (Q9 r (a + 8) 4 : Int), path ++ [(Q9 r a 2 : Int)])) fun t => some ((⟨(Q9 r a 2 : Int), ⟨13, [], [], [], t.1⟩⟩ : T_tag_Entry), t.2.2)
   else some (⟨(Q9 r a 2 : Int), ⟨13, [], [], [], []⟩⟩, fl r 1))
 else if Qz (Q9 r (a + 2) 2 : Int) = 0 then some (⟨(Q9 r a 2 : Int), ⟨(Q9 r (a + 2) 2 : Int), [], [], [], []⟩⟩, fl r 10)
 else some (⟨(Q9 r a 2 : Int), (valR r (Q9 r (a + 2) 2 : Int) (Q9 r (a + 4) 4) (a + 8)).1⟩, (valR r (Q9 r (a + 2) 2 : Int) (Q9 r (a + 4) 4) (a + 8)).2)
theorem entry_eq (self : U5) (r : T_tag_reader) {a : Nat} {path : List Int} (ha : a + 12 ≤ r.s_.length) (hs : r.s_.length ≤ 65000) (hp : r.parts_.length ≤ 8000000000000) (hf : r.found_ ≤ 1) (hl : path.length ≤ 100) :
  Q5 self r (a : Int) path = entR self r a path := by
 obtain ⟨g, hg, hg2⟩ := found_ok hf
 unfold Q5 entR
 rw [n2 _ (by omega) hs, Je, J9 (by omega), Je, show (a : Int) + 2 = ((a + 2 : Nat) : Int) by omega, n2 _ (by omega) hs, Je, J9 (by omega), Je, show (a : Int) + 4 = ((a + 4 : Nat) : Int) by omega, n4 _ (by omega) hs, Je, clone_eq (by omega), Je, Yp (by simp; omega), Je]
 unfold gFn
 rw [hg, Je, hg2, Je, sizeOf_eq, Je, cI, cI]
 have h8 : (a : Int) + 8 = ((a + 8 : Nat) : Int) := by omega
 have hc4 := v4 r (a + 4)
 by_cases h13 : (Q9 r (a + 2) 2 : Int) = 13
 ·rw [if_pos h13, if_pos h13, if_neg (by decide), if_pos h13]
  unfold X2
  rw [cI]
  by_cases h1 : Q9 r (a + 4) 4 = 1
  ·rw [if_neg (by omega), if_pos h1, cI, if_pos h13, J9 (by omega), Je, h8, n4 _ (by omega) hs, Je]
   refine Wb fun t _ => ?_
   rw [h13]; rfl
  ·rw [if_pos (by omega), if_neg h1, Vs, Je, h13]; rfl
 ·rw [if_neg h13, if_neg h13, if_neg h13]
  by_cases h0 : Qz (Q9 r (a + 2) 2 : Int) = 0
  ·rw [if_pos (by omega), if_pos h0, Vs, Je]; rfl
  ·rw [if_neg (by omega), if_neg h0]
   unfold X2
   rw [Qp, cI, if_neg h13, J9 (by omega), Je, h8, value_eq _ h0 h13 hc4 (by omega) hs hp, Je, pack_eq]
noncomputable def dirLoop (self : U5) (path : List Int) (pl nxt cnt i : Nat) (r : T_tag_reader) (l : List T_tag_Entry) : Option ((List T_tag_Entry) × Int × T_tag_reader) :=
 Wk (fun next4 s => Q1 path self next4 s.1 s.2.1 s.2.2.1 s.2.2.2.1 s.2.2.2.2.1 s.2.2.2.2.2.1 s.2.2.2.2.2.2.1 s.2.2.2.2.2.2.2.1 s.2.2.2.2.2.2.2.2.1 s.2.2.2.2.2.2.2.2.2.1 s.2.2.2.2.2.2.2.2.2.2.1 s.2.2.2.2.2.2.2.2.2.2.2) ((pl : Int), (nxt : Int), (cnt : Int), (i : Int), r.s_, r.big_, r.dirs_, r.found_, r.no_, r.parts_, r.seen_, l)
theorem loop_end (self : U5) (path : List Int) (pl nxt cnt i : Nat) (r : T_tag_reader) (l : List T_tag_Entry) (h : cnt ≤ i ∨ r.no_ ≠ 0) : dirLoop self path pl nxt cnt i r l = some (l, (nxt : Int), r) := by
 refine Qr fun next => ?_
 show Q1 path self next (pl : Int) (nxt : Int) (cnt : Int) (i : Int) _ _ _ _ _ _ _ l = _
 unfold Q1
 rw [cI]
 by_cases h1 : cnt ≤ i
 ·rw [if_neg (by omega)]; rfl
 ·rw [if_pos (by omega), cI, if_neg (show ¬ r.no_ = 0 from h.resolve_left h1)]; rfl
theorem loop_next (self : U5) (path : List Int) (pl nxt cnt i : Nat) (r : T_tag_reader) (l : List T_tag_Entry) (hi : i < cnt) (hno : r.no_ = 0) (hl : l.length = i) (hn : i ≤ 1000) (ha : pl + 2 + 12 * cnt ≤ r.s_.length) (hs : r.s_.length ≤ 65000)
  (hlow : ∀ (h : 0 < i), ¬ (Q9 r (pl + 2 + 12 * i) 2 : Int) ≤ (l[i - 1]'(by omega)).Tag) (hp : r.parts_.length ≤ 8000000000000) (hf : r.found_ ≤ 1) (hpl : path.length ≤ 100) {e : T_tag_Entry} {r' : T_tag_reader} (he : entR self r (pl + 2 + 12 * i) path = some (e, r')) :
  dirLoop self path pl nxt cnt i r l = dirLoop self path pl nxt cnt (i + 1) r' (l ++ [e]) := by
 have go : ∀ next, Yv path self (pl : Int) (nxt : Int) (cnt : Int) (i : Int) r.s_ r.big_ r.dirs_ r.found_ r.no_ r.parts_ r.seen_ l next = next ((pl : Int), (nxt : Int), (cnt : Int), ((i + 1 : Nat) : Int), r'.s_, r'.big_, r'.dirs_, r'.found_, r'.no_, r'.parts_, r'.seen_, l ++ [e]) := by
  intro next
  unfold Yv
  rw [J9 (by omega), Je, J9 (by omega), Je, J9 (by omega), Je, show (pl : Int) + 2 + 12 * (i : Int) = ((pl + 2 + 12 * i : Nat) : Int) by omega, entry_eq self r (by omega) hs hp hf hpl, he, Je, Yp (by simp; omega), Je, J9 (by omega), Je]
  rfl
 refine Xm _ fun next => ?_
 show Q1 path self next (pl : Int) (nxt : Int) (cnt : Int) (i : Int) _ _ _ _ _ _ _ l = _
 unfold Q1
 rw [cI, if_pos (by omega), cI, if_pos hno, cI]
 by_cases h0 : 0 < i
 ·rw [if_pos (by omega), J9 (by omega), Je, J9 (by omega), Je, J9 (by omega), Je, show (pl : Int) + 2 + 12 * (i : Int) = ((pl + 2 + 12 * i : Nat) : Int) by omega,
   n2 r (by omega) hs, Je, J9 (by omega), Je, show (i : Int) - 1 = ((i - 1 : Nat) : Int) by omega, X5 (by omega), Je, cI, if_neg (hlow h0)]
  exact go next
 ·rw [if_neg (by omega)]
  exact go next
noncomputable def dirR (self : U5) (r : T_tag_reader) (pl : Nat) (path : List Int) : Option ((List T_tag_Entry) × Int × T_tag_reader) :=
 if ¬ (8 ≤ pl ∧ pl + 2 ≤ r.s_.length) then some ([], 0, fl r 2)
 else if (mGet r.seen_ (pl : Int)).getD false = true then some ([], 0, fl r 13)
 else if 20 < r.dirs_ ∨ 5 < path.length ∨ 200 < Q9 r pl 2 then some ([], 0, fl r 4)
 else if ¬ (pl + (2 + 12 * Q9 r pl 2 + 4) ≤ r.s_.length) then some ([], 0, fl r 2)
 else if r.no_ ≠ 0 then some ([], 0, r)
 else dirLoop self path pl (Q9 r (pl + 2 + 12 * Q9 r pl 2) 4) (Q9 r pl 2) 0
  (if 1 < path.length ∧ Q9 r (pl + 2 + 12 * Q9 r pl 2) 4 ≠ 0 then fl ⟨r.s_, r.big_, r.parts_ ++ [⟨(pl : Int), ((pl + (2 + 12 * Q9 r pl 2 + 4) : Nat) : Int)⟩], mSet r.seen_ (pl : Int) true, r.dirs_, r.found_, r.no_⟩ 1
   else ⟨r.s_, r.big_, r.parts_ ++ [⟨(pl : Int), ((pl + (2 + 12 * Q9 r pl 2 + 4) : Nat) : Int)⟩], mSet r.seen_ (pl : Int) true, r.dirs_, r.found_, r.no_⟩) []
theorem W5 (pl cnt : Int) (path : List Int) (self : U5) (r : T_tag_reader) (h : r.no_ ≠ 0) : Qu pl path self cnt r.s_ r.big_ r.dirs_ r.found_ r.no_ r.parts_ r.seen_ = some ([], 0, r) := by
 unfold Qu
 rw [cI, if_pos h]
theorem dir_step (self : U5) (r : T_tag_reader) {pl : Nat} {path : List Int} (hpl : pl ≤ 4294967295) (hs : r.s_.length ≤ 65000) (hp : r.parts_.length ≤ 7999999999999) :
  Qc self r (pl : Int) path = dirR self r pl path := by
 unfold Qc dirR
 rw [show (2 : Int) = ((2 : Nat) : Int) from rfl, there_eq _ (by omega) hs, Je, show ((2 : Nat) : Int) = 2 from rfl]
 by_cases ht : 8 ≤ pl ∧ pl + 2 ≤ r.s_.length
 ·rw [decide_eq_true ht, Bool.not_true, Qp, if_neg (by simp [ht]), n2 _ ht.2 hs, Je]
  have hv := v2 r pl
  by_cases hsn : (mGet r.seen_ (pl : Int)).getD false = true
  ·rw [if_pos hsn, hsn, Yf, Vs, Je, W5 _ _ _ _ _ (fl_no _ (by decide))]
  ·rw [if_neg hsn, Bool.not_eq_true _ |>.mp hsn, Qp, cI, cI, cI]
   by_cases h20 : 20 < r.dirs_
   ·rw [if_pos h20, if_pos (.inl h20), Vs, Je, W5 _ _ _ _ _ (fl_no _ (by decide))]
   rw [if_neg h20]
   by_cases h5 : 5 < path.length
   ·rw [if_pos (by omega), if_pos (.inr (.inl h5)), Vs, Je, W5 _ _ _ _ _ (fl_no _ (by decide))]
   rw [if_neg (by omega)]
   by_cases h200 : 200 < Q9 r pl 2
   ·rw [if_pos (by omega), if_pos (.inr (.inr h200)), Vs, Je, W5 _ _ _ _ _ (fl_no _ (by decide))]
   rw [if_neg (by omega), if_neg (by omega), J9 (by omega), Je, J9 (by omega), Je, J9 (by omega), Je, show (2 : Int) + 12 * (Q9 r pl 2 : Int) + 4 = ((2 + 12 * Q9 r pl 2 + 4 : Nat) : Int) by omega, there_eq _ (by omega) hs, Je]
   by_cases hb : pl + (2 + 12 * Q9 r pl 2 + 4) ≤ r.s_.length
   ·rw [decide_eq_true ⟨ht.1, hb⟩, Bool.not_true, Qp, if_neg (by omega)]
    by_cases hno : r.no_ = 0
    ·rw [if_neg (by simp [hno])]
     unfold Qu
     have hb' : pl + (2 + 12 * Q9 r pl 2 + 4) ≤ r.s_.length := hb
     rw [cI, if_neg (by simp [hno]), J9 (by omega), Je, J9 (by omega), Je, J9 (by omega), Je, J9 (by omega), Je, Yp (by simp; omega), Je, Je, Je, J9 (by omega), Je,
      show (pl : Int) + 2 + 12 * (Q9 r pl 2 : Int) = ((pl + 2 + 12 * Q9 r pl 2 : Nat) : Int) by omega,
      show ((pl + 2 + 12 * Q9 r pl 2 : Nat) : Int) + 4 = ((pl + (2 + 12 * Q9 r pl 2 + 4) : Nat) : Int) by omega,
      n4 (a := pl + 2 + 12 * Q9 r pl 2) (⟨r.s_, r.big_, r.parts_ ++ [(⟨(pl : Int), ((pl + (2 + 12 * Q9 r pl 2 + 4) : Nat) : Int)⟩ : T_tag_Span)], mSet r.seen_ (pl : Int) true, r.dirs_, r.found_, r.no_⟩ : T_tag_reader) (by show _ ≤ r.s_.length; omega) hs, Je, cI, cI]
     by_cases h1 : 1 < path.length
     ·rw [if_pos (by omega)]
      by_cases hn : Q9 r (pl + 2 + 12 * Q9 r pl 2) 4 = 0
      ·rw [if_neg (by show ¬ ((Q9 r (pl + 2 + 12 * Q9 r pl 2) 4 : Nat) : Int) ≠ 0; omega), if_neg (by omega)]; rfl
      ·rw [if_pos (by show ((Q9 r (pl + 2 + 12 * Q9 r pl 2) 4 : Nat) : Int) ≠ 0; omega), if_pos ⟨h1, hn⟩, Vs, Je]; rfl
     ·rw [if_neg (by omega), if_neg (by omega)]; rfl
    ·rw [if_pos hno, W5 _ _ _ _ _ hno]
   ·rw [decide_eq_false (by omega), Bool.not_false, Yf, if_pos hb, Vs, Je, W5 _ _ _ _ _ (fl_no _ (by decide))]
 ·rw [decide_eq_false ht, Bool.not_false, Yf, if_pos ht, Vs, Je]
end Go.M

/- Reading whatever octets, in plain Lean: it answers, and its parts lie inside. Conditions: none. -/
namespace Go.M
open Go.Md Go.Pl
set_option linter.unusedVariables false
def okS (n : Nat) (x : T_tag_Span) : Prop := 8 ≤ x.From ∧ x.From < x.To ∧ x.To ≤ (n : Int)
def lenS (l : List T_tag_Span) : Int := (l.map fun x => x.To - x.From).sum
theorem lenS_app (a b : List T_tag_Span) : lenS (a ++ b) = lenS a + lenS b := by unfold lenS; rw [List.map_append, List.sum_append]
theorem lenS_nil : lenS [] = 0 := rfl
theorem lenS_one (x : T_tag_Span) : lenS [x] = x.To - x.From := by unfold lenS; simp
def Adds (r r' : T_tag_reader) (K : Nat) (z : Int) : Prop :=
 r'.s_ = r.s_ ∧ r'.big_ = r.big_ ∧ r'.dirs_ = r.dirs_ ∧ r'.found_ = r.found_ ∧ ∃ new, r'.parts_ = r.parts_ ++ new ∧ (∀ x ∈ new, okS r.s_.length x) ∧ new.length ≤ K ∧ z ≤ lenS new
theorem Adds.same (r : T_tag_reader) {K : Nat} {z : Int} (hz : z ≤ 0) : Adds r r K z := ⟨rfl, rfl, rfl, rfl, [], by simp, by simp, Nat.zero_le _, hz⟩
theorem Adds.trans {a b c : T_tag_reader} {K L : Nat} {y z : Int} (h : Adds a b K y) (g : Adds b c L z) : Adds a c (K + L) (y + z) := by
 obtain ⟨h1, h2, h3, h4, n, h5, h6, h7, h8⟩ := h
 obtain ⟨g1, g2, g3, g4, m, g5, g6, g7, g8⟩ := g
 refine ⟨g1.trans h1, g2.trans h2, g3.trans h3, g4.trans h4, n ++ m, by rw [g5, h5, List.append_assoc], ?_, by rw [List.length_append]; omega, by rw [lenS_app]; omega⟩
 intro x hx
 rcases List.mem_append.1 hx with hx | hx
 ·exact h6 x hx
 ·rw [← h1]; exact g6 x hx
theorem Adds.mono {a b : T_tag_reader} {K L : Nat} {y z : Int} (h : Adds a b K y) (hK : K ≤ L) (hz : z ≤ y) : Adds a b L z := by
 obtain ⟨h1, h2, h3, h4, n, h5, h6, h7, h8⟩ := h
 exact ⟨h1, h2, h3, h4, n, h5, h6, by omega, by omega⟩
theorem Adds.part (r : T_tag_reader) (x : T_tag_Span) (seen : List (Int × Bool)) (h : okS r.s_.length x) : Adds r ⟨r.s_, r.big_, r.parts_ ++ [x], seen, r.dirs_, r.found_, r.no_⟩ 1 (x.To - x.From) :=
 ⟨rfl, rfl, rfl, rfl, [x], rfl, fun y hy => by rw [List.mem_singleton.1 hy]; exact h, by simp, by rw [lenS_one]; omega⟩
theorem Adds.parts {r r' : T_tag_reader} {K : Nat} {z : Int} (h : Adds r r' K z) : r'.parts_.length ≤ r.parts_.length + K := by
 obtain ⟨_, _, _, _, n, h5, _, h7, _⟩ := h
 rw [h5, List.length_append]; omega
theorem Adds.len {r r' : T_tag_reader} {K : Nat} {z : Int} (h : Adds r r' K z) : r'.s_.length = r.s_.length := by rw [h.1]
def cap : Nat → Nat
 | 0 => 0
 | d + 1 => 1 + 200 * (1 + cap d)
theorem entry_congr {self self' : U5} {path : List Int} (h : ∀ r pl p, p.length = path.length + 1 → self (r, pl, p) = self' (r, pl, p)) (r : T_tag_reader) (a : Int) : Q5 self r a path = Q5 self' r a path := by
 unfold Q5
 refine Wb fun t13 _ => Wb fun _ _ => Wb fun _ _ => Wb fun _ _ => Wb fun _ _ => Wb fun t23 h23 => Wb fun l26 h26 => ?_
 have hl : l26.length = path.length + 1 := by
  unfold Vz at h23
  cases hg : X0 8 ([] : List Int) path with
  | none => rw [hg] at h23; cases h23
  | some u => rw [hg, Je] at h23; cases h23; rw [(gApp_some h26).1, (gApp_some hg).1]; simp
 have e : ∀ x y, self (x, y, l26) = self' (x, y, l26) := fun x y => h x y l26 hl
 unfold X2
 simp only [e]
theorem loop_congr {self self' : U5} {path : List Int} (h : ∀ r pl p, p.length = path.length + 1 → self (r, pl, p) = self' (r, pl, p)) (r : T_tag_reader) (pl : Int) : Qc self r pl path = Qc self' r pl path := by
 have e : ∀ r a, Q5 self r a path = Q5 self' r a path := entry_congr h
 have e4 : Q1 path self = Q1 path self' := by
  funext next x1 x7 x9 x10 m1 m2 m3 m4 m5 l1 mp l2
  unfold Q1 Yv
  simp only [e]
 have e1 : ∀ a1 t m m2 m3 m4 m5 l mp, Qu a1 path self t m m2 m3 m4 m5 l mp = Qu a1 path self' t m m2 m3 m4 m5 l mp := by
  intro a1 t m m2 m3 m4 m5 l mp
  unfold Qu Zi
  rw [e4]
 unfold Qc
 simp only [e1]
theorem deep_congr {self self' : U5} {path : List Int} (h : 5 < path.length) (r : T_tag_reader) (pl : Int) : Qc self r pl path = Qc self' r pl path := by
 unfold Qc
 refine Wb fun t _ => cnd_congr (fun _ => rfl) fun _ => Wb fun c _ => cnd_congr (fun _ => ?_) fun _ => cnd_congr (fun _ => ?_) fun _ => ?_
 ·rw [Vs, Je, Je, W5 _ _ _ _ _ (fl_no _ (by decide)), W5 _ _ _ _ _ (fl_no _ (by decide))]
 ·rw [Vs, Je, Je, W5 _ _ _ _ _ (fl_no _ (by decide)), W5 _ _ _ _ _ (fl_no _ (by decide))]
 ·rw [cI, if_pos (by omega), cI, if_pos (by omega), Vs, Je, Je, W5 _ _ _ _ _ (fl_no _ (by decide)), W5 _ _ _ _ _ (fl_no _ (by decide))]
noncomputable abbrev dirF : U5 → U5 := fun self s => Qc self s.1 s.2.1 s.2.2
theorem it_same : ∀ (d n m : Nat), d < n → d < m → ∀ (r : T_tag_reader) (pl : Int) (path : List Int), path.length + d = 6 → it dirF n (r, pl, path) = it dirF m (r, pl, path) := by
 intro d
 induction d with
 | zero =>
  intro n m hn hm r pl path h6
  obtain ⟨n, rfl⟩ : ∃ k, n = k + 1 := ⟨n - 1, by omega⟩
  obtain ⟨m, rfl⟩ : ∃ k, m = k + 1 := ⟨m - 1, by omega⟩
  exact deep_congr (path := path) (by omega) r pl
 | succ d ih =>
  intro n m hn hm r pl path h6
  obtain ⟨n, rfl⟩ : ∃ k, n = k + 1 := ⟨n - 1, by omega⟩
  obtain ⟨m, rfl⟩ : ∃ k, m = k + 1 := ⟨m - 1, by omega⟩
  exact loop_congr (path := path) (fun r pl p hp => ih n m (by omega) (by omega) r pl p (by omega)) r pl
theorem dir_it (r : T_tag_reader) (pl : Int) (path : List Int) (h1 : path.length = 1) : V0 r pl path = it dirF 6 (r, pl, path) := by
 unfold V0
 exact fix_ev (k := 6) fun n hn => it_same 5 n 6 (by omega) (by omega) r pl path (by omega)
end Go.M

/- A file's parts, the used spans and the holes, in plain Lean. Conditions: none. -/
namespace Go.M
open Go.Md Go.Pl
set_option linter.unusedVariables false
def cmpI (a b : Int) : Int := if a < b then -1 else if b < a then 1 else 0
theorem compare_eq (a b : Int) : cmp_Compare_int a b = some (cmpI a b) := by
 unfold cmp_Compare_int Uz cmpI
 rw [Je, Je, decide_eq_false (by simp), decide_eq_false (by simp), Qp, Qp, cI, cI]
 split
 ·rfl
 split <;> rfl
theorem or2_eq (a b : Int) : cmp_Or_int [a, b] = some (if a ≠ 0 then a else b) := by
 unfold cmp_Or_int
 by_cases ha : a = 0
 ·rw [if_neg (by simp [ha])]
  rw [Xm (1 : Int) fun next => by
   unfold Ya
   rw [cI, if_pos (by simp), show Zh [a, b] 0 = some a from rfl, Je, cI, if_neg (by simp [ha]), J9 (by omega), Je]; rfl]
  by_cases hb : b = 0
  ·rw [Xm (2 : Int) fun next => by
    unfold Ya
    rw [cI, if_pos (by simp), show Zh [a, b] 1 = some b from rfl, Je, cI, if_neg (by simp [hb]), J9 (by omega), Je]; rfl]
   exact Qr fun next => by
    unfold Ya
    rw [cI, if_neg (by simp), hb]
  ·exact Qr fun next => by
    unfold Ya
    rw [cI, if_pos (by simp), show Zh [a, b] 1 = some b from rfl, Je, cI, if_pos hb]
 ·rw [if_pos ha]
  exact Qr fun next => by
   unfold Ya
   rw [cI, if_pos (by simp), show Zh [a, b] 0 = some a from rfl, Je, cI, if_pos ha]
theorem spans_eq (x y : T_tag_Span) : Xk x y = some (if cmpI x.From y.From ≠ 0 then cmpI x.From y.From else cmpI x.To y.To) := by
 unfold Xk
 rw [compare_eq, Je, compare_eq, Je, or2_eq, Je]
theorem spans_le (x y : T_tag_Span) : (Xk x y).getD 0 ≤ 0 ↔ x.From < y.From ∨ (x.From = y.From ∧ x.To ≤ y.To) := by
 rw [spans_eq, Option.getD_some]; unfold cmpI
 (repeat' split) <;> omega
theorem spans_lt (x y : T_tag_Span) : (Xk x y).getD 0 < 0 ↔ x.From < y.From ∨ (x.From = y.From ∧ x.To < y.To) := by
 rw [spans_eq, Option.getD_some]; unfold cmpI
 (repeat' split) <;> omega
theorem spans_ok : CmpOk Xk where
 tot x y := ⟨_, spans_eq x y⟩
 flip x y := by
  have h1 := spans_lt x y
  have h2 := spans_le y x
  omega
 trans x y z := by
  rw [spans_le, spans_le, spans_le]; omega
 anti x y h := by
  have h1 := spans_le x y
  have h2 := spans_lt x y
  have h3 : x.From = y.From ∧ x.To = y.To := by omega
  cases x; cases y; simp only at h3; rw [h3.1, h3.2]
def sepS (n : Int) : Int → List T_tag_Span → Prop
 | a, [] => a ≤ n
 | a, x :: l => a ≤ x.From ∧ x.From < x.To ∧ sepS n x.To l
theorem sepS_end {n : Int} : ∀ {l : List T_tag_Span} {a : Int}, sepS n a l → a ≤ n ∧ (l.length : Int) ≤ n - a ∧ lenS l ≤ n - a
 | [], a, h => ⟨h, by simp; exact h, by rw [lenS_nil]; have : a ≤ n := h; omega⟩
 | x :: l, a, h => by
  obtain ⟨h1, h2, h3⟩ := sepS_end h.2.2
  have h4 := h.1
  have h5 := h.2.1
  refine ⟨by omega, by rw [List.length_cons]; omega, ?_⟩
  have : lenS (x :: l) = x.To - x.From + lenS l := by unfold lenS; simp
  rw [this]; omega
def lapP (l : List T_tag_Span) : Prop := ∃ i : Nat, ∃ h : i + 1 < l.length, (l[i + 1]'h).From < (l[i]'(by omega)).To
open Classical in
theorem overlap_eq (l : List T_tag_Span) (hl : l.length ≤ 1099511627776000) : tag_overlap l = some (decide (lapP l)) := by
 have key : ∀ m i : Nat, i + m = l.length → 1 ≤ i → Wk (fun next1 s => X7 l next1 s) (i : Int) = some (decide (∃ j : Nat, i ≤ j + 1 ∧ ∃ h : j + 1 < l.length, (l[j + 1]'h).From < (l[j]'(by omega)).To)) := by
  intro m
  induction m with
  | zero =>
   intro i hi h1
   refine Qr fun next => ?_
   unfold X7
   rw [cI, if_neg (by omega)]
   congr 1; symm
   rw [decide_eq_false_iff_not]
   rintro ⟨j, h2, h3, _⟩; omega
  | succ m ih =>
   intro i hi h1
   have hh : ∀ next : Int → Option Bool, X7 l next (i : Int) = if (l[i]'(by omega)).From < (l[i - 1]'(by omega)).To then some true else next ((i + 1 : Nat) : Int) := by
    intro next
    unfold X7
    rw [cI, if_pos (by omega), X5 (by omega), Je, J9 (by omega), Je, show (i : Int) - 1 = ((i - 1 : Nat) : Int) by omega, X5 (by omega), Je, cI]
    split
    ·rfl
    ·rw [J9 (by omega), Je]; rfl
   by_cases hlap : (l[i]'(by omega)).From < (l[i - 1]'(by omega)).To
   ·rw [Qr (o := some true) fun next => by rw [hh, if_pos hlap]]
    congr 1; symm
    rw [decide_eq_true_iff]
    obtain ⟨k, rfl⟩ : ∃ k, i = k + 1 := ⟨i - 1, by omega⟩
    exact ⟨k, by omega, by omega, hlap⟩
   ·rw [Xm (((i + 1 : Nat) : Int)) fun next => by rw [hh, if_neg hlap], ih (i + 1) (by omega) (by omega)]
    congr 1
    rw [decide_eq_decide]
    constructor
    ·rintro ⟨j, h2, h3⟩; exact ⟨j, by omega, h3⟩
    ·rintro ⟨j, h2, h3, h4⟩
     rcases Nat.lt_or_ge i (j + 1) with h5 | h5
     ·exact ⟨j, by omega, h3, h4⟩
     ·exfalso
      have : i = j + 1 := by omega
      subst this
      exact hlap h4
 unfold tag_overlap
 rcases Nat.lt_or_ge l.length 1 with h0 | h0
 ·rw [Qr (o := some false) fun next => by unfold X7; rw [cI, if_neg (by omega)]]
  congr 1; symm
  rw [decide_eq_false_iff_not]
  rintro ⟨j, h3, _⟩; omega
 ·rw [show (1 : Int) = ((1 : Nat) : Int) from rfl, key (l.length - 1) 1 (by omega) (by omega)]
  congr 1
  rw [decide_eq_decide]
  constructor
  ·rintro ⟨j, _, h3⟩; exact ⟨j, h3⟩
  ·rintro ⟨j, h3⟩; exact ⟨j, by omega, h3⟩
noncomputable def rdLoop (t : Int) (nx : Nat) (r : T_tag_reader) (ls : List (List T_tag_Entry)) : Option (T_tag_File × List T_tag_Span × Int) :=
 Wk (fun next4 s => Zz t next4 s.1 s.2.1 s.2.2.1 s.2.2.2.1 s.2.2.2.2.1 s.2.2.2.2.2.1 s.2.2.2.2.2.2.1 s.2.2.2.2.2.2.2.1 s.2.2.2.2.2.2.2.2) ((nx : Int), r.s_, r.big_, r.dirs_, r.found_, r.no_, r.parts_, ls, r.seen_)
theorem rd_end (t : Int) (nx : Nat) (r : T_tag_reader) (ls : List (List T_tag_Entry)) (h : nx = 0 ∨ r.no_ ≠ 0) : rdLoop t nx r ls = Wn t r.s_ r.big_ r.dirs_ r.found_ r.no_ r.parts_ ls r.seen_ := by
 refine Qr fun next => ?_
 show Zz t next (nx : Int) r.s_ r.big_ r.dirs_ r.found_ r.no_ r.parts_ ls r.seen_ = _
 unfold Zz
 rw [cI]
 by_cases h0 : nx = 0
 ·rw [if_neg (by simp [h0])]
 ·rw [if_pos (by simpa using h0), cI, if_neg (h.resolve_left h0)]
theorem rd_next (t : Int) (nx : Nat) (r : T_tag_reader) (ls : List (List T_tag_Entry)) (h0 : nx ≠ 0) (hno : r.no_ = 0) (hd : 0 ≤ r.dirs_ ∧ r.dirs_ ≤ 1000) (hl : ls.length ≤ 1000) {l : List T_tag_Entry} {nx' : Nat} {r' : T_tag_reader}
  (h : V0 ⟨r.s_, r.big_, r.parts_, r.seen_, r.dirs_ + 1, r.found_, r.no_⟩ (nx : Int) [(ls.length : Int)] = some (l, (nx' : Int), r')) : rdLoop t nx r ls = rdLoop t nx' r' (ls ++ [l]) := by
 refine Xm _ fun next => ?_
 show Zz t next (nx : Int) r.s_ r.big_ r.dirs_ r.found_ r.no_ r.parts_ ls r.seen_ = _
 unfold Zz
 rw [cI, if_pos (by simpa using h0), cI, if_pos hno, J9 (by omega), Je, h, Je, Yp (by simp; omega), Je]
end Go.M

/- TagSpans: the used spans and the holes of whatever octets share them out, in plain Lean. Conditions: none. -/
namespace Go.M
open Go.Md Go.Pl
set_option linter.unusedVariables false
theorem awake_eq : U1 = some true := by
 unfold U1
 have h : tag_Lowest ⟨2, 4⟩ = some (⟨1, 2⟩, 0) := by
  have hc : tag_checkRatio ⟨2, 4⟩ = some 0 := by rfl
  unfold tag_Lowest
  rw [hc, Je, cI, if_neg (by decide)]
  rw [Xm ((4 : Int), (2 : Int)) fun next => by
   show Yb _ next 2 4 = _
   unfold Yb
   rw [cI, if_pos (by decide)]; rfl,
  Xm ((2 : Int), (0 : Int)) fun next => by
   show Yb _ next 4 2 = _
   unfold Yb
   rw [cI, if_pos (by decide)]; rfl]
  exact Qr fun next => by
   show Yb _ next 2 0 = _
   unfold Yb
   rw [cI, if_neg (by decide)]; rfl
 rw [h, Je]
 rfl
end Go.M

/- What was written is read back: numbers, values, entries, in plain Lean. Conditions: none. -/
namespace Go.M
open Go.Md Go.Pl
set_option linter.unusedVariables false
def digs (n : Int) (k : Nat) : List Int := (List.range k).map fun i => wU8 (n / 2 ^ (8 * i))
theorem digs_len (n : Int) (k : Nat) : (digs n k).length = k := by simp [digs]
theorem digs_succ (n : Int) (k : Nat) : digs n (k + 1) = digs n k ++ [wU8 (n / 2 ^ (8 * k))] := by
 unfold digs; rw [List.range_succ, List.map_append]; rfl
def partN (big : Bool) (n : Int) (k i : Nat) : List Int := if big then List.replicate (k - i) 0 ++ (digs n i).reverse else digs n i ++ List.replicate (k - i) 0
theorem partN_set {n : Int} {k i : Nat} (h : i < k) (big : Bool) : (partN big n k i).set (if big then k - 1 - i else i) (wU8 (n / 2 ^ (8 * i))) = partN big n k (i + 1) := by
 obtain ⟨m, hm⟩ : ∃ m, k - i = m + 1 := ⟨k - i - 1, by omega⟩
 have hm2 : k - (i + 1) = m := by omega
 unfold partN
 rw [hm, hm2, digs_succ]
 cases big
 ·simp only [Bool.false_eq_true, if_false]
  rw [List.set_append_right _ _ (by rw [digs_len]; exact Nat.le_refl _), digs_len, Nat.sub_self, List.replicate_succ, List.set_cons_zero, List.append_assoc]; rfl
 ·simp only [if_true]
  rw [List.reverse_append, List.replicate_succ', List.append_assoc, show k - 1 - i = m by omega, List.set_append_right _ _ (by simp), List.length_replicate, Nat.sub_self]
  rfl
theorem num_dig (big : Bool) (n : Int) (k : Nat) (hk : k ≤ 8) : Jj big n k = some (partN big n k k) := by
 have key : ∀ m i : Nat, i + m = k → Wk (fun next1 s => Q8 big n k (List.replicate k 0) next1 s.1 s.2) ((i : Int), partN big n k i) = some (partN big n k k) := by
  intro m
  induction m with
  | zero =>
   intro i hi
   have : i = k := by omega
   subst this
   refine Qr fun next => ?_
   show Q8 big n i _ next (i : Int) _ = _
   unfold Q8
   rw [cI, if_neg (by rw [List.length_replicate]; omega)]
  | succ m ih =>
   intro i hi
   have hl : (partN big n k i).length = k := by unfold partN; cases big <;> simp [digs_len] <;> omega
   have hsh : gShr 64 n (8 * (i : Int)) = some (n / 2 ^ (8 * i)) := by
    unfold gShr
    rw [if_pos (by omega), show min (8 * (i : Int)).toNat 64 = 8 * i by omega]
   refine Eq.trans (Xm ((i : Int) + 1, (partN big n k i).set (if big then k - 1 - i else i) (wU8 (n / 2 ^ (8 * i)))) fun next => ?_) ?_
   ·show Q8 big n k (List.replicate k 0) next (i : Int) (partN big n k i) = _
    unfold Q8
    rw [cI, if_pos (by rw [List.length_replicate]; omega)]
    cases big
    ·rw [Qp]
     unfold Zw
     rw [J9 (by omega), Je, hsh, Je, X5 (by omega), Je, gSet_ok (by omega) (by omega), Je, J9 (by omega), Je, Int.toNat_natCast]; rfl
    ·rw [Yf, J9 (by omega), Je, J9 (by omega), Je]
     unfold Zw
     rw [J9 (by omega), Je, hsh, Je, gAt_ok (by omega) (by omega), Je, gSet_ok (by omega) (by omega), Je, J9 (by omega), Je, show ((k : Int) - 1 - (i : Int)).toNat = k - 1 - i from by omega]; rfl
   ·rw [partN_set (by omega)]
    exact ih (i + 1) (by omega)
 unfold Jj
 rw [gMake_ok (by omega), Je, Int.toNat_natCast]
 have h0 : partN big n k 0 = List.replicate k 0 := by unfold partN digs; cases big <;> simp
 have := key k 0 (by omega)
 rw [h0] at this
 exact this
theorem numS_dig (big : Bool) (n : Int) (k : Nat) (hk : k ≤ 8) : Xi big n k = Vo (if big then (digs n k).reverse else digs n k) := by
 unfold Xi
 rw [num_dig big n k hk, Option.getD_some]
 unfold partN
 cases big <;> simp
theorem valB_num (big : Bool) (n : Int) (k : Nat) (hk : k ≤ 8) : valB big (Xi big n k) = (Vo (digs n k).reverse).foldl (fun v b => v * 256 + b.toNat) 0 := by
 rw [numS_dig big n k hk]
 unfold valB
 cases big
 ·simp only [Bool.false_eq_true, if_false]
  unfold Vo; rw [← List.map_reverse]
 ·simp only [if_true]
theorem oct_dig (x : Int) : ((UInt8.ofNat (wU8 x).toNat).toNat : Int) = x % 256 := by
 rw [UInt8.toNat_ofNat']; unfold wU8; omega
theorem emod_two (n : Int) {B : Int} (hB : 0 < B) : n % (B * 256) = n % B + B * (n / B % 256) := by
 have h1 := Int.mul_ediv_add_emod n B
 have h2 := Int.mul_ediv_add_emod (n / B) 256
 have h3 := Int.emod_nonneg n (show B ≠ 0 by omega)
 have h4 := Int.emod_lt_of_pos n hB
 have h5 : 0 ≤ n / B % 256 ∧ n / B % 256 ≤ 255 := by omega
 have h6 : B * (n / B % 256) ≤ B * 255 := Int.mul_le_mul_of_nonneg_left h5.2 (by omega)
 have h7 : 0 ≤ B * (n / B % 256) := Int.mul_nonneg (by omega) h5.1
 have e : n = (n % B + B * (n / B % 256)) + (B * 256) * (n / B / 256) := by
  have h8 : B * (n / B) = B * (256 * (n / B / 256)) + B * (n / B % 256) := by rw [← Int.mul_add, h2]
  rw [Int.mul_assoc]; omega
 conv => lhs; rw [e]
 rw [Int.add_mul_emod_self_left, Int.emod_eq_of_lt (by omega) (by omega)]
theorem fold_dig (n : Int) : ∀ (k v : Nat), (((Vo (digs n k).reverse).foldl (fun v b => v * 256 + b.toNat) v : Nat) : Int) = v * 256 ^ k + n % 256 ^ k
 | 0, v => by simp [digs, Vo]
 | k + 1, v => by
  rw [digs_succ, List.reverse_append]
  show (((Vo ([wU8 (n / 2 ^ (8 * k))] ++ (digs n k).reverse)).foldl _ v : Nat) : Int) = _
  unfold Vo
  rw [List.map_append, List.map_singleton, List.singleton_append, List.foldl_cons]
  have := fold_dig n k (v * 256 + (UInt8.ofNat (wU8 (n / 2 ^ (8 * k))).toNat).toNat)
  unfold Vo at this
  rw [this]
  have e : (2 : Int) ^ (8 * k) = 256 ^ k := by rw [Int.pow_mul]; rfl
  rw [Int.natCast_add, Int.natCast_mul, oct_dig, e]
  have hm := emod_two n (B := 256 ^ k) (Int.pow_pos (by decide))
  rw [Int.pow_succ, hm, Int.add_mul, Int.mul_comm (256 ^ k) (n / 256 ^ k % 256)]
  have : (v : Int) * ((256 : Nat) : Int) * 256 ^ k = v * (256 ^ k * 256) := by
   rw [show ((256 : Nat) : Int) = 256 from rfl, Int.mul_assoc, Int.mul_comm 256]
  omega
theorem val_num (big : Bool) (n : Int) (k : Nat) (hk : k ≤ 8) : (valB big (Xi big n k) : Int) = n % 256 ^ k := by
 rw [valB_num big n k hk, fold_dig]; simp
theorem val_num2 (big : Bool) {n : Int} (h : 0 ≤ n ∧ n ≤ 65535) : (valB big (Xi big n 2) : Int) = n := by
 rw [val_num _ _ _ (by omega)]; omega
theorem Um (big : Bool) {n : Int} (h : 0 ≤ n ∧ n ≤ 4294967295) : (valB big (Xi big n 4) : Int) = n := by
 rw [val_num _ _ _ (by omega)]; omega
def win (s : List UInt8) (a : Nat) (bs : List UInt8) : Prop := (s.drop a).take bs.length = bs
theorem win_len {s : List UInt8} {a : Nat} {bs : List UInt8} (h : win s a bs) (hb : bs ≠ []) : a + bs.length ≤ s.length := by
 unfold win at h
 have := congrArg List.length h
 rw [List.length_take, List.length_drop] at this
 have h0 : 0 < bs.length := List.length_pos_iff.2 hb
 omega
theorem Wi {s : List UInt8} {a : Nat} {x y : List UInt8} (h : win s a (x ++ y)) : win s a x ∧ win s (a + x.length) y := by
 unfold win at *
 rw [List.length_append] at h
 have h1 := congrArg (List.take x.length) h
 have h2 := congrArg (List.drop x.length) h
 rw [List.take_take, Nat.min_eq_left (by omega), List.take_left'  rfl] at h1
 rw [List.drop_take, List.drop_drop, List.drop_left' rfl, show x.length + y.length - x.length = y.length by omega] at h2
 exact ⟨h1, h2⟩
theorem win_val {s : List UInt8} {a k : Nat} {bs : List UInt8} (h : win s a bs) (hk : bs.length = k) : (s.drop a).take k = bs := by rw [← hk]; exact h
theorem flat_at {α : Type} {g : α → List UInt8} {w : Nat} (hg : ∀ x, (g x).length = w) : ∀ (xs : List α) (i : Nat) (h : i < xs.length), ((xs.flatMap g).drop (i * w)).take w = g (xs[i]'h)
 | x :: xs, 0, _ => by
  rw [Nat.zero_mul, List.drop_zero, List.flatMap_cons, List.take_left' (hg x)]; rfl
 | x :: xs, i + 1, h => by
  rw [List.flatMap_cons, Nat.add_mul, Nat.one_mul, Nat.add_comm, ← List.drop_drop, List.drop_left' (hg x)]
  exact flat_at hg xs i (by simpa using h)
theorem list_back {α : Type} {g : α → List UInt8} {w : Nat} (hg : ∀ x, (g x).length = w) (xs : List α) (f : Nat → α) (hf : ∀ i (h : i < xs.length), f i = xs[i]'h) : (List.range xs.length).map f = xs := by
 apply List.ext_getElem
 ·simp
 ·intro i h1 h2
  rw [List.getElem_map, List.getElem_range, hf i h2]
theorem plain_ok {v : T_tag_Value} (h : plainE v = 0) : okV v ∧ (∀ n ∈ v.Ints, (limS v.Kind).1 ≤ n ∧ n ≤ (limS v.Kind).2) ∧ (∀ r ∈ v.Ratios, ¬ ratP r) ∧ (v.Kind = 2 → (0 : UInt8) ∉ v.Text) := by
 unfold plainE at h
 split at h
 ·rename_i h0; exact absurd h h0
 split at h
 ·exact absurd h (by decide)
 split at h
 ·exact absurd h (by decide)
 split at h
 ·exact absurd h (by decide)
 rename_i h1 h2 h3 h4
 refine ⟨fields_ok (Classical.byContradiction fun h => h1 h), fun n hn => ?_, fun r hr hp => h3 ⟨r, hr, hp⟩, fun hk hm => h4 ⟨hk, hm⟩⟩
 exact Classical.byContradiction fun hc => h2 ⟨n, hn, by omega⟩
theorem valT_back (r : T_tag_reader) {v : T_tag_Value} (h : plainE v = 0) (h13 : v.Kind ≠ 13) : valT r v.Kind (cntS v) (Wl r.big_ v) = (v, r) := by
 obtain ⟨hok, hi, hr, ht⟩ := plain_ok h
 obtain ⟨p1, p2, p3⟩ := ok_parts hok
 have hE : v.Entries = [] := by
  have := hok.2
  unfold formP at this
  exact Classical.byContradiction fun hc => this (.inr (.inr (.inr ⟨h13, hc⟩)))
 have hkind := hok.1
 unfold valT Wl cntS
 by_cases h2 : v.Kind = 2
 ·have hI : v.Ints = [] := p1 (by unfold Ut; omega)
  have hR : v.Ratios = [] := p3 (by omega)
  rw [if_pos h2, if_pos h2, if_neg (by simp), List.dropLast_concat, if_neg (ht h2)]
  cases v; simp only at h2 hI hR hE ⊢; rw [h2, hI, hR, hE]
 rw [if_neg h2, if_neg h2, if_neg h2]
 by_cases h7 : v.Kind = 7
 ·have hI : v.Ints = [] := p1 (by unfold Ut; omega)
  have hR : v.Ratios = [] := p3 (by omega)
  rw [if_pos h7, if_pos h7]
  cases v; simp only at h7 hI hR hE ⊢; rw [h7, hI, hR, hE]
 rw [if_neg h7, if_neg h7, if_neg h7]
 have hT : v.Text = [] := p2 (by unfold textK; omega)
 by_cases h5 : v.Kind = 5
 ·have hI : v.Ints = [] := p1 (by unfold Ut; omega)
  rw [if_pos h5, if_pos h5, if_pos h5]
  have hb : (List.range v.Ratios.length).map (ratR r.big_ (v.Ratios.flatMap (ratS r.big_))) = v.Ratios := by
   refine list_back (ratS_len r.big_) v.Ratios _ fun i hi' => ?_
   have hw := flat_at (ratS_len r.big_) v.Ratios i hi'
   have hn := hr _ (List.getElem_mem hi')
   unfold ratP at hn
   have e1 : ((v.Ratios.flatMap (ratS r.big_)).drop (8 * i)).take 4 = Xi r.big_ (v.Ratios[i]'hi').Num 4 := by
    have := congrArg (List.take 4) hw
    rw [List.take_take, Nat.mul_comm, show min 4 8 = 4 from rfl] at this
    rw [this]; unfold ratS; rw [List.take_left' (Ql _ _ (by omega))]
   have e2 : ((v.Ratios.flatMap (ratS r.big_)).drop (8 * i + 4)).take 4 = Xi r.big_ (v.Ratios[i]'hi').Den 4 := by
    have := congrArg (List.drop 4) hw
    rw [List.drop_take, List.drop_drop, Nat.mul_comm] at this
    rw [this]; unfold ratS; rw [List.drop_left' (Ql _ _ (by omega))]
   unfold ratR
   rw [e1, e2, Um _ (by omega), Um _ (by omega)]
  rw [hb]
  cases v; simp only at h5 hI hT hE ⊢; rw [h5, hI, hT, hE]
 ·have hR : v.Ratios = [] := p3 h5
  have hK : Ut v.Kind := by unfold kindP textK Ut at hkind; unfold Ut; omega
  rw [if_neg h5, if_neg h5, if_neg h5, if_neg h13]
  have hw8 := U9 v.Kind
  have hlen : ∀ n : Int, (Xi r.big_ n (Qz v.Kind)).length = Qz v.Kind := fun n => Ql _ _ hw8
  have hb : (List.range v.Ints.length).map (intR r.big_ v.Kind (v.Ints.flatMap fun n => Xi r.big_ n (Qz v.Kind))) = v.Ints := by
   refine list_back hlen v.Ints _ fun i hi' => ?_
   have hw := flat_at hlen v.Ints i hi'
   have hn := hi _ (List.getElem_mem hi')
   unfold intR
   rw [hw, val_num _ _ _ hw8]
   unfold limS at hn
   unfold Ut at hK
   rcases hK with hk | hk | hk | hk <;> rw [hk] at hn ⊢ <;> simp only [Qz] at hn ⊢ <;> simp at hn ⊢
   ·omega
   ·omega
   ·omega
   ·unfold wI64 wI32; omega
  rw [hb]
  cases v; simp only at hR hT hE ⊢; rw [hR, hT, hE]
end Go.M

/- What was written is read back: directories, in plain Lean. Conditions: none. -/
namespace Go.M
open Go.Md Go.Pl
set_option linter.unusedVariables false
def fresh (sn : List (Int × Bool)) (p : Nat) : Prop := ∀ k : Nat, p ≤ k → (mGet sn (k : Int)).getD false = false
theorem mGet_other (v : Bool) {k x : Int} (h : x ≠ k) : ∀ m : List (Int × Bool), mGet (mSet m k v) x = mGet m x := by
 have h1 : ∀ m : List (Int × Bool), mGet (m.map fun p => if p.1 = k then (k, v) else p) x = mGet m x := by
  intro m
  unfold mGet
  induction m with
  | nil => rfl
  | cons a m ih =>
   rw [List.map_cons, List.find?_cons, List.find?_cons]
   by_cases ha : a.1 = k
   ·rw [if_pos ha, decide_eq_false (show ¬ (k, v).1 = x from fun e => h e.symm), decide_eq_false (show ¬ a.1 = x from fun e => h (e.symm.trans ha))]
    exact ih
   ·rw [if_neg ha]
    by_cases hx : a.1 = x
    ·rw [decide_eq_true hx]
    ·rw [decide_eq_false hx]; exact ih
 intro m
 unfold mSet
 split
 ·exact h1 m
 ·unfold mGet
  rw [List.find?_append, List.find?_cons, decide_eq_false (show ¬ (k, v).1 = x from fun e => h e.symm), List.find?_nil, Option.or_none]
theorem fresh_set {sn : List (Int × Bool)} {p q : Nat} (h : fresh sn p) (hq : p ≤ q) : fresh (mSet sn (q : Int) true) (q + 1) := fun k hk => by
 rw [mGet_other true (by omega)]; exact h k (by omega)
theorem fresh_mono {sn : List (Int × Bool)} {p q : Nat} (h : fresh sn p) (hq : p ≤ q) : fresh sn q := fun k hk => h k (by omega)
def entP (H : List T_tag_Entry → Nat → List T_tag_Span) (n : Nat) (e : T_tag_Entry) (q : Nat) : List T_tag_Span :=
 if e.Value.Kind = 13 then H e.Value.Entries q else if n ≤ 4 then [] else [⟨(ev q : Int), ((ev q + n : Nat) : Int)⟩]
noncomputable def bodP (G : List T_tag_Entry → Nat → List UInt8) (H : List T_tag_Entry → Nat → List T_tag_Span) (big : Bool) : List T_tag_Entry → Nat → List T_tag_Span
 | [], _ => []
 | e :: l, q => entP H (Wl big e.Value).length e q ++ bodP G H big l (q + (Ug G big e q).2.length)
noncomputable def dirP : Nat → Bool → List T_tag_Entry → Nat → List T_tag_Span
 | 0, _ => fun _ _ => []
 | d + 1, big => fun l p => ⟨(ev p : Int), ((ev p + (2 + 12 * l.length + 4) : Nat) : Int)⟩ :: bodP (Q2 d big) (dirP d big) big l (ev p + 2 + 12 * l.length + 4)
noncomputable def fE (d : Nat) (e : T_tag_Entry) : Int := if e.Value.Kind ≠ 13 then plainE e.Value else if V4 e.Value ≠ 0 then V4 e.Value else dE d e.Value.Entries
theorem dE_succ {d : Nat} {l : List T_tag_Entry} (h : dE (d + 1) l = 0) : l.length ≤ 200 ∧ listE (fE d) none l = 0 := by
 unfold dE at h
 split at h
 ·omega
 ·exact ⟨by omega, h⟩
theorem listE_cons {f : T_tag_Entry → Int} {pr : Option Int} {e : T_tag_Entry} {l : List T_tag_Entry} (h : listE f pr (e :: l) = 0) : (0 ≤ e.Tag ∧ e.Tag ≤ 65535) ∧ (∀ t, pr = some t → ¬ e.Tag ≤ t) ∧ f e = 0 ∧ listE f (some e.Tag) l = 0 := by
 unfold listE at h
 split at h
 ·exact absurd h (by decide)
 split at h
 ·exact absurd h (by decide)
 split at h
 ·rename_i h3; exact absurd h h3
 rename_i h1 h2 h3
 exact ⟨by omega, fun t ht hle => h2 ⟨t, ht, hle⟩, Classical.byContradiction fun hc => h3 hc, h⟩
structure Back (r r' : T_tag_reader) (new : List T_tag_Span) (p : Nat) : Prop where
 s : r'.s_ = r.s_
 big : r'.big_ = r.big_
 dirs : r'.dirs_ = r.dirs_
 found : r'.found_ = r.found_
 no : r'.no_ = 0
 parts : r'.parts_ = r.parts_ ++ new
 seen : fresh r'.seen_ p
theorem Back.trans {a b c : T_tag_reader} {x y : List T_tag_Span} {p q : Nat} (h : Back a b x p) (g : Back b c y q) : Back a c (x ++ y) q :=
 ⟨g.s.trans h.s, g.big.trans h.big, g.dirs.trans h.dirs, g.found.trans h.found, g.no, by rw [g.parts, h.parts, List.append_assoc], g.seen⟩
def dwin (s : List UInt8) (d : Nat) (big : Bool) (l : List T_tag_Entry) (p nxt : Nat) : Prop :=
 win s (ev p) (Xi big l.length 2) ∧ win s (ev p + 2) (Uh (Q2 d big) big l (ev p + 2 + 12 * l.length + 4)).1 ∧ win s (ev p + 2 + 12 * l.length) (Xi big nxt 4) ∧ win s (ev p + 2 + 12 * l.length + 4) (Uh (Q2 d big) big l (ev p + 2 + 12 * l.length + 4)).2
theorem dwin_of {s : List UInt8} {d : Nat} {big : Bool} {l : List T_tag_Entry} {p : Nat} (h : win s p (Q2 (d + 1) big l p)) : dwin s d big l p 0 := by
 have h' : win s p (dirB (Q2 d big) big l p) := h
 unfold dirB at h'
 obtain ⟨h1, h5⟩ := Wi h'
 obtain ⟨h1, h4⟩ := Wi h1
 obtain ⟨h1, h3⟩ := Wi h1
 obtain ⟨h1, h2⟩ := Wi h1
 simp only [List.length_append, pad_len, Ql _ _ (show 2 ≤ 8 by omega), bods_len, Vq] at h2 h3 h4 h5
 have e : p + p % 2 = ev p := rfl
 rw [e] at h2
 refine ⟨h2, ?_, ?_, ?_⟩
 ·rw [show ev p + 2 = p + (p % 2 + 2) by unfold ev; omega]; exact h3
 ·rw [show Xi big (0 : Nat) 4 = zer 4 from num_zero big (by omega), show ev p + 2 + 12 * l.length = p + (p % 2 + 2 + 12 * l.length) by unfold ev; omega]; exact h4
 ·rw [show ev p + 2 + 12 * l.length + 4 = p + (p % 2 + 2 + 12 * l.length + 4) by unfold ev; omega] at h5 ⊢; exact h5
def DirBack (d : Nat) (self : U5) : Prop := ∀ (r : T_tag_reader) (p : Nat) (l : List T_tag_Entry) (path : List Int) (d' nxt : Nat), d = d' + 1 → path.length + d = 6 → dE d l = 0 → 8 ≤ p → r.s_.length ≤ 65000 → r.no_ = 0 → r.found_ ≤ 1 → r.dirs_ ≤ 20 → r.parts_.length + cap d ≤ 7999999999999 → fresh r.seen_ p →
 dwin r.s_ d' r.big_ l p nxt → (path.length = 1 ∨ nxt = 0) → nxt ≤ 4294967295 → ∃ r', self (r, ((ev p : Nat) : Int), path) = some (l, (nxt : Int), r') ∧ Back r r' (dirP d r.big_ l p) (p + (Q2 d r.big_ l p).length)
theorem ent_eta (e : T_tag_Entry) : (⟨e.Tag, e.Value⟩ : T_tag_Entry) = e := by cases e; rfl
theorem val_at (r : T_tag_reader) {a k : Nat} {n : Int} (hk : k ≤ 8) (h : win r.s_ a (Xi r.big_ n k)) : (Q9 r a k : Int) = (valB r.big_ (Xi r.big_ n k) : Int) := by
 unfold Q9
 rw [win_val h (Ql _ _ hk)]
theorem entry_back {d : Nat} {self : U5} (H : DirBack d self) (r : T_tag_reader) {path : List Int} (hpl : path.length + d + 1 = 6) {e : T_tag_Entry} (he : fE d e = 0) (ht : 0 ≤ e.Tag ∧ e.Tag ≤ 65535) {a y : Nat} (hy : 8 ≤ y) (hs : r.s_.length ≤ 65000) (hno : r.no_ = 0) (hf : r.found_ ≤ 1) (hd : r.dirs_ ≤ 20) (hp : r.parts_.length + cap d ≤ 7999999999999) (hfr : fresh r.seen_ y) (ha : a ≤ 65000)
  (w1 : win r.s_ a (hdrS r.big_ e ++ (Ug (Q2 d r.big_) r.big_ e y).1)) (w2 : win r.s_ y (Ug (Q2 d r.big_) r.big_ e y).2) (hyl : y ≤ r.s_.length) :
  ∃ r', entR self r a path = some (e, r') ∧ Back r r' (entP (dirP d r.big_) (Wl r.big_ e.Value).length e y) (y + (Ug (Q2 d r.big_) r.big_ e y).2.length) := by
 obtain ⟨g1, g2⟩ := Wi w1
 unfold hdrS at g1
 obtain ⟨g1, g3⟩ := Wi g1
 obtain ⟨g1, g4⟩ := Wi g1
 simp only [List.length_append, Ql _ _ (show 2 ≤ 8 by omega)] at g3 g4
 rw [hdr_len] at g2
 have g3 : win r.s_ (a + 4) (Xi r.big_ (cntS e.Value) 4) := g3
 have vt : (Q9 r a 2 : Int) = e.Tag := by rw [val_at r (by omega) g1, val_num2 _ ht]
 have hevy : ev y ≤ y + 1 := by unfold ev; omega
 unfold entR
 by_cases h13 : e.Value.Kind = 13
 ·have vk : (Q9 r (a + 2) 2 : Int) = 13 := by rw [val_at r (by omega) g4, val_num2 _ (by omega), h13]
  have hc1 : cntS e.Value = 1 := by unfold cntS; rw [h13]; rfl
  have vc : Q9 r (a + 4) 4 = 1 := by
   have := val_at r (by omega) g3
   rw [hc1] at this
   have h2 := Um r.big_ (n := ((1 : Nat) : Int)) (by omega)
   omega
  unfold fE at he
  rw [if_neg (by simp [h13]), fields13 h13] at he
  have hf0 : ¬ (e.Value.Text ≠ [] ∨ e.Value.Ints ≠ [] ∨ e.Value.Ratios ≠ []) := fun hc => by rw [if_pos hc] at he; simp at he
  rw [if_neg hf0] at he
  have hdE : dE d e.Value.Entries = 0 := by simpa using he
  obtain ⟨d', rfl⟩ : ∃ d', d = d' + 1 := by
   cases d with
   | zero => exact absurd hdE (by unfold dE; decide)
   | succ d => exact ⟨d, rfl⟩
  have eF : Ug (Q2 (d' + 1) r.big_) r.big_ e y = (Xi r.big_ (ev y) 4, Q2 (d' + 1) r.big_ e.Value.Entries y) := by unfold Ug; rw [if_pos h13]
  rw [eF] at g2 w2 ⊢
  have va : (Q9 r (a + 8) 4 : Int) = (ev y : Int) := by rw [val_at r (by omega) g2, Um _ (by omega)]
  obtain ⟨r', q1, q2⟩ := H r y e.Value.Entries (path ++ [e.Tag]) d' 0 rfl (by simp; omega) hdE hy hs hno hf hd hp hfr (dwin_of w2) (.inr rfl) (by omega)
  refine ⟨r', ?_, ?_⟩
  ·rw [if_pos vk, if_pos vc, vt, va, q1, Je]
   have hv : e = ⟨e.Tag, ⟨13, [], [], [], e.Value.Entries⟩⟩ := by
    cases e with
    | mk t v =>
     cases v with
     | mk k tx is rs es =>
      simp only at h13 hf0
      have : tx = [] ∧ is = [] ∧ rs = [] := ⟨Classical.byContradiction fun h => hf0 (.inl h), Classical.byContradiction fun h => hf0 (.inr (.inl h)), Classical.byContradiction fun h => hf0 (.inr (.inr h))⟩
      rw [h13, this.1, this.2.1, this.2.2]
   conv => rhs; rw [hv]
  ·unfold entP; rw [if_pos h13]; exact q2
 ·unfold fE at he
  rw [if_pos h13] at he
  obtain ⟨hok, _⟩ := plain_ok he
  have hk0 : 0 ≤ e.Value.Kind ∧ e.Value.Kind ≤ 65535 := by have := hok.1; unfold kindP Ut textK at this; omega
  have vk : (Q9 r (a + 2) 2 : Int) = e.Value.Kind := by rw [val_at r (by omega) g4, val_num2 _ hk0]
  have hw0 : Qz e.Value.Kind ≠ 0 := fun h => (wide_zero e.Value.Kind h13).1 (by omega) hok.1
  have hcw := octS_len r.big_ hok h13
  have hcle : cntS e.Value ≤ cntS e.Value * Qz e.Value.Kind := Nat.le_mul_of_pos_right _ (by omega)
  by_cases h4 : (Wl r.big_ e.Value).length ≤ 4
  ·have eF : Ug (Q2 d r.big_) r.big_ e y = (Wl r.big_ e.Value ++ zer (4 - (Wl r.big_ e.Value).length), []) := by unfold Ug; rw [if_neg h13, if_pos h4]
   rw [eF] at g2 w2 ⊢
   have vc : Q9 r (a + 4) 4 = cntS e.Value := by
    have := val_at r (by omega) g3
    have h2 := Um r.big_ (n := ((cntS e.Value : Nat) : Int)) (by omega)
    omega
   refine ⟨r, ?_, ?_⟩
   ·rw [if_neg (by rw [vk]; exact h13), if_neg (by rw [vk]; exact hw0), vt, vk, vc]
    unfold valR
    rw [if_neg (by omega), win_val (Wi g2).1 hcw, valT_back r he h13]
    dsimp only
    rw [ent_eta]
   ·unfold entP; rw [if_neg h13, if_pos h4]
    exact ⟨rfl, rfl, rfl, rfl, hno, by simp, fresh_mono hfr (by omega)⟩
  ·have eF : Ug (Q2 d r.big_) r.big_ e y = (Xi r.big_ (ev y) 4, pad y ++ Wl r.big_ e.Value) := by unfold Ug; rw [if_neg h13, if_neg h4]
   rw [eF] at g2 w2 ⊢
   obtain ⟨_, w3⟩ := Wi w2
   rw [pad_len] at w3
   have w3' : win r.s_ (ev y) (Wl r.big_ e.Value) := w3
   have hlen := win_len w3' (fun h => h4 (by rw [h]; simp))
   have va : Q9 r (a + 8) 4 = ev y := by
    have := val_at r (by omega) g2
    have h2 := Um r.big_ (n := ((ev y : Nat) : Int)) (by omega)
    omega
   have vc : Q9 r (a + 4) 4 = cntS e.Value := by
    have := val_at r (by omega) g3
    have h2 := Um r.big_ (n := ((cntS e.Value : Nat) : Int)) (by omega)
    omega
   have hev : y ≤ ev y := by unfold ev; omega
   refine ⟨⟨r.s_, r.big_, r.parts_ ++ [⟨(ev y : Int), ((ev y + (Wl r.big_ e.Value).length : Nat) : Int)⟩], r.seen_, r.dirs_, r.found_, r.no_⟩, ?_, ?_⟩
   ·rw [if_neg (by rw [vk]; exact h13), if_neg (by rw [vk]; exact hw0), vt, vk, vc]
    unfold valR
    rw [if_pos (by omega)]
    have va' : valB r.big_ ((r.s_.drop (a + 8)).take 4) = ev y := va
    simp only [va', ← hcw]
    rw [if_pos ⟨by omega, hlen⟩, show (r.s_.drop (ev y)).take (Wl r.big_ e.Value).length = Wl r.big_ e.Value from w3']
    have := valT_back (⟨r.s_, r.big_, r.parts_ ++ [⟨(ev y : Int), ((ev y + (Wl r.big_ e.Value).length : Nat) : Int)⟩], r.seen_, r.dirs_, r.found_, r.no_⟩ : T_tag_reader) he h13
    rw [this]
    dsimp only
    rw [ent_eta]
   ·unfold entP; rw [if_neg h13, if_neg h4]
    exact ⟨rfl, rfl, rfl, rfl, hno, rfl, fresh_mono hfr (by omega)⟩
theorem loop_back {d : Nat} {self : U5} (H : DirBack d self) (HP : ∀ big l p, dE d l = 0 → (dirP d big l p).length ≤ cap d) {path : List Int} (hpl : path.length + d + 1 = 6) {pl nxt : Nat} {l : List T_tag_Entry} (hl200 : l.length ≤ 200) (s : List UInt8) (big : Bool) (hs : s.length ≤ 65000) (hin : pl + 2 + 12 * l.length ≤ s.length) :
  ∀ (xs pre : List T_tag_Entry) (y : Nat) (rc : T_tag_reader) (pr : Option Int), l = pre ++ xs → (∀ h : 0 < pre.length, pr = some (pre[pre.length - 1]'(by omega)).Tag) → listE (fE d) pr xs = 0 → 8 ≤ y → y ≤ s.length → rc.s_ = s → rc.big_ = big → rc.no_ = 0 → rc.found_ ≤ 1 → rc.dirs_ ≤ 20 → rc.parts_.length + xs.length * (1 + cap d) ≤ 7999999999999 → fresh rc.seen_ y →
   win s (pl + 2 + 12 * pre.length) (Uh (Q2 d big) big xs y).1 → win s y (Uh (Q2 d big) big xs y).2 →
   ∃ r', dirLoop self path pl nxt l.length pre.length rc pre = some (l, (nxt : Int), r') ∧ Back rc r' (bodP (Q2 d big) (dirP d big) big xs y) (y + (Uh (Q2 d big) big xs y).2.length) := by
 intro xs
 induction xs with
 | nil =>
  intro pre y rc pr hl _ _ hy hyl h1 h2 h3 h4 h5 h6 h7 _ _
  have hl' : l = pre := by rw [hl, List.append_nil]
  refine ⟨rc, ?_, rfl, rfl, rfl, rfl, h3, by unfold bodP; simp, fresh_mono h7 (by omega)⟩
  rw [loop_end _ _ _ _ _ _ _ _ (.inl (by rw [hl']; exact Nat.le_refl _)), hl']
 | cons e xs ih =>
  intro pre y rc pr hl hpr hE hy hyl h1 h2 h3 h4 h5 h6 h7 w1 w2
  obtain ⟨ht, hlow, he, hE'⟩ := listE_cons hE
  have hlen : l.length = pre.length + (xs.length + 1) := by rw [hl, List.length_append, List.length_cons]
  rw [List.length_cons, Nat.add_mul, Nat.one_mul] at h6
  unfold Uh at w1 w2
  simp only at w1 w2
  obtain ⟨u1, u2⟩ := Wi w1
  obtain ⟨v1, v2⟩ := Wi w2
  rw [List.length_append, hdr_len, entF_len] at u2
  subst h1 h2
  obtain ⟨r', q1, q2⟩ := entry_back H rc (path := path) hpl he ht (a := pl + 2 + 12 * pre.length) hy hs h3 h4 h5 (by omega) h7 (by omega) u1 v1 hyl
  have htag : (Q9 rc (pl + 2 + 12 * pre.length) 2 : Int) = e.Tag := by
   have g := (Wi u1).1
   unfold hdrS at g
   rw [val_at rc (by omega) (Wi (Wi g).1).1, val_num2 _ ht]
  have hpn : (entP (dirP d rc.big_) (Wl rc.big_ e.Value).length e y).length ≤ 1 + cap d := by
   unfold entP
   split
   ·rename_i h13
    unfold fE at he
    rw [if_neg (by simp [h13])] at he
    split at he
    ·rename_i h; exact absurd he h
    ·have := HP rc.big_ e.Value.Entries y he; omega
   split <;> simp
  rw [loop_next self path pl nxt l.length pre.length rc pre (by omega) h3 rfl (by omega) hin hs (fun h => by rw [htag]; exact hlow _ (hpr h)) (by omega) h4 (by omega) q1]
  have hyl' : y + (Ug (Q2 d rc.big_) rc.big_ e y).2.length ≤ rc.s_.length := by
   by_cases h0 : (Ug (Q2 d rc.big_) rc.big_ e y).2 = []
   ·rw [h0]; simpa using hyl
   ·exact win_len v1 h0
  obtain ⟨r'', z1, z2⟩ := ih (pre ++ [e]) (y + (Ug (Q2 d rc.big_) rc.big_ e y).2.length) r' (some e.Tag) (by rw [hl]; simp) (fun h => by simp) hE' (by omega) hyl' q2.s q2.big q2.no (by rw [q2.found]; exact h4) (by rw [q2.dirs]; exact h5) (by rw [q2.parts, List.length_append]; omega) q2.seen
   (by rw [List.length_append, List.length_singleton, show pl + 2 + 12 * (pre.length + 1) = pl + 2 + 12 * pre.length + (8 + 4) by omega]; exact u2) v2
  rw [List.length_append, List.length_singleton] at z1
  refine ⟨r'', z1, ?_⟩
  have := q2.trans z2
  unfold Uh bodP
  simp only [List.length_append]
  rw [← Nat.add_assoc]
  exact this
theorem dirP_len : ∀ (d : Nat) (big : Bool) (l : List T_tag_Entry) (p : Nat), dE d l = 0 → (dirP d big l p).length ≤ cap d := by
 intro d
 induction d with
 | zero => intro big l p _; exact Nat.zero_le _
 | succ d ih =>
  intro big l p h
  obtain ⟨h200, hE⟩ := dE_succ h
  have key : ∀ (xs : List T_tag_Entry) (pr : Option Int) (q : Nat), listE (fE d) pr xs = 0 → (bodP (Q2 d big) (dirP d big) big xs q).length ≤ xs.length * (1 + cap d) := by
   intro xs
   induction xs with
   | nil => intro pr q _; exact Nat.zero_le _
   | cons e xs ih2 =>
    intro pr q hq
    obtain ⟨_, _, he, hE'⟩ := listE_cons hq
    unfold bodP
    rw [List.length_append, List.length_cons, Nat.add_mul, Nat.one_mul]
    have h1 := ih2 _ (q + (Ug (Q2 d big) big e q).2.length) hE'
    have h2 : (entP (dirP d big) (Wl big e.Value).length e q).length ≤ 1 + cap d := by
     unfold entP
     split
     ·rename_i h13
      unfold fE at he
      rw [if_neg (by simp [h13])] at he
      split at he
      ·rename_i h; exact absurd he h
      ·have := ih big e.Value.Entries q he; omega
     split <;> simp
    omega
  show (_ :: bodP _ _ _ _ _).length ≤ 1 + 200 * (1 + cap d)
  have := key l none (ev p + 2 + 12 * l.length + 4) hE
  have h3 := Nat.mul_le_mul_right (1 + cap d) h200
  rw [List.length_cons]; omega
theorem dirR_back {d : Nat} {self : U5} (H : DirBack d self) (r : T_tag_reader) (p : Nat) (l : List T_tag_Entry) (path : List Int) (nxt : Nat) (hpl : path.length + (d + 1) = 6) (hE : dE (d + 1) l = 0) (hp8 : 8 ≤ p) (hs : r.s_.length ≤ 65000) (hno : r.no_ = 0) (hf : r.found_ ≤ 1) (hd : r.dirs_ ≤ 20) (hp : r.parts_.length + cap (d + 1) ≤ 7999999999999) (hfr : fresh r.seen_ p)
  (hw : dwin r.s_ d r.big_ l p nxt) (h1 : path.length = 1 ∨ nxt = 0) (hn : nxt ≤ 4294967295) : ∃ r', dirR self r (ev p) path = some (l, (nxt : Int), r') ∧ Back r r' (dirP (d + 1) r.big_ l p) (p + (Q2 (d + 1) r.big_ l p).length) := by
 obtain ⟨h200, hL⟩ := dE_succ hE
 obtain ⟨w1, w2, w3, w4⟩ := hw
 have hev : p ≤ ev p := by unfold ev; omega
 have hlen3 := win_len w3 (fun h => by have := Ql r.big_ (nxt : Int) (k := 4) (by omega); rw [h] at this; simp at this)
 rw [Ql _ _ (by omega)] at hlen3
 have vc : Q9 r (ev p) 2 = l.length := by
  have := val_at r (by omega) w1
  have h2 := val_num2 r.big_ (n := ((l.length : Nat) : Int)) (by omega)
  omega
 have vn : Q9 r (ev p + 2 + 12 * l.length) 4 = nxt := by
  have := val_at r (by omega) w3
  have h2 := Um r.big_ (n := ((nxt : Nat) : Int)) (by omega)
  omega
 have hcap : cap (d + 1) = 1 + 200 * (1 + cap d) := rfl
 have hmul := Nat.mul_le_mul_right (1 + cap d) h200
 obtain ⟨r', q1, q2⟩ := loop_back H (dirP_len d) (path := path) (by omega) (pl := ev p) (nxt := nxt) h200 r.s_ r.big_ hs (by omega) l [] (ev p + 2 + 12 * l.length + 4) ⟨r.s_, r.big_, r.parts_ ++ [⟨((ev p : Nat) : Int), ((ev p + (2 + 12 * l.length + 4) : Nat) : Int)⟩], mSet r.seen_ ((ev p : Nat) : Int) true, r.dirs_, r.found_, r.no_⟩ none rfl (fun h => absurd h (by simp)) hL (by omega) (by omega) rfl rfl hno hf hd (by simp only [List.length_append, List.length_singleton]; omega) (fresh_mono (fresh_set hfr hev) (by omega)) w2 w4
 refine ⟨r', ?_, q2.s, q2.big, q2.dirs, q2.found, q2.no, ?_, ?_⟩
 ·unfold dirR
  rw [if_neg (by simp; omega), if_neg (by rw [hfr (ev p) hev]; decide), vc, if_neg (by omega), if_neg (by omega), if_neg (by simp [hno]), vn, if_neg (by omega)]
  exact q1
 ·rw [q2.parts]
  show _ = r.parts_ ++ (_ :: bodP _ _ _ _ _)
  rw [List.append_assoc]; rfl
 ·have := q2.seen
  rw [show p + (Q2 (d + 1) r.big_ l p).length = ev p + 2 + 12 * l.length + 4 + (Uh (Q2 d r.big_) r.big_ l (ev p + 2 + 12 * l.length + 4)).2.length from dirB_len (Q2 d r.big_) r.big_ l p]
  exact this
theorem it_back : ∀ (d n : Nat), d < n → DirBack d (it dirF n) := by
 intro d
 induction d with
 | zero => intro n _ r p l path d' nxt h; omega
 | succ d ih =>
  intro n hn r p l path d' nxt hd' h6 hE hp8 hs hno hf hd hp hfr hw h1 hnx
  obtain ⟨n, rfl⟩ : ∃ m, n = m + 1 := ⟨n - 1, by omega⟩
  have : d' = d := by omega
  subst this
  obtain ⟨r', q1, q2⟩ := dirR_back (ih n (by omega)) r p l path nxt h6 hE hp8 hs hno hf hd hp hfr hw h1 hnx
  refine ⟨r', ?_, q2⟩
  show Qc _ r ((ev p : Nat) : Int) path = _
  have hev : ev p ≤ p + 1 := by unfold ev; omega
  have hlen3 := win_len hw.2.2.1 (fun h => by have := Ql r.big_ (nxt : Int) (k := 4) (by omega); rw [h] at this; simp at this)
  rw [dir_step _ r (by omega) hs (by omega), q1]
theorem dir_back (r : T_tag_reader) (p : Nat) (l : List T_tag_Entry) (tag : Int) (nxt : Nat) (hE : dE 5 l = 0) (hp8 : 8 ≤ p) (hs : r.s_.length ≤ 65000) (hno : r.no_ = 0) (hf : r.found_ ≤ 1) (hd : r.dirs_ ≤ 20) (hp : r.parts_.length + cap 5 ≤ 7999999999999) (hfr : fresh r.seen_ p)
  (hw : dwin r.s_ 4 r.big_ l p nxt) (hn : nxt ≤ 4294967295) : ∃ r', V0 r ((ev p : Nat) : Int) [tag] = some (l, (nxt : Int), r') ∧ Back r r' (dirP 5 r.big_ l p) (p + (Q2 5 r.big_ l p).length) := by
 rw [dir_it _ _ _ rfl]
 exact it_back 5 6 (by omega) r p l [tag] 4 nxt rfl rfl hE hp8 hs hno hf hd hp hfr hw (.inl rfl) hn
end Go.M
