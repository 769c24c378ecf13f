/- TagPaths, paths: the walks, printed by our generator; each follows its model. Conditions: the model yields a value. -/
import Derived.Test.YtpljknglodhcnaaKUe
import Derived.Test.YtpljknglodhcnaaLx6
namespace Go.Proofs.Ytpljknglodhcnaa
open Go Go.Vc Go.Md Go.M Go.Lx
set_option maxRecDepth 100000
set_option maxHeartbeats 4000000
set_option linter.unusedVariables false
theorem k57 {a0 : (List T_tag_Entry)} {v0 : Value} {a1 : Int} {a2 : (T_tag_Entry → Int → Option (Int))} {v2 : Value} {r : Int × Bool} {w : World} {h : Jx} (hw : Know h w X3) (f0 : FrN h 6 v0 g_tag_Entry a0) (f2 : FnH Try.prog h v2 (Vi a2)) (H : Xl a0 a1 a2 = some r) : Does Try.prog 57 (List.toArray [v0, .int .i64 a1, v2]) w (fun v w' => v = (.tuple #[.int .i64 r.1, .bool r.2]) ∧ Grow w w') := by
 refine enter (n := 49) Try.func57 rfl rfl rfl X3 [] (Sat.nil _ _) ?_
 refine Je ?_
 refine Jb ?_
 refine Ja rfl rfl rfl (Jc (v := .int .i64 0) rfl) ?_
 refine Ja rfl rfl rfl (Jc (v := .bool false) rfl) ?_
 refine Jf ?_
 refine Je ?_
 refine Jb ?_
 refine Ja rfl rfl rfl (Jd (v := v0) rfl) ?_
 refine Ja rfl rfl rfl (Q7 Try.underlying27 rfl f0) ?_
 refine Ja rfl rfl rfl (Jc (v := .int .i64 (a0.length : Int)) rfl) ?_
 refine Jf ?_
 refine Je ?_
 refine Jb ?_
 refine Ja rfl rfl rfl (Jd (v := .int .i64 (a0.length : Int)) rfl) ?_
 refine Ja rfl rfl rfl (Jc (v := .int .i64 0) rfl) ?_
 refine Ja rfl rfl rfl (Jc (v := .int .i64 (a0.length : Int)) rfl) ?_
 refine Jf ?_
 refine Q8 (r := r) (σ := Int) (τ := Unit) (fun s => Qo a0 a1 a2 s) (fun s t => [(0, v0), (1, .int .i64 a1), (2, v2), (8, .int .i64 (a0.length : Int)), (9, .int .i64 s)]) (fun s t => []) (fun s t => True) ?_ ?_
 ·refine J6 ?_
  refine Z7 (σ := Int × Int) (τ := Unit) (fun next2 s => Qc a0 a1 a2 next2 s.1 s.2) (fun s t => [(0, v0), (1, .int .i64 a1), (2, v2), (8, .int .i64 (a0.length : Int)), (9, .int .i64 s.1), (10, .int .i64 s.2)]) (fun s t => []) (fun s t => True) (0, (a0.length : Int)) () [] H (by exact trivial) (by exact ⟨rfl, rfl, rfl, rfl, rfl, rfl, trivial⟩) (by decide) rfl ?_
  rintro ⟨x9_3, x10_2⟩ _ m2 gg H21 _
  clear H
  replace H21 : Qc a0 a1 a2 (it (fun next2 s => Qc a0 a1 a2 next2 s.1 s.2) m2) x9_3 x10_2 = some r := H21
  generalize hn2 : it (fun next2 s => Qc a0 a1 a2 next2 s.1 s.2) m2 = next2 at H21
  try dsimp only
  refine Je ?_
  refine Je ?_
  refine Jb ?_
  refine Ja rfl rfl rfl (Jd (v := .int .i64 x9_3) rfl) ?_
  refine Ja rfl rfl rfl (Jd (v := .int .i64 x10_2) rfl) ?_
  refine Ja rfl rfl rfl (Xs rfl rfl) ?_
  refine Jf ?_
  refine J4 (b := (decide (x9_3 < x10_2))) rfl (fun hb => ?_) (fun hb => ?_)
  ·have H22 := Jo hb H21; clear H21
   refine Js ?_
   refine J6 ?_
   refine Je ?_
   refine Jb ?_
   refine Ja rfl rfl rfl (Jd (v := .int .i64 x9_3) rfl) ?_
   refine Ja rfl rfl rfl (Jd (v := .int .i64 x10_2) rfl) ?_
   obtain ⟨t20, h_t20, H23⟩ := Ji H22; clear H22
   refine Ja rfl rfl rfl (Qv rfl rfl h_t20) ?_
   refine Ja rfl rfl rfl (r_convG Try.runUnderlying3 Try.runUnderlying114 rfl (wr_u64 _)) ?_
   obtain ⟨t22, h_t22, H24⟩ := Ji H23; clear H23
   refine Ja rfl rfl rfl (r_shrG rfl rfl rfl h_t22) ?_
   refine Ja rfl rfl rfl (r_convG Try.runUnderlying114 Try.runUnderlying3 rfl (wr_i64 _)) ?_
   refine Ja rfl rfl rfl (Jc (v := .int .i64 (wI64 t22)) rfl) ?_
   refine Jf ?_
   refine Je ?_
   refine Jb ?_
   refine Ja rfl rfl rfl (Jd (v := v2) rfl) ?_
   refine Ja rfl rfl rfl (Jd (v := v0) rfl) ?_
   refine Ja rfl rfl rfl (Jd (v := .int .i64 (wI64 t22)) rfl) ?_
   obtain ⟨t27, h_t27, H25⟩ := Ji H24; clear H24
   refine Ja rfl rfl rfl (Qe Try.underlying27 Try.sizeOf70 rfl rfl f0.frs (f0.ix h_t27)) ?_
   refine Qu (fun w hF hS => Xr (f := (Wu h v0 6)) (i := (wI64 t22)) (sz := 6) (j := 0) (vs := [.int .i64 t27.Tag, .int .i64 t27.Value.Kind, str t27.Value.Text, (Qb h v0 6 (Int.toNat (wI64 t22)) 3), (Qb h v0 6 (Int.toNat (wI64 t22)) 4), (Qb h v0 6 (Int.toNat (wI64 t22)) 5)]) Try.isAgg70 Try.sizeOf70 rfl rfl (f0.frs.row (hw.now hF)) (f0.ix h_t27) (rd_of (Q1 (f0.at h_t27)) rfl)) rfl rfl rfl ?_
   refine Ja rfl rfl rfl (Jd (v := .int .i64 a1) rfl) ?_
   obtain ⟨t30, h_t30, H26⟩ := Ji H25; clear H25
   refine l_callV (R := Vi a2) (r := .int .i64 t30) (v := v2) (fun w hF hS => ⟨(f2.mono (hw.now hF)), ⟨t27, _, _, _, a1, _, ((show FrS h 1 (Qb h v0 6 (Int.toNat (wI64 t22)) 3) (t27.Value.Ints.map J3) from (J9 (Jm (f0.at h_t27)))).mono (hw.now hF)), ((show FrS h 2 (Qb h v0 6 (Int.toNat (wI64 t22)) 4) (t27.Value.Ratios.map Jn) from (J8 (Jm (f0.at h_t27)))).mono (hw.now hF)), ((show FrN h 6 (Qb h v0 6 (Int.toNat (wI64 t22)) 5) g_tag_Entry t27.Value.Entries from (J2 (Jm (f0.at h_t27)))).mono (hw.now hF)), rfl, h_t30, rfl⟩⟩) rfl rfl rfl rfl ?_
   refine Ja rfl rfl rfl (Xs rfl rfl) ?_
   refine Jf ?_
   refine J4 (b := (decide (t30 < 0))) rfl (fun hb => ?_) (fun hb => ?_)
   ·have H27 := Jo hb H26; clear H26
    refine Jb ?_
    refine Ja rfl rfl rfl (Jd (v := .int .i64 (wI64 t22)) rfl) ?_
    obtain ⟨t33, h_t33, H28⟩ := Ji H27; clear H27
    refine Ja rfl rfl rfl (Qv rfl rfl h_t33) ?_
    refine Ja rfl rfl rfl (Jc (v := .int .i64 t33) rfl) ?_
    refine Jf ?_
    refine Jr (t33, x10_2) () m2 [] (by exact ⟨rfl, rfl, rfl, rfl, rfl, rfl, trivial⟩) (by decide) (by kernel_rfl) (by exact ⟨(by subst hn2; exact H28), trivial⟩) (Nat.lt_succ_self _)
   ·have H29 := Jp hb H26; clear H26
    refine Jb ?_
    refine Ja rfl rfl rfl (Jd (v := .int .i64 (wI64 t22)) rfl) ?_
    refine Ja rfl rfl rfl (Jc (v := .int .i64 (wI64 t22)) rfl) ?_
    refine Jf ?_
    refine Jr (x9_3, (wI64 t22)) () m2 [] (by exact ⟨rfl, rfl, rfl, rfl, rfl, rfl, trivial⟩) (by decide) (by kernel_rfl) (by exact ⟨(by subst hn2; exact H29), trivial⟩) (Nat.lt_succ_self _)
  ·have H30 := Jp hb H21; clear H21
   refine X7 ?_
   refine Jr x9_3 () 0 [] (by exact ⟨rfl, rfl, rfl, rfl, rfl, trivial⟩) (by decide) (by kernel_rfl) (by exact ⟨H30, trivial⟩) (Nat.lt_succ_self _)
 ·rintro x9 _ gg H16 _
  replace H16 : Qo a0 a1 a2 x9 = some r := H16
  try dsimp only
  refine Je ?_
  refine Jb ?_
  refine Ja rfl rfl rfl (Jd (v := .int .i64 x9) rfl) ?_
  refine Ja rfl rfl rfl (Jd (v := .int .i64 x9) rfl) ?_
  refine Ja rfl rfl rfl (Jd (v := .int .i64 (a0.length : Int)) rfl) ?_
  refine Ja rfl rfl rfl (Xs rfl rfl) ?_
  refine Ja rfl rfl rfl (Jd (v := .bool (decide (x9 < (a0.length : Int)))) rfl) ?_
  refine split (fun hb => ?_) (fun hb => ?_)
  ·have H17 := Jo hb H16; clear H16
   refine Ja rfl rfl rfl (Jd (v := v2) rfl) ?_
   refine Ja rfl rfl rfl (Jd (v := v0) rfl) ?_
   refine Ja rfl rfl rfl (Jd (v := .int .i64 x9) rfl) ?_
   obtain ⟨t43, h_t43, H18⟩ := Ji H17; clear H17
   refine Ja rfl rfl rfl (Qe Try.underlying27 Try.sizeOf70 rfl rfl f0.frs (f0.ix h_t43)) ?_
   refine Qu (fun w hF hS => Xr (f := (Wu h v0 6)) (i := x9) (sz := 6) (j := 0) (vs := [.int .i64 t43.Tag, .int .i64 t43.Value.Kind, str t43.Value.Text, (Qb h v0 6 (Int.toNat x9) 3), (Qb h v0 6 (Int.toNat x9) 4), (Qb h v0 6 (Int.toNat x9) 5)]) Try.isAgg70 Try.sizeOf70 rfl rfl (f0.frs.row (hw.now hF)) (f0.ix h_t43) (rd_of (Q1 (f0.at h_t43)) rfl)) rfl rfl rfl ?_
   refine Ja rfl rfl rfl (Jd (v := .int .i64 a1) rfl) ?_
   obtain ⟨t46, h_t46, H19⟩ := Ji H18; clear H18
   refine l_callV (R := Vi a2) (r := .int .i64 t46) (v := v2) (fun w hF hS => ⟨(f2.mono (hw.now hF)), ⟨t43, _, _, _, a1, _, ((show FrS h 1 (Qb h v0 6 (Int.toNat x9) 3) (t43.Value.Ints.map J3) from (J9 (Jm (f0.at h_t43)))).mono (hw.now hF)), ((show FrS h 2 (Qb h v0 6 (Int.toNat x9) 4) (t43.Value.Ratios.map Jn) from (J8 (Jm (f0.at h_t43)))).mono (hw.now hF)), ((show FrN h 6 (Qb h v0 6 (Int.toNat x9) 5) g_tag_Entry t43.Value.Entries from (J2 (Jm (f0.at h_t43)))).mono (hw.now hF)), rfl, h_t46, rfl⟩⟩) rfl rfl rfl rfl ?_
   refine Ja rfl rfl rfl (Qr rfl rfl) ?_
   refine Ja rfl rfl rfl (Jz (v := .bool (decide (t46 = 0))) rfl rfl) ?_
   refine Ja rfl rfl rfl (Jc (v := .int .i64 x9) rfl) ?_
   refine Ja rfl rfl rfl (Jc (v := .bool (decide (t46 = 0))) rfl) ?_
   refine Jf ?_
   refine Jq ?_
   obtain rfl := Option.some.inj H19
   refine ret2 (v1 := .int .i64 x9) (v2 := .bool (decide (t46 = 0))) rfl rfl rfl (fin rfl)
  ·have H20 := Jp hb H16; clear H16
   refine Jh rfl rfl rfl ?_
   refine Jh rfl rfl rfl ?_
   refine Jh rfl rfl rfl ?_
   refine Jh rfl rfl rfl ?_
   refine Jh rfl rfl rfl ?_
   refine Jh rfl rfl rfl ?_
   refine Jh rfl rfl rfl ?_
   refine Jh rfl rfl rfl ?_
   refine Ja rfl rfl rfl (J0 (v := .bool false) rfl rfl) ?_
   refine Ja rfl rfl rfl (Jc (v := .int .i64 x9) rfl) ?_
   refine Ja rfl rfl rfl (Jc (v := .bool false) rfl) ?_
   refine Jf ?_
   refine Jq ?_
   obtain rfl := Option.some.inj H20
   refine ret2 (v1 := .int .i64 x9) (v2 := .bool false) rfl rfl rfl (fin rfl)
theorem k58 {a0 : T_tag_Entry} {v0_1_2 : Value} {v0_1_3 : Value} {v0_1_4 : Value} {a1 : Int} {r : Int} {w : World} {h : Jx} (hw : Know h w X3) (f0_1_2 : FrS h 1 v0_1_2 (a0.Value.Ints.map J3)) (f0_1_3 : FrS h 2 v0_1_3 (a0.Value.Ratios.map Jn)) (f0_1_4 : FrN h 6 v0_1_4 g_tag_Entry a0.Value.Entries) (H : tag_place_1 a0 a1 = some r) : Does Try.prog 58 (List.toArray [.agg #[.int .i64 a0.Tag, .int .i64 a0.Value.Kind, str a0.Value.Text, v0_1_2, v0_1_3, v0_1_4], .int .i64 a1]) w (fun v w' => v = (.int .i64 r) ∧ Grow w w') := by
 refine enter (n := 15) Try.func58 rfl rfl rfl X3 [] (Sat.nil _ _) ?_
 refine Je ?_
 refine Jb ?_
 refine Yv (cs := [.int .i64 a0.Tag, .int .i64 a0.Value.Kind, str a0.Value.Text, v0_1_2, v0_1_3, v0_1_4]) rfl rfl rfl rfl (fun b1 => ?_)
 refine Ja rfl rfl rfl (Jc (v := .int .i64 0) rfl) ?_
 refine Jf ?_
 refine Je ?_
 refine J6 ?_
 refine Je ?_
 refine Jb ?_
 refine Ja rfl rfl rfl (Jl Try.runUnderlying70 rfl Try.sizeOf3 rfl rfl) ?_
 refine Jt (i := 0) (v := .int .i64 a0.Tag) Try.isAgg3 rfl rfl rfl rfl rfl ?_
 refine Ja rfl rfl rfl (Jd (v := .int .i64 a1) rfl) ?_
 refine Ja rfl rfl rfl (Xs rfl rfl) ?_
 refine Ja rfl rfl rfl (Jc (v := .bool (decide (a0.Tag < a1))) rfl) ?_
 refine Jf ?_
 refine J4 (b := (decide (a0.Tag < a1))) rfl (fun hb => ?_) (fun hb => ?_)
 ·have H5 := Jo hb H; clear H
  refine Je ?_
  refine Jb ?_
  refine Ja rfl rfl rfl (Jc (v := .int .i64 (-1)) rfl) ?_
  refine Jf ?_
  refine Jq ?_
  obtain rfl := Option.some.inj H5
  refine J5 (v := .int .i64 (-1)) rfl rfl (fin rfl)
 ·have H6 := Jp hb H; clear H
  refine Je ?_
  refine Jb ?_
  refine Ja rfl rfl rfl (Jl Try.runUnderlying70 rfl Try.sizeOf3 rfl rfl) ?_
  refine Jt (i := 0) (v := .int .i64 a0.Tag) Try.isAgg3 rfl rfl rfl rfl rfl ?_
  refine Ja rfl rfl rfl (Jd (v := .int .i64 a1) rfl) ?_
  refine Ja rfl rfl rfl (Zn rfl rfl) ?_
  refine Ja rfl rfl rfl (Jc (v := .bool (decide (a1 < a0.Tag))) rfl) ?_
  refine Jf ?_
  refine J4 (b := (decide (a1 < a0.Tag))) rfl (fun hb => ?_) (fun hb => ?_)
  ·have H7 := Jo hb H6; clear H6
   refine Je ?_
   refine Jb ?_
   refine Ja rfl rfl rfl (Jc (v := .int .i64 1) rfl) ?_
   refine Jf ?_
   refine Jq ?_
   obtain rfl := Option.some.inj H7
   refine J5 (v := .int .i64 1) rfl rfl (fin rfl)
  ·have H8 := Jp hb H6; clear H6
   refine Js ?_
   refine Je ?_
   refine Jb ?_
   refine Ja rfl rfl rfl (Jc (v := .int .i64 0) rfl) ?_
   refine Jf ?_
   refine Jq ?_
   obtain rfl := Option.some.inj H8
   refine J5 (v := .int .i64 0) rfl rfl (fin rfl)
theorem k32 {a0 : (List T_tag_Entry)} {v0 : Value} {a1 : Int} {r : Int × Bool} {w : World} {h : Jx} (hw : Know h w X3) (f0 : FrN h 6 v0 g_tag_Entry a0) (H : Us a0 a1 = some r) : Does Try.prog 32 (List.toArray [v0, .int .i64 a1]) w (fun v w' => v = (.tuple #[.int .i64 r.1, .bool r.2]) ∧ Grow w w') := by
 refine enter (n := 11) Try.func32 rfl rfl rfl X3 [] (Sat.nil _ _) ?_
 refine Je ?_
 refine Jb ?_
 refine Ja rfl rfl rfl (Jc (v := .int .i64 0) rfl) ?_
 refine Ja rfl rfl rfl (Jc (v := .bool false) rfl) ?_
 refine Jf ?_
 refine Je ?_
 refine Jb ?_
 refine Ja rfl rfl rfl (Jd (v := v0) rfl) ?_
 refine Ja rfl rfl rfl (Jd (v := .int .i64 a1) rfl) ?_
 obtain ⟨t8, h_t8, H2⟩ := Ji H; clear H
 refine Qn (fun w hF hS => k57 (Jy w) (f0.mono (hw.now hF)) (FnH.mk ⟨58, #[], #[], rfl, Try.call58, fun args2 post2 w2 hk2 hR2 => by obtain ⟨a0_, v0_1_2_, v0_1_3_, v0_1_4_, a1_, r_, fa0_1_2_, fa0_1_3_, fa0_1_4_, rfl, H_, rfl⟩ := hR2; exact k58 (Jy w2) fa0_1_2_ fa0_1_3_ fa0_1_4_ H_⟩) h_t8) Try.call57 rfl rfl rfl ?_
 refine Ja rfl rfl rfl (Qf (v := .int .i64 t8.1) rfl rfl) ?_
 refine Ja rfl rfl rfl (Qf (v := .bool t8.2) rfl rfl) ?_
 refine Ja rfl rfl rfl (Jc (v := .int .i64 t8.1) rfl) ?_
 refine Ja rfl rfl rfl (Jc (v := .bool t8.2) rfl) ?_
 refine Jf ?_
 refine Jq ?_
 obtain rfl := Option.some.inj H2
 refine ret2 (v1 := .int .i64 t8.1) (v2 := .bool t8.2) rfl rfl rfl (fin rfl)
theorem k34 {a0 : T_tag_Value} {v0_2 : Value} {v0_3 : Value} {v0_4 : Value} {r : Int} {w : World} {h : Jx} (hw : Know h w X3) (f0_2 : FrS h 1 v0_2 (a0.Ints.map J3)) (f0_3 : FrS h 2 v0_3 (a0.Ratios.map Jn)) (f0_4 : FrN h 6 v0_4 g_tag_Entry a0.Entries) (H : U1 a0 = some r) : Does Try.prog 34 (List.toArray [.agg #[.int .i64 a0.Kind, str a0.Text, v0_2, v0_3, v0_4]]) w (fun v w' => v = (.int .i64 r) ∧ Grow w w') := by
 refine enter (n := 17) Try.func34 rfl rfl rfl X3 [] (Sat.nil _ _) ?_
 refine Je ?_
 refine Jb ?_
 refine Yv (cs := [.int .i64 a0.Kind, str a0.Text, v0_2, v0_3, v0_4]) rfl rfl rfl rfl (fun b1 => ?_)
 refine Ja rfl rfl rfl (Jc (v := .int .i64 0) rfl) ?_
 refine Jf ?_
 refine Je ?_
 refine Je ?_
 refine Jb ?_
 refine Ja rfl rfl rfl (Jl Try.runUnderlying29 rfl Try.sizeOf3 rfl rfl) ?_
 refine Jt (i := 0) (v := .int .i64 a0.Kind) Try.isAgg3 rfl rfl rfl rfl rfl ?_
 refine Ja rfl rfl rfl (Y9 rfl rfl) ?_
 refine Jf ?_
 refine J4 (b := (decide (a0.Kind ≠ 13))) rfl (fun hb => ?_) (fun hb => ?_)
 ·have H8 := Jo hb H; clear H
  refine Je ?_
  refine Jb ?_
  refine Qg (i := 0) (vs := [.int .i64 a0.Kind, str a0.Text, v0_2, v0_3, v0_4]) Try.isAgg29 Try.sizeOf29 rfl rfl rfl rfl rfl ?_
  obtain ⟨t8, h_t8, H9⟩ := Ji H8; clear H8
  refine Qn (fun w hF hS => k62 (Jy w) (f0_2.mono (hw.now hF)) (f0_3.mono (hw.now hF)) (f0_4.mono (hw.now hF)) h_t8) Try.call62 rfl rfl rfl ?_
  refine Ja rfl rfl rfl (Jc (v := .int .i64 t8) rfl) ?_
  refine Jf ?_
  refine Jq ?_
  obtain rfl := Option.some.inj H9
  refine J5 (v := .int .i64 t8) rfl rfl (fin rfl)
 ·have H10 := Jp hb H; clear H
  refine Js ?_
  refine Je ?_
  refine Je ?_
  refine Jb ?_
  refine Qg (i := 0) (vs := [.int .i64 a0.Kind, str a0.Text, v0_2, v0_3, v0_4]) Try.isAgg29 Try.sizeOf29 rfl rfl rfl rfl rfl ?_
  obtain ⟨t10, h_t10, H11⟩ := Ji H10; clear H10
  refine Qn (fun w hF hS => k63 (Jy w) (f0_2.mono (hw.now hF)) (f0_3.mono (hw.now hF)) (f0_4.mono (hw.now hF)) h_t10) Try.call63 rfl rfl rfl ?_
  refine Ja rfl rfl rfl (Jc (v := .int .i64 t10) rfl) ?_
  refine Jf ?_
  refine Je ?_
  refine Jb ?_
  refine Ja rfl rfl rfl (Jd (v := .int .i64 t10) rfl) ?_
  refine Ja rfl rfl rfl (Y9 rfl rfl) ?_
  refine Jf ?_
  refine J4 (b := (decide (t10 ≠ 0))) rfl (fun hb => ?_) (fun hb => ?_)
  ·have H12 := Jo hb H11; clear H11
   refine Je ?_
   refine Jb ?_
   refine Ja rfl rfl rfl (Jd (v := .int .i64 t10) rfl) ?_
   refine Ja rfl rfl rfl (Jc (v := .int .i64 t10) rfl) ?_
   refine Jf ?_
   refine Jq ?_
   obtain rfl := Option.some.inj H12
   refine J5 (v := .int .i64 t10) rfl rfl (fin rfl)
  ·have H13 := Jp hb H11; clear H11
   refine Js ?_
   refine Je ?_
   refine Jb ?_
   refine Ja rfl rfl rfl (Jl Try.runUnderlying29 rfl Try.sizeOf27 rfl rfl) ?_
   refine Jt (i := 0) (v := v0_4) Try.isAgg27 rfl rfl rfl rfl rfl ?_
   obtain ⟨t16, h_t16, H14⟩ := Ji H13; clear H13
   refine Qn (fun w hF hS => k54 (Jy w) (f0_4.mono (hw.now hF)) h_t16) Try.call54 rfl rfl rfl ?_
   refine Ja rfl rfl rfl (Jc (v := .int .i64 t16) rfl) ?_
   refine Jf ?_
   refine Jq ?_
   obtain rfl := Option.some.inj H14
   refine J5 (v := .int .i64 t16) rfl rfl (fin rfl)
theorem k60 {a0 : (List T_tag_Ratio)} {v0 : Value} {r : (List T_tag_Ratio)} {w : World} {h : Jx} (hw : Know h w X3) (f0 : FrS h 2 v0 (a0.map Jn)) (H : Wj a0 = some r) : Does Try.prog 60 (List.toArray [v0]) w (fun v w' => ∃ x : (Option Addr × Nat), v = (.slice x.1 r.length x.2) ∧ Turn w w' X3 (Xa 77 2 (.slice x.1 r.length x.2) r.length (r.map Jn))) := by
 refine enter (n := 8) Try.func60 rfl rfl rfl X3 [] (Sat.nil _ _) ?_
 refine Je ?_
 refine Jb ?_
 refine Ja rfl rfl rfl (Jc (v := .slice none 0 0) rfl) ?_
 refine Jf ?_
 refine Je ?_
 refine Je ?_
 refine Jb ?_
 refine Ja rfl rfl rfl (Jd (v := v0) rfl) ?_
 refine Ja rfl rfl rfl (r_eqlNilS Try.underlying26 f0 rfl rfl) ?_
 refine Jf ?_
 refine J4 (b := isNilV v0) rfl (fun hb => ?_) (fun hb => ?_)
 ·have hn_ : a0 = [] := f0.nilV hb
  have H3 : some ([] : List T_tag_Ratio) = some r := by have h_ := H; rw [hn_] at h_; exact h_
  refine Je ?_
  refine Jb ?_
  refine Ja rfl rfl rfl (Jc (v := .slice none 0 0) rfl) ?_
  refine Jf ?_
  refine Jq ?_
  refine U2 77 2 ?_
  obtain rfl := Option.some.inj H3
  refine J5 (v := .slice ((none, 0) : Option Addr × Nat).1 ([] : List T_tag_Ratio).length ((none, 0) : Option Addr × Nat).2) rfl rfl (Wf ((none, 0) : Option Addr × Nat) (i := 0) rfl rfl (Imp.refl _))
 ·skip
  refine Js ?_
  refine Je ?_
  refine Jb ?_
  refine Wm (vs := []) (cs := []) Try.underlying26 Try.sizeOf77 Try.zeroValue77 rfl rfl rfl rfl rfl rfl rfl (fun b1 => ?_)
  refine Ja rfl rfl rfl (Jd (v := v0) rfl) ?_
  refine Xq 0 rfl (imp_box (m := 0) (E := 77) (sz := 2) (xs := (([] : List T_tag_Ratio)).map Jn) rfl rfl rfl ⟨rfl, by decide⟩) ?_
  obtain ⟨l7, h_l7, H4⟩ := Ji H; clear H
  refine Zg (turns_appG (i := 0) (hn := rfl) (rds := []) (p := ((some ⟨b1, 0, none⟩, 0) : Option Addr × Nat)) (sz := 2) (by_ := 16) (f := Jn) (ys := ([] : List T_tag_Ratio)) (ls := a0) (V := v0) Try.underlying26 (Zk Try.typeInfo77) rfl rfl rfl rfl rfl rfl rfl rfl f0.eq (List.length_map _) (fun w L' hF hS hi => (f0).row (hw.now hF)) (fun _ => rfl) (fun _ => rfl) h_l7) rfl rfl rfl (fun p => ?_)
  refine Ja rfl rfl rfl (Jc (v := .slice p.1 l7.length p.2) rfl) ?_
  refine Jf ?_
  refine Jq ?_
  obtain rfl := Option.some.inj H4
  refine J5 (v := .slice p.1 l7.length p.2) rfl rfl (Wf p (i := 0) rfl rfl (Imp.refl _))
theorem k59 {a : Option Addr} {n c : Nat} (hc : n ≤ c) : Ret Try.prog 59 [.slice a n c] (.slice (Qz a 0 n 2) n n) := by
  refine Zm (n := 9) Try.func59 rfl rfl rfl (fun wd => ?_)
  refine Je ?_
  refine Jb ?_
  refine Ja rfl rfl rfl (Jc (v := .slice none 0 0) rfl) ?_
  refine Jf ?_
  refine Je ?_
  refine Jb ?_
  refine Ja rfl rfl rfl (Jd (v := .slice a n c) rfl) ?_
  refine Ja rfl rfl rfl (Jd (v := .slice a n c) rfl) ?_
  refine Ja rfl rfl rfl (r_len Try.underlying26 rfl) ?_
  refine Ja rfl rfl rfl (Jd (v := .slice a n c) rfl) ?_
  refine Ja rfl rfl rfl (r_len Try.underlying26 rfl) ?_
  refine Ja rfl rfl rfl (r_sliceHM (a := a) (m := n) (c := c) (h := (n : Int)) (q := (n : Int)) Try.underlying26 Try.sizeOf77 rfl rfl rfl (Int.natCast_nonneg n) (Int.le_refl _) (Int.ofNat_le.2 hc)) ?_
  refine Ja rfl rfl rfl (Jc (v := .slice (Qz a 0 n 2) n n) rfl) ?_
  refine Jf ?_
  refine Jq ?_
  exact J5 (v := .slice (Qz a 0 n 2) n n) rfl rfl (fin rfl)
theorem k38 {css r : List (List Value)} {p0 : Option Addr × Nat} {n0 : Nat} {a1 a2 : Int} {w : World} {h : Jx} {S : Nat → Prop} (hcs : (Z1 70 6 (.slice p0.1 n0 p0.2) n0 (css.map idC)).P S w) (hlt : ∀ b, S b → b < w.heap.size) (hw : Know h w S) (hn0 : n0 = css.length) (hone : ∀ cs ∈ css, ∀ u ∈ cs, u.oneCell' = true) (H : gDelN css a1 a2 = some r) :
    Does Try.prog 38 (List.toArray [.slice p0.1 n0 p0.2, .int .i64 a1, .int .i64 a2]) w (fun v w' => ∃ _ : Unit, v = .slice p0.1 r.length p0.2 ∧ Turn w w' S (Z1 70 6 (.slice p0.1 r.length p0.2) r.length (r.map idC))) := by
 obtain ⟨rfl, g0, g1, g2⟩ := gDelN_some H
 unfold Wx
 have h_all : Zo css a1 a2 = some ((css.drop a1.toNat).take (a2.toNat - a1.toNat)) := gCut_ok ⟨g0, g1, g2⟩
 have h_lo : Zo css 0 a1 = some (css.take a1.toNat) := gCut_to (by omega)
 have h_hi : Zo css a2 css.length = some (css.drop a2.toNat) := Vq (by omega)
 have l_lo : (css.take a1.toNat).length = a1.toNat := by rw [List.length_take]; omega
 have l_hi : (css.drop a2.toNat).length = css.length - a2.toNat := List.length_drop
 refine enter (n := 33) Try.func38 rfl rfl rfl S [Z1 70 6 (.slice p0.1 n0 p0.2) n0 (css.map idC)] (Sat.one hcs hlt) ?_
 refine c_know (fun w hF hS => capOfO (i := 0) hS rfl) (fun hcap => ?_)
 refine c_know (fun w hF hS => rowO_all (i := 0) hS rfl) (fun hall => ?_)
 rw [Q4] at hall
 refine Je ?_
 refine Jb ?_
 refine Ja rfl rfl rfl (Jc (v := .slice none 0 0) rfl) ?_
 refine Jf ?_
 refine Je ?_
 refine Jb ?_
 refine Ja rfl rfl rfl (Jd (v := .slice p0.1 n0 p0.2) rfl) ?_
 refine Ja rfl rfl rfl (Jd (v := .int .i64 a1) rfl) ?_
 refine Ja rfl rfl rfl (Jd (v := .int .i64 a2) rfl) ?_
 refine Ja rfl rfl rfl (Jd (v := .slice p0.1 n0 p0.2) rfl) ?_
 refine Ja rfl rfl rfl (r_lenN Try.underlying27 rfl hn0) ?_
 refine Qu (fun w hF hS => run_slice3O (xs := css) Try.underlying27 Try.sizeOf70 rfl rfl rfl rfl hn0 hcap h_all) rfl rfl rfl ?_
 refine Jf ?_
 refine Je ?_
 refine Je ?_
 refine Jb ?_
 refine Ja rfl rfl rfl (Jd (v := .int .i64 a1) rfl) ?_
 refine Ja rfl rfl rfl (Jd (v := .int .i64 a2) rfl) ?_
 refine Ja rfl rfl rfl (Qr rfl rfl) ?_
 refine Jf ?_
 refine J4 (b := (decide (a1 = a2))) rfl (fun hb => ?_) (fun hb => ?_)
 ·have hab : a1 = a2 := of_decide_eq_true hb
  have he : (css.take (Int.toNat a1) ++ css.drop (Int.toNat a2)) = css := by rw [← hab, List.take_append_drop]
  rw [he, ← hn0]
  refine Je ?_
  refine Jb ?_
  refine Ja rfl rfl rfl (Jd (v := .slice p0.1 n0 p0.2) rfl) ?_
  refine Ja rfl rfl rfl (Jc (v := .slice p0.1 n0 p0.2) rfl) ?_
  refine Jf ?_
  refine Jq ?_
  refine J5 (v := .slice p0.1 n0 p0.2) rfl rfl (Wf () (i := 0) rfl rfl (Imp.refl _))
 ·have hab : ¬ a1 = a2 := of_decide_eq_false hb
  refine Js ?_
  refine Je ?_
  refine Jb ?_
  refine Ja rfl rfl rfl (Jd (v := .slice p0.1 n0 p0.2) rfl) ?_
  refine Ja rfl rfl rfl (r_lenN Try.underlying27 rfl hn0) ?_
  refine Ja rfl rfl rfl (Jc (v := .int .i64 (css.length : Int)) rfl) ?_
  refine Jf ?_
  refine Je ?_
  exact Qp (Kd.p :: Kd.p :: Kd.d [0] _ :: Kd.p :: Kd.p :: Kd.d [0] _ :: Kd.t 0 [] _ _ :: Kd.p :: []) 0 mixed (by
   refine Jj rfl rfl (Jd (v := .slice p0.1 n0 p0.2) rfl) ?_
   refine Jj rfl rfl (Jd (v := .int .i64 a1) rfl) ?_
   refine Wz (v := .slice p0.1 (css.take a1.toNat).length p0.2) (fun w L' hF hS hi => run_sliceHO0 (xs := css) Try.underlying27 Try.sizeOf70 rfl rfl hn0 (capOfO (i := 0) hS ((hi 0 (by simp)).trans rfl)) h_lo) rfl rfl ?_
   refine Jj rfl rfl (Jd (v := .slice p0.1 n0 p0.2) rfl) ?_
   refine Jj rfl rfl (Jd (v := .int .i64 a2) rfl) ?_
   refine Wz (v := .slice (Qz p0.1 (Int.toNat a2) p0.2 6) (css.drop a2.toNat).length (p0.2 - Int.toNat a2)) (fun w L' hF hS hi => Vx (xs := css) Try.underlying27 Try.sizeOf70 rfl rfl hn0 (capOfO (i := 0) hS ((hi 0 (by simp)).trans rfl)) h_hi) rfl rfl ?_
   refine d_turn (Cv := fun _ => Z1 70 6 (.slice p0.1 ((css.take a1.toNat).length + (css.drop a2.toNat).length) p0.2) ((css.take a1.toNat).length + (css.drop a2.toNat).length) ((css.map idC).take (css.take a1.toNat).length ++ (css.drop a2.toNat).map idC)) ()
    (turns_delO (i := 0) (rds := []) (xs := css.map idC) (news := (css.drop a2.toNat).map idC) (a := (css.take a1.toNat).length) (q := (css.drop a2.toNat).length) (m := n0) (p := p0) (by omega) Try.underlying27 (Zk Try.typeInfo70) rfl rfl (by omega) rfl rfl cutA_none (List.length_map _).symm
     (fun w L' hF hS hj => Row.cutG (xs := css) (f := idC) (offOf (i := 0) hS (hj.trans rfl)) hn0 (capOfO (i := 0) hS (hj.trans rfl)) h_hi) (by rw [Q4]; exact fun x hx => hall x (List.mem_of_mem_drop hx)) (by rw [Q4]; exact fun x hx => hone x (List.mem_of_mem_drop hx))) (fun _ => rfl) rfl rfl (fun _ => ?_)
   refine Jj rfl rfl (Jc (v := .slice p0.1 ((css.take a1.toNat).length + (css.drop a2.toNat).length) p0.2) rfl) ?_
   refine Xm ?_
   have hch : (css.map idC).take (css.take a1.toNat).length ++ (css.drop a2.toNat).map idC = css.take a1.toNat ++ css.drop a2.toNat := by rw [Q4, Q4]; congr 1; rw [l_lo]
   refine Xq 0 rfl (Imp.of (congrArg (Z1 70 6 (.slice p0.1 ((css.take a1.toNat).length + (css.drop a2.toNat).length) p0.2) ((css.take a1.toNat).length + (css.drop a2.toNat).length)) hch)) ?_
   rw [List.length_append]
   refine Je ?_
   refine Jb ?_
   refine Ja rfl rfl rfl (Jd (v := .slice p0.1 ((css.take a1.toNat).length + (css.drop a2.toNat).length) p0.2) rfl) ?_
   refine Ja rfl rfl rfl (Jd (v := .slice p0.1 ((css.take a1.toNat).length + (css.drop a2.toNat).length) p0.2) rfl) ?_
   refine Ja rfl rfl rfl (r_len Try.underlying27 rfl) ?_
   refine Ja rfl rfl rfl (Jd (v := .int .i64 (css.length : Int)) rfl) ?_
   refine Qu (v := .slice (Qz p0.1 ((css.take a1.toNat).length + (css.drop a2.toNat).length) p0.2 6) (Int.toNat (css.length : Int) - ((css.take a1.toNat).length + (css.drop a2.toNat).length)) (p0.2 - ((css.take a1.toNat).length + (css.drop a2.toNat).length))) (fun w hF hS => run_sliceRoom Try.underlying27 Try.sizeOf70 rfl rfl rfl (by omega) (by omega)) rfl rfl rfl ?_
   refine l_turn0 (turns_clearO (i := 0) (sz := 6) (rds := []) (m := (css.take a1.toNat).length + (css.drop a2.toNat).length) (q := Int.toNat (css.length : Int) - ((css.take a1.toNat).length + (css.drop a2.toNat).length)) (xs := css.take a1.toNat ++ css.drop a2.toNat) Try.underlying27 Try.zeroValue70 rfl rfl rfl rfl (by omega)) rfl rfl (fun _ => ?_)
   refine Jf ?_
   refine Je ?_
   refine Jb ?_
   refine Ja rfl rfl rfl (Jd (v := .slice p0.1 ((css.take a1.toNat).length + (css.drop a2.toNat).length) p0.2) rfl) ?_
   refine Ja rfl rfl rfl (Jc (v := .slice p0.1 ((css.take a1.toNat).length + (css.drop a2.toNat).length) p0.2) rfl) ?_
   refine Jf ?_
   refine Jq ?_
   refine J5 (v := .slice p0.1 ((css.take a1.toNat).length + (css.drop a2.toNat).length) p0.2) rfl rfl (Wf () (i := 0) rfl rfl (Imp.of (by rw [Q4])))
   ) (by kernel_rfl)
theorem Try.ovl64 (x y : Value) (w : World) : (callFunc 64 (List.toArray [x, y])).run Try.prog w = (do pure (.value (← Extern.SlicesOverlaps.overlaps #[27, 27] #[4] #[x, y])) : Sem Next).run Try.prog w := by kernel_rfl
theorem k37 {css r : List (List Value)} {cs1 : List Value} {p0 : Option Addr × Nat} {n0 b2 T2 : Nat} {a1 : Int} {w : World} {h : Jx} {S : Nat → Prop} (hcs : (Z1 70 6 (.slice p0.1 n0 p0.2) n0 (css.map idC)).P S w) (hlt : ∀ b, S b → b < w.heap.size) (hw : Know h w S) (hn0 : n0 = css.length) (hone : ∀ cs ∈ css, ∀ u ∈ cs, u.oneCell' = true) (hone1 : (([cs1].map idC).all fun x => x.all Value.oneCell') = true) (hl1 : cs1.length = 6) (hb2 : h b2 = some (.cells cs1.toArray T2 (0, 0))) (H : gInsN 104 css a1 cs1 = some r) :
    Does Try.prog 37 (List.toArray [.slice p0.1 n0 p0.2, .int .i64 a1, .slice (some ⟨b2, 0, none⟩) 1 1]) w (fun v w' => ∃ x : Option Addr × Nat, v = .slice x.1 r.length x.2 ∧ Turn w w' S (Z1 70 6 (.slice x.1 r.length x.2) r.length (r.map idC))) := by
 obtain ⟨rfl, g0, g1, g2, g3⟩ := gInsN_some H
 have f2r : RowH h (some ⟨b2, 0, none⟩) 6 ([cs1].map idC) := .inr ⟨b2, 0, cs1.toArray, T2, (0, 0), rfl, hb2, fun i x hx => by
  cases i with
  | zero => simp [idC] at hx; subst hx; exact ⟨hl1, fun j v hv => by simpa using hv⟩
  | succ i => simp at hx⟩
 have hone1 : ∀ u ∈ cs1, u.oneCell' = true := fun u hu => List.all_eq_true.1 (List.all_eq_true.1 hone1 cs1 (by simp [idC])) u hu
 have hins : (Y4 css a1 cs1).length = css.length + 1 := insL_len g1 g0
 have h_hi : Zo css a1 css.length = some (css.drop a1.toNat) := Vq (by omega)
 have l_hi : (css.drop a1.toNat).length = css.length - a1.toNat := List.length_drop
 refine enter (n := 95) Try.func37 rfl rfl rfl S [Z1 70 6 (.slice p0.1 n0 p0.2) n0 (css.map idC)] (Sat.one hcs hlt) ?_
 refine c_know (fun w hF hS => capOfO (i := 0) hS rfl) (fun hcap => ?_)
 refine c_know (fun w hF hS => rowO_all (i := 0) hS rfl) (fun hall => ?_)
 rw [Q4] at hall
 refine Je ?_
 refine Jb ?_
 refine Ja rfl rfl rfl (Jc (v := .slice none 0 0) rfl) ?_
 refine Jf ?_
 refine Je ?_
 refine Jb ?_
 refine Ja rfl rfl rfl (Jd (v := .slice p0.1 n0 p0.2) rfl) ?_
 refine Ja rfl rfl rfl (Jd (v := .int .i64 a1) rfl) ?_
 refine Qu (fun w hF hS => Vx (xs := css) Try.underlying27 Try.sizeOf70 rfl rfl hn0 (by omega) h_hi) rfl rfl rfl ?_
 refine Jf ?_
 refine Je ?_
 refine Jb ?_
 refine Ja rfl rfl rfl (Jd (v := .slice (some ⟨b2, 0, none⟩) 1 1) rfl) ?_
 refine Ja rfl rfl rfl (r_len Try.underlying27 rfl) ?_
 refine Ja rfl rfl rfl (Jc (v := .int .i64 ((1 : Nat) : Int)) rfl) ?_
 refine Jf ?_
 refine Je ?_
 refine Je ?_
 refine Jb ?_
 refine Ja rfl rfl rfl (Jd (v := .int .i64 ((1 : Nat) : Int)) rfl) ?_
 refine Ja rfl rfl rfl (Qr rfl rfl) ?_
 refine Jf ?_
 refine J4 (b := (decide (((1 : Nat) : Int) = 0))) rfl (fun hb => absurd hb (by decide)) (fun hb => ?_)
 refine Js ?_
 refine Je ?_
 refine Jb ?_
 refine Ja rfl rfl rfl (Jd (v := .slice p0.1 n0 p0.2) rfl) ?_
 refine Ja rfl rfl rfl (r_lenN Try.underlying27 rfl hn0) ?_
 refine Ja rfl rfl rfl (Jc (v := .int .i64 (css.length : Int)) rfl) ?_
 refine Jf ?_
 refine Je ?_
 refine Je ?_
 refine Jb ?_
 refine Ja rfl rfl rfl (Jd (v := .int .i64 a1) rfl) ?_
 refine Ja rfl rfl rfl (Jd (v := .int .i64 (css.length : Int)) rfl) ?_
 refine Ja rfl rfl rfl (Qr rfl rfl) ?_
 refine Jf ?_
 refine J4 (b := (decide (a1 = (css.length : Int)))) rfl (fun hb => ?_) (fun hb => ?_)
 ·have hab : a1 = css.length := of_decide_eq_true hb
  have he : css ++ [cs1] = Y4 css a1 cs1 := by
   have ht : a1.toNat = css.length := by omega
   unfold Y4; rw [ht, List.take_length, List.drop_length, List.append_nil]
  refine Je ?_
  refine Jb ?_
  refine Ja rfl rfl rfl (Jd (v := .slice p0.1 n0 p0.2) rfl) ?_
  refine Ja rfl rfl rfl (Jd (v := .slice (some ⟨b2, 0, none⟩) 1 1) rfl) ?_
  refine Zg (turns_appendO (i := 0) (sz := 6) (by_ := 104) (rds := []) (news := [cs1].map idC) (m := n0) (q := 1) (p := p0) Try.underlying27 (Zk Try.typeInfo70) rfl rfl rfl rfl rfl rfl rfl rfl rfl (fun x hx => by rw [Q4] at hx; rw [List.mem_singleton.1 hx]; exact hl1) (fun w L' hF hS hj => f2r.row (hw.now hF)) (fun x hx => by rw [Q4] at hx; rw [List.mem_singleton.1 hx]; exact hone1) (by simp only [maxLen]; omega) (by rw [hn0]; exact g2)) rfl rfl rfl (fun p1 => ?_)
  refine Ja rfl rfl rfl (Jc (v := .slice p1.1 (n0 + 1) p1.2) rfl) ?_
  refine Jf ?_
  refine Jq ?_
  refine J5 (v := .slice p1.1 (n0 + 1) p1.2) rfl rfl (Wf p1 (i := 0) rfl (by rw [hins, hn0]) (Imp.of (by rw [hins, hn0, ← List.map_append, he])))
 ·have hab : ¬ a1 = css.length := of_decide_eq_false hb
  refine Js ?_
  refine Je ?_
  refine Je ?_
  refine Jb ?_
  refine Ja rfl rfl rfl (Jd (v := .int .i64 (css.length : Int)) rfl) ?_
  refine Ja rfl rfl rfl (Jd (v := .int .i64 ((1 : Nat) : Int)) rfl) ?_
  refine Ja rfl rfl rfl (r_add rfl rfl (by omega)) ?_
  refine Ja rfl rfl rfl (Jd (v := .slice p0.1 n0 p0.2) rfl) ?_
  refine Ja rfl rfl rfl (r_cap Try.underlying27 rfl) ?_
  refine Ja rfl rfl rfl (Zn rfl rfl) ?_
  refine Jf ?_
  refine J4 (b := (decide ((p0.2 : Int) < (css.length : Int) + ((1 : Nat) : Int)))) rfl (fun hb => ?_) (fun hb => ?_)
  ·have hb1 := of_decide_eq_true hb
   have h_lo : Zo css 0 a1 = some (css.take a1.toNat) := gCut_to (by omega)
   have l_lo : (css.take a1.toNat).length = a1.toNat := by rw [List.length_take]; omega
   refine Je ?_
   refine Jb ?_
   refine Ja rfl rfl rfl (Jd (v := .slice p0.1 n0 p0.2) rfl) ?_
   refine Ja rfl rfl rfl (Jd (v := .int .i64 a1) rfl) ?_
   refine Qu (v := .slice p0.1 (css.take a1.toNat).length p0.2) (fun w hF hS => run_sliceHO0 (xs := css) Try.underlying27 Try.sizeOf70 rfl rfl hn0 (by omega) h_lo) rfl rfl rfl ?_
   refine Ja rfl rfl rfl (Jd (v := .int .i64 (css.length : Int)) rfl) ?_
   refine Ja rfl rfl rfl (Jd (v := .int .i64 ((1 : Nat) : Int)) rfl) ?_
   refine Ja rfl rfl rfl (r_add rfl rfl (by omega)) ?_
   refine Ja rfl rfl rfl (Jd (v := .int .i64 a1) rfl) ?_
   refine Ja rfl rfl rfl (r_sub rfl rfl (by omega)) ?_
   have hk : (css.length : Int) + ((1 : Nat) : Int) - a1 = ((css.length + 1 - a1.toNat : Nat) : Int) := by omega
   rw [l_lo, hk]
   have hsum : a1.toNat + (css.length + 1 - a1.toNat) = css.length + 1 := by omega
   refine Vh (makes_growZ (i := 0) (sz := 6) (by_ := 104) (xs := css.map idC) (p := p0) (m := n0) (a := a1.toNat) (k := css.length + 1 - a1.toNat) Try.underlying27 Try.underlying3 (Zk Try.typeInfo70) rfl rfl rfl rfl rfl rfl rfl (by omega) rfl (by omega) (by omega) (by rw [hsum]; simp only [maxLen]; omega) (by rw [hsum]; exact g2)) rfl rfl rfl (fun p1 => ?_)
   refine Ja rfl rfl rfl (Jc (v := .slice p1.1 (a1.toNat + (css.length + 1 - a1.toNat)) p1.2) rfl) ?_
   refine Jf ?_
   have hr1 : (css.map idC).take a1.toNat ++ List.replicate (css.length + 1 - a1.toNat) [.int .i64 0, .int .i64 0, str [], .slice none 0 0, .slice none 0 0, .slice none 0 0] = (css.take a1.toNat ++ (List.replicate (css.length + 1 - a1.toNat) [.int .i64 0, .int .i64 0, str [], .slice none 0 0, .slice none 0 0, .slice none 0 0])) := by rw [Q4]
   refine Xq 1 rfl (Imp.of (congrArg (Xa 70 6 (.slice p1.1 (a1.toNat + (css.length + 1 - a1.toNat)) p1.2) (a1.toNat + (css.length + 1 - a1.toNat))) hr1)) ?_
   have len1 : (css.take a1.toNat ++ (List.replicate (css.length + 1 - a1.toNat) [.int .i64 0, .int .i64 0, str [], .slice none 0 0, .slice none 0 0, .slice none 0 0])).length = (a1.toNat + (css.length + 1 - a1.toNat)) := by rw [List.length_append, l_lo, List.length_replicate]
   generalize hR1 : (css.take a1.toNat ++ (List.replicate (css.length + 1 - a1.toNat) [.int .i64 0, .int .i64 0, str [], .slice none 0 0, .slice none 0 0, .slice none 0 0])) = R1 at len1
   have hcut1 : Zo R1 a1 R1.length = some (R1.drop a1.toNat) := Vq (by omega)
   have ldr1 : (R1.drop a1.toNat).length = css.length + 1 - a1.toNat := by rw [List.length_drop, len1]; omega
   refine Je ?_
   refine Jb ?_
   refine Ja rfl rfl rfl (Jd (v := .slice p1.1 (a1.toNat + (css.length + 1 - a1.toNat)) p1.2) rfl) ?_
   refine Ja rfl rfl rfl (Jd (v := .int .i64 a1) rfl) ?_
   refine Qu (v := .slice (Qz p1.1 a1.toNat p1.2 6) (R1.drop a1.toNat).length (p1.2 - a1.toNat)) (fun w hF hS => Vx (xs := R1) Try.underlying27 Try.sizeOf70 rfl rfl len1.symm (capOf (i := 1) hS rfl) hcut1) rfl rfl rfl ?_
   refine Ja rfl rfl rfl (Jd (v := .slice (some ⟨b2, 0, none⟩) 1 1) rfl) ?_
   refine Zg (turns_copyK (i := 1) (rds := []) (xs := R1) (news := [cs1].map idC) (sz := 6) (m := (a1.toNat + (css.length + 1 - a1.toNat))) (a := a1.toNat) (q := 1) (p := p1) Try.underlying27 (Zk Try.typeInfo70) rfl rfl len1.symm rfl (by omega) rfl (by omega) rfl (by omega) (fun w L' hF hS hj => f2r.row (hw.now hF)) (fun x hx => by rw [Q4] at hx; rw [List.mem_singleton.1 hx]; exact hl1) (fun x hx => by rw [Q4] at hx; rw [List.mem_singleton.1 hx]; exact hone1)) rfl rfl rfl (fun _ => ?_)
   refine Jf ?_
   have len2 : (R1.take a1.toNat ++ [cs1].map idC ++ R1.drop (a1.toNat + 1)).length = (a1.toNat + (css.length + 1 - a1.toNat)) := by simp only [List.length_append, List.length_take, List.length_drop, List.length_map, List.length_cons, List.length_nil, len1]; omega
   generalize hR2 : R1.take a1.toNat ++ [cs1].map idC ++ R1.drop (a1.toNat + 1) = R2 at len2
   have hcut2 : Zo R2 (a1 + ((1 : Nat) : Int)) R2.length = some (R2.drop (a1 + ((1 : Nat) : Int)).toNat) := Vq (by omega)
   have ht1 : (a1 + ((1 : Nat) : Int)).toNat = a1.toNat + 1 := by omega
   rw [ht1] at hcut2
   have ldr2 : (R2.drop (a1.toNat + 1)).length = css.length - a1.toNat := by rw [List.length_drop, len2]; omega
   refine Je ?_
   exact Qp (Kd.p :: Kd.p :: Kd.p :: Kd.p :: Kd.d [1] _ :: Kd.p :: Kd.p :: Kd.d [0] _ :: Kd.t 1 [0] _ _ :: []) 0 mixed (by
    refine Jj rfl rfl (Jd (v := .slice p1.1 (a1.toNat + (css.length + 1 - a1.toNat)) p1.2) rfl) ?_
    refine Jj rfl rfl (Jd (v := .int .i64 a1) rfl) ?_
    refine Jj rfl rfl (Jd (v := .int .i64 ((1 : Nat) : Int)) rfl) ?_
    refine Jj rfl rfl (r_add rfl rfl (by omega)) ?_
    refine Wz (v := .slice (Qz p1.1 (a1.toNat + 1) p1.2 6) (R2.drop (a1.toNat + 1)).length (p1.2 - (a1.toNat + 1))) (fun w L' hF hS hi => ht1 ▸ Vx (xs := R2) Try.underlying27 Try.sizeOf70 rfl rfl len2.symm (capOf (i := 1) hS ((hi 1 (by simp)).trans rfl)) (ht1.symm ▸ hcut2)) rfl rfl ?_
    refine Jj rfl rfl (Jd (v := .slice p0.1 n0 p0.2) rfl) ?_
    refine Jj rfl rfl (Jd (v := .int .i64 a1) rfl) ?_
    refine Wz (v := .slice (Qz p0.1 a1.toNat p0.2 6) (css.drop a1.toNat).length (p0.2 - a1.toNat)) (fun w L' hF hS hi => Vx (xs := css) Try.underlying27 Try.sizeOf70 rfl rfl hn0 (by omega) h_hi) rfl rfl ?_
    refine d_turn (Cv := fun _ => Xa 70 6 (.slice p1.1 (a1.toNat + (css.length + 1 - a1.toNat)) p1.2) (a1.toNat + (css.length + 1 - a1.toNat)) (R2.take (a1.toNat + 1) ++ (css.drop a1.toNat).map idC ++ R2.drop (a1.toNat + 1 + (css.drop a1.toNat).length))) ()
     (turns_copyK (i := 1) (rds := [0]) (xs := R2) (news := (css.drop a1.toNat).map idC) (sz := 6) (m := (a1.toNat + (css.length + 1 - a1.toNat))) (a := a1.toNat + 1) (q := (css.drop a1.toNat).length) (p := p1) Try.underlying27 (Zk Try.typeInfo70) rfl rfl len2.symm rfl (by omega) rfl (by omega) (List.length_map _).symm (by omega)
      (fun w L' hF hS hj => Row.cutG (xs := css) (f := idC) (offOf (i := 0) hS ((hj 0 (by simp)).trans rfl)) hn0 (by omega) h_hi) (by rw [Q4]; exact fun x hx => hall x (List.mem_of_mem_drop hx)) (by rw [Q4]; exact fun x hx => hone x (List.mem_of_mem_drop hx))) (fun _ => rfl) rfl rfl (fun _ => ?_)
    refine Xm ?_
    have hch : R2.take (a1.toNat + 1) ++ (css.drop a1.toNat).map idC ++ R2.drop (a1.toNat + 1 + (css.drop a1.toNat).length) = (Y4 css a1 cs1).map idC := by
     have e3 : R2.drop (a1.toNat + 1 + (css.drop a1.toNat).length) = [] := List.eq_nil_of_length_eq_zero (by rw [List.length_drop, len2]; omega)
     have t1 : R1.take a1.toNat = css.take a1.toNat := by rw [← hR1, List.take_append_of_le_length (by omega), List.take_of_length_le (by omega)]
     have t2 : R2.take (a1.toNat + 1) = css.take a1.toNat ++ [cs1] := by
      rw [← hR2, t1, List.take_append_of_le_length (by simp only [List.length_append, List.length_map, List.length_cons, List.length_nil, l_lo]; omega), List.take_of_length_le (by simp only [List.length_append, List.length_map, List.length_cons, List.length_nil, l_lo]; omega), Q4]
     rw [e3, t2, List.append_nil, Q4, Q4, List.append_assoc]; rfl
    refine Je ?_
    refine Jb ?_
    refine Ja rfl rfl rfl (Jd (v := .slice p1.1 (a1.toNat + (css.length + 1 - a1.toNat)) p1.2) rfl) ?_
    refine Ja rfl rfl rfl (Jc (v := .slice p1.1 (a1.toNat + (css.length + 1 - a1.toNat)) p1.2) rfl) ?_
    refine Jf ?_
    refine Jq ?_
    refine Xq 1 rfl (imp_rowO _ _ _ _ _) ?_
    refine J5 (v := .slice p1.1 (a1.toNat + (css.length + 1 - a1.toNat)) p1.2) rfl rfl (Wf p1 (i := 1) rfl (by rw [hins, hsum]) (Imp.of (by rw [hins, hch, hsum])))
    ) (by kernel_rfl)
  ·have hroom : css.length + 1 ≤ p0.2 := by have := of_decide_eq_false hb; omega
   refine Js ?_
   refine Xq 0 rfl (imp_room1 (by omega)) ?_
   refine c_ex 0 rfl (fun y0 => ?_)
   refine c_know (fun w hF hS => rowO_all (i := 0) hS rfl) (fun hall1 => ?_)
   have hy0 : y0.length = 6 := hall1 y0 (by simp)
   have lenR : (css.map idC ++ [y0]).length = n0 + 1 := by rw [List.length_append, List.length_map, List.length_singleton, hn0]
   generalize hR1 : css.map idC ++ [y0] = R1 at lenR hall1
   refine Je ?_
   refine Jb ?_
   refine Ja rfl rfl rfl (Jd (v := .slice p0.1 n0 p0.2) rfl) ?_
   refine Ja rfl rfl rfl (Jd (v := .int .i64 (css.length : Int)) rfl) ?_
   refine Ja rfl rfl rfl (Jd (v := .int .i64 ((1 : Nat) : Int)) rfl) ?_
   refine Ja rfl rfl rfl (r_add rfl rfl (by omega)) ?_
   refine Ja (v := .slice p0.1 (n0 + 1) p0.2) rfl rfl rfl (by
    have e1 : ((css.length : Int) + ((1 : Nat) : Int)).toNat = n0 + 1 := by omega
    rw [← e1]; exact run_sliceHRoom Try.underlying27 Try.sizeOf70 rfl rfl (by omega) (by omega)) ?_
   refine Ja rfl rfl rfl (Jc (v := .slice p0.1 (n0 + 1) p0.2) rfl) ?_
   refine Jf ?_
   have h_hi1 : Zo R1 a1 R1.length = some (R1.drop a1.toNat) := Vq (by omega)
   have ht1 : (a1 + ((1 : Nat) : Int)).toNat = a1.toNat + 1 := by omega
   have h_hi2 : Zo R1 (a1 + ((1 : Nat) : Int)) R1.length = some (R1.drop (a1.toNat + 1)) := by rw [← ht1]; exact Vq (by omega)
   have ld1 : (R1.drop a1.toNat).length = n0 + 1 - a1.toNat := by rw [List.length_drop, lenR]
   have ld2 : (R1.drop (a1.toNat + 1)).length = n0 - a1.toNat := by rw [List.length_drop, lenR]; omega
   have hd1 : R1.drop a1.toNat = (css.drop a1.toNat).map idC ++ [y0] := by
    rw [← hR1, List.drop_append_of_le_length (by rw [List.length_map]; omega), ← List.map_drop]
   refine Je ?_
   refine Je ?_
   refine Jb ?_
   refine Ja rfl rfl rfl (Jd (v := .slice (some ⟨b2, 0, none⟩) 1 1) rfl) ?_
   refine Ja rfl rfl rfl (Jd (v := .slice p0.1 (n0 + 1) p0.2) rfl) ?_
   refine Ja rfl rfl rfl (Jd (v := .int .i64 a1) rfl) ?_
   refine Ja rfl rfl rfl (Jd (v := .int .i64 ((1 : Nat) : Int)) rfl) ?_
   refine Ja rfl rfl rfl (r_add rfl rfl (by omega)) ?_
   refine Qu (v := .slice (Qz p0.1 (a1.toNat + 1) p0.2 6) (R1.drop (a1.toNat + 1)).length (p0.2 - (a1.toNat + 1))) (fun w hF hS => ht1 ▸ Vx (xs := R1) Try.underlying27 Try.sizeOf70 rfl rfl lenR.symm (by omega) (ht1.symm ▸ h_hi2)) rfl rfl rfl ?_
   refine Qu (v := .bool false) (fun W hF hS => by
    obtain ⟨S1, hC1, hS1⟩ := hS.at (i := 0) rfl
    obtain ⟨g1, g2⟩ := hw b2 _ hb2
    refine run_ovl (f := 64) (Try.ovl64) Try.underlying27 Try.sizeOf70 rfl hC1 (by omega) (hw.now hF b2 _ hb2) (fun hs1 => ?_) rfl rfl
    rcases (hS1 b2 hs1).2 with hh | hh
    ·have hlt2 : b2 < w.heap.size := (Array.getElem?_eq_some_iff.1 g1).1
     exact absurd hh (by show ¬ w.heap.size ≤ b2; omega)
    ·exact g2 hh) rfl rfl rfl ?_
   refine Ja rfl rfl rfl (V3 rfl) ?_
   refine Jf ?_
   refine J4 (b := !false) rfl (fun _ => ?_) (fun hb => absurd hb (by decide))
   refine Je ?_
   exact Qp (Kd.p :: Kd.p :: Kd.p :: Kd.p :: Kd.d [0] _ :: Kd.p :: Kd.p :: Kd.d [0] _ :: Kd.t 0 [] _ _ :: []) 0 mixed (by
    refine Jj rfl rfl (Jd (v := .slice p0.1 (n0 + 1) p0.2) rfl) ?_
    refine Jj rfl rfl (Jd (v := .int .i64 a1) rfl) ?_
    refine Jj rfl rfl (Jd (v := .int .i64 ((1 : Nat) : Int)) rfl) ?_
    refine Jj rfl rfl (r_add rfl rfl (by omega)) ?_
    refine Wz (v := .slice (Qz p0.1 (a1.toNat + 1) p0.2 6) (R1.drop (a1.toNat + 1)).length (p0.2 - (a1.toNat + 1))) (fun w L' hF hS hi => ht1 ▸ Vx (xs := R1) Try.underlying27 Try.sizeOf70 rfl rfl lenR.symm (by omega) (ht1.symm ▸ h_hi2)) rfl rfl ?_
    refine Jj rfl rfl (Jd (v := .slice p0.1 (n0 + 1) p0.2) rfl) ?_
    refine Jj rfl rfl (Jd (v := .int .i64 a1) rfl) ?_
    refine Wz (v := .slice (Qz p0.1 a1.toNat p0.2 6) (R1.drop a1.toNat).length (p0.2 - a1.toNat)) (fun w L' hF hS hi => Vx (xs := R1) Try.underlying27 Try.sizeOf70 rfl rfl lenR.symm (by omega) h_hi1) rfl rfl ?_
    refine d_turn (Cv := fun _ => Z1 70 6 (.slice p0.1 (n0 + 1) p0.2) (n0 + 1) (R1.take (a1.toNat + 1) ++ (css.drop a1.toNat).map idC ++ R1.drop (a1.toNat + 1 + (css.drop a1.toNat).length))) ()
     (turns_copyKO (i := 0) (rds := []) (xs := R1) (news := (css.drop a1.toNat).map idC) (sz := 6) (m := n0 + 1) (a := a1.toNat + 1) (k := (css.drop a1.toNat).length) (p := p0) Try.underlying27 (Zk Try.typeInfo70) rfl rfl lenR.symm rfl (by omega) rfl (by omega) (List.length_map _).symm (by omega)
      (fun w L' hF hS hj => by
       have hr := Row.cutG (xs := R1) (f := fun z : List Value => z) (by rw [List.map_id']; exact offOf (i := 0) hS ((hj 0 (.inr rfl)).trans rfl)) lenR.symm (show n0 + 1 ≤ p0.2 by omega) h_hi1
       rw [List.map_id', hd1] at hr
       exact Row.pre hr) (by rw [Q4]; exact fun x hx => hall x (List.mem_of_mem_drop hx)) (by rw [Q4]; exact fun x hx => hone x (List.mem_of_mem_drop hx))) (fun _ => rfl) rfl rfl (fun _ => ?_)
    refine Xm ?_
    have len2 : (R1.take (a1.toNat + 1) ++ (css.drop a1.toNat).map idC ++ R1.drop (a1.toNat + 1 + (css.drop a1.toNat).length)).length = n0 + 1 := by simp only [List.length_append, List.length_take, List.length_drop, List.length_map, lenR]; omega
    generalize hR2 : R1.take (a1.toNat + 1) ++ (css.drop a1.toNat).map idC ++ R1.drop (a1.toNat + 1 + (css.drop a1.toNat).length) = R2 at len2
    have h_hi3 : Zo R2 a1 R2.length = some (R2.drop a1.toNat) := Vq (by omega)
    have ld3 : (R2.drop a1.toNat).length = n0 + 1 - a1.toNat := by rw [List.length_drop, len2]
    refine Je ?_
    refine Jb ?_
    refine Ja rfl rfl rfl (Jd (v := .slice p0.1 (n0 + 1) p0.2) rfl) ?_
    refine Ja rfl rfl rfl (Jd (v := .int .i64 a1) rfl) ?_
    refine Qu (v := .slice (Qz p0.1 a1.toNat p0.2 6) (R2.drop a1.toNat).length (p0.2 - a1.toNat)) (fun w hF hS => Vx (xs := R2) Try.underlying27 Try.sizeOf70 rfl rfl len2.symm (by omega) h_hi3) rfl rfl rfl ?_
    refine Ja rfl rfl rfl (Jd (v := .slice (some ⟨b2, 0, none⟩) 1 1) rfl) ?_
    refine Zg (turns_copyKO (i := 0) (rds := []) (xs := R2) (news := [cs1].map idC) (sz := 6) (m := n0 + 1) (a := a1.toNat) (q := 1) (k := 1) (p := p0) Try.underlying27 (Zk Try.typeInfo70) rfl rfl len2.symm rfl (by omega) rfl (by omega) rfl (by omega) (fun w L' hF hS hj => f2r.row (hw.now hF)) (fun x hx => by rw [Q4] at hx; rw [List.mem_singleton.1 hx]; exact hl1) (fun x hx => by rw [Q4] at hx; rw [List.mem_singleton.1 hx]; exact hone1)) rfl rfl rfl (fun _ => ?_)
    refine Jf ?_
    have hch : R2.take a1.toNat ++ [cs1].map idC ++ R2.drop (a1.toNat + 1) = (Y4 css a1 cs1).map idC := by
     have e3 : R1.drop (a1.toNat + 1 + (css.drop a1.toNat).length) = [] := List.eq_nil_of_length_eq_zero (by rw [List.length_drop, lenR]; omega)
     have l1 : (R1.take (a1.toNat + 1)).length = a1.toNat + 1 := by rw [List.length_take, lenR]; omega
     have t1 : R1.take a1.toNat = css.take a1.toNat := by rw [← hR1, Q4, List.take_append_of_le_length (by omega)]
     have t2 : R2.take a1.toNat = css.take a1.toNat := by
      rw [← hR2, List.append_assoc, List.take_append_of_le_length (by omega), List.take_take, Nat.min_eq_left (by omega), t1]
     have t3 : R2.drop (a1.toNat + 1) = css.drop a1.toNat := by
      rw [← hR2, e3, List.append_nil, List.drop_append_of_le_length (by omega), List.drop_eq_nil_of_le (by omega), List.nil_append, Q4]
     rw [t2, t3, Q4, Q4, List.append_assoc]; rfl
    refine Je ?_
    refine Jb ?_
    refine Ja rfl rfl rfl (Jd (v := .slice p0.1 (n0 + 1) p0.2) rfl) ?_
    refine Ja rfl rfl rfl (Jc (v := .slice p0.1 (n0 + 1) p0.2) rfl) ?_
    refine Jf ?_
    refine Jq ?_
    refine J5 (v := .slice p0.1 (n0 + 1) p0.2) rfl rfl (Wf p0 (i := 0) rfl (by rw [hins, hn0]) (Imp.of (by rw [hins, hch, hn0])))
    ) (by kernel_rfl)
theorem k36 {a : Option Addr} {n c : Nat} (hc : n ≤ c) : Ret Try.prog 36 [.slice a n c] (.slice (Qz a 0 n 6) n n) := by
  refine Zm (n := 9) Try.func36 rfl rfl rfl (fun wd => ?_)
  refine Je ?_
  refine Jb ?_
  refine Ja rfl rfl rfl (Jc (v := .slice none 0 0) rfl) ?_
  refine Jf ?_
  refine Je ?_
  refine Jb ?_
  refine Ja rfl rfl rfl (Jd (v := .slice a n c) rfl) ?_
  refine Ja rfl rfl rfl (Jd (v := .slice a n c) rfl) ?_
  refine Ja rfl rfl rfl (r_len Try.underlying27 rfl) ?_
  refine Ja rfl rfl rfl (Jd (v := .slice a n c) rfl) ?_
  refine Ja rfl rfl rfl (r_len Try.underlying27 rfl) ?_
  refine Ja rfl rfl rfl (r_sliceHM (a := a) (m := n) (c := c) (h := (n : Int)) (q := (n : Int)) Try.underlying27 Try.sizeOf70 rfl rfl rfl (Int.natCast_nonneg n) (Int.le_refl _) (Int.ofNat_le.2 hc)) ?_
  refine Ja rfl rfl rfl (Jc (v := .slice (Qz a 0 n 6) n n) rfl) ?_
  refine Jf ?_
  refine Jq ?_
  exact J5 (v := .slice (Qz a 0 n 6) n n) rfl rfl (fin rfl)
theorem k28_it (mm : Nat) : ∀ {a0 : (List T_tag_Entry)} {v0 : Value} {a1 : (List Int)} {v1 : Value} {r : (List (List Int))} {w : World} {h : Jx} (hw : Know h w X3) (f0 : FrN h 6 v0 g_tag_Entry a0) (f1 : FrS h 1 v1 (a1.map J3)) (H : it (fun (self : ((List T_tag_Entry) × (List Int)) → Option ((List (List Int)))) (s : (List T_tag_Entry) × (List Int)) => Vw self s.1 s.2) mm (a0, a1) = some r), Does Try.prog 28 (List.toArray [v0, v1]) w (fun v w' => ∃ x : (Option Addr × Nat), v = (.slice x.1 r.length x.2) ∧ Turn w w' X3 (rowD 25 1 gs_int (.slice x.1 r.length x.2) r.length r)) := by
 induction mm with
 | zero => intros; rename_i H; exact absurd H (by simp [it])
 | succ mm ih =>
  intro a0 v0 a1 v1 r w h hw f0 f1 H
  replace H : Vw (it (fun (self : ((List T_tag_Entry) × (List Int)) → Option ((List (List Int)))) (s : (List T_tag_Entry) × (List Int)) => Vw self s.1 s.2) mm) a0 a1 = some r := H
  generalize it (fun (self : ((List T_tag_Entry) × (List Int)) → Option ((List (List Int)))) (s : (List T_tag_Entry) × (List Int)) => Vw self s.1 s.2) mm = self at H ih
  refine enter (n := 34) Try.func28 rfl rfl rfl X3 [] (Sat.nil _ _) ?_
  refine We U0 ?_
  refine Je ?_
  refine Jb ?_
  refine Ja rfl rfl rfl (Jc (v := .slice none 0 0) rfl) ?_
  refine Jf ?_
  refine Je ?_
  refine Jb ?_
  refine Ja rfl rfl rfl (Jc (v := .slice none 0 0) rfl) ?_
  refine Jf ?_
  refine Je ?_
  refine Je ?_
  refine Jb ?_
  refine Ja rfl rfl rfl (Jd (v := v0) rfl) ?_
  refine Ja rfl rfl rfl (Q7 Try.underlying27 rfl f0) ?_
  refine Ja rfl rfl rfl (Jd (v := .int .i64 0) rfl) ?_
  refine Jf ?_
  refine J6 ?_
  refine U2 25 1 ?_
  refine Z7 (σ := Int × (List (List Int))) (τ := Jx × (List (List Value)) × (Option Addr × Nat)) (fun next1 s => Zy a0 a1 self next1 s.1 s.2) (fun s t => [(1, v1), (5, .slice t.2.2.1 t.2.1.length t.2.2.2), (9, v0), (10, .int .i64 (a0.length : Int)), (11, .int .i64 s.1)]) (fun s t => [X9 U0 t.1, Xa 25 1 (.slice t.2.2.1 t.2.1.length t.2.2.2) t.2.1.length (t.2.1.map idC)]) (fun s t => AllC gs_int t.1 1 t.2.1 s.2) (0, ([] : List (List Int))) (U0, ([] : List (List Value)), ((none, 0) : Option Addr × Nat)) [0, 1] H (by exact (AllC.nil (G := gs_int) (h := U0) (sz := 1))) (by exact ⟨rfl, rfl, rfl, rfl, rfl, trivial⟩) (by decide) rfl ?_
  rintro ⟨x11_2, l_2⟩ ⟨hp, css, p⟩ m1 gg H11 pf_2
  clear H
  replace H11 : Zy a0 a1 self (it (fun next1 s => Zy a0 a1 self next1 s.1 s.2) m1) x11_2 l_2 = some r := H11
  generalize hn1 : it (fun next1 s => Zy a0 a1 self next1 s.1 s.2) m1 = next1 at H11
  try dsimp only
  refine Je ?_
  refine Jb ?_
  refine Ja rfl rfl rfl (Xs rfl rfl) ?_
  refine Jf ?_
  refine Je ?_
  refine J4 (b := (decide (x11_2 < (a0.length : Int)))) rfl (fun hb => ?_) (fun hb => ?_)
  ·have H12 := Jo hb H11; clear H11
   refine Js ?_
   refine Je ?_
   refine J6 ?_
   refine Je ?_
   refine Jb ?_
   obtain ⟨t13, h_t13, H13⟩ := Ji H12; clear H12
   refine Ja rfl rfl rfl (Qe Try.underlying27 Try.sizeOf70 rfl rfl f0.frs (f0.ix h_t13)) ?_
   refine Qu (fun w hF hS => Xr (f := (Wu h v0 6)) (i := x11_2) (sz := 6) (j := 0) (vs := [.int .i64 t13.Tag, .int .i64 t13.Value.Kind, str t13.Value.Text, (Qb h v0 6 (Int.toNat x11_2) 3), (Qb h v0 6 (Int.toNat x11_2) 4), (Qb h v0 6 (Int.toNat x11_2) 5)]) Try.isAgg70 Try.sizeOf70 rfl rfl (f0.frs.row (hw.now hF)) (f0.ix h_t13) (rd_of (Q1 (f0.at h_t13)) rfl)) rfl rfl rfl ?_
   refine Ye (cs := [.int .i64 0, .int .i64 0, str [], .slice none 0 0, .slice none 0 0, .slice none 0 0]) Try.zeroValue70 rfl rfl rfl (fun b3 => ?_)
   refine Qi (i := 2) (vs := [.int .i64 t13.Tag, .int .i64 t13.Value.Kind, str t13.Value.Text, (Qb h v0 6 (Int.toNat x11_2) 3), (Qb h v0 6 (Int.toNat x11_2) 4), (Qb h v0 6 (Int.toNat x11_2) 5)]) (cs' := [.int .i64 t13.Tag, .int .i64 t13.Value.Kind, str t13.Value.Text, (Qb h v0 6 (Int.toNat x11_2) 3), (Qb h v0 6 (Int.toNat x11_2) 4), (Qb h v0 6 (Int.toNat x11_2) 5)]) Try.sizeOf70 rfl rfl rfl rfl rfl rfl (by simp only [List.all_cons, List.all_nil, (show FrN h 6 (Qb h v0 6 (Int.toNat x11_2) 5) g_tag_Entry t13.Value.Entries from (J2 (Jm (f0.at h_t13)))).one, (show FrS h 1 (Qb h v0 6 (Int.toNat x11_2) 3) (t13.Value.Ints.map J3) from (J9 (Jm (f0.at h_t13)))).one, (show FrS h 2 (Qb h v0 6 (Int.toNat x11_2) 4) (t13.Value.Ratios.map Jn) from (J8 (Jm (f0.at h_t13)))).one] <;> rfl) rfl rfl ?_
   refine Jf ?_
   try dsimp only [z1, z2, z5, z6, z7, z8]
   refine Je ?_
   exact Qp (Kd.p :: Kd.t 3 [0] _ _ :: Kd.p :: Kd.d [2] _ :: Kd.ns 4 [_] 3 1 :: Kd.t 3 [4] _ _ :: Kd.p :: []) 2 mixed (by
    refine Jj rfl rfl (Jd (v := v1) rfl) ?_
    have h_t16 := Qt H13
    have H14 := Ql H13
    refine d_make (Cv := fun v => Xa 3 1 v (val (Jk a1)).length ((val (Jk a1)).map J3)) (none, 0) (Q9 (G := fun x : (Option Addr × Nat) => .slice x.1 (val (Jk a1)).length x.2) (C := fun x : (Option Addr × Nat) => Xa 3 1 (.slice x.1 (val (Jk a1)).length x.2) (val (Jk a1)).length ((val (Jk a1)).map J3)) (fun w L' hF hS hi => k26 (Jy w) (f1.mono (hw.now hF)) h_t16) Try.call26 rfl) (fun _ => rfl) rfl rfl rfl (fun p_2 => ?_)
    refine Jj rfl rfl (Jl Try.runUnderlying70 rfl Try.sizeOf3 rfl rfl) ?_
    refine Qx (i := 2) (v := .int .i64 t13.Tag) Try.isAgg3 rfl rfl rfl rfl ?_
    refine d_newS rfl rfl (Wb (vs := [.int .i64 t13.Tag]) (cs := [.int .i64 t13.Tag]) Try.underlying25 Try.sizeOf3 Try.zeroValue3 rfl rfl rfl rfl rfl) rfl (fun b4 => ?_)
    have h_l20 := Qt H14
    have H15 := Ql H14
    refine d_turn (Cv := fun v => Xa 3 1 v (val (Vj 8 (val (Jk a1)) ([t13.Tag] : List Int))).length ((val (Vj 8 (val (Jk a1)) ([t13.Tag] : List Int))).map J3)) (none, 0) (turns_appG (i := 3) (hn := rfl) (rds := [4]) (p := p_2) (sz := 1) (by_ := 8) (f := J3) (ys := (val (Jk a1))) (ls := ([t13.Tag] : List Int)) (V := .slice (some ⟨b4, 0, none⟩) 1 1) Try.underlying25 (Zk Try.typeInfo3) rfl rfl rfl rfl rfl rfl rfl rfl rfl rfl (fun w L' hF hS hi => row_box (i := 4) hS ((hi 4 (by simp)).trans rfl) rfl rfl) (fun _ => rfl) (fun _ => rfl) h_l20) (fun _ => rfl) rfl rfl (fun p_3 => ?_)
    refine Jj rfl rfl (Jc (v := .slice p_3.1 (val (Vj 8 (val (Jk a1)) ([t13.Tag] : List Int))).length p_3.2) rfl) ?_
    refine Xm ?_
    try dsimp only [z1, z2, z5, z6, z7, z8]
    refine Je ?_
    refine Jb ?_
    refine Ja rfl rfl rfl (Jd (v := .slice p.1 css.length p.2) rfl) ?_
    refine Ja rfl rfl rfl (Jd (v := .slice p_3.1 (val (Vj 8 (val (Jk a1)) ([t13.Tag] : List Int))).length p_3.2) rfl) ?_
    refine Wm (vs := [.slice p_3.1 (val (Vj 8 (val (Jk a1)) ([t13.Tag] : List Int))).length p_3.2]) (cs := [.slice p_3.1 (val (Vj 8 (val (Jk a1)) ([t13.Tag] : List Int))).length p_3.2]) Try.underlying32 Try.sizeOf25 Try.zeroValue25 rfl rfl rfl rfl rfl rfl rfl (fun b5 => ?_)
    try dsimp only [z1, z2, z5, z6, z7, z8]
    refine Ws (Φ := fun H_ => FrS H_ 1 (.slice p_3.1 (val (Vj 8 (val (Jk a1)) ([t13.Tag] : List Int))).length p_3.2) ((val (Vj 8 (val (Jk a1)) ([t13.Tag] : List Int))).map J3)) 0 3 rfl rfl (by decide) (fun _ _ => Y7) (fz_own _) (fun hp_2 hle hf => ?_)
    obtain ⟨l24, h_l24, H16⟩ := Ji H15; clear H15
    refine Zg (turns_appendM (i := 1) (k := 5) (p := p) (f := idC) (ys := css) (ls := [[.slice p_3.1 (val (Vj 8 (val (Jk a1)) ([t13.Tag] : List Int))).length p_3.2]]) Try.underlying32 (Zk Try.typeInfo25) rfl rfl rfl rfl rfl rfl rfl rfl rfl rfl rfl rfl rfl rfl (by simp only [idC, List.map_cons, List.map_nil, List.all_cons, List.all_nil, hf.one] <;> rfl) (app63 ((pf_2.mono hle).app h_l24 (nc := [[.slice p_3.1 (val (Vj 8 (val (Jk a1)) ([t13.Tag] : List Int))).length p_3.2]]) rfl)) rfl) rfl rfl rfl (fun p_4 => ?_)
    have pf_3 : AllC gs_int hp_2 1 (css ++ [[Value.slice p_3.1 (val (Vj 8 (val (Jk a1)) ([t13.Tag] : List Int))).length p_3.2]]) l24 := AllC.snocG (pf_2.mono hle) h_l24 rfl (hf)
    refine Ja rfl rfl rfl (Jc (v := .slice p_4.1 ((css ++ [[Value.slice p_3.1 (val (Vj 8 (val (Jk a1)) ([t13.Tag] : List Int))).length p_3.2]]).length) p_4.2) rfl) ?_
    refine Jf ?_
    try dsimp only [z1, z2, z5, z6, z7, z8]
    refine Jb ?_
    refine Ja rfl rfl rfl (Jd (v := .slice p_4.1 ((css ++ [[Value.slice p_3.1 (val (Vj 8 (val (Jk a1)) ([t13.Tag] : List Int))).length p_3.2]]).length) p_4.2) rfl) ?_
    refine Ja rfl rfl rfl (Jl Try.runUnderlying70 rfl Try.sizeOf29 rfl rfl) ?_
    refine Ja rfl rfl rfl (Jl Try.runUnderlying29 rfl Try.sizeOf27 rfl rfl) ?_
    refine Jt (i := 2) (v := (Qb h v0 6 (Int.toNat x11_2) 5)) Try.isAgg27 rfl rfl rfl rfl rfl ?_
    refine Ja rfl rfl rfl (Jd (v := (.slice p_3.1 (val (Vj 8 (val (Jk a1)) ([t13.Tag] : List Int))).length p_3.2)) rfl) ?_
    obtain ⟨t30, h_t30, H17⟩ := Ji H16; clear H16
    refine Vh (Q9 (rds := [0]) (G := fun x : (Option Addr × Nat) => .slice x.1 t30.length x.2) (C := fun x : (Option Addr × Nat) => rowD 25 1 gs_int (.slice x.1 t30.length x.2) t30.length t30) (fun w L' hF hS hi => ih (Jy w) ((show FrN h 6 (Qb h v0 6 (Int.toNat x11_2) 5) g_tag_Entry t13.Value.Entries from (J2 (Jm (f0.at h_t13)))).mono (hw.now hF)) (hf.mono (Xe (i := 0) hS ((hi 0 (by simp)).trans rfl) Y7)) h_t30) Try.call28 rfl) rfl rfl rfl (fun p_5 => ?_)
    refine c_rowD 6 rfl (fun hp_3 css_2 hn pf_4 => ?_)
    rw [hn]
    refine U5 6 rfl ?_
    refine Vk 0 6 rfl rfl (by decide) (fun _ _ => Y7) (fun hp_4 hle_2 hle_3 => ?_)
    obtain ⟨l31, h_l31, H18⟩ := Ji H17; clear H17
    refine Zg (turns_appGm (i := 1) (hn := rfl) (rds := [7]) (p := p_4) (sz := 1) (by_ := 24) (f := idC) (ys := (css ++ [[Value.slice p_3.1 (val (Vj 8 (val (Jk a1)) ([t13.Tag] : List Int))).length p_3.2]])) (ls := css_2) (V := .slice p_5.1 css_2.length p_5.2) Try.underlying32 (Zk Try.typeInfo25) rfl rfl rfl rfl rfl rfl rfl rfl rfl rfl (fun w L' hF hS hi => rowOf (i := 7) hS ((hi 7 (by simp)).trans rfl)) (pf_4.mono hle_3).lens (AllC.one1 (fun f_ => FrS.one f_) (pf_4.mono hle_3)) ((pf_3.mono hle_2).app h_l31 (pf_4.mono hle_3).len)) rfl rfl rfl (fun p_6 => ?_)
    have pf_5 : AllC gs_int hp_4 1 ((css ++ [[Value.slice p_3.1 (val (Vj 8 (val (Jk a1)) ([t13.Tag] : List Int))).length p_3.2]]) ++ css_2) l31 := by rw [(Vu h_l31).1]; exact AllC.append (pf_3.mono hle_2) (pf_4.mono hle_3)
    refine Ja rfl rfl rfl (Jc (v := .slice p_6.1 (((css ++ [[Value.slice p_3.1 (val (Vj 8 (val (Jk a1)) ([t13.Tag] : List Int))).length p_3.2]]) ++ css_2).length) p_6.2) rfl) ?_
    refine Jf ?_
    try dsimp only [z1, z2, z5, z6, z7, z8]
    refine Jb ?_
    obtain ⟨t32, h_t32, H19⟩ := Ji H18; clear H18
    refine Ja rfl rfl rfl (Qv rfl rfl h_t32) ?_
    refine Ja rfl rfl rfl (Jd (v := .int .i64 t32) rfl) ?_
    refine Jf ?_
    try dsimp only [z1, z2, z5, z6, z7, z8]
    refine Jr (t32, l31) (hp_4, ((css ++ [[Value.slice p_3.1 (val (Vj 8 (val (Jk a1)) ([t13.Tag] : List Int))).length p_3.2]]) ++ css_2), p_6) m1 [0, 1] (by exact ⟨rfl, rfl, rfl, rfl, rfl, trivial⟩) (by decide) (by kernel_rfl) (by exact ⟨(by subst hn1; exact H19), pf_5⟩) (Nat.lt_succ_self _)
    ) (by kernel_rfl)
  ·have H20 := Jp hb H11; clear H11
   refine X7 ?_
   refine Je ?_
   refine Jb ?_
   refine Ja rfl rfl rfl (Jd (v := .slice p.1 css.length p.2) rfl) ?_
   refine Ja rfl rfl rfl (Jc (v := .slice p.1 css.length p.2) rfl) ?_
   refine Jf ?_
   refine Jq ?_
   obtain rfl := Option.some.inj H20
   refine Wy 0 1 rfl rfl (by decide) ?_
   refine Xq 0 rfl (imp_rowD (p := p) rfl pf_2) ?_
   refine J5 (v := .slice p.1 css.length p.2) rfl rfl (Wf p (i := 0) rfl (by first | rfl | rw [(show css.length = l_2.length from pf_2.len)]) (by first | exact Imp.refl _ | exact Imp.of (by rw [(show css.length = l_2.length from pf_2.len)] <;> rfl)))
theorem k28 {a0 : (List T_tag_Entry)} {v0 : Value} {a1 : (List Int)} {v1 : Value} {r : (List (List Int))} {w : World} {h : Jx} (hw : Know h w X3) (f0 : FrN h 6 v0 g_tag_Entry a0) (f1 : FrS h 1 v1 (a1.map J3)) (H : R_below a0 a1 = some r) : Does Try.prog 28 (List.toArray [v0, v1]) w (fun v w' => ∃ x : (Option Addr × Nat), v = (.slice x.1 r.length x.2) ∧ Turn w w' X3 (rowD 25 1 gs_int (.slice x.1 r.length x.2) r.length r)) := by
 obtain ⟨mm, hm⟩ := fix_it (show V6 (fun (self : ((List T_tag_Entry) × (List Int)) → Option ((List (List Int)))) (s : (List T_tag_Entry) × (List Int)) => Vw self s.1 s.2) (a0, a1) = some r from H)
 exact k28_it mm hw f0 f1 hm
theorem k7 {a0 : T_tag_File} {v0_1 : Value} {r : (List (List Int))} {w : World} {h : Jx} (hw : Know h w X3) (f0_1 : FrN h 1 v0_1 gs_tag_Entry a0.Dirs) (H : R_PathsOf a0 = some r) : Does Try.prog 7 (List.toArray [.agg #[.bool a0.Big, v0_1]]) w (fun v w' => ∃ x : (Option Addr × Nat), v = (.slice x.1 r.length x.2) ∧ Turn w w' X3 (rowD 25 1 gs_int (.slice x.1 r.length x.2) r.length r)) := by
 refine enter (n := 22) Try.func7 rfl rfl rfl X3 [] (Sat.nil _ _) ?_
 refine We U0 ?_
 refine Je ?_
 refine Jb ?_
 refine Yv (cs := [.bool a0.Big, v0_1]) rfl rfl rfl rfl (fun b2 => ?_)
 refine Ja rfl rfl rfl (Jc (v := .slice none 0 0) rfl) ?_
 refine Jf ?_
 refine Je ?_
 refine Jb ?_
 refine Ja rfl rfl rfl (Jc (v := .slice none 0 0) rfl) ?_
 refine Jf ?_
 refine Je ?_
 refine Je ?_
 refine Jb ?_
 refine Ja rfl rfl rfl (Jl Try.runUnderlying24 rfl Try.sizeOf22 rfl rfl) ?_
 refine Jt (i := 1) (v := v0_1) Try.isAgg22 rfl rfl rfl rfl rfl ?_
 refine Ja rfl rfl rfl (Q7 Try.underlying22 rfl f0_1) ?_
 refine Ja rfl rfl rfl (Jd (v := .int .i64 0) rfl) ?_
 refine Jf ?_
 refine J6 ?_
 refine c_dr 1 ?_
 try dsimp only [z1, z2, z3, z4, z5, z6, z7, z8]
 refine U2 25 1 ?_
 refine Z7 (σ := Int × (List (List Int))) (τ := Jx × (List (List Value)) × (Option Addr × Nat)) (fun next1 s => Zl a0 next1 s.1 s.2) (fun s t => [(3, .slice t.2.2.1 t.2.1.length t.2.2.2), (7, v0_1), (8, .int .i64 (a0.Dirs.length : Int)), (9, .int .i64 s.1)]) (fun s t => [X9 U0 t.1, Xa 25 1 (.slice t.2.2.1 t.2.1.length t.2.2.2) t.2.1.length (t.2.1.map idC)]) (fun s t => AllC gs_int t.1 1 t.2.1 s.2) (0, ([] : List (List Int))) (U0, ([] : List (List Value)), ((none, 0) : Option Addr × Nat)) [0, 1] H (by exact (AllC.nil (G := gs_int) (h := U0) (sz := 1))) (by exact ⟨rfl, rfl, rfl, rfl, trivial⟩) (by decide) rfl ?_
 rintro ⟨x9_2, l_2⟩ ⟨hp, css, p⟩ m1 gg H8 pf_2
 clear H
 replace H8 : Zl a0 (it (fun next1 s => Zl a0 next1 s.1 s.2) m1) x9_2 l_2 = some r := H8
 generalize hn1 : it (fun next1 s => Zl a0 next1 s.1 s.2) m1 = next1 at H8
 try dsimp only
 refine Je ?_
 refine Jb ?_
 refine Ja rfl rfl rfl (Xs rfl rfl) ?_
 refine Jf ?_
 refine Je ?_
 refine J4 (b := (decide (x9_2 < (a0.Dirs.length : Int)))) rfl (fun hb => ?_) (fun hb => ?_)
 ·have H9 := Jo hb H8; clear H8
  refine Js ?_
  refine Je ?_
  refine J6 ?_
  refine Je ?_
  refine Jb ?_
  refine Ja rfl rfl rfl (Jd (v := .int .i64 x9_2) rfl) ?_
  obtain ⟨t12, h_t12, H10⟩ := Ji H9; clear H9
  refine Ja rfl rfl rfl (Qe Try.underlying22 Try.sizeOf27 rfl rfl f0_1.frs (f0_1.ix h_t12)) ?_
  refine Qu (fun w hF hS => Qa (f := (Wu h v0_1 1)) (i := x9_2) (sz := 1) (j := 0) (v := (Qb h v0_1 1 (Int.toNat x9_2) 0)) Try.isAgg27 rfl rfl (f0_1.frs.row (hw.now hF)) (f0_1.ix h_t12) (Ur (X8 (f0_1.at h_t12)) rfl)) rfl rfl rfl ?_
  refine Ja rfl rfl rfl (Jc (v := .int .i64 x9_2) rfl) ?_
  refine Ja rfl rfl rfl (Jc (v := (Qb h v0_1 1 (Int.toNat x9_2) 0)) rfl) ?_
  refine Jf ?_
  refine Jb ?_
  refine Ja rfl rfl rfl (Jd (v := .slice p.1 css.length p.2) rfl) ?_
  refine Ja rfl rfl rfl (Jd (v := (Qb h v0_1 1 (Int.toNat x9_2) 0)) rfl) ?_
  refine Ja rfl rfl rfl (Jd (v := .int .i64 x9_2) rfl) ?_
  refine Wm (vs := [.int .i64 x9_2]) (cs := [.int .i64 x9_2]) Try.underlying25 Try.sizeOf3 Try.zeroValue3 rfl rfl rfl rfl rfl rfl rfl (fun b3 => ?_)
  obtain ⟨t18, h_t18, H11⟩ := Ji H10; clear H10
  refine Vh (Q9 (rds := [2]) (G := fun x : (Option Addr × Nat) => .slice x.1 t18.length x.2) (C := fun x : (Option Addr × Nat) => rowD 25 1 gs_int (.slice x.1 t18.length x.2) t18.length t18) (fun w L' hF hS hi => k28 (Jy w) ((show FrN h 6 (Qb h v0_1 1 (Int.toNat x9_2) 0) g_tag_Entry t12 from (f0_1.at h_t12)).mono (hw.now hF)) (frs_box (i := 2) (xs := ([x9_2] : List Int)) (f := J3) hS ((hi 2 (by simp)).trans rfl) rfl rfl rfl rfl) h_t18) Try.call28 rfl) rfl rfl rfl (fun p_2 => ?_)
  refine c_rowD 3 rfl (fun hp_2 css_2 hn pf_3 => ?_)
  rw [hn]
  refine U5 3 rfl ?_
  refine Vk 0 3 rfl rfl (by decide) (fun _ _ => Y7) (fun hp_3 hle hle_2 => ?_)
  obtain ⟨l19, h_l19, H12⟩ := Ji H11; clear H11
  refine Zg (turns_appGm (i := 1) (hn := rfl) (rds := [4]) (p := p) (sz := 1) (by_ := 24) (f := idC) (ys := css) (ls := css_2) (V := .slice p_2.1 css_2.length p_2.2) Try.underlying32 (Zk Try.typeInfo25) rfl rfl rfl rfl rfl rfl rfl rfl rfl rfl (fun w L' hF hS hi => rowOf (i := 4) hS ((hi 4 (by simp)).trans rfl)) (pf_3.mono hle_2).lens (AllC.one1 (fun f_ => FrS.one f_) (pf_3.mono hle_2)) ((pf_2.mono hle).app h_l19 (pf_3.mono hle_2).len)) rfl rfl rfl (fun p_3 => ?_)
  have pf_4 : AllC gs_int hp_3 1 (css ++ css_2) l19 := by rw [(Vu h_l19).1]; exact AllC.append (pf_2.mono hle) (pf_3.mono hle_2)
  refine Ja rfl rfl rfl (Jc (v := .slice p_3.1 ((css ++ css_2).length) p_3.2) rfl) ?_
  refine Jf ?_
  try dsimp only [z1, z2, z5, z6, z7, z8]
  refine Jb ?_
  obtain ⟨t20, h_t20, H13⟩ := Ji H12; clear H12
  refine Ja rfl rfl rfl (Qv rfl rfl h_t20) ?_
  refine Ja rfl rfl rfl (Jd (v := .int .i64 t20) rfl) ?_
  refine Jf ?_
  try dsimp only [z1, z2, z5, z6, z7, z8]
  refine Jr (t20, l19) (hp_3, (css ++ css_2), p_3) m1 [0, 1] (by exact ⟨rfl, rfl, rfl, rfl, trivial⟩) (by decide) (by kernel_rfl) (by exact ⟨(by subst hn1; exact H13), pf_4⟩) (Nat.lt_succ_self _)
 ·have H14 := Jp hb H8; clear H8
  refine X7 ?_
  refine Je ?_
  refine Jb ?_
  refine Ja rfl rfl rfl (Jd (v := .slice p.1 css.length p.2) rfl) ?_
  refine Ja rfl rfl rfl (Jc (v := .slice p.1 css.length p.2) rfl) ?_
  refine Jf ?_
  refine Jq ?_
  obtain rfl := Option.some.inj H14
  refine Wy 0 1 rfl rfl (by decide) ?_
  refine Xq 0 rfl (imp_rowD (p := p) rfl pf_2) ?_
  refine J5 (v := .slice p.1 css.length p.2) rfl rfl (Wf p (i := 0) rfl (by first | rfl | rw [(show css.length = l_2.length from pf_2.len)]) (by first | exact Imp.refl _ | exact Imp.of (by rw [(show css.length = l_2.length from pf_2.len)] <;> rfl)))
end Go.Proofs.Ytpljknglodhcnaa

/- Directories of one's own, in a heap, with the blocks that they take. Conditions: those that each rule names. -/
namespace Go.Proofs.Ytpljknglodhcnaa
open Go Go.Vc Go.Md Go.M Go.Lx
set_option linter.unusedVariables false
def TreeE (R : Jx → Value → List T_tag_Entry → List Nat → Prop) (h : Jx) (c : List Value) (x : T_tag_Entry) (bs : List Nat) : Prop :=
  ∃ (v3 v4 v5 : Value) (b5 : List Nat), c = [.int .i64 x.Tag, .int .i64 x.Value.Kind, str x.Value.Text, v3, v4, v5] ∧ FrS h 1 v3 (x.Value.Ints.map J3) ∧ FrS h 2 v4 (x.Value.Ratios.map Jn) ∧ R h v5 x.Value.Entries b5 ∧ bs = roB v3 x.Value.Ints.length ++ (roB v4 x.Value.Ratios.length ++ b5)
abbrev KidsL (R : Jx → Value → List T_tag_Entry → List Nat → Prop) (h : Jx) (css : List (List Value)) (xs : List T_tag_Entry) (bs : List Nat) : Prop := KidsG (TreeE R) h css xs bs
def TreeL : Nat → Jx → Value → List T_tag_Entry → List Nat → Prop
  | 0, _, v, xs, bs => v = .slice none 0 0 ∧ xs = [] ∧ bs = []
  | d + 1, h, v, xs, bs => ∃ (css : List (List Value)) (b2 : List Nat), RowP h 70 6 v css ∧ KidsL (TreeL d) h css xs b2 ∧ bs = v.ownBlock.toList ++ b2
theorem TreeE.agree {R : Jx → Value → List T_tag_Entry → List Nat → Prop} {h h' : Jx} {c : List Value} {x : T_tag_Entry} {bs : List Nat} (hR : ∀ v xs b, R h v xs b → (∀ q ∈ b, ∀ o, h q = some o → h' q = some o) → R h' v xs b) (e : TreeE R h c x bs) (k : ∀ q ∈ bs, ∀ o, h q = some o → h' q = some o) : TreeE R h' c x bs := by
  obtain ⟨v3, v4, v5, b5, e1, e2, e3, e4, rfl⟩ := e
  exact ⟨v3, v4, v5, b5, e1, e2.agree (by rw [List.length_map]; exact fun q hq => k q (by simp [hq])), e3.agree (by rw [List.length_map]; exact fun q hq => k q (by simp [hq])), hR _ _ _ e4 (fun q hq => k q (by simp [hq])), rfl⟩
theorem TreeL.agree : ∀ {d : Nat} {h h' : Jx} {v : Value} {xs : List T_tag_Entry} {bs : List Nat}, TreeL d h v xs bs → (∀ q ∈ bs, ∀ o, h q = some o → h' q = some o) → TreeL d h' v xs bs := by
  intro d
  induction d with
  | zero => intro h h' v xs bs t _; exact t
  | succ d ih =>
    rintro h h' v xs bs ⟨css, b2, r, k, rfl⟩ q
    exact ⟨css, b2, r.mono fun b hb => q b (by simp [hb]), k.agree (fun c x b t k => t.agree (fun v xs b t k => ih t k) k) fun y hy => q y (List.mem_append_right _ hy), rfl⟩
theorem TreeL.mono {d : Nat} {h h' : Jx} {v : Value} {xs : List T_tag_Entry} {bs : List Nat} (t : TreeL d h v xs bs) (k : ∀ b o, h b = some o → h' b = some o) : TreeL d h' v xs bs := t.agree fun q _ => k q
theorem TreeE.mono {d : Nat} {h h' : Jx} {c : List Value} {x : T_tag_Entry} {bs : List Nat} (t : TreeE (TreeL d) h c x bs) (k : ∀ b o, h b = some o → h' b = some o) : TreeE (TreeL d) h' c x bs := t.agree (fun v xs b t k => t.agree k) fun q _ => k q
theorem kidsL_mono {d : Nat} {h h' : Jx} {css : List (List Value)} {xs : List T_tag_Entry} {bs : List Nat} (t : KidsL (TreeL d) h css xs bs) (k : ∀ b o, h b = some o → h' b = some o) : KidsL (TreeL d) h' css xs bs := t.agree (fun c x b t k => t.agree (fun v xs b t k => t.agree k) k) fun q _ => k q
theorem TreeL.frn : ∀ {d : Nat} {h : Jx} {v : Value} {xs : List T_tag_Entry} {bs : List Nat}, TreeL d h v xs bs → FrN h 6 v g_tag_Entry xs := by
  intro d
  induction d with
  | zero =>
    rintro h v xs bs ⟨rfl, rfl, _⟩
    exact ⟨FrS.nil _ _, fun i x hx => by cases hx⟩
  | succ d ih =>
    rintro h v xs bs ⟨css, b2, r, k, rfl⟩
    have hid : css.map idC = css := by unfold idC; simp
    refine frn_of (by rw [hid]; exact r.frs) ?_
    refine k.allC fun c x b t => ?_
    obtain ⟨v3, v4, v5, b5, e1, e2, e3, e4, _⟩ := t
    subst e1
    have f := ih e4
    exact ⟨rfl, .mk rfl rfl rfl e2 e3 f.frs f.el⟩
abbrev treeC (d : Nat) (v : Value) (xs : List T_tag_Entry) : Chunk := ownC fun h bs => TreeL d h v xs bs
abbrev kidsC (d : Nat) (css : List (List Value)) (xs : List T_tag_Entry) : Chunk := ownC fun h bs => KidsL (TreeL d) h css xs bs
theorem imp_kid {d : Nat} {v3 v4 v5 : Value} {x : T_tag_Entry} :
    Imp (Xx (roV 1 v3 x.Value.Ints.length (x.Value.Ints.map J3)) (Xx (roV 2 v4 x.Value.Ratios.length (x.Value.Ratios.map Jn)) (treeC d v5 x.Value.Entries)))
      (ownC fun h bs => TreeE (TreeL d) h [.int .i64 x.Tag, .int .i64 x.Value.Kind, str x.Value.Text, v3, v4, v5] x bs) := by
  have i1 := imp_bothM (imp_roOwn (sz := 2) (n := x.Value.Ratios.length) (v := v4) (xs := x.Value.Ratios.map Jn)) (Imp.refl (treeC d v5 x.Value.Entries))
  have i2 := imp_trans i1 (own_both (Χ := fun h bs => ∃ b5, FrS h 2 v4 (x.Value.Ratios.map Jn) ∧ TreeL d h v5 x.Value.Entries b5 ∧ bs = roB v4 x.Value.Ratios.length ++ b5) (fun h h' bs k t => ⟨t.1.mono k, t.2⟩) (fun h h' bs k t => t.mono k) fun h b1 b2 t1 t2 => ⟨b2, t1.1, t2, by rw [t1.2, List.length_map]⟩)
  have i3 := imp_bothM (imp_roOwn (sz := 1) (n := x.Value.Ints.length) (v := v3) (xs := x.Value.Ints.map J3)) i2
  exact imp_trans i3 (own_both (fun h h' bs k t => ⟨t.1.mono k, t.2⟩) (fun h h' bs k ⟨b5, t1, t2, t3⟩ => ⟨b5, t1.mono k, t2.mono k, t3⟩) fun h b1 b2 t1 ⟨b5, t2, t3, t4⟩ => ⟨v3, v4, v5, b5, rfl, t1.1, t2, t3, by rw [t1.2, t4, List.length_map]⟩)
theorem imp_kids {d : Nat} {css : List (List Value)} {xs : List T_tag_Entry} {c : List Value} {x : T_tag_Entry} : Imp (Xx (kidsC d css xs) (ownC fun h bs => TreeE (TreeL d) h c x bs)) (kidsC d (css ++ [c]) (xs ++ [x])) :=
  own_both (fun h h' bs k t => kidsL_mono t k) (fun h h' bs k t => t.mono k) fun h b1 b2 t1 t2 => t1.snoc t2
theorem imp_tree {d n : Nat} {v : Value} {css : List (List Value)} {xs : List T_tag_Entry} : Imp (Xx (Xa 70 6 v n css) (kidsC d css xs)) (treeC (d + 1) v xs) :=
  imp_trans (imp_bothM imp_rowOwn (Imp.refl _)) (own_both (fun h h' bs k t => ⟨t.1.mono fun b _ => k b, t.2⟩) (fun h h' bs k t => kidsL_mono t k) fun h b1 b2 t1 t2 => ⟨css, b2, t1.1, t2, by rw [t1.2.2]⟩)
theorem imp_tree0 {d : Nat} : Imp empC (treeC (d + 1) (.slice none 0 0) []) := imp_emptyOwn ⟨[], [], ⟨by simp, .inl ⟨rfl, rfl⟩⟩, rfl, rfl⟩
theorem imp_kids0 {d : Nat} : Imp empC (kidsC d [] []) := imp_emptyOwn rfl
end Go.Proofs.Ytpljknglodhcnaa

/- What copies entries makes new ones of its own. Conditions: sizes. -/
namespace Go.Proofs.Ytpljknglodhcnaa
open Go Go.Vc Go.Md Go.M Go.Lx
set_option maxRecDepth 100000
set_option maxHeartbeats 4000000
set_option linter.unusedVariables false
def EntsC (d : Nat) : Prop := ∀ {xs : List T_tag_Entry} {v0 : Value} {w : World} {h : Jx} (_ : Know h w X3) (_ : FrN h 6 v0 g_tag_Entry xs) (_ : fits d xs),
  Does Try.prog 61 (List.toArray [v0]) w (fun v w' => ∃ x : Option Addr × Nat, v = .slice x.1 xs.length x.2 ∧ Turn w w' X3 (treeC d (.slice x.1 xs.length x.2) xs))
theorem clone_ints {l : List Int} (h : l.length ≤ 2000000) : Jk l = some l := by
  unfold Jk
  rw [Um (by simp only [List.length_nil]; omega)]; rfl
theorem clone_rats {l : List T_tag_Ratio} (h : l.length ≤ 2000000) : Wj l = some l := by
  unfold Wj
  rw [Um (by simp only [List.length_nil]; omega)]; rfl
theorem k33_of {d : Nat} (C : EntsC d) {a0 : T_tag_Value} {v0_2 v0_3 v0_4 : Value} {w : World} {h : Jx} (hw : Know h w X3) (f0_2 : FrS h 1 v0_2 (a0.Ints.map J3)) (f0_3 : FrS h 2 v0_3 (a0.Ratios.map Jn)) (f0_4 : FrN h 6 v0_4 g_tag_Entry a0.Entries) (hf : fitV d a0) :
    Does Try.prog 33 (List.toArray [.agg #[.int .i64 a0.Kind, str a0.Text, v0_2, v0_3, v0_4]]) w (fun v w' => ∃ x : (Option Addr × Nat) × (Option Addr × Nat) × (Option Addr × Nat), v = (.agg #[.int .i64 a0.Kind, str a0.Text, .slice x.1.1 a0.Ints.length x.1.2, .slice x.2.1.1 a0.Ratios.length x.2.1.2, .slice x.2.2.1 a0.Entries.length x.2.2.2]) ∧
      Turn w w' X3 (Xx (roV 1 (.slice x.1.1 a0.Ints.length x.1.2) a0.Ints.length (a0.Ints.map J3)) (Xx (roV 2 (.slice x.2.1.1 a0.Ratios.length x.2.1.2) a0.Ratios.length (a0.Ratios.map Jn)) (treeC d (.slice x.2.2.1 a0.Entries.length x.2.2.2) a0.Entries)))) := by
 obtain ⟨z1_, z2_, z3_⟩ := hf
 have h_t5 := clone_ints z1_
 have h_t10 := clone_rats z2_
 refine enter (n := 18) Try.func33 rfl rfl rfl X3 [] (Sat.nil _ _) ?_
 refine We U0 ?_
 refine Je ?_
 refine Jb ?_
 refine Yv (cs := [.int .i64 a0.Kind, str a0.Text, v0_2, v0_3, v0_4]) rfl rfl rfl rfl (fun b4 => ?_)
 refine Ye (cs := [.int .i64 0, str [], .slice none 0 0, .slice none 0 0, .slice none 0 0]) Try.zeroValue29 rfl rfl rfl (fun b5 => ?_)
 refine Jf ?_
 refine Je ?_
 refine Jb ?_
 refine Ja rfl rfl rfl (Jl Try.runUnderlying29 rfl Try.sizeOf25 rfl rfl) ?_
 refine Jt (i := 1) (v := v0_2) Try.isAgg25 rfl rfl rfl rfl rfl ?_
 refine Vh (Q9 (rds := []) (G := fun x : (Option Addr × Nat) => .slice x.1 a0.Ints.length x.2) (C := fun x : (Option Addr × Nat) => Xa 3 1 (.slice x.1 a0.Ints.length x.2) a0.Ints.length (a0.Ints.map J3)) (fun w L' hF hS hi => k26 (Jy w) (f0_2.mono (hw.now hF)) h_t5) Try.call26 rfl) rfl rfl rfl (fun p => ?_)
 refine Qn (fun w hF hS => k25 (capOf (i := 3) hS rfl) w) Try.call25 rfl rfl rfl ?_
 refine Ja rfl rfl rfl (Jl Try.runUnderlying29 rfl Try.sizeOf25 rfl rfl) ?_
 refine Qi (i := 1) (vs := [.slice (Qz p.1 0 a0.Ints.length 1) a0.Ints.length a0.Ints.length]) (cs' := [.int .i64 a0.Kind, str a0.Text, .slice (Qz p.1 0 a0.Ints.length 1) a0.Ints.length a0.Ints.length, v0_3, v0_4]) Try.sizeOf25 rfl rfl rfl rfl rfl rfl rfl rfl rfl ?_
 refine Jf ?_
 refine Je ?_
 refine Jb ?_
 refine Ja rfl rfl rfl (Jl Try.runUnderlying29 rfl Try.sizeOf26 rfl rfl) ?_
 refine Jt (i := 1) (v := v0_3) Try.isAgg26 rfl rfl rfl rfl rfl ?_
 refine Vh (Q9 (rds := []) (G := fun x : (Option Addr × Nat) => .slice x.1 a0.Ratios.length x.2) (C := fun x : (Option Addr × Nat) => Xa 77 2 (.slice x.1 a0.Ratios.length x.2) a0.Ratios.length (a0.Ratios.map Jn)) (fun w L' hF hS hi => k60 (Jy w) (f0_3.mono (hw.now hF)) h_t10) Try.call60 rfl) rfl rfl rfl (fun p_2 => ?_)
 refine Qn (fun w hF hS => k59 (capOf (i := 4) hS rfl) w) Try.call59 rfl rfl rfl ?_
 refine Ja rfl rfl rfl (Jl Try.runUnderlying29 rfl Try.sizeOf26 rfl rfl) ?_
 refine Qi (i := 1) (vs := [.slice (Qz p_2.1 0 a0.Ratios.length 2) a0.Ratios.length a0.Ratios.length]) (cs' := [.int .i64 a0.Kind, str a0.Text, .slice (Qz p.1 0 a0.Ints.length 1) a0.Ints.length a0.Ints.length, .slice (Qz p_2.1 0 a0.Ratios.length 2) a0.Ratios.length a0.Ratios.length, v0_4]) Try.sizeOf26 rfl rfl rfl rfl rfl rfl rfl rfl rfl ?_
 refine Jf ?_
 refine Je ?_
 refine Jb ?_
 refine Ja rfl rfl rfl (Jl Try.runUnderlying29 rfl Try.sizeOf27 rfl rfl) ?_
 refine Jt (i := 1) (v := v0_4) Try.isAgg27 rfl rfl rfl rfl rfl ?_
 refine Vh (Q9 (rds := []) (G := fun x : (Option Addr × Nat) => .slice x.1 a0.Entries.length x.2) (C := fun x : (Option Addr × Nat) => treeC d (.slice x.1 a0.Entries.length x.2) a0.Entries) (fun w L' hF hS hi => C (Jy w) (f0_4.mono (hw.now hF)) z3_) Try.call61 rfl) rfl rfl rfl (fun p_3 => ?_)
 refine Ja rfl rfl rfl (Jl Try.runUnderlying29 rfl Try.sizeOf27 rfl rfl) ?_
 refine Qi (i := 1) (vs := [.slice p_3.1 a0.Entries.length p_3.2]) (cs' := [.int .i64 a0.Kind, str a0.Text, .slice (Qz p.1 0 a0.Ints.length 1) a0.Ints.length a0.Ints.length, .slice (Qz p_2.1 0 a0.Ratios.length 2) a0.Ratios.length a0.Ratios.length, .slice p_3.1 a0.Entries.length p_3.2]) Try.sizeOf27 rfl rfl rfl rfl rfl rfl rfl rfl rfl ?_
 refine Jf ?_
 refine Je ?_
 refine Jb ?_
 refine Qg (i := 1) (vs := [.int .i64 a0.Kind, str a0.Text, .slice (Qz p.1 0 a0.Ints.length 1) a0.Ints.length a0.Ints.length, .slice (Qz p_2.1 0 a0.Ratios.length 2) a0.Ratios.length a0.Ratios.length, .slice p_3.1 a0.Entries.length p_3.2]) Try.isAgg29 Try.sizeOf29 rfl rfl rfl rfl rfl ?_
 refine Qi (i := 2) (vs := [.int .i64 a0.Kind, str a0.Text, .slice (Qz p.1 0 a0.Ints.length 1) a0.Ints.length a0.Ints.length, .slice (Qz p_2.1 0 a0.Ratios.length 2) a0.Ratios.length a0.Ratios.length, .slice p_3.1 a0.Entries.length p_3.2]) (cs' := [.int .i64 a0.Kind, str a0.Text, .slice (Qz p.1 0 a0.Ints.length 1) a0.Ints.length a0.Ints.length, .slice (Qz p_2.1 0 a0.Ratios.length 2) a0.Ratios.length a0.Ratios.length, .slice p_3.1 a0.Entries.length p_3.2]) Try.sizeOf29 rfl rfl rfl rfl rfl rfl rfl rfl rfl ?_
 refine Jf ?_
 refine Jq ?_
 refine c_dr 1 ?_
 refine Xq 2 rfl (imp_clipO _ _ _ _ _ _) ?_
 refine Xq 3 rfl (imp_clipO _ _ _ _ _ _) ?_
 refine Wy 3 4 rfl rfl (by decide) ?_
 refine Wy 2 3 rfl rfl (by decide) ?_
 refine retC (i := 1) (vs := [.int .i64 a0.Kind, str a0.Text, .slice (Qz p.1 0 a0.Ints.length 1) a0.Ints.length a0.Ints.length, .slice (Qz p_2.1 0 a0.Ratios.length 2) a0.Ratios.length a0.Ratios.length, .slice p_3.1 a0.Entries.length p_3.2]) Try.isAgg29 Try.sizeOf29 rfl rfl rfl rfl (Wf ((Qz p.1 0 a0.Ints.length 1, a0.Ints.length), (Qz p_2.1 0 a0.Ratios.length 2, a0.Ratios.length), p_3) (i := 2) rfl rfl (Imp.refl _))
theorem elC_len {h : Jx} {v : Value} {sz i : Nat} : (Wu h v sz i).length = sz := by simp [Wu]
theorem ent_one {h : Jx} {c : Nat → Value} {x : T_tag_Entry} (f : g_tag_Entry h c x) : ∀ j, j < 6 → (c j).oneCell' = true := fun j hj => by
  cases f with
  | mk h0 h1 h2 h3 h4 h5 h6 => rcases (show j = 0 ∨ j = 1 ∨ j = 2 ∨ j = 3 ∨ j = 4 ∨ j = 5 from by omega) with rfl | rfl | rfl | rfl | rfl | rfl <;> first | (rw [h0]; rfl) | (rw [h1]; rfl) | (rw [h2]; rfl) | exact h3.one | exact h4.one | exact h5.one
theorem k61_all (d : Nat) : EntsC d := by
 induction d with
 | zero => intro xs v0 w h hw f0 hf; exact hf.elim
 | succ d ih =>
 intro xs v0 w h hw f0 hf
 obtain ⟨hlen, hkids⟩ := hf
 refine enter (n := 31) Try.func61 rfl rfl rfl X3 [] (Sat.nil _ _) ?_
 refine Je ?_
 refine Jb ?_
 refine Ja rfl rfl rfl (Jc (v := .slice none 0 0) rfl) ?_
 refine Jf ?_
 refine Je ?_
 refine Je ?_
 refine Jb ?_
 refine Ja rfl rfl rfl (Jd (v := v0) rfl) ?_
 refine Ja rfl rfl rfl (Q7 Try.underlying27 rfl f0) ?_
 refine Ja rfl rfl rfl (Qr rfl rfl) ?_
 refine Jf ?_
 refine J4 (b := (decide ((xs.length : Int) = 0))) rfl (fun hb => ?_) (fun hb => ?_)
 ·have h0 : xs = [] := List.length_eq_zero_iff.1 (by have := of_decide_eq_true hb; omega)
  subst h0
  refine Je ?_
  refine Jb ?_
  refine Ja rfl rfl rfl (Jc (v := .slice none 0 0) rfl) ?_
  refine Jf ?_
  refine Jq ?_
  refine c_emp ?_
  refine Xq 0 rfl (imp_tree0 (d := d)) ?_
  exact J5 (v := .slice none 0 0) rfl rfl (Wf ((none, 0) : Option Addr × Nat) (i := 0) rfl rfl (Imp.refl _))
 ·have hpos : 0 < xs.length := by have := of_decide_eq_false hb; omega
  have hnews : ((List.range xs.length).map (Wu h v0 6)).length = xs.length := by simp
  refine Js ?_
  refine Je ?_
  refine Jb ?_
  refine Ja rfl rfl rfl (Jd (v := v0) rfl) ?_
  refine Ja rfl rfl rfl (Q7 Try.underlying27 rfl f0) ?_
  refine Vh (makes_makeSlice (E := 70) (sz := 6) (by_ := 104) (m := xs.length) (c := xs.length) (rds := []) Try.underlying27 (Zk Try.typeInfo70) rfl rfl rfl rfl rfl rfl rfl rfl (by omega) (by omega) rfl) rfl rfl rfl (fun p => ?_)
  refine Ja rfl rfl rfl (Jc (v := .slice p.1 xs.length p.2) rfl) ?_
  refine Jf ?_
  refine Je ?_
  refine Jb ?_
  refine Ja rfl rfl rfl (Jd (v := .slice p.1 xs.length p.2) rfl) ?_
  refine Ja rfl rfl rfl (Jd (v := v0) rfl) ?_
  refine Zg (turns_copyK (i := 0) (rds := []) (sz := 6) (p := p) (m := xs.length) (a := 0) (dl := xs.length) (cd := p.2) (q := xs.length) (ax := sa v0) (c := sc v0) (news := (List.range xs.length).map (Wu h v0 6)) Try.underlying27 (Zk Try.typeInfo70) rfl rfl (by simp) (by rw [cutA_zero]; rfl) (by omega) ((show _ = v0 from rfl).trans (f0.frs.eq.trans (by rw [hnews]))) (Nat.le_refl _) hnews.symm hpos
    (fun w L' hF hS hj => f0.frs.row (hw.now hF)) (fun x hx => by obtain ⟨i, _, rfl⟩ := List.mem_map.1 hx; exact elC_len) (fun x hx u hu => List.all_eq_true.1 (AllC.oneN (fun {c x} f j hj => ent_one f j hj) f0.allC x hx) u hu)) rfl rfl rfl (fun _ => ?_)
  refine Jf ?_
  refine Xq 0 rfl (Imp.of (show Xa 70 6 (.slice p.1 xs.length p.2) xs.length (_ ++ _ ++ _) = Xa 70 6 (.slice p.1 xs.length p.2) ((List.range xs.length).map (Wu h v0 6)).length (((List.range xs.length).map (Wu h v0 6)).map idC) from by rw [hnews, Q4, List.take_zero, List.nil_append, List.drop_eq_nil_of_le (by simp), List.append_nil])) ?_
  refine Je ?_
  refine Je ?_
  refine Jb ?_
  refine Ja rfl rfl rfl (Jd (v := .slice p.1 xs.length p.2) rfl) ?_
  refine Ja rfl rfl rfl (r_len Try.underlying27 rfl) ?_
  refine Ja rfl rfl rfl (Jd (v := .int .i64 0) rfl) ?_
  refine Jf ?_
  refine c_emp ?_
  refine Xq 1 rfl (imp_kids0 (d := d)) ?_
  refine J6 ?_
  refine Z7 (σ := Nat) (τ := List (List Value)) (cntB xs.length) (fun s t => [(3, .slice p.1 xs.length p.2), (15, .int .i64 (xs.length : Int)), (16, .int .i64 (s : Int))]) (fun s t => [Xa 70 6 (.slice p.1 xs.length p.2) xs.length (t.map idC), kidsC d (t.take s) (xs.take s)])
   (fun s t => t.length = xs.length ∧ s ≤ xs.length ∧ ∀ j, s ≤ j → j < xs.length → t[j]? = some (Wu h v0 6 j)) 0 ((List.range xs.length).map (Wu h v0 6)) [0, 1] (cnt_fix _) ⟨hnews, Nat.zero_le _, fun j _ hj => by simp [hj]⟩ (by exact ⟨rfl, rfl, rfl, trivial⟩) (by decide) (by rw [List.take_zero, List.take_zero, hnews]; rfl) ?_
  rintro i css m gg H ⟨hcl, hin, hcs⟩
  try dsimp only
  refine Je ?_
  refine Jb ?_
  refine Ja rfl rfl rfl (Xs rfl rfl) ?_
  refine Jf ?_
  refine Je ?_
  refine J4 (b := (decide ((i : Int) < (xs.length : Int)))) rfl (fun hb => ?_) (fun hb => ?_)
  ·have hi : i < xs.length := by have := of_decide_eq_true hb; omega
   have hci : i < css.length := by omega
   have hat : Xt css (i : Int) = some (Wu h v0 6 i) := by
    rw [Qq hci]; have := hcs i (Nat.le_refl _) hi; rw [List.getElem?_eq_getElem hci] at this; exact this
   have hat0 : Xt xs (i : Int) = some xs[i] := Qq hi
   have f := f0.at hat0
   rw [Int.toNat_natCast] at f
   have fk := hkids xs[i] (List.getElem_mem hi)
   have ec : idC (Wu h v0 6 i) = [.int .i64 xs[i].Tag, .int .i64 xs[i].Value.Kind, str xs[i].Value.Text, Qb h v0 6 i 3, Qb h v0 6 i 4, Qb h v0 6 i 5] := by
    rw [← Q1 f]; rfl
   obtain ⟨q0, q1⟩ := g_tag_Entry_iff.1 f
   have f2 : FrS h 1 (Qb h v0 6 i 3) (xs[i].Value.Ints.map J3) := J9 q1
   have f3 : FrS h 2 (Qb h v0 6 i 4) (xs[i].Value.Ratios.map Jn) := J8 q1
   have f4 : FrN h 6 (Qb h v0 6 i 5) g_tag_Entry xs[i].Value.Entries := J2 q1
   refine Js ?_
   refine Je ?_
   refine J6 ?_
   refine Je ?_
   refine Jb ?_
   refine Ja rfl rfl rfl (Jd (v := .int .i64 (i : Int)) rfl) ?_
   refine Ja rfl rfl rfl (Jc (v := .int .i64 (i : Int)) rfl) ?_
   refine Jf ?_
   refine Jb ?_
   refine Ja rfl rfl rfl (Jd (v := .slice p.1 xs.length p.2) rfl) ?_
   refine Ja rfl rfl rfl (Jd (v := .int .i64 (i : Int)) rfl) ?_
   refine Ja rfl rfl rfl (Jd (v := .slice p.1 xs.length p.2) rfl) ?_
   refine Ja rfl rfl rfl (Jd (v := .int .i64 (i : Int)) rfl) ?_
   refine Qu (fun w hF hS => W4 Try.underlying27 Try.sizeOf70 rfl rfl (rowOf (i := 0) hS rfl) hcl.symm hat) rfl rfl rfl ?_
   refine Qu (fun w hF hS => run_fieldG Try.runUnderlying70 rfl Try.sizeOf29 rfl rfl (rowOf (i := 0) hS rfl) hat) rfl rfl rfl ?_
   refine Qu (fun w hF hS => Xr (f := idC) (i := (i : Int)) (sz := 6) (j := 1) (vs := [.int .i64 xs[i].Value.Kind, str xs[i].Value.Text, Qb h v0 6 i 3, Qb h v0 6 i 4, Qb h v0 6 i 5]) Try.isAgg29 Try.sizeOf29 rfl rfl (rowOf (i := 0) hS rfl) hat (by rw [ec]; rfl)) rfl rfl rfl ?_
   refine Vh (Q9 (rds := []) (G := fun x : (Option Addr × Nat) × (Option Addr × Nat) × (Option Addr × Nat) => (.agg #[.int .i64 xs[i].Value.Kind, str xs[i].Value.Text, .slice x.1.1 xs[i].Value.Ints.length x.1.2, .slice x.2.1.1 xs[i].Value.Ratios.length x.2.1.2, .slice x.2.2.1 xs[i].Value.Entries.length x.2.2.2])) (C := fun x : (Option Addr × Nat) × (Option Addr × Nat) × (Option Addr × Nat) => (Xx (roV 1 (.slice x.1.1 xs[i].Value.Ints.length x.1.2) xs[i].Value.Ints.length (xs[i].Value.Ints.map J3)) (Xx (roV 2 (.slice x.2.1.1 xs[i].Value.Ratios.length x.2.1.2) xs[i].Value.Ratios.length (xs[i].Value.Ratios.map Jn)) (treeC d (.slice x.2.2.1 xs[i].Value.Entries.length x.2.2.2) xs[i].Value.Entries)))) (fun w L' hF hS hi' => k33_of ih (Jy w) (f2.mono (hw.now hF)) (f3.mono (hw.now hF)) (f4.mono (hw.now hF)) fk) Try.call33 rfl) rfl rfl rfl (fun ⟨p3, p4, p5⟩ => ?_)
   refine Qu (fun w hF hS => W4 Try.underlying27 Try.sizeOf70 rfl rfl (rowOf (i := 0) hS rfl) hcl.symm hat) rfl rfl rfl ?_
   refine Qu (fun w hF hS => run_fieldG Try.runUnderlying70 rfl Try.sizeOf29 rfl rfl (rowOf (i := 0) hS rfl) hat) rfl rfl rfl ?_
   refine l_storeG (q := 0) (j := 1) (i := (i : Int)) (sz := 6) (hm := hcl.symm) (f := idC) (z := [.int .i64 xs[i].Tag, .int .i64 xs[i].Value.Kind, str xs[i].Value.Text, .slice p3.1 xs[i].Value.Ints.length p3.2, .slice p4.1 xs[i].Value.Ratios.length p4.2, .slice p5.1 xs[i].Value.Entries.length p5.2]) (ys := css.set i [.int .i64 xs[i].Tag, .int .i64 xs[i].Value.Kind, str xs[i].Value.Text, .slice p3.1 xs[i].Value.Ints.length p3.2, .slice p4.1 xs[i].Value.Ratios.length p4.2, .slice p5.1 xs[i].Value.Entries.length p5.2]) (vs := [.int .i64 xs[i].Value.Kind, str xs[i].Value.Text, .slice p3.1 xs[i].Value.Ints.length p3.2, .slice p4.1 xs[i].Value.Ratios.length p4.2, .slice p5.1 xs[i].Value.Entries.length p5.2]) Try.sizeOf29 rfl rfl rfl rfl rfl rfl rfl rfl rfl (fun y_ hy_ => by cases hy_.symm.trans hat; rw [ec]; rfl) (by rw [Un (by omega) (by omega), Int.toNat_natCast]) ?_
   refine Jf ?_
   refine Jb ?_
   refine Ja rfl rfl rfl (Qv rfl rfl (Qs (by omega))) ?_
   refine Ja rfl rfl rfl (Jd (v := .int .i64 ((i : Int) + 1)) rfl) ?_
   refine Jf ?_
   refine Xq 2 rfl (imp_kid (x := xs[i])) ?_
   refine Wy 1 2 rfl rfl (by decide) ?_
   refine Xq 1 rfl imp_kids ?_
   refine Jr (i + 1) (css.set i [.int .i64 xs[i].Tag, .int .i64 xs[i].Value.Kind, str xs[i].Value.Text, .slice p3.1 xs[i].Value.Ints.length p3.2, .slice p4.1 xs[i].Value.Ratios.length p4.2, .slice p5.1 xs[i].Value.Entries.length p5.2]) m [0, 1] (by exact ⟨rfl, rfl, rfl, trivial⟩) (by decide) (by
     rw [take_setS hci, take_snocS hi]; rfl) (by exact ⟨cnt_step H hi, by simpa using hcl, hi, fun j hj hj2 => by rw [List.getElem?_set_ne (by omega)]; exact hcs j (by omega) hj2⟩) (Nat.lt_succ_self _)
  ·have hi : i = xs.length := by have := of_decide_eq_false hb; omega
   refine X7 ?_
   refine Je ?_
   refine Jb ?_
   refine Ja rfl rfl rfl (Jd (v := .slice p.1 xs.length p.2) rfl) ?_
   refine Ja rfl rfl rfl (Jc (v := .slice p.1 xs.length p.2) rfl) ?_
   refine Jf ?_
   refine Jq ?_
   refine Wy 0 1 rfl rfl (by decide) ?_
   refine Xq 0 rfl (Imp.of (show Xx (Xa 70 6 (.slice p.1 xs.length p.2) xs.length (css.map idC)) (kidsC d (css.take i) (xs.take i)) = Xx (Xa 70 6 (.slice p.1 xs.length p.2) xs.length css) (kidsC d css xs) from by rw [Q4, hi, List.take_of_length_le (by omega), List.take_length])) ?_
   refine Xq 0 rfl imp_tree ?_
   exact J5 (v := .slice p.1 xs.length p.2) rfl rfl (Wf p (i := 0) rfl rfl (Imp.refl _))
end Go.Proofs.Ytpljknglodhcnaa

/- What copies a file makes one of its own. Conditions: sizes. -/
namespace Go.Proofs.Ytpljknglodhcnaa
open Go Go.Vc Go.Md Go.M Go.Lx
set_option maxRecDepth 100000
set_option maxHeartbeats 4000000
set_option linter.unusedVariables false
def DirE (d : Nat) (h : Jx) (c : List Value) (l : List T_tag_Entry) (bs : List Nat) : Prop := ∃ u, c = [u] ∧ TreeL d h u l bs
def TreeF (d : Nat) (h : Jx) (v : Value) (ls : List (List T_tag_Entry)) (bs : List Nat) : Prop :=
  ∃ (css : List (List Value)) (b2 : List Nat), RowP h 27 1 v css ∧ KidsG (DirE d) h css ls b2 ∧ bs = v.ownBlock.toList ++ b2
theorem DirE.agree {d : Nat} {h h' : Jx} {c : List Value} {l : List T_tag_Entry} {bs : List Nat} (t : DirE d h c l bs) (k : ∀ q ∈ bs, ∀ o, h q = some o → h' q = some o) : DirE d h' c l bs := by
  obtain ⟨u, e, t⟩ := t; exact ⟨u, e, t.agree k⟩
theorem dirs_mono {d : Nat} {h h' : Jx} {css : List (List Value)} {ls : List (List T_tag_Entry)} {bs : List Nat} (t : KidsG (DirE d) h css ls bs) (k : ∀ b o, h b = some o → h' b = some o) : KidsG (DirE d) h' css ls bs := t.agree (fun c x b t k => t.agree k) fun q _ => k q
theorem TreeF.mono {d : Nat} {h h' : Jx} {v : Value} {ls : List (List T_tag_Entry)} {bs : List Nat} (t : TreeF d h v ls bs) (k : ∀ b o, h b = some o → h' b = some o) : TreeF d h' v ls bs := by
  obtain ⟨css, b2, r, g, e⟩ := t; exact ⟨css, b2, r.mono fun b _ => k b, dirs_mono g k, e⟩
theorem TreeF.frn {d : Nat} {h : Jx} {v : Value} {ls : List (List T_tag_Entry)} {bs : List Nat} (t : TreeF d h v ls bs) : FrN h 1 v gs_tag_Entry ls := by
  obtain ⟨css, b2, r, g, e⟩ := t
  have hid : css.map idC = css := by unfold idC; simp
  refine frn_of (by rw [hid]; exact r.frs) (g.allC fun c x b t => ?_)
  obtain ⟨u, rfl, t⟩ := t
  exact ⟨rfl, t.frn⟩
abbrev fileC (d : Nat) (v : Value) (ls : List (List T_tag_Entry)) : Chunk := ownC fun h bs => TreeF d h v ls bs
abbrev dirsC (d : Nat) (css : List (List Value)) (ls : List (List T_tag_Entry)) : Chunk := ownC fun h bs => KidsG (DirE d) h css ls bs
theorem imp_dirs0 {d : Nat} : Imp empC (dirsC d [] []) := imp_emptyOwn rfl
theorem imp_dir {d : Nat} {u : Value} {l : List T_tag_Entry} {css : List (List Value)} {ls : List (List T_tag_Entry)} : Imp (Xx (dirsC d css ls) (treeC d u l)) (dirsC d (css ++ [[u]]) (ls ++ [l])) :=
  own_both (fun h h' bs k t => dirs_mono t k) (fun h h' bs k t => t.mono k) fun h b1 b2 t1 t2 => t1.snoc ⟨u, rfl, t2⟩
theorem imp_file {d n : Nat} {v : Value} {css : List (List Value)} {ls : List (List T_tag_Entry)} : Imp (Xx (Xa 27 1 v n css) (dirsC d css ls)) (fileC d v ls) :=
  imp_trans (imp_bothM imp_rowOwn (Imp.refl _)) (own_both (fun h h' bs k t => ⟨t.1.mono fun b _ => k b, t.2⟩) (fun h h' bs k t => dirs_mono t k) fun h b1 b2 t1 t2 => ⟨css, b2, t1.1, t2, by rw [t1.2.2]⟩)
theorem k35_of {d : Nat} {a0 : T_tag_File} {v0_1 : Value} {w : World} {h : Jx} (hw : Know h w X3) (f0 : FrN h 1 v0_1 gs_tag_Entry a0.Dirs) (hf : fitF d a0) :
    Does Try.prog 35 (List.toArray [.agg #[.bool a0.Big, v0_1]]) w (fun v w' => ∃ x : Option Addr × Nat, v = (.agg #[.bool a0.Big, .slice x.1 a0.Dirs.length x.2]) ∧ Turn w w' X3 (fileC d (.slice x.1 a0.Dirs.length x.2) a0.Dirs)) := by
 obtain ⟨hlen, hkids⟩ := hf
 refine enter (n := 27) Try.func35 rfl rfl rfl X3 [] (Sat.nil _ _) ?_
 refine Je ?_
 refine Jb ?_
 refine Yv (cs := [.bool a0.Big, v0_1]) rfl rfl rfl rfl (fun b4 => ?_)
 refine Ye (cs := [.bool false, .slice none 0 0]) Try.zeroValue24 rfl rfl rfl (fun b5 => ?_)
 refine Jf ?_
 refine Je ?_
 refine Jb ?_
 refine Ja rfl rfl rfl (Jl Try.runUnderlying24 rfl Try.sizeOf22 rfl rfl) ?_
 refine Jt (i := 0) (v := v0_1) Try.isAgg22 rfl rfl rfl rfl rfl ?_
 refine Ja rfl rfl rfl (Q7 Try.underlying22 rfl f0) ?_
 refine Vh (makes_makeSlice (E := 27) (sz := 1) (by_ := 24) (m := a0.Dirs.length) (c := a0.Dirs.length) (rds := []) Try.underlying22 (Zk Try.typeInfo27) rfl rfl rfl rfl rfl rfl rfl rfl (by omega) (by omega) rfl) rfl rfl rfl (fun p => ?_)
 refine Ja rfl rfl rfl (Jc (v := .slice p.1 a0.Dirs.length p.2) rfl) ?_
 refine Jf ?_
 refine Xq 2 rfl (Imp.of (show Xa 27 1 (.slice p.1 a0.Dirs.length p.2) a0.Dirs.length _ = Xa 27 1 (.slice p.1 a0.Dirs.length p.2) a0.Dirs.length ((List.replicate a0.Dirs.length [.slice none 0 0]).map idC) from by rw [Q4]; rfl)) ?_
 refine Je ?_
 refine Je ?_
 refine Jb ?_
 refine Ja rfl rfl rfl (Jl Try.runUnderlying24 rfl Try.sizeOf22 rfl rfl) ?_
 refine Jt (i := 0) (v := v0_1) Try.isAgg22 rfl rfl rfl rfl rfl ?_
 refine Ja rfl rfl rfl (Q7 Try.underlying22 rfl f0) ?_
 refine Ja rfl rfl rfl (Jd (v := .int .i64 0) rfl) ?_
 refine Jf ?_
 refine c_emp ?_
 refine Xq 3 rfl (imp_dirs0 (d := d)) ?_
 refine J6 ?_
 refine Z7 (σ := Nat) (τ := List (List Value)) (cntB a0.Dirs.length) (fun s t => [(1, .pointer (some ⟨b4, 0, none⟩)), (2, .pointer (some ⟨b5, 0, none⟩)), (3, .slice p.1 a0.Dirs.length p.2), (11, v0_1), (12, .int .i64 (a0.Dirs.length : Int)), (13, .int .i64 (s : Int))])
  (fun s t => [Jv b4 [.bool a0.Big, v0_1] 24, Jv b5 [.bool false, .slice none 0 0] 24, Xa 27 1 (.slice p.1 a0.Dirs.length p.2) a0.Dirs.length (t.map idC), dirsC d (t.take s) (a0.Dirs.take s)])
  (fun s t => t.length = a0.Dirs.length ∧ s ≤ a0.Dirs.length ∧ ∀ j, s ≤ j → j < a0.Dirs.length → t[j]? = some [.slice none 0 0]) 0 (List.replicate a0.Dirs.length [.slice none 0 0]) [0, 1, 2, 3] (cnt_fix _) ⟨by simp, Nat.zero_le _, fun j _ hj => by simp [hj]⟩ (by exact ⟨rfl, rfl, rfl, rfl, rfl, rfl, trivial⟩) (by decide) (by rw [List.take_zero, List.take_zero]; rfl) ?_
 rintro i css m gg H ⟨hcl, hin, hcs⟩
 try dsimp only
 refine Je ?_
 refine Jb ?_
 refine Ja rfl rfl rfl (Xs rfl rfl) ?_
 refine Jf ?_
 refine Je ?_
 refine J4 (b := (decide ((i : Int) < (a0.Dirs.length : Int)))) rfl (fun hb => ?_) (fun hb => ?_)
 ·have hi : i < a0.Dirs.length := by have := of_decide_eq_true hb; omega
  have hci : i < css.length := by omega
  have hat : Xt css (i : Int) = some [.slice none 0 0] := by
   rw [Qq hci]; have := hcs i (Nat.le_refl _) hi; rw [List.getElem?_eq_getElem hci] at this; exact this
  have hat0 : Xt a0.Dirs (i : Int) = some a0.Dirs[i] := Qq hi
  have f : FrN h 6 (Qb h v0_1 1 (Int.toNat (i : Int)) 0) g_tag_Entry a0.Dirs[i] := f0.at hat0
  refine Js ?_
  refine Je ?_
  refine J6 ?_
  refine Je ?_
  refine Jb ?_
  refine Ja rfl rfl rfl (Jd (v := .int .i64 (i : Int)) rfl) ?_
  refine Ja rfl rfl rfl (Qe Try.underlying22 Try.sizeOf27 rfl rfl f0.frs (f0.ix hat0)) ?_
  refine Qu (fun w hF hS => Qa (f := (Wu h v0_1 1)) (i := (i : Int)) (sz := 1) (j := 0) (v := (Qb h v0_1 1 (Int.toNat (i : Int)) 0)) Try.isAgg27 rfl rfl (f0.frs.row (hw.now hF)) (f0.ix hat0) (Ur (X8 (f0.at hat0)) rfl)) rfl rfl rfl ?_
  refine Ja rfl rfl rfl (Jc (v := .int .i64 (i : Int)) rfl) ?_
  refine Ja rfl rfl rfl (Jc (v := (Qb h v0_1 1 (Int.toNat (i : Int)) 0)) rfl) ?_
  refine Jf ?_
  refine Jb ?_
  refine Ja rfl rfl rfl (Jd (v := .slice p.1 a0.Dirs.length p.2) rfl) ?_
  refine Ja rfl rfl rfl (Jd (v := .int .i64 (i : Int)) rfl) ?_
  refine Ja rfl rfl rfl (Jd (v := (Qb h v0_1 1 (Int.toNat (i : Int)) 0)) rfl) ?_
  refine Vh (Q9 (rds := []) (G := fun x : (Option Addr × Nat) => .slice x.1 a0.Dirs[i].length x.2) (C := fun x : (Option Addr × Nat) => treeC d (.slice x.1 a0.Dirs[i].length x.2) a0.Dirs[i]) (fun w L' hF hS hi' => k61_all d (Jy w) (f.mono (hw.now hF)) (hkids _ (List.getElem_mem hi))) Try.call61 rfl) rfl rfl rfl (fun p5 => ?_)
  refine Qu (fun w hF hS => W4 Try.underlying22 Try.sizeOf27 rfl rfl (rowOf (i := 2) hS rfl) hcl.symm hat) rfl rfl rfl ?_
  refine l_storeG (q := 2) (j := 0) (i := (i : Int)) (sz := 1) (hm := hcl.symm) (f := idC) (z := [.slice p5.1 a0.Dirs[i].length p5.2]) (ys := css.set i [.slice p5.1 a0.Dirs[i].length p5.2]) (vs := [.slice p5.1 a0.Dirs[i].length p5.2]) Try.sizeOf27 rfl rfl rfl rfl rfl rfl rfl rfl rfl (fun y_ hy_ => by cases hy_.symm.trans hat; rfl) (by rw [Un (by omega) (by omega), Int.toNat_natCast]) ?_
  refine Jf ?_
  refine Jb ?_
  refine Ja rfl rfl rfl (Qv rfl rfl (Qs (by omega))) ?_
  refine Ja rfl rfl rfl (Jd (v := .int .i64 ((i : Int) + 1)) rfl) ?_
  refine Jf ?_
  refine Wy 3 4 rfl rfl (by decide) ?_
  refine Xq 3 rfl imp_dir ?_
  refine Jr (i + 1) (css.set i [.slice p5.1 a0.Dirs[i].length p5.2]) m [0, 1, 2, 3] (by exact ⟨rfl, rfl, rfl, rfl, rfl, rfl, trivial⟩) (by decide) (by
    rw [take_setS hci, take_snocS hi]; rfl) (by exact ⟨cnt_step H hi, by simpa using hcl, hi, fun j hj hj2 => by rw [List.getElem?_set_ne (by omega)]; exact hcs j (by omega) hj2⟩) (Nat.lt_succ_self _)
 ·have hi : i = a0.Dirs.length := by have := of_decide_eq_false hb; omega
  refine X7 ?_
  refine Je ?_
  refine Jb ?_
  refine Ja rfl rfl rfl (Jd (v := .slice p.1 a0.Dirs.length p.2) rfl) ?_
  refine Ja rfl rfl rfl (Jl Try.runUnderlying24 rfl Try.sizeOf22 rfl rfl) ?_
  refine Qi (i := 0) (vs := [.slice p.1 a0.Dirs.length p.2]) (cs' := [.bool a0.Big, .slice p.1 a0.Dirs.length p.2]) Try.sizeOf22 rfl rfl rfl rfl rfl rfl rfl rfl rfl ?_
  refine Jf ?_
  refine Je ?_
  refine Jb ?_
  refine Qg (i := 0) (vs := [.bool a0.Big, .slice p.1 a0.Dirs.length p.2]) Try.isAgg24 Try.sizeOf24 rfl rfl rfl rfl rfl ?_
  refine Qi (i := 1) (vs := [.bool a0.Big, .slice p.1 a0.Dirs.length p.2]) (cs' := [.bool a0.Big, .slice p.1 a0.Dirs.length p.2]) Try.sizeOf24 rfl rfl rfl rfl rfl rfl rfl rfl rfl ?_
  refine Jf ?_
  refine Jq ?_
  refine Wy 2 3 rfl rfl (by decide) ?_
  refine Xq 2 rfl (Imp.of (show Xx (Xa 27 1 (.slice p.1 a0.Dirs.length p.2) a0.Dirs.length (css.map idC)) (dirsC d (css.take i) (a0.Dirs.take i)) = Xx (Xa 27 1 (.slice p.1 a0.Dirs.length p.2) a0.Dirs.length css) (dirsC d css a0.Dirs) from by rw [Q4, hi, List.take_of_length_le (by omega), List.take_length])) ?_
  refine Xq 2 rfl imp_file ?_
  refine retC (i := 1) (vs := [.bool a0.Big, .slice p.1 a0.Dirs.length p.2]) Try.isAgg24 Try.sizeOf24 rfl rfl rfl rfl (Wf p (i := 2) rfl rfl (Imp.refl _))
end Go.Proofs.Ytpljknglodhcnaa

/- Places inside a file in a heap: what is read there, and what the file is when another directory stands there. Conditions: those that each rule names. -/
namespace Go.Proofs.Ytpljknglodhcnaa
open Go Go.Vc Go.Md Go.M Go.Lx
set_option linter.unusedVariables false
inductive Pth (h : Jx) (dv : Value) (ls : List (List T_tag_Entry)) : List Nat → Addr → Value → List T_tag_Entry → Prop
  | base {i : Nat} {a : Addr} (hi : i < ls.length) (ha : sa dv = some a) : Pth h dv ls [i] ⟨a.block, a.off + i * 1, none⟩ (Qb h dv 1 i 0) ls[i]
  | step {ks : List Nat} {a b : Addr} {u : Value} {l : List T_tag_Entry} {n : Nat} (p : Pth h dv ls ks a u l) (hn : n < l.length) (hb : sa u = some b) : Pth h dv ls (ks ++ [n]) ⟨b.block, b.off + (n * 6 + 1 + 4), none⟩ (Qb h u 6 n 5) l[n].Value.Entries
theorem Pth.frn {h : Jx} {dv : Value} {ls : List (List T_tag_Entry)} (f0 : FrN h 1 dv gs_tag_Entry ls) {ks : List Nat} {a : Addr} {u : Value} {l : List T_tag_Entry} (p : Pth h dv ls ks a u l) : FrN h 6 u g_tag_Entry l := by
  induction p with
  | base hi ha => exact f0.el _ _ (List.getElem?_eq_getElem hi)
  | step p hn hb ih => exact J2 (g_tag_Entry_iff.1 (ih.el _ _ (List.getElem?_eq_getElem hn))).2
section
variable {cx : Cx} {e : Xd} {d : Nat} {ty : TypeId} {pos : String} {af : Array Edge} {g : Option (Nat × Bool)}
theorem Pth.load {h : Jx} {dv : Value} {ls : List (List T_tag_Entry)} (f0 : FrN h 1 dv gs_tag_Entry ls) {ks : List Nat} {a : Addr} {u : Value} {l : List T_tag_Entry} (p : Pth h dv ls ks a u l) {A : Operand} (hA : ev e A = .pointer (some a)) {w : World}
    (k : ∀ b o, h b = some o → w.heap[b]? = some o) : (execOp (ev e) ⟨some d, .load 27 A, ty, pos, af, g⟩).run Try.prog w = .ok (.value u) w := by
  cases p with
  | @base i a hi ha =>
    have hr := f0.frs.row k
    rw [ha] at hr
    exact Qa (f := Wu h dv 1) (i := (i : Int)) (sz := 1) (j := 0) (k := i * 1) (a := some a) Try.isAgg27 hA (by simp) hr (f0.ix (Qq hi)) (Ur (X8 (f0.at (Qq hi))) rfl)
  | @step ks a b u l n p hn hb =>
    have f := p.frn f0
    have hr := f.frs.row k
    rw [hb] at hr
    exact Qa (f := Wu h u 6) (i := (n : Int)) (sz := 6) (j := 5) (k := n * 6 + 1 + 4) (a := some b) Try.isAgg27 hA (by simp [Nat.add_assoc]) hr (f.ix (Qq hn)) (Ur (Q1 (f.at (Qq hn))) rfl)
end
theorem getL_snoc : ∀ (ks : List Nat) (l : List T_tag_Entry) (n : Nat) (hn : n < (Y6 ks l).length), Y6 (ks ++ [n]) l = (Y6 ks l)[n].Value.Entries
  | [], l, n, hn => by
    have hn : n < l.length := hn
    show (match l[n]? with | some e => Y6 [] e.Value.Entries | none => []) = _
    rw [List.getElem?_eq_getElem hn]; rfl
  | k :: ks, l, n, hn => by
    show (match l[k]? with | some e => Y6 (ks ++ [n]) e.Value.Entries | none => []) = _
    have hn' : n < (match l[k]? with | some e => Y6 ks e.Value.Entries | none => []).length := hn
    cases hk : l[k]? with
    | none => rw [hk] at hn'; exact absurd hn' (by simp)
    | some e =>
      rw [hk] at hn'
      have := getL_snoc ks e.Value.Entries n hn'
      have e2 : Y6 (k :: ks) l = Y6 ks e.Value.Entries := by
        show (match l[k]? with | some e => Y6 ks e.Value.Entries | none => []) = _
        rw [hk]
      simp only [e2]
      exact this
theorem putL_snoc : ∀ (ks : List Nat) (l : List T_tag_Entry) (n : Nat) (l' : List T_tag_Entry) (hn : n < (Y6 ks l).length), putL (ks ++ [n]) l l' = putL ks l ((Y6 ks l).set n (U8 (Y6 ks l)[n] l'))
  | [], l, n, l', hn => by
    have hn : n < l.length := hn
    show (match l[n]? with | some e => l.set n (U8 e l') | none => l) = _
    rw [List.getElem?_eq_getElem hn]; rfl
  | k :: ks, l, n, l', hn => by
    show (match l[k]? with | some e => l.set k (U8 e (putL (ks ++ [n]) e.Value.Entries l')) | none => l) = (match l[k]? with | some e => l.set k (U8 e (putL ks e.Value.Entries _)) | none => l)
    have hn' : n < (match l[k]? with | some e => Y6 ks e.Value.Entries | none => []).length := hn
    cases hk : l[k]? with
    | none => rfl
    | some e =>
      rw [hk] at hn'
      have e2 : Y6 (k :: ks) l = Y6 ks e.Value.Entries := by
        show (match l[k]? with | some e => Y6 ks e.Value.Entries | none => []) = _
        rw [hk]
      simp only [e2]
      rw [putL_snoc ks e.Value.Entries n l' hn']
theorem Pth.get {h : Jx} {dv : Value} {ls : List (List T_tag_Entry)} {ks : List Nat} {a : Addr} {u : Value} {l : List T_tag_Entry} (p : Pth h dv ls ks a u l) : ∃ i r, ∃ hi : i < ls.length, ks = i :: r ∧ Y6 r ls[i] = l := by
  induction p with
  | @base i a hi ha => exact ⟨i, [], hi, rfl, rfl⟩
  | @step ks a b u l n p hn hb ih =>
    obtain ⟨i, r, hi, rfl, hg⟩ := ih
    subst hg
    exact ⟨i, r ++ [n], hi, rfl, getL_snoc r ls[i] n hn⟩
theorem Pth.getF {h : Jx} {dv : Value} {ls : List (List T_tag_Entry)} {ks : List Nat} {a : Addr} {u : Value} {l : List T_tag_Entry} (p : Pth h dv ls ks a u l) : getF ks ls = l := by
  obtain ⟨i, r, hi, rfl, hg⟩ := p.get
  show (match ls[i]? with | some l => Y6 r l | none => []) = l
  rw [List.getElem?_eq_getElem hi]; exact hg
theorem ent_with {h : Jx} {c : Nat → Value} {x : T_tag_Entry} {v3 v4 u : Value} {l : List T_tag_Entry} (e3 : FrS h 1 v3 (x.Value.Ints.map J3)) (e4 : FrS h 2 v4 (x.Value.Ratios.map Jn)) (f : FrN h 6 u g_tag_Entry l) :
    g_tag_Entry h (fun j => [.int .i64 x.Tag, .int .i64 x.Value.Kind, str x.Value.Text, v3, v4, u].getD j undef) (U8 x l) := .mk rfl rfl rfl e3 e4 f.frs f.el
theorem flat_set {sz : Nat} : ∀ {css : List (List Value)} {n j : Nat} {x : Value} (hl : ∀ c ∈ css, c.length = sz) (hn : n < css.length) (hj : j < sz), (css.set n ((css.getD n []).set j x)).flatten = css.flatten.set (n * sz + j) x := fun hl hn hj => flatten_setR sz _ _ _ _ hl hn hj
theorem row_upd {h h' : Jx} {E sz n j g o : Nat} {u : Value} {css : List (List Value)} {u' : Value} {cl : List Value} {T : Nat} (r : RowP h E sz u css) (hu : u.ownBlock = some g) (hn : n < css.length) (hj : j < sz) (hg : h g = some (.cells cl.toArray T (0, 0))) (ho : o = n * sz + j)
    (h1 : h' g = some (.cells (cl.set o u').toArray T (0, 0))) : RowP h' E sz u (css.set n ((css.getD n []).set j u')) := by
  subst ho
  refine ⟨fun x hx => ?_, ?_⟩
  · rcases List.mem_or_eq_of_mem_set hx with k | k
    · exact r.1 x k
    · subst k
      rw [List.length_set, List.getD_eq_getElem?_getD, List.getElem?_eq_getElem hn]
      exact r.1 _ (List.getElem_mem hn)
  · rcases r.2 with ⟨rfl, h0⟩ | ⟨g', cap, cur, rfl, hb, q1, q2, q3, q4⟩
    · cases hu
    · simp [Value.ownBlock] at hu
      subst hu
      rw [hb] at hg
      simp only [Option.some.injEq, Obj.cells.injEq] at hg
      obtain ⟨rfl, rfl, _⟩ := hg
      refine .inr ⟨g', cap, (cl.set (n * sz + j) u').toArray, by rw [List.length_set], h1, by rwa [List.length_set], q2, by simpa using q3, ?_⟩
      rw [List.length_set, flat_set r.1 hn hj, ← q4]
      show (cl.set (n * sz + j) u').take _ = (cl.take _).set _ _
      rw [List.take_set]
def Hole (d : Nat) (h : Jx) (dv : Value) (ls : List (List T_tag_Entry)) (bs : List Nat) (ks : List Nat) (a : Addr) (u : Value) (l : List T_tag_Entry) : Prop :=
  ∃ (cl : List Value) (T d' : Nat) (bsub : List Nat), h a.block = some (.cells cl.toArray T (0, 0)) ∧ cl[a.off]? = some u ∧ a.block ∈ bs ∧ a.block ∉ bsub ∧ (∀ q ∈ bsub, q ∈ bs) ∧ bsub.Nodup ∧ TreeL d' h u l bsub ∧
    ∀ (h' : Jx) (u1 : Value) (l1 : List T_tag_Entry), (∀ q ∈ bs, q ≠ a.block → q ∉ bsub → ∀ o, h q = some o → h' q = some o) → h' a.block = some (.cells (cl.set a.off u1).toArray T (0, 0)) → FrN h' 6 u1 g_tag_Entry l1 → FrN h' 1 dv gs_tag_Entry (putF ks ls l1)
theorem set_self {cl : List Value} {o : Nat} {u : Value} (h : cl[o]? = some u) : cl.set o u = cl := by
  obtain ⟨ho, e⟩ := List.getElem?_eq_some_iff.1 h
  rw [← e]; exact List.set_getElem_self ho
theorem hole_of {d : Nat} {h : Jx} {dv : Value} {ls : List (List T_tag_Entry)} {bs : List Nat} (t : TreeF d h dv ls bs) (hn : bs.Nodup) {ks : List Nat} {a : Addr} {u : Value} {l : List T_tag_Entry} (p : Pth h dv ls ks a u l) : Hole d h dv ls bs ks a u l := by
  have f0 := t.frn
  induction p with
  | @base i a hi ha =>
    obtain ⟨css, b2, r, g, rfl⟩ := t
    obtain ⟨n1, n2, n3⟩ := List.nodup_append.1 hn
    have hci : i < css.length := by rw [g.len]; exact hi
    obtain ⟨b, ⟨u, hc, tu⟩, hbs, hbn, hput⟩ := g.at i (List.getElem?_eq_getElem hci) (List.getElem?_eq_getElem hi) n2
    rcases r.2 with ⟨rfl, h0⟩ | ⟨gb, cap, cur, rfl, hb, q1, q2, q3, q4⟩
    · rw [h0] at hci; simp at hci
    · have ea : a = ⟨gb, 0, none⟩ := by simp [sa] at ha; exact ha.symm
      subst ea
      have hcell : cur.toList[i]? = some u := by
        have h1 := row_get css i css[i] (List.all_eq_true.2 fun x hx => by simpa using r.1 x hx) (List.getElem?_eq_getElem hci) 0 u (by rw [hc]; rfl)
        rw [← q4, List.getElem?_take] at h1
        split at h1
        · simpa using h1
        · cases h1
      have hu : Qb h (.slice (some ⟨gb, 0, none⟩) css.length cap) 1 i 0 = u := by
        have h1 := f0.el i _ (List.getElem?_eq_getElem hi)
        simp only [Qb, hb]
        rw [if_pos (by decide), Array.getD_eq_getD_getElem?, ← Array.getElem?_toList]
        simp only [Nat.zero_add, Nat.mul_one, Nat.add_zero, hcell]; rfl
      rw [hu]
      have hgb : gb ∈ (Value.slice (some ⟨gb, 0, none⟩) css.length cap).ownBlock.toList := by simp [Value.ownBlock]
      refine ⟨cur.toList, _, d, b, by simpa using hb, by simpa using hcell, List.mem_append_left _ hgb, fun hq => n3 gb hgb gb (hbs gb hq) rfl, fun q hq => List.mem_append_right _ (hbs q hq), hbn, tu, fun h' u1 l1 hag hcl hf => ?_⟩
      have hk : KidsG (fun h c (x : List T_tag_Entry) _ => c.length = 1 ∧ gs_tag_Entry h (fun j => c.getD j undef) x) h' (css.set i [u1]) (ls.set i l1) b2 := hput _ h' [u1] l1 (fun c x b t k => by
          obtain ⟨u, rfl, t⟩ := t
          exact ⟨rfl, (t.agree k).frn⟩) (fun q hq hqb => hag q (List.mem_append_right _ hq) (fun e => n3 gb hgb q hq e.symm) hqb) ⟨rfl, hf⟩
      have hr := row_upd (n := i) (j := 0) (o := i) (u' := u1) r rfl hci (by decide) (by simpa using hb) (by simp) (by simpa using hcl)
      have e1 : (css.getD i []).set 0 u1 = [u1] := by rw [List.getD_eq_getElem?_getD, List.getElem?_eq_getElem hci, hc]; rfl
      rw [e1] at hr
      have hid : (css.set i [u1]).map idC = css.set i [u1] := by unfold idC; simp
      have e2 : putF [i] ls l1 = ls.set i l1 := by
        show (match ls[i]? with | some l => ls.set i (putL [] l l1) | none => ls) = _
        rw [List.getElem?_eq_getElem hi]; rfl
      rw [e2]
      exact frn_of (by rw [hid]; exact hr.frs) (hk.allC fun c x b t => t)
  | @step ks a b u l n p hln hb ih =>
    obtain ⟨cl, T, d', bsub, c1, c2, c3, c4, c5, c6, c7, c8⟩ := ih
    have fu := c7.frn
    cases d' with
    | zero => obtain ⟨_, rfl, _⟩ := c7; simp at hln
    | succ d' =>
      obtain ⟨css, b2, r, k, rfl⟩ := c7
      obtain ⟨n1, n2, n3⟩ := List.nodup_append.1 c6
      have hci : n < css.length := by rw [k.len]; exact hln
      obtain ⟨bk, ⟨v3, v4, v5, b5, hc, e3, e4, e5, ebk⟩, hbs, hbn, hput⟩ := k.at n (List.getElem?_eq_getElem hci) (List.getElem?_eq_getElem hln) n2
      rcases r.2 with ⟨rfl, h0⟩ | ⟨gb, cap, cur, rfl, hgb, q1, q2, q3, q4⟩
      · rw [h0] at hci; simp at hci
      · have eb : b = ⟨gb, 0, none⟩ := by simp [sa] at hb; exact hb.symm
        subst eb
        have hcell : cur.toList[n * 6 + 5]? = some v5 := by
          have h1 := row_get css n css[n] (List.all_eq_true.2 fun x hx => by simpa using r.1 x hx) (List.getElem?_eq_getElem hci) 5 v5 (by rw [hc]; rfl)
          rw [← q4, List.getElem?_take] at h1
          split at h1
          · exact h1
          · cases h1
        have hu : Qb h (.slice (some ⟨gb, 0, none⟩) css.length cap) 6 n 5 = v5 := by
          simp only [Qb, hgb]
          rw [if_pos (by decide), Array.getD_eq_getD_getElem?, ← Array.getElem?_toList]
          simp only [Nat.zero_add, hcell]; rfl
        rw [hu]
        have hmem : gb ∈ (Value.slice (some ⟨gb, 0, none⟩) css.length cap).ownBlock.toList := by simp [Value.ownBlock]
        have hb5 : ∀ q ∈ b5, q ∈ bk := fun q hq => by rw [ebk]; simp [hq]
        rw [ebk] at hbn
        have nb5 : b5.Nodup := (List.nodup_append.1 (List.nodup_append.1 hbn).2.1).2.1
        have disj : ∀ q ∈ roB v3 l[n].Value.Ints.length ++ roB v4 l[n].Value.Ratios.length, q ∉ b5 := fun q hq hq5 => by
          rw [← List.append_assoc] at hbn
          exact (List.nodup_append.1 hbn).2.2 q hq q hq5 rfl
        have gne : gb ≠ a.block := fun e => c4 (by rw [← e]; exact List.mem_append_left _ hmem)
        refine ⟨cur.toList, _, d', b5, by simpa using hgb, by simpa [Nat.add_assoc] using hcell, c5 gb (List.mem_append_left _ hmem), fun hq => n3 gb hmem gb (hbs gb (hb5 gb hq)) rfl, fun q hq => c5 q (List.mem_append_right _ (hbs q (hb5 q hq))), nb5, e5, fun h' u1 l1 hag hcl hf => ?_⟩
        have agk : ∀ q ∈ b2, q ∉ b5 → ∀ o, h q = some o → h' q = some o := fun q hq hq5 => hag q (c5 q (List.mem_append_right _ hq)) (fun e => n3 gb hmem q hq e.symm) hq5
        have hag3 : ∀ q ∈ roB v3 l[n].Value.Ints.length ++ roB v4 l[n].Value.Ratios.length, ∀ o, h q = some o → h' q = some o := fun q hq => agk q (hbs q (by
          rw [ebk]
          rcases List.mem_append.1 hq with h | h <;> simp [h])) (disj q hq)
        have hk : KidsG (fun h c (x : T_tag_Entry) _ => c.length = 6 ∧ g_tag_Entry h (fun j => c.getD j undef) x) h' (css.set n [.int .i64 l[n].Tag, .int .i64 l[n].Value.Kind, str l[n].Value.Text, v3, v4, u1]) (l.set n (U8 l[n] l1)) b2 := hput _ h' _ _ (fun c x b t k => by
            have t' := t.agree (fun v xs b t k => t.agree k) k
            obtain ⟨w3, w4, w5, z5, rfl, z3, z4, zt, _⟩ := t'
            have f := zt.frn
            exact ⟨rfl, .mk rfl rfl rfl z3 z4 f.frs f.el⟩) (fun q hq hqb => agk q hq fun h5 => hqb (hb5 q h5))
          ⟨rfl, ent_with (c := fun _ => undef) (e3.agree (by rw [List.length_map]; exact fun q hq => hag3 q (List.mem_append_left _ hq))) (e4.agree (by rw [List.length_map]; exact fun q hq => hag3 q (List.mem_append_right _ hq))) hf⟩
        have hr := row_upd (n := n) (j := 5) (o := n * 6 + 5) (u' := u1) r rfl hci (by decide) (by simpa using hgb) rfl (by simpa [Nat.add_assoc] using hcl)
        have e1 : (css.getD n []).set 5 u1 = [.int .i64 l[n].Tag, .int .i64 l[n].Value.Kind, str l[n].Value.Text, v3, v4, u1] := by rw [List.getD_eq_getElem?_getD, List.getElem?_eq_getElem hci, Option.getD_some, hc]; rfl
        rw [e1] at hr
        have hid : ∀ z : List (List Value), z.map idC = z := fun z => by unfold idC; simp
        have fl : FrN h' 6 (.slice (some ⟨gb, 0, none⟩) css.length cap) g_tag_Entry (l.set n (U8 l[n] l1)) := frn_of (by rw [hid]; exact hr.frs) (hk.allC fun c x b t => t)
        obtain ⟨i, rk, hi, rfl, hgt⟩ := p.get
        have e2 : putF ((i :: rk) ++ [n]) ls l1 = putF (i :: rk) ls (l.set n (U8 l[n] l1)) := by
          subst hgt
          show (match ls[i]? with | some l => ls.set i (putL (rk ++ [n]) l l1) | none => ls) = (match ls[i]? with | some l => ls.set i (putL rk l _) | none => ls)
          rw [List.getElem?_eq_getElem hi]
          simp only
          rw [putL_snoc rk ls[i] n l1 hln]
        rw [e2]
        refine c8 h' (.slice (some ⟨gb, 0, none⟩) css.length cap) _ (fun q hq hqa hqs o ho => hag q hq (fun e => hqs (by rw [e]; exact List.mem_append_left _ hmem)) (fun h5 => hqs (List.mem_append_right _ (hbs q (hb5 q h5)))) o ho) ?_ fl
        rw [set_self c2]
        exact hag a.block c3 (fun e => gne e.symm) (fun h5 => c4 (List.mem_append_right _ (hbs _ (hb5 _ h5)))) _ c1
end Go.Proofs.Ytpljknglodhcnaa

/- The place of a directory is looked for. Conditions: none. -/
namespace Go.Proofs.Ytpljknglodhcnaa
open Go Go.Vc Go.Md Go.M Go.Lx
set_option maxRecDepth 100000
set_option maxHeartbeats 4000000
set_option linter.unusedVariables false
theorem r_indexP {P : Program} {e : Xd} {d : Option Nat} {ty : TypeId} {pos : String} {af : Array Edge} {g : Option (Nat × Bool)} {X I : Operand} {t u sz : Nat} {h : Jx} {v : Value} {a : Addr} {α : Type} {f : α → List Value} {xs : List α} {x : α} {k : IntKind} {i : Int} (hu : P.underlying t = some (.slice u)) (hs : ∀ w, (sizeOf u).run P w = .ok sz w)
    (hx : ev e X = v) (hi : ev e I = .int k i) (hf : FrS h sz v (xs.map f)) (hg : Xt xs i = some x) (ha : sa v = some a) (w : World) :
    (execOp (ev e) ⟨d, .indexAddr t X I, ty, pos, af, g⟩).run P w = .ok (.value (.pointer (some ⟨a.block, a.off + i.toNat * sz, none⟩))) w := by
  rw [Qe hu hs hx hi hf hg w, ha]; rfl
theorem sa_some {h : Jx} {sz : Nat} {v : Value} {xs : List (List Value)} (f : FrS h sz v xs) (hp : 0 < xs.length) : ∃ a, sa v = some a := by
  obtain ⟨a, c, rfl, _, _, r⟩ := f.out
  rcases r with r | ⟨b, off, cs, T, m, rfl, _⟩
  · rw [r] at hp; simp at hp
  · exact ⟨_, rfl⟩
abbrev DirR (h : Jx) (dv : Value) (ls : List (List T_tag_Entry)) (r : Option (List Nat)) (x : Value) : Prop := (r = none → x = .pointer none) ∧ ∀ ks, r = some ks → ∃ a u l, x = .pointer (some a) ∧ Pth h dv ls ks a u l
theorem k31_of {pb T : Nat} {big : Bool} {dv v1 : Value} {ls : List (List T_tag_Entry)} {path : List Int} {r : Option (List Nat)} {w : World} {h hA hB : Jx} (hw : Know h w X3) (hwA : Know hA w X3) (hwB : Know hB w X3) (hb0 : hA pb = some (.cells [.bool big, dv].toArray T (0, 0))) (f0 : FrN h 1 dv gs_tag_Entry ls) (f1 : FrS hB 1 v1 (path.map J3)) (H : Wc ls path = some r) :
    Does Try.prog 31 (List.toArray [.pointer (some ⟨pb, 0, none⟩), v1]) w (fun v w' => (∃ x : Value, v = .tuple #[x, .bool r.isSome] ∧ DirR h dv ls r x) ∧ Grow w w') := by
 unfold Wc at H
 refine enter (n := 74) Try.func31 rfl rfl rfl X3 [] (Sat.nil _ _) ?_
 refine Je ?_
 refine Jb ?_
 refine Ja rfl rfl rfl (Jc (v := .pointer none) rfl) ?_
 refine Ja rfl rfl rfl (Jc (v := .bool false) rfl) ?_
 refine Jf ?_
 refine Je ?_
 refine Je ?_
 by_cases hlen : (path.length : Int) < 2
 ·have H1 := Jo (decide_eq_true hlen) H
  have hr : r = none := (Option.some.inj H1).symm
  exact Qp (Kd.p :: Kd.p :: Kd.p :: Kd.p :: Kd.p :: Kd.p :: Kd.d [] undef :: Kd.p :: Kd.p :: Kd.p :: Kd.d [] undef :: Kd.p :: Kd.p :: Kd.d [] undef :: Kd.p :: []) 0 mixed (by
   refine Jj rfl rfl (Jd (v := v1) rfl) ?_
   refine Jj rfl rfl (Xy Try.underlying25 rfl f1 rfl) ?_
   refine Jj rfl rfl (Xs rfl rfl) ?_
   refine Jj rfl rfl (Jd (v := .bool (decide ((path.length : Int) < 2))) rfl) ?_
   refine Vf (fun hb => ?_) (fun hb => ?_)
   ·refine Jw rfl rfl ?_
    refine Jw rfl rfl ?_
    refine Jw rfl rfl ?_
    refine Jw rfl rfl ?_
    refine Jw rfl rfl ?_
    refine Jw rfl rfl ?_
    refine Jw rfl rfl ?_
    refine Jw rfl rfl ?_
    refine Jw rfl rfl ?_
    refine Jw rfl rfl ?_
    refine Jj rfl rfl (Jz (v := .bool true) rfl rfl) ?_
    refine Xm ?_
    refine Y5 rfl ?_
    refine Je ?_
    refine Jb ?_
    refine Ja rfl rfl rfl (Jc (v := .pointer none) rfl) ?_
    refine Ja rfl rfl rfl (Jc (v := .bool false) rfl) ?_
    refine Jf ?_
    refine Jq ?_
    exact ret2 (v1 := .pointer none) (v2 := .bool false) rfl rfl rfl (finC (.pointer none) (by rw [hr]; rfl) ⟨fun _ => rfl, fun ks hk => by rw [hr] at hk; cases hk⟩)
   ·exact absurd hlen (of_decide_eq_false hb)
  ) (by kernel_rfl)
 ·have H2 := Jp (decide_eq_false hlen) H
  obtain ⟨p0, h_p0, H3⟩ := Ji H2
  obtain ⟨m0, h_m0, H4⟩ := Ji H3
  obtain ⟨ob, h_ob, H5⟩ := Ji H4
  exact Qp (Kd.p :: Kd.p :: Kd.p :: Kd.p :: Kd.p :: Kd.p :: Kd.d [] (.int .i64 p0) :: Kd.p :: Kd.p :: Kd.p :: Kd.d [] dv :: Kd.p :: Kd.p :: Kd.d [] (.bool ob) :: Kd.p :: []) 0 mixed (by
   refine Jj rfl rfl (Jd (v := v1) rfl) ?_
   refine Jj rfl rfl (Xy Try.underlying25 rfl f1 rfl) ?_
   refine Jj rfl rfl (Xs rfl rfl) ?_
   refine Jj rfl rfl (Jd (v := .bool (decide ((path.length : Int) < 2))) rfl) ?_
   refine Vf (fun hb => ?_) (fun hb => ?_)
   ·exact absurd (of_decide_eq_true hb) hlen
   ·refine Jj rfl rfl (Jd (v := v1) rfl) ?_
    refine Jj rfl rfl (Qe Try.underlying25 Try.sizeOf3 rfl rfl f1 h_p0) ?_
    refine Zw (fun w hF => Qa (f := J3) (i := 0) (sz := 1) (j := 0) (v := .int .i64 p0) Try.isAgg3 rfl rfl (f1.row (hwB.now hF)) h_p0 rfl) rfl rfl ?_
    refine Jj rfl rfl (Jd (v := .pointer (some ⟨pb, 0, none⟩)) rfl) ?_
    refine Jj rfl rfl (Qm rfl) ?_
    refine Jj rfl rfl (Jl Try.runUnderlying24 rfl Try.sizeOf22 rfl rfl) ?_
    refine Zw (fun w hF => run_loadK1 (v := dv) Try.isAgg22 rfl (hwA.now hF _ _ hb0) rfl) rfl rfl ?_
    refine Jj rfl rfl (Q7 Try.underlying22 rfl f0) ?_
    refine Jj rfl rfl (r_subG rfl rfl h_m0) ?_
    refine d_call (k56 h_ob) Try.call56 rfl rfl ?_
    refine Jj rfl rfl (J0 (v := .bool ob) rfl rfl) ?_
    refine Xm ?_
    refine J4 (b := ob) rfl (fun hb => ?_) (fun hb => ?_)
    ·have H6 := Jo hb H5
     have hr : r = none := (Option.some.inj H6).symm
     refine Je ?_
     refine Jb ?_
     refine Ja rfl rfl rfl (Jc (v := .pointer none) rfl) ?_
     refine Ja rfl rfl rfl (Jc (v := .bool false) rfl) ?_
     refine Jf ?_
     refine Jq ?_
     exact ret2 (v1 := .pointer none) (v2 := .bool false) rfl rfl rfl (finC (.pointer none) (by rw [hr]; rfl) ⟨fun _ => rfl, fun ks hk => by rw [hr] at hk; cases hk⟩)
    ·have H6 := Jp hb H5
     obtain ⟨l0, h_l0, H7⟩ := Ji H6
     obtain ⟨q, h_q, H8⟩ := Ji H7
     obtain ⟨ts, h_ts, H9⟩ := Ji H8
     obtain ⟨hp0, hp1, hpe⟩ := Yp h_l0
     obtain ⟨a0, ha0⟩ := sa_some f0.frs (by rw [List.length_map, List.length_range]; omega)
     have hbase : Pth h dv ls [p0.toNat] ⟨a0.block, a0.off + p0.toNat * 1, none⟩ (Qb h dv 1 p0.toNat 0) l0 := by
      have := Pth.base (h := h) (dv := dv) (ls := ls) (i := p0.toNat) (a := a0) (by omega) ha0
      rw [List.getElem?_eq_getElem (by omega)] at hpe
      rwa [Option.some.inj hpe] at this
     refine Js ?_
     refine Je ?_
     exact Qp (Kd.p :: Kd.p :: Kd.p :: Kd.d [] dv :: Kd.p :: Kd.p :: Kd.d [] (.int .i64 p0) :: Kd.p :: Kd.p :: []) 0 mixed (by
      refine Jj rfl rfl (Jd (v := .pointer (some ⟨pb, 0, none⟩)) rfl) ?_
      refine Jj rfl rfl (Qm rfl) ?_
      refine Jj rfl rfl (Jl Try.runUnderlying24 rfl Try.sizeOf22 rfl rfl) ?_
      refine Zw (fun w hF => run_loadK1 (v := dv) Try.isAgg22 rfl (hwA.now hF _ _ hb0) rfl) rfl rfl ?_
      refine Jj rfl rfl (Jd (v := v1) rfl) ?_
      refine Jj rfl rfl (Qe Try.underlying25 Try.sizeOf3 rfl rfl f1 h_p0) ?_
      refine Zw (fun w hF => Qa (f := J3) (i := 0) (sz := 1) (j := 0) (v := .int .i64 p0) Try.isAgg3 rfl rfl (f1.row (hwB.now hF)) h_p0 rfl) rfl rfl ?_
      refine Jj rfl rfl (r_indexP Try.underlying22 Try.sizeOf27 rfl rfl f0.frs (f0.ix h_l0) ha0) ?_
      refine Jj rfl rfl (Jc (v := .pointer (some ⟨a0.block, a0.off + p0.toNat * 1, none⟩)) rfl) ?_
      refine Xm ?_
      refine Je ?_
      refine Je ?_
      refine Jb ?_
      refine Ja rfl rfl rfl (Jd (v := v1) rfl) ?_
      refine Ja rfl rfl rfl (Jd (v := v1) rfl) ?_
      refine Ja rfl rfl rfl (Xy Try.underlying25 rfl f1 rfl) ?_
      refine Ja rfl rfl rfl (r_subG rfl rfl h_q) ?_
      refine Ja rfl rfl rfl (r_sliceLHF Try.underlying25 Try.sizeOf3 rfl rfl rfl f1 h_ts) ?_
      refine Ja rfl rfl rfl (Xy Try.underlying25 rfl (f1.cut h_ts) rfl) ?_
      refine Ja rfl rfl rfl (Jd (v := .int .i64 0) rfl) ?_
      refine Jf ?_
      refine J6 ?_
      have f2 := f1.cut h_ts
      refine Z7 (σ := Nat) (τ := Addr × Value × List T_tag_Entry × List Nat) (cntB ts.length) (fun s t => [(6, .pointer (some t.1)), (38, cutV 1 v1 1 q), (39, .int .i64 (ts.length : Int)), (40, .int .i64 (s : Int))]) (fun s t => [])
       (fun s t => s ≤ ts.length ∧ Pth h dv ls t.2.2.2 t.1 t.2.1 t.2.2.1 ∧ J7 (X6 t.2.2.1 (ts.drop s)) (fun z => some (z.map (t.2.2.2 ++ ·))) = some r) 0 (⟨a0.block, a0.off + p0.toNat * 1, none⟩, Qb h dv 1 p0.toNat 0, l0, [p0.toNat]) [] (cnt_fix _) ⟨Nat.zero_le _, hbase, H9⟩ (by exact ⟨rfl, rfl, rfl, rfl, trivial⟩) (by decide) rfl ?_
      rintro i ⟨a, u, l, ks⟩ m gg Hc ⟨hin, hP, HG⟩
      try dsimp only at hin hP HG ⊢
      have fl := hP.frn f0
      refine Je ?_
      refine Jb ?_
      refine Ja rfl rfl rfl (Xs rfl rfl) ?_
      refine Jf ?_
      refine Je ?_
      refine J4 (b := (decide ((i : Int) < (ts.length : Int)))) rfl (fun hb => ?_) (fun hb => ?_)
      ·have hi : i < ts.length := by have := of_decide_eq_true hb; omega
       have hat : Xt ts (i : Int) = some ts[i] := Qq hi
       rw [List.drop_eq_getElem_cons hi] at HG
       unfold X6 at HG
       obtain ⟨z, HG1, HG2⟩ := Ji HG
       obtain ⟨⟨n, ok⟩, h_pl, HG3⟩ := Ji HG1
       refine Js ?_
       refine Je ?_
       refine J6 ?_
       refine Je ?_
       refine Jb ?_
       refine Ja rfl rfl rfl (Qe Try.underlying25 Try.sizeOf3 rfl rfl f2 hat) ?_
       refine Qu (fun w hF hS => Qa (f := J3) (i := (i : Int)) (sz := 1) (j := 0) (v := .int .i64 ts[i]) Try.isAgg3 rfl rfl (f2.row (hwB.now hF)) hat rfl) rfl rfl rfl ?_
       refine Ja rfl rfl rfl (Jc (v := .int .i64 ts[i]) rfl) ?_
       refine Jf ?_
       refine Je ?_
       refine Jb ?_
       refine Ja rfl rfl rfl (Jd (v := .pointer (some a)) rfl) ?_
       refine Ja rfl rfl rfl (Qm rfl) ?_
       refine Qu (fun w hF hS => hP.load f0 rfl (hw.now hF)) rfl rfl rfl ?_
       refine Ja rfl rfl rfl (Jd (v := .int .i64 ts[i]) rfl) ?_
       refine Qn (fun w hF hS => k32 (Jy w) (fl.mono (hw.now hF)) h_pl) Try.call32 rfl rfl rfl ?_
       refine Ja rfl rfl rfl (Jd (v := .tuple #[.int .i64 n, .bool ok]) rfl) ?_
       refine Ja rfl rfl rfl (Qf (v := .int .i64 n) rfl rfl) ?_
       refine Ja rfl rfl rfl (Qf (v := .bool ok) rfl rfl) ?_
       refine Ja rfl rfl rfl (Jc (v := .int .i64 n) rfl) ?_
       refine Ja rfl rfl rfl (Jc (v := .bool ok) rfl) ?_
       refine Jf ?_
       refine Je ?_
       refine Je ?_
       refine Jb ?_
       refine Ja rfl rfl rfl (Jd (v := .bool ok) rfl) ?_
       refine Ja rfl rfl rfl (V3 rfl) ?_
       refine Ja rfl rfl rfl (Jd (v := .bool (!ok)) rfl) ?_
       cases ok with
       | false =>
        have hz : z = none := (Option.some.inj HG3).symm
        have hr : r = none := by rw [hz] at HG2; exact (Option.some.inj HG2).symm
        refine Jh rfl rfl rfl ?_
        refine Jh rfl rfl rfl ?_
        refine Jh rfl rfl rfl ?_
        refine Jh rfl rfl rfl ?_
        refine Jh rfl rfl rfl ?_
        refine Jh rfl rfl rfl ?_
        refine Jh rfl rfl rfl ?_
        refine Jh rfl rfl rfl ?_
        refine Jh rfl rfl rfl ?_
        refine Ja rfl rfl rfl (Jz (v := .bool true) rfl rfl) ?_
        refine Jf ?_
        refine Y5 rfl ?_
        refine Je ?_
        refine Jb ?_
        refine Ja rfl rfl rfl (Jc (v := .pointer none) rfl) ?_
        refine Ja rfl rfl rfl (Jc (v := .bool false) rfl) ?_
        refine Jf ?_
        refine Jq ?_
        exact ret2 (v1 := .pointer none) (v2 := .bool false) rfl rfl rfl (finC (.pointer none) (by rw [hr]; rfl) ⟨fun _ => rfl, fun ks hk => by rw [hr] at hk; cases hk⟩)
       | true =>
        have HG4 : J7 (Xt l n) (fun e => Qj (decide (e.Value.Kind ≠ 13)) (some none) (J7 (X6 e.Value.Entries (ts.drop (i + 1))) fun r => some (r.map (n.toNat :: ·)))) = some z := HG3
        obtain ⟨x, h_x, HG5⟩ := Ji HG4
        obtain ⟨hn0, hn1, hne⟩ := Yp h_x
        obtain ⟨b, hb2⟩ := sa_some fl.frs (by rw [List.length_map, List.length_range]; omega)
        refine Ja rfl rfl rfl (Jd (v := .pointer (some a)) rfl) ?_
        refine Ja rfl rfl rfl (Qm rfl) ?_
        refine Qu (fun w hF hS => hP.load f0 rfl (hw.now hF)) rfl rfl rfl ?_
        refine Ja rfl rfl rfl (Jd (v := .int .i64 n) rfl) ?_
        refine Ja rfl rfl rfl (r_indexP Try.underlying27 Try.sizeOf70 rfl rfl fl.frs (fl.ix h_x) hb2) ?_
        refine Ja rfl rfl rfl (Jl Try.runUnderlying70 rfl Try.sizeOf29 rfl rfl) ?_
        refine Ja rfl rfl rfl (Jl Try.runUnderlying29 rfl Try.sizeOf3 rfl rfl) ?_
        refine Qu (fun w hF hS => Qa (f := Wu h u 6) (i := n) (sz := 6) (j := 1) (k := n.toNat * 6 + 1) (a := some b) (v := .int .i64 x.Value.Kind) Try.isAgg3 (by simp [V4, Nat.add_assoc, upd, ev]) rfl (by rw [← hb2]; exact fl.frs.row (hw.now hF)) (fl.ix h_x) (Ur (Q1 (fl.at h_x)) rfl)) rfl rfl rfl ?_
        refine Ja rfl rfl rfl (Y9 rfl rfl) ?_
        refine Ja rfl rfl rfl (J0 (v := .bool (decide (x.Value.Kind ≠ 13))) rfl rfl) ?_
        refine Jf ?_
        refine J4 (b := decide (x.Value.Kind ≠ 13)) rfl (fun hk => ?_) (fun hk => ?_)
        ·have HG6 := Jo hk HG5
         have hz : z = none := (Option.some.inj HG6).symm
         have hr : r = none := by rw [hz] at HG2; exact (Option.some.inj HG2).symm
         refine Je ?_
         refine Jb ?_
         refine Ja rfl rfl rfl (Jc (v := .pointer none) rfl) ?_
         refine Ja rfl rfl rfl (Jc (v := .bool false) rfl) ?_
         refine Jf ?_
         refine Jq ?_
         exact ret2 (v1 := .pointer none) (v2 := .bool false) rfl rfl rfl (finC (.pointer none) (by rw [hr]; rfl) ⟨fun _ => rfl, fun ks hk => by rw [hr] at hk; cases hk⟩)
        ·have HG6 := Jp hk HG5
         obtain ⟨z2, h_z2, HG7⟩ := Ji HG6
         have hz : z = z2.map (n.toNat :: ·) := (Option.some.inj HG7).symm
         have hnx : l[n.toNat]'(by omega) = x := by rw [List.getElem?_eq_getElem (by omega)] at hne; exact Option.some.inj hne
         have hP2 := hP.step (n := n.toNat) (by omega) hb2
         rw [hnx] at hP2
         refine Js ?_
         refine Jb ?_
         refine Ja rfl rfl rfl (Jd (v := .pointer (some a)) rfl) ?_
         refine Ja rfl rfl rfl (Qm rfl) ?_
         refine Qu (fun w hF hS => hP.load f0 rfl (hw.now hF)) rfl rfl rfl ?_
         refine Ja rfl rfl rfl (Jd (v := .int .i64 n) rfl) ?_
         refine Ja rfl rfl rfl (r_indexP Try.underlying27 Try.sizeOf70 rfl rfl fl.frs (fl.ix h_x) hb2) ?_
         refine Ja rfl rfl rfl (Jl Try.runUnderlying70 rfl Try.sizeOf29 rfl rfl) ?_
         refine Ja rfl rfl rfl (Jl Try.runUnderlying29 rfl Try.sizeOf27 rfl rfl) ?_
         refine Ja rfl rfl rfl (Jc (v := .pointer (some ⟨b.block, b.off + n.toNat * 6 + 1 + 4, none⟩)) rfl) ?_
         refine Jf ?_
         refine Jb ?_
         refine Ja rfl rfl rfl (Qv rfl rfl (Qs (by have := f2.len; simp only [List.length_map] at this; omega))) ?_
         refine Ja rfl rfl rfl (Jd (v := .int .i64 ((i : Int) + 1)) rfl) ?_
         refine Jf ?_
         refine Jr (i + 1) (⟨b.block, b.off + (n.toNat * 6 + 1 + 4), none⟩, Qb h u 6 n.toNat 5, x.Value.Entries, ks ++ [n.toNat]) m [] (by exact ⟨rfl, rfl, rfl, rfl, trivial⟩) (by decide) rfl (by
           refine ⟨cnt_step Hc hi, hi, hP2, ?_⟩
           show J7 (X6 x.Value.Entries (ts.drop (i + 1))) _ = _
           rw [h_z2, Jg, ← HG2, hz]
           congr 1
           cases z2 <;> simp) (Nat.lt_succ_self _)
      ·have hi : i = ts.length := by have := of_decide_eq_false hb; omega
       rw [List.drop_eq_nil_of_le (by omega)] at HG
       have hr : r = some ks := by
        have : some (some (ks ++ ([] : List Nat))) = some r := HG
        rw [List.append_nil] at this; exact (Option.some.inj this).symm
       refine X7 ?_
       refine Je ?_
       refine Jb ?_
       refine Ja rfl rfl rfl (Jd (v := .pointer (some a)) rfl) ?_
       refine Ja rfl rfl rfl (Jc (v := .pointer (some a)) rfl) ?_
       refine Ja rfl rfl rfl (Jc (v := .bool true) rfl) ?_
       refine Jf ?_
       refine Jq ?_
       exact ret2 (v1 := .pointer (some a)) (v2 := .bool true) rfl rfl rfl (finC (.pointer (some a)) (by rw [hr]; rfl) ⟨fun h => (by rw [hr] at h; cases h), fun ks' hk => (by rw [hr] at hk; cases hk; exact ⟨a, u, l, rfl, hP⟩)⟩)
     ) (by kernel_rfl)
  ) (by kernel_rfl)
end Go.Proofs.Ytpljknglodhcnaa

/- A value is got. Conditions: sizes. -/
namespace Go.Proofs.Ytpljknglodhcnaa
open Go Go.Vc Go.Md Go.M Go.Lx
set_option maxRecDepth 100000
set_option maxHeartbeats 4000000
set_option linter.unusedVariables false
theorem imp_pooledE {Φ : Jx → Prop} (h : Φ U0) : Imp empC (Yi U0 Φ) := ⟨fun S w k => ⟨U0, h, Y7, fun b o hb => by cases hb⟩⟩
abbrev valP (v3 v4 v5 : Value) (x : T_tag_Value) (hp : Jx) : Prop := FrS hp 1 v3 (x.Ints.map J3) ∧ FrS hp 2 v4 (x.Ratios.map Jn) ∧ FrN hp 6 v5 g_tag_Entry x.Entries
theorem imp_ownP {Φ : Jx → List Nat → Prop} {Ψ : Jx → Prop} (k : ∀ h bs, Φ h bs → Ψ h) : Imp (ownC Φ) (Yi U0 Ψ) := ⟨fun _ _ ⟨hp, ⟨bs, h1, h2⟩, h3⟩ => ⟨hp, k _ _ h1, h3⟩⟩
theorem imp_valP {d : Nat} {v3 v4 v5 : Value} {x : T_tag_Value} :
    Imp (Xx (roV 1 v3 x.Ints.length (x.Ints.map J3)) (Xx (roV 2 v4 x.Ratios.length (x.Ratios.map Jn)) (treeC d v5 x.Entries))) (Yi U0 (valP v3 v4 v5 x)) :=
  imp_trans (imp_kid (x := ⟨0, x⟩)) (imp_ownP fun h bs t => by
    obtain ⟨w3, w4, w5, b5, e, e3, e4, e5, _⟩ := t
    simp only [List.cons.injEq, and_true, true_and] at e
    obtain ⟨rfl, rfl, rfl⟩ := e
    exact ⟨e3, e4, e5.frn⟩)
theorem valP_nil : valP (.slice none 0 0) (.slice none 0 0) (.slice none 0 0) noV U0 := ⟨FrS.nil _ _, FrS.nil _ _, ⟨FrS.nil _ _, fun i x hx => by cases hx⟩⟩
theorem k9 {a0 : T_tag_File} {v0_1 : Value} {a1 : List Int} {v1 : Value} {r : T_tag_Value × Int} {w : World} {h : Jx} (hw : Know h w X3) (f0_1 : FrN h 1 v0_1 gs_tag_Entry a0.Dirs) (f1 : FrS h 1 v1 (a1.map J3)) (H : tag_Get a0 a1 = some r) :
    Does Try.prog 9 (List.toArray [.agg #[.bool a0.Big, v0_1], v1]) w (fun v w' => ∃ x : (Option Addr × Nat) × (Option Addr × Nat) × (Option Addr × Nat), v = (.tuple #[.agg #[.int .i64 r.1.Kind, str r.1.Text, .slice x.1.1 r.1.Ints.length x.1.2, .slice x.2.1.1 r.1.Ratios.length x.2.1.2, .slice x.2.2.1 r.1.Entries.length x.2.2.2], .int .i64 r.2]) ∧
      Turn w w' X3 (Yi U0 (valP (.slice x.1.1 r.1.Ints.length x.1.2) (.slice x.2.1.1 r.1.Ratios.length x.2.1.2) (.slice x.2.2.1 r.1.Entries.length x.2.2.2) r.1))) := by
 unfold tag_Get at H
 refine enter (n := 48) Try.func9 rfl rfl rfl X3 [] (Sat.nil _ _) ?_
 refine Je ?_
 refine Jb ?_
 refine Yv (cs := [.bool a0.Big, v0_1]) rfl rfl rfl rfl (fun b0 => ?_)
 refine Ye (cs := [.int .i64 0, str [], .slice none 0 0, .slice none 0 0, .slice none 0 0]) Try.zeroValue29 rfl rfl rfl (fun b1 => ?_)
 refine Ja rfl rfl rfl (Jc (v := .int .i64 0) rfl) ?_
 refine Jf ?_
 refine Je ?_
 refine Je ?_
 refine Jb ?_
 refine Qg (i := 0) (vs := [.bool a0.Big, v0_1]) Try.isAgg24 Try.sizeOf24 rfl rfl rfl rfl rfl ?_
 obtain ⟨t11, h_t11, H1⟩ := Ji H
 refine Qn (fun w hF hS => k22 (Jy w) (f0_1.mono (hw.now hF)) h_t11) Try.call22 rfl rfl rfl ?_
 refine Ja rfl rfl rfl (Jc (v := .int .i64 t11) rfl) ?_
 refine Jf ?_
 refine Je ?_
 refine Jb ?_
 refine Ja rfl rfl rfl (Jd (v := .int .i64 t11) rfl) ?_
 refine Ja rfl rfl rfl (Y9 rfl rfl) ?_
 refine Jf ?_
 have err : ∀ {t : Int} {e : Xd} {fn : Func}, fn.results = #[.cell 4 29, .tmp 5] → r = (noV, t) → e 4 = .pointer (some ⟨b1, 0, none⟩) → e 5 = .int .i64 t → At ⟨w, X3⟩ (BodyQ Try.prog fn (fun v w' => ∃ x : (Option Addr × Nat) × (Option Addr × Nat) × (Option Addr × Nat), v = (.tuple #[.agg #[.int .i64 r.1.Kind, str r.1.Text, .slice x.1.1 r.1.Ints.length x.1.2, .slice x.2.1.1 r.1.Ratios.length x.2.1.2, .slice x.2.2.1 r.1.Entries.length x.2.2.2], .int .i64 r.2]) ∧
      Turn w w' X3 (Yi U0 (valP (.slice x.1.1 r.1.Ints.length x.1.2) (.slice x.2.1.1 r.1.Ratios.length x.2.1.2) (.slice x.2.2.1 r.1.Entries.length x.2.2.2) r.1))) .ret) e [Jv b0 [.bool a0.Big, v0_1] 24, Jv b1 [.int .i64 0, str [], .slice none 0 0, .slice none 0 0, .slice none 0 0] 29] := fun hfn hr h4 h5 => by
   subst hr
   refine c_emp ?_
   refine Xq 2 rfl (imp_pooledE valP_nil) ?_
   exact retCt (i := 1) (vs := [.int .i64 0, str [], .slice none 0 0, .slice none 0 0, .slice none 0 0]) (v2 := .int .i64 _) Try.isAgg29 Try.sizeOf29 hfn h4 rfl rfl h5 (Wf (((none, 0) : Option Addr × Nat), ((none, 0) : Option Addr × Nat), ((none, 0) : Option Addr × Nat)) (i := 2) rfl rfl (Imp.refl _))
 refine J4 (b := (decide (t11 ≠ 0))) rfl (fun hb => ?_) (fun hb => ?_)
 ·have H2 := Jo hb H1
  refine Je ?_
  refine Jb ?_
  refine Ja rfl rfl rfl (Ym (pl := #[(0, 1), (1, 1), (2, 1), (3, 1), (4, 1)]) (ps := []) (cells := #[.int .i64 0, str [], .slice none 0 0, .slice none 0 0, .slice none 0 0]) Try.zeroValue29 Try.runUnderlying29 (fun w => by kernel_rfl) rfl rfl) ?_
  refine Ja rfl rfl rfl (Jd (v := .int .i64 t11) rfl) ?_
  refine Qi (i := 1) (vs := [.int .i64 0, str [], .slice none 0 0, .slice none 0 0, .slice none 0 0]) (cs' := [.int .i64 0, str [], .slice none 0 0, .slice none 0 0, .slice none 0 0]) Try.sizeOf29 rfl rfl rfl rfl rfl rfl rfl rfl rfl ?_
  refine Ja rfl rfl rfl (Jc (v := .int .i64 t11) rfl) ?_
  refine Jf ?_
  refine Jq ?_
  refine err ?_ (Option.some.inj H2).symm ?_ ?_ <;> rfl
 ·have H3 := Jp hb H1
  obtain ⟨z, h_z, H4⟩ := Ji H3
  refine Js ?_
  refine Je ?_
  refine Jb ?_
  refine Ja rfl rfl rfl (Jd (v := v1) rfl) ?_
  refine l_callC (σ := Value) (G := fun x => .tuple #[x, .bool z.isSome]) (Φ := DirR h v0_1 a0.Dirs z) (fun w hF hS => k31_of (hw.at hF) (Jy w) (hw.at hF) (Vl (i := 0) hS rfl) f0_1 f1 h_z) Try.call31 rfl rfl rfl (fun pv hpv => ?_)
  refine Ja rfl rfl rfl (Jd (v := .tuple #[pv, .bool z.isSome]) rfl) ?_
  refine Ja rfl rfl rfl (Qf (v := pv) rfl rfl) ?_
  refine Ja rfl rfl rfl (Qf (v := .bool z.isSome) rfl rfl) ?_
  refine Ja rfl rfl rfl (Jc (v := pv) rfl) ?_
  refine Ja rfl rfl rfl (Jc (v := .bool z.isSome) rfl) ?_
  refine Jf ?_
  refine Je ?_
  refine Je ?_
  refine Jb ?_
  refine Ja rfl rfl rfl (Jd (v := .bool z.isSome) rfl) ?_
  refine Ja rfl rfl rfl (V3 rfl) ?_
  refine Jf ?_
  cases z with
  | none =>
   refine Y5 rfl ?_
   refine Je ?_
   refine Jb ?_
   refine Ja rfl rfl rfl (Ym (pl := #[(0, 1), (1, 1), (2, 1), (3, 1), (4, 1)]) (ps := []) (cells := #[.int .i64 0, str [], .slice none 0 0, .slice none 0 0, .slice none 0 0]) Try.zeroValue29 Try.runUnderlying29 (fun w => by kernel_rfl) rfl rfl) ?_
   refine Qi (i := 1) (vs := [.int .i64 0, str [], .slice none 0 0, .slice none 0 0, .slice none 0 0]) (cs' := [.int .i64 0, str [], .slice none 0 0, .slice none 0 0, .slice none 0 0]) Try.sizeOf29 rfl rfl rfl rfl rfl rfl rfl rfl rfl ?_
   refine Ja rfl rfl rfl (Jc (v := .int .i64 7) rfl) ?_
   refine Jf ?_
   refine Jq ?_
   refine err ?_ (Option.some.inj H4).symm ?_ ?_ <;> rfl
  | some ks =>
   obtain ⟨a, u, l, rfl, hP⟩ := hpv.2 ks rfl
   have hl : getF ks a0.Dirs = l := hP.getF
   have fl := hP.frn f0_1
   obtain ⟨q, h_q, H5⟩ := Ji H4
   obtain ⟨t, h_t, H6⟩ := Ji H5
   rw [hl] at H6
   obtain ⟨⟨n, ok⟩, h_pl, H7⟩ := Ji H6
   refine W2 rfl ?_
   refine Js ?_
   refine Je ?_
   exact Qp (Kd.p :: Kd.p :: Kd.d [] u :: Kd.p :: Kd.p :: Kd.p :: Kd.p :: Kd.p :: Kd.d [] (.int .i64 t) :: Kd.d [] (.tuple #[.int .i64 n, .bool ok]) :: Kd.p :: Kd.p :: Kd.p :: Kd.p :: Kd.p :: []) 0 mixed (by
    refine Jj rfl rfl (Jd (v := .pointer (some a)) rfl) ?_
    refine Jj rfl rfl (Qm rfl) ?_
    refine Zw (fun w hF => hP.load f0_1 rfl (hw.now hF)) rfl rfl ?_
    refine Jj rfl rfl (Jd (v := v1) rfl) ?_
    refine Jj rfl rfl (Jd (v := v1) rfl) ?_
    refine Jj rfl rfl (Xy Try.underlying25 rfl f1 rfl) ?_
    refine Jj rfl rfl (r_subG rfl rfl h_q) ?_
    refine Jj rfl rfl (Qe Try.underlying25 Try.sizeOf3 rfl rfl f1 h_t) ?_
    refine Zw (fun w hF => Qa (f := J3) (i := q) (sz := 1) (j := 0) (v := .int .i64 t) Try.isAgg3 rfl rfl (f1.row (hw.now hF)) h_t rfl) rfl rfl ?_
    refine d_callD (fun w L' hF hS hi => k32 (Jy w) (fl.mono (hw.now hF)) h_pl) Try.call32 rfl rfl ?_
    refine Jj rfl rfl (Jd (v := .tuple #[.int .i64 n, .bool ok]) rfl) ?_
    refine Jj rfl rfl (Qf (v := .int .i64 n) rfl rfl) ?_
    refine Jj rfl rfl (Qf (v := .bool ok) rfl rfl) ?_
    refine Jj rfl rfl (Jc (v := .int .i64 n) rfl) ?_
    refine Jj rfl rfl (Jc (v := .bool ok) rfl) ?_
    refine Xm ?_
    refine Je ?_
    refine Je ?_
    refine Jb ?_
    refine Ja rfl rfl rfl (Jd (v := .bool ok) rfl) ?_
    refine Ja rfl rfl rfl (V3 rfl) ?_
    refine Jf ?_
    cases ok with
    | false =>
     refine Y5 rfl ?_
     refine Je ?_
     refine Jb ?_
     refine Ja rfl rfl rfl (Ym (pl := #[(0, 1), (1, 1), (2, 1), (3, 1), (4, 1)]) (ps := []) (cells := #[.int .i64 0, str [], .slice none 0 0, .slice none 0 0, .slice none 0 0]) Try.zeroValue29 Try.runUnderlying29 (fun w => by kernel_rfl) rfl rfl) ?_
     refine Qi (i := 1) (vs := [.int .i64 0, str [], .slice none 0 0, .slice none 0 0, .slice none 0 0]) (cs' := [.int .i64 0, str [], .slice none 0 0, .slice none 0 0, .slice none 0 0]) Try.sizeOf29 rfl rfl rfl rfl rfl rfl rfl rfl rfl ?_
     refine Ja rfl rfl rfl (Jc (v := .int .i64 7) rfl) ?_
     refine Jf ?_
     refine Jq ?_
     refine err ?_ (Option.some.inj H7).symm ?_ ?_ <;> rfl
    | true =>
     have H8 : J7 (Xt l n) (fun e => open Classical in if fitV 8 e.Value then some (e.Value, 0) else none) = some r := H7
     obtain ⟨x, h_x, H9⟩ := Ji H8
     have hfit : fitV 8 x.Value := Classical.byContradiction fun hh => by rw [if_neg hh] at H9; cases H9
     rw [if_pos hfit] at H9
     obtain rfl := Option.some.inj H9
     obtain ⟨hn0, hn1, hne⟩ := Yp h_x
     obtain ⟨b, hb2⟩ := sa_some fl.frs (by rw [List.length_map, List.length_range]; omega)
     obtain ⟨q0, q1⟩ := g_tag_Entry_iff.1 (fl.at h_x)
     refine W2 rfl ?_
     refine Js ?_
     refine Je ?_
     refine Jb ?_
     refine Ja rfl rfl rfl (Jd (v := .pointer (some a)) rfl) ?_
     refine Ja rfl rfl rfl (Qm rfl) ?_
     refine Qu (fun w hF hS => hP.load f0_1 rfl (hw.now hF)) rfl rfl rfl ?_
     refine Ja rfl rfl rfl (Jd (v := .int .i64 n) rfl) ?_
     refine Ja rfl rfl rfl (r_indexP Try.underlying27 Try.sizeOf70 rfl rfl fl.frs (fl.ix h_x) hb2) ?_
     refine Ja rfl rfl rfl (Jl Try.runUnderlying70 rfl Try.sizeOf29 rfl rfl) ?_
     refine Qu (fun w hF hS => Xr (f := Wu h u 6) (i := n) (sz := 6) (j := 1) (k := n.toNat * 6 + 1) (a := some b) (vs := [.int .i64 x.Value.Kind, str x.Value.Text, Qb h u 6 n.toNat 3, Qb h u 6 n.toNat 4, Qb h u 6 n.toNat 5]) Try.isAgg29 Try.sizeOf29 rfl rfl (by rw [← hb2]; exact fl.frs.row (hw.now hF)) (fl.ix h_x) (rd_of (Q1 (fl.at h_x)) rfl)) rfl rfl rfl ?_
     refine Vh (Q9 (rds := []) (G := fun y : (Option Addr × Nat) × (Option Addr × Nat) × (Option Addr × Nat) => (.agg #[.int .i64 x.Value.Kind, str x.Value.Text, .slice y.1.1 x.Value.Ints.length y.1.2, .slice y.2.1.1 x.Value.Ratios.length y.2.1.2, .slice y.2.2.1 x.Value.Entries.length y.2.2.2])) (C := fun y : (Option Addr × Nat) × (Option Addr × Nat) × (Option Addr × Nat) => (Xx (roV 1 (.slice y.1.1 x.Value.Ints.length y.1.2) x.Value.Ints.length (x.Value.Ints.map J3)) (Xx (roV 2 (.slice y.2.1.1 x.Value.Ratios.length y.2.1.2) x.Value.Ratios.length (x.Value.Ratios.map Jn)) (treeC 8 (.slice y.2.2.1 x.Value.Entries.length y.2.2.2) x.Value.Entries)))) (fun w L' hF hS hi' => k33_of (k61_all 8) (Jy w) ((show FrS h 1 (Qb h u 6 n.toNat 3) (x.Value.Ints.map J3) from J9 q1).mono (hw.now hF)) ((show FrS h 2 (Qb h u 6 n.toNat 4) (x.Value.Ratios.map Jn) from J8 q1).mono (hw.now hF)) ((show FrN h 6 (Qb h u 6 n.toNat 5) g_tag_Entry x.Value.Entries from J2 q1).mono (hw.now hF)) hfit) Try.call33 rfl) rfl rfl rfl (fun ⟨p3, p4, p5⟩ => ?_)
     refine Qi (i := 1) (vs := [.int .i64 x.Value.Kind, str x.Value.Text, .slice p3.1 x.Value.Ints.length p3.2, .slice p4.1 x.Value.Ratios.length p4.2, .slice p5.1 x.Value.Entries.length p5.2]) (cs' := [.int .i64 x.Value.Kind, str x.Value.Text, .slice p3.1 x.Value.Ints.length p3.2, .slice p4.1 x.Value.Ratios.length p4.2, .slice p5.1 x.Value.Entries.length p5.2]) Try.sizeOf29 rfl rfl rfl rfl rfl rfl rfl rfl rfl ?_
     refine Ja rfl rfl rfl (Jc (v := .int .i64 0) rfl) ?_
     refine Jf ?_
     refine Jq ?_
     refine Xq 2 rfl imp_valP ?_
     exact retCt (i := 1) (vs := [.int .i64 x.Value.Kind, str x.Value.Text, .slice p3.1 x.Value.Ints.length p3.2, .slice p4.1 x.Value.Ratios.length p4.2, .slice p5.1 x.Value.Entries.length p5.2]) (v2 := .int .i64 0) Try.isAgg29 Try.sizeOf29 rfl rfl rfl rfl rfl (Wf (p3, p4, p5) (i := 2) rfl rfl (Imp.refl _))
   ) (by kernel_rfl)
end Go.Proofs.Ytpljknglodhcnaa

/- An entry is dropped. Conditions: sizes. -/
namespace Go.Proofs.Ytpljknglodhcnaa
open Go Go.Vc Go.Md Go.M Go.Lx
set_option maxRecDepth 100000
set_option maxHeartbeats 4000000
set_option linter.unusedVariables false
theorem Pth.addr {h : Jx} {dv : Value} {ls : List (List T_tag_Entry)} {ks : List Nat} {a : Addr} {u : Value} {l : List T_tag_Entry} (p : Pth h dv ls ks a u l) : ∃ b o, a = ⟨b, o, none⟩ := by
  cases p with
  | base hi ha => exact ⟨_, _, rfl⟩
  | step p hn hb => exact ⟨_, _, rfl⟩
theorem putF_len (ks : List Nat) (ls : List (List T_tag_Entry)) (l' : List T_tag_Entry) : (putF ks ls l').length = ls.length := by
  cases ks with
  | nil => rfl
  | cons i ks =>
    show (match ls[i]? with | some l => ls.set i (putL ks l l') | none => ls).length = _
    cases ls[i]? with
    | none => rfl
    | some l => exact List.length_set
theorem tree_row {d : Nat} {h : Jx} {u : Value} {l : List T_tag_Entry} {bs : List Nat} (t : TreeL d h u l bs) (hn : bs.Nodup) :
    ∃ (p : Option Addr × Nat) (css : List (List Value)), u = .slice p.1 css.length p.2 ∧ css.length = l.length ∧ RowP h 70 6 u css ∧ (∀ b, u.ownBlock = some b → b ∈ bs) ∧ ∀ h' : Jx, (∀ q ∈ bs, u.ownBlock ≠ some q → ∀ o, h q = some o → h' q = some o) → AllC g_tag_Entry h' 6 css l := by
  cases d with
  | zero =>
    obtain ⟨rfl, rfl, rfl⟩ := t
    exact ⟨(none, 0), [], rfl, rfl, ⟨by simp, .inl ⟨rfl, rfl⟩⟩, fun b hb => (by cases hb), fun h' _ => AllC.nil⟩
  | succ d =>
    obtain ⟨css, b2, r, k, rfl⟩ := t
    obtain ⟨n1, n2, n3⟩ := List.nodup_append.1 hn
    obtain ⟨p, hu⟩ : ∃ p : Option Addr × Nat, u = .slice p.1 css.length p.2 := by
      rcases r.2 with ⟨rfl, rfl⟩ | ⟨g, cap, cur, rfl, _⟩
      · exact ⟨(none, 0), rfl⟩
      · exact ⟨(some ⟨g, 0, none⟩, cap), rfl⟩
    refine ⟨p, css, hu, k.len, r, fun b hb => by simp [hb], fun h' ag => ?_⟩
    have k2 : KidsG (TreeE (TreeL d)) h' css l b2 := k.agree (fun c x b t k => t.agree (fun v xs b t k => t.agree k) k) fun q hq => ag q (List.mem_append_right _ hq) fun e => n3 q (by simp [e]) q hq rfl
    exact k2.allC fun c x b t => by
      obtain ⟨v3, v4, v5, b5, rfl, e2, e3, e4, _⟩ := t
      have f := e4.frn
      exact ⟨rfl, .mk rfl rfl rfl e2 e3 f.frs f.el⟩
theorem at_frn {h' : Jx} {u : Value} {css : List (List Value)} {l : List T_tag_Entry} (f : FrS h' 6 u (css.map idC)) (p : AllC g_tag_Entry h' 6 css l) : FrN h' 6 u g_tag_Entry l := frn_of f p
abbrev filP (v : Value) (ls : List (List T_tag_Entry)) (hp : Jx) : Prop := FrN hp 1 v gs_tag_Entry ls
theorem filP_nil : filP (.slice none 0 0) [] U0 := ⟨FrS.nil _ _, fun i x hx => by cases hx⟩
theorem k11 {a0 : T_tag_File} {v0_1 : Value} {a1 : List Int} {v1 : Value} {r : T_tag_File × Int} {w : World} {h : Jx} (hw : Know h w X3) (f0_1 : FrN h 1 v0_1 gs_tag_Entry a0.Dirs) (f1 : FrS h 1 v1 (a1.map J3)) (H : tag_Drop a0 a1 = some r) :
    Does Try.prog 11 (List.toArray [.agg #[.bool a0.Big, v0_1], v1]) w (fun v w' => ∃ x : (Option Addr × Nat), v = (.tuple #[.agg #[.bool r.1.Big, .slice x.1 r.1.Dirs.length x.2], .int .i64 r.2]) ∧ Turn w w' X3 (Yi U0 (filP (.slice x.1 r.1.Dirs.length x.2) r.1.Dirs))) := by
 unfold tag_Drop at H
 refine enter (n := 53) Try.func11 rfl rfl rfl X3 [] (Sat.nil _ _) ?_
 refine Je ?_
 refine Jb ?_
 refine Yv (cs := [.bool a0.Big, v0_1]) rfl rfl rfl rfl (fun b0 => ?_)
 refine Ye (cs := [.bool false, .slice none 0 0]) Try.zeroValue24 rfl rfl rfl (fun b1 => ?_)
 refine Ja rfl rfl rfl (Jc (v := .int .i64 0) rfl) ?_
 refine Jf ?_
 refine Je ?_
 refine Je ?_
 refine Jb ?_
 refine Qg (i := 0) (vs := [.bool a0.Big, v0_1]) Try.isAgg24 Try.sizeOf24 rfl rfl rfl rfl rfl ?_
 obtain ⟨t11, h_t11, H1⟩ := Ji H
 refine Qn (fun w hF hS => k22 (Jy w) (f0_1.mono (hw.now hF)) h_t11) Try.call22 rfl rfl rfl ?_
 refine Ja rfl rfl rfl (Jc (v := .int .i64 t11) rfl) ?_
 refine Jf ?_
 refine Je ?_
 refine Jb ?_
 refine Ja rfl rfl rfl (Jd (v := .int .i64 t11) rfl) ?_
 refine Ja rfl rfl rfl (Y9 rfl rfl) ?_
 refine Jf ?_
 have err : ∀ {t : Int} {e : Xd} {fn : Func} {bx rest}, fn.results = #[.cell 4 24, .tmp 5] → r = (noF, t) → e 4 = .pointer (some ⟨b1, 0, none⟩) → e 5 = .int .i64 t → At ⟨w, X3⟩ (BodyQ Try.prog fn (fun v w' => ∃ x : (Option Addr × Nat), v = (.tuple #[.agg #[.bool r.1.Big, .slice x.1 r.1.Dirs.length x.2], .int .i64 r.2]) ∧
      Turn w w' X3 (Yi U0 (filP (.slice x.1 r.1.Dirs.length x.2) r.1.Dirs))) .ret) e (bx :: Jv b1 [.bool false, .slice none 0 0] 24 :: rest) := fun {t e fn bx rest} hfn hr h4 h5 => by
   subst hr
   refine c_emp ?_
   have e1 : (bx :: Jv b1 [.bool false, .slice none 0 0] 24 :: rest ++ [empC])[rest.length + 2]? = some empC := by
    rw [List.getElem?_append_right (by simp)]; simp
   refine Xq (rest.length + 2) e1 (imp_pooledE filP_nil) ?_
   exact retCt (i := 1) (vs := [.bool false, .slice none 0 0]) (v2 := .int .i64 _) Try.isAgg24 Try.sizeOf24 hfn h4 (by rw [List.getElem?_set_ne (by omega)]; rfl) rfl h5 (Wf ((none, 0) : Option Addr × Nat) (i := rest.length + 2) (List.getElem?_set_self (by simp)) rfl (Imp.refl _))
 refine J4 (b := (decide (t11 ≠ 0))) rfl (fun hb => ?_) (fun hb => ?_)
 ·have H2 := Jo hb H1
  refine Je ?_
  refine Jb ?_
  refine Ja rfl rfl rfl (Ym (pl := #[(0, 1), (1, 1)]) (ps := []) (cells := #[.bool false, .slice none 0 0]) Try.zeroValue24 Try.runUnderlying24 (fun w => by kernel_rfl) rfl rfl) ?_
  refine Ja rfl rfl rfl (Jd (v := .int .i64 t11) rfl) ?_
  refine Qi (i := 1) (vs := [.bool false, .slice none 0 0]) (cs' := [.bool false, .slice none 0 0]) Try.sizeOf24 rfl rfl rfl rfl rfl rfl rfl rfl rfl ?_
  refine Ja rfl rfl rfl (Jc (v := .int .i64 t11) rfl) ?_
  refine Jf ?_
  refine Jq ?_
  refine err ?_ (Option.some.inj H2).symm ?_ ?_ <;> rfl
 ·have H3 := Jp hb H1
  have hfit : fitF 8 a0 := Classical.byContradiction fun hh => by rw [if_neg hh] at H3; cases H3
  rw [if_pos hfit] at H3
  obtain ⟨z, h_z, H4⟩ := Ji H3
  refine Js ?_
  refine Je ?_
  refine Jb ?_
  refine Qg (i := 0) (vs := [.bool a0.Big, v0_1]) Try.isAgg24 Try.sizeOf24 rfl rfl rfl rfl rfl ?_
  refine Vh (Q9 (rds := []) (G := fun x : (Option Addr × Nat) => (.agg #[.bool a0.Big, .slice x.1 a0.Dirs.length x.2])) (C := fun x : (Option Addr × Nat) => fileC 8 (.slice x.1 a0.Dirs.length x.2) a0.Dirs) (fun w L' hF hS hi => k35_of (Jy w) (f0_1.mono (hw.now hF)) hfit) Try.call35 rfl) rfl rfl rfl (fun p => ?_)
  refine Qi (i := 0) (vs := [.bool a0.Big, .slice p.1 a0.Dirs.length p.2]) (cs' := [.bool a0.Big, .slice p.1 a0.Dirs.length p.2]) Try.sizeOf24 rfl rfl rfl rfl rfl rfl rfl rfl rfl ?_
  refine Jf ?_
  refine Ud 2 rfl (fun hp ⟨bs, tF, hnd, hdom⟩ => ?_)
  have f0 := tF.frn
  refine Je ?_
  refine Jb ?_
  refine Ja rfl rfl rfl (Jd (v := v1) rfl) ?_
  refine l_callC (σ := Value) (G := fun x => .tuple #[x, .bool z.isSome]) (Φ := DirR hp (.slice p.1 a0.Dirs.length p.2) a0.Dirs z) (fun w hF hS => k31_of (know_pool (i := 2) hS rfl Y7) (Jy w) (hw.at hF) (Vl (i := 0) hS rfl) f0 f1 h_z) Try.call31 rfl rfl rfl (fun pv hpv => ?_)
  refine Ja rfl rfl rfl (Jd (v := .tuple #[pv, .bool z.isSome]) rfl) ?_
  refine Ja rfl rfl rfl (Qf (v := pv) rfl rfl) ?_
  refine Ja rfl rfl rfl (Qf (v := .bool z.isSome) rfl rfl) ?_
  refine Ja rfl rfl rfl (Jc (v := pv) rfl) ?_
  refine Ja rfl rfl rfl (Jc (v := .bool z.isSome) rfl) ?_
  refine Jf ?_
  refine Je ?_
  refine Je ?_
  refine Jb ?_
  refine Ja rfl rfl rfl (Jd (v := .bool z.isSome) rfl) ?_
  refine Ja rfl rfl rfl (V3 rfl) ?_
  refine Jf ?_
  cases z with
  | none =>
   refine Y5 rfl ?_
   refine Je ?_
   refine Jb ?_
   refine Ja rfl rfl rfl (Ym (pl := #[(0, 1), (1, 1)]) (ps := []) (cells := #[.bool false, .slice none 0 0]) Try.zeroValue24 Try.runUnderlying24 (fun w => by kernel_rfl) rfl rfl) ?_
   refine Qi (i := 1) (vs := [.bool false, .slice none 0 0]) (cs' := [.bool false, .slice none 0 0]) Try.sizeOf24 rfl rfl rfl rfl rfl rfl rfl rfl rfl ?_
   refine Ja rfl rfl rfl (Jc (v := .int .i64 7) rfl) ?_
   refine Jf ?_
   refine Jq ?_
   refine err ?_ (Option.some.inj H4).symm ?_ ?_ <;> rfl
  | some ks =>
   obtain ⟨a, u, l, rfl, hP⟩ := hpv.2 ks rfl
   have hl : getF ks a0.Dirs = l := hP.getF
   have fl := hP.frn f0
   obtain ⟨q, h_q, H5⟩ := Ji H4
   obtain ⟨t, h_t, H6⟩ := Ji H5
   rw [hl] at H6
   obtain ⟨⟨n, ok⟩, h_pl, H7⟩ := Ji H6
   obtain ⟨ab, ao, rfl⟩ := hP.addr
   refine W2 rfl ?_
   refine Js ?_
   refine Je ?_
   exact Qp (Kd.p :: Kd.p :: Kd.d [2] u :: Kd.p :: Kd.p :: Kd.p :: Kd.p :: Kd.p :: Kd.d [] (.int .i64 t) :: Kd.d [2] (.tuple #[.int .i64 n, .bool ok]) :: Kd.p :: Kd.p :: Kd.p :: Kd.p :: Kd.p :: []) 0 mixed (by
    refine Jj rfl rfl (Jd (v := .pointer (some ⟨ab, ao, none⟩)) rfl) ?_
    refine Jj rfl rfl (Qm rfl) ?_
    refine Wz (fun w L' hF hS hi => hP.load f0 rfl (Xe (i := 2) hS ((hi 2 (by simp)).trans rfl) Y7)) rfl rfl ?_
    refine Jj rfl rfl (Jd (v := v1) rfl) ?_
    refine Jj rfl rfl (Jd (v := v1) rfl) ?_
    refine Jj rfl rfl (Xy Try.underlying25 rfl f1 rfl) ?_
    refine Jj rfl rfl (r_subG rfl rfl h_q) ?_
    refine Jj rfl rfl (Qe Try.underlying25 Try.sizeOf3 rfl rfl f1 h_t) ?_
    refine Zw (fun w hF => Qa (f := J3) (i := q) (sz := 1) (j := 0) (v := .int .i64 t) Try.isAgg3 rfl rfl (f1.row (hw.now hF)) h_t rfl) rfl rfl ?_
    refine d_callD (fun w L' hF hS hi => k32 (Jy w) (fl.mono (Xe (i := 2) hS ((hi 2 (by simp)).trans rfl) Y7)) h_pl) Try.call32 rfl rfl ?_
    refine Jj rfl rfl (Jd (v := .tuple #[.int .i64 n, .bool ok]) rfl) ?_
    refine Jj rfl rfl (Qf (v := .int .i64 n) rfl rfl) ?_
    refine Jj rfl rfl (Qf (v := .bool ok) rfl rfl) ?_
    refine Jj rfl rfl (Jc (v := .int .i64 n) rfl) ?_
    refine Jj rfl rfl (Jc (v := .bool ok) rfl) ?_
    refine Xm ?_
    refine Je ?_
    refine Je ?_
    refine Jb ?_
    refine Ja rfl rfl rfl (Jd (v := .bool ok) rfl) ?_
    refine Ja rfl rfl rfl (V3 rfl) ?_
    refine Jf ?_
    cases ok with
    | false =>
     refine Y5 rfl ?_
     refine Je ?_
     refine Jb ?_
     refine Ja rfl rfl rfl (Ym (pl := #[(0, 1), (1, 1)]) (ps := []) (cells := #[.bool false, .slice none 0 0]) Try.zeroValue24 Try.runUnderlying24 (fun w => by kernel_rfl) rfl rfl) ?_
     refine Qi (i := 1) (vs := [.bool false, .slice none 0 0]) (cs' := [.bool false, .slice none 0 0]) Try.sizeOf24 rfl rfl rfl rfl rfl rfl rfl rfl rfl ?_
     refine Ja rfl rfl rfl (Jc (v := .int .i64 7) rfl) ?_
     refine Jf ?_
     refine Jq ?_
     refine err ?_ (Option.some.inj H7).symm ?_ ?_ <;> rfl
    | true =>
     have H8 : J7 (gI (n + 1)) (fun p1 => J7 (gDelN l n p1) fun l' => some ((⟨a0.Big, putF ks a0.Dirs l'⟩ : T_tag_File), (0 : Int))) = some r := H7
     obtain ⟨n1, h_n1, H9⟩ := Ji H8
     obtain ⟨l', h_l', H10⟩ := Ji H9
     obtain rfl := Option.some.inj H10
     obtain ⟨cl, T, d', bsub, c1, c2, c3, c4, c5, c6, c7, c8⟩ := hole_of tF hnd hP
     obtain ⟨pu, css, rfl, hcl, rw_, hob, hall⟩ := tree_row c7 c6
     have hA0 := hall hp (fun q _ _ o k => k)
     obtain ⟨hg, _⟩ := hA0.del h_l'
     have hone := AllC.ones hA0 (fun c x f j hj => ent_one f j hj)
     have hne : (Value.slice pu.1 css.length pu.2).ownBlock ≠ some ab := fun e => c4 (hob ab e)
     refine W2 rfl ?_
     refine Js ?_
     refine Je ?_
     refine Jb ?_
     refine Ja rfl rfl rfl (Jd (v := .pointer (some ⟨ab, ao, none⟩)) rfl) ?_
     refine Ja rfl rfl rfl (Jd (v := .pointer (some ⟨ab, ao, none⟩)) rfl) ?_
     refine Ja rfl rfl rfl (Qm rfl) ?_
     refine Qu (fun w hF hS => hP.load f0 rfl (Xe (i := 2) hS rfl Y7)) rfl rfl rfl ?_
     refine Ja rfl rfl rfl (Jd (v := .int .i64 n) rfl) ?_
     refine Ja rfl rfl rfl (Jd (v := .int .i64 n) rfl) ?_
     refine Ja rfl rfl rfl (Qv rfl rfl h_n1) ?_
     refine Xq 2 rfl (imp_thaw rw_ rfl) ?_
     refine U5 2 rfl ?_
     refine Xq 3 rfl (imp_trans (imp_rowO _ _ _ _ _) (Imp.of (show Z1 70 6 (.slice pu.1 css.length pu.2) css.length css = Z1 70 6 (.slice pu.1 css.length pu.2) css.length (css.map idC) from by rw [Q4]))) ?_
     refine Zg (Xp (i := 3) (rds := []) (G := fun _ : Unit => .slice pu.1 (Wx css n n1).length pu.2) (C := fun _ : Unit => Z1 70 6 (.slice pu.1 (Wx css n n1).length pu.2) (Wx css n n1).length ((Wx css n n1).map idC)) rfl (fun w L' S hF hS hi hp hlt ho hA => k38 (p0 := pu) hp hlt (Y8 w S) rfl hone hg) Try.call38 rfl) rfl rfl rfl (fun _ => ?_)
     refine Qn (fun w hF hS => k36 (capOfO (i := 3) hS rfl) w) Try.call36 rfl rfl rfl ?_
     refine Ja rfl rfl rfl (Qm rfl) ?_
     refine l_turn0 (turns_storeP (q := 2) (b := ab) (o := ao) (cs := cl) (cs' := cl.set ao (.slice (Qz pu.1 0 (Wx css n n1).length 6) (Wx css n n1).length (Wx css n n1).length)) (T0 := T) (hp := rmV hp (.slice pu.1 css.length pu.2)) (vs := [.slice (Qz pu.1 0 (Wx css n n1).length 6) (Wx css n n1).length (Wx css n n1).length]) Try.sizeOf27 rfl rfl rfl rfl rfl rfl (wr_set (List.getElem?_eq_some_iff.1 c2).1) rfl ((if_neg hne).trans c1)) rfl rfl (fun _ => ?_)
     refine Jf ?_
     refine Xq 3 rfl (imp_clipRO _ _ _ _ _ _) ?_
     refine Ws (Φ := fun H_ => FrS H_ 6 (.slice (Qz pu.1 0 (Wx css n n1).length 6) (Wx css n n1).length (Wx css n n1).length) ((Wx css n n1).map idC)) 2 3 rfl rfl (by decide) (fun _ _ => Y7) (fz_offO _) (fun hp2 hle hf => ?_)
     have ag : ∀ q ∈ bs, q ≠ ab → (Value.slice pu.1 css.length pu.2).ownBlock ≠ some q → ∀ o, hp q = some o → hp2 q = some o := fun q hq hqa hqu o ho => hle q o (by rw [updH_ne hqa]; exact (if_neg hqu).trans ho)
     have hA2 := hall hp2 (fun q hq hqu o ho => ag q (c5 q hq) (fun e => c4 (e ▸ hq)) hqu o ho)
     obtain ⟨_, pf⟩ := hA2.del h_l'
     have fin := c8 hp2 _ l' (fun q hq hqa hqs o ho => ag q hq hqa (fun e => hqs (hob q e)) o ho) (hle _ _ updH_self) (at_frn hf pf)
     refine Je ?_
     refine Jb ?_
     refine Qg (i := 0) (vs := [.bool a0.Big, .slice p.1 a0.Dirs.length p.2]) Try.isAgg24 Try.sizeOf24 rfl rfl rfl rfl rfl ?_
     refine Qi (i := 1) (vs := [.bool a0.Big, .slice p.1 a0.Dirs.length p.2]) (cs' := [.bool a0.Big, .slice p.1 a0.Dirs.length p.2]) Try.sizeOf24 rfl rfl rfl rfl rfl rfl rfl rfl rfl ?_
     refine Ja rfl rfl rfl (Jc (v := .int .i64 0) rfl) ?_
     refine Jf ?_
     refine Jq ?_
     refine Xq 2 rfl (V1 (Φ := filP (.slice p.1 (putF ks a0.Dirs l').length p.2) (putF ks a0.Dirs l')) (by rw [putF_len]; exact fin)) ?_
     exact retCt (i := 1) (vs := [.bool a0.Big, .slice p.1 a0.Dirs.length p.2]) (v2 := .int .i64 0) Try.isAgg24 Try.sizeOf24 rfl rfl rfl rfl rfl (Wf p (i := 2) rfl (by rw [putF_len]) (Imp.refl _))
   ) (by kernel_rfl)
end Go.Proofs.Ytpljknglodhcnaa

/- An entry is put. Conditions: sizes. -/
namespace Go.Proofs.Ytpljknglodhcnaa
open Go Go.Vc Go.Md Go.M Go.Lx
set_option maxRecDepth 100000
set_option maxHeartbeats 4000000
set_option linter.unusedVariables false
theorem k10 {a0 : T_tag_File} {v0_1 : Value} {a1 : List Int} {v1 : Value} {a2 : T_tag_Value} {v2_2 v2_3 v2_4 : Value} {r : T_tag_File × Int} {w : World} {h : Jx} (hw : Know h w X3) (f0_1 : FrN h 1 v0_1 gs_tag_Entry a0.Dirs) (f1 : FrS h 1 v1 (a1.map J3))
  (f2_2 : FrS h 1 v2_2 (a2.Ints.map J3)) (f2_3 : FrS h 2 v2_3 (a2.Ratios.map Jn)) (f2_4 : FrN h 6 v2_4 g_tag_Entry a2.Entries) (H : V7 a0 a1 a2 = some r) :
    Does Try.prog 10 (List.toArray [.agg #[.bool a0.Big, v0_1], v1, .agg #[.int .i64 a2.Kind, str a2.Text, v2_2, v2_3, v2_4]]) w (fun v w' => ∃ x : (Option Addr × Nat), v = (.tuple #[.agg #[.bool r.1.Big, .slice x.1 r.1.Dirs.length x.2], .int .i64 r.2]) ∧ Turn w w' X3 (Yi U0 (filP (.slice x.1 r.1.Dirs.length x.2) r.1.Dirs))) := by
 unfold V7 at H
 refine enter (n := 80) Try.func10 rfl rfl rfl X3 [] (Sat.nil _ _) ?_
 refine Je ?_
 refine Jb ?_
 refine Yv (cs := [.bool a0.Big, v0_1]) rfl rfl rfl rfl (fun b0 => ?_)
 refine Yv (cs := [.int .i64 a2.Kind, str a2.Text, v2_2, v2_3, v2_4]) rfl rfl rfl rfl (fun b1 => ?_)
 refine Ye (cs := [.bool false, .slice none 0 0]) Try.zeroValue24 rfl rfl rfl (fun b2 => ?_)
 refine Ja rfl rfl rfl (Jc (v := .int .i64 0) rfl) ?_
 refine Jf ?_
 try dsimp only [z1, z2, z3, z4, z5, z6, z7, z8]
 have err : ∀ {t : Int} {e : Xd} {fn : Func} {bx bv rest}, fn.results = #[.cell 6 24, .tmp 7] → r = (noF, t) → e 6 = .pointer (some ⟨b2, 0, none⟩) → e 7 = .int .i64 t → At ⟨w, X3⟩ (BodyQ Try.prog fn (fun v w' => ∃ x : (Option Addr × Nat), v = (.tuple #[.agg #[.bool r.1.Big, .slice x.1 r.1.Dirs.length x.2], .int .i64 r.2]) ∧ Turn w w' X3 (Yi U0 (filP (.slice x.1 r.1.Dirs.length x.2) r.1.Dirs))) .ret) e (bx :: bv :: Jv b2 [.bool false, .slice none 0 0] 24 :: rest) := fun {t e fn bx bv rest} hfn hr h4 h5 => by
   subst hr
   refine c_emp ?_
   have e1 : (bx :: bv :: Jv b2 [.bool false, .slice none 0 0] 24 :: rest ++ [empC])[rest.length + 3]? = some empC := by
    rw [List.getElem?_append_right (by simp)]; simp
   refine Xq (rest.length + 3) e1 (imp_pooledE filP_nil) ?_
   exact retCt (i := 2) (vs := [.bool false, .slice none 0 0]) (v2 := .int .i64 _) Try.isAgg24 Try.sizeOf24 hfn h4 (by rw [List.getElem?_set_ne (by omega)]; rfl) rfl h5 (Wf ((none, 0) : Option Addr × Nat) (i := rest.length + 3) (List.getElem?_set_self (by simp)) rfl (Imp.refl _))
 refine Je ?_
 refine Je ?_
 refine Jb ?_
 refine Qg (i := 0) (vs := [.bool a0.Big, v0_1]) Try.isAgg24 Try.sizeOf24 rfl rfl rfl rfl rfl ?_
 obtain ⟨t11, h_t11, H1⟩ := Ji H
 refine Qn (fun w hF hS => k22 (Jy w) (f0_1.mono (hw.now hF)) h_t11) Try.call22 rfl rfl rfl ?_
 refine Ja rfl rfl rfl (Jc (v := .int .i64 t11) rfl) ?_
 refine Jf ?_
 try dsimp only [z1, z2, z3, z4, z5, z6, z7, z8]
 refine Je ?_
 refine Jb ?_
 refine Ja rfl rfl rfl (Jd (v := .int .i64 t11) rfl) ?_
 refine Ja rfl rfl rfl (Y9 rfl rfl) ?_
 refine Jf ?_
 try dsimp only [z1, z2, z3, z4, z5, z6, z7, z8]
 refine J4 (b := (decide (t11 ≠ 0))) rfl (fun hb => ?_) (fun hb => ?_)
 ·have H2 := Jo hb H1
  refine Je ?_
  refine Jb ?_
  refine Ja rfl rfl rfl (Ym (pl := #[(0, 1), (1, 1)]) (ps := []) (cells := #[.bool false, .slice none 0 0]) Try.zeroValue24 Try.runUnderlying24 (fun w => by kernel_rfl) rfl rfl) ?_
  refine Ja rfl rfl rfl (Jd (v := .int .i64 t11) rfl) ?_
  refine Qi (i := 2) (vs := [.bool false, .slice none 0 0]) (cs' := [.bool false, .slice none 0 0]) Try.sizeOf24 rfl rfl rfl rfl rfl rfl rfl rfl rfl ?_
  refine Ja rfl rfl rfl (Jc (v := .int .i64 t11) rfl) ?_
  refine Jf ?_
  try dsimp only [z1, z2, z3, z4, z5, z6, z7, z8]
  refine Jq ?_
  refine err ?_ (Option.some.inj H2).symm ?_ ?_ <;> rfl
 ·have H3 := Jp hb H1
  obtain ⟨t23, h_t23, H4⟩ := Ji H3
  refine Js ?_
  refine Je ?_
  refine Je ?_
  refine Jb ?_
  refine Qg (i := 1) (vs := [.int .i64 a2.Kind, str a2.Text, v2_2, v2_3, v2_4]) Try.isAgg29 Try.sizeOf29 rfl rfl rfl rfl rfl ?_
  refine Qn (fun w hF hS => k34 (Jy w) (f2_2.mono (hw.now hF)) (f2_3.mono (hw.now hF)) (f2_4.mono (hw.now hF)) h_t23) Try.call34 rfl rfl rfl ?_
  refine Ja rfl rfl rfl (Jc (v := .int .i64 t23) rfl) ?_
  refine Jf ?_
  try dsimp only [z1, z2, z3, z4, z5, z6, z7, z8]
  refine Je ?_
  refine Jb ?_
  refine Ja rfl rfl rfl (Jd (v := .int .i64 t23) rfl) ?_
  refine Ja rfl rfl rfl (Y9 rfl rfl) ?_
  refine Jf ?_
  try dsimp only [z1, z2, z3, z4, z5, z6, z7, z8]
  refine J4 (b := (decide (t23 ≠ 0))) rfl (fun hb => ?_) (fun hb => ?_)
  ·have H5 := Jo hb H4
   refine Je ?_
   refine Jb ?_
   refine Ja rfl rfl rfl (Ym (pl := #[(0, 1), (1, 1)]) (ps := []) (cells := #[.bool false, .slice none 0 0]) Try.zeroValue24 Try.runUnderlying24 (fun w => by kernel_rfl) rfl rfl) ?_
   refine Ja rfl rfl rfl (Jd (v := .int .i64 t23) rfl) ?_
   refine Qi (i := 2) (vs := [.bool false, .slice none 0 0]) (cs' := [.bool false, .slice none 0 0]) Try.sizeOf24 rfl rfl rfl rfl rfl rfl rfl rfl rfl ?_
   refine Ja rfl rfl rfl (Jc (v := .int .i64 t23) rfl) ?_
   refine Jf ?_
   try dsimp only [z1, z2, z3, z4, z5, z6, z7, z8]
   refine Jq ?_
   refine err ?_ (Option.some.inj H5).symm ?_ ?_ <;> rfl
  ·have H5 := Jp hb H4
   have hfit : fitF 8 a0 ∧ fitV 8 a2 := Classical.byContradiction fun hh => by rw [if_neg hh] at H5; cases H5
   rw [if_pos hfit] at H5
   obtain ⟨z, h_z, H6⟩ := Ji H5
   refine Js ?_
   refine Je ?_
   refine Jb ?_
   refine Qg (i := 0) (vs := [.bool a0.Big, v0_1]) Try.isAgg24 Try.sizeOf24 rfl rfl rfl rfl rfl ?_
   refine Vh (Q9 (rds := []) (G := fun x : (Option Addr × Nat) => (.agg #[.bool a0.Big, .slice x.1 a0.Dirs.length x.2])) (C := fun x : (Option Addr × Nat) => fileC 8 (.slice x.1 a0.Dirs.length x.2) a0.Dirs) (fun w L' hF hS hi => k35_of (Jy w) (f0_1.mono (hw.now hF)) hfit.1) Try.call35 rfl) rfl rfl rfl (fun p => ?_)
   refine Qi (i := 0) (vs := [.bool a0.Big, .slice p.1 a0.Dirs.length p.2]) (cs' := [.bool a0.Big, .slice p.1 a0.Dirs.length p.2]) Try.sizeOf24 rfl rfl rfl rfl rfl rfl rfl rfl rfl ?_
   refine Jf ?_
   try dsimp only [z1, z2, z3, z4, z5, z6, z7, z8]
   refine Ud 3 rfl (fun hp ⟨bs, tF, hnd, hdom⟩ => ?_)
   try dsimp only [z1, z2, z3, z4, z5, z6, z7, z8]
   have f0 := tF.frn
   refine Je ?_
   refine Jb ?_
   refine Ja rfl rfl rfl (Jd (v := v1) rfl) ?_
   refine l_callC (σ := Value) (G := fun x => .tuple #[x, .bool z.isSome]) (Φ := DirR hp (.slice p.1 a0.Dirs.length p.2) a0.Dirs z) (fun w hF hS => k31_of (know_pool (i := 3) hS rfl Y7) (Jy w) (hw.at hF) (Vl (i := 0) hS rfl) f0 f1 h_z) Try.call31 rfl rfl rfl (fun pv hpv => ?_)
   refine Ja rfl rfl rfl (Jd (v := .tuple #[pv, .bool z.isSome]) rfl) ?_
   refine Ja rfl rfl rfl (Qf (v := pv) rfl rfl) ?_
   refine Ja rfl rfl rfl (Qf (v := .bool z.isSome) rfl rfl) ?_
   refine Ja rfl rfl rfl (Jc (v := pv) rfl) ?_
   refine Ja rfl rfl rfl (Jc (v := .bool z.isSome) rfl) ?_
   refine Jf ?_
   try dsimp only [z1, z2, z3, z4, z5, z6, z7, z8]
   refine Je ?_
   refine Je ?_
   refine Jb ?_
   refine Ja rfl rfl rfl (Jd (v := .bool z.isSome) rfl) ?_
   refine Ja rfl rfl rfl (V3 rfl) ?_
   refine Jf ?_
   try dsimp only [z1, z2, z3, z4, z5, z6, z7, z8]
   cases z with
   | none =>
    refine Y5 rfl ?_
    refine Je ?_
    refine Jb ?_
    refine Ja rfl rfl rfl (Ym (pl := #[(0, 1), (1, 1)]) (ps := []) (cells := #[.bool false, .slice none 0 0]) Try.zeroValue24 Try.runUnderlying24 (fun w => by kernel_rfl) rfl rfl) ?_
    refine Qi (i := 2) (vs := [.bool false, .slice none 0 0]) (cs' := [.bool false, .slice none 0 0]) Try.sizeOf24 rfl rfl rfl rfl rfl rfl rfl rfl rfl ?_
    refine Ja rfl rfl rfl (Jc (v := .int .i64 7) rfl) ?_
    refine Jf ?_
    try dsimp only [z1, z2, z3, z4, z5, z6, z7, z8]
    refine Jq ?_
    refine err ?_ (Option.some.inj H6).symm ?_ ?_ <;> rfl
   | some ks =>
    obtain ⟨a, u, l, rfl, hP⟩ := hpv.2 ks rfl
    have hl : getF ks a0.Dirs = l := hP.getF
    have fl := hP.frn f0
    obtain ⟨q, h_q, H7⟩ := Ji H6
    obtain ⟨t, h_t, H8⟩ := Ji H7
    rw [hl] at H8
    obtain ⟨⟨n, ok⟩, h_pl, H9⟩ := Ji H8
    obtain ⟨ab, ao, rfl⟩ := hP.addr
    obtain ⟨cl, T, d', bsub, c1, c2, c3, c4, c5, c6, c7, c8⟩ := hole_of tF hnd hP
    obtain ⟨pu, css, rfl, hcl, rw_, hob, hall⟩ := tree_row c7 c6
    have hA0 := hall hp (fun q _ _ o k => k)
    have hone := AllC.ones hA0 (fun c x f j hj => ent_one f j hj)
    have hne : (Value.slice pu.1 css.length pu.2).ownBlock ≠ some ab := fun e => c4 (hob ab e)
    have hob1 : rmV hp (Value.slice pu.1 css.length pu.2) ab = some (.cells cl.toArray T (0, 0)) := (if_neg hne).trans c1
    have hrg : rg cl ao = some (Value.slice pu.1 css.length pu.2) := (rg_eq _ _).trans c2
    refine W2 rfl ?_
    refine Js ?_
    refine Je ?_
    exact Qp (Kd.p :: Kd.p :: Kd.p :: Kd.p :: Kd.p :: Kd.d [] (.int .i64 t) :: Kd.d [1] (.agg (List.toArray [.int .i64 a2.Kind, str a2.Text, v2_2, v2_3, v2_4])) :: Kd.t 4 [] (fun y : (Option Addr × Nat) × (Option Addr × Nat) × (Option Addr × Nat) => (.agg #[.int .i64 a2.Kind, str a2.Text, .slice y.1.1 a2.Ints.length y.1.2, .slice y.2.1.1 a2.Ratios.length y.2.1.2, .slice y.2.2.1 a2.Entries.length y.2.2.2])) (fun v_ => (Xx (roV 1 (vcell v_ 2) a2.Ints.length (a2.Ints.map J3)) (Xx (roV 2 (vcell v_ 3) a2.Ratios.length (a2.Ratios.map Jn)) (treeC 8 (vcell v_ 4) a2.Entries)))) :: Kd.p :: Kd.nw 5 [.int .i64 0, .int .i64 0, str [], .slice none 0 0, .slice none 0 0, .slice none 0 0] 70 :: Kd.sv 12 46 5 (fun v_ => v_.cells.toList) 70 :: []) 2 mixed (by
     refine Jj rfl rfl (Jd (v := v1) rfl) ?_
     refine Jj rfl rfl (Jd (v := v1) rfl) ?_
     refine Jj rfl rfl (Xy Try.underlying25 rfl f1 rfl) ?_
     refine Jj rfl rfl (r_subG rfl rfl h_q) ?_
     refine Jj rfl rfl (Qe Try.underlying25 Try.sizeOf3 rfl rfl f1 h_t) ?_
     refine Zw (fun w hF => Qa (f := J3) (i := q) (sz := 1) (j := 0) (v := .int .i64 t) Try.isAgg3 rfl rfl (f1.row (hw.now hF)) h_t rfl) rfl rfl ?_
     refine d_loadN (i := 1) (vs := [.int .i64 a2.Kind, str a2.Text, v2_2, v2_3, v2_4]) Try.isAgg29 Try.sizeOf29 rfl rfl rfl rfl ?_
     refine d_make (((none, 0) : Option Addr × Nat), ((none, 0) : Option Addr × Nat), ((none, 0) : Option Addr × Nat)) (Q9 (rds := []) (G := fun y : (Option Addr × Nat) × (Option Addr × Nat) × (Option Addr × Nat) => (.agg #[.int .i64 a2.Kind, str a2.Text, .slice y.1.1 a2.Ints.length y.1.2, .slice y.2.1.1 a2.Ratios.length y.2.1.2, .slice y.2.2.1 a2.Entries.length y.2.2.2])) (C := fun y : (Option Addr × Nat) × (Option Addr × Nat) × (Option Addr × Nat) => (Xx (roV 1 (.slice y.1.1 a2.Ints.length y.1.2) a2.Ints.length (a2.Ints.map J3)) (Xx (roV 2 (.slice y.2.1.1 a2.Ratios.length y.2.1.2) a2.Ratios.length (a2.Ratios.map Jn)) (treeC 8 (.slice y.2.2.1 a2.Entries.length y.2.2.2) a2.Entries)))) (fun w L' hF hS hi => k33_of (k61_all 8) (Jy w) (f2_2.mono (hw.now hF)) (f2_3.mono (hw.now hF)) (f2_4.mono (hw.now hF)) hfit.2) Try.call33 rfl) (fun _ => rfl) rfl rfl rfl (fun ⟨p3, p4, p5⟩ => ?_)
     refine Jj rfl rfl (Ym (pl := #[(0, 1), (1, 5)]) (ps := [(0, .int .i64 t), (1, .agg #[.int .i64 a2.Kind, str a2.Text, .slice p3.1 a2.Ints.length p3.2, .slice p4.1 a2.Ratios.length p4.2, .slice p5.1 a2.Entries.length p5.2])]) (cells := #[.int .i64 t, .int .i64 a2.Kind, str a2.Text, .slice p3.1 a2.Ints.length p3.2, .slice p4.1 a2.Ratios.length p4.2, .slice p5.1 a2.Entries.length p5.2]) Try.zeroValue70 Try.runUnderlying70 (fun w => by kernel_rfl) rfl rfl) ?_
     refine d_new rfl rfl (run_alloc (cs := [.int .i64 0, .int .i64 0, str [], .slice none 0 0, .slice none 0 0, .slice none 0 0]) Try.zeroValue70 rfl) rfl (fun b12 => ?_)
     refine d_storeV (i := 5) (a := 12) (q := 46) (x := .agg #[.int .i64 t, .int .i64 a2.Kind, str a2.Text, .slice p3.1 a2.Ints.length p3.2, .slice p4.1 a2.Ratios.length p4.2, .slice p5.1 a2.Entries.length p5.2]) (vs := [.int .i64 t, .int .i64 a2.Kind, str a2.Text, .slice p3.1 a2.Ints.length p3.2, .slice p4.1 a2.Ratios.length p4.2, .slice p5.1 a2.Entries.length p5.2]) (cs' := fun v_ => v_.cells.toList) Try.sizeOf70 rfl rfl rfl rfl rfl rfl rfl rfl rfl ?_
     refine Xm ?_
     try dsimp only [z1, z2, z3, z4, z5, z6, z7, z8]
     refine Xq 4 rfl imp_valP ?_
     try dsimp only [z1, z2, z3, z4, z5, z6, z7, z8]
     refine Ud 4 rfl (fun hv hvp => ?_)
     try dsimp only [z1, z2, z3, z4, z5, z6, z7, z8]
     refine Je ?_
     refine Je ?_
     exact Qp (Kd.p :: Kd.p :: Kd.d [3] (Value.slice pu.1 css.length pu.2) :: Kd.p :: Kd.d [5] (.int .i64 t) :: Kd.d [3] (.tuple #[.int .i64 n, .bool ok]) :: Kd.p :: Kd.p :: Kd.p :: Kd.p :: Kd.p :: []) 0 mixed (by
      refine Jj rfl rfl (Jd (v := .pointer (some ⟨ab, ao, none⟩)) rfl) ?_
      refine Jj rfl rfl (Qm rfl) ?_
      refine Wz (fun w L' hF hS hi => hP.load f0 rfl (Xe (i := 3) hS ((hi 3 (by simp)).trans rfl) Y7)) rfl rfl ?_
      refine Jj rfl rfl (Jl Try.runUnderlying70 rfl Try.sizeOf3 rfl rfl) ?_
      refine Qx (i := 5) (v := .int .i64 t) Try.isAgg3 rfl rfl rfl rfl ?_
      refine d_callD (fun w L' hF hS hi => k32 (Jy w) (fl.mono (Xe (i := 3) hS ((hi 3 (by simp)).trans rfl) Y7)) h_pl) Try.call32 rfl rfl ?_
      refine Jj rfl rfl (Jd (v := .tuple #[.int .i64 n, .bool ok]) rfl) ?_
      refine Jj rfl rfl (Qf (v := .int .i64 n) rfl rfl) ?_
      refine Jj rfl rfl (Qf (v := .bool ok) rfl rfl) ?_
      refine Jj rfl rfl (Jc (v := .int .i64 n) rfl) ?_
      refine Jj rfl rfl (Jc (v := .bool ok) rfl) ?_
      refine Xm ?_
      try dsimp only [z1, z2, z3, z4, z5, z6, z7, z8]
      refine Je ?_
      refine Jb ?_
      refine Ja rfl rfl rfl (Jd (v := .bool ok) rfl) ?_
      refine Jf ?_
      try dsimp only [z1, z2, z3, z4, z5, z6, z7, z8]
      refine J4 (b := ok) rfl (fun hb => ?_) (fun hb => ?_)
      ·have H10 := Jo hb H9
       obtain ⟨l', h_l', HE⟩ := Ji H10
       obtain ⟨hn0, hn1, hle'⟩ := Ut h_l'
       have h_x : Xt l n = some (l[n.toNat]'(by omega)) := gAt_ok hn0 (by omega)
       have hat := hA0.ix h_x
       have ec := (hA0.eta h_x).trans (Q1 (hA0.at h_x))
       refine Xq 3 rfl (imp_thaw rw_ rfl) ?_
       try dsimp only [z1, z2, z3, z4, z5, z6, z7, z8]
       refine U5 3 rfl ?_
       try dsimp only [z1, z2, z3, z4, z5, z6, z7, z8]
       refine Xq 6 rfl (Imp.of (show Xa 70 6 (Value.slice pu.1 css.length pu.2) css.length css = Xa 70 6 (Value.slice pu.1 css.length pu.2) css.length (css.map idC) from by rw [Q4])) ?_
       try dsimp only [z1, z2, z3, z4, z5, z6, z7, z8]
       exact Qp (Kd.p :: Kd.p :: Kd.d [3] (Value.slice pu.1 css.length pu.2) :: Kd.p :: Kd.d [5] (.agg (List.toArray [.int .i64 t, .int .i64 a2.Kind, str a2.Text, .slice p3.1 a2.Ints.length p3.2, .slice p4.1 a2.Ratios.length p4.2, .slice p5.1 a2.Entries.length p5.2])) :: Kd.d [6] (V4 pu.1 (n.toNat * 6)) :: Kd.sr 6 (Xa 70 6 (Value.slice pu.1 css.length pu.2) css.length ((css.set n.toNat [.int .i64 t, .int .i64 a2.Kind, str a2.Text, .slice p3.1 a2.Ints.length p3.2, .slice p4.1 a2.Ratios.length p4.2, .slice p5.1 a2.Entries.length p5.2]).map idC)) :: []) 0 mixed (by
        refine Jj rfl rfl (Jd (v := .pointer (some ⟨ab, ao, none⟩)) rfl) ?_
        refine Jj rfl rfl (Qm rfl) ?_
        refine Wz (fun w L' hF hS hi => run_loadK1 (v := (Value.slice pu.1 css.length pu.2)) Try.isAgg27 rfl (Xe (i := 3) hS ((hi 3 (by simp)).trans rfl) Y7 _ _ hob1) hrg) rfl rfl ?_
        refine Jj rfl rfl (Jd (v := .int .i64 n) rfl) ?_
        refine d_loadN (i := 5) (vs := [.int .i64 t, .int .i64 a2.Kind, str a2.Text, .slice p3.1 a2.Ints.length p3.2, .slice p4.1 a2.Ratios.length p4.2, .slice p5.1 a2.Entries.length p5.2]) Try.isAgg70 Try.sizeOf70 rfl rfl rfl rfl ?_
        refine Wz (fun w L' hF hS hi => W4 Try.underlying27 Try.sizeOf70 rfl rfl (rowOf (i := 6) (E := 70) (sz := 6) (n := css.length) (a := pu.1) (c := pu.2) hS ((hi 6 (by simp)).trans rfl)) rfl hat) rfl rfl ?_
        refine d_storeG (q := 6) (j := 0) (i := n) (sz := 6) (hm := rfl) (f := idC) (z := [.int .i64 t, .int .i64 a2.Kind, str a2.Text, .slice p3.1 a2.Ints.length p3.2, .slice p4.1 a2.Ratios.length p4.2, .slice p5.1 a2.Entries.length p5.2]) (ys := css.set n.toNat [.int .i64 t, .int .i64 a2.Kind, str a2.Text, .slice p3.1 a2.Ints.length p3.2, .slice p4.1 a2.Ratios.length p4.2, .slice p5.1 a2.Entries.length p5.2]) (vs := [.int .i64 t, .int .i64 a2.Kind, str a2.Text, .slice p3.1 a2.Ints.length p3.2, .slice p4.1 a2.Ratios.length p4.2, .slice p5.1 a2.Entries.length p5.2]) Try.sizeOf70 rfl rfl rfl rfl rfl rfl rfl rfl rfl (fun y_ hy_ => by cases hy_.symm.trans hat; rw [ec]; rfl) (Un hn0 (by omega)) ?_
        refine Xm ?_
        try dsimp only [z1, z2, z3, z4, z5, z6, z7, z8]
        refine Ws (Φ := fun H_ => FrS H_ 6 (Value.slice pu.1 css.length pu.2) ((css.set n.toNat [.int .i64 t, .int .i64 a2.Kind, str a2.Text, .slice p3.1 a2.Ints.length p3.2, .slice p4.1 a2.Ratios.length p4.2, .slice p5.1 a2.Entries.length p5.2]).map idC)) 3 6 rfl rfl (by decide) (fun _ _ => Y7) (fz_own _) (fun hp2 hle hf => ?_)
        try dsimp only [z1, z2, z3, z4, z5, z6, z7, z8]
        refine Vk 3 4 rfl rfl (by decide) (fun _ _ => Y7) (fun hp3 hle1 hle2 => ?_)
        try dsimp only [z1, z2, z3, z4, z5, z6, z7, z8]
        have ag : ∀ q ∈ bs, (Value.slice pu.1 css.length pu.2).ownBlock ≠ some q → ∀ o, hp q = some o → hp3 q = some o := fun q hq hqu o ho => hle1 q o (hle q o ((if_neg hqu).trans ho))
        have hA2 := hall hp3 (fun q hq hqu o ho => ag q (c5 q hq) hqu o ho)
        have pf := hA2.setE h_l' (vs := [.int .i64 t, .int .i64 a2.Kind, str a2.Text, .slice p3.1 a2.Ints.length p3.2, .slice p4.1 a2.Ratios.length p4.2, .slice p5.1 a2.Entries.length p5.2]) rfl (.mk rfl rfl rfl (hvp.1.mono hle2) (hvp.2.1.mono hle2) ((hvp.2.2.mono hle2)).frs ((hvp.2.2.mono hle2)).el)
        have fin := c8 hp3 (Value.slice pu.1 css.length pu.2) l' (fun q hq hqa hqs o ho => ag q hq (fun e => hqs (hob q e)) o ho) (by rw [set_self c2]; exact ag ab c3 hne _ c1) (at_frn (hf.mono hle1) pf)
        unfold Uc at HE
        obtain ⟨c15, h_c15, HE1⟩ := Ji HE
        refine Je ?_
        refine Je ?_
        refine Jb ?_
        refine Qg (i := 0) (vs := [.bool a0.Big, .slice p.1 a0.Dirs.length p.2]) Try.isAgg24 Try.sizeOf24 rfl rfl rfl rfl rfl ?_
        refine Qn (fun w hF hS => k22 (a0 := ⟨a0.Big, putF ks a0.Dirs l'⟩) (Jy w) (fin.mono (Xe (i := 3) hS rfl Y7)) h_c15) Try.call22 rfl rfl rfl ?_
        refine Ja rfl rfl rfl (Jc (v := .int .i64 c15) rfl) ?_
        refine Jf ?_
        try dsimp only [z1, z2, z3, z4, z5, z6, z7, z8]
        refine Je ?_
        refine Jb ?_
        refine Ja rfl rfl rfl (Jd (v := .int .i64 c15) rfl) ?_
        refine Ja rfl rfl rfl (Y9 rfl rfl) ?_
        refine Jf ?_
        try dsimp only [z1, z2, z3, z4, z5, z6, z7, z8]
        refine J4 (b := (decide (c15 ≠ 0))) rfl (fun hb => ?_) (fun hb => ?_)
        ·have HE2 := Jo hb HE1
         refine Je ?_
         refine Jb ?_
         refine Ja rfl rfl rfl (Ym (pl := #[(0, 1), (1, 1)]) (ps := []) (cells := #[.bool false, .slice none 0 0]) Try.zeroValue24 Try.runUnderlying24 (fun w => by kernel_rfl) rfl rfl) ?_
         refine Ja rfl rfl rfl (Jd (v := .int .i64 c15) rfl) ?_
         refine Qi (i := 2) (vs := [.bool false, .slice none 0 0]) (cs' := [.bool false, .slice none 0 0]) Try.sizeOf24 rfl rfl rfl rfl rfl rfl rfl rfl rfl ?_
         refine Ja rfl rfl rfl (Jc (v := .int .i64 c15) rfl) ?_
         refine Jf ?_
         try dsimp only [z1, z2, z3, z4, z5, z6, z7, z8]
         refine Jq ?_
         refine err ?_ (Option.some.inj HE2).symm ?_ ?_ <;> rfl
        ·have HE2 := Jp hb HE1
         obtain rfl := Option.some.inj HE2
         refine Js ?_
         refine Je ?_
         refine Jb ?_
         refine Qg (i := 0) (vs := [.bool a0.Big, .slice p.1 a0.Dirs.length p.2]) Try.isAgg24 Try.sizeOf24 rfl rfl rfl rfl rfl ?_
         refine Qi (i := 2) (vs := [.bool a0.Big, .slice p.1 a0.Dirs.length p.2]) (cs' := [.bool a0.Big, .slice p.1 a0.Dirs.length p.2]) Try.sizeOf24 rfl rfl rfl rfl rfl rfl rfl rfl rfl ?_
         refine Ja rfl rfl rfl (Jc (v := .int .i64 0) rfl) ?_
         refine Jf ?_
         try dsimp only [z1, z2, z3, z4, z5, z6, z7, z8]
         refine Jq ?_
         refine Xq 3 rfl (V1 (Φ := filP (.slice p.1 (putF ks a0.Dirs l').length p.2) (putF ks a0.Dirs l')) (by rw [putF_len]; exact fin)) ?_
         try dsimp only [z1, z2, z3, z4, z5, z6, z7, z8]
         exact retCt (i := 2) (vs := [.bool a0.Big, .slice p.1 a0.Dirs.length p.2]) (v2 := .int .i64 0) Try.isAgg24 Try.sizeOf24 rfl rfl rfl rfl rfl (Wf p (i := 3) rfl (by rw [putF_len]) (Imp.refl _))
       ) (by kernel_rfl)
      ·have H10 := Jp hb H9
       obtain ⟨l', h_l', HE⟩ := Ji H10
       have hi0 : gInsN 104 css n [.int .i64 t, .int .i64 a2.Kind, str a2.Text, .slice p3.1 a2.Ints.length p3.2, .slice p4.1 a2.Ratios.length p4.2, .slice p5.1 a2.Entries.length p5.2] = some (Y4 css n [.int .i64 t, .int .i64 a2.Kind, str a2.Text, .slice p3.1 a2.Ints.length p3.2, .slice p4.1 a2.Ratios.length p4.2, .slice p5.1 a2.Entries.length p5.2]) := by
        obtain ⟨_, g0, g1, g2, g3⟩ := gInsN_some h_l'
        exact gInsN_ok ⟨g0, by omega, by rw [hcl]; exact g2, by rw [hcl]; exact g3⟩
       refine Xq 3 rfl (imp_thaw rw_ rfl) ?_
       try dsimp only [z1, z2, z3, z4, z5, z6, z7, z8]
       refine U5 3 rfl ?_
       try dsimp only [z1, z2, z3, z4, z5, z6, z7, z8]
       refine Xq 6 rfl (imp_trans (imp_rowO _ _ _ _ _) (Imp.of (show Z1 70 6 (Value.slice pu.1 css.length pu.2) css.length css = Z1 70 6 (Value.slice pu.1 css.length pu.2) css.length (css.map idC) from by rw [Q4]))) ?_
       try dsimp only [z1, z2, z3, z4, z5, z6, z7, z8]
       exact Qp (Kd.p :: Kd.p :: Kd.p :: Kd.d [3] (Value.slice pu.1 css.length pu.2) :: Kd.p :: Kd.d [5] (.agg (List.toArray [.int .i64 t, .int .i64 a2.Kind, str a2.Text, .slice p3.1 a2.Ints.length p3.2, .slice p4.1 a2.Ratios.length p4.2, .slice p5.1 a2.Entries.length p5.2])) :: Kd.ns 7 [.int .i64 t, .int .i64 a2.Kind, str a2.Text, .slice p3.1 a2.Ints.length p3.2, .slice p4.1 a2.Ratios.length p4.2, .slice p5.1 a2.Entries.length p5.2] 70 1 :: Kd.t 6 [7] (fun x : Option Addr × Nat => .slice x.1 (Y4 css n [.int .i64 t, .int .i64 a2.Kind, str a2.Text, .slice p3.1 a2.Ints.length p3.2, .slice p4.1 a2.Ratios.length p4.2, .slice p5.1 a2.Entries.length p5.2]).length x.2) (fun v_ => Z1 70 6 v_ (Y4 css n [.int .i64 t, .int .i64 a2.Kind, str a2.Text, .slice p3.1 a2.Ints.length p3.2, .slice p4.1 a2.Ratios.length p4.2, .slice p5.1 a2.Entries.length p5.2]).length ((Y4 css n [.int .i64 t, .int .i64 a2.Kind, str a2.Text, .slice p3.1 a2.Ints.length p3.2, .slice p4.1 a2.Ratios.length p4.2, .slice p5.1 a2.Entries.length p5.2]).map idC)) :: Kd.dv 70 [6] (clipV 6) :: Kd.p :: Kd.sp 72 71 3 (fun v_ => X9 U0 (updH (rmV hp (Value.slice pu.1 css.length pu.2)) ab (.cells (cl.set ao v_).toArray T (0, 0)))) :: []) 1 mixed (by
        refine Jj rfl rfl (Jd (v := .pointer (some ⟨ab, ao, none⟩)) rfl) ?_
        refine Jj rfl rfl (Jd (v := .pointer (some ⟨ab, ao, none⟩)) rfl) ?_
        refine Jj rfl rfl (Qm rfl) ?_
        refine Wz (fun w L' hF hS hi => run_loadK1 (v := (Value.slice pu.1 css.length pu.2)) Try.isAgg27 rfl (Xe (i := 3) hS ((hi 3 (by simp)).trans rfl) Y7 _ _ hob1) hrg) rfl rfl ?_
        refine Jj rfl rfl (Jd (v := .int .i64 n) rfl) ?_
        refine d_loadN (i := 5) (vs := [.int .i64 t, .int .i64 a2.Kind, str a2.Text, .slice p3.1 a2.Ints.length p3.2, .slice p4.1 a2.Ratios.length p4.2, .slice p5.1 a2.Entries.length p5.2]) Try.isAgg70 Try.sizeOf70 rfl rfl rfl rfl ?_
        refine d_newS rfl rfl (Wb (vs := [.agg #[.int .i64 t, .int .i64 a2.Kind, str a2.Text, .slice p3.1 a2.Ints.length p3.2, .slice p4.1 a2.Ratios.length p4.2, .slice p5.1 a2.Entries.length p5.2]]) (cs := [.int .i64 t, .int .i64 a2.Kind, str a2.Text, .slice p3.1 a2.Ints.length p3.2, .slice p4.1 a2.Ratios.length p4.2, .slice p5.1 a2.Entries.length p5.2]) Try.underlying27 Try.sizeOf70 Try.zeroValue70 rfl rfl rfl rfl rfl) rfl (fun b7 => ?_)
        refine d_turn (Cv := fun v_ => Z1 70 6 v_ (Y4 css n [.int .i64 t, .int .i64 a2.Kind, str a2.Text, .slice p3.1 a2.Ints.length p3.2, .slice p4.1 a2.Ratios.length p4.2, .slice p5.1 a2.Entries.length p5.2]).length ((Y4 css n [.int .i64 t, .int .i64 a2.Kind, str a2.Text, .slice p3.1 a2.Ints.length p3.2, .slice p4.1 a2.Ratios.length p4.2, .slice p5.1 a2.Entries.length p5.2]).map idC)) ((none, 0) : Option Addr × Nat) (Xp (i := 6) (rds := [7]) (G := fun x : Option Addr × Nat => .slice x.1 (Y4 css n [.int .i64 t, .int .i64 a2.Kind, str a2.Text, .slice p3.1 a2.Ints.length p3.2, .slice p4.1 a2.Ratios.length p4.2, .slice p5.1 a2.Entries.length p5.2]).length x.2) (C := fun x : Option Addr × Nat => Z1 70 6 (.slice x.1 (Y4 css n [.int .i64 t, .int .i64 a2.Kind, str a2.Text, .slice p3.1 a2.Ints.length p3.2, .slice p4.1 a2.Ratios.length p4.2, .slice p5.1 a2.Entries.length p5.2]).length x.2) (Y4 css n [.int .i64 t, .int .i64 a2.Kind, str a2.Text, .slice p3.1 a2.Ints.length p3.2, .slice p4.1 a2.Ratios.length p4.2, .slice p5.1 a2.Entries.length p5.2]).length ((Y4 css n [.int .i64 t, .int .i64 a2.Kind, str a2.Text, .slice p3.1 a2.Ints.length p3.2, .slice p4.1 a2.Ratios.length p4.2, .slice p5.1 a2.Entries.length p5.2]).map idC)) rfl (fun w L' S hF hS hi hp hlt ho hA => k37 (p0 := pu) (cs1 := [.int .i64 t, .int .i64 a2.Kind, str a2.Text, .slice p3.1 a2.Ints.length p3.2, .slice p4.1 a2.Ratios.length p4.2, .slice p5.1 a2.Entries.length p5.2]) hp hlt (Y8 w S) rfl hone rfl rfl (cell_but (j := 7) hA hS (by decide) ((hi 7 (by simp)).trans rfl)) hi0) Try.call37 rfl) (fun _ => rfl) rfl rfl (fun p7 => ?_)
        refine d_callDV (a := 70) (v := .slice (Qz p7.1 0 (Y4 css n [.int .i64 t, .int .i64 a2.Kind, str a2.Text, .slice p3.1 a2.Ints.length p3.2, .slice p4.1 a2.Ratios.length p4.2, .slice p5.1 a2.Entries.length p5.2]).length 6) (Y4 css n [.int .i64 t, .int .i64 a2.Kind, str a2.Text, .slice p3.1 a2.Ints.length p3.2, .slice p4.1 a2.Ratios.length p4.2, .slice p5.1 a2.Entries.length p5.2]).length (Y4 css n [.int .i64 t, .int .i64 a2.Kind, str a2.Text, .slice p3.1 a2.Ints.length p3.2, .slice p4.1 a2.Ratios.length p4.2, .slice p5.1 a2.Entries.length p5.2]).length) rfl (fun w L' hF hS hi => k36 (a := p7.1) (n := (Y4 css n [.int .i64 t, .int .i64 a2.Kind, str a2.Text, .slice p3.1 a2.Ints.length p3.2, .slice p4.1 a2.Ratios.length p4.2, .slice p5.1 a2.Entries.length p5.2]).length) (c := p7.2) (capOfO (i := 6) hS ((hi 6 (by simp)).trans rfl)) w) Try.call36 rfl rfl ?_
        refine Jj rfl rfl (Qm rfl) ?_
        refine d_storeP (C := fun v_ => X9 U0 (updH (rmV hp (Value.slice pu.1 css.length pu.2)) ab (.cells (cl.set ao v_).toArray T (0, 0)))) (turns_storeP (q := 3) (b := ab) (o := ao) (cs := cl) (cs' := cl.set ao (.slice (Qz p7.1 0 (Y4 css n [.int .i64 t, .int .i64 a2.Kind, str a2.Text, .slice p3.1 a2.Ints.length p3.2, .slice p4.1 a2.Ratios.length p4.2, .slice p5.1 a2.Entries.length p5.2]).length 6) (Y4 css n [.int .i64 t, .int .i64 a2.Kind, str a2.Text, .slice p3.1 a2.Ints.length p3.2, .slice p4.1 a2.Ratios.length p4.2, .slice p5.1 a2.Entries.length p5.2]).length (Y4 css n [.int .i64 t, .int .i64 a2.Kind, str a2.Text, .slice p3.1 a2.Ints.length p3.2, .slice p4.1 a2.Ratios.length p4.2, .slice p5.1 a2.Entries.length p5.2]).length)) (T0 := T) (hp := rmV hp (Value.slice pu.1 css.length pu.2)) (vs := [.slice (Qz p7.1 0 (Y4 css n [.int .i64 t, .int .i64 a2.Kind, str a2.Text, .slice p3.1 a2.Ints.length p3.2, .slice p4.1 a2.Ratios.length p4.2, .slice p5.1 a2.Entries.length p5.2]).length 6) (Y4 css n [.int .i64 t, .int .i64 a2.Kind, str a2.Text, .slice p3.1 a2.Ints.length p3.2, .slice p4.1 a2.Ratios.length p4.2, .slice p5.1 a2.Entries.length p5.2]).length (Y4 css n [.int .i64 t, .int .i64 a2.Kind, str a2.Text, .slice p3.1 a2.Ints.length p3.2, .slice p4.1 a2.Ratios.length p4.2, .slice p5.1 a2.Entries.length p5.2]).length]) Try.sizeOf27 rfl rfl rfl rfl rfl rfl (wr_set (List.getElem?_eq_some_iff.1 c2).1) rfl hob1) rfl rfl ?_
        refine Xm ?_
        try dsimp only [z1, z2, z3, z4, z5, z6, z7, z8]
        refine Xq 6 rfl (imp_clipRO _ _ _ _ _ _) ?_
        try dsimp only [z1, z2, z3, z4, z5, z6, z7, z8]
        refine Ws (Φ := fun H_ => FrS H_ 6 (.slice (Qz p7.1 0 (Y4 css n [.int .i64 t, .int .i64 a2.Kind, str a2.Text, .slice p3.1 a2.Ints.length p3.2, .slice p4.1 a2.Ratios.length p4.2, .slice p5.1 a2.Entries.length p5.2]).length 6) (Y4 css n [.int .i64 t, .int .i64 a2.Kind, str a2.Text, .slice p3.1 a2.Ints.length p3.2, .slice p4.1 a2.Ratios.length p4.2, .slice p5.1 a2.Entries.length p5.2]).length (Y4 css n [.int .i64 t, .int .i64 a2.Kind, str a2.Text, .slice p3.1 a2.Ints.length p3.2, .slice p4.1 a2.Ratios.length p4.2, .slice p5.1 a2.Entries.length p5.2]).length) ((Y4 css n [.int .i64 t, .int .i64 a2.Kind, str a2.Text, .slice p3.1 a2.Ints.length p3.2, .slice p4.1 a2.Ratios.length p4.2, .slice p5.1 a2.Entries.length p5.2]).map idC)) 3 6 rfl rfl (by decide) (fun _ _ => Y7) (fz_offO _) (fun hp2 hle hf => ?_)
        try dsimp only [z1, z2, z3, z4, z5, z6, z7, z8]
        refine Vk 3 4 rfl rfl (by decide) (fun _ _ => Y7) (fun hp3 hle1 hle2 => ?_)
        try dsimp only [z1, z2, z3, z4, z5, z6, z7, z8]
        have ag : ∀ q ∈ bs, q ≠ ab → (Value.slice pu.1 css.length pu.2).ownBlock ≠ some q → ∀ o, hp q = some o → hp3 q = some o := fun q hq hqa hqu o ho => hle1 q o (hle q o (by show updH _ ab _ q = _; rw [updH_ne hqa]; exact (if_neg hqu).trans ho))
        have hA2 := hall hp3 (fun q hq hqu o ho => ag q (c5 q hq) (fun e => c4 (e ▸ hq)) hqu o ho)
        obtain ⟨_, pf⟩ := AllC.ins (cs := [.int .i64 t, .int .i64 a2.Kind, str a2.Text, .slice p3.1 a2.Ints.length p3.2, .slice p4.1 a2.Ratios.length p4.2, .slice p5.1 a2.Entries.length p5.2]) hA2 h_l' rfl (.mk rfl rfl rfl (hvp.1.mono hle2) (hvp.2.1.mono hle2) ((hvp.2.2.mono hle2)).frs ((hvp.2.2.mono hle2)).el)
        have fin := c8 hp3 _ l' (fun q hq hqa hqs o ho => ag q hq hqa (fun e => hqs (hob q e)) o ho) (hle1 _ _ (hle _ _ updH_self)) (at_frn (hf.mono hle1) pf)
        unfold Uc at HE
        obtain ⟨c15, h_c15, HE1⟩ := Ji HE
        refine Je ?_
        refine Je ?_
        refine Jb ?_
        refine Qg (i := 0) (vs := [.bool a0.Big, .slice p.1 a0.Dirs.length p.2]) Try.isAgg24 Try.sizeOf24 rfl rfl rfl rfl rfl ?_
        refine Qn (fun w hF hS => k22 (a0 := ⟨a0.Big, putF ks a0.Dirs l'⟩) (Jy w) (fin.mono (Xe (i := 3) hS rfl Y7)) h_c15) Try.call22 rfl rfl rfl ?_
        refine Ja rfl rfl rfl (Jc (v := .int .i64 c15) rfl) ?_
        refine Jf ?_
        try dsimp only [z1, z2, z3, z4, z5, z6, z7, z8]
        refine Je ?_
        refine Jb ?_
        refine Ja rfl rfl rfl (Jd (v := .int .i64 c15) rfl) ?_
        refine Ja rfl rfl rfl (Y9 rfl rfl) ?_
        refine Jf ?_
        try dsimp only [z1, z2, z3, z4, z5, z6, z7, z8]
        refine J4 (b := (decide (c15 ≠ 0))) rfl (fun hb => ?_) (fun hb => ?_)
        ·have HE2 := Jo hb HE1
         refine Je ?_
         refine Jb ?_
         refine Ja rfl rfl rfl (Ym (pl := #[(0, 1), (1, 1)]) (ps := []) (cells := #[.bool false, .slice none 0 0]) Try.zeroValue24 Try.runUnderlying24 (fun w => by kernel_rfl) rfl rfl) ?_
         refine Ja rfl rfl rfl (Jd (v := .int .i64 c15) rfl) ?_
         refine Qi (i := 2) (vs := [.bool false, .slice none 0 0]) (cs' := [.bool false, .slice none 0 0]) Try.sizeOf24 rfl rfl rfl rfl rfl rfl rfl rfl rfl ?_
         refine Ja rfl rfl rfl (Jc (v := .int .i64 c15) rfl) ?_
         refine Jf ?_
         try dsimp only [z1, z2, z3, z4, z5, z6, z7, z8]
         refine Jq ?_
         refine err ?_ (Option.some.inj HE2).symm ?_ ?_ <;> rfl
        ·have HE2 := Jp hb HE1
         obtain rfl := Option.some.inj HE2
         refine Js ?_
         refine Je ?_
         refine Jb ?_
         refine Qg (i := 0) (vs := [.bool a0.Big, .slice p.1 a0.Dirs.length p.2]) Try.isAgg24 Try.sizeOf24 rfl rfl rfl rfl rfl ?_
         refine Qi (i := 2) (vs := [.bool a0.Big, .slice p.1 a0.Dirs.length p.2]) (cs' := [.bool a0.Big, .slice p.1 a0.Dirs.length p.2]) Try.sizeOf24 rfl rfl rfl rfl rfl rfl rfl rfl rfl ?_
         refine Ja rfl rfl rfl (Jc (v := .int .i64 0) rfl) ?_
         refine Jf ?_
         try dsimp only [z1, z2, z3, z4, z5, z6, z7, z8]
         refine Jq ?_
         refine Xq 3 rfl (V1 (Φ := filP (.slice p.1 (putF ks a0.Dirs l').length p.2) (putF ks a0.Dirs l')) (by rw [putF_len]; exact fin)) ?_
         try dsimp only [z1, z2, z3, z4, z5, z6, z7, z8]
         exact retCt (i := 2) (vs := [.bool a0.Big, .slice p.1 a0.Dirs.length p.2]) (v2 := .int .i64 0) Try.isAgg24 Try.sizeOf24 rfl rfl rfl rfl rfl (Wf p (i := 3) rfl (by rw [putF_len]) (Imp.refl _))
       ) (by kernel_rfl)
     ) (by kernel_rfl)
    ) (by kernel_rfl)
end Go.Proofs.Ytpljknglodhcnaa

/- TagPaths, copies of slices: the walks, printed by our generator; each follows its model. Conditions: the model yields a value. -/
namespace Go.Proofs.Ytpljknglodhcnaa
open Go Go.Vc Go.Md Go.M Go.Lx
set_option maxRecDepth 100000
set_option maxHeartbeats 4000000
set_option linter.unusedVariables false
theorem k85 {a0 : Int} {r : Bool} (H : Jaa a0 = some r) : Ret Try.prog 85 [.int .i64 a0] (.bool r) := by
 refine Zm (n := 6) Try.func85 rfl rfl rfl (fun wd => ?_)
 refine Je ?_
 refine Jb ?_
 refine Ja rfl rfl rfl (Jc (v := .bool false) rfl) ?_
 refine Jf ?_
 refine Je ?_
 refine Jb ?_
 refine Ja rfl rfl rfl (Jd (v := .int .i64 a0) rfl) ?_
 refine Ja rfl rfl rfl (Jd (v := .int .i64 a0) rfl) ?_
 refine Ja rfl rfl rfl (Y9 rfl rfl) ?_
 refine Ja rfl rfl rfl (Jc (v := .bool (decide (a0 ≠ a0))) rfl) ?_
 refine Jf ?_
 refine Jq ?_
 obtain rfl := Option.some.inj H
 refine J5 (v := .bool (decide (a0 ≠ a0))) rfl rfl (fin rfl)
theorem k69 {a0 : Int} {a1 : Int} {r : Int} (H : Ul a0 a1 = some r) : Ret Try.prog 69 [.int .i64 a0, .int .i64 a1] (.int .i64 r) := by
 refine Zm (n := 20) Try.func69 rfl rfl rfl (fun wd => ?_)
 refine Je ?_
 refine Jb ?_
 refine Ja rfl rfl rfl (Jc (v := .int .i64 0) rfl) ?_
 refine Jf ?_
 refine Je ?_
 refine Jb ?_
 refine Ja rfl rfl rfl (Jd (v := .int .i64 a0) rfl) ?_
 obtain ⟨t8, h_t8, H13⟩ := Ji H; clear H
 refine Vo (k85 h_t8) Try.call85 rfl rfl rfl ?_
 refine Ja rfl rfl rfl (Jc (v := .bool t8) rfl) ?_
 refine Jf ?_
 refine Je ?_
 refine Jb ?_
 refine Ja rfl rfl rfl (Jd (v := .int .i64 a1) rfl) ?_
 obtain ⟨t10, h_t10, H14⟩ := Ji H13; clear H13
 refine Vo (k85 h_t10) Try.call85 rfl rfl rfl ?_
 refine Ja rfl rfl rfl (Jc (v := .bool t10) rfl) ?_
 refine Jf ?_
 refine Je ?_
 refine Je ?_
 refine Jb ?_
 refine Ja rfl rfl rfl (Jd (v := .bool t8) rfl) ?_
 refine Jf ?_
 refine J4 (b := t8) rfl (fun hb => ?_) (fun hb => ?_)
 ·have H15 := Jo hb H14; clear H14
  refine Je ?_
  refine Je ?_
  refine Jb ?_
  refine Ja rfl rfl rfl (Jd (v := .bool t10) rfl) ?_
  refine Jf ?_
  refine J4 (b := t10) rfl (fun hb => ?_) (fun hb => ?_)
  ·have H16 := Jo hb H15; clear H15
   refine Je ?_
   refine Jb ?_
   refine Ja rfl rfl rfl (Jc (v := .int .i64 0) rfl) ?_
   refine Jf ?_
   refine Jq ?_
   obtain rfl := Option.some.inj H16
   refine J5 (v := .int .i64 0) rfl rfl (fin rfl)
  ·have H17 := Jp hb H15; clear H15
   refine Js ?_
   refine Je ?_
   refine Jb ?_
   refine Ja rfl rfl rfl (Jc (v := .int .i64 (-1)) rfl) ?_
   refine Jf ?_
   refine Jq ?_
   obtain rfl := Option.some.inj H17
   refine J5 (v := .int .i64 (-1)) rfl rfl (fin rfl)
 ·have H18 := Jp hb H14; clear H14
  refine Js ?_
  refine Je ?_
  refine Je ?_
  refine Jb ?_
  refine Ja rfl rfl rfl (Jd (v := .bool t10) rfl) ?_
  refine Jf ?_
  refine J4 (b := t10) rfl (fun hb => ?_) (fun hb => ?_)
  ·have H19 := Jo hb H18; clear H18
   refine Je ?_
   refine Jb ?_
   refine Ja rfl rfl rfl (Jc (v := .int .i64 1) rfl) ?_
   refine Jf ?_
   refine Jq ?_
   obtain rfl := Option.some.inj H19
   refine J5 (v := .int .i64 1) rfl rfl (fin rfl)
  ·have H20 := Jp hb H18; clear H18
   refine Js ?_
   refine Je ?_
   refine Je ?_
   refine Jb ?_
   refine Ja rfl rfl rfl (Jd (v := .int .i64 a0) rfl) ?_
   refine Ja rfl rfl rfl (Jd (v := .int .i64 a1) rfl) ?_
   refine Ja rfl rfl rfl (Xs rfl rfl) ?_
   refine Jf ?_
   refine J4 (b := (decide (a0 < a1))) rfl (fun hb => ?_) (fun hb => ?_)
   ·have H21 := Jo hb H20; clear H20
    refine Je ?_
    refine Jb ?_
    refine Ja rfl rfl rfl (Jc (v := .int .i64 (-1)) rfl) ?_
    refine Jf ?_
    refine Jq ?_
    obtain rfl := Option.some.inj H21
    refine J5 (v := .int .i64 (-1)) rfl rfl (fin rfl)
   ·have H22 := Jp hb H20; clear H20
    refine Js ?_
    refine Je ?_
    refine Je ?_
    refine Jb ?_
    refine Ja rfl rfl rfl (Jd (v := .int .i64 a0) rfl) ?_
    refine Ja rfl rfl rfl (Jd (v := .int .i64 a1) rfl) ?_
    refine Ja rfl rfl rfl (Zn rfl rfl) ?_
    refine Jf ?_
    refine J4 (b := (decide (a1 < a0))) rfl (fun hb => ?_) (fun hb => ?_)
    ·have H23 := Jo hb H22; clear H22
     refine Je ?_
     refine Jb ?_
     refine Ja rfl rfl rfl (Jc (v := .int .i64 1) rfl) ?_
     refine Jf ?_
     refine Jq ?_
     obtain rfl := Option.some.inj H23
     refine J5 (v := .int .i64 1) rfl rfl (fin rfl)
    ·have H24 := Jp hb H22; clear H22
     refine Js ?_
     refine Je ?_
     refine Jb ?_
     refine Ja rfl rfl rfl (Jc (v := .int .i64 0) rfl) ?_
     refine Jf ?_
     refine Jq ?_
     obtain rfl := Option.some.inj H24
     refine J5 (v := .int .i64 0) rfl rfl (fin rfl)
theorem k68 {a0 : T_tag_Entry} {v0_1_2 : Value} {v0_1_3 : Value} {v0_1_4 : Value} {a1 : Int} {r : Int} {w : World} {h : Jx} (hw : Know h w X3) (f0_1_2 : FrS h 1 v0_1_2 (a0.Value.Ints.map J3)) (f0_1_3 : FrS h 2 v0_1_3 (a0.Value.Ratios.map Jn)) (f0_1_4 : FrN h 6 v0_1_4 g_tag_Entry a0.Value.Entries) (H : R_find_1 a0 a1 = some r) : Does Try.prog 68 (List.toArray [.agg #[.int .i64 a0.Tag, .int .i64 a0.Value.Kind, str a0.Value.Text, v0_1_2, v0_1_3, v0_1_4], .int .i64 a1]) w (fun v w' => v = (.int .i64 r) ∧ Grow w w') := by
 refine enter (n := 9) Try.func68 rfl rfl rfl X3 [] (Sat.nil _ _) ?_
 refine Je ?_
 refine Jb ?_
 refine Yv (cs := [.int .i64 a0.Tag, .int .i64 a0.Value.Kind, str a0.Value.Text, v0_1_2, v0_1_3, v0_1_4]) rfl rfl rfl rfl (fun b1 => ?_)
 refine Ja rfl rfl rfl (Jc (v := .int .i64 0) rfl) ?_
 refine Jf ?_
 refine Je ?_
 refine Jb ?_
 refine Ja rfl rfl rfl (Jl Try.runUnderlying70 rfl Try.sizeOf3 rfl rfl) ?_
 refine Jt (i := 0) (v := .int .i64 a0.Tag) Try.isAgg3 rfl rfl rfl rfl rfl ?_
 refine Ja rfl rfl rfl (Jd (v := .int .i64 a1) rfl) ?_
 obtain ⟨t8, h_t8, H2⟩ := Ji H; clear H
 refine Vo (k69 h_t8) Try.call69 rfl rfl rfl ?_
 refine Ja rfl rfl rfl (Jc (v := .int .i64 t8) rfl) ?_
 refine Jf ?_
 refine Jq ?_
 obtain rfl := Option.some.inj H2
 refine J5 (v := .int .i64 t8) rfl rfl (fin rfl)
theorem k42 {a0 : (List T_tag_Entry)} {v0 : Value} {a1 : Int} {r : Int × Bool} {w : World} {h : Jx} (hw : Know h w X3) (f0 : FrN h 6 v0 g_tag_Entry a0) (H : R_find a0 a1 = some r) : Does Try.prog 42 (List.toArray [v0, .int .i64 a1]) w (fun v w' => v = (.tuple #[.int .i64 r.1, .bool r.2]) ∧ Grow w w') := by
 refine enter (n := 11) Try.func42 rfl rfl rfl X3 [] (Sat.nil _ _) ?_
 refine Je ?_
 refine Jb ?_
 refine Ja rfl rfl rfl (Jc (v := .int .i64 0) rfl) ?_
 refine Ja rfl rfl rfl (Jc (v := .bool false) rfl) ?_
 refine Jf ?_
 refine Je ?_
 refine Jb ?_
 refine Ja rfl rfl rfl (Jd (v := v0) rfl) ?_
 refine Ja rfl rfl rfl (Jd (v := .int .i64 a1) rfl) ?_
 obtain ⟨t8, h_t8, H2⟩ := Ji H; clear H
 refine Qn (fun w hF hS => k57 (Jy w) (f0.mono (hw.now hF)) (FnH.mk ⟨68, #[], #[], rfl, Try.call68, fun args2 post2 w2 hk2 hR2 => by obtain ⟨a0_, v0_1_2_, v0_1_3_, v0_1_4_, a1_, r_, fa0_1_2_, fa0_1_3_, fa0_1_4_, rfl, H_, rfl⟩ := hR2; exact k68 (Jy w2) fa0_1_2_ fa0_1_3_ fa0_1_4_ H_⟩) h_t8) Try.call57 rfl rfl rfl ?_
 refine Ja rfl rfl rfl (Qf (v := .int .i64 t8.1) rfl rfl) ?_
 refine Ja rfl rfl rfl (Qf (v := .bool t8.2) rfl rfl) ?_
 refine Ja rfl rfl rfl (Jc (v := .int .i64 t8.1) rfl) ?_
 refine Ja rfl rfl rfl (Jc (v := .bool t8.2) rfl) ?_
 refine Jf ?_
 refine Jq ?_
 obtain rfl := Option.some.inj H2
 refine ret2 (v1 := .int .i64 t8.1) (v2 := .bool t8.2) rfl rfl rfl (fin rfl)
theorem k70 {a0 : (List T_tag_Entry)} {v0 : Value} {r : (List T_tag_Entry)} {w : World} {h : Jx} (hw : Know h w X3) (f0 : FrN h 6 v0 g_tag_Entry a0) (H : Yq a0 = some r) : Does Try.prog 70 (List.toArray [v0]) w (fun v w' => ∃ x : (Option Addr × Nat), v = (.slice x.1 r.length x.2) ∧ Turn w w' X3 (rowHD h 70 6 g_tag_Entry (.slice x.1 r.length x.2) r.length r)) := by
 refine enter (n := 8) Try.func70 rfl rfl rfl X3 [] (Sat.nil _ _) ?_
 refine We h ?_
 refine Je ?_
 refine Jb ?_
 refine Ja rfl rfl rfl (Jc (v := .slice none 0 0) rfl) ?_
 refine Jf ?_
 refine Je ?_
 refine Je ?_
 refine Jb ?_
 refine Ja rfl rfl rfl (Jd (v := v0) rfl) ?_
 refine Ja rfl rfl rfl (r_eqlNilS Try.underlying27 f0.frs rfl rfl) ?_
 refine Jf ?_
 refine J4 (b := isNilV v0) rfl (fun hb => ?_) (fun hb => ?_)
 ·have hn_ : a0 = [] := f0.nilV hb
  have H5 : some ([] : List T_tag_Entry) = some r := by have h_ := H; rw [hn_] at h_; exact h_
  refine Je ?_
  refine Jb ?_
  refine Ja rfl rfl rfl (Jc (v := .slice none 0 0) rfl) ?_
  refine Jf ?_
  refine Jq ?_
  refine U2 70 6 ?_
  obtain rfl := Option.some.inj H5
  refine Xq 1 rfl (imp_rowHD (p := ((none, 0) : Option Addr × Nat)) rfl (AllC.nil (G := g_tag_Entry) (h := h) (sz := 6))) ?_
  refine J5 (v := .slice ((none, 0) : Option Addr × Nat).1 (([] : List (List Value)).length) ((none, 0) : Option Addr × Nat).2) rfl rfl (Wf ((none, 0) : Option Addr × Nat) (i := 1) rfl (by first | rfl | rw [(show (([] : List (List Value)).length) = ([] : List T_tag_Entry).length from (AllC.nil (G := g_tag_Entry) (h := h) (sz := 6)).len)]) (by first | exact Imp.refl _ | exact Imp.of (by rw [(show (([] : List (List Value)).length) = ([] : List T_tag_Entry).length from (AllC.nil (G := g_tag_Entry) (h := h) (sz := 6)).len)] <;> rfl)))
 ·skip
  refine Js ?_
  refine Je ?_
  refine Jb ?_
  refine Wm (vs := []) (cs := []) Try.underlying27 Try.sizeOf70 Try.zeroValue70 rfl rfl rfl rfl rfl rfl rfl (fun b2 => ?_)
  refine Ja rfl rfl rfl (Jd (v := v0) rfl) ?_
  refine Ue 0 rfl (fun hle_ => ?_)
  refine Xq 1 rfl (imp_box (m := 0) (E := 70) (sz := 6) (xs := (([] : List (List Value))).map idC) rfl rfl rfl ⟨rfl, by decide⟩) ?_
  have pf : AllC g_tag_Entry h 6 ([] : List (List Value)) ([] : List T_tag_Entry) := (AllC.nil (G := g_tag_Entry) (h := h) (sz := 6))
  refine Ue 0 rfl (fun hle_ => ?_)
  obtain ⟨l7, h_l7, H6⟩ := Ji H; clear H
  refine Zg (turns_appGm (i := 1) (hn := rfl) (rds := []) (p := ((some ⟨b2, 0, none⟩, 0) : Option Addr × Nat)) (sz := 6) (by_ := 104) (f := idC) (ys := ([] : List (List Value))) (ls := ((List.range a0.length).map (Wu h v0 6))) (V := v0) Try.underlying27 (Zk Try.typeInfo70) rfl rfl rfl rfl rfl rfl rfl rfl f0.eq (by simp) (fun w L' hF hS hi => by have := (f0).frsM.row (hw.now hF); rwa [← List.map_id' ((List.range _).map _)] at this) (f0).allC.lens (AllC.oneN (fun f_ j_ hj_ => by cases f_ with | mk h0 h1 h2 h3 h4 h5 h6 => rcases (show j_ = 0 ∨ j_ = 1 ∨ j_ = 2 ∨ j_ = 3 ∨ j_ = 4 ∨ j_ = 5 from by omega) with rfl | rfl | rfl | rfl | rfl | rfl <;> first | (rw [h0]; rfl) | (rw [h1]; rfl) | (rw [h2]; rfl) | exact h3.one | exact h4.one | exact h5.one) (f0).allC) (pf.app h_l7 (f0).allC.len)) rfl rfl rfl (fun p => ?_)
  have pf_2 : AllC g_tag_Entry h 6 (([] : List (List Value)) ++ ((List.range a0.length).map (Wu h v0 6))) l7 := by rw [(Vu h_l7).1]; exact AllC.append pf ((f0).allC.mono hle_)
  refine Ja rfl rfl rfl (Jc (v := .slice p.1 ((([] : List (List Value)) ++ ((List.range a0.length).map (Wu h v0 6))).length) p.2) rfl) ?_
  refine Jf ?_
  refine Jq ?_
  obtain rfl := Option.some.inj H6
  refine Xq 1 rfl (imp_rowHD (p := p) rfl pf_2) ?_
  refine J5 (v := .slice p.1 ((([] : List (List Value)) ++ ((List.range a0.length).map (Wu h v0 6))).length) p.2) rfl rfl (Wf p (i := 1) rfl (by first | rfl | rw [(show ((([] : List (List Value)) ++ ((List.range a0.length).map (Wu h v0 6))).length) = l7.length from pf_2.len)]) (by first | exact Imp.refl _ | exact Imp.of (by rw [(show ((([] : List (List Value)) ++ ((List.range a0.length).map (Wu h v0 6))).length) = l7.length from pf_2.len)] <;> rfl)))
theorem k44 {a0 : (List (List T_tag_Entry))} {v0 : Value} {r : (List (List T_tag_Entry))} {w : World} {h : Jx} (hw : Know h w X3) (f0 : FrN h 1 v0 gs_tag_Entry a0) (H : Xh a0 = some r) : Does Try.prog 44 (List.toArray [v0]) w (fun v w' => ∃ x : (Option Addr × Nat), v = (.slice x.1 r.length x.2) ∧ Turn w w' X3 (rowHD h 27 1 gs_tag_Entry (.slice x.1 r.length x.2) r.length r)) := by
 refine enter (n := 8) Try.func44 rfl rfl rfl X3 [] (Sat.nil _ _) ?_
 refine We h ?_
 refine Je ?_
 refine Jb ?_
 refine Ja rfl rfl rfl (Jc (v := .slice none 0 0) rfl) ?_
 refine Jf ?_
 refine Je ?_
 refine Je ?_
 refine Jb ?_
 refine Ja rfl rfl rfl (Jd (v := v0) rfl) ?_
 refine Ja rfl rfl rfl (r_eqlNilS Try.underlying22 f0.frs rfl rfl) ?_
 refine Jf ?_
 refine J4 (b := isNilV v0) rfl (fun hb => ?_) (fun hb => ?_)
 ·have hn_ : a0 = [] := f0.nilV hb
  have H5 : some ([] : List (List T_tag_Entry)) = some r := by have h_ := H; rw [hn_] at h_; exact h_
  refine Je ?_
  refine Jb ?_
  refine Ja rfl rfl rfl (Jc (v := .slice none 0 0) rfl) ?_
  refine Jf ?_
  refine Jq ?_
  refine U2 27 1 ?_
  obtain rfl := Option.some.inj H5
  refine Xq 1 rfl (imp_rowHD (p := ((none, 0) : Option Addr × Nat)) rfl (AllC.nil (G := gs_tag_Entry) (h := h) (sz := 1))) ?_
  refine J5 (v := .slice ((none, 0) : Option Addr × Nat).1 (([] : List (List Value)).length) ((none, 0) : Option Addr × Nat).2) rfl rfl (Wf ((none, 0) : Option Addr × Nat) (i := 1) rfl (by first | rfl | rw [(show (([] : List (List Value)).length) = ([] : List (List T_tag_Entry)).length from (AllC.nil (G := gs_tag_Entry) (h := h) (sz := 1)).len)]) (by first | exact Imp.refl _ | exact Imp.of (by rw [(show (([] : List (List Value)).length) = ([] : List (List T_tag_Entry)).length from (AllC.nil (G := gs_tag_Entry) (h := h) (sz := 1)).len)] <;> rfl)))
 ·skip
  refine Js ?_
  refine Je ?_
  refine Jb ?_
  refine Wm (vs := []) (cs := []) Try.underlying22 Try.sizeOf27 Try.zeroValue27 rfl rfl rfl rfl rfl rfl rfl (fun b2 => ?_)
  refine Ja rfl rfl rfl (Jd (v := v0) rfl) ?_
  refine Ue 0 rfl (fun hle_ => ?_)
  refine Xq 1 rfl (imp_box (m := 0) (E := 27) (sz := 1) (xs := (([] : List (List Value))).map idC) rfl rfl rfl ⟨rfl, by decide⟩) ?_
  have pf : AllC gs_tag_Entry h 1 ([] : List (List Value)) ([] : List (List T_tag_Entry)) := (AllC.nil (G := gs_tag_Entry) (h := h) (sz := 1))
  refine Ue 0 rfl (fun hle_ => ?_)
  obtain ⟨l7, h_l7, H6⟩ := Ji H; clear H
  refine Zg (turns_appGm (i := 1) (hn := rfl) (rds := []) (p := ((some ⟨b2, 0, none⟩, 0) : Option Addr × Nat)) (sz := 1) (by_ := 24) (f := idC) (ys := ([] : List (List Value))) (ls := ((List.range a0.length).map (Wu h v0 1))) (V := v0) Try.underlying22 (Zk Try.typeInfo27) rfl rfl rfl rfl rfl rfl rfl rfl f0.eq (by simp) (fun w L' hF hS hi => by have := (f0).frsM.row (hw.now hF); rwa [← List.map_id' ((List.range _).map _)] at this) (f0).allC.lens (AllC.oneN (fun f_ j_ hj_ => by obtain rfl : j_ = 0 := (by omega); unfold gs_tag_Entry at f_; exact f_.one) (f0).allC) (pf.app h_l7 (f0).allC.len)) rfl rfl rfl (fun p => ?_)
  have pf_2 : AllC gs_tag_Entry h 1 (([] : List (List Value)) ++ ((List.range a0.length).map (Wu h v0 1))) l7 := by rw [(Vu h_l7).1]; exact AllC.append pf ((f0).allC.mono hle_)
  refine Ja rfl rfl rfl (Jc (v := .slice p.1 ((([] : List (List Value)) ++ ((List.range a0.length).map (Wu h v0 1))).length) p.2) rfl) ?_
  refine Jf ?_
  refine Jq ?_
  obtain rfl := Option.some.inj H6
  refine Xq 1 rfl (imp_rowHD (p := p) rfl pf_2) ?_
  refine J5 (v := .slice p.1 ((([] : List (List Value)) ++ ((List.range a0.length).map (Wu h v0 1))).length) p.2) rfl rfl (Wf p (i := 1) rfl (by first | rfl | rw [(show ((([] : List (List Value)) ++ ((List.range a0.length).map (Wu h v0 1))).length) = l7.length from pf_2.len)]) (by first | exact Imp.refl _ | exact Imp.of (by rw [(show ((([] : List (List Value)) ++ ((List.range a0.length).map (Wu h v0 1))).length) = l7.length from pf_2.len)] <;> rfl)))
end Go.Proofs.Ytpljknglodhcnaa

/- A directory with another entry, or without one: the reference's. Conditions: none. -/
namespace Go.Proofs.Ytpljknglodhcnaa
open Go Go.Vc Go.Md Go.M Go.Lx
set_option maxRecDepth 100000
set_option maxHeartbeats 8000000
set_option linter.unusedVariables false
theorem k43 : ∀ (a1 : List Int) {a0 : List T_tag_Entry} {v0 v1 : Value} {a2 : T_tag_Value} {v2_2 v2_3 v2_4 : Value} {a3 : Bool} {r : List T_tag_Entry × Bool} {w : World} {h : Jx} (hw : Know h w X3) (f0 : FrN h 6 v0 g_tag_Entry a0) (f1 : FrS h 1 v1 (a1.map J3))
  (f2_2 : FrS h 1 v2_2 (a2.Ints.map J3)) (f2_3 : FrS h 2 v2_3 (a2.Ratios.map Jn)) (f2_4 : FrN h 6 v2_4 g_tag_Entry a2.Entries) (H : X4 a0 a1 a2 a3 = some r),
    Does Try.prog 43 (List.toArray [v0, v1, .agg #[.int .i64 a2.Kind, str a2.Text, v2_2, v2_3, v2_4], .bool a3]) w (fun v w' => ∃ x : (Option Addr × Nat), v = (.tuple #[.slice x.1 r.1.length x.2, .bool r.2]) ∧ Turn w w' X3 (Yi h (fun hp_ => FrN hp_ 6 (.slice x.1 r.1.length x.2) g_tag_Entry r.1))) := by
 intro a1
 induction a1 with
 | nil => intro a0 v0 v1 a2 v2_2 v2_3 v2_4 a3 r w h hw f0 f1 f2_2 f2_3 f2_4 H; cases H
 | cons t ts ih =>
 intro a0 v0 v1 a2 v2_2 v2_3 v2_4 a3 r w h hw f0 f1 f2_2 f2_3 f2_4 H
 unfold X4 at H
 obtain ⟨⟨n, ok⟩, h_fi, H1⟩ := Ji H
 obtain ⟨cl, h_cl, H2⟩ := Ji H1
 have h_t : Xt (t :: ts) 0 = some t := rfl
 have hcl : cl = a0 := by
  unfold Yq at h_cl
  obtain ⟨c, hc, e⟩ := Ji h_cl
  rw [(Vu hc).1] at e
  exact (Option.some.inj e).symm
 subst hcl
 refine enter (n := 86) Try.func43 rfl rfl rfl X3 [] (Sat.nil _ _) ?_
 refine We h ?_
 refine Je ?_
 refine Jb ?_
 refine Yv (cs := [.int .i64 a2.Kind, str a2.Text, v2_2, v2_3, v2_4]) rfl rfl rfl rfl (fun b6 => ?_)
 refine Ja rfl rfl rfl (Jc (v := .slice none 0 0) rfl) ?_
 refine Ja rfl rfl rfl (Jc (v := .bool false) rfl) ?_
 refine Jf ?_
 try dsimp only [z1, z2, z3, z4, z5, z6, z7, z8]
 have err : ∀ {e : Xd} {fn : Func} {hp rest}, fn.results = #[.tmp 8, .tmp 9] → r = ([], false) → e 8 = .slice none 0 0 → e 9 = .bool false → At ⟨w, X3⟩ (BodyQ Try.prog fn (fun v w' => ∃ x : (Option Addr × Nat), v = (.tuple #[.slice x.1 r.1.length x.2, .bool r.2]) ∧ Turn w w' X3 (Yi h (fun hp_ => FrN hp_ 6 (.slice x.1 r.1.length x.2) g_tag_Entry r.1))) .ret) e (X9 h hp :: rest) := fun {e fn hp rest} hfn hr h8 h9 => by
   subst hr
   exact ret2 (v1 := .slice none 0 0) (v2 := .bool false) hfn h8 h9 (Wf ((none, 0) : Option Addr × Nat) (i := 0) rfl rfl (V1 (FrN.nil _ _ _)))
 refine Je ?_
 refine Jb ?_
 refine Ja rfl rfl rfl (Jd (v := v0) rfl) ?_
 refine Ja rfl rfl rfl (Jd (v := v1) rfl) ?_
 refine Ja rfl rfl rfl (Qe Try.underlying25 Try.sizeOf3 rfl rfl f1 h_t) ?_
 refine Qu (fun w hF hS => Qa (f := J3) (i := 0) (sz := 1) (j := 0) (v := .int .i64 t) Try.isAgg3 rfl rfl (f1.row (hw.now hF)) h_t rfl) rfl rfl rfl ?_
 refine Qn (fun w hF hS => k42 (Jy w) (f0.mono (hw.now hF)) h_fi) Try.call42 rfl rfl rfl ?_
 refine Ja rfl rfl rfl (Jd (v := .tuple #[.int .i64 n, .bool ok]) rfl) ?_
 refine Ja rfl rfl rfl (Qf (v := .int .i64 n) rfl rfl) ?_
 refine Ja rfl rfl rfl (Qf (v := .bool ok) rfl rfl) ?_
 refine Ja rfl rfl rfl (Jc (v := .int .i64 n) rfl) ?_
 refine Ja rfl rfl rfl (Jc (v := .bool ok) rfl) ?_
 refine Jf ?_
 try dsimp only [z1, z2, z3, z4, z5, z6, z7, z8]
 refine Je ?_
 refine Jb ?_
 refine Ja rfl rfl rfl (Jd (v := v0) rfl) ?_
 refine Vh (Q9 (rds := []) (G := fun x : (Option Addr × Nat) => .slice x.1 cl.length x.2) (C := fun x : (Option Addr × Nat) => rowHD h 70 6 g_tag_Entry (.slice x.1 cl.length x.2) cl.length cl) (fun w L' hF hS hi => k70 (h := h) (hw.at hF) f0 h_cl) Try.call70 rfl) rfl rfl rfl (fun p1 => ?_)
 refine Ja rfl rfl rfl (Jc (v := .slice p1.1 cl.length p1.2) rfl) ?_
 refine Jf ?_
 try dsimp only [z1, z2, z3, z4, z5, z6, z7, z8]
 refine c_rowHD 2 rfl (fun css hn pf => ?_)
 rw [hn]
 have hone := AllC.ones pf (fun c x f j hj => ent_one f j hj)
 refine Je ?_
 refine J6 ?_
 refine Je ?_
 refine Jb ?_
 refine Ja rfl rfl rfl (Jd (v := v1) rfl) ?_
 refine Ja rfl rfl rfl (Xy Try.underlying25 rfl f1 rfl) ?_
 refine Ja rfl rfl rfl (Zn rfl rfl) ?_
 refine Ja rfl rfl rfl (Jc (v := .bool (decide (1 < ((t :: ts).length : Int)))) rfl) ?_
 refine Jf ?_
 try dsimp only [z1, z2, z3, z4, z5, z6, z7, z8]
 refine J4 (b := (decide (1 < ((t :: ts).length : Int)))) rfl (fun hb => ?_) (fun hb => ?_)
 ·have H3 := Jo hb H2
  refine Je ?_
  refine Je ?_
  refine Jb ?_
  refine Ja rfl rfl rfl (Jd (v := .bool ok) rfl) ?_
  refine Ja rfl rfl rfl (V3 rfl) ?_
  refine Ja rfl rfl rfl (Jd (v := .bool (!ok)) rfl) ?_
  cases ok with
  | false =>
   refine Jh rfl rfl rfl ?_
   refine Jh rfl rfl rfl ?_
   refine Jh rfl rfl rfl ?_
   refine Jh rfl rfl rfl ?_
   refine Jh rfl rfl rfl ?_
   refine Jh rfl rfl rfl ?_
   refine Jh rfl rfl rfl ?_
   refine Ja rfl rfl rfl (Jz (v := .bool true) rfl rfl) ?_
   refine Jf ?_
   try dsimp only [z1, z2, z3, z4, z5, z6, z7, z8]
   refine Y5 rfl ?_
   refine Je ?_
   refine Jb ?_
   refine Ja rfl rfl rfl (Jc (v := .slice none 0 0) rfl) ?_
   refine Ja rfl rfl rfl (Jc (v := .bool false) rfl) ?_
   refine Jf ?_
   try dsimp only [z1, z2, z3, z4, z5, z6, z7, z8]
   refine Jq ?_
   refine err ?_ (Option.some.inj H3).symm ?_ ?_ <;> rfl
  | true =>
   have H4 : J7 (Xt cl n) (fun e => Qj (decide (e.Value.Kind ≠ 13)) (some (([] : List T_tag_Entry), false)) (J7 (X4 e.Value.Entries ts a2 a3) fun q => J7 (gSet cl n (U8 e q.1)) fun l' => Qj (!q.2) (some ([], false)) (some (l', true)))) = some r := H3
   obtain ⟨x, h_x, H5⟩ := Ji H4
   obtain ⟨hn0, hn1, hne⟩ := Yp h_x
   obtain ⟨b, hb2⟩ := sa_some f0.frs (by rw [List.length_map, List.length_range]; omega)
   obtain ⟨q0, q1⟩ := g_tag_Entry_iff.1 (f0.at h_x)
   refine Ja rfl rfl rfl (Jd (v := v0) rfl) ?_
   refine Ja rfl rfl rfl (Jd (v := .int .i64 n) rfl) ?_
   refine Ja rfl rfl rfl (r_indexP Try.underlying27 Try.sizeOf70 rfl rfl f0.frs (f0.ix h_x) hb2) ?_
   refine Ja rfl rfl rfl (Jl Try.runUnderlying70 rfl Try.sizeOf29 rfl rfl) ?_
   refine Ja rfl rfl rfl (Jl Try.runUnderlying29 rfl Try.sizeOf3 rfl rfl) ?_
   refine Qu (fun w hF hS => Qa (f := Wu h v0 6) (i := n) (sz := 6) (j := 1) (k := n.toNat * 6 + 1) (a := some b) (v := .int .i64 x.Value.Kind) Try.isAgg3 (by simp [V4, Nat.add_assoc, upd, ev]) rfl (by rw [← hb2]; exact f0.frs.row (hw.now hF)) (f0.ix h_x) (Ur (Q1 (f0.at h_x)) rfl)) rfl rfl rfl ?_
   refine Ja rfl rfl rfl (Y9 rfl rfl) ?_
   refine Ja rfl rfl rfl (J0 (v := .bool (decide (x.Value.Kind ≠ 13))) rfl rfl) ?_
   refine Jf ?_
   try dsimp only [z1, z2, z3, z4, z5, z6, z7, z8]
   refine J4 (b := decide (x.Value.Kind ≠ 13)) rfl (fun hk => ?_) (fun hk => ?_)
   ·have H6 := Jo hk H5
    refine Je ?_
    refine Jb ?_
    refine Ja rfl rfl rfl (Jc (v := .slice none 0 0) rfl) ?_
    refine Ja rfl rfl rfl (Jc (v := .bool false) rfl) ?_
    refine Jf ?_
    try dsimp only [z1, z2, z3, z4, z5, z6, z7, z8]
    refine Jq ?_
    refine err ?_ (Option.some.inj H6).symm ?_ ?_ <;> rfl
   ·have H6 := Jp hk H5
    obtain ⟨q, h_q, H7⟩ := Ji H6
    obtain ⟨l', h_l', H8⟩ := Ji H7
    have h_ts : Zo (t :: ts) 1 ((t :: ts).length : Nat) = some ts := by
     rw [gCut_ok (by simp only [List.length_cons]; omega)]
     simp
    have f1c := f1.cut h_ts
    have f4 : FrN h 6 (Qb h v0 6 n.toNat 5) g_tag_Entry x.Value.Entries := J2 q1
    have hat := pf.ix h_x
    refine Js ?_
    refine Je ?_
    refine Jb ?_
    refine Ja rfl rfl rfl (Jc (v := .bool false) rfl) ?_
    refine Jf ?_
    try dsimp only [z1, z2, z3, z4, z5, z6, z7, z8]
    refine Je ?_
    exact Qp (Kd.p :: Kd.p :: Kd.p :: Kd.p :: Kd.p :: Kd.p :: Kd.p :: Kd.d [] (Qb h v0 6 n.toNat 5) :: Kd.p :: Kd.p :: Kd.d [1] (.agg (List.toArray [.int .i64 a2.Kind, str a2.Text, v2_2, v2_3, v2_4])) :: Kd.p :: Kd.t 3 [] (fun x : (Option Addr × Nat) => .tuple #[.slice x.1 q.1.length x.2, .bool q.2]) (fun v_ => Yi h (fun hp_ => FrN hp_ 6 (vcell v_ 0) g_tag_Entry q.1)) :: Kd.p :: Kd.p :: Kd.p :: Kd.d [2] (V4 p1.1 (n.toNat * 6)) :: Kd.d [2] (V4 p1.1 (n.toNat * 6 + 1)) :: Kd.d [2] (V4 p1.1 (n.toNat * 6 + 1 + 4)) :: Kd.sp 66 62 2 (fun v_ => Xa 70 6 (.slice p1.1 css.length p1.2) css.length ((setR css n 5 v_).map idC)) :: Kd.p :: []) 1 mixed (by
     refine Jj rfl rfl (Jd (v := (.slice p1.1 css.length p1.2)) rfl) ?_
     refine Jj rfl rfl (Jd (v := .int .i64 n) rfl) ?_
     refine Jj rfl rfl (Jd (v := v0) rfl) ?_
     refine Jj rfl rfl (Jd (v := .int .i64 n) rfl) ?_
     refine Jj rfl rfl (r_indexP Try.underlying27 Try.sizeOf70 rfl rfl f0.frs (f0.ix h_x) hb2) ?_
     refine Jj rfl rfl (Jl Try.runUnderlying70 rfl Try.sizeOf29 rfl rfl) ?_
     refine Jj rfl rfl (Jl Try.runUnderlying29 rfl Try.sizeOf27 rfl rfl) ?_
     refine Zw (fun w hF => Qa (f := Wu h v0 6) (i := n) (sz := 6) (j := 5) (k := n.toNat * 6 + 1 + 4) (a := some b) (v := Qb h v0 6 n.toNat 5) Try.isAgg27 rfl rfl (by rw [← hb2]; exact f0.frs.row (hw.now hF)) (f0.ix h_x) (Ur (Q1 (f0.at h_x)) rfl)) rfl rfl ?_
     refine Jj rfl rfl (Jd (v := v1) rfl) ?_
     refine Jj rfl rfl (r_sliceLF Try.underlying25 Try.sizeOf3 rfl rfl f1 h_ts) ?_
     refine d_loadN (i := 1) (vs := [.int .i64 a2.Kind, str a2.Text, v2_2, v2_3, v2_4]) Try.isAgg29 Try.sizeOf29 rfl rfl rfl rfl ?_
     refine Jj rfl rfl (Jd (v := .bool a3) rfl) ?_
     refine d_make ((none, 0) : Option Addr × Nat) (Q9 (rds := []) (G := fun x : (Option Addr × Nat) => .tuple #[.slice x.1 q.1.length x.2, .bool q.2]) (C := fun x : (Option Addr × Nat) => Yi h (fun hp_ => FrN hp_ 6 (.slice x.1 q.1.length x.2) g_tag_Entry q.1)) (fun w L' hF hS hi => ih (hw.at hF) f4 f1c f2_2 f2_3 f2_4 h_q) Try.call43 rfl) (fun _ => rfl) rfl rfl rfl (fun pq => ?_)
     refine Jj rfl rfl (Jd (v := .tuple #[.slice pq.1 q.1.length pq.2, .bool q.2]) rfl) ?_
     refine Jj rfl rfl (Qf (v := .slice pq.1 q.1.length pq.2) rfl rfl) ?_
     refine Jj rfl rfl (Qf (v := .bool q.2) rfl rfl) ?_
     refine Wz (fun w L' hF hS hi => W4 Try.underlying27 Try.sizeOf70 rfl rfl (rowOf (i := 2) (E := 70) (sz := 6) (n := css.length) (a := p1.1) (c := p1.2) (xs := css.map idC) hS ((hi 2 (by simp)).trans (by rw [Q4]; rfl))) rfl hat) rfl rfl ?_
     refine d_readE rfl rfl (fun w L' hF hS hi => run_fieldG Try.runUnderlying70 rfl Try.sizeOf29 rfl rfl (rowOf (i := 2) (E := 70) (sz := 6) (n := css.length) (a := p1.1) (c := p1.2) (xs := css.map idC) hS ((hi 2 (by simp)).trans (by rw [Q4]; rfl))) hat) ?_
     refine d_readE rfl rfl (fun w L' hF hS hi => run_fieldG Try.runUnderlying29 rfl Try.sizeOf27 rfl rfl (rowOf (i := 2) (E := 70) (sz := 6) (n := css.length) (a := p1.1) (c := p1.2) (xs := css.map idC) hS ((hi 2 (by simp)).trans (by rw [Q4]; rfl))) hat) ?_
     refine d_storeP (C := fun v_ => Xa 70 6 (.slice p1.1 css.length p1.2) css.length ((setR css n 5 v_).map idC)) (turns_storeV (q := 2) (j := 5) (sz := 6) (i := n) (css := css) (m := css.length) (x := .slice pq.1 q.1.length pq.2) rfl pf.len Try.sizeOf27 rfl rfl rfl rfl rfl rfl (by rw [Q4]; rfl) h_x) rfl rfl ?_
     refine Jj rfl rfl (Jc (v := .bool q.2) rfl) ?_
     refine Xm ?_
     try dsimp only [z1, z2, z3, z4, z5, z6, z7, z8]
     refine Ud 3 rfl (fun hq hqf => ?_)
     try dsimp only [z1, z2, z3, z4, z5, z6, z7, z8]
     refine Je ?_
     refine Jb ?_
     refine Ja rfl rfl rfl (Jd (v := .bool q.2) rfl) ?_
     refine Ja rfl rfl rfl (V3 rfl) ?_
     refine Jf ?_
     try dsimp only [z1, z2, z3, z4, z5, z6, z7, z8]
     refine J4 (b := !q.2) rfl (fun hk2 => ?_) (fun hk2 => ?_)
     ·have H9 := Jo hk2 H8
      refine Je ?_
      refine Jb ?_
      refine Ja rfl rfl rfl (Jc (v := .slice none 0 0) rfl) ?_
      refine Ja rfl rfl rfl (Jc (v := .bool false) rfl) ?_
      refine Jf ?_
      try dsimp only [z1, z2, z3, z4, z5, z6, z7, z8]
      refine Jq ?_
      refine err ?_ (Option.some.inj H9).symm ?_ ?_ <;> rfl
     ·have H9 := Jp hk2 H8
      obtain rfl := Option.some.inj H9
      refine Js ?_
      refine Je ?_
      refine Jb ?_
      refine Ja rfl rfl rfl (Jd (v := (.slice p1.1 css.length p1.2)) rfl) ?_
      refine Ja rfl rfl rfl (Jc (v := (.slice p1.1 css.length p1.2)) rfl) ?_
      refine Ja rfl rfl rfl (Jc (v := .bool true) rfl) ?_
      refine Jf ?_
      try dsimp only [z1, z2, z3, z4, z5, z6, z7, z8]
      refine Jq ?_
      refine c_poolJoinB 0 3 rfl rfl (by decide) (fun w hF => hw.now hF) (fun hp2 hle1 hle2 => ?_)
      try dsimp only [z1, z2, z3, z4, z5, z6, z7, z8]
      refine Ue 0 rfl (fun hle0 => ?_)
      refine Ws (Φ := fun H_ => FrS H_ 6 (.slice p1.1 css.length p1.2) ((setR css n 5 (.slice pq.1 q.1.length pq.2)).map idC)) 0 2 rfl rfl (by decide) (fun w hF => hw.now hF) (fz_own _) (fun hp3 hle3 hf => ?_)
      try dsimp only [z1, z2, z3, z4, z5, z6, z7, z8]
      have pf3 := pf.mono (fun b o k => hle3 b o (hle0 b o k))
      have e0 := (pf3.at h_x)
      have pf4 : AllC g_tag_Entry hp3 6 (setR css n 5 (.slice pq.1 q.1.length pq.2)) l' := pf3.setR h_x h_l' rfl (by
        obtain ⟨w0, w1⟩ := g_tag_Entry_iff.1 e0
        cases e0 with
        | mk g0 g1 g2 g3 g4 g5 g6 =>
        have fq := hqf.mono (fun b o k => hle3 b o (hle2 b o k))
        exact .mk g0 g1 g2 g3 g4 fq.frs fq.el)
      have fin := at_frn hf pf4
      exact ret2 (v1 := (.slice p1.1 css.length p1.2)) (v2 := .bool true) rfl rfl rfl (Wf p1 (i := 0) rfl (by rw [show css.length = l'.length from (setR_len _ _ _ _).symm.trans pf4.len]) (V1 (by rw [← (show css.length = l'.length from (setR_len _ _ _ _).symm.trans pf4.len)]; exact fin)))
    ) (by kernel_rfl)
 ·have H3 := Jp hb H2
  refine Je ?_
  refine Jb ?_
  refine Ja rfl rfl rfl (Jd (v := .bool a3) rfl) ?_
  refine Ja rfl rfl rfl (Jc (v := .bool a3) rfl) ?_
  refine Jf ?_
  try dsimp only [z1, z2, z3, z4, z5, z6, z7, z8]
  refine J4 (b := a3) rfl (fun hk => ?_) (fun hk => ?_)
  ·have H4 := Jo hk H3
   refine Je ?_
   refine Je ?_
   refine Jb ?_
   refine Ja rfl rfl rfl (Jd (v := .bool ok) rfl) ?_
   refine Ja rfl rfl rfl (V3 rfl) ?_
   refine Jf ?_
   try dsimp only [z1, z2, z3, z4, z5, z6, z7, z8]
   refine J4 (b := !ok) rfl (fun hk2 => ?_) (fun hk2 => ?_)
   ·have H5 := Jo hk2 H4
    refine Je ?_
    refine Jb ?_
    refine Ja rfl rfl rfl (Jc (v := .slice none 0 0) rfl) ?_
    refine Ja rfl rfl rfl (Jc (v := .bool false) rfl) ?_
    refine Jf ?_
    try dsimp only [z1, z2, z3, z4, z5, z6, z7, z8]
    refine Jq ?_
    refine err ?_ (Option.some.inj H5).symm ?_ ?_ <;> rfl
   ·have H5 := Jp hk2 H4
    obtain ⟨n1, h_n1, H6⟩ := Ji H5
    obtain ⟨l', h_l', H7⟩ := Ji H6
    obtain rfl := Option.some.inj H7
    obtain ⟨hg, pfd⟩ := pf.del h_l'
    refine Js ?_
    refine Jb ?_
    refine Ja rfl rfl rfl (Jd (v := (.slice p1.1 css.length p1.2)) rfl) ?_
    refine Ja rfl rfl rfl (Jd (v := .int .i64 n) rfl) ?_
    refine Ja rfl rfl rfl (Jd (v := .int .i64 n) rfl) ?_
    refine Ja rfl rfl rfl (Qv rfl rfl h_n1) ?_
    refine Xq 2 rfl (imp_rowO _ _ _ _ _) ?_
    try dsimp only [z1, z2, z3, z4, z5, z6, z7, z8]
    refine Zg (Xp (i := 2) (rds := []) (G := fun _ : Unit => .slice p1.1 (Wx css n n1).length p1.2) (C := fun _ : Unit => Z1 70 6 (.slice p1.1 (Wx css n n1).length p1.2) (Wx css n n1).length ((Wx css n n1).map idC)) rfl (fun w L' S hF hS hi hp hlt ho hA => k38 (p0 := p1) hp hlt (Y8 w S) rfl hone hg) Try.call38 rfl) rfl rfl rfl (fun _ => ?_)
    refine Ja rfl rfl rfl (Jc (v := .slice p1.1 (Wx css n n1).length p1.2) rfl) ?_
    refine Jf ?_
    try dsimp only [z1, z2, z3, z4, z5, z6, z7, z8]
    refine Je ?_
    refine Jb ?_
    refine Ja rfl rfl rfl (Jd (v := (.slice p1.1 (Wx css n n1).length p1.2)) rfl) ?_
    refine Ja rfl rfl rfl (Jc (v := (.slice p1.1 (Wx css n n1).length p1.2)) rfl) ?_
    refine Ja rfl rfl rfl (Jc (v := .bool true) rfl) ?_
    refine Jf ?_
    try dsimp only [z1, z2, z3, z4, z5, z6, z7, z8]
    refine Jq ?_
    refine Ue 0 rfl (fun hle0 => ?_)
    refine Ws (Φ := fun H_ => FrS H_ 6 (.slice p1.1 (Wx css n n1).length p1.2) ((Wx css n n1).map idC)) 0 2 rfl rfl (by decide) (fun w hF => hw.now hF) (fz_offO _) (fun hp3 hle3 hf => ?_)
    try dsimp only [z1, z2, z3, z4, z5, z6, z7, z8]
    have fin := at_frn hf (pfd.mono (fun b o k => hle3 b o (hle0 b o k)))
    exact ret2 (v1 := .slice p1.1 (Wx css n n1).length p1.2) (v2 := .bool true) rfl rfl rfl (Wf p1 (i := 0) rfl (by rw [show (Wx css n n1).length = l'.length from pfd.len]) (V1 (by rw [← (show (Wx css n n1).length = l'.length from pfd.len)]; exact fin)))
  ·have H4 := Jp hk H3
   refine Je ?_
   refine Jb ?_
   refine Ja rfl rfl rfl (Jd (v := .bool ok) rfl) ?_
   refine Ja rfl rfl rfl (Jc (v := .bool ok) rfl) ?_
   refine Jf ?_
   try dsimp only [z1, z2, z3, z4, z5, z6, z7, z8]
   refine J4 (b := ok) rfl (fun hk2 => ?_) (fun hk2 => ?_)
   ·have H5 := Jo hk2 H4
    obtain ⟨x, h_x, H6⟩ := Ji H5
    obtain ⟨l', h_l', H7⟩ := Ji H6
    obtain rfl := Option.some.inj H7
    obtain ⟨hn0, hn1, hle'⟩ := Ut h_l'
    have hat := pf.ix h_x
    have honeV : ([.int .i64 a2.Kind, str a2.Text, v2_2, v2_3, v2_4] : List Value).all Value.oneCell' = true := by
     simp only [List.all_cons, List.all_nil, Bool.and_true, f2_2.one, f2_3.one, f2_4.one]
     rfl
    have ec := (pf.eta h_x).trans (Q1 (pf.at h_x))
    have pfs : AllC g_tag_Entry h 6 (css.set n.toNat [.int .i64 x.Tag, .int .i64 a2.Kind, str a2.Text, v2_2, v2_3, v2_4]) l' := pf.setE h_l' rfl (.mk rfl rfl rfl f2_2 f2_3 f2_4.frs f2_4.el)
    refine Jb ?_
    refine Ja rfl rfl rfl (Jd (v := (.slice p1.1 css.length p1.2)) rfl) ?_
    refine Ja rfl rfl rfl (Jd (v := .int .i64 n) rfl) ?_
    refine Qg (i := 1) (vs := [.int .i64 a2.Kind, str a2.Text, v2_2, v2_3, v2_4]) Try.isAgg29 Try.sizeOf29 rfl rfl rfl rfl rfl ?_
    refine Qu (fun w hF hS => W4 Try.underlying27 Try.sizeOf70 rfl rfl (rowOf (i := 2) hS rfl) rfl hat) rfl rfl rfl ?_
    refine Qu (fun w hF hS => run_fieldG Try.runUnderlying70 rfl Try.sizeOf29 rfl rfl (rowOf (i := 2) hS rfl) hat) rfl rfl rfl ?_
    refine l_storeG (q := 2) (j := 1) (i := n) (sz := 6) (hm := rfl) (f := idC) (z := [.int .i64 x.Tag, .int .i64 a2.Kind, str a2.Text, v2_2, v2_3, v2_4]) (ys := css.set n.toNat [.int .i64 x.Tag, .int .i64 a2.Kind, str a2.Text, v2_2, v2_3, v2_4]) (vs := [.int .i64 a2.Kind, str a2.Text, v2_2, v2_3, v2_4]) Try.sizeOf29 rfl rfl rfl rfl rfl rfl rfl honeV rfl (fun y_ hy_ => by cases hy_.symm.trans hat; rw [ec]; rfl) (Un hn0 (by rw [pf.len]; exact hn1)) ?_
    refine Jf ?_
    try dsimp only [z1, z2, z3, z4, z5, z6, z7, z8]
    refine Je ?_
    refine Jb ?_
    refine Ja rfl rfl rfl (Jd (v := (.slice p1.1 css.length p1.2)) rfl) ?_
    refine Ja rfl rfl rfl (Jc (v := (.slice p1.1 css.length p1.2)) rfl) ?_
    refine Ja rfl rfl rfl (Jc (v := .bool true) rfl) ?_
    refine Jf ?_
    try dsimp only [z1, z2, z3, z4, z5, z6, z7, z8]
    refine Jq ?_
    refine Ue 0 rfl (fun hle0 => ?_)
    refine Ws (Φ := fun H_ => FrS H_ 6 (.slice p1.1 css.length p1.2) ((css.set n.toNat [.int .i64 x.Tag, .int .i64 a2.Kind, str a2.Text, v2_2, v2_3, v2_4]).map idC)) 0 2 rfl rfl (by decide) (fun w hF => hw.now hF) (fz_own _) (fun hp3 hle3 hf => ?_)
    try dsimp only [z1, z2, z3, z4, z5, z6, z7, z8]
    have fin := at_frn hf (pfs.mono (fun b o k => hle3 b o (hle0 b o k)))
    have hlen : css.length = l'.length := List.length_set.symm.trans pfs.len
    exact ret2 (v1 := (.slice p1.1 css.length p1.2)) (v2 := .bool true) rfl rfl rfl (Wf p1 (i := 0) rfl (by rw [hlen]) (V1 (by rw [← hlen]; exact fin)))
   ·have H5 := Jp hk2 H4
    obtain ⟨l', h_l', H7⟩ := Ji H5
    obtain rfl := Option.some.inj H7
    obtain ⟨hg, pfi⟩ := AllC.ins (cs := [.int .i64 t, .int .i64 a2.Kind, str a2.Text, v2_2, v2_3, v2_4]) pf h_l' rfl (.mk rfl rfl rfl f2_2 f2_3 f2_4.frs f2_4.el)
    have hone1 : (([[.int .i64 t, .int .i64 a2.Kind, str a2.Text, v2_2, v2_3, v2_4]].map idC).all fun x => x.all Value.oneCell') = true := by
      rw [Q4]
      simp only [List.all_cons, List.all_nil, Bool.and_true, f2_2.one, f2_3.one, f2_4.one]
      rfl
    refine Xq 2 rfl (imp_rowO _ _ _ _ _) ?_
    try dsimp only [z1, z2, z3, z4, z5, z6, z7, z8]
    exact Qp (Kd.p :: Kd.p :: Kd.p :: Kd.p :: Kd.d [] (.int .i64 t) :: Kd.d [1] (.agg (List.toArray [.int .i64 a2.Kind, str a2.Text, v2_2, v2_3, v2_4])) :: Kd.p :: Kd.ns 3 [.int .i64 t, .int .i64 a2.Kind, str a2.Text, v2_2, v2_3, v2_4] 70 1 :: Kd.t 2 [3] (fun x : Option Addr × Nat => .slice x.1 (Y4 css n [.int .i64 t, .int .i64 a2.Kind, str a2.Text, v2_2, v2_3, v2_4]).length x.2) (fun v_ => Z1 70 6 v_ (Y4 css n [.int .i64 t, .int .i64 a2.Kind, str a2.Text, v2_2, v2_3, v2_4]).length ((Y4 css n [.int .i64 t, .int .i64 a2.Kind, str a2.Text, v2_2, v2_3, v2_4]).map idC)) :: Kd.p :: []) 1 mixed (by
     refine Jj rfl rfl (Jd (v := (.slice p1.1 css.length p1.2)) rfl) ?_
     refine Jj rfl rfl (Jd (v := .int .i64 n) rfl) ?_
     refine Jj rfl rfl (Jd (v := v1) rfl) ?_
     refine Jj rfl rfl (Qe Try.underlying25 Try.sizeOf3 rfl rfl f1 h_t) ?_
     refine Zw (fun w hF => Qa (f := J3) (i := 0) (sz := 1) (j := 0) (v := .int .i64 t) Try.isAgg3 rfl rfl (f1.row (hw.now hF)) h_t rfl) rfl rfl ?_
     refine d_loadN (i := 1) (vs := [.int .i64 a2.Kind, str a2.Text, v2_2, v2_3, v2_4]) Try.isAgg29 Try.sizeOf29 rfl rfl rfl rfl ?_
     refine Jj rfl rfl (Ym (pl := #[(0, 1), (1, 5)]) (ps := [(0, .int .i64 t), (1, .agg #[.int .i64 a2.Kind, str a2.Text, v2_2, v2_3, v2_4])]) (cells := #[.int .i64 t, .int .i64 a2.Kind, str a2.Text, v2_2, v2_3, v2_4]) Try.zeroValue70 Try.runUnderlying70 (fun w => by kernel_rfl) rfl rfl) ?_
     refine d_newS rfl rfl (Wb (vs := [.agg #[.int .i64 t, .int .i64 a2.Kind, str a2.Text, v2_2, v2_3, v2_4]]) (cs := [.int .i64 t, .int .i64 a2.Kind, str a2.Text, v2_2, v2_3, v2_4]) Try.underlying27 Try.sizeOf70 Try.zeroValue70 rfl rfl rfl rfl rfl) rfl (fun b7 => ?_)
     refine d_turn (Cv := fun v_ => Z1 70 6 v_ (Y4 css n [.int .i64 t, .int .i64 a2.Kind, str a2.Text, v2_2, v2_3, v2_4]).length ((Y4 css n [.int .i64 t, .int .i64 a2.Kind, str a2.Text, v2_2, v2_3, v2_4]).map idC)) ((none, 0) : Option Addr × Nat) (Xp (i := 2) (rds := [3]) (G := fun x : Option Addr × Nat => .slice x.1 (Y4 css n [.int .i64 t, .int .i64 a2.Kind, str a2.Text, v2_2, v2_3, v2_4]).length x.2) (C := fun x : Option Addr × Nat => Z1 70 6 (.slice x.1 (Y4 css n [.int .i64 t, .int .i64 a2.Kind, str a2.Text, v2_2, v2_3, v2_4]).length x.2) (Y4 css n [.int .i64 t, .int .i64 a2.Kind, str a2.Text, v2_2, v2_3, v2_4]).length ((Y4 css n [.int .i64 t, .int .i64 a2.Kind, str a2.Text, v2_2, v2_3, v2_4]).map idC)) rfl (fun w L' S hF hS hi hp hlt ho hA => k37 (p0 := p1) (cs1 := [.int .i64 t, .int .i64 a2.Kind, str a2.Text, v2_2, v2_3, v2_4]) hp hlt (Y8 w S) rfl hone hone1 rfl (cell_but (j := 3) hA hS (by decide) ((hi 3 (by simp)).trans rfl)) hg) Try.call37 rfl) (fun _ => rfl) rfl rfl (fun p7 => ?_)
     refine Jj rfl rfl (Jc (v := .slice p7.1 (Y4 css n [.int .i64 t, .int .i64 a2.Kind, str a2.Text, v2_2, v2_3, v2_4]).length p7.2) rfl) ?_
     refine Xm ?_
     try dsimp only [z1, z2, z3, z4, z5, z6, z7, z8]
     refine Je ?_
     refine Jb ?_
     refine Ja rfl rfl rfl (Jd (v := (.slice p7.1 (Y4 css n [.int .i64 t, .int .i64 a2.Kind, str a2.Text, v2_2, v2_3, v2_4]).length p7.2)) rfl) ?_
     refine Ja rfl rfl rfl (Jc (v := (.slice p7.1 (Y4 css n [.int .i64 t, .int .i64 a2.Kind, str a2.Text, v2_2, v2_3, v2_4]).length p7.2)) rfl) ?_
     refine Ja rfl rfl rfl (Jc (v := .bool true) rfl) ?_
     refine Jf ?_
     try dsimp only [z1, z2, z3, z4, z5, z6, z7, z8]
     refine Jq ?_
     refine Ue 0 rfl (fun hle0 => ?_)
     refine Ws (Φ := fun H_ => FrS H_ 6 (.slice p7.1 (Y4 css n [.int .i64 t, .int .i64 a2.Kind, str a2.Text, v2_2, v2_3, v2_4]).length p7.2) ((Y4 css n [.int .i64 t, .int .i64 a2.Kind, str a2.Text, v2_2, v2_3, v2_4]).map idC)) 0 2 rfl rfl (by decide) (fun w hF => hw.now hF) (fz_offO _) (fun hp3 hle3 hf => ?_)
     try dsimp only [z1, z2, z3, z4, z5, z6, z7, z8]
     have fin := at_frn hf (pfi.mono (fun b o k => hle3 b o (hle0 b o k)))
     exact ret2 (v1 := .slice p7.1 (Y4 css n [.int .i64 t, .int .i64 a2.Kind, str a2.Text, v2_2, v2_3, v2_4]).length p7.2) (v2 := .bool true) rfl rfl rfl (Wf p7 (i := 0) rfl (by rw [show (Y4 css n [.int .i64 t, .int .i64 a2.Kind, str a2.Text, v2_2, v2_3, v2_4]).length = l'.length from pfi.len]) (V1 (by rw [← (show (Y4 css n [.int .i64 t, .int .i64 a2.Kind, str a2.Text, v2_2, v2_3, v2_4]).length = l'.length from pfi.len)]; exact fin)))
    ) (by kernel_rfl)
end Go.Proofs.Ytpljknglodhcnaa

/- A file with another entry, or without one: the reference's. Conditions: none. -/
namespace Go.Proofs.Ytpljknglodhcnaa
open Go Go.Vc Go.Md Go.M Go.Lx
set_option maxRecDepth 100000
set_option maxHeartbeats 8000000
set_option linter.unusedVariables false
theorem k15 {a0 : T_tag_File} {v0_1 : Value} {a1 : List Int} {v1 : Value} {a2 : T_tag_Value} {v2_2 v2_3 v2_4 : Value} {a3 : Bool} {r : T_tag_File × Bool} {w : World} {h : Jx} (hw : Know h w X3) (f0_1 : FrN h 1 v0_1 gs_tag_Entry a0.Dirs) (f1 : FrS h 1 v1 (a1.map J3))
  (f2_2 : FrS h 1 v2_2 (a2.Ints.map J3)) (f2_3 : FrS h 2 v2_3 (a2.Ratios.map Jn)) (f2_4 : FrN h 6 v2_4 g_tag_Entry a2.Entries) (H : Ve a0 a1 a2 a3 = some r) :
    Does Try.prog 15 (List.toArray [.agg #[.bool a0.Big, v0_1], v1, .agg #[.int .i64 a2.Kind, str a2.Text, v2_2, v2_3, v2_4], .bool a3]) w (fun v w' => ∃ x : (Option Addr × Nat), v = (.tuple #[.agg #[.bool r.1.Big, .slice x.1 r.1.Dirs.length x.2], .bool r.2]) ∧ Turn w w' X3 (Yi h (fun hp_ => FrN hp_ 1 (.slice x.1 r.1.Dirs.length x.2) gs_tag_Entry r.1.Dirs))) := by
 unfold Ve at H
 refine enter (n := 61) Try.func15 rfl rfl rfl X3 [] (Sat.nil _ _) ?_
 refine We h ?_
 refine Je ?_
 refine Jb ?_
 refine Yv (cs := [.bool a0.Big, v0_1]) rfl rfl rfl rfl (fun b4 => ?_)
 refine Yv (cs := [.int .i64 a2.Kind, str a2.Text, v2_2, v2_3, v2_4]) rfl rfl rfl rfl (fun b6 => ?_)
 refine Ye (cs := [.bool false, .slice none 0 0]) Try.zeroValue24 rfl rfl rfl (fun b8 => ?_)
 refine Ja rfl rfl rfl (Jc (v := .bool false) rfl) ?_
 refine Jf ?_
 try dsimp only [z1, z2, z3, z4, z5, z6, z7, z8]
 have err : ∀ {e : Xd} {fn : Func} {hp c1 c2 rest}, fn.results = #[.cell 8 24, .tmp 9] → r = (noF, false) → e 8 = .pointer (some ⟨b8, 0, none⟩) → e 9 = .bool false → At ⟨w, X3⟩ (BodyQ Try.prog fn (fun v w' => ∃ x : (Option Addr × Nat), v = (.tuple #[.agg #[.bool r.1.Big, .slice x.1 r.1.Dirs.length x.2], .bool r.2]) ∧ Turn w w' X3 (Yi h (fun hp_ => FrN hp_ 1 (.slice x.1 r.1.Dirs.length x.2) gs_tag_Entry r.1.Dirs))) .ret) e (X9 h hp :: c1 :: c2 :: Jv b8 [.bool false, .slice none 0 0] 24 :: rest) := fun {e fn hp c1 c2 rest} hfn hr h8 h9 => by
   subst hr
   exact retCt (i := 3) (vs := [.bool false, .slice none 0 0]) (v2 := .bool false) Try.isAgg24 Try.sizeOf24 hfn h8 rfl rfl h9 (Wf ((none, 0) : Option Addr × Nat) (i := 0) rfl rfl (V1 (FrN.nil _ _ _)))
 refine Je ?_
 refine Je ?_
 by_cases hlen : (a1.length : Int) < 2
 ·have H1 := Jo (decide_eq_true hlen) H
  exact Qp (Kd.p :: Kd.p :: Kd.p :: Kd.p :: Kd.p :: Kd.p :: Kd.d [] undef :: Kd.p :: Kd.p :: Kd.p :: Kd.p :: Kd.p :: Kd.d [] undef :: Kd.p :: Kd.d [1] v0_1 :: Kd.p :: Kd.p :: Kd.p :: []) 0 mixed (by
   refine Jj rfl rfl (Jd (v := v1) rfl) ?_
   refine Jj rfl rfl (Xy Try.underlying25 rfl f1 rfl) ?_
   refine Jj rfl rfl (Xs rfl rfl) ?_
   refine Jj rfl rfl (Jd (v := .bool (decide ((a1.length : Int) < 2))) rfl) ?_
   refine Vf (fun hb => ?_) (fun hb => ?_)
   ·refine Jw rfl rfl ?_
    refine Jw rfl rfl ?_
    refine Jw rfl rfl ?_
    refine Jw rfl rfl ?_
    refine Jj rfl rfl (Jz (v := .bool true) rfl rfl) ?_
    refine Jj rfl rfl (Jd (v := .bool true) rfl) ?_
    refine Jw rfl rfl ?_
    refine Jw rfl rfl ?_
    refine Jw rfl rfl ?_
    refine Jw rfl rfl ?_
    refine Jw rfl rfl ?_
    refine Jw rfl rfl ?_
    refine Jw rfl rfl ?_
    refine Jj rfl rfl (Jz (v := .bool true) rfl rfl) ?_
    refine Xm ?_
    try dsimp only [z1, z2, z3, z4, z5, z6, z7, z8]
    refine Y5 rfl ?_
    refine Je ?_
    refine Jb ?_
    refine Ja rfl rfl rfl (Ym (pl := #[(0, 1), (1, 1)]) (ps := []) (cells := #[.bool false, .slice none 0 0]) Try.zeroValue24 Try.runUnderlying24 (fun w => by kernel_rfl) rfl rfl) ?_
    refine Qi (i := 3) (vs := [.bool false, .slice none 0 0]) (cs' := [.bool false, .slice none 0 0]) Try.sizeOf24 rfl rfl rfl rfl rfl rfl rfl rfl rfl ?_
    refine Ja rfl rfl rfl (Jc (v := .bool false) rfl) ?_
    refine Jf ?_
    try dsimp only [z1, z2, z3, z4, z5, z6, z7, z8]
    refine Jq ?_
    refine err ?_ (Option.some.inj H1).symm ?_ ?_ <;> rfl
   ·exact absurd hlen (of_decide_eq_false hb)
  ) (by kernel_rfl)
 ·have H2 := Jp (decide_eq_false hlen) H
  obtain ⟨p0, h_p0, H3⟩ := Ji H2
  exact Qp (Kd.p :: Kd.p :: Kd.p :: Kd.p :: Kd.p :: Kd.p :: Kd.d [] (.int .i64 p0) :: Kd.p :: Kd.p :: Kd.p :: Kd.p :: Kd.p :: Kd.d [] (.int .i64 p0) :: Kd.p :: Kd.d [1] v0_1 :: Kd.p :: Kd.p :: Kd.p :: []) 0 mixed (by
   refine Jj rfl rfl (Jd (v := v1) rfl) ?_
   refine Jj rfl rfl (Xy Try.underlying25 rfl f1 rfl) ?_
   refine Jj rfl rfl (Xs rfl rfl) ?_
   refine Jj rfl rfl (Jd (v := .bool (decide ((a1.length : Int) < 2))) rfl) ?_
   refine Vf (fun hb => ?_) (fun hb => ?_)
   ·exact absurd (of_decide_eq_true hb) hlen
   ·refine Jj rfl rfl (Jd (v := v1) rfl) ?_
    refine Jj rfl rfl (Qe Try.underlying25 Try.sizeOf3 rfl rfl f1 h_p0) ?_
    refine Zw (fun w hF => Qa (f := J3) (i := 0) (sz := 1) (j := 0) (v := .int .i64 p0) Try.isAgg3 rfl rfl (f1.row (hw.now hF)) h_p0 rfl) rfl rfl ?_
    refine Jj rfl rfl (Xs rfl rfl) ?_
    refine Jj rfl rfl (J0 (v := .bool (decide (p0 < 0))) rfl rfl) ?_
    refine Jj rfl rfl (Jd (v := .bool (decide (p0 < 0))) rfl) ?_
    refine Vf (fun hb1 => ?_) (fun hb1 => ?_)
    ·have H4 := Jo hb1 H3
     refine Jw rfl rfl ?_
     refine Jw rfl rfl ?_
     refine Jw rfl rfl ?_
     refine Jw rfl rfl ?_
     refine Jw rfl rfl ?_
     refine Jw rfl rfl ?_
     refine Jw rfl rfl ?_
     refine Jj rfl rfl (Jz (v := .bool true) rfl rfl) ?_
     refine Xm ?_
     try dsimp only [z1, z2, z3, z4, z5, z6, z7, z8]
     refine Y5 rfl ?_
     refine Je ?_
     refine Jb ?_
     refine Ja rfl rfl rfl (Ym (pl := #[(0, 1), (1, 1)]) (ps := []) (cells := #[.bool false, .slice none 0 0]) Try.zeroValue24 Try.runUnderlying24 (fun w => by kernel_rfl) rfl rfl) ?_
     refine Qi (i := 3) (vs := [.bool false, .slice none 0 0]) (cs' := [.bool false, .slice none 0 0]) Try.sizeOf24 rfl rfl rfl rfl rfl rfl rfl rfl rfl ?_
     refine Ja rfl rfl rfl (Jc (v := .bool false) rfl) ?_
     refine Jf ?_
     try dsimp only [z1, z2, z3, z4, z5, z6, z7, z8]
     refine Jq ?_
     refine err ?_ (Option.some.inj H4).symm ?_ ?_ <;> rfl
    ·have H4 := Jp hb1 H3
     refine Jj rfl rfl (Jd (v := v1) rfl) ?_
     refine Jj rfl rfl (Qe Try.underlying25 Try.sizeOf3 rfl rfl f1 h_p0) ?_
     refine Zw (fun w hF => Qa (f := J3) (i := 0) (sz := 1) (j := 0) (v := .int .i64 p0) Try.isAgg3 rfl rfl (f1.row (hw.now hF)) h_p0 rfl) rfl rfl ?_
     refine Jj rfl rfl (Jl Try.runUnderlying24 rfl Try.sizeOf22 rfl rfl) ?_
     refine Qx (i := 1) (v := v0_1) Try.isAgg22 rfl rfl rfl rfl ?_
     refine Jj rfl rfl (Q7 Try.underlying22 rfl f0_1) ?_
     refine Jj rfl rfl (r_geq rfl rfl) ?_
     refine Jj rfl rfl (J0 (v := .bool (decide ((a0.Dirs.length : Int) ≤ p0))) rfl rfl) ?_
     refine Xm ?_
     try dsimp only [z1, z2, z3, z4, z5, z6, z7, z8]
     refine J4 (b := (decide ((a0.Dirs.length : Int) ≤ p0))) rfl (fun hb2 => ?_) (fun hb2 => ?_)
     ·have H5 := Jo hb2 H4
      refine Je ?_
      refine Jb ?_
      refine Ja rfl rfl rfl (Ym (pl := #[(0, 1), (1, 1)]) (ps := []) (cells := #[.bool false, .slice none 0 0]) Try.zeroValue24 Try.runUnderlying24 (fun w => by kernel_rfl) rfl rfl) ?_
      refine Qi (i := 3) (vs := [.bool false, .slice none 0 0]) (cs' := [.bool false, .slice none 0 0]) Try.sizeOf24 rfl rfl rfl rfl rfl rfl rfl rfl rfl ?_
      refine Ja rfl rfl rfl (Jc (v := .bool false) rfl) ?_
      refine Jf ?_
      try dsimp only [z1, z2, z3, z4, z5, z6, z7, z8]
      refine Jq ?_
      refine err ?_ (Option.some.inj H5).symm ?_ ?_ <;> rfl
     ·have H5 := Jp hb2 H4
      obtain ⟨l, h_l, H6⟩ := Ji H5
      obtain ⟨ts, h_ts, H7⟩ := Ji H6
      obtain ⟨q, h_q, H8⟩ := Ji H7
      obtain ⟨hp0, hp1, hpe⟩ := Yp h_l
      obtain ⟨ba, hba⟩ := sa_some f0_1.frs (by rw [List.length_map, List.length_range]; omega)
      have f4 : FrN h 6 (Qb h v0_1 1 p0.toNat 0) g_tag_Entry l := f0_1.at h_l
      have f1c := f1.cut h_ts
      refine Js ?_
      refine Je ?_
      exact Qp (Kd.p :: Kd.d [1] v0_1 :: Kd.p :: Kd.p :: Kd.d [] (.int .i64 p0) :: Kd.p :: Kd.d [] (Qb h v0_1 1 p0.toNat 0) :: Kd.p :: Kd.p :: Kd.d [2] (.agg (List.toArray [.int .i64 a2.Kind, str a2.Text, v2_2, v2_3, v2_4])) :: Kd.p :: Kd.t 4 [] (fun x : (Option Addr × Nat) => .tuple #[.slice x.1 q.1.length x.2, .bool q.2]) (fun v_ => Yi h (fun hp_ => FrN hp_ 6 (vcell v_ 0) g_tag_Entry q.1)) :: Kd.p :: Kd.p :: Kd.p :: Kd.p :: Kd.p :: []) 1 mixed (by
       refine Jj rfl rfl (Jl Try.runUnderlying24 rfl Try.sizeOf22 rfl rfl) ?_
       refine Qx (i := 1) (v := v0_1) Try.isAgg22 rfl rfl rfl rfl ?_
       refine Jj rfl rfl (Jd (v := v1) rfl) ?_
       refine Jj rfl rfl (Qe Try.underlying25 Try.sizeOf3 rfl rfl f1 h_p0) ?_
       refine Zw (fun w hF => Qa (f := J3) (i := 0) (sz := 1) (j := 0) (v := .int .i64 p0) Try.isAgg3 rfl rfl (f1.row (hw.now hF)) h_p0 rfl) rfl rfl ?_
       refine Jj rfl rfl (r_indexP Try.underlying22 Try.sizeOf27 rfl rfl f0_1.frs (f0_1.ix h_l) hba) ?_
       refine Zw (fun w hF => Qa (f := Wu h v0_1 1) (i := p0) (sz := 1) (j := 0) (k := p0.toNat * 1) (a := some ba) (v := Qb h v0_1 1 p0.toNat 0) Try.isAgg27 rfl rfl (by rw [← hba]; exact f0_1.frs.row (hw.now hF)) (f0_1.ix h_l) (Ur (X8 (f0_1.at h_l)) rfl)) rfl rfl ?_
       refine Jj rfl rfl (Jd (v := v1) rfl) ?_
       refine Jj rfl rfl (r_sliceLF Try.underlying25 Try.sizeOf3 rfl rfl f1 h_ts) ?_
       refine d_loadN (i := 2) (vs := [.int .i64 a2.Kind, str a2.Text, v2_2, v2_3, v2_4]) Try.isAgg29 Try.sizeOf29 rfl rfl rfl rfl ?_
       refine Jj rfl rfl (Jd (v := .bool a3) rfl) ?_
       refine d_make ((none, 0) : Option Addr × Nat) (Q9 (rds := []) (G := fun x : (Option Addr × Nat) => .tuple #[.slice x.1 q.1.length x.2, .bool q.2]) (C := fun x : (Option Addr × Nat) => Yi h (fun hp_ => FrN hp_ 6 (.slice x.1 q.1.length x.2) g_tag_Entry q.1)) (fun w L' hF hS hi => k43 ts (hw.at hF) f4 f1c f2_2 f2_3 f2_4 h_q) Try.call43 rfl) (fun _ => rfl) rfl rfl rfl (fun pq => ?_)
       refine Jj rfl rfl (Jd (v := .tuple #[.slice pq.1 q.1.length pq.2, .bool q.2]) rfl) ?_
       refine Jj rfl rfl (Qf (v := .slice pq.1 q.1.length pq.2) rfl rfl) ?_
       refine Jj rfl rfl (Qf (v := .bool q.2) rfl rfl) ?_
       refine Jj rfl rfl (Jc (v := .slice pq.1 q.1.length pq.2) rfl) ?_
       refine Jj rfl rfl (Jc (v := .bool q.2) rfl) ?_
       refine Xm ?_
       try dsimp only [z1, z2, z3, z4, z5, z6, z7, z8]
       refine Ud 4 rfl (fun hq hqf => ?_)
       try dsimp only [z1, z2, z3, z4, z5, z6, z7, z8]
       refine Je ?_
       refine Je ?_
       refine Jb ?_
       refine Ja rfl rfl rfl (Jd (v := .bool q.2) rfl) ?_
       refine Ja rfl rfl rfl (V3 rfl) ?_
       refine Jf ?_
       try dsimp only [z1, z2, z3, z4, z5, z6, z7, z8]
       refine J4 (b := !q.2) rfl (fun hk2 => ?_) (fun hk2 => ?_)
       ·have H9 := Jo hk2 H8
        refine Je ?_
        refine Jb ?_
        refine Ja rfl rfl rfl (Ym (pl := #[(0, 1), (1, 1)]) (ps := []) (cells := #[.bool false, .slice none 0 0]) Try.zeroValue24 Try.runUnderlying24 (fun w => by kernel_rfl) rfl rfl) ?_
        refine Qi (i := 3) (vs := [.bool false, .slice none 0 0]) (cs' := [.bool false, .slice none 0 0]) Try.sizeOf24 rfl rfl rfl rfl rfl rfl rfl rfl rfl ?_
        refine Ja rfl rfl rfl (Jc (v := .bool false) rfl) ?_
        refine Jf ?_
        try dsimp only [z1, z2, z3, z4, z5, z6, z7, z8]
        refine Jq ?_
        refine err ?_ (Option.some.inj H9).symm ?_ ?_ <;> rfl
       ·have H9 := Jp hk2 H8
        obtain ⟨cl, h_cl, H10⟩ := Ji H9
        obtain ⟨ls, h_ls, H11⟩ := Ji H10
        have hcl : cl = a0.Dirs := by
         unfold Xh at h_cl
         obtain ⟨c, hc, e⟩ := Ji h_cl
         rw [(Vu hc).1] at e
         exact (Option.some.inj e).symm
        subst hcl
        obtain rfl := Option.some.inj H11
        refine Js ?_
        refine Je ?_
        refine Jb ?_
        refine Ja rfl rfl rfl (Jl Try.runUnderlying24 rfl Try.sizeOf22 rfl rfl) ?_
        refine Jt (i := 1) (v := v0_1) Try.isAgg22 rfl rfl rfl rfl rfl ?_
        refine Vh (Q9 (rds := []) (G := fun x : (Option Addr × Nat) => .slice x.1 a0.Dirs.length x.2) (C := fun x : (Option Addr × Nat) => rowHD h 27 1 gs_tag_Entry (.slice x.1 a0.Dirs.length x.2) a0.Dirs.length a0.Dirs) (fun w L' hF hS hi => k44 (h := h) (hw.at hF) f0_1 h_cl) Try.call44 rfl) rfl rfl rfl (fun p5 => ?_)
        refine c_rowHD 5 rfl (fun css hn pf => ?_)
        rw [hn]
        refine Ja rfl rfl rfl (Jl Try.runUnderlying24 rfl Try.sizeOf22 rfl rfl) ?_
        refine Qi (i := 1) (vs := [(.slice p5.1 css.length p5.2)]) (cs' := [.bool a0.Big, (.slice p5.1 css.length p5.2)]) Try.sizeOf22 rfl rfl rfl rfl rfl rfl rfl rfl rfl ?_
        refine Jf ?_
        try dsimp only [z1, z2, z3, z4, z5, z6, z7, z8]
        have hat := pf.ix h_l
        refine Je ?_
        exact Qp (Kd.p :: Kd.d [1] (.slice p5.1 css.length p5.2) :: Kd.p :: Kd.p :: Kd.d [] (.int .i64 p0) :: Kd.p :: Kd.d [5] (V4 p5.1 (p0.toNat * 1)) :: Kd.t 5 [] (fun _ : Unit => undef) (fun _ => Xa 27 1 (.slice p5.1 css.length p5.2) css.length ((setR css p0 0 (.slice pq.1 q.1.length pq.2)).map idC)) :: []) 0 mixed (by
         refine Jj rfl rfl (Jl Try.runUnderlying24 rfl Try.sizeOf22 rfl rfl) ?_
         refine Qx (i := 1) (v := (.slice p5.1 css.length p5.2)) Try.isAgg22 rfl rfl rfl rfl ?_
         refine Jj rfl rfl (Jd (v := v1) rfl) ?_
         refine Jj rfl rfl (Qe Try.underlying25 Try.sizeOf3 rfl rfl f1 h_p0) ?_
         refine Zw (fun w hF => Qa (f := J3) (i := 0) (sz := 1) (j := 0) (v := .int .i64 p0) Try.isAgg3 rfl rfl (f1.row (hw.now hF)) h_p0 rfl) rfl rfl ?_
         refine Jj rfl rfl (Jd (v := .slice pq.1 q.1.length pq.2) rfl) ?_
         refine Wz (fun w L' hF hS hi => W4 Try.underlying22 Try.sizeOf27 rfl rfl (rowOf (i := 5) (E := 27) (sz := 1) (n := css.length) (a := p5.1) (c := p5.2) (xs := css.map idC) hS ((hi 5 (by simp)).trans (by rw [Q4]; rfl))) rfl hat) rfl rfl ?_
         refine d_turn0 (Cv := fun _ => Xa 27 1 (.slice p5.1 css.length p5.2) css.length ((setR css p0 0 (.slice pq.1 q.1.length pq.2)).map idC)) () (turns_storeV (q := 5) (j := 0) (sz := 1) (i := p0) (css := css) (m := css.length) (x := .slice pq.1 q.1.length pq.2) rfl pf.len Try.sizeOf27 rfl rfl rfl rfl rfl rfl (by rw [Q4]; rfl) h_l) (fun _ => rfl) rfl rfl (fun _ => ?_)
         refine Xm ?_
         try dsimp only [z1, z2, z3, z4, z5, z6, z7, z8]
         refine Je ?_
         refine Jb ?_
         refine Qg (i := 1) (vs := [.bool a0.Big, (.slice p5.1 css.length p5.2)]) Try.isAgg24 Try.sizeOf24 rfl rfl rfl rfl rfl ?_
         refine Qi (i := 3) (vs := [.bool a0.Big, (.slice p5.1 css.length p5.2)]) (cs' := [.bool a0.Big, (.slice p5.1 css.length p5.2)]) Try.sizeOf24 rfl rfl rfl rfl rfl rfl rfl rfl rfl ?_
         refine Ja rfl rfl rfl (Jc (v := .bool true) rfl) ?_
         refine Jf ?_
         try dsimp only [z1, z2, z3, z4, z5, z6, z7, z8]
         refine Jq ?_
         refine c_poolJoinB 0 4 rfl rfl (by decide) (fun w hF => hw.now hF) (fun hp2 hle1 hle2 => ?_)
         try dsimp only [z1, z2, z3, z4, z5, z6, z7, z8]
         refine Ue 0 rfl (fun hle0 => ?_)
         refine Ws (Φ := fun H_ => FrS H_ 1 (.slice p5.1 css.length p5.2) ((setR css p0 0 (.slice pq.1 q.1.length pq.2)).map idC)) 0 5 rfl rfl (by decide) (fun w hF => hw.now hF) (fz_own _) (fun hp3 hle3 hf => ?_)
         try dsimp only [z1, z2, z3, z4, z5, z6, z7, z8]
         have pf3 := pf.mono (fun b o k => hle3 b o (hle0 b o k))
         have fq := hqf.mono (fun b o k => hle3 b o (hle2 b o k))
         have pf4 : AllC gs_tag_Entry hp3 1 (setR css p0 0 (.slice pq.1 q.1.length pq.2)) ls := pf3.setR h_l h_ls rfl fq
         have fin := frn_of hf pf4
         have hlen2 : css.length = ls.length := (setR_len _ _ _ _).symm.trans pf4.len
         exact retCt (i := 3) (vs := [.bool a0.Big, (.slice p5.1 css.length p5.2)]) (v2 := .bool true) Try.isAgg24 Try.sizeOf24 rfl rfl rfl rfl rfl (Wf p5 (i := 0) rfl (by rw [hlen2]) (V1 (by rw [← hlen2]; exact fin)))
        ) (by kernel_rfl)
      ) (by kernel_rfl)
  ) (by kernel_rfl)
end Go.Proofs.Ytpljknglodhcnaa
