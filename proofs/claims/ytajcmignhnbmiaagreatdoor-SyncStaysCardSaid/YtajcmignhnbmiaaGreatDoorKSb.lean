/- SyncStays, the deeds: the walks, printed by our generator; each follows its model. Conditions: the model yields a value. -/
import Derived.Test.YtajcmignhnbmiaaGreatDoorKSa
namespace Go.Proofs.YtajcmignhnbmiaaGreatDoor
open Go Go.Vc Go.Md Go.M Go.Lx
set_option maxRecDepth 100000
set_option maxHeartbeats 4000000
set_option linter.unusedVariables false
theorem k21 {q0 : Int} {c0 : Nat} {a0 : T_sync_Fact} {r : Bool} {w : World} {h : Qd} (hw : Know h w Vd) (hc0 : h c0 = some (.cells (List.toArray [.int .i64 q0]) 3 (0, 0))) (H : W8 q0 a0 = some r) : Does Tryz.prog 21 (List.toArray [.agg #[.int .i64 a0.Dot.Device, .int .i64 a0.Dot.N, .int .i64 a0.Time, .int .i64 a0.Kind, .int .i64 a0.Id, str a0.Name, .int .i64 a0.Num, str a0.Text], .pointer (some ⟨c0, 0, none⟩)]) w (fun v w' => v = (.bool r) ∧ Grow w w') := by
 refine enter (n := 8) Tryz.func21 rfl rfl rfl Vd [] (Sat.nil _ _) ?_
 refine Jf ?_
 refine Jb ?_
 refine Zo (cs := [.int .i64 a0.Dot.Device, .int .i64 a0.Dot.N, .int .i64 a0.Time, .int .i64 a0.Kind, .int .i64 a0.Id, str a0.Name, .int .i64 a0.Num, str a0.Text]) rfl rfl rfl rfl (fun b1 => ?_)
 refine Ja rfl rfl rfl (Jc (v := .bool false) rfl) ?_
 refine Jg ?_
 refine Jf ?_
 refine Jb ?_
 refine Ja rfl rfl rfl (Jo Tryz.runUnderlying45 rfl Tryz.sizeOf3 rfl rfl) ?_
 refine Jv (i := 0) (v := .int .i64 a0.Id) Tryz.isAgg3 rfl rfl rfl rfl rfl ?_
 refine Qo (fun w hF hS => Xo (v := .int .i64 q0) Tryz.isAgg3 rfl (hw.now hF _ _ hc0) rfl) rfl rfl rfl ?_
 refine Ja rfl rfl rfl (Xd rfl rfl) ?_
 refine Ja rfl rfl rfl (Jc (v := .bool (decide (a0.Id = q0))) rfl) ?_
 refine Jg ?_
 refine Jp ?_
 obtain rfl := Option.some.inj H
 refine J3 (v := .bool (decide (a0.Id = q0))) rfl rfl (Yd rfl)
theorem k6 {a0 : T_sync_Replica} {pb0 : Nat} {p0_2 : Option Addr × Nat} {n0_2 : Nat} {a1 : Int} {r : Int × T_sync_Replica} {w : World} {h : Qd} {S : Nat → Prop} (hcs : (J0 (Jl pb0 [.int .i64 a0.device_, .int .i64 (a0.knows_ 0), .int .i64 (a0.knows_ 1), .int .i64 (a0.knows_ 2), .int .i64 (a0.knows_ 3), .int .i64 (a0.knows_ 4), .int .i64 (a0.knows_ 5), .int .i64 (a0.knows_ 6), .int .i64 (a0.knows_ 7), .int .i64 (a0.knows_ 8), .int .i64 (a0.knows_ 9), .int .i64 (a0.knows_ 10), .int .i64 (a0.knows_ 11), .int .i64 (a0.knows_ 12), .int .i64 (a0.knows_ 13), .int .i64 (a0.knows_ 14), .int .i64 (a0.knows_ 15), .slice p0_2.1 n0_2 p0_2.2] 60) (J2 45 8 (.slice p0_2.1 n0_2 p0_2.2) n0_2 (a0.facts_.map Jd))).P S w) (hlt : ∀ b, S b → b < w.heap.size) (hw : Know h w S) (hn0_2 : n0_2 = a0.facts_.length) (H : Y1 a0 a1 = some r) : Does Tryz.prog 6 (List.toArray [.pointer (some ⟨pb0, 0, none⟩), .int .i64 a1]) w (fun v w' => ∃ x : (Option Addr × Nat), v = (.int .i64 r.1) ∧ Turn w w' S (J0 (Jl pb0 [.int .i64 r.2.device_, .int .i64 (r.2.knows_ 0), .int .i64 (r.2.knows_ 1), .int .i64 (r.2.knows_ 2), .int .i64 (r.2.knows_ 3), .int .i64 (r.2.knows_ 4), .int .i64 (r.2.knows_ 5), .int .i64 (r.2.knows_ 6), .int .i64 (r.2.knows_ 7), .int .i64 (r.2.knows_ 8), .int .i64 (r.2.knows_ 9), .int .i64 (r.2.knows_ 10), .int .i64 (r.2.knows_ 11), .int .i64 (r.2.knows_ 12), .int .i64 (r.2.knows_ 13), .int .i64 (r.2.knows_ 14), .int .i64 (r.2.knows_ 15), .slice x.1 r.2.facts_.length x.2] 60) (J2 45 8 (.slice x.1 r.2.facts_.length x.2) r.2.facts_.length (r.2.facts_.map Jd)))) := by
 refine enter (n := 12) Tryz.func6 rfl rfl rfl S [J0 (Jl pb0 [.int .i64 a0.device_, .int .i64 (a0.knows_ 0), .int .i64 (a0.knows_ 1), .int .i64 (a0.knows_ 2), .int .i64 (a0.knows_ 3), .int .i64 (a0.knows_ 4), .int .i64 (a0.knows_ 5), .int .i64 (a0.knows_ 6), .int .i64 (a0.knows_ 7), .int .i64 (a0.knows_ 8), .int .i64 (a0.knows_ 9), .int .i64 (a0.knows_ 10), .int .i64 (a0.knows_ 11), .int .i64 (a0.knows_ 12), .int .i64 (a0.knows_ 13), .int .i64 (a0.knows_ 14), .int .i64 (a0.knows_ 15), .slice p0_2.1 n0_2 p0_2.2] 60) (J2 45 8 (.slice p0_2.1 n0_2 p0_2.2) n0_2 (a0.facts_.map Jd))] (Sat.one hcs hlt) ?_
 refine Yo 0 rfl ?_
 refine Jf ?_
 refine Jb ?_
 refine Zo (cs := [.int .i64 a1]) rfl rfl rfl rfl (fun b1 => ?_)
 refine Ja rfl rfl rfl (Jc (v := .int .i64 0) rfl) ?_
 refine Jg ?_
 refine Jf ?_
 refine Jf ?_
 refine Jb ?_
 refine Ja rfl rfl rfl (Je (v := .pointer (some ⟨pb0, 0, none⟩)) rfl) ?_
 refine Jv (i := 2) (v := .int .i64 a1) Tryz.isAgg3 rfl rfl rfl rfl rfl ?_
 obtain ⟨t7, h_t7, H5⟩ := Ji H; clear H
 refine Yv (fun w hF hS => k19 (Jx w) (Zp (i := 1) hn0_2 hS rfl) (Qj (i := 0) hS rfl) h_t7) Tryz.call19 rfl rfl rfl ?_
 refine Ja rfl rfl rfl (Zm rfl) ?_
 refine Jg ?_
 refine Qg (b := (!t7)) rfl (fun hb => ?_) (fun hb => ?_)
 ·have H6 := Jr hb H5; clear H5
  refine Jf ?_
  refine Jb ?_
  refine Ja rfl rfl rfl (Jc (v := .int .i64 7) rfl) ?_
  refine Jg ?_
  refine Jp ?_
  obtain rfl := Option.some.inj H6
  refine Qa 0 1 rfl rfl (by decide) ?_
  refine J3 (v := .int .i64 7) rfl rfl (Yk p0_2 (i := 0) rfl (by first | rfl | rw [(show n0_2 = a0.facts_.length from hn0_2)]) (by first | exact Imp.refl _ | exact Imp.of (by rw [(show n0_2 = a0.facts_.length from hn0_2)])))
 ·have H7 := Jq hb H5; clear H5
  refine Jw ?_
  refine Jf ?_
  refine Jb ?_
  refine Ja rfl rfl rfl (Je (v := .pointer (some ⟨pb0, 0, none⟩)) rfl) ?_
  refine Ja rfl rfl rfl (Wp (caps := #[.pointer (some ⟨b1, 0, none⟩)]) rfl) ?_
  obtain ⟨t11, h_t11, H8⟩ := Ji H7; clear H7
  refine Qa 0 1 rfl rfl (by decide) ?_
  refine Q4 (J6 (i := 0) (rds := [2]) (G := fun x : (Option Addr × Nat) => .tuple #[]) (C := fun x : (Option Addr × Nat) => J0 (Jl pb0 [.int .i64 t11.device_, .int .i64 (t11.knows_ 0), .int .i64 (t11.knows_ 1), .int .i64 (t11.knows_ 2), .int .i64 (t11.knows_ 3), .int .i64 (t11.knows_ 4), .int .i64 (t11.knows_ 5), .int .i64 (t11.knows_ 6), .int .i64 (t11.knows_ 7), .int .i64 (t11.knows_ 8), .int .i64 (t11.knows_ 9), .int .i64 (t11.knows_ 10), .int .i64 (t11.knows_ 11), .int .i64 (t11.knows_ 12), .int .i64 (t11.knows_ 13), .int .i64 (t11.knows_ 14), .int .i64 (t11.knows_ 15), .slice x.1 t11.facts_.length x.2] 60) (J2 45 8 (.slice x.1 t11.facts_.length x.2) t11.facts_.length (t11.facts_.map Jd))) rfl (fun w L' S hF hS hi hp hlt ho hA => k20 hp hlt (Qn w S) hn0_2 (FnH.mk ⟨21, #[], #[.pointer (some ⟨b1, 0, none⟩)], rfl, Tryz.call21, fun args2 post2 w2 hk2 hR2 => by obtain ⟨a0_, r_, rfl, H_, rfl⟩ := hR2; exact k21 (Jx w2) (hk2.up _ _ (U9 (j := 2) hA hS (by decide) ((hi 2 (by simp)).trans rfl))) H_⟩) (FrS.nil _ _) h_t11) Tryz.call20 rfl) rfl rfl rfl (fun p => ?_)
  refine Q0 0 1 rfl rfl (by decide) ?_
  refine Jg ?_
  refine Jf ?_
  refine W7 [0, 1, 2] [Jl pb0 [.int .i64 t11.device_, .int .i64 (t11.knows_ 0), .int .i64 (t11.knows_ 1), .int .i64 (t11.knows_ 2), .int .i64 (t11.knows_ 3), .int .i64 (t11.knows_ 4), .int .i64 (t11.knows_ 5), .int .i64 (t11.knows_ 6), .int .i64 (t11.knows_ 7), .int .i64 (t11.knows_ 8), .int .i64 (t11.knows_ 9), .int .i64 (t11.knows_ 10), .int .i64 (t11.knows_ 11), .int .i64 (t11.knows_ 12), .int .i64 (t11.knows_ 13), .int .i64 (t11.knows_ 14), .int .i64 (t11.knows_ 15), .slice p.1 t11.facts_.length p.2] 60, J2 45 8 (.slice p.1 t11.facts_.length p.2) t11.facts_.length (t11.facts_.map Jd), Jl b1 [.int .i64 a1] 3] rfl (by decide) ?_
  refine Jb ?_
  refine Ja rfl rfl rfl (Jc (v := .int .i64 0) rfl) ?_
  refine Jg ?_
  refine Jp ?_
  obtain rfl := Option.some.inj H8
  refine Qa 0 1 rfl rfl (by decide) ?_
  refine J3 (v := .int .i64 0) rfl rfl (Yk p (i := 0) rfl rfl (Imp.refl _))
theorem k70 {a0 : (List T_sync_Fact)} {v0 : Value} {r : (List T_sync_Fact)} {w : World} {h : Qd} (hw : Know h w Vd) (f0 : FrS h 8 v0 (a0.map Jd)) (H : Yy a0 = some r) : Does Tryz.prog 70 (List.toArray [v0]) w (fun v w' => ∃ x : (Option Addr × Nat), v = (.slice x.1 r.length x.2) ∧ Turn w w' Vd (Jz 45 8 (.slice x.1 r.length x.2) r.length (r.map Jd))) := by
 refine enter (n := 8) Tryz.func70 rfl rfl rfl Vd [] (Sat.nil _ _) ?_
 refine Jf ?_
 refine Jb ?_
 refine Ja rfl rfl rfl (Jc (v := .slice none 0 0) rfl) ?_
 refine Jg ?_
 refine Jf ?_
 refine Jf ?_
 refine Jb ?_
 refine Ja rfl rfl rfl (Je (v := v0) rfl) ?_
 refine Ja rfl rfl rfl (r_eqlNilS Tryz.underlying58 f0 rfl rfl) ?_
 refine Jg ?_
 refine Qg (b := isNilV v0) rfl (fun hb => ?_) (fun hb => ?_)
 ·have hn_ : a0 = [] := f0.nilV hb
  have H3 : some ([] : List T_sync_Fact) = some r := by have h_ := H; rw [hn_] at h_; exact h_
  refine Jf ?_
  refine Jb ?_
  refine Ja rfl rfl rfl (Jc (v := .slice none 0 0) rfl) ?_
  refine Jg ?_
  refine Jp ?_
  refine c_nilRow 45 8 ?_
  obtain rfl := Option.some.inj H3
  refine J3 (v := .slice ((none, 0) : Option Addr × Nat).1 ([] : List T_sync_Fact).length ((none, 0) : Option Addr × Nat).2) rfl rfl (Yk ((none, 0) : Option Addr × Nat) (i := 0) rfl rfl (Imp.refl _))
 ·skip
  refine Jw ?_
  refine Jf ?_
  refine Jb ?_
  refine Y8 (vs := []) (cs := []) Tryz.underlying58 Tryz.sizeOf45 Tryz.zeroValue45 rfl rfl rfl rfl rfl rfl rfl (fun b1 => ?_)
  refine Ja rfl rfl rfl (Je (v := v0) rfl) ?_
  refine Ww 0 rfl (imp_box (m := 0) (E := 45) (sz := 8) (xs := (([] : List T_sync_Fact)).map Jd) rfl rfl rfl ⟨rfl, by decide⟩) ?_
  obtain ⟨l7, h_l7, H4⟩ := Ji H; clear H
  refine Q4 (Wi (i := 0) (hn := rfl) (rds := []) (p := ((some ⟨b1, 0, none⟩, 0) : Option Addr × Nat)) (sz := 8) (by_ := 80) (f := Jd) (ys := ([] : List T_sync_Fact)) (ls := a0) (V := v0) Tryz.underlying58 (Jae Tryz.typeInfo45) rfl rfl rfl rfl rfl rfl rfl rfl f0.eq (List.length_map _) (fun w L' hF hS hi => (f0).row (hw.now hF)) (fun _ => rfl) (fun _ => rfl) h_l7) rfl rfl rfl (fun p => ?_)
  refine Ja rfl rfl rfl (Jc (v := .slice p.1 l7.length p.2) rfl) ?_
  refine Jg ?_
  refine Jp ?_
  obtain rfl := Option.some.inj H4
  refine J3 (v := .slice p.1 l7.length p.2) rfl rfl (Yk p (i := 0) rfl rfl (Imp.refl _))
theorem k78 {a0 : (List T_sync_Fact)} {v0 : Value} {a1 : (T_sync_Fact → Option (Bool))} {v1 : Value} {r : Bool} {w : World} {h : Qd} (hw : Know h w Vd) (f0 : FrS h 8 v0 (a0.map Jd)) (f1 : FnH Tryz.prog h v1 (Q8 a1)) (H : Y4 a0 a1 = some r) : Does Tryz.prog 78 (List.toArray [v0, v1]) w (fun v w' => v = (.bool r) ∧ Grow w w') := by
 refine enter (n := 9) Tryz.func78 rfl rfl rfl Vd [] (Sat.nil _ _) ?_
 refine Jf ?_
 refine Jb ?_
 refine Ja rfl rfl rfl (Jc (v := .bool false) rfl) ?_
 refine Jg ?_
 refine Jf ?_
 refine Jb ?_
 refine Ja rfl rfl rfl (Je (v := v0) rfl) ?_
 refine Ja rfl rfl rfl (Je (v := v1) rfl) ?_
 obtain ⟨t7, h_t7, H2⟩ := Ji H; clear H
 refine Yv (fun w hF hS => k71 (Jx w) (f0.mono (hw.now hF)) (f1.mono (hw.now hF)) h_t7) Tryz.call71 rfl rfl rfl ?_
 refine Ja rfl rfl rfl (r_geq rfl rfl) ?_
 refine Ja rfl rfl rfl (Jc (v := .bool (decide (0 ≤ t7))) rfl) ?_
 refine Jg ?_
 refine Jp ?_
 obtain rfl := Option.some.inj H2
 refine J3 (v := .bool (decide (0 ≤ t7))) rfl rfl (Yd rfl)
theorem k80 {a0 : T_sync_Fact} {a1 : T_sync_Fact} {r : Bool} (H : Jaa a0 a1 = some r) : Ret Tryz.prog 80 [.agg #[.int .i64 a0.Dot.Device, .int .i64 a0.Dot.N, .int .i64 a0.Time, .int .i64 a0.Kind, .int .i64 a0.Id, str a0.Name, .int .i64 a0.Num, str a0.Text], .agg #[.int .i64 a1.Dot.Device, .int .i64 a1.Dot.N, .int .i64 a1.Time, .int .i64 a1.Kind, .int .i64 a1.Id, str a1.Name, .int .i64 a1.Num, str a1.Text]] (.bool r) := by
 refine Qx (n := 24) Tryz.func80 rfl rfl rfl (fun wd => ?_)
 refine Jf ?_
 refine Jb ?_
 refine Zo (cs := [.int .i64 a0.Dot.Device, .int .i64 a0.Dot.N, .int .i64 a0.Time, .int .i64 a0.Kind, .int .i64 a0.Id, str a0.Name, .int .i64 a0.Num, str a0.Text]) rfl rfl rfl rfl (fun b2 => ?_)
 refine Zo (cs := [.int .i64 a1.Dot.Device, .int .i64 a1.Dot.N, .int .i64 a1.Time, .int .i64 a1.Kind, .int .i64 a1.Id, str a1.Name, .int .i64 a1.Num, str a1.Text]) rfl rfl rfl rfl (fun b3 => ?_)
 refine Ja rfl rfl rfl (Jc (v := .bool false) rfl) ?_
 refine Jg ?_
 refine Jf ?_
 refine Jb ?_
 refine Ja rfl rfl rfl (Jo Tryz.runUnderlying45 rfl Tryz.sizeOf3 rfl rfl) ?_
 refine Jv (i := 0) (v := .int .i64 a0.Kind) Tryz.isAgg3 rfl rfl rfl rfl rfl ?_
 refine Ja rfl rfl rfl (Jo Tryz.runUnderlying45 rfl Tryz.sizeOf3 rfl rfl) ?_
 refine Jv (i := 1) (v := .int .i64 a1.Kind) Tryz.isAgg3 rfl rfl rfl rfl rfl ?_
 refine Ja rfl rfl rfl (Xd rfl rfl) ?_
 refine Ja rfl rfl rfl (Je (v := .bool (decide (a0.Kind = a1.Kind))) rfl) ?_
 refine split (fun hb => ?_) (fun hb => ?_)
 ·have H5 := Jr hb H; clear H
  refine Ja rfl rfl rfl (Jo Tryz.runUnderlying45 rfl Tryz.sizeOf3 rfl rfl) ?_
  refine Jv (i := 0) (v := .int .i64 a0.Id) Tryz.isAgg3 rfl rfl rfl rfl rfl ?_
  refine Ja rfl rfl rfl (Jo Tryz.runUnderlying45 rfl Tryz.sizeOf3 rfl rfl) ?_
  refine Jv (i := 1) (v := .int .i64 a1.Id) Tryz.isAgg3 rfl rfl rfl rfl rfl ?_
  refine Ja rfl rfl rfl (Xd rfl rfl) ?_
  refine Ja rfl rfl rfl (J7 (v := .bool (decide (a0.Id = a1.Id))) rfl rfl) ?_
  refine Ja rfl rfl rfl (Je (v := .bool (decide (a0.Id = a1.Id))) rfl) ?_
  refine split (fun hb => ?_) (fun hb => ?_)
  ·have H6 := Jr hb H5; clear H5
   refine Ja rfl rfl rfl (Jo Tryz.runUnderlying45 rfl Tryz.sizeOf9 rfl rfl) ?_
   refine Jv (i := 0) (v := str a0.Name) Tryz.isAgg9 rfl rfl rfl rfl rfl ?_
   refine Ja rfl rfl rfl (Jo Tryz.runUnderlying45 rfl Tryz.sizeOf9 rfl rfl) ?_
   refine Jv (i := 1) (v := str a1.Name) Tryz.isAgg9 rfl rfl rfl rfl rfl ?_
   refine Ja rfl rfl rfl (r_eqlT rfl rfl) ?_
   refine Ja rfl rfl rfl (J7 (v := .bool (decide (a0.Name = a1.Name))) rfl rfl) ?_
   refine Ja rfl rfl rfl (Jc (v := .bool (decide (a0.Name = a1.Name))) rfl) ?_
   refine Jg ?_
   refine Jp ?_
   obtain rfl := Option.some.inj H6
   refine J3 (v := .bool (decide (a0.Name = a1.Name))) rfl rfl (Yd rfl)
  ·have H7 := Jq hb H5; clear H5
   refine Jk rfl rfl rfl ?_
   refine Jk rfl rfl rfl ?_
   refine Jk rfl rfl rfl ?_
   refine Jk rfl rfl rfl ?_
   refine Jk rfl rfl rfl ?_
   refine Ja rfl rfl rfl (J1 (v := .bool false) rfl rfl) ?_
   refine Ja rfl rfl rfl (Jc (v := .bool false) rfl) ?_
   refine Jg ?_
   refine Jp ?_
   obtain rfl := Option.some.inj H7
   refine J3 (v := .bool false) rfl rfl (Yd rfl)
 ·have H8 := Jq hb H; clear H
  refine Jk rfl rfl rfl ?_
  refine Jk rfl rfl rfl ?_
  refine Jk rfl rfl rfl ?_
  refine Jk rfl rfl rfl ?_
  refine Jk rfl rfl rfl ?_
  refine Ja rfl rfl rfl (J1 (v := .bool false) rfl rfl) ?_
  refine Ja rfl rfl rfl (Je (v := .bool false) rfl) ?_
  refine Jk rfl rfl rfl ?_
  refine Jk rfl rfl rfl ?_
  refine Jk rfl rfl rfl ?_
  refine Jk rfl rfl rfl ?_
  refine Jk rfl rfl rfl ?_
  refine Ja rfl rfl rfl (J1 (v := .bool false) rfl rfl) ?_
  refine Ja rfl rfl rfl (Jc (v := .bool false) rfl) ?_
  refine Jg ?_
  refine Jp ?_
  obtain rfl := Option.some.inj H8
  refine J3 (v := .bool false) rfl rfl (Yd rfl)
theorem k79 {q0 : T_sync_Fact} {c0 : Nat} {a0 : T_sync_Fact} {r : Bool} {w : World} {h : Qd} (hw : Know h w Vd) (hc0 : h c0 = some (.cells (List.toArray [.int .i64 q0.Dot.Device, .int .i64 q0.Dot.N, .int .i64 q0.Time, .int .i64 q0.Kind, .int .i64 q0.Id, str q0.Name, .int .i64 q0.Num, str q0.Text]) 45 (0, 0))) (H : Vx q0 a0 = some r) : Does Tryz.prog 79 (List.toArray [.agg #[.int .i64 a0.Dot.Device, .int .i64 a0.Dot.N, .int .i64 a0.Time, .int .i64 a0.Kind, .int .i64 a0.Id, str a0.Name, .int .i64 a0.Num, str a0.Text], .pointer (some ⟨c0, 0, none⟩)]) w (fun v w' => v = (.bool r) ∧ Grow w w') := by
 refine enter (n := 7) Tryz.func79 rfl rfl rfl Vd [] (Sat.nil _ _) ?_
 refine Jf ?_
 refine Jb ?_
 refine Zo (cs := [.int .i64 a0.Dot.Device, .int .i64 a0.Dot.N, .int .i64 a0.Time, .int .i64 a0.Kind, .int .i64 a0.Id, str a0.Name, .int .i64 a0.Num, str a0.Text]) rfl rfl rfl rfl (fun b1 => ?_)
 refine Ja rfl rfl rfl (Jc (v := .bool false) rfl) ?_
 refine Jg ?_
 refine Jf ?_
 refine Jb ?_
 refine Ym (i := 0) (vs := [.int .i64 a0.Dot.Device, .int .i64 a0.Dot.N, .int .i64 a0.Time, .int .i64 a0.Kind, .int .i64 a0.Id, str a0.Name, .int .i64 a0.Num, str a0.Text]) Tryz.isAgg45 Tryz.sizeOf45 rfl rfl rfl rfl rfl ?_
 refine Qo (fun w hF hS => run_loadKN (vs := [.int .i64 q0.Dot.Device, .int .i64 q0.Dot.N, .int .i64 q0.Time, .int .i64 q0.Kind, .int .i64 q0.Id, str q0.Name, .int .i64 q0.Num, str q0.Text]) Tryz.isAgg45 Tryz.sizeOf45 rfl (hw.now hF _ _ hc0) rfl) rfl rfl rfl ?_
 obtain ⟨t6, h_t6, H2⟩ := Ji H; clear H
 refine Q5 (k80 h_t6) Tryz.call80 rfl rfl rfl ?_
 refine Ja rfl rfl rfl (Jc (v := .bool t6) rfl) ?_
 refine Jg ?_
 refine Jp ?_
 obtain rfl := Option.some.inj H2
 refine J3 (v := .bool t6) rfl rfl (Yd rfl)
theorem k77 {q0 : (List T_sync_Fact)} {vq0 : Value} {c0 : Nat} {a0 : T_sync_Fact} {r : Bool} {w : World} {h : Qd} (hw : Know h w Vd) (fq0 : FrS h 8 vq0 (q0.map Jd)) (hc0 : h c0 = some (.cells (List.toArray [vq0]) 58 (0, 0))) (H : Qe q0 a0 = some r) : Does Tryz.prog 77 (List.toArray [.agg #[.int .i64 a0.Dot.Device, .int .i64 a0.Dot.N, .int .i64 a0.Time, .int .i64 a0.Kind, .int .i64 a0.Id, str a0.Name, .int .i64 a0.Num, str a0.Text], .pointer (some ⟨c0, 0, none⟩)]) w (fun v w' => v = (.bool r) ∧ Grow w w') := by
 refine enter (n := 7) Tryz.func77 rfl rfl rfl Vd [] (Sat.nil _ _) ?_
 refine Jf ?_
 refine Jb ?_
 refine Zo (cs := [.int .i64 a0.Dot.Device, .int .i64 a0.Dot.N, .int .i64 a0.Time, .int .i64 a0.Kind, .int .i64 a0.Id, str a0.Name, .int .i64 a0.Num, str a0.Text]) rfl rfl rfl rfl (fun b1 => ?_)
 refine Ja rfl rfl rfl (Jc (v := .bool false) rfl) ?_
 refine Jg ?_
 refine Jf ?_
 refine Jb ?_
 refine Qo (fun w hF hS => Xo (v := vq0) Tryz.isAgg58 rfl (hw.now hF _ _ hc0) rfl) rfl rfl rfl ?_
 refine Ja rfl rfl rfl (Wp (caps := #[.pointer (some ⟨b1, 0, none⟩)]) rfl) ?_
 obtain ⟨t6, h_t6, H2⟩ := Ji H; clear H
 refine Yv (fun w hF hS => k78 (Jx w) (fq0.mono (hw.now hF)) (FnH.mk ⟨79, #[], #[.pointer (some ⟨b1, 0, none⟩)], rfl, Tryz.call79, fun args2 post2 w2 hk2 hR2 => by obtain ⟨a0_, r_, rfl, H_, rfl⟩ := hR2; exact k79 (Jx w2) (hk2.up _ _ (Qj (i := 0) hS rfl)) H_⟩) h_t6) Tryz.call78 rfl rfl rfl ?_
 refine Ja rfl rfl rfl (Jc (v := .bool t6) rfl) ?_
 refine Jg ?_
 refine Jp ?_
 obtain rfl := Option.some.inj H2
 refine J3 (v := .bool t6) rfl rfl (Yd rfl)
theorem k55 {a0 : T_sync_Replica} {pb0 : Nat} {p0_2 : Option Addr × Nat} {n0_2 : Nat} {a1 : (List T_sync_Fact)} {v1 : Value} {r : Int × T_sync_Replica} {w : World} {h : Qd} {S : Nat → Prop} (hcs : (J0 (Jl pb0 [.int .i64 a0.device_, .int .i64 (a0.knows_ 0), .int .i64 (a0.knows_ 1), .int .i64 (a0.knows_ 2), .int .i64 (a0.knows_ 3), .int .i64 (a0.knows_ 4), .int .i64 (a0.knows_ 5), .int .i64 (a0.knows_ 6), .int .i64 (a0.knows_ 7), .int .i64 (a0.knows_ 8), .int .i64 (a0.knows_ 9), .int .i64 (a0.knows_ 10), .int .i64 (a0.knows_ 11), .int .i64 (a0.knows_ 12), .int .i64 (a0.knows_ 13), .int .i64 (a0.knows_ 14), .int .i64 (a0.knows_ 15), .slice p0_2.1 n0_2 p0_2.2] 60) (J2 45 8 (.slice p0_2.1 n0_2 p0_2.2) n0_2 (a0.facts_.map Jd))).P S w) (hlt : ∀ b, S b → b < w.heap.size) (hw : Know h w S) (hn0_2 : n0_2 = a0.facts_.length) (f1 : FrS h 8 v1 (a1.map Jd)) (H : Jm a0 a1 = some r) : Does Tryz.prog 55 (List.toArray [.pointer (some ⟨pb0, 0, none⟩), v1]) w (fun v w' => ∃ x : (Option Addr × Nat), v = (.int .i64 r.1) ∧ Turn w w' S (J0 (Jl pb0 [.int .i64 r.2.device_, .int .i64 (r.2.knows_ 0), .int .i64 (r.2.knows_ 1), .int .i64 (r.2.knows_ 2), .int .i64 (r.2.knows_ 3), .int .i64 (r.2.knows_ 4), .int .i64 (r.2.knows_ 5), .int .i64 (r.2.knows_ 6), .int .i64 (r.2.knows_ 7), .int .i64 (r.2.knows_ 8), .int .i64 (r.2.knows_ 9), .int .i64 (r.2.knows_ 10), .int .i64 (r.2.knows_ 11), .int .i64 (r.2.knows_ 12), .int .i64 (r.2.knows_ 13), .int .i64 (r.2.knows_ 14), .int .i64 (r.2.knows_ 15), .slice x.1 r.2.facts_.length x.2] 60) (J2 45 8 (.slice x.1 r.2.facts_.length x.2) r.2.facts_.length (r.2.facts_.map Jd)))) := by
 refine enter (n := 88) Tryz.func55 rfl rfl rfl S [J0 (Jl pb0 [.int .i64 a0.device_, .int .i64 (a0.knows_ 0), .int .i64 (a0.knows_ 1), .int .i64 (a0.knows_ 2), .int .i64 (a0.knows_ 3), .int .i64 (a0.knows_ 4), .int .i64 (a0.knows_ 5), .int .i64 (a0.knows_ 6), .int .i64 (a0.knows_ 7), .int .i64 (a0.knows_ 8), .int .i64 (a0.knows_ 9), .int .i64 (a0.knows_ 10), .int .i64 (a0.knows_ 11), .int .i64 (a0.knows_ 12), .int .i64 (a0.knows_ 13), .int .i64 (a0.knows_ 14), .int .i64 (a0.knows_ 15), .slice p0_2.1 n0_2 p0_2.2] 60) (J2 45 8 (.slice p0_2.1 n0_2 p0_2.2) n0_2 (a0.facts_.map Jd))] (Sat.one hcs hlt) ?_
 refine Yo 0 rfl ?_
 refine Jf ?_
 refine Jb ?_
 refine Ja rfl rfl rfl (Jc (v := .int .i64 0) rfl) ?_
 refine Jg ?_
 refine Jf ?_
 exact Yl (Kd.p :: Kd.p :: Kd.p :: Kd.d [0] _ :: Kd.p :: Kd.p :: Kd.p :: Kd.p :: Kd.d [0] _ :: Kd.p :: Kd.p :: Kd.p :: Kd.d [0] _ :: Kd.p :: Kd.p :: Kd.nw 2 [_, _] 43 :: Kd.st 5 2 [_, _] 43 :: []) 1 mixed (by
  refine Jt rfl rfl (Je (v := .pointer (some ⟨pb0, 0, none⟩)) rfl) ?_
  refine Jt rfl rfl (Qm rfl) ?_
  refine Jt rfl rfl (Jo Tryz.runUnderlying60 rfl Tryz.sizeOf3 rfl rfl) ?_
  refine Yn (i := 0) (v := .int .i64 a0.device_) Tryz.isAgg3 rfl rfl rfl rfl ?_
  refine Jt rfl rfl (Je (v := .pointer (some ⟨pb0, 0, none⟩)) rfl) ?_
  refine Jt rfl rfl (Je (v := .pointer (some ⟨pb0, 0, none⟩)) rfl) ?_
  refine Jt rfl rfl (Qm rfl) ?_
  refine Jt rfl rfl (Jo Tryz.runUnderlying60 rfl Tryz.sizeOf3 rfl rfl) ?_
  refine Yn (i := 0) (v := .int .i64 a0.device_) Tryz.isAgg3 rfl rfl rfl rfl ?_
  refine Jt rfl rfl (Qm rfl) ?_
  refine Jt rfl rfl (Jo Tryz.runUnderlying60 rfl Tryz.sizeOf57 rfl rfl) ?_
  have h_k23 := Qq H
  have H30 := Qi H
  refine Jt rfl rfl (Jaj Tryz.runUnderlying57 Tryz.sizeOf3 rfl rfl h_k23) ?_
  refine Yn (i := 0) (v := .int .i64 (a0.knows_ (val (Q3 16 a0.device_)))) Tryz.isAgg3 rfl rfl rfl (rg_arr (pre := [.int .i64 a0.device_]) (post := [.slice p0_2.1 n0_2 p0_2.2]) (f := fun j_ => [.int .i64 (a0.knows_ j_)]) (n := 16) (sz := 1) (q := 0) rfl rfl (fun _ => rfl) (gIx_lt h_k23) rfl) ?_
  have h_t25 := Qq H30
  have H31 := Qi H30
  refine Jt rfl rfl (Yj rfl rfl h_t25) ?_
  refine Jt rfl rfl (W4 (pl := #[(0, 1), (1, 1)]) (ps := [(0, .int .i64 a0.device_), (1, .int .i64 (val (gI ((a0.knows_ (val (Q3 16 a0.device_))) + 1))))]) (cells := #[.int .i64 a0.device_, .int .i64 (val (gI ((a0.knows_ (val (Q3 16 a0.device_))) + 1)))]) Tryz.zeroValue43 Tryz.runUnderlying43 (fun w => by kernel_rfl) rfl rfl) ?_
  refine d_new rfl rfl (run_alloc (cs := [.int .i64 0, .int .i64 0]) Tryz.zeroValue43 rfl) rfl (fun b3 => ?_)
  refine d_store (i := 2) (vs := [.int .i64 a0.device_, .int .i64 (val (gI ((a0.knows_ (val (Q3 16 a0.device_))) + 1)))]) (cs' := [.int .i64 a0.device_, .int .i64 (val (gI ((a0.knows_ (val (Q3 16 a0.device_))) + 1)))]) Tryz.sizeOf43 rfl rfl rfl rfl rfl rfl rfl rfl rfl ?_
  refine Wr ?_
  refine Jf ?_
  refine Jb ?_
  refine Ja rfl rfl rfl (Jc (v := .int .i64 1) rfl) ?_
  refine Jg ?_
  refine Xu (r := r) (σ := Int) (τ := Unit) (fun s => Z8 a0 a1 (val (gI ((a0.knows_ (val (Q3 16 a0.device_))) + 1))) s) (fun s t => [(0, .pointer (some ⟨pb0, 0, none⟩)), (1, v1), (5, .pointer (some ⟨b3, 0, none⟩)), (6, .int .i64 s)]) (fun s t => [Jl pb0 [.int .i64 a0.device_, .int .i64 (a0.knows_ 0), .int .i64 (a0.knows_ 1), .int .i64 (a0.knows_ 2), .int .i64 (a0.knows_ 3), .int .i64 (a0.knows_ 4), .int .i64 (a0.knows_ 5), .int .i64 (a0.knows_ 6), .int .i64 (a0.knows_ 7), .int .i64 (a0.knows_ 8), .int .i64 (a0.knows_ 9), .int .i64 (a0.knows_ 10), .int .i64 (a0.knows_ 11), .int .i64 (a0.knows_ 12), .int .i64 (a0.knows_ 13), .int .i64 (a0.knows_ 14), .int .i64 (a0.knows_ 15), .slice p0_2.1 n0_2 p0_2.2] 60, J2 45 8 (.slice p0_2.1 n0_2 p0_2.2) n0_2 (a0.facts_.map Jd), Jl b3 [.int .i64 a0.device_, .int .i64 (val (gI ((a0.knows_ (val (Q3 16 a0.device_))) + 1)))] 43]) (fun s t => True) ?_ ?_
  ·refine Jf ?_
   refine Jb ?_
   refine Ja rfl rfl rfl (Je (v := .pointer (some ⟨pb0, 0, none⟩)) rfl) ?_
   refine Ja rfl rfl rfl (Qm rfl) ?_
   refine Ja rfl rfl rfl (Jo Tryz.runUnderlying60 rfl Tryz.sizeOf58 rfl rfl) ?_
   refine Jv (i := 0) (v := .slice p0_2.1 n0_2 p0_2.2) Tryz.isAgg58 rfl rfl rfl rfl rfl ?_
   refine Ja rfl rfl rfl (r_lenN Tryz.underlying58 rfl hn0_2) ?_
   refine Ja rfl rfl rfl (Je (v := .int .i64 0) rfl) ?_
   refine Jg ?_
   refine J5 ?_
   refine Vn (σ := Int × Int) (τ := Unit) (fun next4 s => Xv a0 a1 (val (gI ((a0.knows_ (val (Q3 16 a0.device_))) + 1))) next4 s.1 s.2) (fun s t => [(0, .pointer (some ⟨pb0, 0, none⟩)), (1, v1), (5, .pointer (some ⟨b3, 0, none⟩)), (6, .int .i64 s.1), (30, .slice p0_2.1 n0_2 p0_2.2), (31, .int .i64 (a0.facts_.length : Int)), (32, .int .i64 s.2)]) (fun s t => [Jl pb0 [.int .i64 a0.device_, .int .i64 (a0.knows_ 0), .int .i64 (a0.knows_ 1), .int .i64 (a0.knows_ 2), .int .i64 (a0.knows_ 3), .int .i64 (a0.knows_ 4), .int .i64 (a0.knows_ 5), .int .i64 (a0.knows_ 6), .int .i64 (a0.knows_ 7), .int .i64 (a0.knows_ 8), .int .i64 (a0.knows_ 9), .int .i64 (a0.knows_ 10), .int .i64 (a0.knows_ 11), .int .i64 (a0.knows_ 12), .int .i64 (a0.knows_ 13), .int .i64 (a0.knows_ 14), .int .i64 (a0.knows_ 15), .slice p0_2.1 n0_2 p0_2.2] 60, J2 45 8 (.slice p0_2.1 n0_2 p0_2.2) n0_2 (a0.facts_.map Jd), Jl b3 [.int .i64 a0.device_, .int .i64 (val (gI ((a0.knows_ (val (Q3 16 a0.device_))) + 1)))] 43]) (fun s t => True) (1, 0) () [0, 1, 2] H31 (by exact trivial) (by exact ⟨rfl, rfl, rfl, rfl, rfl, rfl, rfl, trivial⟩) (by decide) rfl ?_
   rintro ⟨x6_3, x32_2⟩ _ m4 gg H53 _
   clear H31
   replace H53 : Xv a0 a1 (val (gI ((a0.knows_ (val (Q3 16 a0.device_))) + 1))) (it (fun next4 s => Xv a0 a1 (val (gI ((a0.knows_ (val (Q3 16 a0.device_))) + 1))) next4 s.1 s.2) m4) x6_3 x32_2 = some r := H53
   generalize hn4 : it (fun next4 s => Xv a0 a1 (val (gI ((a0.knows_ (val (Q3 16 a0.device_))) + 1))) next4 s.1 s.2) m4 = next4 at H53
   refine J8 [(0, .pointer (some ⟨pb0, 0, none⟩)), (1, v1), (5, .pointer (some ⟨b3, 0, none⟩)), (6, .int .i64 x6_3), (30, .slice p0_2.1 n0_2 p0_2.2), (31, .int .i64 (a0.facts_.length : Int)), (32, .int .i64 x32_2)] [Jl pb0 [.int .i64 a0.device_, .int .i64 (a0.knows_ 0), .int .i64 (a0.knows_ 1), .int .i64 (a0.knows_ 2), .int .i64 (a0.knows_ 3), .int .i64 (a0.knows_ 4), .int .i64 (a0.knows_ 5), .int .i64 (a0.knows_ 6), .int .i64 (a0.knows_ 7), .int .i64 (a0.knows_ 8), .int .i64 (a0.knows_ 9), .int .i64 (a0.knows_ 10), .int .i64 (a0.knows_ 11), .int .i64 (a0.knows_ 12), .int .i64 (a0.knows_ 13), .int .i64 (a0.knows_ 14), .int .i64 (a0.knows_ 15), .slice p0_2.1 n0_2 p0_2.2] 60, J2 45 8 (.slice p0_2.1 n0_2 p0_2.2) n0_2 (a0.facts_.map Jd), Jl b3 [.int .i64 a0.device_, .int .i64 (val (gI ((a0.knows_ (val (Q3 16 a0.device_))) + 1)))] 43] rfl rfl ?_
   refine Jf ?_
   refine Jb ?_
   refine Ja rfl rfl rfl (Zd rfl rfl) ?_
   refine Jg ?_
   refine Jf ?_
   refine Qg (b := (decide (x32_2 < (a0.facts_.length : Int)))) rfl (fun hb => ?_) (fun hb => ?_)
   ·have H54 := Jr hb H53; clear H53
    refine Jw ?_
    refine Jf ?_
    refine J5 ?_
    refine Jf ?_
    refine Jb ?_
    obtain ⟨t34, h_t34, H55⟩ := Ji H54; clear H54
    refine Qo (fun w hF hS => Y2 Tryz.underlying58 Tryz.sizeOf45 rfl rfl (offOf (i := 1) hS rfl) hn0_2 h_t34) rfl rfl rfl ?_
    refine Qo (fun w hF hS => X4 (f := Jd) (i := x32_2) (sz := 8) (j := 0) (vs := [.int .i64 t34.Dot.Device, .int .i64 t34.Dot.N, .int .i64 t34.Time, .int .i64 t34.Kind, .int .i64 t34.Id, str t34.Name, .int .i64 t34.Num, str t34.Text]) Tryz.isAgg45 Tryz.sizeOf45 rfl rfl (offOf (i := 1) hS rfl) h_t34 rfl) rfl rfl rfl ?_
    refine Zv (cs := [.int .i64 0, .int .i64 0, .int .i64 0, .int .i64 0, .int .i64 0, str [], .int .i64 0, str []]) Tryz.zeroValue45 rfl rfl rfl (fun b5 => ?_)
    refine Xt (i := 3) (vs := [.int .i64 t34.Dot.Device, .int .i64 t34.Dot.N, .int .i64 t34.Time, .int .i64 t34.Kind, .int .i64 t34.Id, str t34.Name, .int .i64 t34.Num, str t34.Text]) (cs' := [.int .i64 t34.Dot.Device, .int .i64 t34.Dot.N, .int .i64 t34.Time, .int .i64 t34.Kind, .int .i64 t34.Id, str t34.Name, .int .i64 t34.Num, str t34.Text]) Tryz.sizeOf45 rfl rfl rfl rfl rfl rfl rfl rfl rfl ?_
    refine Jg ?_
    refine W7 [0, 1, 2, 3] [Jl pb0 [.int .i64 a0.device_, .int .i64 (a0.knows_ 0), .int .i64 (a0.knows_ 1), .int .i64 (a0.knows_ 2), .int .i64 (a0.knows_ 3), .int .i64 (a0.knows_ 4), .int .i64 (a0.knows_ 5), .int .i64 (a0.knows_ 6), .int .i64 (a0.knows_ 7), .int .i64 (a0.knows_ 8), .int .i64 (a0.knows_ 9), .int .i64 (a0.knows_ 10), .int .i64 (a0.knows_ 11), .int .i64 (a0.knows_ 12), .int .i64 (a0.knows_ 13), .int .i64 (a0.knows_ 14), .int .i64 (a0.knows_ 15), .slice p0_2.1 n0_2 p0_2.2] 60, J2 45 8 (.slice p0_2.1 n0_2 p0_2.2) n0_2 (a0.facts_.map Jd), Jl b3 [.int .i64 a0.device_, .int .i64 (val (gI ((a0.knows_ (val (Q3 16 a0.device_))) + 1)))] 43, Jl b5 [.int .i64 t34.Dot.Device, .int .i64 t34.Dot.N, .int .i64 t34.Time, .int .i64 t34.Kind, .int .i64 t34.Id, str t34.Name, .int .i64 t34.Num, str t34.Text] 45] rfl (by decide) ?_
    refine Jb ?_
    refine Ja rfl rfl rfl (Je (v := .int .i64 x6_3) rfl) ?_
    refine Ja rfl rfl rfl (Jo Tryz.runUnderlying45 rfl Tryz.sizeOf3 rfl rfl) ?_
    refine Jv (i := 3) (v := .int .i64 t34.Time) Tryz.isAgg3 rfl rfl rfl rfl rfl ?_
    obtain ⟨t39, h_t39, H56⟩ := Ji H55; clear H55
    refine Ja rfl rfl rfl (Yj rfl rfl h_t39) ?_
    refine Ja rfl rfl rfl (r_max rfl rfl) ?_
    refine Ja rfl rfl rfl (Jc (v := .int .i64 (max x6_3 t39)) rfl) ?_
    refine Jg ?_
    refine Jb ?_
    obtain ⟨t41, h_t41, H57⟩ := Ji H56; clear H56
    refine Ja rfl rfl rfl (Yj rfl rfl h_t41) ?_
    refine Ja rfl rfl rfl (Je (v := .int .i64 t41) rfl) ?_
    refine Jg ?_
    refine Js ((max x6_3 t39), t41) () m4 [0, 1, 2] (by exact ⟨rfl, rfl, rfl, rfl, rfl, rfl, rfl, trivial⟩) (by decide) rfl (by exact ⟨(by subst hn4; exact H57), trivial⟩) (Nat.lt_succ_self _)
   ·have H58 := Jq hb H53; clear H53
    refine Xi ?_
    refine Js x6_3 () 0 [0, 1, 2] (by exact ⟨rfl, rfl, rfl, rfl, trivial⟩) (by decide) rfl (by exact ⟨H58, trivial⟩) (Nat.lt_succ_self _)
  ·rintro x6 _ gg H32 _
   replace H32 : Z8 a0 a1 (val (gI ((a0.knows_ (val (Q3 16 a0.device_))) + 1))) x6 = some r := H32
   refine J8 [(0, .pointer (some ⟨pb0, 0, none⟩)), (1, v1), (5, .pointer (some ⟨b3, 0, none⟩)), (6, .int .i64 x6)] [Jl pb0 [.int .i64 a0.device_, .int .i64 (a0.knows_ 0), .int .i64 (a0.knows_ 1), .int .i64 (a0.knows_ 2), .int .i64 (a0.knows_ 3), .int .i64 (a0.knows_ 4), .int .i64 (a0.knows_ 5), .int .i64 (a0.knows_ 6), .int .i64 (a0.knows_ 7), .int .i64 (a0.knows_ 8), .int .i64 (a0.knows_ 9), .int .i64 (a0.knows_ 10), .int .i64 (a0.knows_ 11), .int .i64 (a0.knows_ 12), .int .i64 (a0.knows_ 13), .int .i64 (a0.knows_ 14), .int .i64 (a0.knows_ 15), .slice p0_2.1 n0_2 p0_2.2] 60, J2 45 8 (.slice p0_2.1 n0_2 p0_2.2) n0_2 (a0.facts_.map Jd), Jl b3 [.int .i64 a0.device_, .int .i64 (val (gI ((a0.knows_ (val (Q3 16 a0.device_))) + 1)))] 43] rfl rfl ?_
   refine Jf ?_
   refine Jb ?_
   refine Ja rfl rfl rfl (Je (v := v1) rfl) ?_
   obtain ⟨t43, h_t43, H33⟩ := Ji H32; clear H32
   refine Zq (Ql (rds := []) (G := fun x : (Option Addr × Nat) => .slice x.1 t43.length x.2) (C := fun x : (Option Addr × Nat) => Jz 45 8 (.slice x.1 t43.length x.2) t43.length (t43.map Jd)) (fun w L' hF hS hi => k70 (Jx w) (f1.mono (hw.now hF)) h_t43) Tryz.call70 rfl) rfl rfl rfl (fun p => ?_)
   refine Zv (cs := [.slice none 0 0]) Tryz.zeroValue58 rfl rfl rfl (fun b4 => ?_)
   refine Xt (i := 4) (vs := [.slice p.1 t43.length p.2]) (cs' := [.slice p.1 t43.length p.2]) Tryz.sizeOf58 rfl rfl rfl rfl rfl rfl rfl rfl rfl ?_
   refine Jg ?_
   refine Xu (r := r) (σ := (List T_sync_Fact)) (τ := Unit) (fun s => Vb a0 (val (gI ((a0.knows_ (val (Q3 16 a0.device_))) + 1))) x6 s) (fun s t => [(0, .pointer (some ⟨pb0, 0, none⟩)), (5, .pointer (some ⟨b3, 0, none⟩)), (6, .int .i64 x6), (9, .pointer (some ⟨b4, 0, none⟩))]) (fun s t => [Jl pb0 [.int .i64 a0.device_, .int .i64 (a0.knows_ 0), .int .i64 (a0.knows_ 1), .int .i64 (a0.knows_ 2), .int .i64 (a0.knows_ 3), .int .i64 (a0.knows_ 4), .int .i64 (a0.knows_ 5), .int .i64 (a0.knows_ 6), .int .i64 (a0.knows_ 7), .int .i64 (a0.knows_ 8), .int .i64 (a0.knows_ 9), .int .i64 (a0.knows_ 10), .int .i64 (a0.knows_ 11), .int .i64 (a0.knows_ 12), .int .i64 (a0.knows_ 13), .int .i64 (a0.knows_ 14), .int .i64 (a0.knows_ 15), .slice p0_2.1 n0_2 p0_2.2] 60, J2 45 8 (.slice p0_2.1 n0_2 p0_2.2) n0_2 (a0.facts_.map Jd), Jl b3 [.int .i64 a0.device_, .int .i64 (val (gI ((a0.knows_ (val (Q3 16 a0.device_))) + 1)))] 43, Jz 45 8 (.slice p.1 t43.length p.2) t43.length (s.map Jd), Jl b4 [.slice p.1 t43.length p.2] 58]) (fun s t => t43.length = s.length) ?_ ?_
   ·refine Jf ?_
    refine Jb ?_
    refine Jv (i := 4) (v := .slice p.1 t43.length p.2) Tryz.isAgg58 rfl rfl rfl rfl rfl ?_
    refine Ja rfl rfl rfl (U5 Tryz.underlying58 rfl) ?_
    refine Ja rfl rfl rfl (Je (v := .int .i64 0) rfl) ?_
    refine Jg ?_
    refine J5 ?_
    refine Vn (σ := Int × (List T_sync_Fact)) (τ := Unit) (fun next3 s => Yp a0 (val (gI ((a0.knows_ (val (Q3 16 a0.device_))) + 1))) x6 t43 next3 s.1 s.2) (fun s t => [(0, .pointer (some ⟨pb0, 0, none⟩)), (5, .pointer (some ⟨b3, 0, none⟩)), (6, .int .i64 x6), (9, .pointer (some ⟨b4, 0, none⟩)), (45, .int .i64 (t43.length : Int)), (46, .int .i64 s.1)]) (fun s t => [Jl pb0 [.int .i64 a0.device_, .int .i64 (a0.knows_ 0), .int .i64 (a0.knows_ 1), .int .i64 (a0.knows_ 2), .int .i64 (a0.knows_ 3), .int .i64 (a0.knows_ 4), .int .i64 (a0.knows_ 5), .int .i64 (a0.knows_ 6), .int .i64 (a0.knows_ 7), .int .i64 (a0.knows_ 8), .int .i64 (a0.knows_ 9), .int .i64 (a0.knows_ 10), .int .i64 (a0.knows_ 11), .int .i64 (a0.knows_ 12), .int .i64 (a0.knows_ 13), .int .i64 (a0.knows_ 14), .int .i64 (a0.knows_ 15), .slice p0_2.1 n0_2 p0_2.2] 60, J2 45 8 (.slice p0_2.1 n0_2 p0_2.2) n0_2 (a0.facts_.map Jd), Jl b3 [.int .i64 a0.device_, .int .i64 (val (gI ((a0.knows_ (val (Q3 16 a0.device_))) + 1)))] 43, Jz 45 8 (.slice p.1 t43.length p.2) t43.length (s.2.map Jd), Jl b4 [.slice p.1 t43.length p.2] 58]) (fun s t => t43.length = s.2.length) (0, t43) () [0, 1, 2, 3, 4] H33 (by exact rfl) (by exact ⟨rfl, rfl, rfl, rfl, rfl, rfl, trivial⟩) (by decide) rfl ?_
    rintro ⟨x46_2, l_3⟩ _ m3 gg H45 hl_3
    clear H33
    replace H45 : Yp a0 (val (gI ((a0.knows_ (val (Q3 16 a0.device_))) + 1))) x6 t43 (it (fun next3 s => Yp a0 (val (gI ((a0.knows_ (val (Q3 16 a0.device_))) + 1))) x6 t43 next3 s.1 s.2) m3) x46_2 l_3 = some r := H45
    generalize hn3 : it (fun next3 s => Yp a0 (val (gI ((a0.knows_ (val (Q3 16 a0.device_))) + 1))) x6 t43 next3 s.1 s.2) m3 = next3 at H45
    refine J8 [(0, .pointer (some ⟨pb0, 0, none⟩)), (5, .pointer (some ⟨b3, 0, none⟩)), (6, .int .i64 x6), (9, .pointer (some ⟨b4, 0, none⟩)), (45, .int .i64 (t43.length : Int)), (46, .int .i64 x46_2)] [Jl pb0 [.int .i64 a0.device_, .int .i64 (a0.knows_ 0), .int .i64 (a0.knows_ 1), .int .i64 (a0.knows_ 2), .int .i64 (a0.knows_ 3), .int .i64 (a0.knows_ 4), .int .i64 (a0.knows_ 5), .int .i64 (a0.knows_ 6), .int .i64 (a0.knows_ 7), .int .i64 (a0.knows_ 8), .int .i64 (a0.knows_ 9), .int .i64 (a0.knows_ 10), .int .i64 (a0.knows_ 11), .int .i64 (a0.knows_ 12), .int .i64 (a0.knows_ 13), .int .i64 (a0.knows_ 14), .int .i64 (a0.knows_ 15), .slice p0_2.1 n0_2 p0_2.2] 60, J2 45 8 (.slice p0_2.1 n0_2 p0_2.2) n0_2 (a0.facts_.map Jd), Jl b3 [.int .i64 a0.device_, .int .i64 (val (gI ((a0.knows_ (val (Q3 16 a0.device_))) + 1)))] 43, Jz 45 8 (.slice p.1 t43.length p.2) t43.length (l_3.map Jd), Jl b4 [.slice p.1 t43.length p.2] 58] rfl rfl ?_
    refine Jf ?_
    refine Jb ?_
    refine Ja rfl rfl rfl (Zd rfl rfl) ?_
    refine Jg ?_
    refine Jf ?_
    refine Qg (b := (decide (x46_2 < (t43.length : Int)))) rfl (fun hb => ?_) (fun hb => ?_)
    ·have H46 := Jr hb H45; clear H45
     refine Jw ?_
     refine Jf ?_
     refine J5 ?_
     refine Jf ?_
     refine Jb ?_
     refine Ja rfl rfl rfl (Je (v := .int .i64 x46_2) rfl) ?_
     refine Ja rfl rfl rfl (Jc (v := .int .i64 x46_2) rfl) ?_
     refine Jg ?_
     exact Yl (Kd.d [4] _ :: Kd.p :: Kd.d [4] _ :: Kd.p :: Kd.d [2] _ :: Kd.p :: Kd.d [3] _ :: Kd.d [3] _ :: Kd.sr 3 _ :: Kd.d [3] _ :: Kd.d [3] _ :: Kd.sr 3 _ :: []) 0 mixed (by
      refine Yn (i := 4) (v := .slice p.1 t43.length p.2) Tryz.isAgg58 rfl rfl rfl rfl ?_
      refine Jt rfl rfl (Je (v := .int .i64 x46_2) rfl) ?_
      refine Yn (i := 4) (v := .slice p.1 t43.length p.2) Tryz.isAgg58 rfl rfl rfl rfl ?_
      refine Jt rfl rfl (Je (v := .int .i64 x46_2) rfl) ?_
      refine d_loadN (i := 2) (vs := [.int .i64 a0.device_, .int .i64 (val (gI ((a0.knows_ (val (Q3 16 a0.device_))) + 1)))]) Tryz.isAgg43 Tryz.sizeOf43 rfl rfl rfl rfl ?_
      refine Jt rfl rfl (Je (v := .int .i64 x6) rfl) ?_
      have h_t55 := Qq H46
      have H47 := Qi H46
      refine Jaf (fun w L' hF hS hi => Y2 Tryz.underlying58 Tryz.sizeOf45 rfl rfl (W0 (i := 3) (E := 45) (sz := 8) (n := t43.length) (a := p.1) (c := p.2) hS ((hi 3 (by simp)).trans rfl)) hl_3 h_t55) rfl rfl ?_
      refine d_readE rfl rfl (fun w L' hF hS hi => run_fieldG Tryz.runUnderlying45 rfl Tryz.sizeOf43 rfl rfl (W0 (i := 3) (E := 45) (sz := 8) (n := t43.length) (a := p.1) (c := p.2) hS ((hi 3 (by simp)).trans rfl)) h_t55) ?_
      have h_l3 := Qq H47
      have H48 := Qi H47
      refine d_storeG (q := 3) (j := 0) (i := x46_2) (sz := 8) (hm := hl_3) (f := Jd) (vs := [.int .i64 a0.device_, .int .i64 (val (gI ((a0.knows_ (val (Q3 16 a0.device_))) + 1)))]) Tryz.sizeOf43 rfl rfl rfl rfl rfl rfl rfl rfl rfl (fun y_ hy_ => by first | rfl | (cases hy_.symm.trans h_t55; rfl)) h_l3 ?_
      have h_t57 := Qq H48
      have H49 := Qi H48
      refine Jaf (fun w L' hF hS hi => Y2 Tryz.underlying58 Tryz.sizeOf45 rfl rfl (W0 (i := 3) (E := 45) (sz := 8) (n := t43.length) (a := p.1) (c := p.2) hS ((hi 3 (by simp)).trans rfl)) (gSet_n hl_3 h_l3) h_t57) rfl rfl ?_
      refine d_readE rfl rfl (fun w L' hF hS hi => run_fieldG Tryz.runUnderlying45 rfl Tryz.sizeOf3 rfl rfl (W0 (i := 3) (E := 45) (sz := 8) (n := t43.length) (a := p.1) (c := p.2) hS ((hi 3 (by simp)).trans rfl)) h_t57) ?_
      have h_l3_2 := Qq H49
      have H50 := Qi H49
      refine d_storeG (q := 3) (j := 2) (i := x46_2) (sz := 8) (hm := (gSet_n hl_3 h_l3)) (f := Jd) (vs := [.int .i64 x6]) Tryz.sizeOf3 rfl rfl rfl rfl rfl rfl rfl rfl rfl (fun y_ hy_ => by first | rfl | (cases hy_.symm.trans h_t57; rfl)) h_l3_2 ?_
      refine Wr ?_
      refine Jb ?_
      obtain ⟨t59, h_t59, H51⟩ := Ji H50; clear H50
      refine Ja rfl rfl rfl (Yj rfl rfl h_t59) ?_
      refine Ja rfl rfl rfl (Je (v := .int .i64 t59) rfl) ?_
      refine Jg ?_
      refine Js (t59, (val (gSet (val (gSet l_3 x46_2 (⟨(⟨a0.device_, (val (gI ((a0.knows_ (val (Q3 16 a0.device_))) + 1)))⟩ : T_sync_Dot), (val (Q1 l_3 x46_2)).Time, (val (Q1 l_3 x46_2)).Kind, (val (Q1 l_3 x46_2)).Id, (val (Q1 l_3 x46_2)).Name, (val (Q1 l_3 x46_2)).Num, (val (Q1 l_3 x46_2)).Text⟩ : T_sync_Fact))) x46_2 (⟨(val (Q1 (val (gSet l_3 x46_2 (⟨(⟨a0.device_, (val (gI ((a0.knows_ (val (Q3 16 a0.device_))) + 1)))⟩ : T_sync_Dot), (val (Q1 l_3 x46_2)).Time, (val (Q1 l_3 x46_2)).Kind, (val (Q1 l_3 x46_2)).Id, (val (Q1 l_3 x46_2)).Name, (val (Q1 l_3 x46_2)).Num, (val (Q1 l_3 x46_2)).Text⟩ : T_sync_Fact))) x46_2)).Dot, x6, (val (Q1 (val (gSet l_3 x46_2 (⟨(⟨a0.device_, (val (gI ((a0.knows_ (val (Q3 16 a0.device_))) + 1)))⟩ : T_sync_Dot), (val (Q1 l_3 x46_2)).Time, (val (Q1 l_3 x46_2)).Kind, (val (Q1 l_3 x46_2)).Id, (val (Q1 l_3 x46_2)).Name, (val (Q1 l_3 x46_2)).Num, (val (Q1 l_3 x46_2)).Text⟩ : T_sync_Fact))) x46_2)).Kind, (val (Q1 (val (gSet l_3 x46_2 (⟨(⟨a0.device_, (val (gI ((a0.knows_ (val (Q3 16 a0.device_))) + 1)))⟩ : T_sync_Dot), (val (Q1 l_3 x46_2)).Time, (val (Q1 l_3 x46_2)).Kind, (val (Q1 l_3 x46_2)).Id, (val (Q1 l_3 x46_2)).Name, (val (Q1 l_3 x46_2)).Num, (val (Q1 l_3 x46_2)).Text⟩ : T_sync_Fact))) x46_2)).Id, (val (Q1 (val (gSet l_3 x46_2 (⟨(⟨a0.device_, (val (gI ((a0.knows_ (val (Q3 16 a0.device_))) + 1)))⟩ : T_sync_Dot), (val (Q1 l_3 x46_2)).Time, (val (Q1 l_3 x46_2)).Kind, (val (Q1 l_3 x46_2)).Id, (val (Q1 l_3 x46_2)).Name, (val (Q1 l_3 x46_2)).Num, (val (Q1 l_3 x46_2)).Text⟩ : T_sync_Fact))) x46_2)).Name, (val (Q1 (val (gSet l_3 x46_2 (⟨(⟨a0.device_, (val (gI ((a0.knows_ (val (Q3 16 a0.device_))) + 1)))⟩ : T_sync_Dot), (val (Q1 l_3 x46_2)).Time, (val (Q1 l_3 x46_2)).Kind, (val (Q1 l_3 x46_2)).Id, (val (Q1 l_3 x46_2)).Name, (val (Q1 l_3 x46_2)).Num, (val (Q1 l_3 x46_2)).Text⟩ : T_sync_Fact))) x46_2)).Num, (val (Q1 (val (gSet l_3 x46_2 (⟨(⟨a0.device_, (val (gI ((a0.knows_ (val (Q3 16 a0.device_))) + 1)))⟩ : T_sync_Dot), (val (Q1 l_3 x46_2)).Time, (val (Q1 l_3 x46_2)).Kind, (val (Q1 l_3 x46_2)).Id, (val (Q1 l_3 x46_2)).Name, (val (Q1 l_3 x46_2)).Num, (val (Q1 l_3 x46_2)).Text⟩ : T_sync_Fact))) x46_2)).Text⟩ : T_sync_Fact)))) () m3 [0, 1, 2, 3, 4] (by exact ⟨rfl, rfl, rfl, rfl, rfl, rfl, trivial⟩) (by decide) rfl (by exact ⟨(by subst hn3; exact H51), (gSet_n (gSet_n hl_3 h_l3) h_l3_2)⟩) (Nat.lt_succ_self _)
      ) (by kernel_rfl)
    ·have H52 := Jq hb H45; clear H45
     refine Xi ?_
     refine Js l_3 () 0 [0, 1, 2, 3, 4] (by exact ⟨rfl, rfl, rfl, rfl, trivial⟩) (by decide) rfl (by exact ⟨H52, hl_3⟩) (Nat.lt_succ_self _)
   ·rintro l _ gg H34 hl
    replace H34 : Vb a0 (val (gI ((a0.knows_ (val (Q3 16 a0.device_))) + 1))) x6 l = some r := H34
    refine J8 [(0, .pointer (some ⟨pb0, 0, none⟩)), (5, .pointer (some ⟨b3, 0, none⟩)), (6, .int .i64 x6), (9, .pointer (some ⟨b4, 0, none⟩))] [Jl pb0 [.int .i64 a0.device_, .int .i64 (a0.knows_ 0), .int .i64 (a0.knows_ 1), .int .i64 (a0.knows_ 2), .int .i64 (a0.knows_ 3), .int .i64 (a0.knows_ 4), .int .i64 (a0.knows_ 5), .int .i64 (a0.knows_ 6), .int .i64 (a0.knows_ 7), .int .i64 (a0.knows_ 8), .int .i64 (a0.knows_ 9), .int .i64 (a0.knows_ 10), .int .i64 (a0.knows_ 11), .int .i64 (a0.knows_ 12), .int .i64 (a0.knows_ 13), .int .i64 (a0.knows_ 14), .int .i64 (a0.knows_ 15), .slice p0_2.1 n0_2 p0_2.2] 60, J2 45 8 (.slice p0_2.1 n0_2 p0_2.2) n0_2 (a0.facts_.map Jd), Jl b3 [.int .i64 a0.device_, .int .i64 (val (gI ((a0.knows_ (val (Q3 16 a0.device_))) + 1)))] 43, Jz 45 8 (.slice p.1 t43.length p.2) t43.length (l.map Jd), Jl b4 [.slice p.1 t43.length p.2] 58] rfl rfl ?_
    refine Jf ?_
    refine Jb ?_
    refine Ja rfl rfl rfl (Wp (caps := #[.pointer (some ⟨b4, 0, none⟩)]) rfl) ?_
    refine Ja rfl rfl rfl (Jc (v := .func (.func 77) #[] #[.pointer (some ⟨b4, 0, none⟩)]) rfl) ?_
    refine Jg ?_
    refine Jf ?_
    refine Jf ?_
    exact Yl (Kd.p :: Kd.p :: Kd.p :: Kd.d [0] _ :: Kd.p :: Kd.p :: Kd.p :: Kd.t 5 [3, 4, 0, 1] _ _ :: Kd.p :: Kd.p :: Kd.d [4] _ :: Kd.p :: Kd.p :: Kd.p :: Kd.p :: Kd.p :: Kd.d [2] _ :: Kd.p :: Kd.p :: Kd.p :: Kd.p :: Kd.p :: Kd.p :: []) 1 mixed (by
     refine Jt rfl rfl (Je (v := .pointer (some ⟨pb0, 0, none⟩)) rfl) ?_
     refine Jt rfl rfl (Qm rfl) ?_
     refine Jt rfl rfl (Jo Tryz.runUnderlying60 rfl Tryz.sizeOf58 rfl rfl) ?_
     refine Yn (i := 0) (v := .slice p0_2.1 n0_2 p0_2.2) Tryz.isAgg58 rfl rfl rfl rfl ?_
     refine Jt rfl rfl (r_lenN Tryz.underlying58 rfl hn0_2) ?_
     refine Jt rfl rfl (Je (v := .pointer (some ⟨pb0, 0, none⟩)) rfl) ?_
     refine Jt rfl rfl (Je (v := .func (.func 77) #[] #[.pointer (some ⟨b4, 0, none⟩)]) rfl) ?_
     have h_t68 := Qq H34
     have H35 := Qi H34
     refine d_make (Cv := fun v => Jz 45 8 v (val (Qb a0 (Qe l))).length ((val (Qb a0 (Qe l))).map Jd)) (none, 0) (Ql (G := fun x : (Option Addr × Nat) => .slice x.1 (val (Qb a0 (Qe l))).length x.2) (C := fun x : (Option Addr × Nat) => Jz 45 8 (.slice x.1 (val (Qb a0 (Qe l))).length x.2) (val (Qb a0 (Qe l))).length ((val (Qb a0 (Qe l))).map Jd)) (fun w L' hF hS hi => k49 (Jx w) (Zp (i := 1) hn0_2 hS ((hi 1 (by simp)).trans rfl)) (Qj (i := 0) hS ((hi 0 (by simp)).trans rfl)) (FnH.mk ⟨77, #[], #[.pointer (some ⟨b4, 0, none⟩)], rfl, Tryz.call77, fun args2 post2 w2 hk2 hR2 => by obtain ⟨a0_, r_, rfl, H_, rfl⟩ := hR2; exact k77 (Jx w2) ((frs_own (i := 3) hl hS ((hi 3 (by simp)).trans rfl)).mono hk2.up) (hk2.up _ _ (Qj (i := 4) hS ((hi 4 (by simp)).trans rfl))) H_⟩) h_t68) Tryz.call49 rfl) (fun _ => rfl) rfl rfl rfl (fun p_2 => ?_)
     refine Jt rfl rfl (U5 Tryz.underlying58 rfl) ?_
     have h_t70 := Qq H35
     have H36 := Qi H35
     refine Jt rfl rfl (r_subG rfl rfl h_t70) ?_
     refine Yn (i := 4) (v := .slice p.1 t43.length p.2) Tryz.isAgg58 rfl rfl rfl rfl ?_
     refine Jt rfl rfl (r_lenN Tryz.underlying58 rfl hl) ?_
     have h_t73 := Qq H36
     have H37 := Qi H36
     refine Jt rfl rfl (Yj rfl rfl h_t73) ?_
     refine Jt rfl rfl (r_gtr rfl rfl) ?_
     refine Jt rfl rfl (Je (v := .bool (decide (5000 < (val (gI ((val (gI ((a0.facts_.length : Int) - ((val (Qb a0 (Qe l))).length : Int)))) + (l.length : Int))))))) rfl) ?_
     refine splitS (fun hb => ?_) (fun hb => ?_)
     ·have H38 := Jr hb H37
      refine Qw rfl rfl ?_
      refine Qw rfl rfl ?_
      refine Qw rfl rfl ?_
      refine Jt rfl rfl (J7 (v := .bool true) rfl rfl) ?_
      refine Jt rfl rfl (Je (v := .bool true) rfl) ?_
      refine Qw rfl rfl ?_
      refine Qw rfl rfl ?_
      refine Jt rfl rfl (J7 (v := .bool true) rfl rfl) ?_
      refine Wr ?_
      refine U3 rfl ?_
      refine Jf ?_
      refine Jb ?_
      refine Ja rfl rfl rfl (Jc (v := .int .i64 4) rfl) ?_
      refine Jg ?_
      refine Jp ?_
      obtain rfl := Option.some.inj H38
      refine Qa 0 1 rfl rfl (by decide) ?_
      refine J3 (v := .int .i64 4) rfl rfl (Yk p0_2 (i := 0) rfl (by first | rfl | rw [(show n0_2 = a0.facts_.length from hn0_2)]) (by first | exact Imp.refl _ | exact Imp.of (by rw [(show n0_2 = a0.facts_.length from hn0_2)])))
     ·have H39 := Jq hb H37
      refine Jt rfl rfl (Jo Tryz.runUnderlying43 rfl Tryz.sizeOf3 rfl rfl) ?_
      refine Yn (i := 2) (v := .int .i64 (val (gI ((a0.knows_ (val (Q3 16 a0.device_))) + 1)))) Tryz.isAgg3 rfl rfl rfl rfl ?_
      refine Jt rfl rfl (r_gtr rfl rfl) ?_
      refine Jt rfl rfl (J1 (v := .bool (decide (1000000 < (val (gI ((a0.knows_ (val (Q3 16 a0.device_))) + 1)))))) rfl rfl) ?_
      refine Jt rfl rfl (Je (v := .bool (decide (1000000 < (val (gI ((a0.knows_ (val (Q3 16 a0.device_))) + 1)))))) rfl) ?_
      refine splitS (fun hb => ?_) (fun hb => ?_)
      ·have H40 := Jr hb H39
       refine Qw rfl rfl ?_
       refine Qw rfl rfl ?_
       refine Jt rfl rfl (J7 (v := .bool true) rfl rfl) ?_
       refine Wr ?_
       refine U3 rfl ?_
       refine Jf ?_
       refine Jb ?_
       refine Ja rfl rfl rfl (Jc (v := .int .i64 4) rfl) ?_
       refine Jg ?_
       refine Jp ?_
       obtain rfl := Option.some.inj H40
       refine Qa 0 1 rfl rfl (by decide) ?_
       refine J3 (v := .int .i64 4) rfl rfl (Yk p0_2 (i := 0) rfl (by first | rfl | rw [(show n0_2 = a0.facts_.length from hn0_2)]) (by first | exact Imp.refl _ | exact Imp.of (by rw [(show n0_2 = a0.facts_.length from hn0_2)])))
      ·have H41 := Jq hb H39
       refine Jt rfl rfl (Je (v := .int .i64 x6) rfl) ?_
       refine Jt rfl rfl (r_gtr rfl rfl) ?_
       refine Jt rfl rfl (J1 (v := .bool (decide (1000000 < x6))) rfl rfl) ?_
       refine Wr ?_
       refine Qg (b := (decide (1000000 < x6))) rfl (fun hb => ?_) (fun hb => ?_)
       ·have H42 := Jr hb H41; clear H41
        refine Jf ?_
        refine W7 [0, 1, 2, 3, 4, 5] [Jl pb0 [.int .i64 a0.device_, .int .i64 (a0.knows_ 0), .int .i64 (a0.knows_ 1), .int .i64 (a0.knows_ 2), .int .i64 (a0.knows_ 3), .int .i64 (a0.knows_ 4), .int .i64 (a0.knows_ 5), .int .i64 (a0.knows_ 6), .int .i64 (a0.knows_ 7), .int .i64 (a0.knows_ 8), .int .i64 (a0.knows_ 9), .int .i64 (a0.knows_ 10), .int .i64 (a0.knows_ 11), .int .i64 (a0.knows_ 12), .int .i64 (a0.knows_ 13), .int .i64 (a0.knows_ 14), .int .i64 (a0.knows_ 15), .slice p0_2.1 n0_2 p0_2.2] 60, J2 45 8 (.slice p0_2.1 n0_2 p0_2.2) n0_2 (a0.facts_.map Jd), Jl b3 [.int .i64 a0.device_, .int .i64 (val (gI ((a0.knows_ (val (Q3 16 a0.device_))) + 1)))] 43, Jz 45 8 (.slice p.1 t43.length p.2) t43.length (l.map Jd), Jl b4 [.slice p.1 t43.length p.2] 58, Jz 45 8 (.slice p_2.1 (val (Qb a0 (Qe l))).length p_2.2) (val (Qb a0 (Qe l))).length ((val (Qb a0 (Qe l))).map Jd)] rfl (by decide) ?_
        refine Jb ?_
        refine Ja rfl rfl rfl (Jc (v := .int .i64 4) rfl) ?_
        refine Jg ?_
        refine Jp ?_
        obtain rfl := Option.some.inj H42
        refine Qa 0 1 rfl rfl (by decide) ?_
        refine J3 (v := .int .i64 4) rfl rfl (Yk p0_2 (i := 0) rfl (by first | rfl | rw [(show n0_2 = a0.facts_.length from hn0_2)]) (by first | exact Imp.refl _ | exact Imp.of (by rw [(show n0_2 = a0.facts_.length from hn0_2)])))
       ·have H43 := Jq hb H41; clear H41
        refine Jw ?_
        refine Jf ?_
        refine Jb ?_
        refine Ja rfl rfl rfl (Je (v := .pointer (some ⟨pb0, 0, none⟩)) rfl) ?_
        refine Ja rfl rfl rfl (Je (v := .func (.func 77) #[] #[.pointer (some ⟨b4, 0, none⟩)]) rfl) ?_
        refine Jv (i := 4) (v := .slice p.1 t43.length p.2) Tryz.isAgg58 rfl rfl rfl rfl rfl ?_
        obtain ⟨t87, h_t87, H44⟩ := Ji H43; clear H43
        refine Qa 0 1 rfl rfl (by decide) ?_
        refine Q4 (J6 (i := 0) (rds := [3, 4]) (G := fun x : (Option Addr × Nat) => .tuple #[]) (C := fun x : (Option Addr × Nat) => J0 (Jl pb0 [.int .i64 t87.device_, .int .i64 (t87.knows_ 0), .int .i64 (t87.knows_ 1), .int .i64 (t87.knows_ 2), .int .i64 (t87.knows_ 3), .int .i64 (t87.knows_ 4), .int .i64 (t87.knows_ 5), .int .i64 (t87.knows_ 6), .int .i64 (t87.knows_ 7), .int .i64 (t87.knows_ 8), .int .i64 (t87.knows_ 9), .int .i64 (t87.knows_ 10), .int .i64 (t87.knows_ 11), .int .i64 (t87.knows_ 12), .int .i64 (t87.knows_ 13), .int .i64 (t87.knows_ 14), .int .i64 (t87.knows_ 15), .slice x.1 t87.facts_.length x.2] 60) (J2 45 8 (.slice x.1 t87.facts_.length x.2) t87.facts_.length (t87.facts_.map Jd))) rfl (fun w L' S hF hS hi hp hlt ho hA => k20 hp hlt (Qn w S) hn0_2 (FnH.mk ⟨77, #[], #[.pointer (some ⟨b4, 0, none⟩)], rfl, Tryz.call77, fun args2 post2 w2 hk2 hR2 => by obtain ⟨a0_, r_, rfl, H_, rfl⟩ := hR2; exact k77 (Jx w2) ((frb_own (j := 3) hl hA hS (by decide) ((hi 3 (by simp)).trans rfl)).mono hk2.up) (hk2.up _ _ (U9 (j := 4) hA hS (by decide) ((hi 4 (by simp)).trans rfl))) H_⟩) (frb_own (j := 3) hl hA hS (by decide) ((hi 3 (by simp)).trans rfl)) h_t87) Tryz.call20 rfl) rfl rfl rfl (fun p_3 => ?_)
        refine Q0 0 1 rfl rfl (by decide) ?_
        refine Jg ?_
        refine Jf ?_
        refine Jb ?_
        refine Ja rfl rfl rfl (Jc (v := .int .i64 0) rfl) ?_
        refine Jg ?_
        refine Jp ?_
        obtain rfl := Option.some.inj H44
        refine Qa 0 1 rfl rfl (by decide) ?_
        refine J3 (v := .int .i64 0) rfl rfl (Yk p_3 (i := 0) rfl rfl (Imp.refl _))
     ) (by kernel_rfl)
  ) (by kernel_rfl)
theorem k52 {a0 : (List T_sync_Fact)} {v0 : Value} {a1 : (T_sync_Fact → T_sync_Fact → Option (Int))} {v1 : Value} {r : T_sync_Fact} {w : World} {h : Qd} (hw : Know h w Vd) (f0 : FrS h 8 v0 (a0.map Jd)) (f1 : FnH Tryz.prog h v1 (V5 a1)) (H : Wg a0 a1 = some r) : Does Tryz.prog 52 (List.toArray [v0, v1]) w (fun v w' => v = (.agg #[.int .i64 r.Dot.Device, .int .i64 r.Dot.N, .int .i64 r.Time, .int .i64 r.Kind, .int .i64 r.Id, str r.Name, .int .i64 r.Num, str r.Text]) ∧ Grow w w') := by
 refine enter (n := 33) Tryz.func52 rfl rfl rfl Vd [] (Sat.nil _ _) ?_
 refine Jf ?_
 refine Jb ?_
 refine Zv (cs := [.int .i64 0, .int .i64 0, .int .i64 0, .int .i64 0, .int .i64 0, str [], .int .i64 0, str []]) Tryz.zeroValue45 rfl rfl rfl (fun b2 => ?_)
 refine Jg ?_
 refine Jf ?_
 refine Jf ?_
 refine Jb ?_
 refine Ja rfl rfl rfl (Je (v := v0) rfl) ?_
 refine Ja rfl rfl rfl (Uh Tryz.underlying58 rfl f0 rfl) ?_
 refine Ja rfl rfl rfl (Zd rfl rfl) ?_
 refine Jg ?_
 refine Qg (b := (decide ((a0.length : Int) < 1))) rfl (fun hb => ?_) (fun hb => ?_)
 ·have H15 := Jr hb H; clear H
  exact absurd (show (none : Option (T_sync_Fact)) = some r from H15) (fun h => by cases h)
 ·have H16 := Jq hb H; clear H
  refine Jw ?_
  refine Jf ?_
  refine Jb ?_
  refine Ja rfl rfl rfl (Je (v := v0) rfl) ?_
  obtain ⟨t12, h_t12, H17⟩ := Ji H16; clear H16
  refine Ja rfl rfl rfl (Z6 Tryz.underlying58 Tryz.sizeOf45 rfl rfl f0 h_t12) ?_
  refine Qo (fun w hF hS => X4 (f := Jd) (i := 0) (sz := 8) (j := 0) (vs := [.int .i64 t12.Dot.Device, .int .i64 t12.Dot.N, .int .i64 t12.Time, .int .i64 t12.Kind, .int .i64 t12.Id, str t12.Name, .int .i64 t12.Num, str t12.Text]) Tryz.isAgg45 Tryz.sizeOf45 rfl rfl (f0.row (hw.now hF)) h_t12 rfl) rfl rfl rfl ?_
  refine Zv (cs := [.int .i64 0, .int .i64 0, .int .i64 0, .int .i64 0, .int .i64 0, str [], .int .i64 0, str []]) Tryz.zeroValue45 rfl rfl rfl (fun b3 => ?_)
  refine Xt (i := 1) (vs := [.int .i64 t12.Dot.Device, .int .i64 t12.Dot.N, .int .i64 t12.Time, .int .i64 t12.Kind, .int .i64 t12.Id, str t12.Name, .int .i64 t12.Num, str t12.Text]) (cs' := [.int .i64 t12.Dot.Device, .int .i64 t12.Dot.N, .int .i64 t12.Time, .int .i64 t12.Kind, .int .i64 t12.Id, str t12.Name, .int .i64 t12.Num, str t12.Text]) Tryz.sizeOf45 rfl rfl rfl rfl rfl rfl rfl rfl rfl ?_
  refine Jg ?_
  refine Xu (r := r) (σ := Int × Int × Int × Int × Int × (List UInt8) × Int × (List UInt8)) (τ := Unit) (fun s => Zl s.1 s.2.1 s.2.2.1 s.2.2.2.1 s.2.2.2.2.1 s.2.2.2.2.2.1 s.2.2.2.2.2.2.1 s.2.2.2.2.2.2.2) (fun s t => [(4, .pointer (some ⟨b2, 0, none⟩)), (5, .pointer (some ⟨b3, 0, none⟩))]) (fun s t => [Jl b2 [.int .i64 0, .int .i64 0, .int .i64 0, .int .i64 0, .int .i64 0, str [], .int .i64 0, str []] 45, Jl b3 [.int .i64 s.1, .int .i64 s.2.1, .int .i64 s.2.2.1, .int .i64 s.2.2.2.1, .int .i64 s.2.2.2.2.1, str s.2.2.2.2.2.1, .int .i64 s.2.2.2.2.2.2.1, str s.2.2.2.2.2.2.2] 45]) (fun s t => True) ?_ ?_
  ·refine Jf ?_
   refine Jb ?_
   refine Ja rfl rfl rfl (Jc (v := .int .i64 1) rfl) ?_
   refine Jg ?_
   refine J5 ?_
   refine Vn (σ := Int × Int × Int × Int × Int × Int × (List UInt8) × Int × (List UInt8)) (τ := Unit) (fun next2 s => Q2 a0 a1 next2 s.1 s.2.1 s.2.2.1 s.2.2.2.1 s.2.2.2.2.1 s.2.2.2.2.2.1 s.2.2.2.2.2.2.1 s.2.2.2.2.2.2.2.1 s.2.2.2.2.2.2.2.2) (fun s t => [(0, v0), (1, v1), (4, .pointer (some ⟨b2, 0, none⟩)), (5, .pointer (some ⟨b3, 0, none⟩)), (6, .int .i64 s.1)]) (fun s t => [Jl b2 [.int .i64 0, .int .i64 0, .int .i64 0, .int .i64 0, .int .i64 0, str [], .int .i64 0, str []] 45, Jl b3 [.int .i64 s.2.1, .int .i64 s.2.2.1, .int .i64 s.2.2.2.1, .int .i64 s.2.2.2.2.1, .int .i64 s.2.2.2.2.2.1, str s.2.2.2.2.2.2.1, .int .i64 s.2.2.2.2.2.2.2.1, str s.2.2.2.2.2.2.2.2] 45]) (fun s t => True) (1, t12.Dot.Device, t12.Dot.N, t12.Time, t12.Kind, t12.Id, t12.Name, t12.Num, t12.Text) () [0, 1] H17 (by exact trivial) (by exact ⟨rfl, rfl, rfl, rfl, rfl, trivial⟩) (by decide) rfl ?_
   rintro ⟨x6_2, m_17, m_18, m_19, m_20, m_21, m_22, m_23, m_24⟩ _ m2 gg H19 _
   clear H17
   replace H19 : Q2 a0 a1 (it (fun next2 s => Q2 a0 a1 next2 s.1 s.2.1 s.2.2.1 s.2.2.2.1 s.2.2.2.2.1 s.2.2.2.2.2.1 s.2.2.2.2.2.2.1 s.2.2.2.2.2.2.2.1 s.2.2.2.2.2.2.2.2) m2) x6_2 m_17 m_18 m_19 m_20 m_21 m_22 m_23 m_24 = some r := H19
   generalize hn2 : it (fun next2 s => Q2 a0 a1 next2 s.1 s.2.1 s.2.2.1 s.2.2.2.1 s.2.2.2.2.1 s.2.2.2.2.2.1 s.2.2.2.2.2.2.1 s.2.2.2.2.2.2.2.1 s.2.2.2.2.2.2.2.2) m2 = next2 at H19
   refine J8 [(0, v0), (1, v1), (4, .pointer (some ⟨b2, 0, none⟩)), (5, .pointer (some ⟨b3, 0, none⟩)), (6, .int .i64 x6_2)] [Jl b2 [.int .i64 0, .int .i64 0, .int .i64 0, .int .i64 0, .int .i64 0, str [], .int .i64 0, str []] 45, Jl b3 [.int .i64 m_17, .int .i64 m_18, .int .i64 m_19, .int .i64 m_20, .int .i64 m_21, str m_22, .int .i64 m_23, str m_24] 45] rfl rfl ?_
   refine Jf ?_
   refine Jf ?_
   refine Jb ?_
   refine Ja rfl rfl rfl (Je (v := .int .i64 x6_2) rfl) ?_
   refine Ja rfl rfl rfl (Je (v := v0) rfl) ?_
   refine Ja rfl rfl rfl (Uh Tryz.underlying58 rfl f0 rfl) ?_
   refine Ja rfl rfl rfl (Zd rfl rfl) ?_
   refine Jg ?_
   refine Qg (b := (decide (x6_2 < (a0.length : Int)))) rfl (fun hb => ?_) (fun hb => ?_)
   ·have H20 := Jr hb H19; clear H19
    refine Jw ?_
    refine Xu (r := r) (σ := Int × Int × Int × Int × Int × (List UInt8) × Int × (List UInt8)) (τ := Unit) (fun s => Ye x6_2 next2 s.1 s.2.1 s.2.2.1 s.2.2.2.1 s.2.2.2.2.1 s.2.2.2.2.2.1 s.2.2.2.2.2.2.1 s.2.2.2.2.2.2.2) (fun s t => [(0, v0), (1, v1), (4, .pointer (some ⟨b2, 0, none⟩)), (5, .pointer (some ⟨b3, 0, none⟩)), (6, .int .i64 x6_2)]) (fun s t => [Jl b2 [.int .i64 0, .int .i64 0, .int .i64 0, .int .i64 0, .int .i64 0, str [], .int .i64 0, str []] 45, Jl b3 [.int .i64 s.1, .int .i64 s.2.1, .int .i64 s.2.2.1, .int .i64 s.2.2.2.1, .int .i64 s.2.2.2.2.1, str s.2.2.2.2.2.1, .int .i64 s.2.2.2.2.2.2.1, str s.2.2.2.2.2.2.2] 45]) (fun s t => True) ?_ ?_
    ·refine J5 ?_
     refine Jf ?_
     exact Yl (Kd.p :: Kd.p :: Kd.p :: Kd.p :: Kd.d [] _ :: Kd.d [1] _ :: Kd.d [] _ :: Kd.p :: []) 0 mixed (by
      refine Jt rfl rfl (Je (v := v1) rfl) ?_
      refine Jt rfl rfl (Je (v := v0) rfl) ?_
      refine Jt rfl rfl (Je (v := .int .i64 x6_2) rfl) ?_
      have h_t23 := Qq H20
      have H23 := Qi H20
      refine Jt rfl rfl (Z6 Tryz.underlying58 Tryz.sizeOf45 rfl rfl f0 h_t23) ?_
      refine d_read (fun w hF => X4 (f := Jd) (i := x6_2) (sz := 8) (j := 0) (vs := [.int .i64 (val (Q1 a0 x6_2)).Dot.Device, .int .i64 (val (Q1 a0 x6_2)).Dot.N, .int .i64 (val (Q1 a0 x6_2)).Time, .int .i64 (val (Q1 a0 x6_2)).Kind, .int .i64 (val (Q1 a0 x6_2)).Id, str (val (Q1 a0 x6_2)).Name, .int .i64 (val (Q1 a0 x6_2)).Num, str (val (Q1 a0 x6_2)).Text]) Tryz.isAgg45 Tryz.sizeOf45 rfl rfl (f0.row (hw.now hF)) h_t23 rfl) rfl rfl ?_
      refine d_loadN (i := 1) (vs := [.int .i64 m_17, .int .i64 m_18, .int .i64 m_19, .int .i64 m_20, .int .i64 m_21, str m_22, .int .i64 m_23, str m_24]) Tryz.isAgg45 Tryz.sizeOf45 rfl rfl rfl rfl ?_
      have h_t26 := Qq H23
      have H24 := Qi H23
      refine d_callV (R := V5 a1) (r := .int .i64 (val (a1 (val (Q1 a0 x6_2)) (⟨(⟨m_17, m_18⟩ : T_sync_Dot), m_19, m_20, m_21, m_22, m_23, m_24⟩ : T_sync_Fact)))) (v := v1) (fun w L' hF hS hi => ⟨(f1.mono (hw.now hF)), ⟨(val (Q1 a0 x6_2)), (⟨(⟨m_17, m_18⟩ : T_sync_Dot), m_19, m_20, m_21, m_22, m_23, m_24⟩ : T_sync_Fact), _, rfl, h_t26, rfl⟩⟩) rfl rfl rfl ?_
      refine Jt rfl rfl (r_gtr rfl rfl) ?_
      refine Wr ?_
      refine Qg (b := (decide (0 < (val (a1 (val (Q1 a0 x6_2)) (⟨(⟨m_17, m_18⟩ : T_sync_Dot), m_19, m_20, m_21, m_22, m_23, m_24⟩ : T_sync_Fact)))))) rfl (fun hb => ?_) (fun hb => ?_)
      ·have H25 := Jr hb H24; clear H24
       refine Jb ?_
       refine Ja rfl rfl rfl (Je (v := v0) rfl) ?_
       refine Ja rfl rfl rfl (Je (v := .int .i64 x6_2) rfl) ?_
       obtain ⟨t30, h_t30, H26⟩ := Ji H25; clear H25
       refine Ja rfl rfl rfl (Z6 Tryz.underlying58 Tryz.sizeOf45 rfl rfl f0 h_t30) ?_
       refine Qo (fun w hF hS => X4 (f := Jd) (i := x6_2) (sz := 8) (j := 0) (vs := [.int .i64 t30.Dot.Device, .int .i64 t30.Dot.N, .int .i64 t30.Time, .int .i64 t30.Kind, .int .i64 t30.Id, str t30.Name, .int .i64 t30.Num, str t30.Text]) Tryz.isAgg45 Tryz.sizeOf45 rfl rfl (f0.row (hw.now hF)) h_t30 rfl) rfl rfl rfl ?_
       refine Xt (i := 1) (vs := [.int .i64 t30.Dot.Device, .int .i64 t30.Dot.N, .int .i64 t30.Time, .int .i64 t30.Kind, .int .i64 t30.Id, str t30.Name, .int .i64 t30.Num, str t30.Text]) (cs' := [.int .i64 t30.Dot.Device, .int .i64 t30.Dot.N, .int .i64 t30.Time, .int .i64 t30.Kind, .int .i64 t30.Id, str t30.Name, .int .i64 t30.Num, str t30.Text]) Tryz.sizeOf45 rfl rfl rfl rfl rfl rfl rfl rfl rfl ?_
       refine Jg ?_
       refine Js (t30.Dot.Device, t30.Dot.N, t30.Time, t30.Kind, t30.Id, t30.Name, t30.Num, t30.Text) () 0 [0, 1] (by exact ⟨rfl, rfl, rfl, rfl, rfl, trivial⟩) (by decide) rfl (by exact ⟨H26, trivial⟩) (Nat.lt_succ_self _)
      ·have H27 := Jq hb H24; clear H24
       refine Jw ?_
       refine Js (m_17, m_18, m_19, m_20, m_21, m_22, m_23, m_24) () 0 [0, 1] (by exact ⟨rfl, rfl, rfl, rfl, rfl, trivial⟩) (by decide) rfl (by exact ⟨H27, trivial⟩) (Nat.lt_succ_self _)
      ) (by kernel_rfl)
    ·rintro ⟨m_25, m_26, m_27, m_28, m_29, m_30, m_31, m_32⟩ _ gg H21 _
     replace H21 : Ye x6_2 next2 m_25 m_26 m_27 m_28 m_29 m_30 m_31 m_32 = some r := H21
     refine J8 [(0, v0), (1, v1), (4, .pointer (some ⟨b2, 0, none⟩)), (5, .pointer (some ⟨b3, 0, none⟩)), (6, .int .i64 x6_2)] [Jl b2 [.int .i64 0, .int .i64 0, .int .i64 0, .int .i64 0, .int .i64 0, str [], .int .i64 0, str []] 45, Jl b3 [.int .i64 m_25, .int .i64 m_26, .int .i64 m_27, .int .i64 m_28, .int .i64 m_29, str m_30, .int .i64 m_31, str m_32] 45] rfl rfl ?_
     refine Jb ?_
     refine Ja rfl rfl rfl (Je (v := .int .i64 x6_2) rfl) ?_
     obtain ⟨t19, h_t19, H22⟩ := Ji H21; clear H21
     refine Ja rfl rfl rfl (Yj rfl rfl h_t19) ?_
     refine Ja rfl rfl rfl (Jc (v := .int .i64 t19) rfl) ?_
     refine Jg ?_
     refine Js (t19, m_25, m_26, m_27, m_28, m_29, m_30, m_31, m_32) () m2 [0, 1] (by exact ⟨rfl, rfl, rfl, rfl, rfl, trivial⟩) (by decide) rfl (by exact ⟨(by subst hn2; exact H22), trivial⟩) (Nat.lt_succ_self _)
   ·have H28 := Jq hb H19; clear H19
    refine Xi ?_
    refine Js (m_17, m_18, m_19, m_20, m_21, m_22, m_23, m_24) () 0 [0, 1] (by exact ⟨rfl, rfl, trivial⟩) (by decide) rfl (by exact ⟨H28, trivial⟩) (Nat.lt_succ_self _)
  ·rintro ⟨m, m_2, m_3, m_4, m_5, m_6, m_7, m_8⟩ _ gg H18 _
   replace H18 : Zl m m_2 m_3 m_4 m_5 m_6 m_7 m_8 = some r := H18
   refine J8 [(4, .pointer (some ⟨b2, 0, none⟩)), (5, .pointer (some ⟨b3, 0, none⟩))] [Jl b2 [.int .i64 0, .int .i64 0, .int .i64 0, .int .i64 0, .int .i64 0, str [], .int .i64 0, str []] 45, Jl b3 [.int .i64 m, .int .i64 m_2, .int .i64 m_3, .int .i64 m_4, .int .i64 m_5, str m_6, .int .i64 m_7, str m_8] 45] rfl rfl ?_
   refine Jf ?_
   refine Jb ?_
   refine Ym (i := 1) (vs := [.int .i64 m, .int .i64 m_2, .int .i64 m_3, .int .i64 m_4, .int .i64 m_5, str m_6, .int .i64 m_7, str m_8]) Tryz.isAgg45 Tryz.sizeOf45 rfl rfl rfl rfl rfl ?_
   refine Xt (i := 0) (vs := [.int .i64 m, .int .i64 m_2, .int .i64 m_3, .int .i64 m_4, .int .i64 m_5, str m_6, .int .i64 m_7, str m_8]) (cs' := [.int .i64 m, .int .i64 m_2, .int .i64 m_3, .int .i64 m_4, .int .i64 m_5, str m_6, .int .i64 m_7, str m_8]) Tryz.sizeOf45 rfl rfl rfl rfl rfl rfl rfl rfl rfl ?_
   refine Jg ?_
   refine Jp ?_
   obtain rfl := Option.some.inj H18
   refine retC (i := 0) (vs := [.int .i64 m, .int .i64 m_2, .int .i64 m_3, .int .i64 m_4, .int .i64 m_5, str m_6, .int .i64 m_7, str m_8]) Tryz.isAgg45 Tryz.sizeOf45 rfl rfl rfl rfl (Yd rfl)
theorem k25 {a0 : (List T_sync_Fact)} {v0 : Value} {r : T_sync_Fact} {w : World} {h : Qd} (hw : Know h w Vd) (f0 : FrS h 8 v0 (a0.map Jd)) (H : Qu a0 = some r) : Does Tryz.prog 25 (List.toArray [v0]) w (fun v w' => v = (.agg #[.int .i64 r.Dot.Device, .int .i64 r.Dot.N, .int .i64 r.Time, .int .i64 r.Kind, .int .i64 r.Id, str r.Name, .int .i64 r.Num, str r.Text]) ∧ Grow w w') := by
 refine enter (n := 9) Tryz.func25 rfl rfl rfl Vd [] (Sat.nil _ _) ?_
 refine Jf ?_
 refine Jb ?_
 refine Zv (cs := [.int .i64 0, .int .i64 0, .int .i64 0, .int .i64 0, .int .i64 0, str [], .int .i64 0, str []]) Tryz.zeroValue45 rfl rfl rfl (fun b1 => ?_)
 refine Jg ?_
 refine Jf ?_
 refine Jf ?_
 refine Jb ?_
 refine Ja rfl rfl rfl (Je (v := v0) rfl) ?_
 refine Ja rfl rfl rfl (Uh Tryz.underlying58 rfl f0 rfl) ?_
 refine Ja rfl rfl rfl (Xd rfl rfl) ?_
 refine Jg ?_
 refine Qg (b := (decide ((a0.length : Int) = 0))) rfl (fun hb => ?_) (fun hb => ?_)
 ·have H4 := Jr hb H; clear H
  refine Jf ?_
  refine Jb ?_
  refine Ja rfl rfl rfl (W4 (pl := #[(0, 2), (2, 1), (3, 1), (4, 1), (5, 1), (6, 1), (7, 1)]) (ps := []) (cells := #[.int .i64 0, .int .i64 0, .int .i64 0, .int .i64 0, .int .i64 0, str [], .int .i64 0, str []]) Tryz.zeroValue45 Tryz.runUnderlying45 (fun w => by kernel_rfl) rfl rfl) ?_
  refine Xt (i := 0) (vs := [.int .i64 0, .int .i64 0, .int .i64 0, .int .i64 0, .int .i64 0, str [], .int .i64 0, str []]) (cs' := [.int .i64 0, .int .i64 0, .int .i64 0, .int .i64 0, .int .i64 0, str [], .int .i64 0, str []]) Tryz.sizeOf45 rfl rfl rfl rfl rfl rfl rfl rfl rfl ?_
  refine Jg ?_
  refine Jp ?_
  obtain rfl := Option.some.inj H4
  refine retC (i := 0) (vs := [.int .i64 0, .int .i64 0, .int .i64 0, .int .i64 0, .int .i64 0, str [], .int .i64 0, str []]) Tryz.isAgg45 Tryz.sizeOf45 rfl rfl rfl rfl (Yd rfl)
 ·have H5 := Jq hb H; clear H
  refine Jw ?_
  refine Jf ?_
  refine Jb ?_
  refine Ja rfl rfl rfl (Je (v := v0) rfl) ?_
  obtain ⟨t8, h_t8, H6⟩ := Ji H5; clear H5
  refine Yv (fun w hF hS => k52 (Jx w) (f0.mono (hw.now hF)) (FnH.mk ⟨53, #[], #[], rfl, Tryz.call53, fun args2 post2 w2 hk2 hR2 => by obtain ⟨a0_, a1_, r_, rfl, H_, rfl⟩ := hR2; exact k53 H_ w2⟩) h_t8) Tryz.call52 rfl rfl rfl ?_
  refine Xt (i := 0) (vs := [.int .i64 t8.Dot.Device, .int .i64 t8.Dot.N, .int .i64 t8.Time, .int .i64 t8.Kind, .int .i64 t8.Id, str t8.Name, .int .i64 t8.Num, str t8.Text]) (cs' := [.int .i64 t8.Dot.Device, .int .i64 t8.Dot.N, .int .i64 t8.Time, .int .i64 t8.Kind, .int .i64 t8.Id, str t8.Name, .int .i64 t8.Num, str t8.Text]) Tryz.sizeOf45 rfl rfl rfl rfl rfl rfl rfl rfl rfl ?_
  refine Jg ?_
  refine Jp ?_
  obtain rfl := Option.some.inj H6
  refine retC (i := 0) (vs := [.int .i64 t8.Dot.Device, .int .i64 t8.Dot.N, .int .i64 t8.Time, .int .i64 t8.Kind, .int .i64 t8.Id, str t8.Name, .int .i64 t8.Num, str t8.Text]) Tryz.isAgg45 Tryz.sizeOf45 rfl rfl rfl rfl (Yd rfl)
theorem k56 {a0 : T_sync_Replica} {v0_2 : Value} {pb0 : Nat} {a1 : Int} {r : T_sync_Fact} {w : World} {h : Qd} (hw : Know h w Vd) (f0_2 : FrS h 8 v0_2 (a0.facts_.map Jd)) (hb0 : h pb0 = some (.cells (List.toArray [.int .i64 a0.device_, .int .i64 (a0.knows_ 0), .int .i64 (a0.knows_ 1), .int .i64 (a0.knows_ 2), .int .i64 (a0.knows_ 3), .int .i64 (a0.knows_ 4), .int .i64 (a0.knows_ 5), .int .i64 (a0.knows_ 6), .int .i64 (a0.knows_ 7), .int .i64 (a0.knows_ 8), .int .i64 (a0.knows_ 9), .int .i64 (a0.knows_ 10), .int .i64 (a0.knows_ 11), .int .i64 (a0.knows_ 12), .int .i64 (a0.knows_ 13), .int .i64 (a0.knows_ 14), .int .i64 (a0.knows_ 15), v0_2]) 60 (0, 0))) (H : Jj a0 a1 = some r) : Does Tryz.prog 56 (List.toArray [.pointer (some ⟨pb0, 0, none⟩), .int .i64 a1]) w (fun v w' => v = (.agg #[.int .i64 r.Dot.Device, .int .i64 r.Dot.N, .int .i64 r.Time, .int .i64 r.Kind, .int .i64 r.Id, str r.Name, .int .i64 r.Num, str r.Text]) ∧ Grow w w') := by
 refine enter (n := 12) Tryz.func56 rfl rfl rfl Vd [] (Sat.nil _ _) ?_
 refine Jf ?_
 refine Jb ?_
 refine Zv (cs := [.int .i64 0, .int .i64 0, .int .i64 0, .int .i64 0, .int .i64 0, str [], .int .i64 0, str []]) Tryz.zeroValue45 rfl rfl rfl (fun b1 => ?_)
 refine Jg ?_
 refine Jf ?_
 refine Jb ?_
 refine Ja rfl rfl rfl (Je (v := .int .i64 a1) rfl) ?_
 refine Ja rfl rfl rfl (Je (v := .pointer (some ⟨pb0, 0, none⟩)) rfl) ?_
 refine Ja rfl rfl rfl (Je (v := .int .i64 a1) rfl) ?_
 obtain ⟨t8, h_t8, H3⟩ := Ji H; clear H
 refine Zq (Ql (rds := []) (G := fun x : (Option Addr × Nat) => .slice x.1 t8.length x.2) (C := fun x : (Option Addr × Nat) => Jz 45 8 (.slice x.1 t8.length x.2) t8.length (t8.map Jd)) (fun w L' hF hS hi => k26 (Jx w) (f0_2.mono (hw.now hF)) (hw.now hF _ _ hb0) h_t8) Tryz.call26 rfl) rfl rfl rfl (fun p => ?_)
 obtain ⟨t9, h_t9, H4⟩ := Ji H3; clear H3
 refine Yv (fun w hF hS => k25 (Jx w) (frs_own (i := 1) rfl hS rfl) h_t9) Tryz.call25 rfl rfl rfl ?_
 refine Ja rfl rfl rfl (r_fieldV (v := str t9.Text) Tryz.runUnderlying45 Tryz.isAgg9 rfl rfl rfl) ?_
 refine Ja rfl rfl rfl (W4 (pl := #[(0, 2), (2, 1), (3, 1), (4, 1), (5, 1), (6, 1), (7, 1)]) (ps := [(2, .int .i64 1), (3, .int .i64 a1), (6, str t9.Text)]) (cells := #[.int .i64 0, .int .i64 0, .int .i64 0, .int .i64 1, .int .i64 a1, str [], .int .i64 0, str t9.Text]) Tryz.zeroValue45 Tryz.runUnderlying45 (fun w => by kernel_rfl) rfl rfl) ?_
 refine Xt (i := 0) (vs := [.int .i64 0, .int .i64 0, .int .i64 0, .int .i64 1, .int .i64 a1, str [], .int .i64 0, str t9.Text]) (cs' := [.int .i64 0, .int .i64 0, .int .i64 0, .int .i64 1, .int .i64 a1, str [], .int .i64 0, str t9.Text]) Tryz.sizeOf45 rfl rfl rfl rfl rfl rfl rfl rfl rfl ?_
 refine Jg ?_
 refine Jp ?_
 obtain rfl := Option.some.inj H4
 refine retC (i := 0) (vs := [.int .i64 0, .int .i64 0, .int .i64 0, .int .i64 1, .int .i64 a1, str [], .int .i64 0, str t9.Text]) Tryz.isAgg45 Tryz.sizeOf45 rfl rfl rfl rfl (Yd rfl)
theorem k30 {a0 : T_sync_Replica} {pb0 : Nat} {p0_2 : Option Addr × Nat} {n0_2 : Nat} {a1 : T_sync_Fact} {r : Int × T_sync_Replica} {w : World} {h : Qd} {S : Nat → Prop} (hcs : (J0 (Jl pb0 [.int .i64 a0.device_, .int .i64 (a0.knows_ 0), .int .i64 (a0.knows_ 1), .int .i64 (a0.knows_ 2), .int .i64 (a0.knows_ 3), .int .i64 (a0.knows_ 4), .int .i64 (a0.knows_ 5), .int .i64 (a0.knows_ 6), .int .i64 (a0.knows_ 7), .int .i64 (a0.knows_ 8), .int .i64 (a0.knows_ 9), .int .i64 (a0.knows_ 10), .int .i64 (a0.knows_ 11), .int .i64 (a0.knows_ 12), .int .i64 (a0.knows_ 13), .int .i64 (a0.knows_ 14), .int .i64 (a0.knows_ 15), .slice p0_2.1 n0_2 p0_2.2] 60) (J2 45 8 (.slice p0_2.1 n0_2 p0_2.2) n0_2 (a0.facts_.map Jd))).P S w) (hlt : ∀ b, S b → b < w.heap.size) (hw : Know h w S) (hn0_2 : n0_2 = a0.facts_.length) (H : Zg a0 a1 = some r) : Does Tryz.prog 30 (List.toArray [.pointer (some ⟨pb0, 0, none⟩), .agg #[.int .i64 a1.Dot.Device, .int .i64 a1.Dot.N, .int .i64 a1.Time, .int .i64 a1.Kind, .int .i64 a1.Id, str a1.Name, .int .i64 a1.Num, str a1.Text]]) w (fun v w' => ∃ x : (Option Addr × Nat), v = (.int .i64 r.1) ∧ Turn w w' S (J0 (Jl pb0 [.int .i64 r.2.device_, .int .i64 (r.2.knows_ 0), .int .i64 (r.2.knows_ 1), .int .i64 (r.2.knows_ 2), .int .i64 (r.2.knows_ 3), .int .i64 (r.2.knows_ 4), .int .i64 (r.2.knows_ 5), .int .i64 (r.2.knows_ 6), .int .i64 (r.2.knows_ 7), .int .i64 (r.2.knows_ 8), .int .i64 (r.2.knows_ 9), .int .i64 (r.2.knows_ 10), .int .i64 (r.2.knows_ 11), .int .i64 (r.2.knows_ 12), .int .i64 (r.2.knows_ 13), .int .i64 (r.2.knows_ 14), .int .i64 (r.2.knows_ 15), .slice x.1 r.2.facts_.length x.2] 60) (J2 45 8 (.slice x.1 r.2.facts_.length x.2) r.2.facts_.length (r.2.facts_.map Jd)))) := by
 refine enter (n := 24) Tryz.func30 rfl rfl rfl S [J0 (Jl pb0 [.int .i64 a0.device_, .int .i64 (a0.knows_ 0), .int .i64 (a0.knows_ 1), .int .i64 (a0.knows_ 2), .int .i64 (a0.knows_ 3), .int .i64 (a0.knows_ 4), .int .i64 (a0.knows_ 5), .int .i64 (a0.knows_ 6), .int .i64 (a0.knows_ 7), .int .i64 (a0.knows_ 8), .int .i64 (a0.knows_ 9), .int .i64 (a0.knows_ 10), .int .i64 (a0.knows_ 11), .int .i64 (a0.knows_ 12), .int .i64 (a0.knows_ 13), .int .i64 (a0.knows_ 14), .int .i64 (a0.knows_ 15), .slice p0_2.1 n0_2 p0_2.2] 60) (J2 45 8 (.slice p0_2.1 n0_2 p0_2.2) n0_2 (a0.facts_.map Jd))] (Sat.one hcs hlt) ?_
 refine Yo 0 rfl ?_
 refine Jf ?_
 refine Jb ?_
 refine Zo (cs := [.int .i64 a1.Dot.Device, .int .i64 a1.Dot.N, .int .i64 a1.Time, .int .i64 a1.Kind, .int .i64 a1.Id, str a1.Name, .int .i64 a1.Num, str a1.Text]) rfl rfl rfl rfl (fun b2 => ?_)
 refine Ja rfl rfl rfl (Jc (v := .int .i64 0) rfl) ?_
 refine Jg ?_
 refine Jf ?_
 refine Jf ?_
 refine Jb ?_
 refine Ja rfl rfl rfl (Je (v := .pointer (some ⟨pb0, 0, none⟩)) rfl) ?_
 refine Ja rfl rfl rfl (Jo Tryz.runUnderlying45 rfl Tryz.sizeOf3 rfl rfl) ?_
 refine Jv (i := 2) (v := .int .i64 a1.Id) Tryz.isAgg3 rfl rfl rfl rfl rfl ?_
 obtain ⟨t9, h_t9, H9⟩ := Ji H; clear H
 refine Yv (fun w hF hS => k19 (Jx w) (Zp (i := 1) hn0_2 hS rfl) (Qj (i := 0) hS rfl) h_t9) Tryz.call19 rfl rfl rfl ?_
 refine Ja rfl rfl rfl (Zm rfl) ?_
 refine Jg ?_
 refine Qg (b := (!t9)) rfl (fun hb => ?_) (fun hb => ?_)
 ·have H10 := Jr hb H9; clear H9
  refine Jf ?_
  refine Jb ?_
  refine Ja rfl rfl rfl (Jc (v := .int .i64 7) rfl) ?_
  refine Jg ?_
  refine Jp ?_
  obtain rfl := Option.some.inj H10
  refine Qa 0 1 rfl rfl (by decide) ?_
  refine J3 (v := .int .i64 7) rfl rfl (Yk p0_2 (i := 0) rfl (by first | rfl | rw [(show n0_2 = a0.facts_.length from hn0_2)]) (by first | exact Imp.refl _ | exact Imp.of (by rw [(show n0_2 = a0.facts_.length from hn0_2)])))
 ·have H11 := Jq hb H9; clear H9
  refine Jw ?_
  refine Jf ?_
  refine Jf ?_
  refine Jb ?_
  refine Ym (i := 2) (vs := [.int .i64 a1.Dot.Device, .int .i64 a1.Dot.N, .int .i64 a1.Time, .int .i64 a1.Kind, .int .i64 a1.Id, str a1.Name, .int .i64 a1.Num, str a1.Text]) Tryz.isAgg45 Tryz.sizeOf45 rfl rfl rfl rfl rfl ?_
  obtain ⟨t12, h_t12, H12⟩ := Ji H11; clear H11
  refine Q5 (k32 h_t12) Tryz.call32 rfl rfl rfl ?_
  refine Ja rfl rfl rfl (Jc (v := .int .i64 t12) rfl) ?_
  refine Jg ?_
  refine Jf ?_
  refine Jb ?_
  refine Ja rfl rfl rfl (Je (v := .int .i64 t12) rfl) ?_
  refine Ja rfl rfl rfl (r_neq rfl rfl) ?_
  refine Jg ?_
  refine Qg (b := (decide (t12 ≠ 0))) rfl (fun hb => ?_) (fun hb => ?_)
  ·have H13 := Jr hb H12; clear H12
   refine Jf ?_
   refine Jb ?_
   refine Ja rfl rfl rfl (Je (v := .int .i64 t12) rfl) ?_
   refine Ja rfl rfl rfl (Jc (v := .int .i64 t12) rfl) ?_
   refine Jg ?_
   refine Jp ?_
   obtain rfl := Option.some.inj H13
   refine Qa 0 1 rfl rfl (by decide) ?_
   refine J3 (v := .int .i64 t12) rfl rfl (Yk p0_2 (i := 0) rfl (by first | rfl | rw [(show n0_2 = a0.facts_.length from hn0_2)]) (by first | exact Imp.refl _ | exact Imp.of (by rw [(show n0_2 = a0.facts_.length from hn0_2)])))
  ·have H14 := Jq hb H12; clear H12
   refine Jw ?_
   refine Jf ?_
   exact Yl (Kd.p :: Kd.d [2] _ :: Kd.p :: Kd.p :: Kd.d [2] _ :: Kd.d [0, 1] _ :: Kd.ns 3 [_, _, _, _, _, _, _, _, _, _, _, _, _, _, _, _] 45 2 :: Kd.t2 0 1 [3] _ _ :: Kd.p :: []) 1 mixed (by
    refine Jt rfl rfl (Je (v := .pointer (some ⟨pb0, 0, none⟩)) rfl) ?_
    refine d_loadN (i := 2) (vs := [.int .i64 a1.Dot.Device, .int .i64 a1.Dot.N, .int .i64 a1.Time, .int .i64 a1.Kind, .int .i64 a1.Id, str a1.Name, .int .i64 a1.Num, str a1.Text]) Tryz.isAgg45 Tryz.sizeOf45 rfl rfl rfl rfl ?_
    refine Jt rfl rfl (Je (v := .pointer (some ⟨pb0, 0, none⟩)) rfl) ?_
    refine Jt rfl rfl (Jo Tryz.runUnderlying45 rfl Tryz.sizeOf3 rfl rfl) ?_
    refine Yn (i := 2) (v := .int .i64 a1.Id) Tryz.isAgg3 rfl rfl rfl rfl ?_
    have h_t21 := Qq H14
    have H15 := Qi H14
    refine d_callD (fun w L' hF hS hi => k56 (Jx w) (Zp (i := 1) hn0_2 hS ((hi 1 (by simp)).trans rfl)) (Qj (i := 0) hS ((hi 0 (by simp)).trans rfl)) h_t21) Tryz.call56 rfl rfl ?_
    refine d_newS rfl rfl (Uo (vs := [.agg #[.int .i64 a1.Dot.Device, .int .i64 a1.Dot.N, .int .i64 a1.Time, .int .i64 a1.Kind, .int .i64 a1.Id, str a1.Name, .int .i64 a1.Num, str a1.Text], .agg #[.int .i64 (val (Jj a0 a1.Id)).Dot.Device, .int .i64 (val (Jj a0 a1.Id)).Dot.N, .int .i64 (val (Jj a0 a1.Id)).Time, .int .i64 (val (Jj a0 a1.Id)).Kind, .int .i64 (val (Jj a0 a1.Id)).Id, str (val (Jj a0 a1.Id)).Name, .int .i64 (val (Jj a0 a1.Id)).Num, str (val (Jj a0 a1.Id)).Text]]) (cs := [.int .i64 a1.Dot.Device, .int .i64 a1.Dot.N, .int .i64 a1.Time, .int .i64 a1.Kind, .int .i64 a1.Id, str a1.Name, .int .i64 a1.Num, str a1.Text, .int .i64 (val (Jj a0 a1.Id)).Dot.Device, .int .i64 (val (Jj a0 a1.Id)).Dot.N, .int .i64 (val (Jj a0 a1.Id)).Time, .int .i64 (val (Jj a0 a1.Id)).Kind, .int .i64 (val (Jj a0 a1.Id)).Id, str (val (Jj a0 a1.Id)).Name, .int .i64 (val (Jj a0 a1.Id)).Num, str (val (Jj a0 a1.Id)).Text]) Tryz.underlying58 Tryz.sizeOf45 Tryz.zeroValue45 rfl rfl rfl rfl rfl) rfl (fun b3 => ?_)
    have h_t23 := Qq H15
    have H16 := Qi H15
    refine d_turn2 (i := 0) (j := 1) (J6 (i := 0) (rds := _) (G := fun x : (Option Addr × Nat) => .int .i64 (val (Jm a0 ([a1, (val (Jj a0 a1.Id))] : List T_sync_Fact))).1) (C := fun x : (Option Addr × Nat) => J0 (Jl pb0 [.int .i64 (val (Jm a0 ([a1, (val (Jj a0 a1.Id))] : List T_sync_Fact))).2.device_, .int .i64 ((val (Jm a0 ([a1, (val (Jj a0 a1.Id))] : List T_sync_Fact))).2.knows_ 0), .int .i64 ((val (Jm a0 ([a1, (val (Jj a0 a1.Id))] : List T_sync_Fact))).2.knows_ 1), .int .i64 ((val (Jm a0 ([a1, (val (Jj a0 a1.Id))] : List T_sync_Fact))).2.knows_ 2), .int .i64 ((val (Jm a0 ([a1, (val (Jj a0 a1.Id))] : List T_sync_Fact))).2.knows_ 3), .int .i64 ((val (Jm a0 ([a1, (val (Jj a0 a1.Id))] : List T_sync_Fact))).2.knows_ 4), .int .i64 ((val (Jm a0 ([a1, (val (Jj a0 a1.Id))] : List T_sync_Fact))).2.knows_ 5), .int .i64 ((val (Jm a0 ([a1, (val (Jj a0 a1.Id))] : List T_sync_Fact))).2.knows_ 6), .int .i64 ((val (Jm a0 ([a1, (val (Jj a0 a1.Id))] : List T_sync_Fact))).2.knows_ 7), .int .i64 ((val (Jm a0 ([a1, (val (Jj a0 a1.Id))] : List T_sync_Fact))).2.knows_ 8), .int .i64 ((val (Jm a0 ([a1, (val (Jj a0 a1.Id))] : List T_sync_Fact))).2.knows_ 9), .int .i64 ((val (Jm a0 ([a1, (val (Jj a0 a1.Id))] : List T_sync_Fact))).2.knows_ 10), .int .i64 ((val (Jm a0 ([a1, (val (Jj a0 a1.Id))] : List T_sync_Fact))).2.knows_ 11), .int .i64 ((val (Jm a0 ([a1, (val (Jj a0 a1.Id))] : List T_sync_Fact))).2.knows_ 12), .int .i64 ((val (Jm a0 ([a1, (val (Jj a0 a1.Id))] : List T_sync_Fact))).2.knows_ 13), .int .i64 ((val (Jm a0 ([a1, (val (Jj a0 a1.Id))] : List T_sync_Fact))).2.knows_ 14), .int .i64 ((val (Jm a0 ([a1, (val (Jj a0 a1.Id))] : List T_sync_Fact))).2.knows_ 15), .slice x.1 (val (Jm a0 ([a1, (val (Jj a0 a1.Id))] : List T_sync_Fact))).2.facts_.length x.2] 60) (J2 45 8 (.slice x.1 (val (Jm a0 ([a1, (val (Jj a0 a1.Id))] : List T_sync_Fact))).2.facts_.length x.2) (val (Jm a0 ([a1, (val (Jj a0 a1.Id))] : List T_sync_Fact))).2.facts_.length ((val (Jm a0 ([a1, (val (Jj a0 a1.Id))] : List T_sync_Fact))).2.facts_.map Jd))) rfl (fun w L' S hF hS hi hp hlt ho hA => k55 hp hlt (Qn w S) hn0_2 (frb_box (j := 3) (xs := ([a1, (val (Jj a0 a1.Id))] : List T_sync_Fact)) (f := Jd) hA hS (by decide) ((hi 3 (by simp)).trans rfl) rfl rfl rfl rfl) h_t23) Tryz.call55 rfl) rfl rfl (by decide) (by decide) rfl rfl ?_
    refine Jt rfl rfl (Jc (v := .int .i64 (val (Jm a0 ([a1, (val (Jj a0 a1.Id))] : List T_sync_Fact))).1) rfl) ?_
    refine Wr ?_
    refine c_ex 0 rfl (fun p => ?_)
    refine Q0 0 1 rfl rfl (by decide) ?_
    refine Jp ?_
    obtain rfl := Option.some.inj H16
    refine Qa 0 1 rfl rfl (by decide) ?_
    refine J3 (v := .int .i64 (val (Jm a0 ([a1, (val (Jj a0 a1.Id))] : List T_sync_Fact))).1) rfl rfl (Yk p (i := 0) rfl rfl (Imp.refl _))
    ) (by kernel_rfl)
theorem k11 {a0 : T_sync_Replica} {pb0 : Nat} {p0_2 : Option Addr × Nat} {n0_2 : Nat} {a1 : Int} {a2 : Int} {r : Int × T_sync_Replica} {w : World} {h : Qd} {S : Nat → Prop} (hcs : (J0 (Jl pb0 [.int .i64 a0.device_, .int .i64 (a0.knows_ 0), .int .i64 (a0.knows_ 1), .int .i64 (a0.knows_ 2), .int .i64 (a0.knows_ 3), .int .i64 (a0.knows_ 4), .int .i64 (a0.knows_ 5), .int .i64 (a0.knows_ 6), .int .i64 (a0.knows_ 7), .int .i64 (a0.knows_ 8), .int .i64 (a0.knows_ 9), .int .i64 (a0.knows_ 10), .int .i64 (a0.knows_ 11), .int .i64 (a0.knows_ 12), .int .i64 (a0.knows_ 13), .int .i64 (a0.knows_ 14), .int .i64 (a0.knows_ 15), .slice p0_2.1 n0_2 p0_2.2] 60) (J2 45 8 (.slice p0_2.1 n0_2 p0_2.2) n0_2 (a0.facts_.map Jd))).P S w) (hlt : ∀ b, S b → b < w.heap.size) (hw : Know h w S) (hn0_2 : n0_2 = a0.facts_.length) (H : Z0 a0 a1 a2 = some r) : Does Tryz.prog 11 (List.toArray [.pointer (some ⟨pb0, 0, none⟩), .int .i64 a1, .int .i64 a2]) w (fun v w' => ∃ x : (Option Addr × Nat), v = (.int .i64 r.1) ∧ Turn w w' S (J0 (Jl pb0 [.int .i64 r.2.device_, .int .i64 (r.2.knows_ 0), .int .i64 (r.2.knows_ 1), .int .i64 (r.2.knows_ 2), .int .i64 (r.2.knows_ 3), .int .i64 (r.2.knows_ 4), .int .i64 (r.2.knows_ 5), .int .i64 (r.2.knows_ 6), .int .i64 (r.2.knows_ 7), .int .i64 (r.2.knows_ 8), .int .i64 (r.2.knows_ 9), .int .i64 (r.2.knows_ 10), .int .i64 (r.2.knows_ 11), .int .i64 (r.2.knows_ 12), .int .i64 (r.2.knows_ 13), .int .i64 (r.2.knows_ 14), .int .i64 (r.2.knows_ 15), .slice x.1 r.2.facts_.length x.2] 60) (J2 45 8 (.slice x.1 r.2.facts_.length x.2) r.2.facts_.length (r.2.facts_.map Jd)))) := by
 refine enter (n := 12) Tryz.func11 rfl rfl rfl S [J0 (Jl pb0 [.int .i64 a0.device_, .int .i64 (a0.knows_ 0), .int .i64 (a0.knows_ 1), .int .i64 (a0.knows_ 2), .int .i64 (a0.knows_ 3), .int .i64 (a0.knows_ 4), .int .i64 (a0.knows_ 5), .int .i64 (a0.knows_ 6), .int .i64 (a0.knows_ 7), .int .i64 (a0.knows_ 8), .int .i64 (a0.knows_ 9), .int .i64 (a0.knows_ 10), .int .i64 (a0.knows_ 11), .int .i64 (a0.knows_ 12), .int .i64 (a0.knows_ 13), .int .i64 (a0.knows_ 14), .int .i64 (a0.knows_ 15), .slice p0_2.1 n0_2 p0_2.2] 60) (J2 45 8 (.slice p0_2.1 n0_2 p0_2.2) n0_2 (a0.facts_.map Jd))] (Sat.one hcs hlt) ?_
 refine Yo 0 rfl ?_
 refine Jf ?_
 refine Jb ?_
 refine Ja rfl rfl rfl (Jc (v := .int .i64 0) rfl) ?_
 refine Jg ?_
 refine Jf ?_
 refine Jb ?_
 refine Ja rfl rfl rfl (Je (v := .pointer (some ⟨pb0, 0, none⟩)) rfl) ?_
 refine Ja rfl rfl rfl (Je (v := .int .i64 a1) rfl) ?_
 refine Ja rfl rfl rfl (Je (v := .int .i64 a2) rfl) ?_
 refine Ja rfl rfl rfl (W4 (pl := #[(0, 2), (2, 1), (3, 1), (4, 1), (5, 1), (6, 1), (7, 1)]) (ps := [(2, .int .i64 2), (3, .int .i64 a1), (5, .int .i64 a2)]) (cells := #[.int .i64 0, .int .i64 0, .int .i64 0, .int .i64 2, .int .i64 a1, str [], .int .i64 a2, str []]) Tryz.zeroValue45 Tryz.runUnderlying45 (fun w => by kernel_rfl) rfl rfl) ?_
 obtain ⟨t11, h_t11, H2⟩ := Ji H; clear H
 refine Qa 0 1 rfl rfl (by decide) ?_
 refine Q4 (J6 (i := 0) (rds := []) (G := fun x : (Option Addr × Nat) => .int .i64 t11.1) (C := fun x : (Option Addr × Nat) => J0 (Jl pb0 [.int .i64 t11.2.device_, .int .i64 (t11.2.knows_ 0), .int .i64 (t11.2.knows_ 1), .int .i64 (t11.2.knows_ 2), .int .i64 (t11.2.knows_ 3), .int .i64 (t11.2.knows_ 4), .int .i64 (t11.2.knows_ 5), .int .i64 (t11.2.knows_ 6), .int .i64 (t11.2.knows_ 7), .int .i64 (t11.2.knows_ 8), .int .i64 (t11.2.knows_ 9), .int .i64 (t11.2.knows_ 10), .int .i64 (t11.2.knows_ 11), .int .i64 (t11.2.knows_ 12), .int .i64 (t11.2.knows_ 13), .int .i64 (t11.2.knows_ 14), .int .i64 (t11.2.knows_ 15), .slice x.1 t11.2.facts_.length x.2] 60) (J2 45 8 (.slice x.1 t11.2.facts_.length x.2) t11.2.facts_.length (t11.2.facts_.map Jd))) rfl (fun w L' S hF hS hi hp hlt ho hA => k30 hp hlt (Qn w S) hn0_2 h_t11) Tryz.call30 rfl) rfl rfl rfl (fun p => ?_)
 refine Q0 0 1 rfl rfl (by decide) ?_
 refine Ja rfl rfl rfl (Jc (v := .int .i64 t11.1) rfl) ?_
 refine Jg ?_
 refine Jp ?_
 obtain rfl := Option.some.inj H2
 refine Qa 0 1 rfl rfl (by decide) ?_
 refine J3 (v := .int .i64 t11.1) rfl rfl (Yk p (i := 0) rfl rfl (Imp.refl _))
theorem k33 {a0 : T_sync_Replica} {pb0 : Nat} {p0_2 : Option Addr × Nat} {n0_2 : Nat} {a1 : Int} {a2 : (List UInt8)} {r : Int × T_sync_Replica} {w : World} {h : Qd} {S : Nat → Prop} (hcs : (J0 (Jl pb0 [.int .i64 a0.device_, .int .i64 (a0.knows_ 0), .int .i64 (a0.knows_ 1), .int .i64 (a0.knows_ 2), .int .i64 (a0.knows_ 3), .int .i64 (a0.knows_ 4), .int .i64 (a0.knows_ 5), .int .i64 (a0.knows_ 6), .int .i64 (a0.knows_ 7), .int .i64 (a0.knows_ 8), .int .i64 (a0.knows_ 9), .int .i64 (a0.knows_ 10), .int .i64 (a0.knows_ 11), .int .i64 (a0.knows_ 12), .int .i64 (a0.knows_ 13), .int .i64 (a0.knows_ 14), .int .i64 (a0.knows_ 15), .slice p0_2.1 n0_2 p0_2.2] 60) (J2 45 8 (.slice p0_2.1 n0_2 p0_2.2) n0_2 (a0.facts_.map Jd))).P S w) (hlt : ∀ b, S b → b < w.heap.size) (hw : Know h w S) (hn0_2 : n0_2 = a0.facts_.length) (H : Uy a0 a1 a2 = some r) : Does Tryz.prog 33 (List.toArray [.pointer (some ⟨pb0, 0, none⟩), .int .i64 a1, str a2]) w (fun v w' => ∃ x : (Option Addr × Nat), v = (.int .i64 r.1) ∧ Turn w w' S (J0 (Jl pb0 [.int .i64 r.2.device_, .int .i64 (r.2.knows_ 0), .int .i64 (r.2.knows_ 1), .int .i64 (r.2.knows_ 2), .int .i64 (r.2.knows_ 3), .int .i64 (r.2.knows_ 4), .int .i64 (r.2.knows_ 5), .int .i64 (r.2.knows_ 6), .int .i64 (r.2.knows_ 7), .int .i64 (r.2.knows_ 8), .int .i64 (r.2.knows_ 9), .int .i64 (r.2.knows_ 10), .int .i64 (r.2.knows_ 11), .int .i64 (r.2.knows_ 12), .int .i64 (r.2.knows_ 13), .int .i64 (r.2.knows_ 14), .int .i64 (r.2.knows_ 15), .slice x.1 r.2.facts_.length x.2] 60) (J2 45 8 (.slice x.1 r.2.facts_.length x.2) r.2.facts_.length (r.2.facts_.map Jd)))) := by
 refine enter (n := 21) Tryz.func33 rfl rfl rfl S [J0 (Jl pb0 [.int .i64 a0.device_, .int .i64 (a0.knows_ 0), .int .i64 (a0.knows_ 1), .int .i64 (a0.knows_ 2), .int .i64 (a0.knows_ 3), .int .i64 (a0.knows_ 4), .int .i64 (a0.knows_ 5), .int .i64 (a0.knows_ 6), .int .i64 (a0.knows_ 7), .int .i64 (a0.knows_ 8), .int .i64 (a0.knows_ 9), .int .i64 (a0.knows_ 10), .int .i64 (a0.knows_ 11), .int .i64 (a0.knows_ 12), .int .i64 (a0.knows_ 13), .int .i64 (a0.knows_ 14), .int .i64 (a0.knows_ 15), .slice p0_2.1 n0_2 p0_2.2] 60) (J2 45 8 (.slice p0_2.1 n0_2 p0_2.2) n0_2 (a0.facts_.map Jd))] (Sat.one hcs hlt) ?_
 refine Yo 0 rfl ?_
 refine Jf ?_
 refine Jb ?_
 refine Ja rfl rfl rfl (Jc (v := .int .i64 0) rfl) ?_
 refine Jg ?_
 refine Jf ?_
 refine Jb ?_
 refine Ja rfl rfl rfl (Je (v := .int .i64 a1) rfl) ?_
 refine Ja rfl rfl rfl (Je (v := str a2) rfl) ?_
 refine Ja rfl rfl rfl (W4 (pl := #[(0, 2), (2, 1), (3, 1), (4, 1), (5, 1), (6, 1), (7, 1)]) (ps := [(2, .int .i64 1), (3, .int .i64 a1), (6, str a2)]) (cells := #[.int .i64 0, .int .i64 0, .int .i64 0, .int .i64 1, .int .i64 a1, str [], .int .i64 0, str a2]) Tryz.zeroValue45 Tryz.runUnderlying45 (fun w => by kernel_rfl) rfl rfl) ?_
 refine Zv (cs := [.int .i64 0, .int .i64 0, .int .i64 0, .int .i64 0, .int .i64 0, str [], .int .i64 0, str []]) Tryz.zeroValue45 rfl rfl rfl (fun b2 => ?_)
 refine Xt (i := 2) (vs := [.int .i64 0, .int .i64 0, .int .i64 0, .int .i64 1, .int .i64 a1, str [], .int .i64 0, str a2]) (cs' := [.int .i64 0, .int .i64 0, .int .i64 0, .int .i64 1, .int .i64 a1, str [], .int .i64 0, str a2]) Tryz.sizeOf45 rfl rfl rfl rfl rfl rfl rfl rfl rfl ?_
 refine Jg ?_
 refine Jf ?_
 refine Jf ?_
 refine Jb ?_
 refine Ym (i := 2) (vs := [.int .i64 0, .int .i64 0, .int .i64 0, .int .i64 1, .int .i64 a1, str [], .int .i64 0, str a2]) Tryz.isAgg45 Tryz.sizeOf45 rfl rfl rfl rfl rfl ?_
 obtain ⟨t13, h_t13, H5⟩ := Ji H; clear H
 refine Q5 (k32 h_t13) Tryz.call32 rfl rfl rfl ?_
 refine Ja rfl rfl rfl (Jc (v := .int .i64 t13) rfl) ?_
 refine Jg ?_
 refine Jf ?_
 refine Jb ?_
 refine Ja rfl rfl rfl (Je (v := .int .i64 t13) rfl) ?_
 refine Ja rfl rfl rfl (r_neq rfl rfl) ?_
 refine Jg ?_
 refine Qg (b := (decide (t13 ≠ 0))) rfl (fun hb => ?_) (fun hb => ?_)
 ·have H6 := Jr hb H5; clear H5
  refine Jf ?_
  refine Jb ?_
  refine Ja rfl rfl rfl (Je (v := .int .i64 t13) rfl) ?_
  refine Ja rfl rfl rfl (Jc (v := .int .i64 t13) rfl) ?_
  refine Jg ?_
  refine Jp ?_
  obtain rfl := Option.some.inj H6
  refine Qa 0 1 rfl rfl (by decide) ?_
  refine J3 (v := .int .i64 t13) rfl rfl (Yk p0_2 (i := 0) rfl (by first | rfl | rw [(show n0_2 = a0.facts_.length from hn0_2)]) (by first | exact Imp.refl _ | exact Imp.of (by rw [(show n0_2 = a0.facts_.length from hn0_2)])))
 ·have H7 := Jq hb H5; clear H5
  refine Jw ?_
  refine Jf ?_
  refine Jb ?_
  refine Ja rfl rfl rfl (Je (v := .pointer (some ⟨pb0, 0, none⟩)) rfl) ?_
  refine Ym (i := 2) (vs := [.int .i64 0, .int .i64 0, .int .i64 0, .int .i64 1, .int .i64 a1, str [], .int .i64 0, str a2]) Tryz.isAgg45 Tryz.sizeOf45 rfl rfl rfl rfl rfl ?_
  refine Y8 (vs := [.agg #[.int .i64 0, .int .i64 0, .int .i64 0, .int .i64 1, .int .i64 a1, str [], .int .i64 0, str a2]]) (cs := [.int .i64 0, .int .i64 0, .int .i64 0, .int .i64 1, .int .i64 a1, str [], .int .i64 0, str a2]) Tryz.underlying58 Tryz.sizeOf45 Tryz.zeroValue45 rfl rfl rfl rfl rfl rfl rfl (fun b3 => ?_)
  obtain ⟨t20, h_t20, H8⟩ := Ji H7; clear H7
  refine Qa 0 1 rfl rfl (by decide) ?_
  refine Q4 (J6 (i := 0) (rds := [3]) (G := fun x : (Option Addr × Nat) => .int .i64 t20.1) (C := fun x : (Option Addr × Nat) => J0 (Jl pb0 [.int .i64 t20.2.device_, .int .i64 (t20.2.knows_ 0), .int .i64 (t20.2.knows_ 1), .int .i64 (t20.2.knows_ 2), .int .i64 (t20.2.knows_ 3), .int .i64 (t20.2.knows_ 4), .int .i64 (t20.2.knows_ 5), .int .i64 (t20.2.knows_ 6), .int .i64 (t20.2.knows_ 7), .int .i64 (t20.2.knows_ 8), .int .i64 (t20.2.knows_ 9), .int .i64 (t20.2.knows_ 10), .int .i64 (t20.2.knows_ 11), .int .i64 (t20.2.knows_ 12), .int .i64 (t20.2.knows_ 13), .int .i64 (t20.2.knows_ 14), .int .i64 (t20.2.knows_ 15), .slice x.1 t20.2.facts_.length x.2] 60) (J2 45 8 (.slice x.1 t20.2.facts_.length x.2) t20.2.facts_.length (t20.2.facts_.map Jd))) rfl (fun w L' S hF hS hi hp hlt ho hA => k55 hp hlt (Qn w S) hn0_2 (frb_box (j := 3) (xs := ([(⟨(⟨0, 0⟩ : T_sync_Dot), 0, 1, a1, [], 0, a2⟩ : T_sync_Fact)] : List T_sync_Fact)) (f := Jd) hA hS (by decide) ((hi 3 (by simp)).trans rfl) rfl rfl rfl rfl) h_t20) Tryz.call55 rfl) rfl rfl rfl (fun p => ?_)
  refine Q0 0 1 rfl rfl (by decide) ?_
  refine Ja rfl rfl rfl (Jc (v := .int .i64 t20.1) rfl) ?_
  refine Jg ?_
  refine Jp ?_
  obtain rfl := Option.some.inj H8
  refine Qa 0 1 rfl rfl (by decide) ?_
  refine J3 (v := .int .i64 t20.1) rfl rfl (Yk p (i := 0) rfl rfl (Imp.refl _))
theorem k60 {q0 : Int} {c0 : Nat} {q1 : (List UInt8)} {c1 : Nat} {a0 : T_sync_Fact} {r : Bool} {w : World} {h : Qd} (hw : Know h w Vd) (hc0 : h c0 = some (.cells (List.toArray [.int .i64 q0]) 3 (0, 0))) (hc1 : h c1 = some (.cells (List.toArray [str q1]) 9 (0, 0))) (H : Va q0 q1 a0 = some r) : Does Tryz.prog 60 (List.toArray [.agg #[.int .i64 a0.Dot.Device, .int .i64 a0.Dot.N, .int .i64 a0.Time, .int .i64 a0.Kind, .int .i64 a0.Id, str a0.Name, .int .i64 a0.Num, str a0.Text], .pointer (some ⟨c0, 0, none⟩), .pointer (some ⟨c1, 0, none⟩)]) w (fun v w' => v = (.bool r) ∧ Grow w w') := by
 refine enter (n := 20) Tryz.func60 rfl rfl rfl Vd [] (Sat.nil _ _) ?_
 refine Jf ?_
 refine Jb ?_
 refine Zo (cs := [.int .i64 a0.Dot.Device, .int .i64 a0.Dot.N, .int .i64 a0.Time, .int .i64 a0.Kind, .int .i64 a0.Id, str a0.Name, .int .i64 a0.Num, str a0.Text]) rfl rfl rfl rfl (fun b1 => ?_)
 refine Ja rfl rfl rfl (Jc (v := .bool false) rfl) ?_
 refine Jg ?_
 refine Jf ?_
 refine Jb ?_
 refine Ja rfl rfl rfl (Jo Tryz.runUnderlying45 rfl Tryz.sizeOf3 rfl rfl) ?_
 refine Jv (i := 0) (v := .int .i64 a0.Kind) Tryz.isAgg3 rfl rfl rfl rfl rfl ?_
 refine Ja rfl rfl rfl (Xd rfl rfl) ?_
 refine Ja rfl rfl rfl (Je (v := .bool (decide (a0.Kind = 5))) rfl) ?_
 refine split (fun hb => ?_) (fun hb => ?_)
 ·have H5 := Jr hb H; clear H
  refine Ja rfl rfl rfl (Jo Tryz.runUnderlying45 rfl Tryz.sizeOf3 rfl rfl) ?_
  refine Jv (i := 0) (v := .int .i64 a0.Id) Tryz.isAgg3 rfl rfl rfl rfl rfl ?_
  refine Qo (fun w hF hS => Xo (v := .int .i64 q0) Tryz.isAgg3 rfl (hw.now hF _ _ hc0) rfl) rfl rfl rfl ?_
  refine Ja rfl rfl rfl (Xd rfl rfl) ?_
  refine Ja rfl rfl rfl (J7 (v := .bool (decide (a0.Id = q0))) rfl rfl) ?_
  refine Ja rfl rfl rfl (Je (v := .bool (decide (a0.Id = q0))) rfl) ?_
  refine split (fun hb => ?_) (fun hb => ?_)
  ·have H6 := Jr hb H5; clear H5
   refine Ja rfl rfl rfl (Jo Tryz.runUnderlying45 rfl Tryz.sizeOf9 rfl rfl) ?_
   refine Jv (i := 0) (v := str a0.Name) Tryz.isAgg9 rfl rfl rfl rfl rfl ?_
   refine Qo (fun w hF hS => Xo (v := str q1) Tryz.isAgg9 rfl (hw.now hF _ _ hc1) rfl) rfl rfl rfl ?_
   refine Ja rfl rfl rfl (r_eqlT rfl rfl) ?_
   refine Ja rfl rfl rfl (J7 (v := .bool (decide (a0.Name = q1))) rfl rfl) ?_
   refine Ja rfl rfl rfl (Jc (v := .bool (decide (a0.Name = q1))) rfl) ?_
   refine Jg ?_
   refine Jp ?_
   obtain rfl := Option.some.inj H6
   refine J3 (v := .bool (decide (a0.Name = q1))) rfl rfl (Yd rfl)
  ·have H7 := Jq hb H5; clear H5
   refine Jk rfl rfl rfl ?_
   refine Jk rfl rfl rfl ?_
   refine Jk rfl rfl rfl ?_
   refine Jk rfl rfl rfl ?_
   refine Ja rfl rfl rfl (J1 (v := .bool false) rfl rfl) ?_
   refine Ja rfl rfl rfl (Jc (v := .bool false) rfl) ?_
   refine Jg ?_
   refine Jp ?_
   obtain rfl := Option.some.inj H7
   refine J3 (v := .bool false) rfl rfl (Yd rfl)
 ·have H8 := Jq hb H; clear H
  refine Jk rfl rfl rfl ?_
  refine Jk rfl rfl rfl ?_
  refine Jk rfl rfl rfl ?_
  refine Jk rfl rfl rfl ?_
  refine Ja rfl rfl rfl (J1 (v := .bool false) rfl rfl) ?_
  refine Ja rfl rfl rfl (Je (v := .bool false) rfl) ?_
  refine Jk rfl rfl rfl ?_
  refine Jk rfl rfl rfl ?_
  refine Jk rfl rfl rfl ?_
  refine Jk rfl rfl rfl ?_
  refine Ja rfl rfl rfl (J1 (v := .bool false) rfl rfl) ?_
  refine Ja rfl rfl rfl (Jc (v := .bool false) rfl) ?_
  refine Jg ?_
  refine Jp ?_
  obtain rfl := Option.some.inj H8
  refine J3 (v := .bool false) rfl rfl (Yd rfl)
theorem k37 {a0 : T_sync_Replica} {pb0 : Nat} {p0_2 : Option Addr × Nat} {n0_2 : Nat} {a1 : Int} {a2 : (List UInt8)} {r : Int × T_sync_Replica} {w : World} {h : Qd} {S : Nat → Prop} (hcs : (J0 (Jl pb0 [.int .i64 a0.device_, .int .i64 (a0.knows_ 0), .int .i64 (a0.knows_ 1), .int .i64 (a0.knows_ 2), .int .i64 (a0.knows_ 3), .int .i64 (a0.knows_ 4), .int .i64 (a0.knows_ 5), .int .i64 (a0.knows_ 6), .int .i64 (a0.knows_ 7), .int .i64 (a0.knows_ 8), .int .i64 (a0.knows_ 9), .int .i64 (a0.knows_ 10), .int .i64 (a0.knows_ 11), .int .i64 (a0.knows_ 12), .int .i64 (a0.knows_ 13), .int .i64 (a0.knows_ 14), .int .i64 (a0.knows_ 15), .slice p0_2.1 n0_2 p0_2.2] 60) (J2 45 8 (.slice p0_2.1 n0_2 p0_2.2) n0_2 (a0.facts_.map Jd))).P S w) (hlt : ∀ b, S b → b < w.heap.size) (hw : Know h w S) (hn0_2 : n0_2 = a0.facts_.length) (H : W2 a0 a1 a2 = some r) : Does Tryz.prog 37 (List.toArray [.pointer (some ⟨pb0, 0, none⟩), .int .i64 a1, str a2]) w (fun v w' => ∃ x : (Option Addr × Nat), v = (.int .i64 r.1) ∧ Turn w w' S (J0 (Jl pb0 [.int .i64 r.2.device_, .int .i64 (r.2.knows_ 0), .int .i64 (r.2.knows_ 1), .int .i64 (r.2.knows_ 2), .int .i64 (r.2.knows_ 3), .int .i64 (r.2.knows_ 4), .int .i64 (r.2.knows_ 5), .int .i64 (r.2.knows_ 6), .int .i64 (r.2.knows_ 7), .int .i64 (r.2.knows_ 8), .int .i64 (r.2.knows_ 9), .int .i64 (r.2.knows_ 10), .int .i64 (r.2.knows_ 11), .int .i64 (r.2.knows_ 12), .int .i64 (r.2.knows_ 13), .int .i64 (r.2.knows_ 14), .int .i64 (r.2.knows_ 15), .slice x.1 r.2.facts_.length x.2] 60) (J2 45 8 (.slice x.1 r.2.facts_.length x.2) r.2.facts_.length (r.2.facts_.map Jd)))) := by
 refine enter (n := 27) Tryz.func37 rfl rfl rfl S [J0 (Jl pb0 [.int .i64 a0.device_, .int .i64 (a0.knows_ 0), .int .i64 (a0.knows_ 1), .int .i64 (a0.knows_ 2), .int .i64 (a0.knows_ 3), .int .i64 (a0.knows_ 4), .int .i64 (a0.knows_ 5), .int .i64 (a0.knows_ 6), .int .i64 (a0.knows_ 7), .int .i64 (a0.knows_ 8), .int .i64 (a0.knows_ 9), .int .i64 (a0.knows_ 10), .int .i64 (a0.knows_ 11), .int .i64 (a0.knows_ 12), .int .i64 (a0.knows_ 13), .int .i64 (a0.knows_ 14), .int .i64 (a0.knows_ 15), .slice p0_2.1 n0_2 p0_2.2] 60) (J2 45 8 (.slice p0_2.1 n0_2 p0_2.2) n0_2 (a0.facts_.map Jd))] (Sat.one hcs hlt) ?_
 refine Yo 0 rfl ?_
 refine Jf ?_
 refine Jb ?_
 refine Zo (cs := [.int .i64 a1]) rfl rfl rfl rfl (fun b2 => ?_)
 refine Zo (cs := [str a2]) rfl rfl rfl rfl (fun b3 => ?_)
 refine Ja rfl rfl rfl (Jc (v := .int .i64 0) rfl) ?_
 refine Jg ?_
 refine Jf ?_
 refine Jb ?_
 refine Ja rfl rfl rfl (Wp (caps := #[.pointer (some ⟨b2, 0, none⟩), .pointer (some ⟨b3, 0, none⟩)]) rfl) ?_
 refine Ja rfl rfl rfl (Jc (v := .func (.func 60) #[] #[.pointer (some ⟨b2, 0, none⟩), .pointer (some ⟨b3, 0, none⟩)]) rfl) ?_
 refine Jg ?_
 refine Jf ?_
 refine J5 ?_
 refine Jf ?_
 refine Jb ?_
 refine Ja rfl rfl rfl (Je (v := .pointer (some ⟨pb0, 0, none⟩)) rfl) ?_
 refine Jv (i := 2) (v := .int .i64 a1) Tryz.isAgg3 rfl rfl rfl rfl rfl ?_
 obtain ⟨t12, h_t12, H11⟩ := Ji H; clear H
 refine Yv (fun w hF hS => k19 (Jx w) (Zp (i := 1) hn0_2 hS rfl) (Qj (i := 0) hS rfl) h_t12) Tryz.call19 rfl rfl rfl ?_
 refine Ja rfl rfl rfl (Zm rfl) ?_
 refine Ja rfl rfl rfl (Jc (v := .bool (!t12)) rfl) ?_
 refine Jg ?_
 refine Qg (b := (!t12)) rfl (fun hb => ?_) (fun hb => ?_)
 ·have H12 := Jr hb H11; clear H11
  refine Jf ?_
  refine Jb ?_
  refine Ja rfl rfl rfl (Jc (v := .int .i64 7) rfl) ?_
  refine Jg ?_
  refine Jp ?_
  obtain rfl := Option.some.inj H12
  refine Qa 0 1 rfl rfl (by decide) ?_
  refine J3 (v := .int .i64 7) rfl rfl (Yk p0_2 (i := 0) rfl (by first | rfl | rw [(show n0_2 = a0.facts_.length from hn0_2)]) (by first | exact Imp.refl _ | exact Imp.of (by rw [(show n0_2 = a0.facts_.length from hn0_2)])))
 ·have H13 := Jq hb H11; clear H11
  refine Jf ?_
  refine Jb ?_
  refine Jv (i := 3) (v := str a2) Tryz.isAgg9 rfl rfl rfl rfl rfl ?_
  obtain ⟨t16, h_t16, H14⟩ := Ji H13; clear H13
  refine Q5 (k59 h_t16) Tryz.call59 rfl rfl rfl ?_
  refine Ja rfl rfl rfl (Zm rfl) ?_
  refine Ja rfl rfl rfl (Jc (v := .bool (!t16)) rfl) ?_
  refine Jg ?_
  refine Qg (b := (!t16)) rfl (fun hb => ?_) (fun hb => ?_)
  ·have H15 := Jr hb H14; clear H14
   refine Jf ?_
   refine Jb ?_
   refine Ja rfl rfl rfl (Jc (v := .int .i64 3) rfl) ?_
   refine Jg ?_
   refine Jp ?_
   obtain rfl := Option.some.inj H15
   refine Qa 0 1 rfl rfl (by decide) ?_
   refine J3 (v := .int .i64 3) rfl rfl (Yk p0_2 (i := 0) rfl (by first | rfl | rw [(show n0_2 = a0.facts_.length from hn0_2)]) (by first | exact Imp.refl _ | exact Imp.of (by rw [(show n0_2 = a0.facts_.length from hn0_2)])))
  ·have H16 := Jq hb H14; clear H14
   refine Jf ?_
   refine Jb ?_
   refine Ja rfl rfl rfl (Je (v := .pointer (some ⟨pb0, 0, none⟩)) rfl) ?_
   refine Ja rfl rfl rfl (Je (v := .func (.func 60) #[] #[.pointer (some ⟨b2, 0, none⟩), .pointer (some ⟨b3, 0, none⟩)]) rfl) ?_
   obtain ⟨t21, h_t21, H17⟩ := Ji H16; clear H16
   refine Zq (Ql (rds := [0, 1, 2, 3]) (G := fun x : (Option Addr × Nat) => .slice x.1 t21.length x.2) (C := fun x : (Option Addr × Nat) => Jz 45 8 (.slice x.1 t21.length x.2) t21.length (t21.map Jd)) (fun w L' hF hS hi => k49 (Jx w) (Zp (i := 1) hn0_2 hS ((hi 1 (by simp)).trans rfl)) (Qj (i := 0) hS ((hi 0 (by simp)).trans rfl)) (FnH.mk ⟨60, #[], #[.pointer (some ⟨b2, 0, none⟩), .pointer (some ⟨b3, 0, none⟩)], rfl, Tryz.call60, fun args2 post2 w2 hk2 hR2 => by obtain ⟨a0_, r_, rfl, H_, rfl⟩ := hR2; exact k60 (Jx w2) (hk2.up _ _ (Qj (i := 2) hS ((hi 2 (by simp)).trans rfl))) (hk2.up _ _ (Qj (i := 3) hS ((hi 3 (by simp)).trans rfl))) H_⟩) h_t21) Tryz.call49 rfl) rfl rfl rfl (fun p => ?_)
   refine Ja rfl rfl rfl (U5 Tryz.underlying58 rfl) ?_
   refine Ja rfl rfl rfl (Xd rfl rfl) ?_
   refine Ja rfl rfl rfl (Jc (v := .bool (decide ((t21.length : Int) = 0))) rfl) ?_
   refine Jg ?_
   refine Qg (b := (decide ((t21.length : Int) = 0))) rfl (fun hb => ?_) (fun hb => ?_)
   ·have H18 := Jr hb H17; clear H17
    refine Jf ?_
    refine W7 [0, 1, 2, 3, 4] [Jl pb0 [.int .i64 a0.device_, .int .i64 (a0.knows_ 0), .int .i64 (a0.knows_ 1), .int .i64 (a0.knows_ 2), .int .i64 (a0.knows_ 3), .int .i64 (a0.knows_ 4), .int .i64 (a0.knows_ 5), .int .i64 (a0.knows_ 6), .int .i64 (a0.knows_ 7), .int .i64 (a0.knows_ 8), .int .i64 (a0.knows_ 9), .int .i64 (a0.knows_ 10), .int .i64 (a0.knows_ 11), .int .i64 (a0.knows_ 12), .int .i64 (a0.knows_ 13), .int .i64 (a0.knows_ 14), .int .i64 (a0.knows_ 15), .slice p0_2.1 n0_2 p0_2.2] 60, J2 45 8 (.slice p0_2.1 n0_2 p0_2.2) n0_2 (a0.facts_.map Jd), Jl b2 [.int .i64 a1] 3, Jl b3 [str a2] 9, Jz 45 8 (.slice p.1 t21.length p.2) t21.length (t21.map Jd)] rfl (by decide) ?_
    refine Jb ?_
    refine Ja rfl rfl rfl (Jc (v := .int .i64 7) rfl) ?_
    refine Jg ?_
    refine Jp ?_
    obtain rfl := Option.some.inj H18
    refine Qa 0 1 rfl rfl (by decide) ?_
    refine J3 (v := .int .i64 7) rfl rfl (Yk p0_2 (i := 0) rfl (by first | rfl | rw [(show n0_2 = a0.facts_.length from hn0_2)]) (by first | exact Imp.refl _ | exact Imp.of (by rw [(show n0_2 = a0.facts_.length from hn0_2)])))
   ·have H19 := Jq hb H17; clear H17
    refine Jw ?_
    refine Jf ?_
    refine Jb ?_
    refine Ja rfl rfl rfl (Je (v := .pointer (some ⟨pb0, 0, none⟩)) rfl) ?_
    refine Ja rfl rfl rfl (Je (v := .func (.func 60) #[] #[.pointer (some ⟨b2, 0, none⟩), .pointer (some ⟨b3, 0, none⟩)]) rfl) ?_
    obtain ⟨t26, h_t26, H20⟩ := Ji H19; clear H19
    refine Qa 0 1 rfl rfl (by decide) ?_
    refine Q4 (J6 (i := 0) (rds := [2, 3]) (G := fun x : (Option Addr × Nat) => .tuple #[]) (C := fun x : (Option Addr × Nat) => J0 (Jl pb0 [.int .i64 t26.device_, .int .i64 (t26.knows_ 0), .int .i64 (t26.knows_ 1), .int .i64 (t26.knows_ 2), .int .i64 (t26.knows_ 3), .int .i64 (t26.knows_ 4), .int .i64 (t26.knows_ 5), .int .i64 (t26.knows_ 6), .int .i64 (t26.knows_ 7), .int .i64 (t26.knows_ 8), .int .i64 (t26.knows_ 9), .int .i64 (t26.knows_ 10), .int .i64 (t26.knows_ 11), .int .i64 (t26.knows_ 12), .int .i64 (t26.knows_ 13), .int .i64 (t26.knows_ 14), .int .i64 (t26.knows_ 15), .slice x.1 t26.facts_.length x.2] 60) (J2 45 8 (.slice x.1 t26.facts_.length x.2) t26.facts_.length (t26.facts_.map Jd))) rfl (fun w L' S hF hS hi hp hlt ho hA => k20 hp hlt (Qn w S) hn0_2 (FnH.mk ⟨60, #[], #[.pointer (some ⟨b2, 0, none⟩), .pointer (some ⟨b3, 0, none⟩)], rfl, Tryz.call60, fun args2 post2 w2 hk2 hR2 => by obtain ⟨a0_, r_, rfl, H_, rfl⟩ := hR2; exact k60 (Jx w2) (hk2.up _ _ (U9 (j := 2) hA hS (by decide) ((hi 2 (by simp)).trans rfl))) (hk2.up _ _ (U9 (j := 3) hA hS (by decide) ((hi 3 (by simp)).trans rfl))) H_⟩) (FrS.nil _ _) h_t26) Tryz.call20 rfl) rfl rfl rfl (fun p_2 => ?_)
    refine Q0 0 1 rfl rfl (by decide) ?_
    refine Jg ?_
    refine Jf ?_
    refine Jb ?_
    refine Ja rfl rfl rfl (Jc (v := .int .i64 0) rfl) ?_
    refine Jg ?_
    refine Jp ?_
    obtain rfl := Option.some.inj H20
    refine Qa 0 1 rfl rfl (by decide) ?_
    refine J3 (v := .int .i64 0) rfl rfl (Yk p_2 (i := 0) rfl rfl (Imp.refl _))
theorem k84 {a0 : (List T_sync_spot)} {v0 : Value} {a1 : (T_sync_spot → Option (Bool))} {v1 : Value} {r : Int} {w : World} {h : Qd} (hw : Know h w Vd) (f0 : FrS h 2 v0 (a0.map J4)) (f1 : FnH Tryz.prog h v1 (Zb a1)) (H : Zn a0 a1 = some r) : Does Tryz.prog 84 (List.toArray [v0, v1]) w (fun v w' => v = (.int .i64 r) ∧ Grow w w') := by
 refine enter (n := 19) Tryz.func84 rfl rfl rfl Vd [] (Sat.nil _ _) ?_
 refine Jf ?_
 refine Jb ?_
 refine Ja rfl rfl rfl (Jc (v := .int .i64 0) rfl) ?_
 refine Jg ?_
 refine Jf ?_
 refine Jf ?_
 refine Jb ?_
 refine Ja rfl rfl rfl (Je (v := v0) rfl) ?_
 refine Ja rfl rfl rfl (Uh Tryz.underlying89 rfl f0 rfl) ?_
 refine Ja rfl rfl rfl (Je (v := .int .i64 0) rfl) ?_
 refine Jg ?_
 refine J5 ?_
 refine Vn (σ := Int) (τ := Unit) (fun next1 s => Xw a0 a1 next1 s) (fun s t => [(0, v0), (1, v1), (7, .int .i64 (a0.length : Int)), (8, .int .i64 s)]) (fun s t => []) (fun s t => True) 0 () [] H (by exact trivial) (by exact ⟨rfl, rfl, rfl, rfl, trivial⟩) (by decide) rfl ?_
 rintro x8_2 _ m1 gg H9 _
 clear H
 replace H9 : Xw a0 a1 (it (fun next1 s => Xw a0 a1 next1 s) m1) x8_2 = some r := H9
 generalize hn1 : it (fun next1 s => Xw a0 a1 next1 s) m1 = next1 at H9
 refine J8 [(0, v0), (1, v1), (7, .int .i64 (a0.length : Int)), (8, .int .i64 x8_2)] [] rfl rfl ?_
 refine Jf ?_
 refine Jb ?_
 refine Ja rfl rfl rfl (Zd rfl rfl) ?_
 refine Jg ?_
 refine Jf ?_
 refine Qg (b := (decide (x8_2 < (a0.length : Int)))) rfl (fun hb => ?_) (fun hb => ?_)
 ·have H10 := Jr hb H9; clear H9
  refine Jw ?_
  refine Jf ?_
  refine J5 ?_
  refine Jf ?_
  refine Jb ?_
  refine Ja rfl rfl rfl (Je (v := .int .i64 x8_2) rfl) ?_
  refine Ja rfl rfl rfl (Jc (v := .int .i64 x8_2) rfl) ?_
  refine Jg ?_
  refine Jf ?_
  refine Jb ?_
  refine Ja rfl rfl rfl (Je (v := v1) rfl) ?_
  refine Ja rfl rfl rfl (Je (v := v0) rfl) ?_
  refine Ja rfl rfl rfl (Je (v := .int .i64 x8_2) rfl) ?_
  obtain ⟨t14, h_t14, H11⟩ := Ji H10; clear H10
  refine Ja rfl rfl rfl (Z6 Tryz.underlying89 Tryz.sizeOf92 rfl rfl f0 h_t14) ?_
  refine Qo (fun w hF hS => X4 (f := J4) (i := x8_2) (sz := 2) (j := 0) (vs := [.int .i64 t14.id_, .int .i64 t14.at_]) Tryz.isAgg92 Tryz.sizeOf92 rfl rfl (f0.row (hw.now hF)) h_t14 rfl) rfl rfl rfl ?_
  obtain ⟨t16, h_t16, H12⟩ := Ji H11; clear H11
  refine l_callV (R := Zb a1) (r := .bool t16) (v := v1) (fun w hF hS => ⟨(f1.mono (hw.now hF)), ⟨t14, _, rfl, h_t16, rfl⟩⟩) rfl rfl rfl rfl ?_
  refine Jg ?_
  refine Qg (b := t16) rfl (fun hb => ?_) (fun hb => ?_)
  ·have H13 := Jr hb H12; clear H12
   refine Jf ?_
   refine Jb ?_
   refine Ja rfl rfl rfl (Je (v := .int .i64 x8_2) rfl) ?_
   refine Ja rfl rfl rfl (Jc (v := .int .i64 x8_2) rfl) ?_
   refine Jg ?_
   refine Jp ?_
   obtain rfl := Option.some.inj H13
   refine J3 (v := .int .i64 x8_2) rfl rfl (Yd rfl)
  ·have H14 := Jq hb H12; clear H12
   refine Jw ?_
   refine Jb ?_
   obtain ⟨t18, h_t18, H15⟩ := Ji H14; clear H14
   refine Ja rfl rfl rfl (Yj rfl rfl h_t18) ?_
   refine Ja rfl rfl rfl (Je (v := .int .i64 t18) rfl) ?_
   refine Jg ?_
   refine Js t18 () m1 [] (by exact ⟨rfl, rfl, rfl, rfl, trivial⟩) (by decide) rfl (by exact ⟨(by subst hn1; exact H15), trivial⟩) (Nat.lt_succ_self _)
 ·have H16 := Jq hb H9; clear H9
  refine Xi ?_
  refine Jf ?_
  refine Jb ?_
  refine Ja rfl rfl rfl (Jc (v := .int .i64 (-1)) rfl) ?_
  refine Jg ?_
  refine Jp ?_
  obtain rfl := Option.some.inj H16
  refine J3 (v := .int .i64 (-1)) rfl rfl (Yd rfl)
theorem k61 {a0 : (List T_sync_spot)} {p0 : Option Addr × Nat} {n0 : Nat} {a1 : (T_sync_spot → Option (Bool))} {v1 : Value} {r : (List T_sync_spot)} {w : World} {h : Qd} {S : Nat → Prop} (hcs : (Jz 92 2 (.slice p0.1 n0 p0.2) n0 (a0.map J4)).P S w) (hlt : ∀ b, S b → b < w.heap.size) (hw : Know h w S) (hn0 : n0 = a0.length) (f1 : FnH Tryz.prog h v1 (Zb a1)) (H : Zk a0 a1 = some r) : Does Tryz.prog 61 (List.toArray [.slice p0.1 n0 p0.2, v1]) w (fun v w' => ∃ x : (Option Addr × Nat), v = (.slice x.1 r.length x.2) ∧ Turn w w' S (Jz 92 2 (.slice x.1 r.length x.2) r.length (r.map J4))) := by
 refine enter (n := 42) Tryz.func61 rfl rfl rfl S [Jz 92 2 (.slice p0.1 n0 p0.2) n0 (a0.map J4)] (Sat.one hcs hlt) ?_
 refine Jf ?_
 refine Jb ?_
 refine Ja rfl rfl rfl (Jc (v := .slice none 0 0) rfl) ?_
 refine Jg ?_
 refine Jf ?_
 refine Jb ?_
 refine Ja rfl rfl rfl (Je (v := .slice p0.1 n0 p0.2) rfl) ?_
 refine Ja rfl rfl rfl (Je (v := v1) rfl) ?_
 obtain ⟨t10, h_t10, H20⟩ := Ji H; clear H
 refine Yv (fun w hF hS => k84 (Jx w) (frs_own (i := 0) hn0 hS rfl) (f1.mono (hw.now hF)) h_t10) Tryz.call84 rfl rfl rfl ?_
 refine Ja rfl rfl rfl (Jc (v := .int .i64 t10) rfl) ?_
 refine Jg ?_
 refine Jf ?_
 refine Jf ?_
 refine Jb ?_
 refine Ja rfl rfl rfl (Je (v := .int .i64 t10) rfl) ?_
 refine Ja rfl rfl rfl (Xd rfl rfl) ?_
 refine Jg ?_
 refine Qg (b := (decide (t10 = (-1)))) rfl (fun hb => ?_) (fun hb => ?_)
 ·have H21 := Jr hb H20; clear H20
  refine Jf ?_
  refine Jb ?_
  refine Ja rfl rfl rfl (Je (v := .slice p0.1 n0 p0.2) rfl) ?_
  refine Ja rfl rfl rfl (Jc (v := .slice p0.1 n0 p0.2) rfl) ?_
  refine Jg ?_
  refine Jp ?_
  obtain rfl := Option.some.inj H21
  refine J3 (v := .slice p0.1 n0 p0.2) rfl rfl (Yk p0 (i := 0) rfl (by first | rfl | rw [(show n0 = a0.length from hn0)]) (by first | exact Imp.refl _ | exact Imp.of (by rw [(show n0 = a0.length from hn0)])))
 ·have H22 := Jq hb H20; clear H20
  refine Jw ?_
  refine Xu (r := r) (σ := Int × (List T_sync_spot)) (τ := Unit) (fun s => Yw s.1 s.2) (fun s t => [(0, .slice p0.1 n0 p0.2), (5, .int .i64 s.1)]) (fun s t => [Jz 92 2 (.slice p0.1 n0 p0.2) n0 (s.2.map J4)]) (fun s t => n0 = s.2.length) ?_ ?_
  ·refine Jf ?_
   refine Jb ?_
   refine Ja rfl rfl rfl (Je (v := .int .i64 t10) rfl) ?_
   obtain ⟨t15, h_t15, H26⟩ := Ji H22; clear H22
   refine Ja rfl rfl rfl (Yj rfl rfl h_t15) ?_
   refine Ja rfl rfl rfl (Jc (v := .int .i64 t15) rfl) ?_
   refine Jg ?_
   refine J5 ?_
   refine Vn (σ := Int × Int × (List T_sync_spot)) (τ := Unit) (fun next2 s => Qr a1 next2 s.1 s.2.1 s.2.2) (fun s t => [(0, .slice p0.1 n0 p0.2), (1, v1), (5, .int .i64 s.1), (6, .int .i64 s.2.1)]) (fun s t => [Jz 92 2 (.slice p0.1 n0 p0.2) n0 (s.2.2.map J4)]) (fun s t => n0 = s.2.2.length) (t10, t15, a0) () [0] H26 (by exact hn0) (by exact ⟨rfl, rfl, rfl, rfl, trivial⟩) (by decide) rfl ?_
   rintro ⟨x5_3, x6_2, l_3⟩ _ m2 gg H27 hl_3
   clear H26
   replace H27 : Qr a1 (it (fun next2 s => Qr a1 next2 s.1 s.2.1 s.2.2) m2) x5_3 x6_2 l_3 = some r := H27
   generalize hn2 : it (fun next2 s => Qr a1 next2 s.1 s.2.1 s.2.2) m2 = next2 at H27
   refine J8 [(0, .slice p0.1 n0 p0.2), (1, v1), (5, .int .i64 x5_3), (6, .int .i64 x6_2)] [Jz 92 2 (.slice p0.1 n0 p0.2) n0 (l_3.map J4)] rfl rfl ?_
   refine Jf ?_
   refine Jf ?_
   refine Jb ?_
   refine Ja rfl rfl rfl (Je (v := .int .i64 x6_2) rfl) ?_
   refine Ja rfl rfl rfl (Je (v := .slice p0.1 n0 p0.2) rfl) ?_
   refine Ja rfl rfl rfl (r_lenN Tryz.underlying89 rfl hl_3) ?_
   refine Ja rfl rfl rfl (Zd rfl rfl) ?_
   refine Jg ?_
   refine Qg (b := (decide (x6_2 < (l_3.length : Int)))) rfl (fun hb => ?_) (fun hb => ?_)
   ·have H28 := Jr hb H27; clear H27
    refine Jw ?_
    refine Xu (r := r) (σ := Int × (List T_sync_spot)) (τ := Unit) (fun s => Xq x6_2 next2 s.1 s.2) (fun s t => [(0, .slice p0.1 n0 p0.2), (1, v1), (5, .int .i64 s.1), (6, .int .i64 x6_2)]) (fun s t => [Jz 92 2 (.slice p0.1 n0 p0.2) n0 (s.2.map J4)]) (fun s t => n0 = s.2.length) ?_ ?_
    ·refine J5 ?_
     refine Jf ?_
     refine Jb ?_
     refine Ja rfl rfl rfl (Je (v := .slice p0.1 n0 p0.2) rfl) ?_
     refine Ja rfl rfl rfl (Je (v := .int .i64 x6_2) rfl) ?_
     obtain ⟨t24, h_t24, H31⟩ := Ji H28; clear H28
     refine Qo (fun w hF hS => Y2 Tryz.underlying89 Tryz.sizeOf92 rfl rfl (W0 (i := 0) hS rfl) hl_3 h_t24) rfl rfl rfl ?_
     refine Qo (fun w hF hS => X4 (f := J4) (i := x6_2) (sz := 2) (j := 0) (vs := [.int .i64 t24.id_, .int .i64 t24.at_]) Tryz.isAgg92 Tryz.sizeOf92 rfl rfl (W0 (i := 0) hS rfl) h_t24 rfl) rfl rfl rfl ?_
     refine Zv (cs := [.int .i64 0, .int .i64 0]) Tryz.zeroValue92 rfl rfl rfl (fun b1 => ?_)
     refine Xt (i := 1) (vs := [.int .i64 t24.id_, .int .i64 t24.at_]) (cs' := [.int .i64 t24.id_, .int .i64 t24.at_]) Tryz.sizeOf92 rfl rfl rfl rfl rfl rfl rfl rfl rfl ?_
     refine Jg ?_
     refine Jf ?_
     refine Jb ?_
     refine Ja rfl rfl rfl (Je (v := v1) rfl) ?_
     refine Ym (i := 1) (vs := [.int .i64 t24.id_, .int .i64 t24.at_]) Tryz.isAgg92 Tryz.sizeOf92 rfl rfl rfl rfl rfl ?_
     obtain ⟨t28, h_t28, H32⟩ := Ji H31; clear H31
     refine l_callV (R := Zb a1) (r := .bool t28) (v := v1) (fun w hF hS => ⟨(f1.mono (hw.now hF)), ⟨t24, _, rfl, h_t28, rfl⟩⟩) rfl rfl rfl rfl ?_
     refine Ja rfl rfl rfl (Zm rfl) ?_
     refine Jg ?_
     refine Qg (b := (!t28)) rfl (fun hb => ?_) (fun hb => ?_)
     ·have H33 := Jr hb H32; clear H32
      refine Jf ?_
      refine Jb ?_
      refine Ja rfl rfl rfl (Je (v := .slice p0.1 n0 p0.2) rfl) ?_
      refine Ja rfl rfl rfl (Je (v := .int .i64 x5_3) rfl) ?_
      refine Ym (i := 1) (vs := [.int .i64 t24.id_, .int .i64 t24.at_]) Tryz.isAgg92 Tryz.sizeOf92 rfl rfl rfl rfl rfl ?_
      obtain ⟨t33, h_t33, H34⟩ := Ji H33; clear H33
      refine Qo (fun w hF hS => Y2 Tryz.underlying89 Tryz.sizeOf92 rfl rfl (W0 (i := 0) hS rfl) hl_3 h_t33) rfl rfl rfl ?_
      obtain ⟨l0, h_l0, H35⟩ := Ji H34; clear H34
      refine l_storeG (q := 0) (j := 0) (i := x5_3) (sz := 2) (hm := hl_3) (f := J4) (vs := [.int .i64 t24.id_, .int .i64 t24.at_]) Tryz.sizeOf92 rfl rfl rfl rfl rfl rfl rfl rfl rfl (fun y_ hy_ => by first | rfl | (cases hy_.symm.trans h_t33; rfl)) h_l0 ?_
      refine Jg ?_
      refine Jb ?_
      refine Ja rfl rfl rfl (Je (v := .int .i64 x5_3) rfl) ?_
      obtain ⟨t35, h_t35, H36⟩ := Ji H35; clear H35
      refine Ja rfl rfl rfl (Yj rfl rfl h_t35) ?_
      refine Ja rfl rfl rfl (Jc (v := .int .i64 t35) rfl) ?_
      refine Jg ?_
      refine Js (t35, l0) () 0 [0] (by exact ⟨rfl, rfl, rfl, rfl, trivial⟩) (by decide) rfl (by exact ⟨H36, (gSet_n hl_3 h_l0)⟩) (Nat.lt_succ_self _)
     ·have H37 := Jq hb H32; clear H32
      refine Jw ?_
      refine Js (x5_3, l_3) () 0 [0] (by exact ⟨rfl, rfl, rfl, rfl, trivial⟩) (by decide) rfl (by exact ⟨H37, hl_3⟩) (Nat.lt_succ_self _)
    ·rintro ⟨x5_4, l_4⟩ _ gg H29 hl_4
     replace H29 : Xq x6_2 next2 x5_4 l_4 = some r := H29
     refine J8 [(0, .slice p0.1 n0 p0.2), (1, v1), (5, .int .i64 x5_4), (6, .int .i64 x6_2)] [Jz 92 2 (.slice p0.1 n0 p0.2) n0 (l_4.map J4)] rfl rfl ?_
     refine Jb ?_
     refine Ja rfl rfl rfl (Je (v := .int .i64 x6_2) rfl) ?_
     obtain ⟨t21, h_t21, H30⟩ := Ji H29; clear H29
     refine Ja rfl rfl rfl (Yj rfl rfl h_t21) ?_
     refine Ja rfl rfl rfl (Jc (v := .int .i64 t21) rfl) ?_
     refine Jg ?_
     refine Js (x5_4, t21, l_4) () m2 [0] (by exact ⟨rfl, rfl, rfl, rfl, trivial⟩) (by decide) rfl (by exact ⟨(by subst hn2; exact H30), hl_4⟩) (Nat.lt_succ_self _)
   ·have H38 := Jq hb H27; clear H27
    refine Xi ?_
    refine Js (x5_3, l_3) () 0 [0] (by exact ⟨rfl, rfl, trivial⟩) (by decide) rfl (by exact ⟨H38, hl_3⟩) (Nat.lt_succ_self _)
  ·rintro ⟨x5, l⟩ _ gg H23 hl
   replace H23 : Yw x5 l = some r := H23
   refine J8 [(0, .slice p0.1 n0 p0.2), (5, .int .i64 x5)] [Jz 92 2 (.slice p0.1 n0 p0.2) n0 (l.map J4)] rfl rfl ?_
   refine Jf ?_
   refine Jb ?_
   refine Ja rfl rfl rfl (Je (v := .slice p0.1 n0 p0.2) rfl) ?_
   refine Ja rfl rfl rfl (Je (v := .int .i64 x5) rfl) ?_
   obtain ⟨t38, h_t38, H24⟩ := Ji H23; clear H23
   refine Qo (v := .slice (Yq p0.1 (Int.toNat x5) p0.2 2) t38.length (p0.2 - Int.toNat x5)) (fun w hF hS => run_sliceLO (xs := l) Tryz.underlying89 Tryz.sizeOf92 rfl rfl hl (capOf (i := 0) hS rfl) h_t38) rfl rfl rfl ?_
   refine l_turn0 (turns_clearV (i := 0) (rds := []) (f := J4) (z0 := (⟨0, 0⟩ : T_sync_spot)) (ys := l) (a := x5) (q := l.length) hl Tryz.underlying89 Tryz.zeroValue92 rfl (fun _ => rfl) (fun _ => rfl) rfl h_t38 rfl) rfl rfl (fun _ => ?_)
   refine Jg ?_
   refine Jf ?_
   refine Jb ?_
   refine Ja rfl rfl rfl (Je (v := .slice p0.1 n0 p0.2) rfl) ?_
   refine Ja rfl rfl rfl (Je (v := .int .i64 x5) rfl) ?_
   obtain ⟨t41, h_t41, H25⟩ := Ji H24; clear H24
   refine Qo (v := .slice p0.1 t41.length p0.2) (fun w hF hS => run_sliceHO0 (xs := (clrL l x5 l.length (⟨0, 0⟩ : T_sync_spot))) Tryz.underlying89 Tryz.sizeOf92 rfl rfl (clrL_n hl h_t38) (capOf (i := 0) hS rfl) h_t41) rfl rfl rfl ?_
   refine Ja rfl rfl rfl (Jc (v := .slice p0.1 t41.length p0.2) rfl) ?_
   refine Jg ?_
   refine Jp ?_
   refine Ww 0 rfl (imp_shrink (clrL_n hl h_t38) h_t41) ?_
   obtain rfl := Option.some.inj H25
   refine Ww 0 rfl (imp_rowC _ _ _ _ _ _) ?_
   refine J3 (v := .slice p0.1 t41.length p0.2) rfl rfl (Yk p0 (i := 0) rfl rfl (Imp.refl _))
theorem k85 {q0 : (List UInt8)} {c0 : Nat} {a0 : T_sync_Fact} {r : Bool} {w : World} {h : Qd} (hw : Know h w Vd) (hc0 : h c0 = some (.cells (List.toArray [str q0]) 9 (0, 0))) (H : Ui q0 a0 = some r) : Does Tryz.prog 85 (List.toArray [.agg #[.int .i64 a0.Dot.Device, .int .i64 a0.Dot.N, .int .i64 a0.Time, .int .i64 a0.Kind, .int .i64 a0.Id, str a0.Name, .int .i64 a0.Num, str a0.Text], .pointer (some ⟨c0, 0, none⟩)]) w (fun v w' => v = (.bool r) ∧ Grow w w') := by
 refine enter (n := 13) Tryz.func85 rfl rfl rfl Vd [] (Sat.nil _ _) ?_
 refine Jf ?_
 refine Jb ?_
 refine Zo (cs := [.int .i64 a0.Dot.Device, .int .i64 a0.Dot.N, .int .i64 a0.Time, .int .i64 a0.Kind, .int .i64 a0.Id, str a0.Name, .int .i64 a0.Num, str a0.Text]) rfl rfl rfl rfl (fun b1 => ?_)
 refine Ja rfl rfl rfl (Jc (v := .bool false) rfl) ?_
 refine Jg ?_
 refine Jf ?_
 refine Jb ?_
 refine Ja rfl rfl rfl (Jo Tryz.runUnderlying45 rfl Tryz.sizeOf3 rfl rfl) ?_
 refine Jv (i := 0) (v := .int .i64 a0.Kind) Tryz.isAgg3 rfl rfl rfl rfl rfl ?_
 refine Ja rfl rfl rfl (Xd rfl rfl) ?_
 refine Ja rfl rfl rfl (Je (v := .bool (decide (a0.Kind = 6))) rfl) ?_
 refine split (fun hb => ?_) (fun hb => ?_)
 ·have H3 := Jr hb H; clear H
  refine Ja rfl rfl rfl (Jo Tryz.runUnderlying45 rfl Tryz.sizeOf9 rfl rfl) ?_
  refine Jv (i := 0) (v := str a0.Name) Tryz.isAgg9 rfl rfl rfl rfl rfl ?_
  refine Qo (fun w hF hS => Xo (v := str q0) Tryz.isAgg9 rfl (hw.now hF _ _ hc0) rfl) rfl rfl rfl ?_
  refine Ja rfl rfl rfl (r_eqlT rfl rfl) ?_
  refine Ja rfl rfl rfl (J7 (v := .bool (decide (a0.Name = q0))) rfl rfl) ?_
  refine Ja rfl rfl rfl (Jc (v := .bool (decide (a0.Name = q0))) rfl) ?_
  refine Jg ?_
  refine Jp ?_
  obtain rfl := Option.some.inj H3
  refine J3 (v := .bool (decide (a0.Name = q0))) rfl rfl (Yd rfl)
 ·have H4 := Jq hb H; clear H
  refine Jk rfl rfl rfl ?_
  refine Jk rfl rfl rfl ?_
  refine Jk rfl rfl rfl ?_
  refine Jk rfl rfl rfl ?_
  refine Ja rfl rfl rfl (J1 (v := .bool false) rfl rfl) ?_
  refine Ja rfl rfl rfl (Jc (v := .bool false) rfl) ?_
  refine Jg ?_
  refine Jp ?_
  obtain rfl := Option.some.inj H4
  refine J3 (v := .bool false) rfl rfl (Yd rfl)
theorem k86 {q0 : T_sync_Fact} {c0 : Nat} {a0 : T_sync_Fact} {r : Bool} {w : World} {h : Qd} (hw : Know h w Vd) (hc0 : h c0 = some (.cells (List.toArray [.int .i64 q0.Dot.Device, .int .i64 q0.Dot.N, .int .i64 q0.Time, .int .i64 q0.Kind, .int .i64 q0.Id, str q0.Name, .int .i64 q0.Num, str q0.Text]) 45 (0, 0))) (H : Uk q0 a0 = some r) : Does Tryz.prog 86 (List.toArray [.agg #[.int .i64 a0.Dot.Device, .int .i64 a0.Dot.N, .int .i64 a0.Time, .int .i64 a0.Kind, .int .i64 a0.Id, str a0.Name, .int .i64 a0.Num, str a0.Text], .pointer (some ⟨c0, 0, none⟩)]) w (fun v w' => v = (.bool r) ∧ Grow w w') := by
 refine enter (n := 7) Tryz.func86 rfl rfl rfl Vd [] (Sat.nil _ _) ?_
 refine Jf ?_
 refine Jb ?_
 refine Zo (cs := [.int .i64 a0.Dot.Device, .int .i64 a0.Dot.N, .int .i64 a0.Time, .int .i64 a0.Kind, .int .i64 a0.Id, str a0.Name, .int .i64 a0.Num, str a0.Text]) rfl rfl rfl rfl (fun b1 => ?_)
 refine Ja rfl rfl rfl (Jc (v := .bool false) rfl) ?_
 refine Jg ?_
 refine Jf ?_
 refine Jb ?_
 refine Qo (fun w hF hS => run_loadKN (vs := [.int .i64 q0.Dot.Device, .int .i64 q0.Dot.N, .int .i64 q0.Time, .int .i64 q0.Kind, .int .i64 q0.Id, str q0.Name, .int .i64 q0.Num, str q0.Text]) Tryz.isAgg45 Tryz.sizeOf45 rfl (hw.now hF _ _ hc0) rfl) rfl rfl rfl ?_
 refine Ym (i := 0) (vs := [.int .i64 a0.Dot.Device, .int .i64 a0.Dot.N, .int .i64 a0.Time, .int .i64 a0.Kind, .int .i64 a0.Id, str a0.Name, .int .i64 a0.Num, str a0.Text]) Tryz.isAgg45 Tryz.sizeOf45 rfl rfl rfl rfl rfl ?_
 obtain ⟨t6, h_t6, H2⟩ := Ji H; clear H
 refine Q5 (k80 h_t6) Tryz.call80 rfl rfl rfl ?_
 refine Ja rfl rfl rfl (Jc (v := .bool t6) rfl) ?_
 refine Jg ?_
 refine Jp ?_
 obtain rfl := Option.some.inj H2
 refine J3 (v := .bool t6) rfl rfl (Yd rfl)
theorem k87 {a0 : (List T_sync_spot)} {p0 : Option Addr × Nat} {n0 : Nat} {r : (List T_sync_spot)} {w : World} {h : Qd} {S : Nat → Prop} (hcs : (Jz 92 2 (.slice p0.1 n0 p0.2) n0 (a0.map J4)).P S w) (hlt : ∀ b, S b → b < w.heap.size) (_ : Know h w S) (hn0 : n0 = a0.length) (H : gSortF a0 Xa = some r) : Does Tryz.prog 87 (List.toArray [.slice p0.1 n0 p0.2, .func (.func 88) #[] #[]]) w (fun v w' => ∃ x : Unit, v = (.tuple #[]) ∧ Turn w w' S (Jz 92 2 (.slice p0.1 n0 p0.2) n0 (r.map J4))) :=
  sort_func (ρ := Go.Proofs.Tryz.sortFS_ren) Go.Proofs.Tryz.sortFS (k := 2) (fun w => Tryz.isAgg92 w) (fun w => Tryz.sizeOf92 w) J4 (fun _ => rfl) (fun x v hv => by simp [J4] at hv; rcases hv with rfl | rfl <;> rfl) Go.Proofs.Tryz.entersS (fun x y v W hv => Go.Proofs.Tryz.cmpS x y v W hv) hcs hlt hn0 H
theorem k62 {a0 : T_sync_Replica} {v0_2 : Value} {pb0 : Nat} {a1 : (List UInt8)} {r : (List T_sync_spot)} {w : World} {h : Qd} (hw : Know h w Vd) (f0_2 : FrS h 8 v0_2 (a0.facts_.map Jd)) (hb0 : h pb0 = some (.cells (List.toArray [.int .i64 a0.device_, .int .i64 (a0.knows_ 0), .int .i64 (a0.knows_ 1), .int .i64 (a0.knows_ 2), .int .i64 (a0.knows_ 3), .int .i64 (a0.knows_ 4), .int .i64 (a0.knows_ 5), .int .i64 (a0.knows_ 6), .int .i64 (a0.knows_ 7), .int .i64 (a0.knows_ 8), .int .i64 (a0.knows_ 9), .int .i64 (a0.knows_ 10), .int .i64 (a0.knows_ 11), .int .i64 (a0.knows_ 12), .int .i64 (a0.knows_ 13), .int .i64 (a0.knows_ 14), .int .i64 (a0.knows_ 15), v0_2]) 60 (0, 0))) (H : Z4 a0 a1 = some r) : Does Tryz.prog 62 (List.toArray [.pointer (some ⟨pb0, 0, none⟩), str a1]) w (fun v w' => ∃ x : (Option Addr × Nat), v = (.slice x.1 r.length x.2) ∧ Turn w w' Vd (Jz 92 2 (.slice x.1 r.length x.2) r.length (r.map J4))) := by
 refine enter (n := 56) Tryz.func62 rfl rfl rfl Vd [] (Sat.nil _ _) ?_
 refine Jf ?_
 refine Jb ?_
 refine Zo (cs := [str a1]) rfl rfl rfl rfl (fun b3 => ?_)
 refine Ja rfl rfl rfl (Jc (v := .slice none 0 0) rfl) ?_
 refine Jg ?_
 refine Jf ?_
 refine Jb ?_
 refine Ja rfl rfl rfl (Jc (v := .slice none 0 0) rfl) ?_
 refine Jg ?_
 refine Xu (r := r) (σ := (List T_sync_spot)) (τ := (Option Addr × Nat)) (fun s => Vw s) (fun s t => [(5, .slice t.1 s.length t.2)]) (fun s t => [Jz 92 2 (.slice t.1 s.length t.2) s.length (s.map J4)]) (fun s t => True) ?_ ?_
 ·refine Jf ?_
  refine Jb ?_
  refine Ja rfl rfl rfl (Je (v := .pointer (some ⟨pb0, 0, none⟩)) rfl) ?_
  refine Ja rfl rfl rfl (Wp (caps := #[.pointer (some ⟨b3, 0, none⟩)]) rfl) ?_
  obtain ⟨t12, h_t12, H25⟩ := Ji H; clear H
  refine Zq (Ql (rds := [0]) (G := fun x : (Option Addr × Nat) => .slice x.1 t12.length x.2) (C := fun x : (Option Addr × Nat) => Jz 45 8 (.slice x.1 t12.length x.2) t12.length (t12.map Jd)) (fun w L' hF hS hi => k49 (Jx w) (f0_2.mono (hw.now hF)) (hw.now hF _ _ hb0) (FnH.mk ⟨85, #[], #[.pointer (some ⟨b3, 0, none⟩)], rfl, Tryz.call85, fun args2 post2 w2 hk2 hR2 => by obtain ⟨a0_, r_, rfl, H_, rfl⟩ := hR2; exact k85 (Jx w2) (hk2.up _ _ (Qj (i := 0) hS ((hi 0 (by simp)).trans rfl))) H_⟩) h_t12) Tryz.call49 rfl) rfl rfl rfl (fun p_2 => ?_)
  refine Ja rfl rfl rfl (U5 Tryz.underlying58 rfl) ?_
  refine Ja rfl rfl rfl (Je (v := .int .i64 0) rfl) ?_
  refine Jg ?_
  refine J5 ?_
  refine W7 [1] [Jz 45 8 (.slice p_2.1 t12.length p_2.2) t12.length (t12.map Jd)] rfl (by decide) ?_
  refine c_nilRow 92 2 ?_
  refine Vn (σ := Int × (List T_sync_spot)) (τ := (Option Addr × Nat)) (fun next2 s => Yb a0 t12 next2 s.1 s.2) (fun s t => [(0, .pointer (some ⟨pb0, 0, none⟩)), (5, .slice t.1 s.2.length t.2), (12, .slice p_2.1 t12.length p_2.2), (13, .int .i64 (t12.length : Int)), (14, .int .i64 s.1)]) (fun s t => [Jz 45 8 (.slice p_2.1 t12.length p_2.2) t12.length (t12.map Jd), Jz 92 2 (.slice t.1 s.2.length t.2) s.2.length (s.2.map J4)]) (fun s t => True) (0, ([] : List T_sync_spot)) ((none, 0) : Option Addr × Nat) [0, 1] H25 (by exact trivial) (by exact ⟨rfl, rfl, rfl, rfl, rfl, trivial⟩) (by decide) rfl ?_
  rintro ⟨x14_2, l_3⟩ p_3 m2 gg H26 _
  clear H25
  replace H26 : Yb a0 t12 (it (fun next2 s => Yb a0 t12 next2 s.1 s.2) m2) x14_2 l_3 = some r := H26
  generalize hn2 : it (fun next2 s => Yb a0 t12 next2 s.1 s.2) m2 = next2 at H26
  refine J8 [(0, .pointer (some ⟨pb0, 0, none⟩)), (5, .slice p_3.1 l_3.length p_3.2), (12, .slice p_2.1 t12.length p_2.2), (13, .int .i64 (t12.length : Int)), (14, .int .i64 x14_2)] [Jz 45 8 (.slice p_2.1 t12.length p_2.2) t12.length (t12.map Jd), Jz 92 2 (.slice p_3.1 l_3.length p_3.2) l_3.length (l_3.map J4)] rfl rfl ?_
  refine Jf ?_
  refine Jb ?_
  refine Ja rfl rfl rfl (Zd rfl rfl) ?_
  refine Jg ?_
  refine Jf ?_
  refine Qg (b := (decide (x14_2 < (t12.length : Int)))) rfl (fun hb => ?_) (fun hb => ?_)
  ·have H27 := Jr hb H26; clear H26
   refine Jw ?_
   refine Xu (r := r) (σ := (List T_sync_spot)) (τ := (Option Addr × Nat)) (fun s => Xl x14_2 next2 s) (fun s t => [(0, .pointer (some ⟨pb0, 0, none⟩)), (5, .slice t.1 s.length t.2), (12, .slice p_2.1 t12.length p_2.2), (13, .int .i64 (t12.length : Int)), (14, .int .i64 x14_2)]) (fun s t => [Jz 45 8 (.slice p_2.1 t12.length p_2.2) t12.length (t12.map Jd), Jz 92 2 (.slice t.1 s.length t.2) s.length (s.map J4)]) (fun s t => True) ?_ ?_
   ·refine J5 ?_
    refine Jf ?_
    refine Jb ?_
    obtain ⟨t16, h_t16, H30⟩ := Ji H27; clear H27
    refine Qo (fun w hF hS => Y2 Tryz.underlying58 Tryz.sizeOf45 rfl rfl (W0 (i := 0) hS rfl) rfl h_t16) rfl rfl rfl ?_
    refine Qo (fun w hF hS => X4 (f := Jd) (i := x14_2) (sz := 8) (j := 0) (vs := [.int .i64 t16.Dot.Device, .int .i64 t16.Dot.N, .int .i64 t16.Time, .int .i64 t16.Kind, .int .i64 t16.Id, str t16.Name, .int .i64 t16.Num, str t16.Text]) Tryz.isAgg45 Tryz.sizeOf45 rfl rfl (W0 (i := 0) hS rfl) h_t16 rfl) rfl rfl rfl ?_
    refine Zv (cs := [.int .i64 0, .int .i64 0, .int .i64 0, .int .i64 0, .int .i64 0, str [], .int .i64 0, str []]) Tryz.zeroValue45 rfl rfl rfl (fun b4 => ?_)
    refine Xt (i := 2) (vs := [.int .i64 t16.Dot.Device, .int .i64 t16.Dot.N, .int .i64 t16.Time, .int .i64 t16.Kind, .int .i64 t16.Id, str t16.Name, .int .i64 t16.Num, str t16.Text]) (cs' := [.int .i64 t16.Dot.Device, .int .i64 t16.Dot.N, .int .i64 t16.Time, .int .i64 t16.Kind, .int .i64 t16.Id, str t16.Name, .int .i64 t16.Num, str t16.Text]) Tryz.sizeOf45 rfl rfl rfl rfl rfl rfl rfl rfl rfl ?_
    refine Jg ?_
    refine Xu (r := r) (σ := Bool × Bool) (τ := Unit) (fun s => Y5 a0 x14_2 l_3 next2 t16 s.1 s.2) (fun s t => [(0, .pointer (some ⟨pb0, 0, none⟩)), (5, .slice p_3.1 l_3.length p_3.2), (7, .pointer (some ⟨b4, 0, none⟩)), (12, .slice p_2.1 t12.length p_2.2), (13, .int .i64 (t12.length : Int)), (14, .int .i64 x14_2), (26, .int .i64 (l_3.length : Int)), (27, .bool (decide (0 < (l_3.length : Int)))), (28, .bool s.1), (38, .bool s.2)]) (fun s t => [Jz 45 8 (.slice p_2.1 t12.length p_2.2) t12.length (t12.map Jd), Jz 92 2 (.slice p_3.1 l_3.length p_3.2) l_3.length (l_3.map J4), Jl b4 [.int .i64 t16.Dot.Device, .int .i64 t16.Dot.N, .int .i64 t16.Time, .int .i64 t16.Kind, .int .i64 t16.Id, str t16.Name, .int .i64 t16.Num, str t16.Text] 45]) (fun s t => True) ?_ ?_
    ·refine Jf ?_
     refine Jb ?_
     refine Ja rfl rfl rfl (Je (v := .slice p_3.1 l_3.length p_3.2) rfl) ?_
     refine Ja rfl rfl rfl (U5 Tryz.underlying89 rfl) ?_
     refine Ja rfl rfl rfl (Jc (v := .int .i64 (l_3.length : Int)) rfl) ?_
     refine Jg ?_
     refine Jf ?_
     exact Yl (Kd.p :: Kd.p :: Kd.d [2] _ :: Kd.d [] _ :: Kd.p :: Kd.p :: Kd.p :: Kd.p :: Kd.p :: Kd.p :: Kd.p :: Kd.p :: Kd.d [1] _ :: Kd.d [1] _ :: Kd.d [1] _ :: Kd.p :: Kd.d [2] _ :: Kd.p :: Kd.p :: Kd.p :: []) 0 mixed (by
      refine Jt rfl rfl (Je (v := .pointer (some ⟨pb0, 0, none⟩)) rfl) ?_
      refine Jt rfl rfl (Jo Tryz.runUnderlying45 rfl Tryz.sizeOf3 rfl rfl) ?_
      refine Yn (i := 2) (v := .int .i64 t16.Id) Tryz.isAgg3 rfl rfl rfl rfl ?_
      have h_t23 := Qq H30
      have H35 := Qi H30
      refine d_callD (fun w L' hF hS hi => k19 (Jx w) (f0_2.mono (hw.now hF)) (hw.now hF _ _ hb0) h_t23) Tryz.call19 rfl rfl ?_
      refine Jt rfl rfl (Zm rfl) ?_
      refine Jt rfl rfl (Je (v := .bool (!(val (X0 a0 t16.Id)))) rfl) ?_
      refine splitS (fun hb => ?_) (fun hb => ?_)
      ·have H36 := Jr hb H35
       refine Qw rfl rfl ?_
       refine Qw rfl rfl ?_
       refine Qw rfl rfl ?_
       refine Qw rfl rfl ?_
       refine Qw rfl rfl ?_
       refine Qw rfl rfl ?_
       refine Qw rfl rfl ?_
       refine Qw rfl rfl ?_
       refine Qw rfl rfl ?_
       refine Qw rfl rfl ?_
       refine Qw rfl rfl ?_
       refine Qw rfl rfl ?_
       refine Qw rfl rfl ?_
       refine Jt rfl rfl (J7 (v := .bool true) rfl rfl) ?_
       refine Wr ?_
       refine U3 rfl ?_
       refine Xi ?_
       refine Js l_3 p_3 0 [0, 1] (by exact ⟨rfl, rfl, rfl, rfl, rfl, trivial⟩) (by decide) rfl (by exact ⟨H36, trivial⟩) (Nat.lt_succ_self _)
      ·have H37 := Jq hb H35
       refine Jt rfl rfl (Je (v := .int .i64 (l_3.length : Int)) rfl) ?_
       refine Jt rfl rfl (r_gtr rfl rfl) ?_
       refine Jt rfl rfl (Je (v := .bool (decide (0 < (l_3.length : Int)))) rfl) ?_
       refine splitS (fun hb => ?_) (fun hb => ?_)
       ·have H38 := Jr hb H37
        refine Jt rfl rfl (Je (v := .slice p_3.1 l_3.length p_3.2) rfl) ?_
        refine Jt rfl rfl (Je (v := .int .i64 (l_3.length : Int)) rfl) ?_
        have h_t31 := Qq H38
        have H39 := Qi H38
        refine Jt rfl rfl (r_subG rfl rfl h_t31) ?_
        have h_t32 := Qq H39
        have H40 := Qi H39
        refine Jaf (fun w L' hF hS hi => Y2 Tryz.underlying89 Tryz.sizeOf92 rfl rfl (W0 (i := 1) (E := 92) (sz := 2) (n := l_3.length) (a := p_3.1) (c := p_3.2) hS ((hi 1 (by simp)).trans rfl)) rfl h_t32) rfl rfl ?_
        refine d_readE rfl rfl (fun w L' hF hS hi => run_fieldG Tryz.runUnderlying92 rfl Tryz.sizeOf3 rfl rfl (W0 (i := 1) (E := 92) (sz := 2) (n := l_3.length) (a := p_3.1) (c := p_3.2) hS ((hi 1 (by simp)).trans rfl)) h_t32) ?_
        refine Jaf (fun w L' hF hS hi => Wh (f := J4) (i := (val (gI ((l_3.length : Int) - 1)))) (sz := 2) (j := 0) (v := .int .i64 (val (Q1 l_3 (val (gI ((l_3.length : Int) - 1))))).id_) Tryz.isAgg3 rfl rfl (W0 (i := 1) (E := 92) (sz := 2) (n := l_3.length) (a := p_3.1) (c := p_3.2) hS ((hi 1 (by simp)).trans rfl)) h_t32 rfl) rfl rfl ?_
        refine Jt rfl rfl (Jo Tryz.runUnderlying45 rfl Tryz.sizeOf3 rfl rfl) ?_
        refine Yn (i := 2) (v := .int .i64 t16.Id) Tryz.isAgg3 rfl rfl rfl rfl ?_
        refine Jt rfl rfl (Xd rfl rfl) ?_
        refine Jt rfl rfl (J7 (v := .bool (decide ((val (Q1 l_3 (val (gI ((l_3.length : Int) - 1))))).id_ = t16.Id))) rfl rfl) ?_
        refine Jt rfl rfl (J1 (v := .bool (decide ((val (Q1 l_3 (val (gI ((l_3.length : Int) - 1))))).id_ = t16.Id))) rfl rfl) ?_
        refine Wr ?_
        refine Qg (b := (decide ((val (Q1 l_3 (val (gI ((l_3.length : Int) - 1))))).id_ = t16.Id))) rfl (fun hb => ?_) (fun hb => ?_)
        ·have H41 := Jr hb H40; clear H40
         refine Xi ?_
         refine Js l_3 p_3 0 [0, 1] (by exact ⟨rfl, rfl, rfl, rfl, rfl, trivial⟩) (by decide) rfl (by exact ⟨H41, trivial⟩) (Nat.lt_succ_self _)
        ·have H42 := Jq hb H40; clear H40
         refine Jw ?_
         refine Js (true, (decide ((val (Q1 l_3 (val (gI ((l_3.length : Int) - 1))))).id_ = t16.Id))) () 0 [0, 1, 2] (by exact ⟨rfl, rfl, rfl, rfl, rfl, rfl, rfl, rfl, rfl, rfl, trivial⟩) (by decide) rfl (by exact ⟨H42, trivial⟩) (Nat.lt_succ_self _)
       ·have H43 := Jq hb H37
        refine Qw rfl rfl ?_
        refine Qw rfl rfl ?_
        refine Qw rfl rfl ?_
        refine Qw rfl rfl ?_
        refine Qw rfl rfl ?_
        refine Qw rfl rfl ?_
        refine Qw rfl rfl ?_
        refine Qw rfl rfl ?_
        refine Qw rfl rfl ?_
        refine Jt rfl rfl (J1 (v := .bool false) rfl rfl) ?_
        refine Jt rfl rfl (J1 (v := .bool false) rfl rfl) ?_
        refine Wr ?_
        refine Jab rfl ?_
        refine Jw ?_
        refine Js (false, false) () 0 [0, 1, 2] (by exact ⟨rfl, rfl, rfl, rfl, rfl, rfl, rfl, rfl, rfl, rfl, trivial⟩) (by decide) rfl (by exact ⟨H43, trivial⟩) (Nat.lt_succ_self _)
      ) (by kernel_rfl)
    ·rintro ⟨x28, x38⟩ _ gg H31 _
     replace H31 : Y5 a0 x14_2 l_3 next2 t16 x28 x38 = some r := H31
     refine J8 [(0, .pointer (some ⟨pb0, 0, none⟩)), (5, .slice p_3.1 l_3.length p_3.2), (7, .pointer (some ⟨b4, 0, none⟩)), (12, .slice p_2.1 t12.length p_2.2), (13, .int .i64 (t12.length : Int)), (14, .int .i64 x14_2), (26, .int .i64 (l_3.length : Int)), (27, .bool (decide (0 < (l_3.length : Int)))), (28, .bool x28), (38, .bool x38)] [Jz 45 8 (.slice p_2.1 t12.length p_2.2) t12.length (t12.map Jd), Jz 92 2 (.slice p_3.1 l_3.length p_3.2) l_3.length (l_3.map J4), Jl b4 [.int .i64 t16.Dot.Device, .int .i64 t16.Dot.N, .int .i64 t16.Time, .int .i64 t16.Kind, .int .i64 t16.Id, str t16.Name, .int .i64 t16.Num, str t16.Text] 45] rfl rfl ?_
     refine Jf ?_
     refine Jb ?_
     refine Ja rfl rfl rfl (Je (v := .pointer (some ⟨pb0, 0, none⟩)) rfl) ?_
     refine Ja rfl rfl rfl (Wp (caps := #[.pointer (some ⟨b4, 0, none⟩)]) rfl) ?_
     obtain ⟨t42, h_t42, H32⟩ := Ji H31; clear H31
     refine Zq (Ql (rds := [2]) (G := fun x : (Option Addr × Nat) => .slice x.1 t42.length x.2) (C := fun x : (Option Addr × Nat) => Jz 45 8 (.slice x.1 t42.length x.2) t42.length (t42.map Jd)) (fun w L' hF hS hi => k49 (Jx w) (f0_2.mono (hw.now hF)) (hw.now hF _ _ hb0) (FnH.mk ⟨86, #[], #[.pointer (some ⟨b4, 0, none⟩)], rfl, Tryz.call86, fun args2 post2 w2 hk2 hR2 => by obtain ⟨a0_, r_, rfl, H_, rfl⟩ := hR2; exact k86 (Jx w2) (hk2.up _ _ (Qj (i := 2) hS ((hi 2 (by simp)).trans rfl))) H_⟩) h_t42) Tryz.call49 rfl) rfl rfl rfl (fun p_5 => ?_)
     refine Ja rfl rfl rfl (Jc (v := .slice p_5.1 t42.length p_5.2) rfl) ?_
     refine Jg ?_
     exact Yl (Kd.p :: Kd.p :: Kd.d [2] _ :: Kd.p :: Kd.d [3] _ :: Kd.p :: Kd.p :: Kd.ns 4 [_, _] 92 1 :: Kd.t 1 [4] _ _ :: Kd.p :: []) 1 mixed (by
      refine Jt rfl rfl (Je (v := .slice p_3.1 l_3.length p_3.2) rfl) ?_
      refine Jt rfl rfl (Jo Tryz.runUnderlying45 rfl Tryz.sizeOf3 rfl rfl) ?_
      refine Yn (i := 2) (v := .int .i64 t16.Id) Tryz.isAgg3 rfl rfl rfl rfl ?_
      refine Jt rfl rfl (Je (v := .slice p_5.1 t42.length p_5.2) rfl) ?_
      have h_t47 := Qq H32
      have H33 := Qi H32
      refine d_callD (fun w L' hF hS hi => k25 (Jx w) (frs_own (i := 3) rfl hS ((hi 3 (by simp)).trans rfl)) h_t47) Tryz.call25 rfl rfl ?_
      refine Jt rfl rfl (r_fieldV (v := .int .i64 (val (Qu t42)).Num) Tryz.runUnderlying45 Tryz.isAgg3 rfl rfl rfl) ?_
      refine Jt rfl rfl (W4 (pl := #[(0, 1), (1, 1)]) (ps := [(0, .int .i64 t16.Id), (1, .int .i64 (val (Qu t42)).Num)]) (cells := #[.int .i64 t16.Id, .int .i64 (val (Qu t42)).Num]) Tryz.zeroValue92 Tryz.runUnderlying92 (fun w => by kernel_rfl) rfl rfl) ?_
      refine d_newS rfl rfl (Uo (vs := [.agg #[.int .i64 t16.Id, .int .i64 (val (Qu t42)).Num]]) (cs := [.int .i64 t16.Id, .int .i64 (val (Qu t42)).Num]) Tryz.underlying89 Tryz.sizeOf92 Tryz.zeroValue92 rfl rfl rfl rfl rfl) rfl (fun b5 => ?_)
      have h_l51 := Qq H33
      have H34 := Qi H33
      refine d_turn (Cv := fun v => Jz 92 2 v (val (gApp 16 l_3 ([(⟨t16.Id, (val (Qu t42)).Num⟩ : T_sync_spot)] : List T_sync_spot))).length ((val (gApp 16 l_3 ([(⟨t16.Id, (val (Qu t42)).Num⟩ : T_sync_spot)] : List T_sync_spot))).map J4)) (none, 0) (Wi (i := 1) (hn := rfl) (rds := [4]) (p := p_3) (sz := 2) (by_ := 16) (f := J4) (ys := l_3) (ls := ([(⟨t16.Id, (val (Qu t42)).Num⟩ : T_sync_spot)] : List T_sync_spot)) (V := .slice (some ⟨b5, 0, none⟩) 1 1) Tryz.underlying89 (Jae Tryz.typeInfo92) rfl rfl rfl rfl rfl rfl rfl rfl rfl rfl (fun w L' hF hS hi => row_box (i := 4) hS ((hi 4 (by simp)).trans rfl) rfl rfl) (fun _ => rfl) (fun _ => rfl) h_l51) (fun _ => rfl) rfl rfl (fun p_6 => ?_)
      refine Jt rfl rfl (Jc (v := .slice p_6.1 (val (gApp 16 l_3 ([(⟨t16.Id, (val (Qu t42)).Num⟩ : T_sync_spot)] : List T_sync_spot))).length p_6.2) rfl) ?_
      refine Wr ?_
      refine Js (val (gApp 16 l_3 ([(⟨t16.Id, (val (Qu t42)).Num⟩ : T_sync_spot)] : List T_sync_spot))) p_6 0 [0, 1] (by exact ⟨rfl, rfl, rfl, rfl, rfl, trivial⟩) (by decide) rfl (by exact ⟨H34, trivial⟩) (Nat.lt_succ_self _)
      ) (by kernel_rfl)
   ·rintro l_4 p_4 gg H28 _
    replace H28 : Xl x14_2 next2 l_4 = some r := H28
    refine J8 [(0, .pointer (some ⟨pb0, 0, none⟩)), (5, .slice p_4.1 l_4.length p_4.2), (12, .slice p_2.1 t12.length p_2.2), (13, .int .i64 (t12.length : Int)), (14, .int .i64 x14_2)] [Jz 45 8 (.slice p_2.1 t12.length p_2.2) t12.length (t12.map Jd), Jz 92 2 (.slice p_4.1 l_4.length p_4.2) l_4.length (l_4.map J4)] rfl rfl ?_
    refine Jb ?_
    obtain ⟨t52, h_t52, H29⟩ := Ji H28; clear H28
    refine Ja rfl rfl rfl (Yj rfl rfl h_t52) ?_
    refine Ja rfl rfl rfl (Je (v := .int .i64 t52) rfl) ?_
    refine Jg ?_
    refine Js (t52, l_4) p_4 m2 [0, 1] (by exact ⟨rfl, rfl, rfl, rfl, rfl, trivial⟩) (by decide) rfl (by exact ⟨(by subst hn2; exact H29), trivial⟩) (Nat.lt_succ_self _)
  ·have H44 := Jq hb H26; clear H26
   refine Xi ?_
   refine Js l_3 p_3 0 [1] (by exact ⟨rfl, trivial⟩) (by decide) rfl (by exact ⟨H44, trivial⟩) (Nat.lt_succ_self _)
 ·rintro l p gg H23 _
  replace H23 : Vw l = some r := H23
  refine J8 [(5, .slice p.1 l.length p.2)] [Jz 92 2 (.slice p.1 l.length p.2) l.length (l.map J4)] rfl rfl ?_
  refine Jf ?_
  refine Jb ?_
  refine Ja rfl rfl rfl (Je (v := .slice p.1 l.length p.2) rfl) ?_
  obtain ⟨t54, h_t54, H24⟩ := Ji H23; clear H23
  refine Q4 (J6 (i := 0) (rds := []) (G := fun x : Unit => .tuple #[]) (C := fun x : Unit => Jz 92 2 (.slice p.1 l.length p.2) l.length (t54.map J4)) rfl (fun w L' S hF hS hi hp hlt ho hA => k87 hp hlt (Qn w S) rfl h_t54) Tryz.call87 rfl) rfl rfl rfl (fun _ => ?_)
  refine c_know (fun w hF hS => lenOf (i := 0) hS rfl) (fun hl_ => ?_)
  have hl : l.length = t54.length := by simpa using hl_.symm
  refine Jg ?_
  refine Jf ?_
  refine Jb ?_
  refine Ja rfl rfl rfl (Je (v := .slice p.1 l.length p.2) rfl) ?_
  refine Ja rfl rfl rfl (Jc (v := .slice p.1 l.length p.2) rfl) ?_
  refine Jg ?_
  refine Jp ?_
  obtain rfl := Option.some.inj H24
  refine J3 (v := .slice p.1 l.length p.2) rfl rfl (Yk p (i := 0) rfl (by first | rfl | rw [(show l.length = t54.length from hl)]) (by first | exact Imp.refl _ | exact Imp.of (by rw [(show l.length = t54.length from hl)])))
theorem k63 {q0 : Int} {c0 : Nat} {a0 : T_sync_spot} {r : Bool} {w : World} {h : Qd} (hw : Know h w Vd) (hc0 : h c0 = some (.cells (List.toArray [.int .i64 q0]) 3 (0, 0))) (H : Jag q0 a0 = some r) : Does Tryz.prog 63 (List.toArray [.agg #[.int .i64 a0.id_, .int .i64 a0.at_], .pointer (some ⟨c0, 0, none⟩)]) w (fun v w' => v = (.bool r) ∧ Grow w w') := by
 refine enter (n := 8) Tryz.func63 rfl rfl rfl Vd [] (Sat.nil _ _) ?_
 refine Jf ?_
 refine Jb ?_
 refine Zo (cs := [.int .i64 a0.id_, .int .i64 a0.at_]) rfl rfl rfl rfl (fun b1 => ?_)
 refine Ja rfl rfl rfl (Jc (v := .bool false) rfl) ?_
 refine Jg ?_
 refine Jf ?_
 refine Jb ?_
 refine Ja rfl rfl rfl (Jo Tryz.runUnderlying92 rfl Tryz.sizeOf3 rfl rfl) ?_
 refine Jv (i := 0) (v := .int .i64 a0.id_) Tryz.isAgg3 rfl rfl rfl rfl rfl ?_
 refine Qo (fun w hF hS => Xo (v := .int .i64 q0) Tryz.isAgg3 rfl (hw.now hF _ _ hc0) rfl) rfl rfl rfl ?_
 refine Ja rfl rfl rfl (Xd rfl rfl) ?_
 refine Ja rfl rfl rfl (Jc (v := .bool (decide (a0.id_ = q0))) rfl) ?_
 refine Jg ?_
 refine Jp ?_
 obtain rfl := Option.some.inj H
 refine J3 (v := .bool (decide (a0.id_ = q0))) rfl rfl (Yd rfl)
theorem k64 {a0 : (List T_sync_spot)} {v0 : Value} {a1 : Int} {r : Int × Bool} {w : World} {h : Qd} (hw : Know h w Vd) (f0 : FrS h 2 v0 (a0.map J4)) (H : Jaw a0 a1 = some r) : Does Tryz.prog 64 (List.toArray [v0, .int .i64 a1]) w (fun v w' => v = (.tuple #[.int .i64 r.1, .bool r.2]) ∧ Grow w w') := by
 refine enter (n := 38) Tryz.func64 rfl rfl rfl Vd [] (Sat.nil _ _) ?_
 refine Jf ?_
 refine Jb ?_
 refine Ja rfl rfl rfl (Jc (v := .int .i64 0) rfl) ?_
 refine Ja rfl rfl rfl (Jc (v := .bool false) rfl) ?_
 refine Jg ?_
 refine Jf ?_
 refine Jb ?_
 refine Ja rfl rfl rfl (Jc (v := .int .i64 0) rfl) ?_
 refine Jg ?_
 refine Xu (r := r) (σ := Int) (τ := Unit) (fun s => Vq a0 a1 s) (fun s t => [(0, v0), (1, .int .i64 a1), (6, .int .i64 s)]) (fun s t => []) (fun s t => True) ?_ ?_
 ·refine Jf ?_
  refine Jb ?_
  refine Ja rfl rfl rfl (Je (v := .int .i64 a1) rfl) ?_
  refine Ja rfl rfl rfl (r_gtr rfl rfl) ?_
  refine Jg ?_
  refine Qg (b := (decide (0 < a1))) rfl (fun hb => ?_) (fun hb => ?_)
  ·have H25 := Jr hb H; clear H
   refine Jb ?_
   refine Ja rfl rfl rfl (Je (v := v0) rfl) ?_
   refine Ja rfl rfl rfl (Je (v := .int .i64 a1) rfl) ?_
   obtain ⟨t12, h_t12, H26⟩ := Ji H25; clear H25
   refine Ja rfl rfl rfl (r_subG rfl rfl h_t12) ?_
   obtain ⟨t13, h_t13, H27⟩ := Ji H26; clear H26
   refine Ja rfl rfl rfl (Z6 Tryz.underlying89 Tryz.sizeOf92 rfl rfl f0 h_t13) ?_
   refine Ja rfl rfl rfl (r_fieldP Tryz.runUnderlying92 rfl Tryz.sizeOf3 rfl rfl (some_of_at f0 h_t13)) ?_
   refine Qo (fun w hF hS => Wh (f := J4) (i := t12) (sz := 2) (j := 1) (v := .int .i64 t13.at_) Tryz.isAgg3 rfl rfl (f0.row (hw.now hF)) h_t13 rfl) rfl rfl rfl ?_
   refine Ja rfl rfl rfl (Jc (v := .int .i64 t13.at_) rfl) ?_
   refine Jg ?_
   refine Js t13.at_ () 0 [] (by exact ⟨rfl, rfl, rfl, trivial⟩) (by decide) rfl (by exact ⟨H27, trivial⟩) (Nat.lt_succ_self _)
  ·have H28 := Jq hb H; clear H
   refine Jw ?_
   refine Js 0 () 0 [] (by exact ⟨rfl, rfl, rfl, trivial⟩) (by decide) rfl (by exact ⟨H28, trivial⟩) (Nat.lt_succ_self _)
 ·rintro x6 _ gg H15 _
  replace H15 : Vq a0 a1 x6 = some r := H15
  refine J8 [(0, v0), (1, .int .i64 a1), (6, .int .i64 x6)] [] rfl rfl ?_
  refine Jf ?_
  refine Jb ?_
  refine Ja rfl rfl rfl (Je (v := .int .i64 x6) rfl) ?_
  obtain ⟨t17, h_t17, H16⟩ := Ji H15; clear H15
  refine Ja rfl rfl rfl (Yj rfl rfl h_t17) ?_
  refine Ja rfl rfl rfl (Jc (v := .int .i64 t17) rfl) ?_
  refine Jg ?_
  refine Xu (r := r) (σ := Int) (τ := Unit) (fun s => Vs x6 s) (fun s t => [(6, .int .i64 x6), (7, .int .i64 s)]) (fun s t => []) (fun s t => True) ?_ ?_
  ·refine Jf ?_
   refine Jb ?_
   refine Ja rfl rfl rfl (Je (v := .int .i64 a1) rfl) ?_
   refine Ja rfl rfl rfl (Je (v := v0) rfl) ?_
   refine Ja rfl rfl rfl (Uh Tryz.underlying89 rfl f0 rfl) ?_
   refine Ja rfl rfl rfl (Zd rfl rfl) ?_
   refine Jg ?_
   refine Qg (b := (decide (a1 < (a0.length : Int)))) rfl (fun hb => ?_) (fun hb => ?_)
   ·have H20 := Jr hb H16; clear H16
    refine Jb ?_
    refine Ja rfl rfl rfl (Je (v := .int .i64 x6) rfl) ?_
    refine Ja rfl rfl rfl (Je (v := v0) rfl) ?_
    refine Ja rfl rfl rfl (Je (v := .int .i64 a1) rfl) ?_
    obtain ⟨t25, h_t25, H21⟩ := Ji H20; clear H20
    refine Ja rfl rfl rfl (Z6 Tryz.underlying89 Tryz.sizeOf92 rfl rfl f0 h_t25) ?_
    refine Ja rfl rfl rfl (r_fieldP Tryz.runUnderlying92 rfl Tryz.sizeOf3 rfl rfl (some_of_at f0 h_t25)) ?_
    refine Qo (fun w hF hS => Wh (f := J4) (i := a1) (sz := 2) (j := 1) (v := .int .i64 t25.at_) Tryz.isAgg3 rfl rfl (f0.row (hw.now hF)) h_t25 rfl) rfl rfl rfl ?_
    obtain ⟨t28, h_t28, H22⟩ := Ji H21; clear H21
    refine Ja rfl rfl rfl (Yj rfl rfl h_t28) ?_
    obtain ⟨t29, h_t29, H23⟩ := Ji H22; clear H22
    refine Ja rfl rfl rfl (r_quoG rfl rfl h_t29) ?_
    refine Ja rfl rfl rfl (Jc (v := .int .i64 t29) rfl) ?_
    refine Jg ?_
    refine Js t29 () 0 [] (by exact ⟨rfl, rfl, trivial⟩) (by decide) rfl (by exact ⟨H23, trivial⟩) (Nat.lt_succ_self _)
   ·have H24 := Jq hb H16; clear H16
    refine Jw ?_
    refine Js t17 () 0 [] (by exact ⟨rfl, rfl, trivial⟩) (by decide) rfl (by exact ⟨H24, trivial⟩) (Nat.lt_succ_self _)
  ·rintro x7 _ gg H17 _
   replace H17 : Vs x6 x7 = some r := H17
   refine J8 [(6, .int .i64 x6), (7, .int .i64 x7)] [] rfl rfl ?_
   refine Jf ?_
   refine Jb ?_
   refine Ja rfl rfl rfl (Je (v := .int .i64 x7) rfl) ?_
   refine Ja rfl rfl rfl (Je (v := .int .i64 x7) rfl) ?_
   refine Ja rfl rfl rfl (Je (v := .int .i64 x6) rfl) ?_
   refine Ja rfl rfl rfl (r_neq rfl rfl) ?_
   refine Ja rfl rfl rfl (Je (v := .bool (decide (x7 ≠ x6))) rfl) ?_
   refine split (fun hb => ?_) (fun hb => ?_)
   ·have H18 := Jr hb H17; clear H17
    refine Ja rfl rfl rfl (Je (v := .int .i64 x7) rfl) ?_
    refine Ja rfl rfl rfl (r_leq rfl rfl) ?_
    refine Ja rfl rfl rfl (J7 (v := .bool (decide (x7 ≤ 6311433599))) rfl rfl) ?_
    refine Ja rfl rfl rfl (Jc (v := .int .i64 x7) rfl) ?_
    refine Ja rfl rfl rfl (Jc (v := .bool (decide (x7 ≤ 6311433599))) rfl) ?_
    refine Jg ?_
    refine Jp ?_
    obtain rfl := Option.some.inj H18
    refine ret2 (v1 := .int .i64 x7) (v2 := .bool (decide (x7 ≤ 6311433599))) rfl rfl rfl (Yd rfl)
   ·have H19 := Jq hb H17; clear H17
    refine Jk rfl rfl rfl ?_
    refine Jk rfl rfl rfl ?_
    refine Ja rfl rfl rfl (J1 (v := .bool false) rfl rfl) ?_
    refine Ja rfl rfl rfl (Jc (v := .int .i64 x7) rfl) ?_
    refine Ja rfl rfl rfl (Jc (v := .bool false) rfl) ?_
    refine Jg ?_
    refine Jp ?_
    obtain rfl := Option.some.inj H19
    refine ret2 (v1 := .int .i64 x7) (v2 := .bool false) rfl rfl rfl (Yd rfl)
theorem k38 {a0 : T_sync_Replica} {pb0 : Nat} {p0_2 : Option Addr × Nat} {n0_2 : Nat} {a1 : (List UInt8)} {a2 : Int} {a3 : Int} {r : Int × T_sync_Replica} {w : World} {h : Qd} {S : Nat → Prop} (hcs : (J0 (Jl pb0 [.int .i64 a0.device_, .int .i64 (a0.knows_ 0), .int .i64 (a0.knows_ 1), .int .i64 (a0.knows_ 2), .int .i64 (a0.knows_ 3), .int .i64 (a0.knows_ 4), .int .i64 (a0.knows_ 5), .int .i64 (a0.knows_ 6), .int .i64 (a0.knows_ 7), .int .i64 (a0.knows_ 8), .int .i64 (a0.knows_ 9), .int .i64 (a0.knows_ 10), .int .i64 (a0.knows_ 11), .int .i64 (a0.knows_ 12), .int .i64 (a0.knows_ 13), .int .i64 (a0.knows_ 14), .int .i64 (a0.knows_ 15), .slice p0_2.1 n0_2 p0_2.2] 60) (J2 45 8 (.slice p0_2.1 n0_2 p0_2.2) n0_2 (a0.facts_.map Jd))).P S w) (hlt : ∀ b, S b → b < w.heap.size) (hw : Know h w S) (hn0_2 : n0_2 = a0.facts_.length) (H : Uw a0 a1 a2 a3 = some r) : Does Tryz.prog 38 (List.toArray [.pointer (some ⟨pb0, 0, none⟩), str a1, .int .i64 a2, .int .i64 a3]) w (fun v w' => ∃ x : (Option Addr × Nat), v = (.int .i64 r.1) ∧ Turn w w' S (J0 (Jl pb0 [.int .i64 r.2.device_, .int .i64 (r.2.knows_ 0), .int .i64 (r.2.knows_ 1), .int .i64 (r.2.knows_ 2), .int .i64 (r.2.knows_ 3), .int .i64 (r.2.knows_ 4), .int .i64 (r.2.knows_ 5), .int .i64 (r.2.knows_ 6), .int .i64 (r.2.knows_ 7), .int .i64 (r.2.knows_ 8), .int .i64 (r.2.knows_ 9), .int .i64 (r.2.knows_ 10), .int .i64 (r.2.knows_ 11), .int .i64 (r.2.knows_ 12), .int .i64 (r.2.knows_ 13), .int .i64 (r.2.knows_ 14), .int .i64 (r.2.knows_ 15), .slice x.1 r.2.facts_.length x.2] 60) (J2 45 8 (.slice x.1 r.2.facts_.length x.2) r.2.facts_.length (r.2.facts_.map Jd)))) := by
 refine enter (n := 48) Tryz.func38 rfl rfl rfl S [J0 (Jl pb0 [.int .i64 a0.device_, .int .i64 (a0.knows_ 0), .int .i64 (a0.knows_ 1), .int .i64 (a0.knows_ 2), .int .i64 (a0.knows_ 3), .int .i64 (a0.knows_ 4), .int .i64 (a0.knows_ 5), .int .i64 (a0.knows_ 6), .int .i64 (a0.knows_ 7), .int .i64 (a0.knows_ 8), .int .i64 (a0.knows_ 9), .int .i64 (a0.knows_ 10), .int .i64 (a0.knows_ 11), .int .i64 (a0.knows_ 12), .int .i64 (a0.knows_ 13), .int .i64 (a0.knows_ 14), .int .i64 (a0.knows_ 15), .slice p0_2.1 n0_2 p0_2.2] 60) (J2 45 8 (.slice p0_2.1 n0_2 p0_2.2) n0_2 (a0.facts_.map Jd))] (Sat.one hcs hlt) ?_
 refine Yo 0 rfl ?_
 refine Jf ?_
 refine Jb ?_
 refine Zo (cs := [.int .i64 a2]) rfl rfl rfl rfl (fun b2 => ?_)
 refine Ja rfl rfl rfl (Jc (v := .int .i64 0) rfl) ?_
 refine Jg ?_
 refine Jf ?_
 refine J5 ?_
 refine Jf ?_
 refine Jb ?_
 refine Ja rfl rfl rfl (Je (v := str a1) rfl) ?_
 obtain ⟨t14, h_t14, H17⟩ := Ji H; clear H
 refine Q5 (k59 h_t14) Tryz.call59 rfl rfl rfl ?_
 refine Ja rfl rfl rfl (Zm rfl) ?_
 refine Ja rfl rfl rfl (Jc (v := .bool (!t14)) rfl) ?_
 refine Jg ?_
 refine Qg (b := (!t14)) rfl (fun hb => ?_) (fun hb => ?_)
 ·have H18 := Jr hb H17; clear H17
  refine Jf ?_
  refine Jb ?_
  refine Ja rfl rfl rfl (Jc (v := .int .i64 3) rfl) ?_
  refine Jg ?_
  refine Jp ?_
  obtain rfl := Option.some.inj H18
  refine Qa 0 1 rfl rfl (by decide) ?_
  refine J3 (v := .int .i64 3) rfl rfl (Yk p0_2 (i := 0) rfl (by first | rfl | rw [(show n0_2 = a0.facts_.length from hn0_2)]) (by first | exact Imp.refl _ | exact Imp.of (by rw [(show n0_2 = a0.facts_.length from hn0_2)])))
 ·have H19 := Jq hb H17; clear H17
  refine Jf ?_
  refine Jb ?_
  refine Ja rfl rfl rfl (Je (v := .pointer (some ⟨pb0, 0, none⟩)) rfl) ?_
  refine Jv (i := 2) (v := .int .i64 a2) Tryz.isAgg3 rfl rfl rfl rfl rfl ?_
  obtain ⟨t19, h_t19, H20⟩ := Ji H19; clear H19
  refine Yv (fun w hF hS => k19 (Jx w) (Zp (i := 1) hn0_2 hS rfl) (Qj (i := 0) hS rfl) h_t19) Tryz.call19 rfl rfl rfl ?_
  refine Ja rfl rfl rfl (Zm rfl) ?_
  refine Ja rfl rfl rfl (Jc (v := .bool (!t19)) rfl) ?_
  refine Jg ?_
  refine Qg (b := (!t19)) rfl (fun hb => ?_) (fun hb => ?_)
  ·have H21 := Jr hb H20; clear H20
   refine Jf ?_
   refine Jb ?_
   refine Ja rfl rfl rfl (Jc (v := .int .i64 7) rfl) ?_
   refine Jg ?_
   refine Jp ?_
   obtain rfl := Option.some.inj H21
   refine Qa 0 1 rfl rfl (by decide) ?_
   refine J3 (v := .int .i64 7) rfl rfl (Yk p0_2 (i := 0) rfl (by first | rfl | rw [(show n0_2 = a0.facts_.length from hn0_2)]) (by first | exact Imp.refl _ | exact Imp.of (by rw [(show n0_2 = a0.facts_.length from hn0_2)])))
  ·have H22 := Jq hb H20; clear H20
   refine Jw ?_
   refine Jf ?_
   refine Jb ?_
   refine Ja rfl rfl rfl (Je (v := .pointer (some ⟨pb0, 0, none⟩)) rfl) ?_
   refine Ja rfl rfl rfl (Je (v := str a1) rfl) ?_
   obtain ⟨t23, h_t23, H23⟩ := Ji H22; clear H22
   refine Zq (Ql (rds := [0, 1]) (G := fun x : (Option Addr × Nat) => .slice x.1 t23.length x.2) (C := fun x : (Option Addr × Nat) => Jz 92 2 (.slice x.1 t23.length x.2) t23.length (t23.map J4)) (fun w L' hF hS hi => k62 (Jx w) (Zp (i := 1) hn0_2 hS ((hi 1 (by simp)).trans rfl)) (Qj (i := 0) hS ((hi 0 (by simp)).trans rfl)) h_t23) Tryz.call62 rfl) rfl rfl rfl (fun p => ?_)
   refine Ja rfl rfl rfl (Wp (caps := #[.pointer (some ⟨b2, 0, none⟩)]) rfl) ?_
   obtain ⟨t25, h_t25, H24⟩ := Ji H23; clear H23
   refine Q4 (J6 (i := 3) (rds := [2]) (G := fun x : (Option Addr × Nat) => .slice x.1 t25.length x.2) (C := fun x : (Option Addr × Nat) => Jz 92 2 (.slice x.1 t25.length x.2) t25.length (t25.map J4)) rfl (fun w L' S hF hS hi hp hlt ho hA => k61 hp hlt (Qn w S) rfl (FnH.mk ⟨63, #[], #[.pointer (some ⟨b2, 0, none⟩)], rfl, Tryz.call63, fun args2 post2 w2 hk2 hR2 => by obtain ⟨a0_, r_, rfl, H_, rfl⟩ := hR2; exact k63 (Jx w2) (hk2.up _ _ (U9 (j := 2) hA hS (by decide) ((hi 2 (by simp)).trans rfl))) H_⟩) h_t25) Tryz.call61 rfl) rfl rfl rfl (fun p_2 => ?_)
   refine Ja rfl rfl rfl (Jc (v := .slice p_2.1 t25.length p_2.2) rfl) ?_
   refine Jg ?_
   refine Jf ?_
   refine Jf ?_
   refine W7 [0, 1, 2, 3] [Jl pb0 [.int .i64 a0.device_, .int .i64 (a0.knows_ 0), .int .i64 (a0.knows_ 1), .int .i64 (a0.knows_ 2), .int .i64 (a0.knows_ 3), .int .i64 (a0.knows_ 4), .int .i64 (a0.knows_ 5), .int .i64 (a0.knows_ 6), .int .i64 (a0.knows_ 7), .int .i64 (a0.knows_ 8), .int .i64 (a0.knows_ 9), .int .i64 (a0.knows_ 10), .int .i64 (a0.knows_ 11), .int .i64 (a0.knows_ 12), .int .i64 (a0.knows_ 13), .int .i64 (a0.knows_ 14), .int .i64 (a0.knows_ 15), .slice p0_2.1 n0_2 p0_2.2] 60, J2 45 8 (.slice p0_2.1 n0_2 p0_2.2) n0_2 (a0.facts_.map Jd), Jl b2 [.int .i64 a2] 3, Jz 92 2 (.slice p_2.1 t25.length p_2.2) t25.length (t25.map J4)] rfl (by decide) ?_
   refine Jb ?_
   refine Ja rfl rfl rfl (Je (v := .int .i64 a3) rfl) ?_
   refine Ja rfl rfl rfl (Je (v := .slice p_2.1 t25.length p_2.2) rfl) ?_
   refine Ja rfl rfl rfl (U5 Tryz.underlying89 rfl) ?_
   obtain ⟨t29, h_t29, H25⟩ := Ji H24; clear H24
   refine Q5 (k31 h_t29) Tryz.call31 rfl rfl rfl ?_
   refine Jg ?_
   refine Qg (b := t29) rfl (fun hb => ?_) (fun hb => ?_)
   ·have H26 := Jr hb H25; clear H25
    refine Jf ?_
    refine Jb ?_
    refine Ja rfl rfl rfl (Jc (v := .int .i64 2) rfl) ?_
    refine Jg ?_
    refine Jp ?_
    obtain rfl := Option.some.inj H26
    refine Qa 0 1 rfl rfl (by decide) ?_
    refine J3 (v := .int .i64 2) rfl rfl (Yk p0_2 (i := 0) rfl (by first | rfl | rw [(show n0_2 = a0.facts_.length from hn0_2)]) (by first | exact Imp.refl _ | exact Imp.of (by rw [(show n0_2 = a0.facts_.length from hn0_2)])))
   ·have H27 := Jq hb H25; clear H25
    refine Jw ?_
    refine Jf ?_
    refine Jb ?_
    refine Ja rfl rfl rfl (Je (v := .slice p_2.1 t25.length p_2.2) rfl) ?_
    refine Ja rfl rfl rfl (Je (v := .int .i64 a3) rfl) ?_
    obtain ⟨t33, h_t33, H28⟩ := Ji H27; clear H27
    refine Yv (fun w hF hS => k64 (Jx w) (frs_own (i := 3) rfl hS rfl) h_t33) Tryz.call64 rfl rfl rfl ?_
    refine Ja rfl rfl rfl (Je (v := .tuple #[.int .i64 t33.1, .bool t33.2]) rfl) ?_
    refine Ja rfl rfl rfl (Xh (v := .int .i64 t33.1) rfl rfl) ?_
    refine Ja rfl rfl rfl (Xh (v := .bool t33.2) rfl rfl) ?_
    refine Ja rfl rfl rfl (Jc (v := .int .i64 t33.1) rfl) ?_
    refine Ja rfl rfl rfl (Jc (v := .bool t33.2) rfl) ?_
    refine Jg ?_
    refine Jf ?_
    refine Jf ?_
    refine Jb ?_
    refine Ja rfl rfl rfl (Je (v := .bool t33.2) rfl) ?_
    refine Ja rfl rfl rfl (Zm rfl) ?_
    refine Jg ?_
    refine Qg (b := (!t33.2)) rfl (fun hb => ?_) (fun hb => ?_)
    ·have H29 := Jr hb H28; clear H28
     refine Jf ?_
     refine Jb ?_
     refine Ja rfl rfl rfl (Jc (v := .int .i64 12) rfl) ?_
     refine Jg ?_
     refine Jp ?_
     obtain rfl := Option.some.inj H29
     refine Qa 0 1 rfl rfl (by decide) ?_
     refine J3 (v := .int .i64 12) rfl rfl (Yk p0_2 (i := 0) rfl (by first | rfl | rw [(show n0_2 = a0.facts_.length from hn0_2)]) (by first | exact Imp.refl _ | exact Imp.of (by rw [(show n0_2 = a0.facts_.length from hn0_2)])))
    ·have H30 := Jq hb H28; clear H28
     refine Jw ?_
     refine Jf ?_
     exact Yl (Kd.p :: Kd.d [2] _ :: Kd.p :: Kd.p :: Kd.p :: Kd.p :: Kd.d [2] _ :: Kd.d [0, 1] _ :: Kd.ns 4 [_, _, _, _, _, _, _, _, _, _, _, _, _, _, _, _] 45 2 :: Kd.t2 0 1 [4] _ _ :: Kd.p :: []) 1 mixed (by
      refine Jt rfl rfl (Je (v := .pointer (some ⟨pb0, 0, none⟩)) rfl) ?_
      refine Yn (i := 2) (v := .int .i64 a2) Tryz.isAgg3 rfl rfl rfl rfl ?_
      refine Jt rfl rfl (Je (v := str a1) rfl) ?_
      refine Jt rfl rfl (Je (v := .int .i64 t33.1) rfl) ?_
      refine Jt rfl rfl (W4 (pl := #[(0, 2), (2, 1), (3, 1), (4, 1), (5, 1), (6, 1), (7, 1)]) (ps := [(2, .int .i64 6), (3, .int .i64 a2), (4, str a1), (5, .int .i64 t33.1)]) (cells := #[.int .i64 0, .int .i64 0, .int .i64 0, .int .i64 6, .int .i64 a2, str a1, .int .i64 t33.1, str []]) Tryz.zeroValue45 Tryz.runUnderlying45 (fun w => by kernel_rfl) rfl rfl) ?_
      refine Jt rfl rfl (Je (v := .pointer (some ⟨pb0, 0, none⟩)) rfl) ?_
      refine Yn (i := 2) (v := .int .i64 a2) Tryz.isAgg3 rfl rfl rfl rfl ?_
      have h_t45 := Qq H30
      have H31 := Qi H30
      refine d_callD (fun w L' hF hS hi => k56 (Jx w) (Zp (i := 1) hn0_2 hS ((hi 1 (by simp)).trans rfl)) (Qj (i := 0) hS ((hi 0 (by simp)).trans rfl)) h_t45) Tryz.call56 rfl rfl ?_
      refine d_newS rfl rfl (Uo (vs := [.agg #[.int .i64 0, .int .i64 0, .int .i64 0, .int .i64 6, .int .i64 a2, str a1, .int .i64 t33.1, str []], .agg #[.int .i64 (val (Jj a0 a2)).Dot.Device, .int .i64 (val (Jj a0 a2)).Dot.N, .int .i64 (val (Jj a0 a2)).Time, .int .i64 (val (Jj a0 a2)).Kind, .int .i64 (val (Jj a0 a2)).Id, str (val (Jj a0 a2)).Name, .int .i64 (val (Jj a0 a2)).Num, str (val (Jj a0 a2)).Text]]) (cs := [.int .i64 0, .int .i64 0, .int .i64 0, .int .i64 6, .int .i64 a2, str a1, .int .i64 t33.1, str [], .int .i64 (val (Jj a0 a2)).Dot.Device, .int .i64 (val (Jj a0 a2)).Dot.N, .int .i64 (val (Jj a0 a2)).Time, .int .i64 (val (Jj a0 a2)).Kind, .int .i64 (val (Jj a0 a2)).Id, str (val (Jj a0 a2)).Name, .int .i64 (val (Jj a0 a2)).Num, str (val (Jj a0 a2)).Text]) Tryz.underlying58 Tryz.sizeOf45 Tryz.zeroValue45 rfl rfl rfl rfl rfl) rfl (fun b3 => ?_)
      have h_t47 := Qq H31
      have H32 := Qi H31
      refine d_turn2 (i := 0) (j := 1) (J6 (i := 0) (rds := _) (G := fun x : (Option Addr × Nat) => .int .i64 (val (Jm a0 ([(⟨(⟨0, 0⟩ : T_sync_Dot), 0, 6, a2, a1, t33.1, []⟩ : T_sync_Fact), (val (Jj a0 a2))] : List T_sync_Fact))).1) (C := fun x : (Option Addr × Nat) => J0 (Jl pb0 [.int .i64 (val (Jm a0 ([(⟨(⟨0, 0⟩ : T_sync_Dot), 0, 6, a2, a1, t33.1, []⟩ : T_sync_Fact), (val (Jj a0 a2))] : List T_sync_Fact))).2.device_, .int .i64 ((val (Jm a0 ([(⟨(⟨0, 0⟩ : T_sync_Dot), 0, 6, a2, a1, t33.1, []⟩ : T_sync_Fact), (val (Jj a0 a2))] : List T_sync_Fact))).2.knows_ 0), .int .i64 ((val (Jm a0 ([(⟨(⟨0, 0⟩ : T_sync_Dot), 0, 6, a2, a1, t33.1, []⟩ : T_sync_Fact), (val (Jj a0 a2))] : List T_sync_Fact))).2.knows_ 1), .int .i64 ((val (Jm a0 ([(⟨(⟨0, 0⟩ : T_sync_Dot), 0, 6, a2, a1, t33.1, []⟩ : T_sync_Fact), (val (Jj a0 a2))] : List T_sync_Fact))).2.knows_ 2), .int .i64 ((val (Jm a0 ([(⟨(⟨0, 0⟩ : T_sync_Dot), 0, 6, a2, a1, t33.1, []⟩ : T_sync_Fact), (val (Jj a0 a2))] : List T_sync_Fact))).2.knows_ 3), .int .i64 ((val (Jm a0 ([(⟨(⟨0, 0⟩ : T_sync_Dot), 0, 6, a2, a1, t33.1, []⟩ : T_sync_Fact), (val (Jj a0 a2))] : List T_sync_Fact))).2.knows_ 4), .int .i64 ((val (Jm a0 ([(⟨(⟨0, 0⟩ : T_sync_Dot), 0, 6, a2, a1, t33.1, []⟩ : T_sync_Fact), (val (Jj a0 a2))] : List T_sync_Fact))).2.knows_ 5), .int .i64 ((val (Jm a0 ([(⟨(⟨0, 0⟩ : T_sync_Dot), 0, 6, a2, a1, t33.1, []⟩ : T_sync_Fact), (val (Jj a0 a2))] : List T_sync_Fact))).2.knows_ 6), .int .i64 ((val (Jm a0 ([(⟨(⟨0, 0⟩ : T_sync_Dot), 0, 6, a2, a1, t33.1, []⟩ : T_sync_Fact), (val (Jj a0 a2))] : List T_sync_Fact))).2.knows_ 7), .int .i64 ((val (Jm a0 ([(⟨(⟨0, 0⟩ : T_sync_Dot), 0, 6, a2, a1, t33.1, []⟩ : T_sync_Fact), (val (Jj a0 a2))] : List T_sync_Fact))).2.knows_ 8), .int .i64 ((val (Jm a0 ([(⟨(⟨0, 0⟩ : T_sync_Dot), 0, 6, a2, a1, t33.1, []⟩ : T_sync_Fact), (val (Jj a0 a2))] : List T_sync_Fact))).2.knows_ 9), .int .i64 ((val (Jm a0 ([(⟨(⟨0, 0⟩ : T_sync_Dot), 0, 6, a2, a1, t33.1, []⟩ : T_sync_Fact), (val (Jj a0 a2))] : List T_sync_Fact))).2.knows_ 10), .int .i64 ((val (Jm a0 ([(⟨(⟨0, 0⟩ : T_sync_Dot), 0, 6, a2, a1, t33.1, []⟩ : T_sync_Fact), (val (Jj a0 a2))] : List T_sync_Fact))).2.knows_ 11), .int .i64 ((val (Jm a0 ([(⟨(⟨0, 0⟩ : T_sync_Dot), 0, 6, a2, a1, t33.1, []⟩ : T_sync_Fact), (val (Jj a0 a2))] : List T_sync_Fact))).2.knows_ 12), .int .i64 ((val (Jm a0 ([(⟨(⟨0, 0⟩ : T_sync_Dot), 0, 6, a2, a1, t33.1, []⟩ : T_sync_Fact), (val (Jj a0 a2))] : List T_sync_Fact))).2.knows_ 13), .int .i64 ((val (Jm a0 ([(⟨(⟨0, 0⟩ : T_sync_Dot), 0, 6, a2, a1, t33.1, []⟩ : T_sync_Fact), (val (Jj a0 a2))] : List T_sync_Fact))).2.knows_ 14), .int .i64 ((val (Jm a0 ([(⟨(⟨0, 0⟩ : T_sync_Dot), 0, 6, a2, a1, t33.1, []⟩ : T_sync_Fact), (val (Jj a0 a2))] : List T_sync_Fact))).2.knows_ 15), .slice x.1 (val (Jm a0 ([(⟨(⟨0, 0⟩ : T_sync_Dot), 0, 6, a2, a1, t33.1, []⟩ : T_sync_Fact), (val (Jj a0 a2))] : List T_sync_Fact))).2.facts_.length x.2] 60) (J2 45 8 (.slice x.1 (val (Jm a0 ([(⟨(⟨0, 0⟩ : T_sync_Dot), 0, 6, a2, a1, t33.1, []⟩ : T_sync_Fact), (val (Jj a0 a2))] : List T_sync_Fact))).2.facts_.length x.2) (val (Jm a0 ([(⟨(⟨0, 0⟩ : T_sync_Dot), 0, 6, a2, a1, t33.1, []⟩ : T_sync_Fact), (val (Jj a0 a2))] : List T_sync_Fact))).2.facts_.length ((val (Jm a0 ([(⟨(⟨0, 0⟩ : T_sync_Dot), 0, 6, a2, a1, t33.1, []⟩ : T_sync_Fact), (val (Jj a0 a2))] : List T_sync_Fact))).2.facts_.map Jd))) rfl (fun w L' S hF hS hi hp hlt ho hA => k55 hp hlt (Qn w S) hn0_2 (frb_box (j := 4) (xs := ([(⟨(⟨0, 0⟩ : T_sync_Dot), 0, 6, a2, a1, t33.1, []⟩ : T_sync_Fact), (val (Jj a0 a2))] : List T_sync_Fact)) (f := Jd) hA hS (by decide) ((hi 4 (by simp)).trans rfl) rfl rfl rfl rfl) h_t47) Tryz.call55 rfl) rfl rfl (by decide) (by decide) rfl rfl ?_
      refine Jt rfl rfl (Jc (v := .int .i64 (val (Jm a0 ([(⟨(⟨0, 0⟩ : T_sync_Dot), 0, 6, a2, a1, t33.1, []⟩ : T_sync_Fact), (val (Jj a0 a2))] : List T_sync_Fact))).1) rfl) ?_
      refine Wr ?_
      refine c_ex 0 rfl (fun p_3 => ?_)
      refine Q0 0 1 rfl rfl (by decide) ?_
      refine Jp ?_
      obtain rfl := Option.some.inj H32
      refine Qa 0 1 rfl rfl (by decide) ?_
      refine J3 (v := .int .i64 (val (Jm a0 ([(⟨(⟨0, 0⟩ : T_sync_Dot), 0, 6, a2, a1, t33.1, []⟩ : T_sync_Fact), (val (Jj a0 a2))] : List T_sync_Fact))).1) rfl rfl (Yk p_3 (i := 0) rfl rfl (Imp.refl _))
      ) (by kernel_rfl)
theorem k65 {a0 : (List T_sync_spot)} {v0 : Value} {a1 : (T_sync_spot → Option (Bool))} {v1 : Value} {r : Bool} {w : World} {h : Qd} (hw : Know h w Vd) (f0 : FrS h 2 v0 (a0.map J4)) (f1 : FnH Tryz.prog h v1 (Zb a1)) (H : Y3 a0 a1 = some r) : Does Tryz.prog 65 (List.toArray [v0, v1]) w (fun v w' => v = (.bool r) ∧ Grow w w') := by
 refine enter (n := 9) Tryz.func65 rfl rfl rfl Vd [] (Sat.nil _ _) ?_
 refine Jf ?_
 refine Jb ?_
 refine Ja rfl rfl rfl (Jc (v := .bool false) rfl) ?_
 refine Jg ?_
 refine Jf ?_
 refine Jb ?_
 refine Ja rfl rfl rfl (Je (v := v0) rfl) ?_
 refine Ja rfl rfl rfl (Je (v := v1) rfl) ?_
 obtain ⟨t7, h_t7, H2⟩ := Ji H; clear H
 refine Yv (fun w hF hS => k84 (Jx w) (f0.mono (hw.now hF)) (f1.mono (hw.now hF)) h_t7) Tryz.call84 rfl rfl rfl ?_
 refine Ja rfl rfl rfl (r_geq rfl rfl) ?_
 refine Ja rfl rfl rfl (Jc (v := .bool (decide (0 ≤ t7))) rfl) ?_
 refine Jg ?_
 refine Jp ?_
 obtain rfl := Option.some.inj H2
 refine J3 (v := .bool (decide (0 ≤ t7))) rfl rfl (Yd rfl)
theorem k66 {q0 : Int} {c0 : Nat} {a0 : T_sync_spot} {r : Bool} {w : World} {h : Qd} (hw : Know h w Vd) (hc0 : h c0 = some (.cells (List.toArray [.int .i64 q0]) 3 (0, 0))) (H : U2 q0 a0 = some r) : Does Tryz.prog 66 (List.toArray [.agg #[.int .i64 a0.id_, .int .i64 a0.at_], .pointer (some ⟨c0, 0, none⟩)]) w (fun v w' => v = (.bool r) ∧ Grow w w') := by
 refine enter (n := 8) Tryz.func66 rfl rfl rfl Vd [] (Sat.nil _ _) ?_
 refine Jf ?_
 refine Jb ?_
 refine Zo (cs := [.int .i64 a0.id_, .int .i64 a0.at_]) rfl rfl rfl rfl (fun b1 => ?_)
 refine Ja rfl rfl rfl (Jc (v := .bool false) rfl) ?_
 refine Jg ?_
 refine Jf ?_
 refine Jb ?_
 refine Ja rfl rfl rfl (Jo Tryz.runUnderlying92 rfl Tryz.sizeOf3 rfl rfl) ?_
 refine Jv (i := 0) (v := .int .i64 a0.id_) Tryz.isAgg3 rfl rfl rfl rfl rfl ?_
 refine Qo (fun w hF hS => Xo (v := .int .i64 q0) Tryz.isAgg3 rfl (hw.now hF _ _ hc0) rfl) rfl rfl rfl ?_
 refine Ja rfl rfl rfl (Xd rfl rfl) ?_
 refine Ja rfl rfl rfl (Jc (v := .bool (decide (a0.id_ = q0))) rfl) ?_
 refine Jg ?_
 refine Jp ?_
 obtain rfl := Option.some.inj H
 refine J3 (v := .bool (decide (a0.id_ = q0))) rfl rfl (Yd rfl)
theorem k67 {q0 : (List UInt8)} {c0 : Nat} {q1 : Int} {c1 : Nat} {a0 : T_sync_Fact} {r : Bool} {w : World} {h : Qd} (hw : Know h w Vd) (hc0 : h c0 = some (.cells (List.toArray [str q0]) 9 (0, 0))) (hc1 : h c1 = some (.cells (List.toArray [.int .i64 q1]) 3 (0, 0))) (H : Wn q0 q1 a0 = some r) : Does Tryz.prog 67 (List.toArray [.agg #[.int .i64 a0.Dot.Device, .int .i64 a0.Dot.N, .int .i64 a0.Time, .int .i64 a0.Kind, .int .i64 a0.Id, str a0.Name, .int .i64 a0.Num, str a0.Text], .pointer (some ⟨c0, 0, none⟩), .pointer (some ⟨c1, 0, none⟩)]) w (fun v w' => v = (.bool r) ∧ Grow w w') := by
 refine enter (n := 20) Tryz.func67 rfl rfl rfl Vd [] (Sat.nil _ _) ?_
 refine Jf ?_
 refine Jb ?_
 refine Zo (cs := [.int .i64 a0.Dot.Device, .int .i64 a0.Dot.N, .int .i64 a0.Time, .int .i64 a0.Kind, .int .i64 a0.Id, str a0.Name, .int .i64 a0.Num, str a0.Text]) rfl rfl rfl rfl (fun b1 => ?_)
 refine Ja rfl rfl rfl (Jc (v := .bool false) rfl) ?_
 refine Jg ?_
 refine Jf ?_
 refine Jb ?_
 refine Ja rfl rfl rfl (Jo Tryz.runUnderlying45 rfl Tryz.sizeOf3 rfl rfl) ?_
 refine Jv (i := 0) (v := .int .i64 a0.Kind) Tryz.isAgg3 rfl rfl rfl rfl rfl ?_
 refine Ja rfl rfl rfl (Xd rfl rfl) ?_
 refine Ja rfl rfl rfl (Je (v := .bool (decide (a0.Kind = 6))) rfl) ?_
 refine split (fun hb => ?_) (fun hb => ?_)
 ·have H5 := Jr hb H; clear H
  refine Ja rfl rfl rfl (Jo Tryz.runUnderlying45 rfl Tryz.sizeOf9 rfl rfl) ?_
  refine Jv (i := 0) (v := str a0.Name) Tryz.isAgg9 rfl rfl rfl rfl rfl ?_
  refine Qo (fun w hF hS => Xo (v := str q0) Tryz.isAgg9 rfl (hw.now hF _ _ hc0) rfl) rfl rfl rfl ?_
  refine Ja rfl rfl rfl (r_eqlT rfl rfl) ?_
  refine Ja rfl rfl rfl (J7 (v := .bool (decide (a0.Name = q0))) rfl rfl) ?_
  refine Ja rfl rfl rfl (Je (v := .bool (decide (a0.Name = q0))) rfl) ?_
  refine split (fun hb => ?_) (fun hb => ?_)
  ·have H6 := Jr hb H5; clear H5
   refine Ja rfl rfl rfl (Jo Tryz.runUnderlying45 rfl Tryz.sizeOf3 rfl rfl) ?_
   refine Jv (i := 0) (v := .int .i64 a0.Id) Tryz.isAgg3 rfl rfl rfl rfl rfl ?_
   refine Qo (fun w hF hS => Xo (v := .int .i64 q1) Tryz.isAgg3 rfl (hw.now hF _ _ hc1) rfl) rfl rfl rfl ?_
   refine Ja rfl rfl rfl (Xd rfl rfl) ?_
   refine Ja rfl rfl rfl (J7 (v := .bool (decide (a0.Id = q1))) rfl rfl) ?_
   refine Ja rfl rfl rfl (Jc (v := .bool (decide (a0.Id = q1))) rfl) ?_
   refine Jg ?_
   refine Jp ?_
   obtain rfl := Option.some.inj H6
   refine J3 (v := .bool (decide (a0.Id = q1))) rfl rfl (Yd rfl)
  ·have H7 := Jq hb H5; clear H5
   refine Jk rfl rfl rfl ?_
   refine Jk rfl rfl rfl ?_
   refine Jk rfl rfl rfl ?_
   refine Jk rfl rfl rfl ?_
   refine Ja rfl rfl rfl (J1 (v := .bool false) rfl rfl) ?_
   refine Ja rfl rfl rfl (Jc (v := .bool false) rfl) ?_
   refine Jg ?_
   refine Jp ?_
   obtain rfl := Option.some.inj H7
   refine J3 (v := .bool false) rfl rfl (Yd rfl)
 ·have H8 := Jq hb H; clear H
  refine Jk rfl rfl rfl ?_
  refine Jk rfl rfl rfl ?_
  refine Jk rfl rfl rfl ?_
  refine Jk rfl rfl rfl ?_
  refine Ja rfl rfl rfl (J1 (v := .bool false) rfl rfl) ?_
  refine Ja rfl rfl rfl (Je (v := .bool false) rfl) ?_
  refine Jk rfl rfl rfl ?_
  refine Jk rfl rfl rfl ?_
  refine Jk rfl rfl rfl ?_
  refine Jk rfl rfl rfl ?_
  refine Ja rfl rfl rfl (J1 (v := .bool false) rfl rfl) ?_
  refine Ja rfl rfl rfl (Jc (v := .bool false) rfl) ?_
  refine Jg ?_
  refine Jp ?_
  obtain rfl := Option.some.inj H8
  refine J3 (v := .bool false) rfl rfl (Yd rfl)
theorem k39 {a0 : T_sync_Replica} {pb0 : Nat} {p0_2 : Option Addr × Nat} {n0_2 : Nat} {a1 : (List UInt8)} {a2 : Int} {r : Int × T_sync_Replica} {w : World} {h : Qd} {S : Nat → Prop} (hcs : (J0 (Jl pb0 [.int .i64 a0.device_, .int .i64 (a0.knows_ 0), .int .i64 (a0.knows_ 1), .int .i64 (a0.knows_ 2), .int .i64 (a0.knows_ 3), .int .i64 (a0.knows_ 4), .int .i64 (a0.knows_ 5), .int .i64 (a0.knows_ 6), .int .i64 (a0.knows_ 7), .int .i64 (a0.knows_ 8), .int .i64 (a0.knows_ 9), .int .i64 (a0.knows_ 10), .int .i64 (a0.knows_ 11), .int .i64 (a0.knows_ 12), .int .i64 (a0.knows_ 13), .int .i64 (a0.knows_ 14), .int .i64 (a0.knows_ 15), .slice p0_2.1 n0_2 p0_2.2] 60) (J2 45 8 (.slice p0_2.1 n0_2 p0_2.2) n0_2 (a0.facts_.map Jd))).P S w) (hlt : ∀ b, S b → b < w.heap.size) (hw : Know h w S) (hn0_2 : n0_2 = a0.facts_.length) (H : Ue a0 a1 a2 = some r) : Does Tryz.prog 39 (List.toArray [.pointer (some ⟨pb0, 0, none⟩), str a1, .int .i64 a2]) w (fun v w' => ∃ x : (Option Addr × Nat), v = (.int .i64 r.1) ∧ Turn w w' S (J0 (Jl pb0 [.int .i64 r.2.device_, .int .i64 (r.2.knows_ 0), .int .i64 (r.2.knows_ 1), .int .i64 (r.2.knows_ 2), .int .i64 (r.2.knows_ 3), .int .i64 (r.2.knows_ 4), .int .i64 (r.2.knows_ 5), .int .i64 (r.2.knows_ 6), .int .i64 (r.2.knows_ 7), .int .i64 (r.2.knows_ 8), .int .i64 (r.2.knows_ 9), .int .i64 (r.2.knows_ 10), .int .i64 (r.2.knows_ 11), .int .i64 (r.2.knows_ 12), .int .i64 (r.2.knows_ 13), .int .i64 (r.2.knows_ 14), .int .i64 (r.2.knows_ 15), .slice x.1 r.2.facts_.length x.2] 60) (J2 45 8 (.slice x.1 r.2.facts_.length x.2) r.2.facts_.length (r.2.facts_.map Jd)))) := by
 refine enter (n := 21) Tryz.func39 rfl rfl rfl S [J0 (Jl pb0 [.int .i64 a0.device_, .int .i64 (a0.knows_ 0), .int .i64 (a0.knows_ 1), .int .i64 (a0.knows_ 2), .int .i64 (a0.knows_ 3), .int .i64 (a0.knows_ 4), .int .i64 (a0.knows_ 5), .int .i64 (a0.knows_ 6), .int .i64 (a0.knows_ 7), .int .i64 (a0.knows_ 8), .int .i64 (a0.knows_ 9), .int .i64 (a0.knows_ 10), .int .i64 (a0.knows_ 11), .int .i64 (a0.knows_ 12), .int .i64 (a0.knows_ 13), .int .i64 (a0.knows_ 14), .int .i64 (a0.knows_ 15), .slice p0_2.1 n0_2 p0_2.2] 60) (J2 45 8 (.slice p0_2.1 n0_2 p0_2.2) n0_2 (a0.facts_.map Jd))] (Sat.one hcs hlt) ?_
 refine Yo 0 rfl ?_
 refine Jf ?_
 refine Jb ?_
 refine Zo (cs := [str a1]) rfl rfl rfl rfl (fun b2 => ?_)
 refine Zo (cs := [.int .i64 a2]) rfl rfl rfl rfl (fun b3 => ?_)
 refine Ja rfl rfl rfl (Jc (v := .int .i64 0) rfl) ?_
 refine Jg ?_
 refine Jf ?_
 refine J5 ?_
 refine Jf ?_
 refine Jb ?_
 refine Jv (i := 2) (v := str a1) Tryz.isAgg9 rfl rfl rfl rfl rfl ?_
 obtain ⟨t9, h_t9, H9⟩ := Ji H; clear H
 refine Q5 (k59 h_t9) Tryz.call59 rfl rfl rfl ?_
 refine Ja rfl rfl rfl (Zm rfl) ?_
 refine Ja rfl rfl rfl (Jc (v := .bool (!t9)) rfl) ?_
 refine Jg ?_
 refine Qg (b := (!t9)) rfl (fun hb => ?_) (fun hb => ?_)
 ·have H10 := Jr hb H9; clear H9
  refine Jf ?_
  refine Jb ?_
  refine Ja rfl rfl rfl (Jc (v := .int .i64 3) rfl) ?_
  refine Jg ?_
  refine Jp ?_
  obtain rfl := Option.some.inj H10
  refine Qa 0 1 rfl rfl (by decide) ?_
  refine J3 (v := .int .i64 3) rfl rfl (Yk p0_2 (i := 0) rfl (by first | rfl | rw [(show n0_2 = a0.facts_.length from hn0_2)]) (by first | exact Imp.refl _ | exact Imp.of (by rw [(show n0_2 = a0.facts_.length from hn0_2)])))
 ·have H11 := Jq hb H9; clear H9
  refine Jf ?_
  refine Jb ?_
  refine Ja rfl rfl rfl (Je (v := .pointer (some ⟨pb0, 0, none⟩)) rfl) ?_
  refine Jv (i := 2) (v := str a1) Tryz.isAgg9 rfl rfl rfl rfl rfl ?_
  obtain ⟨t14, h_t14, H12⟩ := Ji H11; clear H11
  refine Zq (Ql (rds := [0, 1]) (G := fun x : (Option Addr × Nat) => .slice x.1 t14.length x.2) (C := fun x : (Option Addr × Nat) => Jz 92 2 (.slice x.1 t14.length x.2) t14.length (t14.map J4)) (fun w L' hF hS hi => k62 (Jx w) (Zp (i := 1) hn0_2 hS ((hi 1 (by simp)).trans rfl)) (Qj (i := 0) hS ((hi 0 (by simp)).trans rfl)) h_t14) Tryz.call62 rfl) rfl rfl rfl (fun p => ?_)
  refine Ja rfl rfl rfl (Wp (caps := #[.pointer (some ⟨b3, 0, none⟩)]) rfl) ?_
  obtain ⟨t16, h_t16, H13⟩ := Ji H12; clear H12
  refine Yv (fun w hF hS => k65 (Jx w) (frs_own (i := 4) rfl hS rfl) (FnH.mk ⟨66, #[], #[.pointer (some ⟨b3, 0, none⟩)], rfl, Tryz.call66, fun args2 post2 w2 hk2 hR2 => by obtain ⟨a0_, r_, rfl, H_, rfl⟩ := hR2; exact k66 (Jx w2) (hk2.up _ _ (Qj (i := 3) hS rfl)) H_⟩) h_t16) Tryz.call65 rfl rfl rfl ?_
  refine Ja rfl rfl rfl (Zm rfl) ?_
  refine Ja rfl rfl rfl (Jc (v := .bool (!t16)) rfl) ?_
  refine Jg ?_
  refine Qg (b := (!t16)) rfl (fun hb => ?_) (fun hb => ?_)
  ·have H14 := Jr hb H13; clear H13
   refine Jf ?_
   refine Jb ?_
   refine Ja rfl rfl rfl (Jc (v := .int .i64 7) rfl) ?_
   refine Jg ?_
   refine Jp ?_
   obtain rfl := Option.some.inj H14
   refine Qa 0 1 rfl rfl (by decide) ?_
   refine J3 (v := .int .i64 7) rfl rfl (Yk p0_2 (i := 0) rfl (by first | rfl | rw [(show n0_2 = a0.facts_.length from hn0_2)]) (by first | exact Imp.refl _ | exact Imp.of (by rw [(show n0_2 = a0.facts_.length from hn0_2)])))
  ·have H15 := Jq hb H13; clear H13
   refine Jw ?_
   refine Jf ?_
   refine W7 [0, 1, 2, 3, 4] [Jl pb0 [.int .i64 a0.device_, .int .i64 (a0.knows_ 0), .int .i64 (a0.knows_ 1), .int .i64 (a0.knows_ 2), .int .i64 (a0.knows_ 3), .int .i64 (a0.knows_ 4), .int .i64 (a0.knows_ 5), .int .i64 (a0.knows_ 6), .int .i64 (a0.knows_ 7), .int .i64 (a0.knows_ 8), .int .i64 (a0.knows_ 9), .int .i64 (a0.knows_ 10), .int .i64 (a0.knows_ 11), .int .i64 (a0.knows_ 12), .int .i64 (a0.knows_ 13), .int .i64 (a0.knows_ 14), .int .i64 (a0.knows_ 15), .slice p0_2.1 n0_2 p0_2.2] 60, J2 45 8 (.slice p0_2.1 n0_2 p0_2.2) n0_2 (a0.facts_.map Jd), Jl b2 [str a1] 9, Jl b3 [.int .i64 a2] 3, Jz 92 2 (.slice p.1 t14.length p.2) t14.length (t14.map J4)] rfl (by decide) ?_
   refine Jb ?_
   refine Ja rfl rfl rfl (Je (v := .pointer (some ⟨pb0, 0, none⟩)) rfl) ?_
   refine Ja rfl rfl rfl (Wp (caps := #[.pointer (some ⟨b2, 0, none⟩), .pointer (some ⟨b3, 0, none⟩)]) rfl) ?_
   obtain ⟨t20, h_t20, H16⟩ := Ji H15; clear H15
   refine Qa 0 1 rfl rfl (by decide) ?_
   refine Q4 (J6 (i := 0) (rds := [2, 3]) (G := fun x : (Option Addr × Nat) => .tuple #[]) (C := fun x : (Option Addr × Nat) => J0 (Jl pb0 [.int .i64 t20.device_, .int .i64 (t20.knows_ 0), .int .i64 (t20.knows_ 1), .int .i64 (t20.knows_ 2), .int .i64 (t20.knows_ 3), .int .i64 (t20.knows_ 4), .int .i64 (t20.knows_ 5), .int .i64 (t20.knows_ 6), .int .i64 (t20.knows_ 7), .int .i64 (t20.knows_ 8), .int .i64 (t20.knows_ 9), .int .i64 (t20.knows_ 10), .int .i64 (t20.knows_ 11), .int .i64 (t20.knows_ 12), .int .i64 (t20.knows_ 13), .int .i64 (t20.knows_ 14), .int .i64 (t20.knows_ 15), .slice x.1 t20.facts_.length x.2] 60) (J2 45 8 (.slice x.1 t20.facts_.length x.2) t20.facts_.length (t20.facts_.map Jd))) rfl (fun w L' S hF hS hi hp hlt ho hA => k20 hp hlt (Qn w S) hn0_2 (FnH.mk ⟨67, #[], #[.pointer (some ⟨b2, 0, none⟩), .pointer (some ⟨b3, 0, none⟩)], rfl, Tryz.call67, fun args2 post2 w2 hk2 hR2 => by obtain ⟨a0_, r_, rfl, H_, rfl⟩ := hR2; exact k67 (Jx w2) (hk2.up _ _ (U9 (j := 2) hA hS (by decide) ((hi 2 (by simp)).trans rfl))) (hk2.up _ _ (U9 (j := 3) hA hS (by decide) ((hi 3 (by simp)).trans rfl))) H_⟩) (FrS.nil _ _) h_t20) Tryz.call20 rfl) rfl rfl rfl (fun p_2 => ?_)
   refine Q0 0 1 rfl rfl (by decide) ?_
   refine Jg ?_
   refine Jf ?_
   refine Jb ?_
   refine Ja rfl rfl rfl (Jc (v := .int .i64 0) rfl) ?_
   refine Jg ?_
   refine Jp ?_
   obtain rfl := Option.some.inj H16
   refine Qa 0 1 rfl rfl (by decide) ?_
   refine J3 (v := .int .i64 0) rfl rfl (Yk p_2 (i := 0) rfl rfl (Imp.refl _))
theorem k68 {q0 : (List UInt8)} {c0 : Nat} {a0 : T_sync_Fact} {r : Bool} {w : World} {h : Qd} (hw : Know h w Vd) (hc0 : h c0 = some (.cells (List.toArray [str q0]) 9 (0, 0))) (H : Wm q0 a0 = some r) : Does Tryz.prog 68 (List.toArray [.agg #[.int .i64 a0.Dot.Device, .int .i64 a0.Dot.N, .int .i64 a0.Time, .int .i64 a0.Kind, .int .i64 a0.Id, str a0.Name, .int .i64 a0.Num, str a0.Text], .pointer (some ⟨c0, 0, none⟩)]) w (fun v w' => v = (.bool r) ∧ Grow w w') := by
 refine enter (n := 13) Tryz.func68 rfl rfl rfl Vd [] (Sat.nil _ _) ?_
 refine Jf ?_
 refine Jb ?_
 refine Zo (cs := [.int .i64 a0.Dot.Device, .int .i64 a0.Dot.N, .int .i64 a0.Time, .int .i64 a0.Kind, .int .i64 a0.Id, str a0.Name, .int .i64 a0.Num, str a0.Text]) rfl rfl rfl rfl (fun b1 => ?_)
 refine Ja rfl rfl rfl (Jc (v := .bool false) rfl) ?_
 refine Jg ?_
 refine Jf ?_
 refine Jb ?_
 refine Ja rfl rfl rfl (Jo Tryz.runUnderlying45 rfl Tryz.sizeOf3 rfl rfl) ?_
 refine Jv (i := 0) (v := .int .i64 a0.Kind) Tryz.isAgg3 rfl rfl rfl rfl rfl ?_
 refine Ja rfl rfl rfl (Xd rfl rfl) ?_
 refine Ja rfl rfl rfl (Je (v := .bool (decide (a0.Kind = 6))) rfl) ?_
 refine split (fun hb => ?_) (fun hb => ?_)
 ·have H3 := Jr hb H; clear H
  refine Ja rfl rfl rfl (Jo Tryz.runUnderlying45 rfl Tryz.sizeOf9 rfl rfl) ?_
  refine Jv (i := 0) (v := str a0.Name) Tryz.isAgg9 rfl rfl rfl rfl rfl ?_
  refine Qo (fun w hF hS => Xo (v := str q0) Tryz.isAgg9 rfl (hw.now hF _ _ hc0) rfl) rfl rfl rfl ?_
  refine Ja rfl rfl rfl (r_eqlT rfl rfl) ?_
  refine Ja rfl rfl rfl (J7 (v := .bool (decide (a0.Name = q0))) rfl rfl) ?_
  refine Ja rfl rfl rfl (Jc (v := .bool (decide (a0.Name = q0))) rfl) ?_
  refine Jg ?_
  refine Jp ?_
  obtain rfl := Option.some.inj H3
  refine J3 (v := .bool (decide (a0.Name = q0))) rfl rfl (Yd rfl)
 ·have H4 := Jq hb H; clear H
  refine Jk rfl rfl rfl ?_
  refine Jk rfl rfl rfl ?_
  refine Jk rfl rfl rfl ?_
  refine Jk rfl rfl rfl ?_
  refine Ja rfl rfl rfl (J1 (v := .bool false) rfl rfl) ?_
  refine Ja rfl rfl rfl (Jc (v := .bool false) rfl) ?_
  refine Jg ?_
  refine Jp ?_
  obtain rfl := Option.some.inj H4
  refine J3 (v := .bool false) rfl rfl (Yd rfl)
theorem k40 {a0 : T_sync_Replica} {pb0 : Nat} {p0_2 : Option Addr × Nat} {n0_2 : Nat} {a1 : (List UInt8)} {r : Int × T_sync_Replica} {w : World} {h : Qd} {S : Nat → Prop} (hcs : (J0 (Jl pb0 [.int .i64 a0.device_, .int .i64 (a0.knows_ 0), .int .i64 (a0.knows_ 1), .int .i64 (a0.knows_ 2), .int .i64 (a0.knows_ 3), .int .i64 (a0.knows_ 4), .int .i64 (a0.knows_ 5), .int .i64 (a0.knows_ 6), .int .i64 (a0.knows_ 7), .int .i64 (a0.knows_ 8), .int .i64 (a0.knows_ 9), .int .i64 (a0.knows_ 10), .int .i64 (a0.knows_ 11), .int .i64 (a0.knows_ 12), .int .i64 (a0.knows_ 13), .int .i64 (a0.knows_ 14), .int .i64 (a0.knows_ 15), .slice p0_2.1 n0_2 p0_2.2] 60) (J2 45 8 (.slice p0_2.1 n0_2 p0_2.2) n0_2 (a0.facts_.map Jd))).P S w) (hlt : ∀ b, S b → b < w.heap.size) (hw : Know h w S) (hn0_2 : n0_2 = a0.facts_.length) (H : Ug a0 a1 = some r) : Does Tryz.prog 40 (List.toArray [.pointer (some ⟨pb0, 0, none⟩), str a1]) w (fun v w' => ∃ x : (Option Addr × Nat), v = (.int .i64 r.1) ∧ Turn w w' S (J0 (Jl pb0 [.int .i64 r.2.device_, .int .i64 (r.2.knows_ 0), .int .i64 (r.2.knows_ 1), .int .i64 (r.2.knows_ 2), .int .i64 (r.2.knows_ 3), .int .i64 (r.2.knows_ 4), .int .i64 (r.2.knows_ 5), .int .i64 (r.2.knows_ 6), .int .i64 (r.2.knows_ 7), .int .i64 (r.2.knows_ 8), .int .i64 (r.2.knows_ 9), .int .i64 (r.2.knows_ 10), .int .i64 (r.2.knows_ 11), .int .i64 (r.2.knows_ 12), .int .i64 (r.2.knows_ 13), .int .i64 (r.2.knows_ 14), .int .i64 (r.2.knows_ 15), .slice x.1 r.2.facts_.length x.2] 60) (J2 45 8 (.slice x.1 r.2.facts_.length x.2) r.2.facts_.length (r.2.facts_.map Jd)))) := by
 refine enter (n := 18) Tryz.func40 rfl rfl rfl S [J0 (Jl pb0 [.int .i64 a0.device_, .int .i64 (a0.knows_ 0), .int .i64 (a0.knows_ 1), .int .i64 (a0.knows_ 2), .int .i64 (a0.knows_ 3), .int .i64 (a0.knows_ 4), .int .i64 (a0.knows_ 5), .int .i64 (a0.knows_ 6), .int .i64 (a0.knows_ 7), .int .i64 (a0.knows_ 8), .int .i64 (a0.knows_ 9), .int .i64 (a0.knows_ 10), .int .i64 (a0.knows_ 11), .int .i64 (a0.knows_ 12), .int .i64 (a0.knows_ 13), .int .i64 (a0.knows_ 14), .int .i64 (a0.knows_ 15), .slice p0_2.1 n0_2 p0_2.2] 60) (J2 45 8 (.slice p0_2.1 n0_2 p0_2.2) n0_2 (a0.facts_.map Jd))] (Sat.one hcs hlt) ?_
 refine Yo 0 rfl ?_
 refine Jf ?_
 refine Jb ?_
 refine Zo (cs := [str a1]) rfl rfl rfl rfl (fun b1 => ?_)
 refine Ja rfl rfl rfl (Jc (v := .int .i64 0) rfl) ?_
 refine Jg ?_
 refine Jf ?_
 refine J5 ?_
 refine Jf ?_
 refine Jb ?_
 refine Jv (i := 2) (v := str a1) Tryz.isAgg9 rfl rfl rfl rfl rfl ?_
 obtain ⟨t7, h_t7, H8⟩ := Ji H; clear H
 refine Q5 (k59 h_t7) Tryz.call59 rfl rfl rfl ?_
 refine Ja rfl rfl rfl (Zm rfl) ?_
 refine Ja rfl rfl rfl (Jc (v := .bool (!t7)) rfl) ?_
 refine Jg ?_
 refine Qg (b := (!t7)) rfl (fun hb => ?_) (fun hb => ?_)
 ·have H9 := Jr hb H8; clear H8
  refine Jf ?_
  refine Jb ?_
  refine Ja rfl rfl rfl (Jc (v := .int .i64 3) rfl) ?_
  refine Jg ?_
  refine Jp ?_
  obtain rfl := Option.some.inj H9
  refine Qa 0 1 rfl rfl (by decide) ?_
  refine J3 (v := .int .i64 3) rfl rfl (Yk p0_2 (i := 0) rfl (by first | rfl | rw [(show n0_2 = a0.facts_.length from hn0_2)]) (by first | exact Imp.refl _ | exact Imp.of (by rw [(show n0_2 = a0.facts_.length from hn0_2)])))
 ·have H10 := Jq hb H8; clear H8
  refine Jf ?_
  refine Jb ?_
  refine Ja rfl rfl rfl (Je (v := .pointer (some ⟨pb0, 0, none⟩)) rfl) ?_
  refine Jv (i := 2) (v := str a1) Tryz.isAgg9 rfl rfl rfl rfl rfl ?_
  obtain ⟨t12, h_t12, H11⟩ := Ji H10; clear H10
  refine Zq (Ql (rds := [0, 1]) (G := fun x : (Option Addr × Nat) => .slice x.1 t12.length x.2) (C := fun x : (Option Addr × Nat) => Jz 92 2 (.slice x.1 t12.length x.2) t12.length (t12.map J4)) (fun w L' hF hS hi => k62 (Jx w) (Zp (i := 1) hn0_2 hS ((hi 1 (by simp)).trans rfl)) (Qj (i := 0) hS ((hi 0 (by simp)).trans rfl)) h_t12) Tryz.call62 rfl) rfl rfl rfl (fun p => ?_)
  refine Ja rfl rfl rfl (U5 Tryz.underlying89 rfl) ?_
  refine Ja rfl rfl rfl (Xd rfl rfl) ?_
  refine Ja rfl rfl rfl (Jc (v := .bool (decide ((t12.length : Int) = 0))) rfl) ?_
  refine Jg ?_
  refine Qg (b := (decide ((t12.length : Int) = 0))) rfl (fun hb => ?_) (fun hb => ?_)
  ·have H12 := Jr hb H11; clear H11
   refine Jf ?_
   refine Jb ?_
   refine Ja rfl rfl rfl (Jc (v := .int .i64 7) rfl) ?_
   refine Jg ?_
   refine Jp ?_
   obtain rfl := Option.some.inj H12
   refine Qa 0 1 rfl rfl (by decide) ?_
   refine J3 (v := .int .i64 7) rfl rfl (Yk p0_2 (i := 0) rfl (by first | rfl | rw [(show n0_2 = a0.facts_.length from hn0_2)]) (by first | exact Imp.refl _ | exact Imp.of (by rw [(show n0_2 = a0.facts_.length from hn0_2)])))
  ·have H13 := Jq hb H11; clear H11
   refine Jw ?_
   refine Jf ?_
   refine Jb ?_
   refine Ja rfl rfl rfl (Je (v := .pointer (some ⟨pb0, 0, none⟩)) rfl) ?_
   refine Ja rfl rfl rfl (Wp (caps := #[.pointer (some ⟨b1, 0, none⟩)]) rfl) ?_
   obtain ⟨t17, h_t17, H14⟩ := Ji H13; clear H13
   refine Qa 0 1 rfl rfl (by decide) ?_
   refine Q4 (J6 (i := 0) (rds := [2]) (G := fun x : (Option Addr × Nat) => .tuple #[]) (C := fun x : (Option Addr × Nat) => J0 (Jl pb0 [.int .i64 t17.device_, .int .i64 (t17.knows_ 0), .int .i64 (t17.knows_ 1), .int .i64 (t17.knows_ 2), .int .i64 (t17.knows_ 3), .int .i64 (t17.knows_ 4), .int .i64 (t17.knows_ 5), .int .i64 (t17.knows_ 6), .int .i64 (t17.knows_ 7), .int .i64 (t17.knows_ 8), .int .i64 (t17.knows_ 9), .int .i64 (t17.knows_ 10), .int .i64 (t17.knows_ 11), .int .i64 (t17.knows_ 12), .int .i64 (t17.knows_ 13), .int .i64 (t17.knows_ 14), .int .i64 (t17.knows_ 15), .slice x.1 t17.facts_.length x.2] 60) (J2 45 8 (.slice x.1 t17.facts_.length x.2) t17.facts_.length (t17.facts_.map Jd))) rfl (fun w L' S hF hS hi hp hlt ho hA => k20 hp hlt (Qn w S) hn0_2 (FnH.mk ⟨68, #[], #[.pointer (some ⟨b1, 0, none⟩)], rfl, Tryz.call68, fun args2 post2 w2 hk2 hR2 => by obtain ⟨a0_, r_, rfl, H_, rfl⟩ := hR2; exact k68 (Jx w2) (hk2.up _ _ (U9 (j := 2) hA hS (by decide) ((hi 2 (by simp)).trans rfl))) H_⟩) (FrS.nil _ _) h_t17) Tryz.call20 rfl) rfl rfl rfl (fun p_2 => ?_)
   refine Q0 0 1 rfl rfl (by decide) ?_
   refine Jg ?_
   refine Jf ?_
   refine W7 [0, 1, 2, 3] [Jl pb0 [.int .i64 t17.device_, .int .i64 (t17.knows_ 0), .int .i64 (t17.knows_ 1), .int .i64 (t17.knows_ 2), .int .i64 (t17.knows_ 3), .int .i64 (t17.knows_ 4), .int .i64 (t17.knows_ 5), .int .i64 (t17.knows_ 6), .int .i64 (t17.knows_ 7), .int .i64 (t17.knows_ 8), .int .i64 (t17.knows_ 9), .int .i64 (t17.knows_ 10), .int .i64 (t17.knows_ 11), .int .i64 (t17.knows_ 12), .int .i64 (t17.knows_ 13), .int .i64 (t17.knows_ 14), .int .i64 (t17.knows_ 15), .slice p_2.1 t17.facts_.length p_2.2] 60, J2 45 8 (.slice p_2.1 t17.facts_.length p_2.2) t17.facts_.length (t17.facts_.map Jd), Jl b1 [str a1] 9, Jz 92 2 (.slice p.1 t12.length p.2) t12.length (t12.map J4)] rfl (by decide) ?_
   refine Jb ?_
   refine Ja rfl rfl rfl (Jc (v := .int .i64 0) rfl) ?_
   refine Jg ?_
   refine Jp ?_
   obtain rfl := Option.some.inj H14
   refine Qa 0 1 rfl rfl (by decide) ?_
   refine J3 (v := .int .i64 0) rfl rfl (Yk p_2 (i := 0) rfl rfl (Imp.refl _))
end Go.Proofs.YtajcmignhnbmiaaGreatDoor
