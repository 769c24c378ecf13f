/- TagSpans, read: the walks, printed by our generator; each follows its model. Conditions: the model yields a value. -/
import Derived.Test.YtemkoikdkfkijaaKPa
import Derived.Test.YtemkoikdkfkijaaMd
namespace Go.Proofs.Ytemkoikdkfkijaa
open Go Go.Vc Go.Md Go.M Go.Lx
set_option maxRecDepth 100000
set_option maxHeartbeats 4000000
set_option linter.unusedVariables false
theorem k28_120 {a0 : (List T_tag_Span)} {p0 : Option Addr × Nat} {n0 : Nat} {r : (List T_tag_Span)} {w : World} {h : J6} {S : Nat → Prop} (hcs : (Jw 62 2 (.slice p0.1 n0 p0.2) n0 (a0.map Ji)).P S w) (hlt : ∀ b, S b → b < w.heap.size) (_ : Know h w S) (hn0 : n0 = a0.length) (H : gSortF a0 Qo = some r) : Does Try.prog 28 (List.toArray [.slice p0.1 n0 p0.2, .func (.func 120) #[] #[]]) w (fun v w' => ∃ x : Unit, v = (.tuple #[]) ∧ Turn w w' S (Jw 62 2 (.slice p0.1 n0 p0.2) n0 (r.map Ji))) :=
  sort_func (ρ := Go.Proofs.Try.sortFP_ren) Go.Proofs.Try.sortFP (k := 2) (fun w => Try.isAgg62 w) (fun w => Try.sizeOf62 w) Ji (fun _ => rfl) (fun x v hv => by simp [Ji] at hv; rcases hv with rfl | rfl <;> rfl) Go.Proofs.Try.entersP (fun x y v W hv => Go.Proofs.Try.cmpP x y v W hv) hcs hlt hn0 H
theorem k28_29 {a0 : (List T_tag_Span)} {p0 : Option Addr × Nat} {n0 : Nat} {r : (List T_tag_Span)} {w : World} {h : J6} {S : Nat → Prop} (hcs : (Jw 62 2 (.slice p0.1 n0 p0.2) n0 (a0.map Ji)).P S w) (hlt : ∀ b, S b → b < w.heap.size) (_ : Know h w S) (hn0 : n0 = a0.length) (H : gSortU a0 Xm = some r) : Does Try.prog 28 (List.toArray [.slice p0.1 n0 p0.2, .func (.func 29) #[] #[]]) w (fun v w' => ∃ x : Unit, v = (.tuple #[]) ∧ Turn w w' S (Jw 62 2 (.slice p0.1 n0 p0.2) n0 (r.map Ji))) :=
  sort_funcU (ρ := Go.Proofs.Try.sortFP_ren) Go.Proofs.Try.sortFP (k := 2) (fun w => Try.isAgg62 w) (fun w => Try.sizeOf62 w) Ji (fun _ => rfl) (fun x v hv => by simp [Ji] at hv; rcases hv with rfl | rfl <;> rfl) Go.Proofs.Try.entersQ (fun x y v W hv => Go.Proofs.Try.cmpQ x y v W hv) hcs hlt hn0 H
theorem k117 {a0 : (List UInt8)} {r : Bool} (H : Ua a0 = some r) : Ret Try.prog 117 [str a0] (.bool r) := by
 refine Vp (n := 14) Try.func117 rfl rfl rfl (fun wd => ?_)
 refine Jf ?_
 refine Jb ?_
 refine Ja rfl rfl rfl (Jd (v := .bool false) rfl) ?_
 refine Jg ?_
 refine Jf ?_
 refine Jf ?_
 refine Jb ?_
 refine Ja rfl rfl rfl (Jc (v := str a0) rfl) ?_
 refine Ja rfl rfl rfl (Ue Try.underlying9 rfl) ?_
 refine Ja rfl rfl rfl (Zn rfl rfl) ?_
 refine Jg ?_
 refine Qf (b := (decide ((a0.length : Int) < 8))) rfl (fun hb => ?_) (fun hb => ?_)
 ·have H7 := Js hb H; clear H
  refine Jf ?_
  refine Jb ?_
  refine Ja rfl rfl rfl (Jd (v := .bool false) rfl) ?_
  refine Jg ?_
  refine J0 ?_
  obtain rfl := Option.some.inj H7
  refine Q2 (v := .bool false) rfl rfl (Zr rfl)
 ·have H8 := Jt hb H; clear H
  refine Ju ?_
  refine Jf ?_
  refine Jb ?_
  refine Ja rfl rfl rfl (Jc (v := str a0) rfl) ?_
  obtain ⟨t7, h_t7, H9⟩ := Jh H8; clear H8
  refine Ja rfl rfl rfl (r_cutToG Try.underlying9 rfl rfl h_t7) ?_
  refine Ja rfl rfl rfl (r_eqlT rfl rfl) ?_
  refine Ja rfl rfl rfl (Jc (v := .bool (decide (t7 = [73, 73, 42, 0]))) rfl) ?_
  refine split (fun hb => ?_) (fun hb => ?_)
  ·have H10 := Js hb H9; clear H9
   refine Jk rfl rfl rfl ?_
   refine Jk rfl rfl rfl ?_
   refine Jk rfl rfl rfl ?_
   refine Ja rfl rfl rfl (Q5 (v := .bool true) rfl rfl) ?_
   refine Ja rfl rfl rfl (Jd (v := .bool true) rfl) ?_
   refine Jg ?_
   refine J0 ?_
   obtain rfl := Option.some.inj H10
   refine Q2 (v := .bool true) rfl rfl (Zr rfl)
  ·have H11 := Jt hb H9; clear H9
   refine Ja rfl rfl rfl (Jc (v := str a0) rfl) ?_
   obtain ⟨t11, h_t11, H12⟩ := Jh H11; clear H11
   refine Ja rfl rfl rfl (r_cutToG Try.underlying9 rfl rfl h_t11) ?_
   refine Ja rfl rfl rfl (r_eqlT rfl rfl) ?_
   refine Ja rfl rfl rfl (Xg (v := .bool (decide (t11 = [77, 77, 0, 42]))) rfl rfl) ?_
   refine Ja rfl rfl rfl (Jd (v := .bool (decide (t11 = [77, 77, 0, 42]))) rfl) ?_
   refine Jg ?_
   refine J0 ?_
   obtain rfl := Option.some.inj H12
   refine Q2 (v := .bool (decide (t11 = [77, 77, 0, 42]))) rfl rfl (Zr rfl)
theorem k89 {a0 : Bool} {a1 : (List UInt8)} {a2 : Int} {a3 : Int} {r : Int} (H : Wa a0 a1 a2 a3 = some r) : Ret Try.prog 89 [.bool a0, str a1, .int .i64 a2, .int .i64 a3] (.int .i64 r) := by
 refine Vp (n := 33) Try.func89 rfl rfl rfl (fun wd => ?_)
 refine Jf ?_
 refine Jb ?_
 refine Ja rfl rfl rfl (Jd (v := .int .i64 0) rfl) ?_
 refine Jg ?_
 refine Jf ?_
 refine Jb ?_
 refine Ja rfl rfl rfl (Jd (v := .int .i64 0) rfl) ?_
 refine Jg ?_
 refine Jf ?_
 refine Jf ?_
 refine Jb ?_
 refine Ja rfl rfl rfl (Jc (v := .int .i64 a3) rfl) ?_
 refine Ja rfl rfl rfl (Jc (v := .int .i64 0) rfl) ?_
 refine Jg ?_
 refine J1 ?_
 refine Z5 (σ := Int × Int) (τ := Unit) (fun next1 s => Xw a0 a1 a2 a3 next1 s.1 s.2) (fun s t => [(0, .bool a0), (1, str a1), (2, .int .i64 a2), (3, .int .i64 a3), (9, .int .i64 s.1), (12, .int .i64 a3), (13, .int .i64 s.2)]) (fun s t => []) (fun s t => True) (0, 0) () [] H (by exact trivial) (by exact ⟨rfl, rfl, rfl, rfl, rfl, rfl, rfl, trivial⟩) (by decide) rfl ?_
 rintro ⟨x9_2, x13_2⟩ _ m1 gg H14 _
 clear H
 replace H14 : Xw a0 a1 a2 a3 (it (fun next1 s => Xw a0 a1 a2 a3 next1 s.1 s.2) m1) x9_2 x13_2 = some r := H14
 generalize hn1 : it (fun next1 s => Xw a0 a1 a2 a3 next1 s.1 s.2) m1 = next1 at H14
 try dsimp only
 refine Jf ?_
 refine Jb ?_
 refine Ja rfl rfl rfl (Zn rfl rfl) ?_
 refine Jg ?_
 refine Jf ?_
 refine Qf (b := (decide (x13_2 < a3))) rfl (fun hb => ?_) (fun hb => ?_)
 ·have H15 := Js hb H14; clear H14
  refine Ju ?_
  refine Jf ?_
  refine J1 ?_
  refine Jf ?_
  refine Jb ?_
  refine Ja rfl rfl rfl (Jc (v := .int .i64 x13_2) rfl) ?_
  refine Ja rfl rfl rfl (Jd (v := .int .i64 x13_2) rfl) ?_
  refine Jg ?_
  refine Jf ?_
  refine Jb ?_
  refine Ja rfl rfl rfl (Jc (v := .int .i64 a3) rfl) ?_
  obtain ⟨t17, h_t17, H16⟩ := Jh H15; clear H15
  refine Ja rfl rfl rfl (Uf rfl rfl h_t17) ?_
  refine Ja rfl rfl rfl (Jc (v := .int .i64 x13_2) rfl) ?_
  obtain ⟨t19, h_t19, H17⟩ := Jh H16; clear H16
  refine Ja rfl rfl rfl (Uf rfl rfl h_t19) ?_
  refine Ja rfl rfl rfl (Jd (v := .int .i64 t19) rfl) ?_
  refine Jg ?_
  refine Xb (r := r) (σ := Int) (τ := Unit) (fun s => Zt a1 a2 x9_2 x13_2 next1 s) (fun s t => [(0, .bool a0), (1, str a1), (2, .int .i64 a2), (3, .int .i64 a3), (9, .int .i64 x9_2), (11, .int .i64 s), (12, .int .i64 a3), (13, .int .i64 x13_2)]) (fun s t => []) (fun s t => True) ?_ ?_
  ·refine Jf ?_
   refine Jb ?_
   refine Ja rfl rfl rfl (Jc (v := .bool a0) rfl) ?_
   refine Jg ?_
   refine Qf (b := a0) rfl (fun hb => ?_) (fun hb => ?_)
   ·have H24 := Js hb H17; clear H17
    refine Jb ?_
    refine Ja rfl rfl rfl (Jc (v := .int .i64 x13_2) rfl) ?_
    refine Ja rfl rfl rfl (Jd (v := .int .i64 x13_2) rfl) ?_
    refine Jg ?_
    refine Jo x13_2 () 0 [] (by exact ⟨rfl, rfl, rfl, rfl, rfl, rfl, rfl, rfl, trivial⟩) (by decide) (by kernel_rfl) (by exact ⟨H24, trivial⟩) (Nat.lt_succ_self _)
   ·have H25 := Jt hb H17; clear H17
    refine Ju ?_
    refine Jo t19 () 0 [] (by exact ⟨rfl, rfl, rfl, rfl, rfl, rfl, rfl, rfl, trivial⟩) (by decide) (by kernel_rfl) (by exact ⟨H25, trivial⟩) (Nat.lt_succ_self _)
  ·rintro x11 _ gg H18 _
   replace H18 : Zt a1 a2 x9_2 x13_2 next1 x11 = some r := H18
   try dsimp only
   refine Jb ?_
   refine Ja rfl rfl rfl (Jc (v := .int .i64 x9_2) rfl) ?_
   obtain ⟨t23, h_t23, H19⟩ := Jh H18; clear H18
   refine Ja rfl rfl rfl (r_shlG rfl rfl h_t23) ?_
   refine Ja rfl rfl rfl (Jc (v := str a1) rfl) ?_
   refine Ja rfl rfl rfl (Jc (v := .int .i64 a2) rfl) ?_
   refine Ja rfl rfl rfl (Jc (v := .int .i64 x11) rfl) ?_
   obtain ⟨t27, h_t27, H20⟩ := Jh H19; clear H19
   refine Ja rfl rfl rfl (Qd rfl rfl h_t27) ?_
   obtain ⟨t28, h_t28, H21⟩ := Jh H20; clear H20
   refine Ja rfl rfl rfl (r_octG Try.underlying9 rfl rfl h_t28) ?_
   obtain ⟨t29, h_t29, H22⟩ := Jh H21; clear H21
   refine Ja rfl rfl rfl (r_convG Try.runUnderlying5 Try.runUnderlying3 rfl (gK_i64 h_t29)) ?_
   refine Ja rfl rfl rfl (r_bitsOr (bits := 64) rfl rfl rfl (wr_i64 _)) ?_
   refine Ja rfl rfl rfl (Jd (v := .int .i64 (wI64 (bOr 64 t23 t29))) rfl) ?_
   refine Jg ?_
   refine Jb ?_
   obtain ⟨t31, h_t31, H23⟩ := Jh H22; clear H22
   refine Ja rfl rfl rfl (Qd rfl rfl h_t31) ?_
   refine Ja rfl rfl rfl (Jc (v := .int .i64 t31) rfl) ?_
   refine Jg ?_
   refine Jo ((wI64 (bOr 64 t23 t29)), t31) () m1 [] (by exact ⟨rfl, rfl, rfl, rfl, rfl, rfl, rfl, trivial⟩) (by decide) (by kernel_rfl) (by exact ⟨(by subst hn1; exact H23), trivial⟩) (Nat.lt_succ_self _)
 ·have H26 := Jt hb H14; clear H14
  refine Xy ?_
  refine Jf ?_
  refine Jb ?_
  refine Ja rfl rfl rfl (Jc (v := .int .i64 x9_2) rfl) ?_
  refine Ja rfl rfl rfl (Jd (v := .int .i64 x9_2) rfl) ?_
  refine Jg ?_
  refine J0 ?_
  obtain rfl := Option.some.inj H26
  refine Q2 (v := .int .i64 x9_2) rfl rfl (Zr rfl)
theorem k118 {a0 : T_tag_reader} {v0_2 : Value} {v0_3 : Value} {pb0 : Nat} {a1 : Int} {a2 : Int} {r : Int} {w : World} {h : J6} (hw : Know h w Wg) (f0_2 : FrS h 2 v0_2 (a0.parts_.map Ji)) (f0_3 : FrM h (fun x_ : Int => .int .i64 x_) (fun x_ : Bool => .bool x_) v0_3 a0.seen_) (hb0 : h pb0 = some (.cells (List.toArray [str a0.s_, .bool a0.big_, v0_2, v0_3, .int .i64 a0.dirs_, (J5 a0.found_), .int .i64 a0.no_]) 165 (0, 0))) (H : Jn a0 a1 a2 = some r) : Does Try.prog 118 (List.toArray [.pointer (some ⟨pb0, 0, none⟩), .int .i64 a1, .int .i64 a2]) w (fun v w' => v = (.int .i64 r) ∧ Grow w w') := by
 refine enter (n := 18) Try.func118 rfl rfl rfl Wg [] (Sat.nil _ _) ?_
 refine Jf ?_
 refine Jb ?_
 refine Ja rfl rfl rfl (Jd (v := .int .i64 0) rfl) ?_
 refine Jg ?_
 refine Jf ?_
 exact Xr (Kd.p :: Kd.p :: Kd.p :: Kd.d [] _ :: Kd.p :: Kd.p :: Kd.p :: Kd.d [] _ :: Kd.p :: Kd.p :: Kd.d [] _ :: Kd.p :: []) 0 mixed (by
  refine Jq rfl rfl (Jc (v := .pointer (some ⟨pb0, 0, none⟩)) rfl) ?_
  refine Jq rfl rfl (Jp rfl) ?_
  refine Jq rfl rfl (Jl Try.runUnderlying165 rfl Try.sizeOf4 rfl rfl) ?_
  refine d_read (fun w hF => run_loadK1 (v := .bool a0.big_) Try.isAgg4 rfl (hw.now hF _ _ hb0) rfl) rfl rfl ?_
  refine Jq rfl rfl (Jc (v := .pointer (some ⟨pb0, 0, none⟩)) rfl) ?_
  refine Jq rfl rfl (Jp rfl) ?_
  refine Jq rfl rfl (Jl Try.runUnderlying165 rfl Try.sizeOf9 rfl rfl) ?_
  refine d_read (fun w hF => run_loadK1 (v := str a0.s_) Try.isAgg9 rfl (hw.now hF _ _ hb0) rfl) rfl rfl ?_
  refine Jq rfl rfl (Jc (v := .int .i64 a1) rfl) ?_
  refine Jq rfl rfl (Jc (v := .int .i64 a2) rfl) ?_
  have h_t17 := Qq H
  have H2 := Qb H
  refine d_call (k89 h_t17) Try.call89 rfl rfl ?_
  refine Jq rfl rfl (Jd (v := .int .i64 (val (Wa a0.big_ a0.s_ a1 a2))) rfl) ?_
  refine Wf ?_
  refine J0 ?_
  obtain rfl := Option.some.inj H2
  refine Q2 (v := .int .i64 (val (Wa a0.big_ a0.s_ a1 a2))) rfl rfl (Zr rfl)
  ) (by kernel_rfl)
theorem k149 {a0 : T_tag_reader} {v0_2 : Value} {v0_3 : Value} {pb0 : Nat} {a1 : Int} {a2 : Int} {r : Bool} {w : World} {h : J6} (hw : Know h w Wg) (f0_2 : FrS h 2 v0_2 (a0.parts_.map Ji)) (f0_3 : FrM h (fun x_ : Int => .int .i64 x_) (fun x_ : Bool => .bool x_) v0_3 a0.seen_) (hb0 : h pb0 = some (.cells (List.toArray [str a0.s_, .bool a0.big_, v0_2, v0_3, .int .i64 a0.dirs_, (J5 a0.found_), .int .i64 a0.no_]) 165 (0, 0))) (H : Zk a0 a1 a2 = some r) : Does Try.prog 149 (List.toArray [.pointer (some ⟨pb0, 0, none⟩), .int .i64 a1, .int .i64 a2]) w (fun v w' => v = (.bool r) ∧ Grow w w') := by
 refine enter (n := 29) Try.func149 rfl rfl rfl Wg [] (Sat.nil _ _) ?_
 refine Jf ?_
 refine Jb ?_
 refine Ja rfl rfl rfl (Jd (v := .bool false) rfl) ?_
 refine Jg ?_
 refine Jf ?_
 refine Jb ?_
 refine Ja rfl rfl rfl (Jc (v := .int .i64 a1) rfl) ?_
 refine Ja rfl rfl rfl (r_geq rfl rfl) ?_
 refine Ja rfl rfl rfl (Jc (v := .bool (decide (8 ≤ a1))) rfl) ?_
 refine split (fun hb => ?_) (fun hb => ?_)
 ·have H6 := Js hb H; clear H
  refine Ja rfl rfl rfl (Jc (v := .int .i64 a2) rfl) ?_
  refine Ja rfl rfl rfl (Jc (v := .pointer (some ⟨pb0, 0, none⟩)) rfl) ?_
  refine Ja rfl rfl rfl (Jp rfl) ?_
  refine Ja rfl rfl rfl (Jl Try.runUnderlying165 rfl Try.sizeOf9 rfl rfl) ?_
  refine Yg (fun w hF hS => run_loadK1 (v := str a0.s_) Try.isAgg9 rfl (hw.now hF _ _ hb0) rfl) rfl rfl rfl ?_
  refine Ja rfl rfl rfl (Ue Try.underlying9 rfl) ?_
  refine Ja rfl rfl rfl (r_leq rfl rfl) ?_
  refine Ja rfl rfl rfl (Q5 (v := .bool (decide (a2 ≤ (a0.s_.length : Int)))) rfl rfl) ?_
  refine Ja rfl rfl rfl (Jc (v := .bool (decide (a2 ≤ (a0.s_.length : Int)))) rfl) ?_
  refine split (fun hb => ?_) (fun hb => ?_)
  ·have H7 := Js hb H6; clear H6
   refine Ja rfl rfl rfl (Jc (v := .int .i64 a1) rfl) ?_
   refine Ja rfl rfl rfl (Jc (v := .pointer (some ⟨pb0, 0, none⟩)) rfl) ?_
   refine Ja rfl rfl rfl (Jp rfl) ?_
   refine Ja rfl rfl rfl (Jl Try.runUnderlying165 rfl Try.sizeOf9 rfl rfl) ?_
   refine Yg (fun w hF hS => run_loadK1 (v := str a0.s_) Try.isAgg9 rfl (hw.now hF _ _ hb0) rfl) rfl rfl rfl ?_
   refine Ja rfl rfl rfl (Ue Try.underlying9 rfl) ?_
   refine Ja rfl rfl rfl (Jc (v := .int .i64 a2) rfl) ?_
   obtain ⟨t26, h_t26, H8⟩ := Jh H7; clear H7
   refine Ja rfl rfl rfl (Uf rfl rfl h_t26) ?_
   refine Ja rfl rfl rfl (r_leq rfl rfl) ?_
   refine Ja rfl rfl rfl (Q5 (v := .bool (decide (a1 ≤ t26))) rfl rfl) ?_
   refine Ja rfl rfl rfl (Jd (v := .bool (decide (a1 ≤ t26))) rfl) ?_
   refine Jg ?_
   refine J0 ?_
   obtain rfl := Option.some.inj H8
   refine Q2 (v := .bool (decide (a1 ≤ t26))) rfl rfl (Zr rfl)
  ·have H9 := Jt hb H6; clear H6
   refine Jk rfl rfl rfl ?_
   refine Jk rfl rfl rfl ?_
   refine Jk rfl rfl rfl ?_
   refine Jk rfl rfl rfl ?_
   refine Jk rfl rfl rfl ?_
   refine Jk rfl rfl rfl ?_
   refine Jk rfl rfl rfl ?_
   refine Jk rfl rfl rfl ?_
   refine Jk rfl rfl rfl ?_
   refine Ja rfl rfl rfl (Xg (v := .bool false) rfl rfl) ?_
   refine Ja rfl rfl rfl (Jd (v := .bool false) rfl) ?_
   refine Jg ?_
   refine J0 ?_
   obtain rfl := Option.some.inj H9
   refine Q2 (v := .bool false) rfl rfl (Zr rfl)
 ·have H10 := Jt hb H; clear H
  refine Jk rfl rfl rfl ?_
  refine Jk rfl rfl rfl ?_
  refine Jk rfl rfl rfl ?_
  refine Jk rfl rfl rfl ?_
  refine Jk rfl rfl rfl ?_
  refine Jk rfl rfl rfl ?_
  refine Jk rfl rfl rfl ?_
  refine Ja rfl rfl rfl (Xg (v := .bool false) rfl rfl) ?_
  refine Ja rfl rfl rfl (Jc (v := .bool false) rfl) ?_
  refine Jk rfl rfl rfl ?_
  refine Jk rfl rfl rfl ?_
  refine Jk rfl rfl rfl ?_
  refine Jk rfl rfl rfl ?_
  refine Jk rfl rfl rfl ?_
  refine Jk rfl rfl rfl ?_
  refine Jk rfl rfl rfl ?_
  refine Jk rfl rfl rfl ?_
  refine Jk rfl rfl rfl ?_
  refine Ja rfl rfl rfl (Xg (v := .bool false) rfl rfl) ?_
  refine Ja rfl rfl rfl (Jd (v := .bool false) rfl) ?_
  refine Jg ?_
  refine J0 ?_
  obtain rfl := Option.some.inj H10
  refine Q2 (v := .bool false) rfl rfl (Zr rfl)
theorem k150 {a0 : T_tag_reader} {pb0 : Nat} {p0_2 : Option Addr × Nat} {n0_2 : Nat} {m0_3 : Nat} {a1 : Int} {r : T_tag_reader} {w : World} {h : J6} {S : Nat → Prop} (hcs : (Jy (Jm pb0 [str a0.s_, .bool a0.big_, .slice p0_2.1 n0_2 p0_2.2, .map (some m0_3), .int .i64 a0.dirs_, (J5 a0.found_), .int .i64 a0.no_] 165) (Jy (Jw 62 2 (.slice p0_2.1 n0_2 p0_2.2) n0_2 (a0.parts_.map Ji)) (Yc (fun x_ : Int => .int .i64 x_) (fun x_ : Bool => .bool x_) m0_3 a0.seen_))).P S w) (hlt : ∀ b, S b → b < w.heap.size) (hw : Know h w S) (hn0_2 : n0_2 = a0.parts_.length) (H : Qj a0 a1 = some r) : Does Try.prog 150 (List.toArray [.pointer (some ⟨pb0, 0, none⟩), .int .i64 a1]) w (fun v w' => ∃ x : (Option Addr × Nat) × Nat, v = (.tuple #[]) ∧ Turn w w' S (Jy (Jm pb0 [str r.s_, .bool r.big_, .slice x.1.1 r.parts_.length x.1.2, .map (some x.2), .int .i64 r.dirs_, (J5 r.found_), .int .i64 r.no_] 165) (Jy (Jw 62 2 (.slice x.1.1 r.parts_.length x.1.2) r.parts_.length (r.parts_.map Ji)) (Yc (fun x_ : Int => .int .i64 x_) (fun x_ : Bool => .bool x_) x.2 r.seen_)))) := by
 refine enter (n := 13) Try.func150 rfl rfl rfl S [Jy (Jm pb0 [str a0.s_, .bool a0.big_, .slice p0_2.1 n0_2 p0_2.2, .map (some m0_3), .int .i64 a0.dirs_, (J5 a0.found_), .int .i64 a0.no_] 165) (Jy (Jw 62 2 (.slice p0_2.1 n0_2 p0_2.2) n0_2 (a0.parts_.map Ji)) (Yc (fun x_ : Int => .int .i64 x_) (fun x_ : Bool => .bool x_) m0_3 a0.seen_))] (Sat.one hcs hlt) ?_
 refine X3 0 rfl ?_
 refine X3 1 rfl ?_
 refine Jf ?_
 refine Jb ?_
 refine Ja rfl rfl rfl (Jc (v := .pointer (some ⟨pb0, 0, none⟩)) rfl) ?_
 refine Ja rfl rfl rfl (Jp rfl) ?_
 refine Ja rfl rfl rfl (Jl Try.runUnderlying165 rfl Try.sizeOf30 rfl rfl) ?_
 refine Jr (i := 0) (v := .int .i64 a0.no_) Try.isAgg30 rfl rfl rfl rfl rfl ?_
 refine Ja rfl rfl rfl (Xq rfl rfl) ?_
 refine Jg ?_
 refine Qf (b := (decide (a0.no_ = 0))) rfl (fun hb => ?_) (fun hb => ?_)
 ·have H3 := Js hb H; clear H
  refine Jb ?_
  refine Ja rfl rfl rfl (Jc (v := .pointer (some ⟨pb0, 0, none⟩)) rfl) ?_
  refine Ja rfl rfl rfl (Jc (v := .int .i64 a1) rfl) ?_
  refine Ja rfl rfl rfl (Jp rfl) ?_
  refine Ja rfl rfl rfl (Jl Try.runUnderlying165 rfl Try.sizeOf30 rfl rfl) ?_
  refine Qx (i := 0) (vs := [.int .i64 a1]) (cs' := [str a0.s_, .bool a0.big_, .slice p0_2.1 n0_2 p0_2.2, .map (some m0_3), .int .i64 a0.dirs_, (J5 a0.found_), .int .i64 a1]) Try.sizeOf30 rfl rfl rfl rfl rfl rfl rfl rfl rfl ?_
  refine Jg ?_
  obtain rfl := Option.some.inj H3
  refine Jx 1 2 rfl rfl (by decide) ?_
  refine Jx 0 1 rfl rfl (by decide) ?_
  refine ret0n rfl (Wm (p0_2, m0_3) (i := 0) rfl (by first | rfl | rw [(show n0_2 = a0.parts_.length from hn0_2)]) (by first | exact Imp.refl _ | exact Imp.of (by rw [(show n0_2 = a0.parts_.length from hn0_2)])))
 ·have H4 := Jt hb H; clear H
  refine Ju ?_
  obtain rfl := Option.some.inj H4
  refine Jx 1 2 rfl rfl (by decide) ?_
  refine Jx 0 1 rfl rfl (by decide) ?_
  refine ret0n rfl (Wm (p0_2, m0_3) (i := 0) rfl (by first | rfl | rw [(show n0_2 = a0.parts_.length from hn0_2)]) (by first | exact Imp.refl _ | exact Imp.of (by rw [(show n0_2 = a0.parts_.length from hn0_2)])))
theorem k45 {a0 : (List Int)} {v0 : Value} {r : (List Int)} {w : World} {h : J6} (hw : Know h w Wg) (f0 : FrS h 1 v0 (a0.map Xx)) (H : Vf a0 = some r) : Does Try.prog 45 (List.toArray [v0]) w (fun v w' => ∃ x : (Option Addr × Nat), v = (.slice x.1 r.length x.2) ∧ Turn w w' Wg (Jw 3 1 (.slice x.1 r.length x.2) r.length (r.map Xx))) := by
 refine enter (n := 8) Try.func45 rfl rfl rfl Wg [] (Sat.nil _ _) ?_
 refine Jf ?_
 refine Jb ?_
 refine Ja rfl rfl rfl (Jd (v := .slice none 0 0) rfl) ?_
 refine Jg ?_
 refine Jf ?_
 refine Jf ?_
 refine Jb ?_
 refine Ja rfl rfl rfl (Jc (v := v0) rfl) ?_
 refine Ja rfl rfl rfl (r_eqlNilS Try.underlying25 f0 rfl rfl) ?_
 refine Jg ?_
 refine Qf (b := isNilV v0) rfl (fun hb => ?_) (fun hb => ?_)
 ·have hn_ : a0 = [] := f0.nilV hb
  have H3 : some ([] : List Int) = some r := by have h_ := H; rw [hn_] at h_; exact h_
  refine Jf ?_
  refine Jb ?_
  refine Ja rfl rfl rfl (Jd (v := .slice none 0 0) rfl) ?_
  refine Jg ?_
  refine J0 ?_
  refine Ql 3 1 ?_
  obtain rfl := Option.some.inj H3
  refine Q2 (v := .slice ((none, 0) : Option Addr × Nat).1 ([] : List Int).length ((none, 0) : Option Addr × Nat).2) rfl rfl (Wm ((none, 0) : Option Addr × Nat) (i := 0) rfl rfl (Imp.refl _))
 ·skip
  refine Ju ?_
  refine Jf ?_
  refine Jb ?_
  refine Qr (vs := []) (cs := []) Try.underlying25 Try.sizeOf3 Try.zeroValue3 rfl rfl rfl rfl rfl rfl rfl (fun b1 => ?_)
  refine Ja rfl rfl rfl (Jc (v := v0) rfl) ?_
  refine V5 0 rfl (imp_box (m := 0) (E := 3) (sz := 1) (xs := (([] : List Int)).map Xx) rfl rfl rfl ⟨rfl, by decide⟩) ?_
  obtain ⟨l7, h_l7, H4⟩ := Jh H; clear H
  refine Qv (Xd (i := 0) (hn := rfl) (rds := []) (p := ((some ⟨b1, 0, none⟩, 0) : Option Addr × Nat)) (sz := 1) (by_ := 8) (f := Xx) (ys := ([] : List Int)) (ls := a0) (V := v0) Try.underlying25 (Xn Try.typeInfo3) rfl rfl rfl rfl rfl rfl rfl rfl f0.eq (List.length_map _) (fun w L' hF hS hi => (f0).row (hw.now hF)) (fun _ => rfl) (fun _ => rfl) h_l7) rfl rfl rfl (fun p => ?_)
  refine Ja rfl rfl rfl (Jd (v := .slice p.1 l7.length p.2) rfl) ?_
  refine Jg ?_
  refine J0 ?_
  obtain rfl := Option.some.inj H4
  refine Q2 (v := .slice p.1 l7.length p.2) rfl rfl (Wm p (i := 0) rfl rfl (Imp.refl _))
theorem k187 {a0 : T_tag_reader} {pb0 : Nat} {p0_2 : Option Addr × Nat} {n0_2 : Nat} {m0_3 : Nat} {a1 : (List UInt8)} {r : (List UInt8) × T_tag_reader} {w : World} {h : J6} {S : Nat → Prop} (hcs : (Jy (Jm pb0 [str a0.s_, .bool a0.big_, .slice p0_2.1 n0_2 p0_2.2, .map (some m0_3), .int .i64 a0.dirs_, (J5 a0.found_), .int .i64 a0.no_] 165) (Jy (Jw 62 2 (.slice p0_2.1 n0_2 p0_2.2) n0_2 (a0.parts_.map Ji)) (Yc (fun x_ : Int => .int .i64 x_) (fun x_ : Bool => .bool x_) m0_3 a0.seen_))).P S w) (hlt : ∀ b, S b → b < w.heap.size) (hw : Know h w S) (hn0_2 : n0_2 = a0.parts_.length) (H : V6 a0 a1 = some r) : Does Try.prog 187 (List.toArray [.pointer (some ⟨pb0, 0, none⟩), str a1]) w (fun v w' => ∃ x : (Option Addr × Nat) × Nat, v = (str r.1) ∧ Turn w w' S (Jy (Jm pb0 [str r.2.s_, .bool r.2.big_, .slice x.1.1 r.2.parts_.length x.1.2, .map (some x.2), .int .i64 r.2.dirs_, (J5 r.2.found_), .int .i64 r.2.no_] 165) (Jy (Jw 62 2 (.slice x.1.1 r.2.parts_.length x.1.2) r.2.parts_.length (r.2.parts_.map Ji)) (Yc (fun x_ : Int => .int .i64 x_) (fun x_ : Bool => .bool x_) x.2 r.2.seen_)))) := by
 refine enter (n := 36) Try.func187 rfl rfl rfl S [Jy (Jm pb0 [str a0.s_, .bool a0.big_, .slice p0_2.1 n0_2 p0_2.2, .map (some m0_3), .int .i64 a0.dirs_, (J5 a0.found_), .int .i64 a0.no_] 165) (Jy (Jw 62 2 (.slice p0_2.1 n0_2 p0_2.2) n0_2 (a0.parts_.map Ji)) (Yc (fun x_ : Int => .int .i64 x_) (fun x_ : Bool => .bool x_) m0_3 a0.seen_))] (Sat.one hcs hlt) ?_
 refine X3 0 rfl ?_
 refine X3 1 rfl ?_
 refine Jf ?_
 refine Jb ?_
 refine Ja rfl rfl rfl (Jd (v := str []) rfl) ?_
 refine Jg ?_
 refine Jf ?_
 refine Jf ?_
 refine Jb ?_
 refine Ja rfl rfl rfl (Jc (v := str a1) rfl) ?_
 refine Ja rfl rfl rfl (r_eqlT rfl rfl) ?_
 refine Ja rfl rfl rfl (Jc (v := .bool (decide (a1 = []))) rfl) ?_
 refine split (fun hb => ?_) (fun hb => ?_)
 ·have H20 := Js hb H; clear H
  refine Jk rfl rfl rfl ?_
  refine Jk rfl rfl rfl ?_
  refine Jk rfl rfl rfl ?_
  refine Jk rfl rfl rfl ?_
  refine Jk rfl rfl rfl ?_
  refine Jk rfl rfl rfl ?_
  refine Ja rfl rfl rfl (Q5 (v := .bool true) rfl rfl) ?_
  refine Jg ?_
  refine c_true rfl ?_
  refine Jf ?_
  refine Jb ?_
  refine Ja rfl rfl rfl (Jc (v := .pointer (some ⟨pb0, 0, none⟩)) rfl) ?_
  obtain ⟨t17, h_t17, H21⟩ := Jh H20; clear H20
  refine Jx 1 2 rfl rfl (by decide) ?_
  refine Jx 0 1 rfl rfl (by decide) ?_
  refine Qv (Qc (i := 0) (rds := []) (G := fun x : (Option Addr × Nat) × Nat => .tuple #[]) (C := fun x : (Option Addr × Nat) × Nat => Jy (Jm pb0 [str t17.s_, .bool t17.big_, .slice x.1.1 t17.parts_.length x.1.2, .map (some x.2), .int .i64 t17.dirs_, (J5 t17.found_), .int .i64 t17.no_] 165) (Jy (Jw 62 2 (.slice x.1.1 t17.parts_.length x.1.2) t17.parts_.length (t17.parts_.map Ji)) (Yc (fun x_ : Int => .int .i64 x_) (fun x_ : Bool => .bool x_) x.2 t17.seen_))) rfl (fun w L' S hF hS hi hp hlt ho hA => k150 hp hlt (Q8 w S) hn0_2 h_t17) Try.call150 rfl) rfl rfl rfl (fun ⟨p, p_2⟩ => ?_)
  refine J2 0 1 rfl rfl (by decide) ?_
  refine J2 1 2 rfl rfl (by decide) ?_
  refine Jg ?_
  refine Jf ?_
  try dsimp only [z1, z2, z5, z6, z7, z8]
  refine Jb ?_
  refine Ja rfl rfl rfl (Jd (v := str []) rfl) ?_
  refine Jg ?_
  refine J0 ?_
  obtain rfl := Option.some.inj H21
  refine Jx 1 2 rfl rfl (by decide) ?_
  refine Jx 0 1 rfl rfl (by decide) ?_
  refine Q2 (v := str []) rfl rfl (Wm (p, p_2) (i := 0) rfl rfl (Imp.refl _))
 ·have H22 := Jt hb H; clear H
  refine Ja rfl rfl rfl (Jc (v := str a1) rfl) ?_
  refine Ja rfl rfl rfl (Jc (v := str a1) rfl) ?_
  refine Ja rfl rfl rfl (Ue Try.underlying9 rfl) ?_
  obtain ⟨t12, h_t12, H23⟩ := Jh H22; clear H22
  refine Ja rfl rfl rfl (Uf rfl rfl h_t12) ?_
  obtain ⟨t13, h_t13, H24⟩ := Jh H23; clear H23
  refine Ja rfl rfl rfl (r_octG Try.underlying9 rfl rfl h_t13) ?_
  refine Ja rfl rfl rfl (V3 rfl rfl) ?_
  refine Ja rfl rfl rfl (Xg (v := .bool (decide (t13 ≠ 0))) rfl rfl) ?_
  refine Jg ?_
  refine Qf (b := (decide (t13 ≠ 0))) rfl (fun hb => ?_) (fun hb => ?_)
  ·have H25 := Js hb H24; clear H24
   refine Jf ?_
   refine Jb ?_
   refine Ja rfl rfl rfl (Jc (v := .pointer (some ⟨pb0, 0, none⟩)) rfl) ?_
   obtain ⟨t17_2, h_t17_2, H26⟩ := Jh H25; clear H25
   refine Jx 1 2 rfl rfl (by decide) ?_
   refine Jx 0 1 rfl rfl (by decide) ?_
   refine Qv (Qc (i := 0) (rds := []) (G := fun x : (Option Addr × Nat) × Nat => .tuple #[]) (C := fun x : (Option Addr × Nat) × Nat => Jy (Jm pb0 [str t17_2.s_, .bool t17_2.big_, .slice x.1.1 t17_2.parts_.length x.1.2, .map (some x.2), .int .i64 t17_2.dirs_, (J5 t17_2.found_), .int .i64 t17_2.no_] 165) (Jy (Jw 62 2 (.slice x.1.1 t17_2.parts_.length x.1.2) t17_2.parts_.length (t17_2.parts_.map Ji)) (Yc (fun x_ : Int => .int .i64 x_) (fun x_ : Bool => .bool x_) x.2 t17_2.seen_))) rfl (fun w L' S hF hS hi hp hlt ho hA => k150 hp hlt (Q8 w S) hn0_2 h_t17_2) Try.call150 rfl) rfl rfl rfl (fun ⟨p_3, p_4⟩ => ?_)
   refine J2 0 1 rfl rfl (by decide) ?_
   refine J2 1 2 rfl rfl (by decide) ?_
   refine Jg ?_
   refine Jf ?_
   try dsimp only [z1, z2, z5, z6, z7, z8]
   refine Jb ?_
   refine Ja rfl rfl rfl (Jd (v := str []) rfl) ?_
   refine Jg ?_
   refine J0 ?_
   obtain rfl := Option.some.inj H26
   refine Jx 1 2 rfl rfl (by decide) ?_
   refine Jx 0 1 rfl rfl (by decide) ?_
   refine Q2 (v := str []) rfl rfl (Wm (p_3, p_4) (i := 0) rfl rfl (Imp.refl _))
  ·have H27 := Jt hb H24; clear H24
   refine Ju ?_
   refine Jf ?_
   refine Jb ?_
   refine Ja rfl rfl rfl (Jc (v := str a1) rfl) ?_
   refine Ja rfl rfl rfl (Jc (v := str a1) rfl) ?_
   refine Ja rfl rfl rfl (Ue Try.underlying9 rfl) ?_
   obtain ⟨t21, h_t21, H28⟩ := Jh H27; clear H27
   refine Ja rfl rfl rfl (Uf rfl rfl h_t21) ?_
   obtain ⟨t22, h_t22, H29⟩ := Jh H28; clear H28
   refine Ja rfl rfl rfl (r_cutToG Try.underlying9 rfl rfl h_t22) ?_
   refine Ja rfl rfl rfl (Jd (v := str t22) rfl) ?_
   refine Jg ?_
   refine Jf ?_
   refine Jf ?_
   refine Jb ?_
   refine Ja rfl rfl rfl (Jc (v := str t22) rfl) ?_
   refine Ja rfl rfl rfl (Ue Try.underlying9 rfl) ?_
   refine Ja rfl rfl rfl (Jc (v := .int .i64 0) rfl) ?_
   refine Jg ?_
   refine J1 ?_
   refine Z5 (σ := Int × (List UInt8) × Bool × Int × Nat × Int × (List T_tag_Span) × (List (Int × Bool))) (τ := (Option Addr × Nat) × Nat × Nat) (fun next1 s => Qp t22 next1 s.1 s.2.1 s.2.2.1 s.2.2.2.1 s.2.2.2.2.1 s.2.2.2.2.2.1 s.2.2.2.2.2.2.1 s.2.2.2.2.2.2.2) (fun s t => [(0, .pointer (some ⟨pb0, 0, none⟩)), (1, str t22), (24, .int .i64 (t22.length : Int)), (25, .int .i64 s.1)]) (fun s t => [Jm pb0 [str s.2.1, .bool s.2.2.1, .slice t.1.1 t.2.1 t.1.2, .map (some t.2.2), .int .i64 s.2.2.2.1, (J5 s.2.2.2.2.1), .int .i64 s.2.2.2.2.2.1] 165, Jw 62 2 (.slice t.1.1 t.2.1 t.1.2) t.2.1 (s.2.2.2.2.2.2.1.map Ji), Yc (fun x_ : Int => .int .i64 x_) (fun x_ : Bool => .bool x_) t.2.2 s.2.2.2.2.2.2.2]) (fun s t => t.2.1 = s.2.2.2.2.2.2.1.length) (0, a0.s_, a0.big_, a0.dirs_, a0.found_, a0.no_, a0.parts_, a0.seen_) (p0_2, n0_2, m0_3) [0, 1, 2] H29 (by exact hn0_2) (by exact ⟨rfl, rfl, rfl, rfl, trivial⟩) (by decide) rfl ?_
   rintro ⟨x25_2, m_6, m_7, m_8, m_9, m_10, l_2, mp_2⟩ ⟨p_5, n, b⟩ m1 gg H30 hl_2
   clear H29
   replace H30 : Qp t22 (it (fun next1 s => Qp t22 next1 s.1 s.2.1 s.2.2.1 s.2.2.2.1 s.2.2.2.2.1 s.2.2.2.2.2.1 s.2.2.2.2.2.2.1 s.2.2.2.2.2.2.2) m1) x25_2 m_6 m_7 m_8 m_9 m_10 l_2 mp_2 = some r := H30
   generalize hn1 : it (fun next1 s => Qp t22 next1 s.1 s.2.1 s.2.2.1 s.2.2.2.1 s.2.2.2.2.1 s.2.2.2.2.2.1 s.2.2.2.2.2.2.1 s.2.2.2.2.2.2.2) m1 = next1 at H30
   try dsimp only
   refine Jf ?_
   refine Jb ?_
   refine Ja rfl rfl rfl (Zn rfl rfl) ?_
   refine Jg ?_
   refine Jf ?_
   refine Qf (b := (decide (x25_2 < (t22.length : Int)))) rfl (fun hb => ?_) (fun hb => ?_)
   ·have H31 := Js hb H30; clear H30
    refine Ju ?_
    refine Xb (r := r) (σ := (List UInt8) × Bool × Int × Nat × Int × (List T_tag_Span) × (List (Int × Bool))) (τ := (Option Addr × Nat) × Nat × Nat) (fun s => Yn x25_2 next1 s.1 s.2.1 s.2.2.1 s.2.2.2.1 s.2.2.2.2.1 s.2.2.2.2.2.1 s.2.2.2.2.2.2) (fun s t => [(0, .pointer (some ⟨pb0, 0, none⟩)), (1, str t22), (24, .int .i64 (t22.length : Int)), (25, .int .i64 x25_2)]) (fun s t => [Jm pb0 [str s.1, .bool s.2.1, .slice t.1.1 t.2.1 t.1.2, .map (some t.2.2), .int .i64 s.2.2.1, (J5 s.2.2.2.1), .int .i64 s.2.2.2.2.1] 165, Jw 62 2 (.slice t.1.1 t.2.1 t.1.2) t.2.1 (s.2.2.2.2.2.1.map Ji), Yc (fun x_ : Int => .int .i64 x_) (fun x_ : Bool => .bool x_) t.2.2 s.2.2.2.2.2.2]) (fun s t => t.2.1 = s.2.2.2.2.2.1.length) ?_ ?_
    ·refine J1 ?_
     refine Jf ?_
     refine Jb ?_
     refine Ja rfl rfl rfl (Jc (v := .int .i64 x25_2) rfl) ?_
     refine Ja rfl rfl rfl (Jd (v := .int .i64 x25_2) rfl) ?_
     refine Jg ?_
     refine Jf ?_
     refine Jb ?_
     refine Ja rfl rfl rfl (Jc (v := str t22) rfl) ?_
     refine Ja rfl rfl rfl (Jc (v := .int .i64 x25_2) rfl) ?_
     obtain ⟨t30, h_t30, H34⟩ := Jh H31; clear H31
     refine Ja rfl rfl rfl (r_octG Try.underlying9 rfl rfl h_t30) ?_
     refine Ja rfl rfl rfl (Xq rfl rfl) ?_
     refine Jg ?_
     refine Qf (b := (decide (t30 = 0))) rfl (fun hb => ?_) (fun hb => ?_)
     ·have H35 := Js hb H34; clear H34
      refine Jb ?_
      refine Ja rfl rfl rfl (Jc (v := .pointer (some ⟨pb0, 0, none⟩)) rfl) ?_
      obtain ⟨t33, h_t33, H36⟩ := Jh H35; clear H35
      refine Jx 1 2 rfl rfl (by decide) ?_
      refine Jx 0 1 rfl rfl (by decide) ?_
      refine Qv (Qc (i := 0) (rds := []) (G := fun x : (Option Addr × Nat) × Nat => .tuple #[]) (C := fun x : (Option Addr × Nat) × Nat => Jy (Jm pb0 [str t33.s_, .bool t33.big_, .slice x.1.1 t33.parts_.length x.1.2, .map (some x.2), .int .i64 t33.dirs_, (J5 t33.found_), .int .i64 t33.no_] 165) (Jy (Jw 62 2 (.slice x.1.1 t33.parts_.length x.1.2) t33.parts_.length (t33.parts_.map Ji)) (Yc (fun x_ : Int => .int .i64 x_) (fun x_ : Bool => .bool x_) x.2 t33.seen_))) rfl (fun w L' S hF hS hi hp hlt ho hA => k150 hp hlt (Q8 w S) hl_2 h_t33) Try.call150 rfl) rfl rfl rfl (fun ⟨p_7, p_8⟩ => ?_)
      refine J2 0 1 rfl rfl (by decide) ?_
      refine J2 1 2 rfl rfl (by decide) ?_
      refine Jg ?_
      refine Jo (t33.s_, t33.big_, t33.dirs_, t33.found_, t33.no_, t33.parts_, t33.seen_) (p_7, t33.parts_.length, p_8) 0 [0, 1, 2] (by exact ⟨rfl, rfl, rfl, rfl, trivial⟩) (by decide) (by kernel_rfl) (by exact ⟨H36, rfl⟩) (Nat.lt_succ_self _)
     ·have H37 := Jt hb H34; clear H34
      refine Ju ?_
      refine Jo (m_6, m_7, m_8, m_9, m_10, l_2, mp_2) (p_5, n, b) 0 [0, 1, 2] (by exact ⟨rfl, rfl, rfl, rfl, trivial⟩) (by decide) (by kernel_rfl) (by exact ⟨H37, hl_2⟩) (Nat.lt_succ_self _)
    ·rintro ⟨m_11, m_12, m_13, m_14, m_15, l_3, mp_3⟩ ⟨p_6, n_2, b_2⟩ gg H32 hl_3
     replace H32 : Yn x25_2 next1 m_11 m_12 m_13 m_14 m_15 l_3 mp_3 = some r := H32
     try dsimp only
     refine Jb ?_
     obtain ⟨t34, h_t34, H33⟩ := Jh H32; clear H32
     refine Ja rfl rfl rfl (Qd rfl rfl h_t34) ?_
     refine Ja rfl rfl rfl (Jc (v := .int .i64 t34) rfl) ?_
     refine Jg ?_
     refine Jo (t34, m_11, m_12, m_13, m_14, m_15, l_3, mp_3) (p_6, n_2, b_2) m1 [0, 1, 2] (by exact ⟨rfl, rfl, rfl, rfl, trivial⟩) (by decide) (by kernel_rfl) (by exact ⟨(by subst hn1; exact H33), hl_3⟩) (Nat.lt_succ_self _)
   ·have H38 := Jt hb H30; clear H30
    refine Xy ?_
    refine Jf ?_
    try dsimp only [z1, z2, z5, z6, z7, z8]
    refine Jb ?_
    refine Ja rfl rfl rfl (Jc (v := str t22) rfl) ?_
    refine Ja rfl rfl rfl (Jd (v := str t22) rfl) ?_
    refine Jg ?_
    refine J0 ?_
    obtain rfl := Option.some.inj H38
    refine Jx 1 2 rfl rfl (by decide) ?_
    refine Jx 0 1 rfl rfl (by decide) ?_
    refine Q2 (v := str t22) rfl rfl (Wm (p_5, b) (i := 0) rfl (by first | rfl | rw [(show n = l_2.length from hl_2)]) (by first | exact Imp.refl _ | exact Imp.of (by rw [(show n = l_2.length from hl_2)])))
theorem k176 {a0 : T_tag_reader} {pb0 : Nat} {p0_2 : Option Addr × Nat} {n0_2 : Nat} {m0_3 : Nat} {a1 : Int} {a2 : Int} {a3 : Int} {r : T_tag_Value × T_tag_reader} {w : World} {h : J6} {S : Nat → Prop} (hcs : (Jy (Jm pb0 [str a0.s_, .bool a0.big_, .slice p0_2.1 n0_2 p0_2.2, .map (some m0_3), .int .i64 a0.dirs_, (J5 a0.found_), .int .i64 a0.no_] 165) (Jy (Jw 62 2 (.slice p0_2.1 n0_2 p0_2.2) n0_2 (a0.parts_.map Ji)) (Yc (fun x_ : Int => .int .i64 x_) (fun x_ : Bool => .bool x_) m0_3 a0.seen_))).P S w) (hlt : ∀ b, S b → b < w.heap.size) (hw : Know h w S) (hn0_2 : n0_2 = a0.parts_.length) (H : V8 a0 a1 a2 a3 = some r) : Does Try.prog 176 (List.toArray [.pointer (some ⟨pb0, 0, none⟩), .int .i64 a1, .int .i64 a2, .int .i64 a3]) w (fun v w' => ∃ x : (Option Addr × Nat) × (Option Addr × Nat) × (Option Addr × Nat) × (Option Addr × Nat) × Nat, v = (.agg #[.int .i64 r.1.Kind, str r.1.Text, .slice x.1.1 r.1.Ints.length x.1.2, .slice x.2.1.1 r.1.Ratios.length x.2.1.2, .slice x.2.2.1.1 r.1.Entries.length x.2.2.1.2]) ∧ Turn w w' S (Jy (Jm pb0 [str r.2.s_, .bool r.2.big_, .slice x.2.2.2.1.1 r.2.parts_.length x.2.2.2.1.2, .map (some x.2.2.2.2), .int .i64 r.2.dirs_, (J5 r.2.found_), .int .i64 r.2.no_] 165) (Jy (Jw 62 2 (.slice x.2.2.2.1.1 r.2.parts_.length x.2.2.2.1.2) r.2.parts_.length (r.2.parts_.map Ji)) (Jy (Yc (fun x_ : Int => .int .i64 x_) (fun x_ : Bool => .bool x_) x.2.2.2.2 r.2.seen_) (Jy (Jw 3 1 (.slice x.1.1 r.1.Ints.length x.1.2) r.1.Ints.length (r.1.Ints.map Xx)) (Jy (Jw 103 2 (.slice x.2.1.1 r.1.Ratios.length x.2.1.2) r.1.Ratios.length (r.1.Ratios.map J7)) (rowD 96 6 g_tag_Entry (.slice x.2.2.1.1 r.1.Entries.length x.2.2.1.2) r.1.Entries.length r.1.Entries))))))) := by
 refine enter (n := 131) Try.func176 rfl rfl rfl S [Jy (Jm pb0 [str a0.s_, .bool a0.big_, .slice p0_2.1 n0_2 p0_2.2, .map (some m0_3), .int .i64 a0.dirs_, (J5 a0.found_), .int .i64 a0.no_] 165) (Jy (Jw 62 2 (.slice p0_2.1 n0_2 p0_2.2) n0_2 (a0.parts_.map Ji)) (Yc (fun x_ : Int => .int .i64 x_) (fun x_ : Bool => .bool x_) m0_3 a0.seen_))] (Sat.one hcs hlt) ?_
 refine X3 0 rfl ?_
 refine X3 1 rfl ?_
 refine Wb Vt ?_
 refine Jf ?_
 refine Jb ?_
 refine Zf (cs := [.int .i64 0, str [], .slice none 0 0, .slice none 0 0, .slice none 0 0]) Try.zeroValue29 rfl rfl rfl (fun b5 => ?_)
 refine Jg ?_
 refine Jf ?_
 refine Jb ?_
 refine Ja rfl rfl rfl (Jc (v := .int .i64 a2) rfl) ?_
 refine Ja rfl rfl rfl (Jc (v := .int .i64 a1) rfl) ?_
 obtain ⟨t17, h_t17, H50⟩ := Jh H; clear H
 refine Z8 (k136 h_t17) Try.call136 rfl rfl rfl ?_
 obtain ⟨t18, h_t18, H51⟩ := Jh H50; clear H50
 refine Ja rfl rfl rfl (Ud rfl rfl h_t18) ?_
 refine Ja rfl rfl rfl (Jd (v := .int .i64 t18) rfl) ?_
 refine Jg ?_
 refine Jf ?_
 refine Jb ?_
 refine Ja rfl rfl rfl (Jc (v := .int .i64 a3) rfl) ?_
 refine Ja rfl rfl rfl (Jd (v := .int .i64 a3) rfl) ?_
 refine Jg ?_
 refine Xb (r := r) (σ := Int × (List T_tag_Span)) (τ := (Option Addr × Nat) × Nat) (fun s => Yp a0 a1 a2 t18 s.1 s.2) (fun s t => [(0, .pointer (some ⟨pb0, 0, none⟩)), (1, .int .i64 a1), (2, .int .i64 a2), (8, .pointer (some ⟨b5, 0, none⟩)), (9, .int .i64 t18), (10, .int .i64 s.1)]) (fun s t => [Jm pb0 [str a0.s_, .bool a0.big_, .slice t.1.1 t.2 t.1.2, .map (some m0_3), .int .i64 a0.dirs_, (J5 a0.found_), .int .i64 a0.no_] 165, Jw 62 2 (.slice t.1.1 t.2 t.1.2) t.2 (s.2.map Ji), Yc (fun x_ : Int => .int .i64 x_) (fun x_ : Bool => .bool x_) m0_3 a0.seen_, Zi Vt Vt, Jm b5 [.int .i64 0, str [], .slice none 0 0, .slice none 0 0, .slice none 0 0] 29]) (fun s t => t.2 = s.2.length) ?_ ?_
 ·refine Jf ?_
  refine Jb ?_
  refine Ja rfl rfl rfl (Jc (v := .int .i64 t18) rfl) ?_
  refine Ja rfl rfl rfl (Wq rfl rfl) ?_
  refine Jg ?_
  refine Qf (b := (decide (4 < t18))) rfl (fun hb => ?_) (fun hb => ?_)
  ·have H90 := Js hb H51; clear H51
   refine Jf ?_
   refine Jb ?_
   refine Ja rfl rfl rfl (Jc (v := .pointer (some ⟨pb0, 0, none⟩)) rfl) ?_
   refine Ja rfl rfl rfl (Jc (v := .int .i64 a3) rfl) ?_
   obtain ⟨t24, h_t24, H91⟩ := Jh H90; clear H90
   refine Xt (fun w hF hS => k118 (a0 := a0) (J3 w) (Z1 (i := 1) hn0_2 hS rfl) (Vj (fk := (fun x_ : Int => .int .i64 x_)) (fv := (fun x_ : Bool => .bool x_)) (i := 2) hS rfl) (Q3 (i := 0) hS rfl) h_t24) Try.call118 rfl rfl rfl ?_
   refine Ja rfl rfl rfl (Jd (v := .int .i64 t24) rfl) ?_
   refine Jg ?_
   refine Jf ?_
   refine Jf ?_
   refine Jb ?_
   refine Ja rfl rfl rfl (Jc (v := .pointer (some ⟨pb0, 0, none⟩)) rfl) ?_
   refine Ja rfl rfl rfl (Jc (v := .int .i64 t24) rfl) ?_
   refine Ja rfl rfl rfl (Jc (v := .int .i64 t18) rfl) ?_
   obtain ⟨t28, h_t28, H92⟩ := Jh H91; clear H91
   refine Xt (fun w hF hS => k149 (a0 := a0) (J3 w) (Z1 (i := 1) hn0_2 hS rfl) (Vj (fk := (fun x_ : Int => .int .i64 x_)) (fv := (fun x_ : Bool => .bool x_)) (i := 2) hS rfl) (Q3 (i := 0) hS rfl) h_t28) Try.call149 rfl rfl rfl ?_
   refine Ja rfl rfl rfl (r_not rfl) ?_
   refine Jg ?_
   refine Qf (b := (!t28)) rfl (fun hb => ?_) (fun hb => ?_)
   ·have H93 := Js hb H92; clear H92
    refine Jf ?_
    refine Jb ?_
    refine Ja rfl rfl rfl (Jc (v := .pointer (some ⟨pb0, 0, none⟩)) rfl) ?_
    obtain ⟨t31, h_t31, H94⟩ := Jh H93; clear H93
    refine Jx 1 2 rfl rfl (by decide) ?_
    refine Jx 0 1 rfl rfl (by decide) ?_
    refine Qv (Qc (i := 0) (rds := []) (G := fun x : (Option Addr × Nat) × Nat => .tuple #[]) (C := fun x : (Option Addr × Nat) × Nat => Jy (Jm pb0 [str t31.s_, .bool t31.big_, .slice x.1.1 t31.parts_.length x.1.2, .map (some x.2), .int .i64 t31.dirs_, (J5 t31.found_), .int .i64 t31.no_] 165) (Jy (Jw 62 2 (.slice x.1.1 t31.parts_.length x.1.2) t31.parts_.length (t31.parts_.map Ji)) (Yc (fun x_ : Int => .int .i64 x_) (fun x_ : Bool => .bool x_) x.2 t31.seen_))) rfl (fun w L' S hF hS hi hp hlt ho hA => k150 hp hlt (Q8 w S) hn0_2 h_t31) Try.call150 rfl) rfl rfl rfl (fun ⟨p_11, p_12⟩ => ?_)
    refine J2 0 1 rfl rfl (by decide) ?_
    refine J2 1 2 rfl rfl (by decide) ?_
    refine Jg ?_
    refine Jf ?_
    try dsimp only [z1, z2, z5, z6, z7, z8]
    refine Jb ?_
    refine Ja rfl rfl rfl (Y6 (pl := #[(0, 1), (1, 1), (2, 1), (3, 1), (4, 1)]) (ps := []) (cells := #[.int .i64 0, str [], .slice none 0 0, .slice none 0 0, .slice none 0 0]) Try.zeroValue29 Try.runUnderlying29 (fun w => by kernel_rfl) rfl rfl) ?_
    refine Qx (i := 4) (vs := [.int .i64 0, str [], .slice none 0 0, .slice none 0 0, .slice none 0 0]) (cs' := [.int .i64 0, str [], .slice none 0 0, .slice none 0 0, .slice none 0 0]) Try.sizeOf29 rfl rfl rfl rfl rfl rfl rfl rfl rfl ?_
    refine Jg ?_
    refine J0 ?_
    try dsimp only [z1, z2, z3, z4, z5, z6, z7, z8]
    refine Ql 3 1 ?_
    refine Ql 103 2 ?_
    refine Ql 96 6 ?_
    try dsimp only [z1, z2, z5, z6, z7, z8]
    obtain rfl := Option.some.inj H94
    refine Jx 3 7 rfl rfl (by decide) ?_
    refine V5 3 rfl (W7 (p := ((none, 0) : Option Addr × Nat)) rfl (AllC.nil (G := g_tag_Entry) (h := Vt) (sz := 6))) ?_
    refine Jx 6 3 rfl rfl (by decide) ?_
    refine Jx 5 6 rfl rfl (by decide) ?_
    refine Jx 2 5 rfl rfl (by decide) ?_
    refine Jx 1 2 rfl rfl (by decide) ?_
    refine Jx 0 1 rfl rfl (by decide) ?_
    refine retC (i := 4) (vs := [.int .i64 0, str [], .slice ((none, 0) : Option Addr × Nat).1 ([] : List Int).length ((none, 0) : Option Addr × Nat).2, .slice ((none, 0) : Option Addr × Nat).1 ([] : List T_tag_Ratio).length ((none, 0) : Option Addr × Nat).2, .slice ((none, 0) : Option Addr × Nat).1 (([] : List (List Value)).length) ((none, 0) : Option Addr × Nat).2]) Try.isAgg29 Try.sizeOf29 rfl rfl rfl rfl (Wm (((none, 0) : Option Addr × Nat), ((none, 0) : Option Addr × Nat), ((none, 0) : Option Addr × Nat), p_11, p_12) (i := 0) rfl (by first | rfl | rw [(show (([] : List (List Value)).length) = ([] : List T_tag_Entry).length from (AllC.nil (G := g_tag_Entry) (h := Vt) (sz := 6)).len)]) (by first | exact Imp.refl _ | exact Imp.of (by rw [(show (([] : List (List Value)).length) = ([] : List T_tag_Entry).length from (AllC.nil (G := g_tag_Entry) (h := Vt) (sz := 6)).len)])))
   ·have H95 := Jt hb H92; clear H92
    refine Ju ?_
    try dsimp only [z1, z2, z5, z6, z7, z8]
    refine Jb ?_
    refine Ja rfl rfl rfl (Jc (v := .pointer (some ⟨pb0, 0, none⟩)) rfl) ?_
    refine Ja rfl rfl rfl (Jc (v := .pointer (some ⟨pb0, 0, none⟩)) rfl) ?_
    refine Ja rfl rfl rfl (Jp rfl) ?_
    refine Ja rfl rfl rfl (Jl Try.runUnderlying165 rfl Try.sizeOf57 rfl rfl) ?_
    refine Jr (i := 0) (v := .slice p0_2.1 n0_2 p0_2.2) Try.isAgg57 rfl rfl rfl rfl rfl ?_
    refine Ja rfl rfl rfl (Jc (v := .int .i64 t24) rfl) ?_
    refine Ja rfl rfl rfl (Jc (v := .int .i64 t24) rfl) ?_
    refine Ja rfl rfl rfl (Jc (v := .int .i64 t18) rfl) ?_
    obtain ⟨t41, h_t41, H96⟩ := Jh H95; clear H95
    refine Ja rfl rfl rfl (Qd rfl rfl h_t41) ?_
    refine Ja rfl rfl rfl (Y6 (pl := #[(0, 1), (1, 1)]) (ps := [(0, .int .i64 t24), (1, .int .i64 t41)]) (cells := #[.int .i64 t24, .int .i64 t41]) Try.zeroValue62 Try.runUnderlying62 (fun w => by kernel_rfl) rfl rfl) ?_
    refine Qr (vs := [.agg #[.int .i64 t24, .int .i64 t41]]) (cs := [.int .i64 t24, .int .i64 t41]) Try.underlying57 Try.sizeOf62 Try.zeroValue62 rfl rfl rfl rfl rfl rfl rfl (fun b9 => ?_)
    obtain ⟨l44, h_l44, H97⟩ := Jh H96; clear H96
    refine Qv (Xd (i := 1) (hn := hn0_2) (rds := [5]) (p := p0_2) (sz := 2) (by_ := 16) (f := Ji) (ys := a0.parts_) (ls := ([(⟨t24, t41⟩ : T_tag_Span)] : List T_tag_Span)) (V := .slice (some ⟨b9, 0, none⟩) 1 1) Try.underlying57 (Xn Try.typeInfo62) rfl rfl rfl rfl rfl rfl rfl rfl rfl rfl (fun w L' hF hS hi => Vm (i := 5) hS ((hi 5 (by simp)).trans rfl) rfl rfl) (fun _ => rfl) (fun _ => rfl) h_l44) rfl rfl rfl (fun p_13 => ?_)
    refine Ja rfl rfl rfl (Jp rfl) ?_
    refine Ja rfl rfl rfl (Jl Try.runUnderlying165 rfl Try.sizeOf57 rfl rfl) ?_
    refine Qx (i := 0) (vs := [.slice p_13.1 l44.length p_13.2]) (cs' := [str a0.s_, .bool a0.big_, .slice p_13.1 l44.length p_13.2, .map (some m0_3), .int .i64 a0.dirs_, (J5 a0.found_), .int .i64 a0.no_]) Try.sizeOf57 rfl rfl rfl rfl rfl rfl rfl rfl rfl ?_
    refine Jg ?_
    refine Jo (t24, l44) (p_13, l44.length) 0 [0, 1, 2, 3, 4] (by exact ⟨rfl, rfl, rfl, rfl, rfl, rfl, trivial⟩) (by decide) (by kernel_rfl) (by exact ⟨H97, rfl⟩) (Nat.lt_succ_self _)
  ·have H98 := Jt hb H51; clear H51
   refine Ju ?_
   refine Jo (a3, a0.parts_) (p0_2, n0_2) 0 [0, 1, 2, 3, 4] (by exact ⟨rfl, rfl, rfl, rfl, rfl, rfl, trivial⟩) (by decide) (by kernel_rfl) (by exact ⟨H98, hn0_2⟩) (Nat.lt_succ_self _)
 ·rintro ⟨x10, l⟩ ⟨p, n⟩ gg H52 hl
  replace H52 : Yp a0 a1 a2 t18 x10 l = some r := H52
  try dsimp only
  refine Jf ?_
  refine Jb ?_
  refine Ja rfl rfl rfl (Jc (v := .int .i64 a1) rfl) ?_
  refine Ja rfl rfl rfl (Y6 (pl := #[(0, 1), (1, 1), (2, 1), (3, 1), (4, 1)]) (ps := [(0, .int .i64 a1)]) (cells := #[.int .i64 a1, str [], .slice none 0 0, .slice none 0 0, .slice none 0 0]) Try.zeroValue29 Try.runUnderlying29 (fun w => by kernel_rfl) rfl rfl) ?_
  refine Zf (cs := [.int .i64 0, str [], .slice none 0 0, .slice none 0 0, .slice none 0 0]) Try.zeroValue29 rfl rfl rfl (fun b6 => ?_)
  refine Qx (i := 5) (vs := [.int .i64 a1, str [], .slice none 0 0, .slice none 0 0, .slice none 0 0]) (cs' := [.int .i64 a1, str [], .slice none 0 0, .slice none 0 0, .slice none 0 0]) Try.sizeOf29 rfl rfl rfl rfl rfl rfl rfl rfl rfl ?_
  refine Jg ?_
  refine Xb (r := r) (σ := (List UInt8) × Bool × Int × Nat × Int × (List T_tag_Span) × (List (Int × Bool)) × (List UInt8) × (List Int) × (List T_tag_Ratio)) (τ := (Option Addr × Nat) × Nat × Nat × (Option Addr × Nat) × (Option Addr × Nat)) (fun s => Yq a1 s.1 s.2.1 s.2.2.1 s.2.2.2.1 s.2.2.2.2.1 s.2.2.2.2.2.1 s.2.2.2.2.2.2.1 s.2.2.2.2.2.2.2.1 s.2.2.2.2.2.2.2.2.1 s.2.2.2.2.2.2.2.2.2) (fun s t => [(8, .pointer (some ⟨b5, 0, none⟩)), (11, .pointer (some ⟨b6, 0, none⟩))]) (fun s t => [Jm pb0 [str s.1, .bool s.2.1, .slice t.1.1 t.2.1 t.1.2, .map (some t.2.2.1), .int .i64 s.2.2.1, (J5 s.2.2.2.1), .int .i64 s.2.2.2.2.1] 165, Jw 62 2 (.slice t.1.1 t.2.1 t.1.2) t.2.1 (s.2.2.2.2.2.1.map Ji), Yc (fun x_ : Int => .int .i64 x_) (fun x_ : Bool => .bool x_) t.2.2.1 s.2.2.2.2.2.2.1, Zi Vt Vt, Jm b5 [.int .i64 0, str [], .slice none 0 0, .slice none 0 0, .slice none 0 0] 29, Jm b6 [.int .i64 a1, str s.2.2.2.2.2.2.2.1, .slice t.2.2.2.1.1 s.2.2.2.2.2.2.2.2.1.length t.2.2.2.1.2, .slice t.2.2.2.2.1 s.2.2.2.2.2.2.2.2.2.length t.2.2.2.2.2, .slice none 0 0] 29, Jw 3 1 (.slice t.2.2.2.1.1 s.2.2.2.2.2.2.2.2.1.length t.2.2.2.1.2) s.2.2.2.2.2.2.2.2.1.length (s.2.2.2.2.2.2.2.2.1.map Xx), Jw 103 2 (.slice t.2.2.2.2.1 s.2.2.2.2.2.2.2.2.2.length t.2.2.2.2.2) s.2.2.2.2.2.2.2.2.2.length (s.2.2.2.2.2.2.2.2.2.map J7)]) (fun s t => t.2.1 = s.2.2.2.2.2.1.length) ?_ ?_
  ·refine J1 ?_
   refine Jf ?_
   try dsimp only [z1, z2, z5, z6, z7, z8]
   refine Jb ?_
   refine Ja rfl rfl rfl (Jc (v := .int .i64 a1) rfl) ?_
   refine Ja rfl rfl rfl (Xq rfl rfl) ?_
   refine Ja rfl rfl rfl (Jd (v := .bool (decide (a1 = 2))) rfl) ?_
   refine Jg ?_
   refine Qf (b := (decide (a1 = 2))) rfl (fun hb => ?_) (fun hb => ?_)
   ·have H54 := Js hb H52; clear H52
    refine Jb ?_
    refine Ja rfl rfl rfl (Jc (v := .pointer (some ⟨pb0, 0, none⟩)) rfl) ?_
    refine Ja rfl rfl rfl (Jc (v := .pointer (some ⟨pb0, 0, none⟩)) rfl) ?_
    refine Ja rfl rfl rfl (Jp rfl) ?_
    refine Ja rfl rfl rfl (Jl Try.runUnderlying165 rfl Try.sizeOf9 rfl rfl) ?_
    refine Jr (i := 0) (v := str a0.s_) Try.isAgg9 rfl rfl rfl rfl rfl ?_
    refine Ja rfl rfl rfl (Jc (v := .int .i64 x10) rfl) ?_
    refine Ja rfl rfl rfl (Jc (v := .int .i64 x10) rfl) ?_
    refine Ja rfl rfl rfl (Jc (v := .int .i64 t18) rfl) ?_
    obtain ⟨t86, h_t86, H55⟩ := Jh H54; clear H54
    refine Ja rfl rfl rfl (Qd rfl rfl h_t86) ?_
    obtain ⟨t87, h_t87, H56⟩ := Jh H55; clear H55
    refine Ja rfl rfl rfl (r_cutTG Try.underlying9 rfl rfl rfl h_t87) ?_
    obtain ⟨t88, h_t88, H57⟩ := Jh H56; clear H56
    refine Jx 1 2 rfl rfl (by decide) ?_
    refine Jx 0 1 rfl rfl (by decide) ?_
    refine Qv (Qc (i := 0) (rds := []) (G := fun x : (Option Addr × Nat) × Nat => str t88.1) (C := fun x : (Option Addr × Nat) × Nat => Jy (Jm pb0 [str t88.2.s_, .bool t88.2.big_, .slice x.1.1 t88.2.parts_.length x.1.2, .map (some x.2), .int .i64 t88.2.dirs_, (J5 t88.2.found_), .int .i64 t88.2.no_] 165) (Jy (Jw 62 2 (.slice x.1.1 t88.2.parts_.length x.1.2) t88.2.parts_.length (t88.2.parts_.map Ji)) (Yc (fun x_ : Int => .int .i64 x_) (fun x_ : Bool => .bool x_) x.2 t88.2.seen_))) rfl (fun w L' S hF hS hi hp hlt ho hA => k187 hp hlt (Q8 w S) hl h_t88) Try.call187 rfl) rfl rfl rfl (fun ⟨p_5, p_6⟩ => ?_)
    refine J2 0 1 rfl rfl (by decide) ?_
    refine J2 1 2 rfl rfl (by decide) ?_
    refine Ja rfl rfl rfl (Jl Try.runUnderlying29 rfl Try.sizeOf9 rfl rfl) ?_
    refine Qx (i := 5) (vs := [str t88.1]) (cs' := [.int .i64 a1, str t88.1, .slice none 0 0, .slice none 0 0, .slice none 0 0]) Try.sizeOf9 rfl rfl rfl rfl rfl rfl rfl rfl rfl ?_
    refine Jg ?_
    refine Ql 3 1 ?_
    refine Ql 103 2 ?_
    refine Jo (t88.2.s_, t88.2.big_, t88.2.dirs_, t88.2.found_, t88.2.no_, t88.2.parts_, t88.2.seen_, t88.1, ([] : List Int), ([] : List T_tag_Ratio)) (p_5, t88.2.parts_.length, p_6, ((none, 0) : Option Addr × Nat), ((none, 0) : Option Addr × Nat)) 0 [0, 1, 2, 3, 4, 5, 6, 7] (by exact ⟨rfl, rfl, trivial⟩) (by decide) (by kernel_rfl) (by exact ⟨H57, rfl⟩) (Nat.lt_succ_self _)
   ·have H58 := Jt hb H52; clear H52
    refine Jf ?_
    try dsimp only [z1, z2, z5, z6, z7, z8]
    refine Jb ?_
    refine Ja rfl rfl rfl (Jc (v := .int .i64 a1) rfl) ?_
    refine Ja rfl rfl rfl (Xq rfl rfl) ?_
    refine Ja rfl rfl rfl (Jd (v := .bool (decide (a1 = 7))) rfl) ?_
    refine Jg ?_
    refine Qf (b := (decide (a1 = 7))) rfl (fun hb => ?_) (fun hb => ?_)
    ·have H59 := Js hb H58; clear H58
     refine Jb ?_
     refine Ja rfl rfl rfl (Jc (v := .pointer (some ⟨pb0, 0, none⟩)) rfl) ?_
     refine Ja rfl rfl rfl (Jp rfl) ?_
     refine Ja rfl rfl rfl (Jl Try.runUnderlying165 rfl Try.sizeOf9 rfl rfl) ?_
     refine Jr (i := 0) (v := str a0.s_) Try.isAgg9 rfl rfl rfl rfl rfl ?_
     refine Ja rfl rfl rfl (Jc (v := .int .i64 x10) rfl) ?_
     refine Ja rfl rfl rfl (Jc (v := .int .i64 x10) rfl) ?_
     refine Ja rfl rfl rfl (Jc (v := .int .i64 t18) rfl) ?_
     obtain ⟨t100, h_t100, H60⟩ := Jh H59; clear H59
     refine Ja rfl rfl rfl (Qd rfl rfl h_t100) ?_
     obtain ⟨t101, h_t101, H61⟩ := Jh H60; clear H60
     refine Ja rfl rfl rfl (r_cutTG Try.underlying9 rfl rfl rfl h_t101) ?_
     refine Ja rfl rfl rfl (Jl Try.runUnderlying29 rfl Try.sizeOf9 rfl rfl) ?_
     refine Qx (i := 5) (vs := [str t101]) (cs' := [.int .i64 a1, str t101, .slice none 0 0, .slice none 0 0, .slice none 0 0]) Try.sizeOf9 rfl rfl rfl rfl rfl rfl rfl rfl rfl ?_
     refine Jg ?_
     refine Ql 3 1 ?_
     refine Ql 103 2 ?_
     refine Jo (a0.s_, a0.big_, a0.dirs_, a0.found_, a0.no_, l, a0.seen_, t101, ([] : List Int), ([] : List T_tag_Ratio)) (p, n, m0_3, ((none, 0) : Option Addr × Nat), ((none, 0) : Option Addr × Nat)) 0 [0, 1, 2, 3, 4, 5, 6, 7] (by exact ⟨rfl, rfl, trivial⟩) (by decide) (by kernel_rfl) (by exact ⟨H61, hl⟩) (Nat.lt_succ_self _)
    ·have H62 := Jt hb H58; clear H58
     refine Jf ?_
     refine Jb ?_
     refine Ja rfl rfl rfl (Jc (v := .int .i64 a1) rfl) ?_
     refine Ja rfl rfl rfl (Xq rfl rfl) ?_
     refine Ja rfl rfl rfl (Jd (v := .bool (decide (a1 = 5))) rfl) ?_
     refine Jg ?_
     refine Qf (b := (decide (a1 = 5))) rfl (fun hb => ?_) (fun hb => ?_)
     ·have H63 := Js hb H62; clear H62
      refine Jf ?_
      refine Jb ?_
      refine Ja rfl rfl rfl (Jc (v := .int .i64 a2) rfl) ?_
      refine Ja rfl rfl rfl (Jc (v := .int .i64 0) rfl) ?_
      refine Jg ?_
      refine J1 ?_
      refine Ql 103 2 ?_
      refine Z5 (σ := Int × (List T_tag_Ratio)) (τ := (Option Addr × Nat)) (fun next3 s => Q0 a0 a1 a2 x10 l next3 s.1 s.2) (fun s t => [(0, .pointer (some ⟨pb0, 0, none⟩)), (8, .pointer (some ⟨b5, 0, none⟩)), (10, .int .i64 x10), (11, .pointer (some ⟨b6, 0, none⟩)), (106, .int .i64 a2), (107, .int .i64 s.1)]) (fun s t => [Jm pb0 [str a0.s_, .bool a0.big_, .slice p.1 n p.2, .map (some m0_3), .int .i64 a0.dirs_, (J5 a0.found_), .int .i64 a0.no_] 165, Jw 62 2 (.slice p.1 n p.2) n (l.map Ji), Yc (fun x_ : Int => .int .i64 x_) (fun x_ : Bool => .bool x_) m0_3 a0.seen_, Zi Vt Vt, Jm b5 [.int .i64 0, str [], .slice none 0 0, .slice none 0 0, .slice none 0 0] 29, Jm b6 [.int .i64 a1, str [], .slice none 0 0, .slice t.1 s.2.length t.2, .slice none 0 0] 29, Jw 103 2 (.slice t.1 s.2.length t.2) s.2.length (s.2.map J7)]) (fun s t => True) (0, ([] : List T_tag_Ratio)) ((none, 0) : Option Addr × Nat) [0, 1, 2, 3, 4, 5, 6] H63 (by exact trivial) (by exact ⟨rfl, rfl, rfl, rfl, rfl, rfl, trivial⟩) (by decide) rfl ?_
      rintro ⟨x107_2, l_6⟩ p_7 m3 gg H64 _
      clear H63
      replace H64 : Q0 a0 a1 a2 x10 l (it (fun next3 s => Q0 a0 a1 a2 x10 l next3 s.1 s.2) m3) x107_2 l_6 = some r := H64
      generalize hn3 : it (fun next3 s => Q0 a0 a1 a2 x10 l next3 s.1 s.2) m3 = next3 at H64
      try dsimp only
      refine Jf ?_
      refine Jb ?_
      refine Ja rfl rfl rfl (Zn rfl rfl) ?_
      refine Jg ?_
      refine Jf ?_
      refine Qf (b := (decide (x107_2 < a2))) rfl (fun hb => ?_) (fun hb => ?_)
      ·have H65 := Js hb H64; clear H64
       refine Ju ?_
       refine Jf ?_
       refine J1 ?_
       refine Jf ?_
       refine Jb ?_
       refine Ja rfl rfl rfl (Jc (v := .int .i64 x107_2) rfl) ?_
       refine Ja rfl rfl rfl (Jd (v := .int .i64 x107_2) rfl) ?_
       refine Jg ?_
       exact Xr (Kd.p :: Kd.d [5] _ :: Kd.p :: Kd.p :: Kd.p :: Kd.p :: Kd.p :: Kd.d [3, 0, 1, 2] _ :: Kd.p :: Kd.p :: Kd.p :: Kd.p :: Kd.p :: Kd.p :: Kd.d [3, 0, 1, 2] _ :: Kd.p :: Kd.ns 7 [_, _] 103 1 :: Kd.t 6 [7] _ _ :: Kd.p :: Kd.sv 128 127 5 _ 29 :: []) 1 mixed (by
        refine Jq rfl rfl (Jl Try.runUnderlying29 rfl Try.sizeOf26 rfl rfl) ?_
        refine Ya (i := 5) (v := .slice p_7.1 l_6.length p_7.2) Try.isAgg26 rfl rfl rfl rfl ?_
        refine Jq rfl rfl (Jc (v := .pointer (some ⟨pb0, 0, none⟩)) rfl) ?_
        refine Jq rfl rfl (Jc (v := .int .i64 x10) rfl) ?_
        refine Jq rfl rfl (Jc (v := .int .i64 x107_2) rfl) ?_
        have h_t115 := Qq H65
        have H66 := Qb H65
        refine Jq rfl rfl (Ud rfl rfl h_t115) ?_
        have h_t116 := Qq H66
        have H67 := Qb H66
        refine Jq rfl rfl (Qd rfl rfl h_t116) ?_
        have h_t117 := Qq H67
        have H68 := Qb H67
        refine d_callD (fun w L' hF hS hi => k118 (a0 := (⟨a0.s_, a0.big_, l, a0.seen_, a0.dirs_, a0.found_, a0.no_⟩ : T_tag_reader)) (J3 w) (Z1 (i := 1) hl hS ((hi 1 (by simp)).trans rfl)) (Vj (fk := (fun x_ : Int => .int .i64 x_)) (fv := (fun x_ : Bool => .bool x_)) (i := 2) hS ((hi 2 (by simp)).trans rfl)) (Q3 (i := 0) hS ((hi 0 (by simp)).trans rfl)) h_t117) Try.call118 rfl rfl ?_
        refine Jq rfl rfl (Jc (v := .pointer (some ⟨pb0, 0, none⟩)) rfl) ?_
        refine Jq rfl rfl (Jc (v := .int .i64 x10) rfl) ?_
        refine Jq rfl rfl (Jc (v := .int .i64 x107_2) rfl) ?_
        have h_t121 := Qq H68
        have H69 := Qb H68
        refine Jq rfl rfl (Ud rfl rfl h_t121) ?_
        have h_t122 := Qq H69
        have H70 := Qb H69
        refine Jq rfl rfl (Qd rfl rfl h_t122) ?_
        have h_t123 := Qq H70
        have H71 := Qb H70
        refine Jq rfl rfl (Qd rfl rfl h_t123) ?_
        have h_t124 := Qq H71
        have H72 := Qb H71
        refine d_callD (fun w L' hF hS hi => k118 (a0 := (⟨a0.s_, a0.big_, l, a0.seen_, a0.dirs_, a0.found_, a0.no_⟩ : T_tag_reader)) (J3 w) (Z1 (i := 1) hl hS ((hi 1 (by simp)).trans rfl)) (Vj (fk := (fun x_ : Int => .int .i64 x_)) (fv := (fun x_ : Bool => .bool x_)) (i := 2) hS ((hi 2 (by simp)).trans rfl)) (Q3 (i := 0) hS ((hi 0 (by simp)).trans rfl)) h_t124) Try.call118 rfl rfl ?_
        refine Jq rfl rfl (Y6 (pl := #[(0, 1), (1, 1)]) (ps := [(0, .int .i64 (val (Jn (⟨a0.s_, a0.big_, l, a0.seen_, a0.dirs_, a0.found_, a0.no_⟩ : T_tag_reader) (val (gI (x10 + (val (gI (8 * x107_2)))))) 4))), (1, .int .i64 (val (Jn (⟨a0.s_, a0.big_, l, a0.seen_, a0.dirs_, a0.found_, a0.no_⟩ : T_tag_reader) (val (gI ((val (gI (x10 + (val (gI (8 * x107_2)))))) + 4))) 4)))]) (cells := #[.int .i64 (val (Jn (⟨a0.s_, a0.big_, l, a0.seen_, a0.dirs_, a0.found_, a0.no_⟩ : T_tag_reader) (val (gI (x10 + (val (gI (8 * x107_2)))))) 4)), .int .i64 (val (Jn (⟨a0.s_, a0.big_, l, a0.seen_, a0.dirs_, a0.found_, a0.no_⟩ : T_tag_reader) (val (gI ((val (gI (x10 + (val (gI (8 * x107_2)))))) + 4))) 4))]) Try.zeroValue103 Try.runUnderlying103 (fun w => by kernel_rfl) rfl rfl) ?_
        refine d_newS rfl rfl (run_buildSlice (vs := [.agg #[.int .i64 (val (Jn (⟨a0.s_, a0.big_, l, a0.seen_, a0.dirs_, a0.found_, a0.no_⟩ : T_tag_reader) (val (gI (x10 + (val (gI (8 * x107_2)))))) 4)), .int .i64 (val (Jn (⟨a0.s_, a0.big_, l, a0.seen_, a0.dirs_, a0.found_, a0.no_⟩ : T_tag_reader) (val (gI ((val (gI (x10 + (val (gI (8 * x107_2)))))) + 4))) 4))]]) (cs := [.int .i64 (val (Jn (⟨a0.s_, a0.big_, l, a0.seen_, a0.dirs_, a0.found_, a0.no_⟩ : T_tag_reader) (val (gI (x10 + (val (gI (8 * x107_2)))))) 4)), .int .i64 (val (Jn (⟨a0.s_, a0.big_, l, a0.seen_, a0.dirs_, a0.found_, a0.no_⟩ : T_tag_reader) (val (gI ((val (gI (x10 + (val (gI (8 * x107_2)))))) + 4))) 4))]) Try.underlying26 Try.sizeOf103 Try.zeroValue103 rfl rfl rfl rfl rfl) rfl (fun b7 => ?_)
        have h_l127 := Qq H72
        have H73 := Qb H72
        refine d_turn (Cv := fun v => Jw 103 2 v (val (Xu 16 l_6 ([(⟨(val (Jn (⟨a0.s_, a0.big_, l, a0.seen_, a0.dirs_, a0.found_, a0.no_⟩ : T_tag_reader) (val (gI (x10 + (val (gI (8 * x107_2)))))) 4)), (val (Jn (⟨a0.s_, a0.big_, l, a0.seen_, a0.dirs_, a0.found_, a0.no_⟩ : T_tag_reader) (val (gI ((val (gI (x10 + (val (gI (8 * x107_2)))))) + 4))) 4))⟩ : T_tag_Ratio)] : List T_tag_Ratio))).length ((val (Xu 16 l_6 ([(⟨(val (Jn (⟨a0.s_, a0.big_, l, a0.seen_, a0.dirs_, a0.found_, a0.no_⟩ : T_tag_reader) (val (gI (x10 + (val (gI (8 * x107_2)))))) 4)), (val (Jn (⟨a0.s_, a0.big_, l, a0.seen_, a0.dirs_, a0.found_, a0.no_⟩ : T_tag_reader) (val (gI ((val (gI (x10 + (val (gI (8 * x107_2)))))) + 4))) 4))⟩ : T_tag_Ratio)] : List T_tag_Ratio))).map J7)) (none, 0) (Xd (i := 6) (hn := rfl) (rds := [7]) (p := p_7) (sz := 2) (by_ := 16) (f := J7) (ys := l_6) (ls := ([(⟨(val (Jn (⟨a0.s_, a0.big_, l, a0.seen_, a0.dirs_, a0.found_, a0.no_⟩ : T_tag_reader) (val (gI (x10 + (val (gI (8 * x107_2)))))) 4)), (val (Jn (⟨a0.s_, a0.big_, l, a0.seen_, a0.dirs_, a0.found_, a0.no_⟩ : T_tag_reader) (val (gI ((val (gI (x10 + (val (gI (8 * x107_2)))))) + 4))) 4))⟩ : T_tag_Ratio)] : List T_tag_Ratio)) (V := .slice (some ⟨b7, 0, none⟩) 1 1) Try.underlying26 (Xn Try.typeInfo103) rfl rfl rfl rfl rfl rfl rfl rfl rfl rfl (fun w L' hF hS hi => Vm (i := 7) hS ((hi 7 (by simp)).trans rfl) rfl rfl) (fun _ => rfl) (fun _ => rfl) h_l127) (fun _ => rfl) rfl rfl (fun p_8 => ?_)
        refine Jq rfl rfl (Jl Try.runUnderlying29 rfl Try.sizeOf26 rfl rfl) ?_
        refine Uk (i := 5) (vs := [.slice p_8.1 (val (Xu 16 l_6 ([(⟨(val (Jn (⟨a0.s_, a0.big_, l, a0.seen_, a0.dirs_, a0.found_, a0.no_⟩ : T_tag_reader) (val (gI (x10 + (val (gI (8 * x107_2)))))) 4)), (val (Jn (⟨a0.s_, a0.big_, l, a0.seen_, a0.dirs_, a0.found_, a0.no_⟩ : T_tag_reader) (val (gI ((val (gI (x10 + (val (gI (8 * x107_2)))))) + 4))) 4))⟩ : T_tag_Ratio)] : List T_tag_Ratio))).length p_8.2]) (cs' := fun v_ => [.int .i64 a1, str [], .slice none 0 0, v_, .slice none 0 0]) Try.sizeOf26 rfl rfl rfl rfl rfl rfl rfl rfl rfl ?_
        refine Wf ?_
        refine Jb ?_
        obtain ⟨t129, h_t129, H74⟩ := Jh H73; clear H73
        refine Ja rfl rfl rfl (Qd rfl rfl h_t129) ?_
        refine Ja rfl rfl rfl (Jc (v := .int .i64 t129) rfl) ?_
        refine Jg ?_
        refine Jo (t129, (val (Xu 16 l_6 ([(⟨(val (Jn (⟨a0.s_, a0.big_, l, a0.seen_, a0.dirs_, a0.found_, a0.no_⟩ : T_tag_reader) (val (gI (x10 + (val (gI (8 * x107_2)))))) 4)), (val (Jn (⟨a0.s_, a0.big_, l, a0.seen_, a0.dirs_, a0.found_, a0.no_⟩ : T_tag_reader) (val (gI ((val (gI (x10 + (val (gI (8 * x107_2)))))) + 4))) 4))⟩ : T_tag_Ratio)] : List T_tag_Ratio)))) p_8 m3 [0, 1, 2, 3, 4, 5, 6] (by exact ⟨rfl, rfl, rfl, rfl, rfl, rfl, trivial⟩) (by decide) (by kernel_rfl) (by exact ⟨(by subst hn3; exact H74), trivial⟩) (Nat.lt_succ_self _)
        ) (by kernel_rfl)
      ·have H75 := Jt hb H64; clear H64
       refine Xy ?_
       refine Ql 3 1 ?_
       refine Jo (a0.s_, a0.big_, a0.dirs_, a0.found_, a0.no_, l, a0.seen_, [], ([] : List Int), l_6) (p, n, m0_3, ((none, 0) : Option Addr × Nat), p_7) 0 [0, 1, 2, 3, 4, 5, 7, 6] (by exact ⟨rfl, rfl, trivial⟩) (by decide) (by kernel_rfl) (by exact ⟨H75, hl⟩) (Nat.lt_succ_self _)
     ·have H76 := Jt hb H62; clear H62
      refine Jf ?_
      refine Jb ?_
      refine Ja rfl rfl rfl (Jc (v := .int .i64 a2) rfl) ?_
      refine Ja rfl rfl rfl (Jc (v := .int .i64 0) rfl) ?_
      refine Jg ?_
      refine J1 ?_
      refine Ql 3 1 ?_
      refine Z5 (σ := Int × (List Int)) (τ := (Option Addr × Nat)) (fun next4 s => Q1 a0 a1 a2 x10 l next4 s.1 s.2) (fun s t => [(0, .pointer (some ⟨pb0, 0, none⟩)), (1, .int .i64 a1), (8, .pointer (some ⟨b5, 0, none⟩)), (10, .int .i64 x10), (11, .pointer (some ⟨b6, 0, none⟩)), (49, .int .i64 a2), (50, .int .i64 s.1)]) (fun s t => [Jm pb0 [str a0.s_, .bool a0.big_, .slice p.1 n p.2, .map (some m0_3), .int .i64 a0.dirs_, (J5 a0.found_), .int .i64 a0.no_] 165, Jw 62 2 (.slice p.1 n p.2) n (l.map Ji), Yc (fun x_ : Int => .int .i64 x_) (fun x_ : Bool => .bool x_) m0_3 a0.seen_, Zi Vt Vt, Jm b5 [.int .i64 0, str [], .slice none 0 0, .slice none 0 0, .slice none 0 0] 29, Jm b6 [.int .i64 a1, str [], .slice t.1 s.2.length t.2, .slice none 0 0, .slice none 0 0] 29, Jw 3 1 (.slice t.1 s.2.length t.2) s.2.length (s.2.map Xx)]) (fun s t => True) (0, ([] : List Int)) ((none, 0) : Option Addr × Nat) [0, 1, 2, 3, 4, 5, 6] H76 (by exact trivial) (by exact ⟨rfl, rfl, rfl, rfl, rfl, rfl, rfl, trivial⟩) (by decide) rfl ?_
      rintro ⟨x50_2, l_8⟩ p_9 m4 gg H77 _
      clear H76
      replace H77 : Q1 a0 a1 a2 x10 l (it (fun next4 s => Q1 a0 a1 a2 x10 l next4 s.1 s.2) m4) x50_2 l_8 = some r := H77
      generalize hn4 : it (fun next4 s => Q1 a0 a1 a2 x10 l next4 s.1 s.2) m4 = next4 at H77
      try dsimp only
      refine Jf ?_
      try dsimp only [z1, z2, z5, z6, z7, z8]
      refine Jb ?_
      refine Ja rfl rfl rfl (Zn rfl rfl) ?_
      refine Jg ?_
      refine Jf ?_
      refine Qf (b := (decide (x50_2 < a2))) rfl (fun hb => ?_) (fun hb => ?_)
      ·have H78 := Js hb H77; clear H77
       refine Ju ?_
       refine Jf ?_
       refine J1 ?_
       refine Jf ?_
       refine Jb ?_
       refine Ja rfl rfl rfl (Jc (v := .int .i64 x50_2) rfl) ?_
       refine Ja rfl rfl rfl (Jd (v := .int .i64 x50_2) rfl) ?_
       refine Jg ?_
       refine Jf ?_
       refine Jb ?_
       refine Ja rfl rfl rfl (Jc (v := .pointer (some ⟨pb0, 0, none⟩)) rfl) ?_
       refine Ja rfl rfl rfl (Jc (v := .int .i64 x10) rfl) ?_
       refine Ja rfl rfl rfl (Jc (v := .int .i64 x50_2) rfl) ?_
       refine Ja rfl rfl rfl (Jc (v := .int .i64 a1) rfl) ?_
       obtain ⟨t57, h_t57, H79⟩ := Jh H78; clear H78
       refine Z8 (k136 h_t57) Try.call136 rfl rfl rfl ?_
       obtain ⟨t58, h_t58, H80⟩ := Jh H79; clear H79
       refine Ja rfl rfl rfl (Ud rfl rfl h_t58) ?_
       obtain ⟨t59, h_t59, H81⟩ := Jh H80; clear H80
       refine Ja rfl rfl rfl (Qd rfl rfl h_t59) ?_
       refine Ja rfl rfl rfl (Jc (v := .int .i64 a1) rfl) ?_
       obtain ⟨t61, h_t61, H82⟩ := Jh H81; clear H81
       refine Z8 (k136 h_t61) Try.call136 rfl rfl rfl ?_
       obtain ⟨t62, h_t62, H83⟩ := Jh H82; clear H82
       refine Xt (fun w hF hS => k118 (a0 := (⟨a0.s_, a0.big_, l, a0.seen_, a0.dirs_, a0.found_, a0.no_⟩ : T_tag_reader)) (J3 w) (Z1 (i := 1) hl hS rfl) (Vj (fk := (fun x_ : Int => .int .i64 x_)) (fv := (fun x_ : Bool => .bool x_)) (i := 2) hS rfl) (Q3 (i := 0) hS rfl) h_t62) Try.call118 rfl rfl rfl ?_
       refine Ja rfl rfl rfl (Jd (v := .int .i64 t62) rfl) ?_
       refine Jg ?_
       refine Xb (r := r) (σ := Int) (τ := Unit) (fun s => Yo x50_2 l_8 next4 s) (fun s t => [(0, .pointer (some ⟨pb0, 0, none⟩)), (1, .int .i64 a1), (8, .pointer (some ⟨b5, 0, none⟩)), (10, .int .i64 x10), (11, .pointer (some ⟨b6, 0, none⟩)), (14, .int .i64 s), (49, .int .i64 a2), (50, .int .i64 x50_2)]) (fun s t => [Jm pb0 [str a0.s_, .bool a0.big_, .slice p.1 n p.2, .map (some m0_3), .int .i64 a0.dirs_, (J5 a0.found_), .int .i64 a0.no_] 165, Jw 62 2 (.slice p.1 n p.2) n (l.map Ji), Yc (fun x_ : Int => .int .i64 x_) (fun x_ : Bool => .bool x_) m0_3 a0.seen_, Zi Vt Vt, Jm b5 [.int .i64 0, str [], .slice none 0 0, .slice none 0 0, .slice none 0 0] 29, Jm b6 [.int .i64 a1, str [], .slice p_9.1 l_8.length p_9.2, .slice none 0 0, .slice none 0 0] 29, Jw 3 1 (.slice p_9.1 l_8.length p_9.2) l_8.length (l_8.map Xx)]) (fun s t => True) ?_ ?_
       ·refine Jf ?_
        refine Jb ?_
        refine Ja rfl rfl rfl (Jc (v := .int .i64 a1) rfl) ?_
        refine Ja rfl rfl rfl (Xq rfl rfl) ?_
        refine Jg ?_
        refine Qf (b := (decide (a1 = 9))) rfl (fun hb => ?_) (fun hb => ?_)
        ·have H87 := Js hb H83; clear H83
         refine Jb ?_
         refine Ja rfl rfl rfl (Jc (v := .int .i64 t62) rfl) ?_
         refine Ja rfl rfl rfl (r_convG Try.runUnderlying3 Try.runUnderlying21 rfl (wr_i32 _)) ?_
         refine Ja rfl rfl rfl (r_convG Try.runUnderlying21 Try.runUnderlying3 rfl (wr_i64 _)) ?_
         refine Ja rfl rfl rfl (Jd (v := .int .i64 (wI64 (wI32 t62))) rfl) ?_
         refine Jg ?_
         refine Jo (wI64 (wI32 t62)) () 0 [0, 1, 2, 3, 4, 5, 6] (by exact ⟨rfl, rfl, rfl, rfl, rfl, rfl, rfl, rfl, trivial⟩) (by decide) (by kernel_rfl) (by exact ⟨H87, trivial⟩) (Nat.lt_succ_self _)
        ·have H88 := Jt hb H83; clear H83
         refine Ju ?_
         refine Jo t62 () 0 [0, 1, 2, 3, 4, 5, 6] (by exact ⟨rfl, rfl, rfl, rfl, rfl, rfl, rfl, rfl, trivial⟩) (by decide) (by kernel_rfl) (by exact ⟨H88, trivial⟩) (Nat.lt_succ_self _)
       ·rintro x14 _ gg H84 _
        replace H84 : Yo x50_2 l_8 next4 x14 = some r := H84
        try dsimp only
        refine Jb ?_
        refine Ja rfl rfl rfl (Jl Try.runUnderlying29 rfl Try.sizeOf25 rfl rfl) ?_
        refine Jr (i := 5) (v := .slice p_9.1 l_8.length p_9.2) Try.isAgg25 rfl rfl rfl rfl rfl ?_
        refine Ja rfl rfl rfl (Jc (v := .int .i64 x14) rfl) ?_
        refine Qr (vs := [.int .i64 x14]) (cs := [.int .i64 x14]) Try.underlying25 Try.sizeOf3 Try.zeroValue3 rfl rfl rfl rfl rfl rfl rfl (fun b8 => ?_)
        obtain ⟨l72, h_l72, H85⟩ := Jh H84; clear H84
        refine Qv (Xd (i := 6) (hn := rfl) (rds := [7]) (p := p_9) (sz := 1) (by_ := 8) (f := Xx) (ys := l_8) (ls := ([x14] : List Int)) (V := .slice (some ⟨b8, 0, none⟩) 1 1) Try.underlying25 (Xn Try.typeInfo3) rfl rfl rfl rfl rfl rfl rfl rfl rfl rfl (fun w L' hF hS hi => Vm (i := 7) hS ((hi 7 (by simp)).trans rfl) rfl rfl) (fun _ => rfl) (fun _ => rfl) h_l72) rfl rfl rfl (fun p_10 => ?_)
        refine Ja rfl rfl rfl (Jl Try.runUnderlying29 rfl Try.sizeOf25 rfl rfl) ?_
        refine Qx (i := 5) (vs := [.slice p_10.1 l72.length p_10.2]) (cs' := [.int .i64 a1, str [], .slice p_10.1 l72.length p_10.2, .slice none 0 0, .slice none 0 0]) Try.sizeOf25 rfl rfl rfl rfl rfl rfl rfl rfl rfl ?_
        refine Jg ?_
        refine Jb ?_
        obtain ⟨t74, h_t74, H86⟩ := Jh H85; clear H85
        refine Ja rfl rfl rfl (Qd rfl rfl h_t74) ?_
        refine Ja rfl rfl rfl (Jc (v := .int .i64 t74) rfl) ?_
        refine Jg ?_
        refine Jo (t74, l72) p_10 m4 [0, 1, 2, 3, 4, 5, 6] (by exact ⟨rfl, rfl, rfl, rfl, rfl, rfl, rfl, trivial⟩) (by decide) (by kernel_rfl) (by exact ⟨(by subst hn4; exact H86), trivial⟩) (Nat.lt_succ_self _)
      ·have H89 := Jt hb H77; clear H77
       refine Xy ?_
       refine Ql 103 2 ?_
       refine Jo (a0.s_, a0.big_, a0.dirs_, a0.found_, a0.no_, l, a0.seen_, [], l_8, ([] : List T_tag_Ratio)) (p, n, m0_3, p_9, ((none, 0) : Option Addr × Nat)) 0 [0, 1, 2, 3, 4, 5, 6, 7] (by exact ⟨rfl, rfl, trivial⟩) (by decide) (by kernel_rfl) (by exact ⟨H89, hl⟩) (Nat.lt_succ_self _)
  ·rintro ⟨m, m_2, m_3, m_4, m_5, l_2, mp, m_6, l_3, l_4⟩ ⟨p_2, n_2, b, p_3, p_4⟩ gg H53 hl_2
   replace H53 : Yq a1 m m_2 m_3 m_4 m_5 l_2 mp m_6 l_3 l_4 = some r := H53
   try dsimp only
   refine Jf ?_
   try dsimp only [z1, z2, z5, z6, z7, z8]
   refine Jb ?_
   refine Vx (i := 5) (vs := [.int .i64 a1, str m_6, .slice p_3.1 l_3.length p_3.2, .slice p_4.1 l_4.length p_4.2, .slice none 0 0]) Try.isAgg29 Try.sizeOf29 rfl rfl rfl rfl rfl ?_
   refine Qx (i := 4) (vs := [.int .i64 a1, str m_6, .slice p_3.1 l_3.length p_3.2, .slice p_4.1 l_4.length p_4.2, .slice none 0 0]) (cs' := [.int .i64 a1, str m_6, .slice p_3.1 l_3.length p_3.2, .slice p_4.1 l_4.length p_4.2, .slice none 0 0]) Try.sizeOf29 rfl rfl rfl rfl rfl rfl rfl rfl rfl ?_
   refine Jg ?_
   refine J0 ?_
   refine c_dr 5 ?_
   try dsimp only [z1, z2, z3, z4, z5, z6, z7, z8]
   refine Ql 96 6 ?_
   obtain rfl := Option.some.inj H53
   refine Jx 3 7 rfl rfl (by decide) ?_
   refine V5 3 rfl (W7 (p := ((none, 0) : Option Addr × Nat)) rfl (AllC.nil (G := g_tag_Entry) (h := Vt) (sz := 6))) ?_
   refine Jx 6 3 rfl rfl (by decide) ?_
   refine Jx 5 6 rfl rfl (by decide) ?_
   refine Jx 2 5 rfl rfl (by decide) ?_
   refine Jx 1 2 rfl rfl (by decide) ?_
   refine Jx 0 1 rfl rfl (by decide) ?_
   refine retC (i := 4) (vs := [.int .i64 a1, str m_6, .slice p_3.1 l_3.length p_3.2, .slice p_4.1 l_4.length p_4.2, .slice ((none, 0) : Option Addr × Nat).1 (([] : List (List Value)).length) ((none, 0) : Option Addr × Nat).2]) Try.isAgg29 Try.sizeOf29 rfl rfl rfl rfl (Wm (p_3, p_4, ((none, 0) : Option Addr × Nat), p_2, b) (i := 0) rfl (by first | rfl | rw [(show (([] : List (List Value)).length) = ([] : List T_tag_Entry).length from (AllC.nil (G := g_tag_Entry) (h := Vt) (sz := 6)).len), (show n_2 = l_2.length from hl_2)]) (by first | exact Imp.refl _ | exact Imp.of (by rw [(show (([] : List (List Value)).length) = ([] : List T_tag_Entry).length from (AllC.nil (G := g_tag_Entry) (h := Vt) (sz := 6)).len), (show n_2 = l_2.length from hl_2)])))
theorem k151_b {self : (T_tag_reader × Int × (List Int)) → Option ((List T_tag_Entry) × Int × T_tag_reader)} (ih : ∀ {a0 : T_tag_reader} {pb0 : Nat} {p0_2 : Option Addr × Nat} {n0_2 : Nat} {m0_3 : Nat} {a1 : Int} {a2 : (List Int)} {v2 : Value} {r : (List T_tag_Entry) × Int × T_tag_reader} {w : World} {h : J6} {S : Nat → Prop} (hcs : (Jy (Jm pb0 [str a0.s_, .bool a0.big_, .slice p0_2.1 n0_2 p0_2.2, .map (some m0_3), .int .i64 a0.dirs_, (J5 a0.found_), .int .i64 a0.no_] 165) (Jy (Jw 62 2 (.slice p0_2.1 n0_2 p0_2.2) n0_2 (a0.parts_.map Ji)) (Yc (fun x_ : Int => .int .i64 x_) (fun x_ : Bool => .bool x_) m0_3 a0.seen_))).P S w) (hlt : ∀ b, S b → b < w.heap.size) (hw : Know h w S) (hn0_2 : n0_2 = a0.parts_.length) (f2 : FrS h 1 v2 (a2.map Xx)) (_ : self (a0, a1, a2) = some r), Does Try.prog 119 (List.toArray [.pointer (some ⟨pb0, 0, none⟩), .int .i64 a1, v2]) w (fun v w' => ∃ x : (Option Addr × Nat) × (Option Addr × Nat) × Nat, v = (.tuple #[.slice x.1.1 r.1.length x.1.2, .int .i64 r.2.1]) ∧ Turn w w' S (Jy (Jm pb0 [str r.2.2.s_, .bool r.2.2.big_, .slice x.2.1.1 r.2.2.parts_.length x.2.1.2, .map (some x.2.2), .int .i64 r.2.2.dirs_, (J5 r.2.2.found_), .int .i64 r.2.2.no_] 165) (Jy (Jw 62 2 (.slice x.2.1.1 r.2.2.parts_.length x.2.1.2) r.2.2.parts_.length (r.2.2.parts_.map Ji)) (Jy (Yc (fun x_ : Int => .int .i64 x_) (fun x_ : Bool => .bool x_) x.2.2 r.2.2.seen_) (rowD 96 6 g_tag_Entry (.slice x.1.1 r.1.length x.1.2) r.1.length r.1)))))) {a0 : T_tag_reader} {pb0 : Nat} {p0_2 : Option Addr × Nat} {n0_2 : Nat} {m0_3 : Nat} {a1 : Int} {a2 : (List Int)} {v2 : Value} {r : T_tag_Entry × T_tag_reader} {w : World} {h : J6} {S : Nat → Prop} (hcs : (Jy (Jm pb0 [str a0.s_, .bool a0.big_, .slice p0_2.1 n0_2 p0_2.2, .map (some m0_3), .int .i64 a0.dirs_, (J5 a0.found_), .int .i64 a0.no_] 165) (Jy (Jw 62 2 (.slice p0_2.1 n0_2 p0_2.2) n0_2 (a0.parts_.map Ji)) (Yc (fun x_ : Int => .int .i64 x_) (fun x_ : Bool => .bool x_) m0_3 a0.seen_))).P S w) (hlt : ∀ b, S b → b < w.heap.size) (hw : Know h w S) (hn0_2 : n0_2 = a0.parts_.length) (f2 : FrS h 1 v2 (a2.map Xx)) (H : Qy self a0 a1 a2 = some r) : Does Try.prog 151 (List.toArray [.pointer (some ⟨pb0, 0, none⟩), .int .i64 a1, v2]) w (fun v w' => ∃ x : (Option Addr × Nat) × (Option Addr × Nat) × (Option Addr × Nat) × (Option Addr × Nat) × Nat, v = (.agg #[.int .i64 r.1.Tag, .int .i64 r.1.Value.Kind, str r.1.Value.Text, .slice x.1.1 r.1.Value.Ints.length x.1.2, .slice x.2.1.1 r.1.Value.Ratios.length x.2.1.2, .slice x.2.2.1.1 r.1.Value.Entries.length x.2.2.1.2]) ∧ Turn w w' S (Jy (Jm pb0 [str r.2.s_, .bool r.2.big_, .slice x.2.2.2.1.1 r.2.parts_.length x.2.2.2.1.2, .map (some x.2.2.2.2), .int .i64 r.2.dirs_, (J5 r.2.found_), .int .i64 r.2.no_] 165) (Jy (Jw 62 2 (.slice x.2.2.2.1.1 r.2.parts_.length x.2.2.2.1.2) r.2.parts_.length (r.2.parts_.map Ji)) (Jy (Yc (fun x_ : Int => .int .i64 x_) (fun x_ : Bool => .bool x_) x.2.2.2.2 r.2.seen_) (Jy (Jw 3 1 (.slice x.1.1 r.1.Value.Ints.length x.1.2) r.1.Value.Ints.length (r.1.Value.Ints.map Xx)) (Jy (Jw 103 2 (.slice x.2.1.1 r.1.Value.Ratios.length x.2.1.2) r.1.Value.Ratios.length (r.1.Value.Ratios.map J7)) (rowD 96 6 g_tag_Entry (.slice x.2.2.1.1 r.1.Value.Entries.length x.2.2.1.2) r.1.Value.Entries.length r.1.Value.Entries))))))) := by
 refine enter (n := 76) Try.func151 rfl rfl rfl S [Jy (Jm pb0 [str a0.s_, .bool a0.big_, .slice p0_2.1 n0_2 p0_2.2, .map (some m0_3), .int .i64 a0.dirs_, (J5 a0.found_), .int .i64 a0.no_] 165) (Jy (Jw 62 2 (.slice p0_2.1 n0_2 p0_2.2) n0_2 (a0.parts_.map Ji)) (Yc (fun x_ : Int => .int .i64 x_) (fun x_ : Bool => .bool x_) m0_3 a0.seen_))] (Sat.one hcs hlt) ?_
 refine X3 0 rfl ?_
 refine X3 1 rfl ?_
 refine Wb Vt ?_
 refine Jf ?_
 refine Jb ?_
 refine Zf (cs := [.int .i64 0, .int .i64 0, str [], .slice none 0 0, .slice none 0 0, .slice none 0 0]) Try.zeroValue96 rfl rfl rfl (fun b3 => ?_)
 refine Jg ?_
 refine Jf ?_
 refine Jb ?_
 refine Ja rfl rfl rfl (Jc (v := .pointer (some ⟨pb0, 0, none⟩)) rfl) ?_
 refine Ja rfl rfl rfl (Jc (v := .int .i64 a1) rfl) ?_
 obtain ⟨t13, h_t13, H28⟩ := Jh H; clear H
 refine Xt (fun w hF hS => k118 (a0 := a0) (J3 w) (Z1 (i := 1) hn0_2 hS rfl) (Vj (fk := (fun x_ : Int => .int .i64 x_)) (fv := (fun x_ : Bool => .bool x_)) (i := 2) hS rfl) (Q3 (i := 0) hS rfl) h_t13) Try.call118 rfl rfl rfl ?_
 refine Ja rfl rfl rfl (Jc (v := .pointer (some ⟨pb0, 0, none⟩)) rfl) ?_
 refine Ja rfl rfl rfl (Jc (v := .int .i64 a1) rfl) ?_
 obtain ⟨t16, h_t16, H29⟩ := Jh H28; clear H28
 refine Ja rfl rfl rfl (Qd rfl rfl h_t16) ?_
 obtain ⟨t17, h_t17, H30⟩ := Jh H29; clear H29
 refine Xt (fun w hF hS => k118 (a0 := a0) (J3 w) (Z1 (i := 1) hn0_2 hS rfl) (Vj (fk := (fun x_ : Int => .int .i64 x_)) (fv := (fun x_ : Bool => .bool x_)) (i := 2) hS rfl) (Q3 (i := 0) hS rfl) h_t17) Try.call118 rfl rfl rfl ?_
 refine Ja rfl rfl rfl (Jc (v := .pointer (some ⟨pb0, 0, none⟩)) rfl) ?_
 refine Ja rfl rfl rfl (Jc (v := .int .i64 a1) rfl) ?_
 obtain ⟨t20, h_t20, H31⟩ := Jh H30; clear H30
 refine Ja rfl rfl rfl (Qd rfl rfl h_t20) ?_
 obtain ⟨t21, h_t21, H32⟩ := Jh H31; clear H31
 refine Xt (fun w hF hS => k118 (a0 := a0) (J3 w) (Z1 (i := 1) hn0_2 hS rfl) (Vj (fk := (fun x_ : Int => .int .i64 x_)) (fv := (fun x_ : Bool => .bool x_)) (i := 2) hS rfl) (Q3 (i := 0) hS rfl) h_t21) Try.call118 rfl rfl rfl ?_
 refine Ja rfl rfl rfl (Jd (v := .int .i64 t13) rfl) ?_
 refine Ja rfl rfl rfl (Jd (v := .int .i64 t17) rfl) ?_
 refine Ja rfl rfl rfl (Jd (v := .int .i64 t21) rfl) ?_
 refine Jg ?_
 refine Jf ?_
 refine Jb ?_
 refine Ja rfl rfl rfl (Jc (v := v2) rfl) ?_
 obtain ⟨t23, h_t23, H33⟩ := Jh H32; clear H32
 refine Wl (Xv (rds := []) (G := fun x : (Option Addr × Nat) => .slice x.1 t23.length x.2) (C := fun x : (Option Addr × Nat) => Jw 3 1 (.slice x.1 t23.length x.2) t23.length (t23.map Xx)) (fun w L' hF hS hi => k45 (J3 w) (f2.mono (hw.now hF)) h_t23) Try.call45 rfl) rfl rfl rfl (fun p => ?_)
 refine Ja rfl rfl rfl (Jc (v := .int .i64 t13) rfl) ?_
 refine Qr (vs := [.int .i64 t13]) (cs := [.int .i64 t13]) Try.underlying25 Try.sizeOf3 Try.zeroValue3 rfl rfl rfl rfl rfl rfl rfl (fun b4 => ?_)
 obtain ⟨l26, h_l26, H34⟩ := Jh H33; clear H33
 refine Qv (Xd (i := 5) (hn := rfl) (rds := [6]) (p := p) (sz := 1) (by_ := 8) (f := Xx) (ys := t23) (ls := ([t13] : List Int)) (V := .slice (some ⟨b4, 0, none⟩) 1 1) Try.underlying25 (Xn Try.typeInfo3) rfl rfl rfl rfl rfl rfl rfl rfl rfl rfl (fun w L' hF hS hi => Vm (i := 6) hS ((hi 6 (by simp)).trans rfl) rfl rfl) (fun _ => rfl) (fun _ => rfl) h_l26) rfl rfl rfl (fun p_2 => ?_)
 refine Ja rfl rfl rfl (Jd (v := .slice p_2.1 l26.length p_2.2) rfl) ?_
 refine Jg ?_
 refine Jf ?_
 try dsimp only [z1, z2, z5, z6, z7, z8]
 refine Jb ?_
 refine Ja rfl rfl rfl (Jc (v := .pointer (some ⟨pb0, 0, none⟩)) rfl) ?_
 refine Ja rfl rfl rfl (Jp rfl) ?_
 refine Ja rfl rfl rfl (Jl Try.runUnderlying165 rfl Try.sizeOf121 rfl rfl) ?_
 refine Jr (i := 0) (v := (J5 a0.found_)) Try.isAgg121 rfl rfl rfl rfl rfl ?_
 refine Ja rfl rfl rfl (Jc (v := .slice p_2.1 l26.length p_2.2) rfl) ?_
 refine Ja rfl rfl rfl (Jc (v := .int .i64 a1) rfl) ?_
 obtain ⟨g33, h_g33, H35⟩ := Jh H34; clear H34
 obtain ⟨t33, h_t33, H36⟩ := Jh H35; clear H35
 refine l_callV (R := V9 g33) (r := .tuple #[]) (v := (J5 a0.found_)) (fun w hF hS => ⟨((hft121 a0.found_).fn (gFn_some h_g33) _), ⟨l26, _, a1, _, (Z1 (i := 5) rfl hS rfl), rfl, h_t33, rfl⟩⟩) rfl rfl rfl rfl ?_
 refine Jg ?_
 refine Jf ?_
 refine Jb ?_
 refine Ja rfl rfl rfl (Jc (v := .int .i64 t13) rfl) ?_
 refine Ja rfl rfl rfl (Jc (v := .int .i64 t17) rfl) ?_
 refine Ja rfl rfl rfl (Y6 (pl := #[(0, 1), (1, 1), (2, 1), (3, 1), (4, 1)]) (ps := [(0, .int .i64 t17)]) (cells := #[.int .i64 t17, str [], .slice none 0 0, .slice none 0 0, .slice none 0 0]) Try.zeroValue29 Try.runUnderlying29 (fun w => by kernel_rfl) rfl rfl) ?_
 refine Ja rfl rfl rfl (Y6 (pl := #[(0, 1), (1, 5)]) (ps := [(0, .int .i64 t13), (1, .agg #[.int .i64 t17, str [], .slice none 0 0, .slice none 0 0, .slice none 0 0])]) (cells := #[.int .i64 t13, .int .i64 t17, str [], .slice none 0 0, .slice none 0 0, .slice none 0 0]) Try.zeroValue96 Try.runUnderlying96 (fun w => by kernel_rfl) rfl (by kernel_rfl)) ?_
 refine Zf (cs := [.int .i64 0, .int .i64 0, str [], .slice none 0 0, .slice none 0 0, .slice none 0 0]) Try.zeroValue96 rfl rfl rfl (fun b5 => ?_)
 refine Qx (i := 7) (vs := [.int .i64 t13, .int .i64 t17, str [], .slice none 0 0, .slice none 0 0, .slice none 0 0]) (cs' := [.int .i64 t13, .int .i64 t17, str [], .slice none 0 0, .slice none 0 0, .slice none 0 0]) Try.sizeOf96 rfl rfl rfl rfl rfl rfl rfl rfl rfl ?_
 refine Jg ?_
 refine Xb (r := r) (σ := Int × (List UInt8) × (List Int) × (List T_tag_Ratio) × (List T_tag_Entry) × (List UInt8) × Bool × Int × Nat × Int × (List T_tag_Span) × (List (Int × Bool))) (τ := (Option Addr × Nat) × (Option Addr × Nat) × (Option Addr × Nat) × (Option Addr × Nat) × Nat) (fun s => X1 t13 s.1 s.2.1 s.2.2.1 s.2.2.2.1 s.2.2.2.2.1 s.2.2.2.2.2.1 s.2.2.2.2.2.2.1 s.2.2.2.2.2.2.2.1 s.2.2.2.2.2.2.2.2.1 s.2.2.2.2.2.2.2.2.2.1 s.2.2.2.2.2.2.2.2.2.2.1 s.2.2.2.2.2.2.2.2.2.2.2) (fun s t => [(6, .pointer (some ⟨b3, 0, none⟩)), (10, .pointer (some ⟨b5, 0, none⟩))]) (fun s t => [Jm pb0 [str s.2.2.2.2.2.1, .bool s.2.2.2.2.2.2.1, .slice t.2.2.2.1.1 s.2.2.2.2.2.2.2.2.2.2.1.length t.2.2.2.1.2, .map (some t.2.2.2.2), .int .i64 s.2.2.2.2.2.2.2.1, (J5 s.2.2.2.2.2.2.2.2.1), .int .i64 s.2.2.2.2.2.2.2.2.2.1] 165, Jw 62 2 (.slice t.2.2.2.1.1 s.2.2.2.2.2.2.2.2.2.2.1.length t.2.2.2.1.2) s.2.2.2.2.2.2.2.2.2.2.1.length (s.2.2.2.2.2.2.2.2.2.2.1.map Ji), Yc (fun x_ : Int => .int .i64 x_) (fun x_ : Bool => .bool x_) t.2.2.2.2 s.2.2.2.2.2.2.2.2.2.2.2, Zi Vt Vt, Jm b3 [.int .i64 0, .int .i64 0, str [], .slice none 0 0, .slice none 0 0, .slice none 0 0] 96, Jm b5 [.int .i64 t13, .int .i64 s.1, str s.2.1, .slice t.1.1 s.2.2.1.length t.1.2, .slice t.2.1.1 s.2.2.2.1.length t.2.1.2, .slice t.2.2.1.1 s.2.2.2.2.1.length t.2.2.1.2] 96, Jw 3 1 (.slice t.1.1 s.2.2.1.length t.1.2) s.2.2.1.length (s.2.2.1.map Xx), Jw 103 2 (.slice t.2.1.1 s.2.2.2.1.length t.2.1.2) s.2.2.2.1.length (s.2.2.2.1.map J7), rowD 96 6 g_tag_Entry (.slice t.2.2.1.1 s.2.2.2.2.1.length t.2.2.1.2) s.2.2.2.2.1.length s.2.2.2.2.1]) (fun s t => True) ?_ ?_
 ·refine J1 ?_
  refine Jf ?_
  refine Jb ?_
  refine Ja rfl rfl rfl (Jc (v := .int .i64 t17) rfl) ?_
  obtain ⟨t47, h_t47, H38⟩ := Jh H36; clear H36
  refine Z8 (k136 h_t47) Try.call136 rfl rfl rfl ?_
  refine Ja rfl rfl rfl (Xq rfl rfl) ?_
  refine Ja rfl rfl rfl (Jd (v := .bool (decide (t47 = 0))) rfl) ?_
  refine Jg ?_
  refine Qf (b := (decide (t47 = 0))) rfl (fun hb => ?_) (fun hb => ?_)
  ·have H39 := Js hb H38; clear H38
   refine Jb ?_
   refine Ja rfl rfl rfl (Jc (v := .pointer (some ⟨pb0, 0, none⟩)) rfl) ?_
   obtain ⟨t50, h_t50, H40⟩ := Jh H39; clear H39
   refine Jx 1 2 rfl rfl (by decide) ?_
   refine Jx 0 1 rfl rfl (by decide) ?_
   refine Qv (Qc (i := 0) (rds := []) (G := fun x : (Option Addr × Nat) × Nat => .tuple #[]) (C := fun x : (Option Addr × Nat) × Nat => Jy (Jm pb0 [str t50.s_, .bool t50.big_, .slice x.1.1 t50.parts_.length x.1.2, .map (some x.2), .int .i64 t50.dirs_, (J5 t50.found_), .int .i64 t50.no_] 165) (Jy (Jw 62 2 (.slice x.1.1 t50.parts_.length x.1.2) t50.parts_.length (t50.parts_.map Ji)) (Yc (fun x_ : Int => .int .i64 x_) (fun x_ : Bool => .bool x_) x.2 t50.seen_))) rfl (fun w L' S hF hS hi hp hlt ho hA => k150 hp hlt (Q8 w S) hn0_2 h_t50) Try.call150 rfl) rfl rfl rfl (fun ⟨p_7, p_8⟩ => ?_)
   refine J2 0 1 rfl rfl (by decide) ?_
   refine J2 1 2 rfl rfl (by decide) ?_
   refine Jg ?_
   refine Ql 3 1 ?_
   refine Ql 103 2 ?_
   refine Ql 96 6 ?_
   refine Wb Vt ?_
   try dsimp only [z1, z2, z5, z6, z7, z8]
   refine Jx 11 10 rfl rfl (by decide) ?_
   try dsimp only [z1, z2, z5, z6, z7, z8]
   refine V5 11 rfl (imp_rowDx (css := []) (xs := ([] : List T_tag_Entry)) (p := ((none, 0) : Option Addr × Nat)) rfl (AllC.nil (G := g_tag_Entry) (h := Vt) (sz := 6))) ?_
   refine Jo (t17, [], ([] : List Int), ([] : List T_tag_Ratio), ([] : List T_tag_Entry), t50.s_, t50.big_, t50.dirs_, t50.found_, t50.no_, t50.parts_, t50.seen_) (((none, 0) : Option Addr × Nat), ((none, 0) : Option Addr × Nat), ((none, 0) : Option Addr × Nat), p_7, p_8) 0 [0, 1, 2, 3, 4, 7, 8, 9, 11] (by exact ⟨rfl, rfl, trivial⟩) (by decide) (by kernel_rfl) (by exact ⟨H40, trivial⟩) (Nat.lt_succ_self _)
  ·have H41 := Jt hb H38; clear H38
   refine Xb (r := r) (σ := Bool) (τ := Unit) (fun s => X0 a0 a1 self t13 t17 t21 l26 s) (fun s t => [(0, .pointer (some ⟨pb0, 0, none⟩)), (1, .int .i64 a1), (2, .slice p_2.1 l26.length p_2.2), (6, .pointer (some ⟨b3, 0, none⟩)), (8, .int .i64 t17), (9, .int .i64 t21), (10, .pointer (some ⟨b5, 0, none⟩)), (51, .bool s)]) (fun s t => [Jm pb0 [str a0.s_, .bool a0.big_, .slice p0_2.1 n0_2 p0_2.2, .map (some m0_3), .int .i64 a0.dirs_, (J5 a0.found_), .int .i64 a0.no_] 165, Jw 62 2 (.slice p0_2.1 n0_2 p0_2.2) n0_2 (a0.parts_.map Ji), Yc (fun x_ : Int => .int .i64 x_) (fun x_ : Bool => .bool x_) m0_3 a0.seen_, Zi Vt Vt, Jm b3 [.int .i64 0, .int .i64 0, str [], .slice none 0 0, .slice none 0 0, .slice none 0 0] 96, Jw 3 1 (.slice p_2.1 l26.length p_2.2) l26.length (l26.map Xx), Jm b5 [.int .i64 t13, .int .i64 t17, str [], .slice none 0 0, .slice none 0 0, .slice none 0 0] 96]) (fun s t => True) ?_ ?_
   ·try dsimp only [z1, z2, z5, z6, z7, z8]
    refine Jb ?_
    refine Ja rfl rfl rfl (Jc (v := .int .i64 t17) rfl) ?_
    refine Ja rfl rfl rfl (Xq rfl rfl) ?_
    refine Ja rfl rfl rfl (Jc (v := .bool (decide (t17 = 13))) rfl) ?_
    refine split (fun hb => ?_) (fun hb => ?_)
    ·have H53 := Js hb H41; clear H41
     refine Ja rfl rfl rfl (Jc (v := .int .i64 t21) rfl) ?_
     refine Ja rfl rfl rfl (V3 rfl rfl) ?_
     refine Ja rfl rfl rfl (Q5 (v := .bool (decide (t21 ≠ 1))) rfl rfl) ?_
     refine Ja rfl rfl rfl (Jd (v := .bool (decide (t21 ≠ 1))) rfl) ?_
     refine Jg ?_
     refine Jo (decide (t21 ≠ 1)) () 0 [0, 1, 2, 3, 4, 5, 7] (by exact ⟨rfl, rfl, rfl, rfl, rfl, rfl, rfl, rfl, trivial⟩) (by decide) (by kernel_rfl) (by exact ⟨H53, trivial⟩) (Nat.lt_succ_self _)
    ·have H54 := Jt hb H41; clear H41
     refine Jk rfl rfl rfl ?_
     refine Jk rfl rfl rfl ?_
     refine Ja rfl rfl rfl (Xg (v := .bool false) rfl rfl) ?_
     refine Ja rfl rfl rfl (Jd (v := .bool false) rfl) ?_
     refine Jg ?_
     refine Jo false () 0 [0, 1, 2, 3, 4, 5, 7] (by exact ⟨rfl, rfl, rfl, rfl, rfl, rfl, rfl, rfl, trivial⟩) (by decide) (by kernel_rfl) (by exact ⟨H54, trivial⟩) (Nat.lt_succ_self _)
   ·rintro x51 _ gg H42 _
    replace H42 : X0 a0 a1 self t13 t17 t21 l26 x51 = some r := H42
    try dsimp only
    refine Qf (b := x51) rfl (fun hb => ?_) (fun hb => ?_)
    ·have H43 := Js hb H42; clear H42
     try dsimp only [z1, z2, z5, z6, z7, z8]
     refine Jb ?_
     refine Ja rfl rfl rfl (Jc (v := .pointer (some ⟨pb0, 0, none⟩)) rfl) ?_
     obtain ⟨t59, h_t59, H44⟩ := Jh H43; clear H43
     refine Jx 1 2 rfl rfl (by decide) ?_
     refine Jx 0 1 rfl rfl (by decide) ?_
     refine Qv (Qc (i := 0) (rds := []) (G := fun x : (Option Addr × Nat) × Nat => .tuple #[]) (C := fun x : (Option Addr × Nat) × Nat => Jy (Jm pb0 [str t59.s_, .bool t59.big_, .slice x.1.1 t59.parts_.length x.1.2, .map (some x.2), .int .i64 t59.dirs_, (J5 t59.found_), .int .i64 t59.no_] 165) (Jy (Jw 62 2 (.slice x.1.1 t59.parts_.length x.1.2) t59.parts_.length (t59.parts_.map Ji)) (Yc (fun x_ : Int => .int .i64 x_) (fun x_ : Bool => .bool x_) x.2 t59.seen_))) rfl (fun w L' S hF hS hi hp hlt ho hA => k150 hp hlt (Q8 w S) hn0_2 h_t59) Try.call150 rfl) rfl rfl rfl (fun ⟨p_9, p_10⟩ => ?_)
     refine J2 0 1 rfl rfl (by decide) ?_
     refine J2 1 2 rfl rfl (by decide) ?_
     refine Jg ?_
     refine Ql 3 1 ?_
     refine Ql 103 2 ?_
     refine Ql 96 6 ?_
     refine Wb Vt ?_
     try dsimp only [z1, z2, z5, z6, z7, z8]
     refine Jx 10 9 rfl rfl (by decide) ?_
     try dsimp only [z1, z2, z5, z6, z7, z8]
     refine V5 10 rfl (imp_rowDx (css := []) (xs := ([] : List T_tag_Entry)) (p := ((none, 0) : Option Addr × Nat)) rfl (AllC.nil (G := g_tag_Entry) (h := Vt) (sz := 6))) ?_
     refine Jo (t17, [], ([] : List Int), ([] : List T_tag_Ratio), ([] : List T_tag_Entry), t59.s_, t59.big_, t59.dirs_, t59.found_, t59.no_, t59.parts_, t59.seen_) (((none, 0) : Option Addr × Nat), ((none, 0) : Option Addr × Nat), ((none, 0) : Option Addr × Nat), p_9, p_10) 0 [0, 1, 2, 3, 4, 6, 7, 8, 10] (by exact ⟨rfl, rfl, trivial⟩) (by decide) (by kernel_rfl) (by exact ⟨H44, trivial⟩) (Nat.lt_succ_self _)
    ·have H45 := Jt hb H42; clear H42
     refine Jf ?_
     try dsimp only [z1, z2, z5, z6, z7, z8]
     refine Jb ?_
     refine Ja rfl rfl rfl (Jc (v := .int .i64 t17) rfl) ?_
     refine Ja rfl rfl rfl (Xq rfl rfl) ?_
     refine Ja rfl rfl rfl (Jd (v := .bool (decide (t17 = 13))) rfl) ?_
     refine Jg ?_
     refine Qf (b := (decide (t17 = 13))) rfl (fun hb => ?_) (fun hb => ?_)
     ·have H46 := Js hb H45; clear H45
      refine Jb ?_
      refine Ja rfl rfl rfl (Jc (v := .pointer (some ⟨pb0, 0, none⟩)) rfl) ?_
      refine Ja rfl rfl rfl (Jc (v := .pointer (some ⟨pb0, 0, none⟩)) rfl) ?_
      refine Ja rfl rfl rfl (Jc (v := .int .i64 a1) rfl) ?_
      obtain ⟨t67, h_t67, H47⟩ := Jh H46; clear H46
      refine Ja rfl rfl rfl (Qd rfl rfl h_t67) ?_
      obtain ⟨t68, h_t68, H48⟩ := Jh H47; clear H47
      refine Xt (fun w hF hS => k118 (a0 := a0) (J3 w) (Z1 (i := 1) hn0_2 hS rfl) (Vj (fk := (fun x_ : Int => .int .i64 x_)) (fv := (fun x_ : Bool => .bool x_)) (i := 2) hS rfl) (Q3 (i := 0) hS rfl) h_t68) Try.call118 rfl rfl rfl ?_
      refine Ja rfl rfl rfl (Jc (v := .slice p_2.1 l26.length p_2.2) rfl) ?_
      obtain ⟨t70, h_t70, H49⟩ := Jh H48; clear H48
      refine Jx 1 2 rfl rfl (by decide) ?_
      refine Jx 0 1 rfl rfl (by decide) ?_
      refine Qv (Qc (i := 0) (rds := [5]) (G := fun x : (Option Addr × Nat) × (Option Addr × Nat) × Nat => .tuple #[.slice x.1.1 t70.1.length x.1.2, .int .i64 t70.2.1]) (C := fun x : (Option Addr × Nat) × (Option Addr × Nat) × Nat => Jy (Jm pb0 [str t70.2.2.s_, .bool t70.2.2.big_, .slice x.2.1.1 t70.2.2.parts_.length x.2.1.2, .map (some x.2.2), .int .i64 t70.2.2.dirs_, (J5 t70.2.2.found_), .int .i64 t70.2.2.no_] 165) (Jy (Jw 62 2 (.slice x.2.1.1 t70.2.2.parts_.length x.2.1.2) t70.2.2.parts_.length (t70.2.2.parts_.map Ji)) (Jy (Yc (fun x_ : Int => .int .i64 x_) (fun x_ : Bool => .bool x_) x.2.2 t70.2.2.seen_) (rowD 96 6 g_tag_Entry (.slice x.1.1 t70.1.length x.1.2) t70.1.length t70.1)))) rfl (fun w L' S hF hS hi hp hlt ho hA => ih hp hlt (Q8 w S) hn0_2 (frb_own (j := 5) rfl hA hS (by decide) ((hi 5 (by simp)).trans rfl)) h_t70) Try.call119 rfl) rfl rfl rfl (fun ⟨p_11, p_12, p_13⟩ => ?_)
      refine J2 0 1 rfl rfl (by decide) ?_
      refine J2 1 2 rfl rfl (by decide) ?_
      refine X3 2 rfl ?_
      refine Ja rfl rfl rfl (Jc (v := .tuple #[.slice p_11.1 t70.1.length p_11.2, .int .i64 t70.2.1]) rfl) ?_
      refine Ja rfl rfl rfl (Xa (v := .slice p_11.1 t70.1.length p_11.2) rfl rfl) ?_
      refine Ja rfl rfl rfl (Xa (v := .int .i64 t70.2.1) rfl rfl) ?_
      refine Ja rfl rfl rfl (Jl Try.runUnderlying96 rfl Try.sizeOf29 rfl rfl) ?_
      refine Ja rfl rfl rfl (Jl Try.runUnderlying29 rfl Try.sizeOf27 rfl rfl) ?_
      refine Qx (i := 6) (vs := [.slice p_11.1 t70.1.length p_11.2]) (cs' := [.int .i64 t13, .int .i64 t17, str [], .slice none 0 0, .slice none 0 0, .slice p_11.1 t70.1.length p_11.2]) Try.sizeOf27 rfl rfl rfl rfl rfl rfl rfl rfl rfl ?_
      refine Jg ?_
      refine Ql 3 1 ?_
      refine Ql 103 2 ?_
      refine Jo (t17, [], ([] : List Int), ([] : List T_tag_Ratio), t70.1, t70.2.2.s_, t70.2.2.big_, t70.2.2.dirs_, t70.2.2.found_, t70.2.2.no_, t70.2.2.parts_, t70.2.2.seen_) (((none, 0) : Option Addr × Nat), ((none, 0) : Option Addr × Nat), p_11, p_12, p_13) 0 [0, 1, 2, 3, 4, 6, 8, 9, 7] (by exact ⟨rfl, rfl, trivial⟩) (by decide) (by kernel_rfl) (by exact ⟨H49, trivial⟩) (Nat.lt_succ_self _)
     ·have H50 := Jt hb H45; clear H45
      try dsimp only [z1, z2, z5, z6, z7, z8]
      refine Jb ?_
      refine Ja rfl rfl rfl (Jc (v := .pointer (some ⟨pb0, 0, none⟩)) rfl) ?_
      refine Ja rfl rfl rfl (Jc (v := .int .i64 t17) rfl) ?_
      refine Ja rfl rfl rfl (Jc (v := .int .i64 t21) rfl) ?_
      refine Ja rfl rfl rfl (Jc (v := .int .i64 a1) rfl) ?_
      obtain ⟨t42, h_t42, H51⟩ := Jh H50; clear H50
      refine Ja rfl rfl rfl (Qd rfl rfl h_t42) ?_
      obtain ⟨t43, h_t43, H52⟩ := Jh H51; clear H51
      refine Jx 1 2 rfl rfl (by decide) ?_
      refine Jx 0 1 rfl rfl (by decide) ?_
      refine Qv (Qc (i := 0) (rds := []) (G := fun x : (Option Addr × Nat) × (Option Addr × Nat) × (Option Addr × Nat) × (Option Addr × Nat) × Nat => .agg #[.int .i64 t43.1.Kind, str t43.1.Text, .slice x.1.1 t43.1.Ints.length x.1.2, .slice x.2.1.1 t43.1.Ratios.length x.2.1.2, .slice x.2.2.1.1 t43.1.Entries.length x.2.2.1.2]) (C := fun x : (Option Addr × Nat) × (Option Addr × Nat) × (Option Addr × Nat) × (Option Addr × Nat) × Nat => Jy (Jm pb0 [str t43.2.s_, .bool t43.2.big_, .slice x.2.2.2.1.1 t43.2.parts_.length x.2.2.2.1.2, .map (some x.2.2.2.2), .int .i64 t43.2.dirs_, (J5 t43.2.found_), .int .i64 t43.2.no_] 165) (Jy (Jw 62 2 (.slice x.2.2.2.1.1 t43.2.parts_.length x.2.2.2.1.2) t43.2.parts_.length (t43.2.parts_.map Ji)) (Jy (Yc (fun x_ : Int => .int .i64 x_) (fun x_ : Bool => .bool x_) x.2.2.2.2 t43.2.seen_) (Jy (Jw 3 1 (.slice x.1.1 t43.1.Ints.length x.1.2) t43.1.Ints.length (t43.1.Ints.map Xx)) (Jy (Jw 103 2 (.slice x.2.1.1 t43.1.Ratios.length x.2.1.2) t43.1.Ratios.length (t43.1.Ratios.map J7)) (rowD 96 6 g_tag_Entry (.slice x.2.2.1.1 t43.1.Entries.length x.2.2.1.2) t43.1.Entries.length t43.1.Entries)))))) rfl (fun w L' S hF hS hi hp hlt ho hA => k176 hp hlt (Q8 w S) hn0_2 h_t43) Try.call176 rfl) rfl rfl rfl (fun ⟨p_14, p_15, p_16, p_17, p_18⟩ => ?_)
      refine J2 0 1 rfl rfl (by decide) ?_
      refine J2 1 2 rfl rfl (by decide) ?_
      refine X3 2 rfl ?_
      refine X3 7 rfl ?_
      refine X3 8 rfl ?_
      refine Ja rfl rfl rfl (Jl Try.runUnderlying96 rfl Try.sizeOf29 rfl rfl) ?_
      refine Qx (i := 6) (vs := [.int .i64 t43.1.Kind, str t43.1.Text, .slice p_14.1 t43.1.Ints.length p_14.2, .slice p_15.1 t43.1.Ratios.length p_15.2, .slice p_16.1 t43.1.Entries.length p_16.2]) (cs' := [.int .i64 t13, .int .i64 t43.1.Kind, str t43.1.Text, .slice p_14.1 t43.1.Ints.length p_14.2, .slice p_15.1 t43.1.Ratios.length p_15.2, .slice p_16.1 t43.1.Entries.length p_16.2]) Try.sizeOf29 rfl rfl rfl rfl rfl rfl rfl rfl rfl ?_
      refine Jg ?_
      refine Jo (t43.1.Kind, t43.1.Text, t43.1.Ints, t43.1.Ratios, t43.1.Entries, t43.2.s_, t43.2.big_, t43.2.dirs_, t43.2.found_, t43.2.no_, t43.2.parts_, t43.2.seen_) (p_14, p_15, p_16, p_17, p_18) 0 [0, 1, 2, 3, 4, 6, 7, 8, 9] (by exact ⟨rfl, rfl, trivial⟩) (by decide) (by kernel_rfl) (by exact ⟨H52, trivial⟩) (Nat.lt_succ_self _)
 ·rintro ⟨m, m_2, l, l_2, l_3, m_3, m_4, m_5, m_6, m_7, l_4, mp⟩ ⟨p_3, p_4, p_5, p_6, b⟩ gg H37 _
  replace H37 : X1 t13 m m_2 l l_2 l_3 m_3 m_4 m_5 m_6 m_7 l_4 mp = some r := H37
  try dsimp only
  refine Jf ?_
  refine Jb ?_
  refine Vx (i := 5) (vs := [.int .i64 t13, .int .i64 m, str m_2, .slice p_3.1 l.length p_3.2, .slice p_4.1 l_2.length p_4.2, .slice p_5.1 l_3.length p_5.2]) Try.isAgg96 Try.sizeOf96 rfl rfl rfl rfl rfl ?_
  refine Qx (i := 4) (vs := [.int .i64 t13, .int .i64 m, str m_2, .slice p_3.1 l.length p_3.2, .slice p_4.1 l_2.length p_4.2, .slice p_5.1 l_3.length p_5.2]) (cs' := [.int .i64 t13, .int .i64 m, str m_2, .slice p_3.1 l.length p_3.2, .slice p_4.1 l_2.length p_4.2, .slice p_5.1 l_3.length p_5.2]) Try.sizeOf96 rfl rfl rfl rfl rfl rfl rfl rfl rfl ?_
  refine Jg ?_
  refine J0 ?_
  refine c_dr 5 ?_
  try dsimp only [z1, z2, z3, z4, z5, z6, z7, z8]
  obtain rfl := Option.some.inj H37
  refine Jx 6 7 rfl rfl (by decide) ?_
  refine Jx 5 6 rfl rfl (by decide) ?_
  refine Jx 2 5 rfl rfl (by decide) ?_
  refine Jx 1 2 rfl rfl (by decide) ?_
  refine Jx 0 1 rfl rfl (by decide) ?_
  refine retC (i := 4) (vs := [.int .i64 t13, .int .i64 m, str m_2, .slice p_3.1 l.length p_3.2, .slice p_4.1 l_2.length p_4.2, .slice p_5.1 l_3.length p_5.2]) Try.isAgg96 Try.sizeOf96 rfl rfl rfl rfl (Wm (p_3, p_4, p_5, p_6, b) (i := 0) rfl rfl (Imp.refl _))
theorem k119_it (mm : Nat) : ∀ {a0 : T_tag_reader} {pb0 : Nat} {p0_2 : Option Addr × Nat} {n0_2 : Nat} {m0_3 : Nat} {a1 : Int} {a2 : (List Int)} {v2 : Value} {r : (List T_tag_Entry) × Int × T_tag_reader} {w : World} {h : J6} {S : Nat → Prop} (hcs : (Jy (Jm pb0 [str a0.s_, .bool a0.big_, .slice p0_2.1 n0_2 p0_2.2, .map (some m0_3), .int .i64 a0.dirs_, (J5 a0.found_), .int .i64 a0.no_] 165) (Jy (Jw 62 2 (.slice p0_2.1 n0_2 p0_2.2) n0_2 (a0.parts_.map Ji)) (Yc (fun x_ : Int => .int .i64 x_) (fun x_ : Bool => .bool x_) m0_3 a0.seen_))).P S w) (hlt : ∀ b, S b → b < w.heap.size) (hw : Know h w S) (hn0_2 : n0_2 = a0.parts_.length) (f2 : FrS h 1 v2 (a2.map Xx)) (H : it (fun (self : (T_tag_reader × Int × (List Int)) → Option ((List T_tag_Entry) × Int × T_tag_reader)) (s : T_tag_reader × Int × (List Int)) => Jz self s.1 s.2.1 s.2.2) mm (a0, a1, a2) = some r), Does Try.prog 119 (List.toArray [.pointer (some ⟨pb0, 0, none⟩), .int .i64 a1, v2]) w (fun v w' => ∃ x : (Option Addr × Nat) × (Option Addr × Nat) × Nat, v = (.tuple #[.slice x.1.1 r.1.length x.1.2, .int .i64 r.2.1]) ∧ Turn w w' S (Jy (Jm pb0 [str r.2.2.s_, .bool r.2.2.big_, .slice x.2.1.1 r.2.2.parts_.length x.2.1.2, .map (some x.2.2), .int .i64 r.2.2.dirs_, (J5 r.2.2.found_), .int .i64 r.2.2.no_] 165) (Jy (Jw 62 2 (.slice x.2.1.1 r.2.2.parts_.length x.2.1.2) r.2.2.parts_.length (r.2.2.parts_.map Ji)) (Jy (Yc (fun x_ : Int => .int .i64 x_) (fun x_ : Bool => .bool x_) x.2.2 r.2.2.seen_) (rowD 96 6 g_tag_Entry (.slice x.1.1 r.1.length x.1.2) r.1.length r.1))))) := by
 induction mm with
 | zero => intros; rename_i H; exact absurd H (by simp [it])
 | succ mm ih =>
  intro a0 pb0 p0_2 n0_2 m0_3 a1 a2 v2 r w h S hcs hlt hw hn0_2 f2 H
  replace H : Jz (it (fun (self : (T_tag_reader × Int × (List Int)) → Option ((List T_tag_Entry) × Int × T_tag_reader)) (s : T_tag_reader × Int × (List Int)) => Jz self s.1 s.2.1 s.2.2) mm) a0 a1 a2 = some r := H
  generalize it (fun (self : (T_tag_reader × Int × (List Int)) → Option ((List T_tag_Entry) × Int × T_tag_reader)) (s : T_tag_reader × Int × (List Int)) => Jz self s.1 s.2.1 s.2.2) mm = self at H ih
  refine enter (n := 145) Try.func119 rfl rfl rfl S [Jy (Jm pb0 [str a0.s_, .bool a0.big_, .slice p0_2.1 n0_2 p0_2.2, .map (some m0_3), .int .i64 a0.dirs_, (J5 a0.found_), .int .i64 a0.no_] 165) (Jy (Jw 62 2 (.slice p0_2.1 n0_2 p0_2.2) n0_2 (a0.parts_.map Ji)) (Yc (fun x_ : Int => .int .i64 x_) (fun x_ : Bool => .bool x_) m0_3 a0.seen_))] (Sat.one hcs hlt) ?_
  refine X3 0 rfl ?_
  refine X3 1 rfl ?_
  refine Wb Vt ?_
  refine Jf ?_
  refine Jb ?_
  refine Ja rfl rfl rfl (Jd (v := .slice none 0 0) rfl) ?_
  refine Ja rfl rfl rfl (Jd (v := .int .i64 0) rfl) ?_
  refine Jg ?_
  refine Jf ?_
  refine Jb ?_
  refine Ja rfl rfl rfl (Jc (v := v2) rfl) ?_
  refine Ja rfl rfl rfl (r_lenF Try.underlying25 rfl f2 rfl) ?_
  refine Ja rfl rfl rfl (Jd (v := .int .i64 (a2.length : Int)) rfl) ?_
  refine Jg ?_
  refine Jf ?_
  refine Jf ?_
  refine Jb ?_
  refine Ja rfl rfl rfl (Jc (v := .pointer (some ⟨pb0, 0, none⟩)) rfl) ?_
  refine Ja rfl rfl rfl (Jc (v := .int .i64 a1) rfl) ?_
  obtain ⟨t15, h_t15, H67⟩ := Jh H; clear H
  refine Xt (fun w hF hS => k149 (a0 := a0) (J3 w) (Z1 (i := 1) hn0_2 hS rfl) (Vj (fk := (fun x_ : Int => .int .i64 x_)) (fv := (fun x_ : Bool => .bool x_)) (i := 2) hS rfl) (Q3 (i := 0) hS rfl) h_t15) Try.call149 rfl rfl rfl ?_
  refine Ja rfl rfl rfl (r_not rfl) ?_
  refine Jg ?_
  refine Qf (b := (!t15)) rfl (fun hb => ?_) (fun hb => ?_)
  ·have H68 := Js hb H67; clear H67
   refine Jf ?_
   refine Jb ?_
   refine Ja rfl rfl rfl (Jc (v := .pointer (some ⟨pb0, 0, none⟩)) rfl) ?_
   obtain ⟨t18, h_t18, H69⟩ := Jh H68; clear H68
   refine Jx 1 2 rfl rfl (by decide) ?_
   refine Jx 0 1 rfl rfl (by decide) ?_
   refine Qv (Qc (i := 0) (rds := []) (G := fun x : (Option Addr × Nat) × Nat => .tuple #[]) (C := fun x : (Option Addr × Nat) × Nat => Jy (Jm pb0 [str t18.s_, .bool t18.big_, .slice x.1.1 t18.parts_.length x.1.2, .map (some x.2), .int .i64 t18.dirs_, (J5 t18.found_), .int .i64 t18.no_] 165) (Jy (Jw 62 2 (.slice x.1.1 t18.parts_.length x.1.2) t18.parts_.length (t18.parts_.map Ji)) (Yc (fun x_ : Int => .int .i64 x_) (fun x_ : Bool => .bool x_) x.2 t18.seen_))) rfl (fun w L' S hF hS hi hp hlt ho hA => k150 hp hlt (Q8 w S) hn0_2 h_t18) Try.call150 rfl) rfl rfl rfl (fun ⟨p, p_2⟩ => ?_)
   refine J2 0 1 rfl rfl (by decide) ?_
   refine J2 1 2 rfl rfl (by decide) ?_
   refine Jg ?_
   refine Jf ?_
   try dsimp only [z1, z2, z5, z6, z7, z8]
   refine Jb ?_
   refine Ja rfl rfl rfl (Jd (v := .slice none 0 0) rfl) ?_
   refine Ja rfl rfl rfl (Jd (v := .int .i64 0) rfl) ?_
   refine Jg ?_
   refine J0 ?_
   refine Ql 96 6 ?_
   obtain rfl := Option.some.inj H69
   refine Jx 3 4 rfl rfl (by decide) ?_
   refine V5 3 rfl (W7 (p := ((none, 0) : Option Addr × Nat)) rfl (AllC.nil (G := g_tag_Entry) (h := Vt) (sz := 6))) ?_
   refine Jx 2 3 rfl rfl (by decide) ?_
   refine Jx 1 2 rfl rfl (by decide) ?_
   refine Jx 0 1 rfl rfl (by decide) ?_
   refine ret2 (v1 := .slice ((none, 0) : Option Addr × Nat).1 (([] : List (List Value)).length) ((none, 0) : Option Addr × Nat).2) (v2 := .int .i64 0) rfl rfl rfl (Wm (((none, 0) : Option Addr × Nat), p, p_2) (i := 0) rfl (by first | rfl | rw [(show (([] : List (List Value)).length) = ([] : List T_tag_Entry).length from (AllC.nil (G := g_tag_Entry) (h := Vt) (sz := 6)).len)]) (by first | exact Imp.refl _ | exact Imp.of (by rw [(show (([] : List (List Value)).length) = ([] : List T_tag_Entry).length from (AllC.nil (G := g_tag_Entry) (h := Vt) (sz := 6)).len)])))
  ·have H70 := Jt hb H67; clear H67
   refine Ju ?_
   refine Jf ?_
   try dsimp only [z1, z2, z5, z6, z7, z8]
   refine Jb ?_
   refine Ja rfl rfl rfl (Jc (v := .pointer (some ⟨pb0, 0, none⟩)) rfl) ?_
   refine Ja rfl rfl rfl (Jc (v := .int .i64 a1) rfl) ?_
   obtain ⟨t21, h_t21, H71⟩ := Jh H70; clear H70
   refine Xt (fun w hF hS => k118 (a0 := a0) (J3 w) (Z1 (i := 1) hn0_2 hS rfl) (Vj (fk := (fun x_ : Int => .int .i64 x_)) (fv := (fun x_ : Bool => .bool x_)) (i := 2) hS rfl) (Q3 (i := 0) hS rfl) h_t21) Try.call118 rfl rfl rfl ?_
   refine Ja rfl rfl rfl (Jd (v := .int .i64 t21) rfl) ?_
   refine Jg ?_
   refine Xb (r := r) (σ := (List UInt8) × Bool × Int × Nat × Int × (List T_tag_Span) × (List (Int × Bool))) (τ := (Option Addr × Nat) × Nat × Nat) (fun s => Qn a1 a2 self t21 s.1 s.2.1 s.2.2.1 s.2.2.2.1 s.2.2.2.2.1 s.2.2.2.2.2.1 s.2.2.2.2.2.2) (fun s t => [(0, .pointer (some ⟨pb0, 0, none⟩)), (1, .int .i64 a1), (2, v2), (6, .slice none 0 0), (8, .int .i64 (a2.length : Int)), (9, .int .i64 t21)]) (fun s t => [Jm pb0 [str s.1, .bool s.2.1, .slice t.1.1 t.2.1 t.1.2, .map (some t.2.2), .int .i64 s.2.2.1, (J5 s.2.2.2.1), .int .i64 s.2.2.2.2.1] 165, Jw 62 2 (.slice t.1.1 t.2.1 t.1.2) t.2.1 (s.2.2.2.2.2.1.map Ji), Yc (fun x_ : Int => .int .i64 x_) (fun x_ : Bool => .bool x_) t.2.2 s.2.2.2.2.2.2, Zi Vt Vt]) (fun s t => t.2.1 = s.2.2.2.2.2.1.length) ?_ ?_
   ·refine J1 ?_
    refine Jf ?_
    refine Jb ?_
    refine Ja rfl rfl rfl (Jc (v := .pointer (some ⟨pb0, 0, none⟩)) rfl) ?_
    refine Ja rfl rfl rfl (Jp rfl) ?_
    refine Ja rfl rfl rfl (Jl Try.runUnderlying165 rfl Try.sizeOf158 rfl rfl) ?_
    refine Jr (i := 0) (v := .map (some m0_3)) Try.isAgg158 rfl rfl rfl rfl rfl ?_
    refine Ja rfl rfl rfl (Jc (v := .int .i64 a1) rfl) ?_
    refine Yg (fun w hF hS => run_lookup (i := 2) (fk := (fun x_ : Int => .int .i64 x_)) (fv := (fun x_ : Bool => .bool x_)) (k := a1) (z := false) keyF_int Try.underlying158 Try.underlying3 Try.zeroValue4 rfl rfl hS rfl) rfl rfl rfl ?_
    refine Ja rfl rfl rfl (Jd (v := .bool ((mGet a0.seen_ a1).getD false)) rfl) ?_
    refine Jg ?_
    refine Qf (b := ((mGet a0.seen_ a1).getD false)) rfl (fun hb => ?_) (fun hb => ?_)
    ·have H114 := Js hb H71; clear H71
     refine Jb ?_
     refine Ja rfl rfl rfl (Jc (v := .pointer (some ⟨pb0, 0, none⟩)) rfl) ?_
     obtain ⟨t30, h_t30, H115⟩ := Jh H114; clear H114
     refine Jx 1 2 rfl rfl (by decide) ?_
     refine Jx 0 1 rfl rfl (by decide) ?_
     refine Qv (Qc (i := 0) (rds := []) (G := fun x : (Option Addr × Nat) × Nat => .tuple #[]) (C := fun x : (Option Addr × Nat) × Nat => Jy (Jm pb0 [str t30.s_, .bool t30.big_, .slice x.1.1 t30.parts_.length x.1.2, .map (some x.2), .int .i64 t30.dirs_, (J5 t30.found_), .int .i64 t30.no_] 165) (Jy (Jw 62 2 (.slice x.1.1 t30.parts_.length x.1.2) t30.parts_.length (t30.parts_.map Ji)) (Yc (fun x_ : Int => .int .i64 x_) (fun x_ : Bool => .bool x_) x.2 t30.seen_))) rfl (fun w L' S hF hS hi hp hlt ho hA => k150 hp hlt (Q8 w S) hn0_2 h_t30) Try.call150 rfl) rfl rfl rfl (fun ⟨p_20, p_21⟩ => ?_)
     refine J2 0 1 rfl rfl (by decide) ?_
     refine J2 1 2 rfl rfl (by decide) ?_
     refine Jg ?_
     refine Jo (t30.s_, t30.big_, t30.dirs_, t30.found_, t30.no_, t30.parts_, t30.seen_) (p_20, t30.parts_.length, p_21) 0 [0, 1, 2, 3] (by exact ⟨rfl, rfl, rfl, rfl, rfl, rfl, trivial⟩) (by decide) (by kernel_rfl) (by exact ⟨H115, rfl⟩) (Nat.lt_succ_self _)
    ·have H116 := Jt hb H71; clear H71
     refine Jf ?_
     try dsimp only [z1, z2, z5, z6, z7, z8]
     refine Jb ?_
     refine Ja rfl rfl rfl (Jc (v := .pointer (some ⟨pb0, 0, none⟩)) rfl) ?_
     refine Ja rfl rfl rfl (Jp rfl) ?_
     refine Ja rfl rfl rfl (Jl Try.runUnderlying165 rfl Try.sizeOf3 rfl rfl) ?_
     refine Jr (i := 0) (v := .int .i64 a0.dirs_) Try.isAgg3 rfl rfl rfl rfl rfl ?_
     refine Ja rfl rfl rfl (Wq rfl rfl) ?_
     refine Ja rfl rfl rfl (Jc (v := .bool (decide (20 < a0.dirs_))) rfl) ?_
     refine split (fun hb => ?_) (fun hb => ?_)
     ·have H117 := Js hb H116; clear H116
      refine Jk rfl rfl rfl ?_
      refine Jk rfl rfl rfl ?_
      refine Ja rfl rfl rfl (Q5 (v := .bool true) rfl rfl) ?_
      refine Ja rfl rfl rfl (Jc (v := .bool true) rfl) ?_
      refine Jk rfl rfl rfl ?_
      refine Jk rfl rfl rfl ?_
      refine Ja rfl rfl rfl (Q5 (v := .bool true) rfl rfl) ?_
      refine Ja rfl rfl rfl (Jd (v := .bool true) rfl) ?_
      refine Jg ?_
      refine c_true rfl ?_
      refine Jb ?_
      refine Ja rfl rfl rfl (Jc (v := .pointer (some ⟨pb0, 0, none⟩)) rfl) ?_
      obtain ⟨t46, h_t46, H118⟩ := Jh H117; clear H117
      refine Jx 1 2 rfl rfl (by decide) ?_
      refine Jx 0 1 rfl rfl (by decide) ?_
      refine Qv (Qc (i := 0) (rds := []) (G := fun x : (Option Addr × Nat) × Nat => .tuple #[]) (C := fun x : (Option Addr × Nat) × Nat => Jy (Jm pb0 [str t46.s_, .bool t46.big_, .slice x.1.1 t46.parts_.length x.1.2, .map (some x.2), .int .i64 t46.dirs_, (J5 t46.found_), .int .i64 t46.no_] 165) (Jy (Jw 62 2 (.slice x.1.1 t46.parts_.length x.1.2) t46.parts_.length (t46.parts_.map Ji)) (Yc (fun x_ : Int => .int .i64 x_) (fun x_ : Bool => .bool x_) x.2 t46.seen_))) rfl (fun w L' S hF hS hi hp hlt ho hA => k150 hp hlt (Q8 w S) hn0_2 h_t46) Try.call150 rfl) rfl rfl rfl (fun ⟨p_22, p_23⟩ => ?_)
      refine J2 0 1 rfl rfl (by decide) ?_
      refine J2 1 2 rfl rfl (by decide) ?_
      refine Jg ?_
      refine Jo (t46.s_, t46.big_, t46.dirs_, t46.found_, t46.no_, t46.parts_, t46.seen_) (p_22, t46.parts_.length, p_23) 0 [0, 1, 2, 3] (by exact ⟨rfl, rfl, rfl, rfl, rfl, rfl, trivial⟩) (by decide) (by kernel_rfl) (by exact ⟨H118, rfl⟩) (Nat.lt_succ_self _)
     ·have H119 := Jt hb H116; clear H116
      refine Ja rfl rfl rfl (Jc (v := .int .i64 (a2.length : Int)) rfl) ?_
      refine Ja rfl rfl rfl (Wq rfl rfl) ?_
      refine Ja rfl rfl rfl (Xg (v := .bool (decide (5 < (a2.length : Int)))) rfl rfl) ?_
      refine Ja rfl rfl rfl (Jc (v := .bool (decide (5 < (a2.length : Int)))) rfl) ?_
      refine split (fun hb => ?_) (fun hb => ?_)
      ·have H120 := Js hb H119; clear H119
       refine Jk rfl rfl rfl ?_
       refine Jk rfl rfl rfl ?_
       refine Ja rfl rfl rfl (Q5 (v := .bool true) rfl rfl) ?_
       refine Ja rfl rfl rfl (Jd (v := .bool true) rfl) ?_
       refine Jg ?_
       refine c_true rfl ?_
       refine Jb ?_
       refine Ja rfl rfl rfl (Jc (v := .pointer (some ⟨pb0, 0, none⟩)) rfl) ?_
       obtain ⟨t46_2, h_t46_2, H121⟩ := Jh H120; clear H120
       refine Jx 1 2 rfl rfl (by decide) ?_
       refine Jx 0 1 rfl rfl (by decide) ?_
       refine Qv (Qc (i := 0) (rds := []) (G := fun x : (Option Addr × Nat) × Nat => .tuple #[]) (C := fun x : (Option Addr × Nat) × Nat => Jy (Jm pb0 [str t46_2.s_, .bool t46_2.big_, .slice x.1.1 t46_2.parts_.length x.1.2, .map (some x.2), .int .i64 t46_2.dirs_, (J5 t46_2.found_), .int .i64 t46_2.no_] 165) (Jy (Jw 62 2 (.slice x.1.1 t46_2.parts_.length x.1.2) t46_2.parts_.length (t46_2.parts_.map Ji)) (Yc (fun x_ : Int => .int .i64 x_) (fun x_ : Bool => .bool x_) x.2 t46_2.seen_))) rfl (fun w L' S hF hS hi hp hlt ho hA => k150 hp hlt (Q8 w S) hn0_2 h_t46_2) Try.call150 rfl) rfl rfl rfl (fun ⟨p_24, p_25⟩ => ?_)
       refine J2 0 1 rfl rfl (by decide) ?_
       refine J2 1 2 rfl rfl (by decide) ?_
       refine Jg ?_
       refine Jo (t46_2.s_, t46_2.big_, t46_2.dirs_, t46_2.found_, t46_2.no_, t46_2.parts_, t46_2.seen_) (p_24, t46_2.parts_.length, p_25) 0 [0, 1, 2, 3] (by exact ⟨rfl, rfl, rfl, rfl, rfl, rfl, trivial⟩) (by decide) (by kernel_rfl) (by exact ⟨H121, rfl⟩) (Nat.lt_succ_self _)
      ·have H122 := Jt hb H119; clear H119
       refine Ja rfl rfl rfl (Jc (v := .int .i64 t21) rfl) ?_
       refine Ja rfl rfl rfl (Wq rfl rfl) ?_
       refine Ja rfl rfl rfl (Xg (v := .bool (decide (200 < t21))) rfl rfl) ?_
       refine Ja rfl rfl rfl (Jd (v := .bool (decide (200 < t21))) rfl) ?_
       refine Jg ?_
       refine Qf (b := (decide (200 < t21))) rfl (fun hb => ?_) (fun hb => ?_)
       ·have H123 := Js hb H122; clear H122
        try dsimp only [z1, z2, z5, z6, z7, z8]
        refine Jb ?_
        refine Ja rfl rfl rfl (Jc (v := .pointer (some ⟨pb0, 0, none⟩)) rfl) ?_
        obtain ⟨t46_3, h_t46_3, H124⟩ := Jh H123; clear H123
        refine Jx 1 2 rfl rfl (by decide) ?_
        refine Jx 0 1 rfl rfl (by decide) ?_
        refine Qv (Qc (i := 0) (rds := []) (G := fun x : (Option Addr × Nat) × Nat => .tuple #[]) (C := fun x : (Option Addr × Nat) × Nat => Jy (Jm pb0 [str t46_3.s_, .bool t46_3.big_, .slice x.1.1 t46_3.parts_.length x.1.2, .map (some x.2), .int .i64 t46_3.dirs_, (J5 t46_3.found_), .int .i64 t46_3.no_] 165) (Jy (Jw 62 2 (.slice x.1.1 t46_3.parts_.length x.1.2) t46_3.parts_.length (t46_3.parts_.map Ji)) (Yc (fun x_ : Int => .int .i64 x_) (fun x_ : Bool => .bool x_) x.2 t46_3.seen_))) rfl (fun w L' S hF hS hi hp hlt ho hA => k150 hp hlt (Q8 w S) hn0_2 h_t46_3) Try.call150 rfl) rfl rfl rfl (fun ⟨p_26, p_27⟩ => ?_)
        refine J2 0 1 rfl rfl (by decide) ?_
        refine J2 1 2 rfl rfl (by decide) ?_
        refine Jg ?_
        refine Jo (t46_3.s_, t46_3.big_, t46_3.dirs_, t46_3.found_, t46_3.no_, t46_3.parts_, t46_3.seen_) (p_26, t46_3.parts_.length, p_27) 0 [0, 1, 2, 3] (by exact ⟨rfl, rfl, rfl, rfl, rfl, rfl, trivial⟩) (by decide) (by kernel_rfl) (by exact ⟨H124, rfl⟩) (Nat.lt_succ_self _)
       ·have H125 := Jt hb H122; clear H122
        refine Jf ?_
        refine Jb ?_
        refine Ja rfl rfl rfl (Jc (v := .pointer (some ⟨pb0, 0, none⟩)) rfl) ?_
        refine Ja rfl rfl rfl (Jc (v := .int .i64 a1) rfl) ?_
        refine Ja rfl rfl rfl (Jc (v := .int .i64 t21) rfl) ?_
        obtain ⟨t51, h_t51, H126⟩ := Jh H125; clear H125
        refine Ja rfl rfl rfl (Ud rfl rfl h_t51) ?_
        obtain ⟨t52, h_t52, H127⟩ := Jh H126; clear H126
        refine Ja rfl rfl rfl (Qd rfl rfl h_t52) ?_
        obtain ⟨t53, h_t53, H128⟩ := Jh H127; clear H127
        refine Ja rfl rfl rfl (Qd rfl rfl h_t53) ?_
        obtain ⟨t54, h_t54, H129⟩ := Jh H128; clear H128
        refine Xt (fun w hF hS => k149 (a0 := a0) (J3 w) (Z1 (i := 1) hn0_2 hS rfl) (Vj (fk := (fun x_ : Int => .int .i64 x_)) (fv := (fun x_ : Bool => .bool x_)) (i := 2) hS rfl) (Q3 (i := 0) hS rfl) h_t54) Try.call149 rfl rfl rfl ?_
        refine Ja rfl rfl rfl (r_not rfl) ?_
        refine Ja rfl rfl rfl (Jd (v := .bool (!t54)) rfl) ?_
        refine Jg ?_
        refine Qf (b := (!t54)) rfl (fun hb => ?_) (fun hb => ?_)
        ·have H130 := Js hb H129; clear H129
         refine Jb ?_
         refine Ja rfl rfl rfl (Jc (v := .pointer (some ⟨pb0, 0, none⟩)) rfl) ?_
         obtain ⟨t57, h_t57, H131⟩ := Jh H130; clear H130
         refine Jx 1 2 rfl rfl (by decide) ?_
         refine Jx 0 1 rfl rfl (by decide) ?_
         refine Qv (Qc (i := 0) (rds := []) (G := fun x : (Option Addr × Nat) × Nat => .tuple #[]) (C := fun x : (Option Addr × Nat) × Nat => Jy (Jm pb0 [str t57.s_, .bool t57.big_, .slice x.1.1 t57.parts_.length x.1.2, .map (some x.2), .int .i64 t57.dirs_, (J5 t57.found_), .int .i64 t57.no_] 165) (Jy (Jw 62 2 (.slice x.1.1 t57.parts_.length x.1.2) t57.parts_.length (t57.parts_.map Ji)) (Yc (fun x_ : Int => .int .i64 x_) (fun x_ : Bool => .bool x_) x.2 t57.seen_))) rfl (fun w L' S hF hS hi hp hlt ho hA => k150 hp hlt (Q8 w S) hn0_2 h_t57) Try.call150 rfl) rfl rfl rfl (fun ⟨p_28, p_29⟩ => ?_)
         refine J2 0 1 rfl rfl (by decide) ?_
         refine J2 1 2 rfl rfl (by decide) ?_
         refine Jg ?_
         refine Jo (t57.s_, t57.big_, t57.dirs_, t57.found_, t57.no_, t57.parts_, t57.seen_) (p_28, t57.parts_.length, p_29) 0 [0, 1, 2, 3] (by exact ⟨rfl, rfl, rfl, rfl, rfl, rfl, trivial⟩) (by decide) (by kernel_rfl) (by exact ⟨H131, rfl⟩) (Nat.lt_succ_self _)
        ·have H132 := Jt hb H129; clear H129
         refine Ju ?_
         refine Jo (a0.s_, a0.big_, a0.dirs_, a0.found_, a0.no_, a0.parts_, a0.seen_) (p0_2, n0_2, m0_3) 0 [0, 1, 2, 3] (by exact ⟨rfl, rfl, rfl, rfl, rfl, rfl, trivial⟩) (by decide) (by kernel_rfl) (by exact ⟨H132, hn0_2⟩) (Nat.lt_succ_self _)
   ·rintro ⟨m, m_2, m_3, m_4, m_5, l, mp⟩ ⟨p_3, n, b⟩ gg H72 hl
    replace H72 : Qn a1 a2 self t21 m m_2 m_3 m_4 m_5 l mp = some r := H72
    try dsimp only
    refine Jf ?_
    refine Jf ?_
    refine Jb ?_
    refine Ja rfl rfl rfl (Jc (v := .pointer (some ⟨pb0, 0, none⟩)) rfl) ?_
    refine Ja rfl rfl rfl (Jp rfl) ?_
    refine Ja rfl rfl rfl (Jl Try.runUnderlying165 rfl Try.sizeOf30 rfl rfl) ?_
    refine Jr (i := 0) (v := .int .i64 m_5) Try.isAgg30 rfl rfl rfl rfl rfl ?_
    refine Ja rfl rfl rfl (V3 rfl rfl) ?_
    refine Jg ?_
    refine Qf (b := (decide (m_5 ≠ 0))) rfl (fun hb => ?_) (fun hb => ?_)
    ·have H73 := Js hb H72; clear H72
     refine Jf ?_
     refine Jb ?_
     refine Ja rfl rfl rfl (Jd (v := .slice none 0 0) rfl) ?_
     refine Ja rfl rfl rfl (Jd (v := .int .i64 0) rfl) ?_
     refine Jg ?_
     refine J0 ?_
     refine Ql 96 6 ?_
     obtain rfl := Option.some.inj H73
     refine Jx 3 4 rfl rfl (by decide) ?_
     refine V5 3 rfl (W7 (p := ((none, 0) : Option Addr × Nat)) rfl (AllC.nil (G := g_tag_Entry) (h := Vt) (sz := 6))) ?_
     refine Jx 2 3 rfl rfl (by decide) ?_
     refine Jx 1 2 rfl rfl (by decide) ?_
     refine Jx 0 1 rfl rfl (by decide) ?_
     refine ret2 (v1 := .slice ((none, 0) : Option Addr × Nat).1 (([] : List (List Value)).length) ((none, 0) : Option Addr × Nat).2) (v2 := .int .i64 0) rfl rfl rfl (Wm (((none, 0) : Option Addr × Nat), p_3, b) (i := 0) rfl (by first | rfl | rw [(show (([] : List (List Value)).length) = ([] : List T_tag_Entry).length from (AllC.nil (G := g_tag_Entry) (h := Vt) (sz := 6)).len), (show n = l.length from hl)]) (by first | exact Imp.refl _ | exact Imp.of (by rw [(show (([] : List (List Value)).length) = ([] : List T_tag_Entry).length from (AllC.nil (G := g_tag_Entry) (h := Vt) (sz := 6)).len), (show n = l.length from hl)])))
    ·have H74 := Jt hb H72; clear H72
     refine Ju ?_
     refine Jf ?_
     try dsimp only [z1, z2, z5, z6, z7, z8]
     refine Jb ?_
     refine Ja rfl rfl rfl (Jc (v := .pointer (some ⟨pb0, 0, none⟩)) rfl) ?_
     refine Ja rfl rfl rfl (Jp rfl) ?_
     refine Ja rfl rfl rfl (Jl Try.runUnderlying165 rfl Try.sizeOf158 rfl rfl) ?_
     refine Jr (i := 0) (v := .map (some b)) Try.isAgg158 rfl rfl rfl rfl rfl ?_
     refine Ja rfl rfl rfl (Jc (v := .int .i64 a1) rfl) ?_
     refine l_turn0 (turns_mset (u := true) (i := 2) (rds := []) (fk := (fun x_ : Int => .int .i64 x_)) (fv := (fun x_ : Bool => .bool x_)) (k := a1) (v := true) keyF_int (.inr rfl) Try.underlying158 Try.underlying3 rfl rfl rfl rfl) rfl rfl (fun _ => ?_)
     refine Jg ?_
     refine Jf ?_
     refine Jb ?_
     refine Ja rfl rfl rfl (Jc (v := .pointer (some ⟨pb0, 0, none⟩)) rfl) ?_
     refine Ja rfl rfl rfl (Jc (v := .pointer (some ⟨pb0, 0, none⟩)) rfl) ?_
     refine Ja rfl rfl rfl (Jp rfl) ?_
     refine Ja rfl rfl rfl (Jl Try.runUnderlying165 rfl Try.sizeOf57 rfl rfl) ?_
     refine Jr (i := 0) (v := .slice p_3.1 n p_3.2) Try.isAgg57 rfl rfl rfl rfl rfl ?_
     refine Ja rfl rfl rfl (Jc (v := .int .i64 a1) rfl) ?_
     refine Ja rfl rfl rfl (Jc (v := .int .i64 a1) rfl) ?_
     obtain ⟨t75, h_t75, H75⟩ := Jh H74; clear H74
     refine Ja rfl rfl rfl (Qd rfl rfl h_t75) ?_
     refine Ja rfl rfl rfl (Jc (v := .int .i64 t21) rfl) ?_
     obtain ⟨t77, h_t77, H76⟩ := Jh H75; clear H75
     refine Ja rfl rfl rfl (Ud rfl rfl h_t77) ?_
     obtain ⟨t78, h_t78, H77⟩ := Jh H76; clear H76
     refine Ja rfl rfl rfl (Qd rfl rfl h_t78) ?_
     obtain ⟨t79, h_t79, H78⟩ := Jh H77; clear H77
     refine Ja rfl rfl rfl (Qd rfl rfl h_t79) ?_
     refine Ja rfl rfl rfl (Y6 (pl := #[(0, 1), (1, 1)]) (ps := [(0, .int .i64 a1), (1, .int .i64 t79)]) (cells := #[.int .i64 a1, .int .i64 t79]) Try.zeroValue62 Try.runUnderlying62 (fun w => by kernel_rfl) rfl rfl) ?_
     refine Qr (vs := [.agg #[.int .i64 a1, .int .i64 t79]]) (cs := [.int .i64 a1, .int .i64 t79]) Try.underlying57 Try.sizeOf62 Try.zeroValue62 rfl rfl rfl rfl rfl rfl rfl (fun b2 => ?_)
     obtain ⟨l82, h_l82, H79⟩ := Jh H78; clear H78
     refine Qv (Xd (i := 1) (hn := hl) (rds := [4]) (p := p_3) (sz := 2) (by_ := 16) (f := Ji) (ys := l) (ls := ([(⟨a1, t79⟩ : T_tag_Span)] : List T_tag_Span)) (V := .slice (some ⟨b2, 0, none⟩) 1 1) Try.underlying57 (Xn Try.typeInfo62) rfl rfl rfl rfl rfl rfl rfl rfl rfl rfl (fun w L' hF hS hi => Vm (i := 4) hS ((hi 4 (by simp)).trans rfl) rfl rfl) (fun _ => rfl) (fun _ => rfl) h_l82) rfl rfl rfl (fun p_4 => ?_)
     refine Ja rfl rfl rfl (Jp rfl) ?_
     refine Ja rfl rfl rfl (Jl Try.runUnderlying165 rfl Try.sizeOf57 rfl rfl) ?_
     refine Qx (i := 0) (vs := [.slice p_4.1 l82.length p_4.2]) (cs' := [str m, .bool m_2, .slice p_4.1 l82.length p_4.2, .map (some b), .int .i64 m_3, (J5 m_4), .int .i64 m_5]) Try.sizeOf57 rfl rfl rfl rfl rfl rfl rfl rfl rfl ?_
     refine Jg ?_
     refine Jf ?_
     refine Jb ?_
     refine Ja rfl rfl rfl (Jc (v := .pointer (some ⟨pb0, 0, none⟩)) rfl) ?_
     refine Ja rfl rfl rfl (Jc (v := .int .i64 a1) rfl) ?_
     obtain ⟨t87, h_t87, H80⟩ := Jh H79; clear H79
     refine Ja rfl rfl rfl (Qd rfl rfl h_t87) ?_
     refine Ja rfl rfl rfl (Jc (v := .int .i64 t21) rfl) ?_
     obtain ⟨t89, h_t89, H81⟩ := Jh H80; clear H80
     refine Ja rfl rfl rfl (Ud rfl rfl h_t89) ?_
     obtain ⟨t90, h_t90, H82⟩ := Jh H81; clear H81
     refine Ja rfl rfl rfl (Qd rfl rfl h_t90) ?_
     obtain ⟨t91, h_t91, H83⟩ := Jh H82; clear H82
     refine Xt (fun w hF hS => k118 (a0 := (⟨m, m_2, l82, (Uv mp a1 true), m_3, m_4, m_5⟩ : T_tag_reader)) (J3 w) (Z1 (i := 1) rfl hS rfl) (Vj (fk := (fun x_ : Int => .int .i64 x_)) (fv := (fun x_ : Bool => .bool x_)) (i := 2) hS rfl) (Q3 (i := 0) hS rfl) h_t91) Try.call118 rfl rfl rfl ?_
     refine Ja rfl rfl rfl (Jd (v := .int .i64 t91) rfl) ?_
     refine Jg ?_
     refine Xb (r := r) (σ := (List UInt8) × Bool × Int × Nat × Int × (List T_tag_Span) × (List (Int × Bool))) (τ := (Option Addr × Nat) × Nat) (fun s => Y8 a1 a2 self t21 t91 s.1 s.2.1 s.2.2.1 s.2.2.2.1 s.2.2.2.2.1 s.2.2.2.2.2.1 s.2.2.2.2.2.2) (fun s t => [(0, .pointer (some ⟨pb0, 0, none⟩)), (1, .int .i64 a1), (2, v2), (6, .slice none 0 0), (7, .int .i64 t91), (9, .int .i64 t21)]) (fun s t => [Jm pb0 [str s.1, .bool s.2.1, .slice t.1.1 s.2.2.2.2.2.1.length t.1.2, .map (some t.2), .int .i64 s.2.2.1, (J5 s.2.2.2.1), .int .i64 s.2.2.2.2.1] 165, Jw 62 2 (.slice t.1.1 s.2.2.2.2.2.1.length t.1.2) s.2.2.2.2.2.1.length (s.2.2.2.2.2.1.map Ji), Yc (fun x_ : Int => .int .i64 x_) (fun x_ : Bool => .bool x_) t.2 s.2.2.2.2.2.2, Zi Vt Vt]) (fun s t => True) ?_ ?_
     ·refine Jf ?_
      refine Jb ?_
      refine Ja rfl rfl rfl (Jc (v := .int .i64 (a2.length : Int)) rfl) ?_
      refine Ja rfl rfl rfl (Wq rfl rfl) ?_
      refine Ja rfl rfl rfl (Jc (v := .bool (decide (1 < (a2.length : Int)))) rfl) ?_
      refine split (fun hb => ?_) (fun hb => ?_)
      ·have H109 := Js hb H83; clear H83
       refine Ja rfl rfl rfl (Jc (v := .int .i64 t91) rfl) ?_
       refine Ja rfl rfl rfl (V3 rfl rfl) ?_
       refine Ja rfl rfl rfl (Q5 (v := .bool (decide (t91 ≠ 0))) rfl rfl) ?_
       refine Jg ?_
       refine Qf (b := (decide (t91 ≠ 0))) rfl (fun hb => ?_) (fun hb => ?_)
       ·have H110 := Js hb H109; clear H109
        refine Jb ?_
        refine Ja rfl rfl rfl (Jc (v := .pointer (some ⟨pb0, 0, none⟩)) rfl) ?_
        obtain ⟨t99, h_t99, H111⟩ := Jh H110; clear H110
        refine Jx 1 2 rfl rfl (by decide) ?_
        refine Jx 0 1 rfl rfl (by decide) ?_
        refine Qv (Qc (i := 0) (rds := []) (G := fun x : (Option Addr × Nat) × Nat => .tuple #[]) (C := fun x : (Option Addr × Nat) × Nat => Jy (Jm pb0 [str t99.s_, .bool t99.big_, .slice x.1.1 t99.parts_.length x.1.2, .map (some x.2), .int .i64 t99.dirs_, (J5 t99.found_), .int .i64 t99.no_] 165) (Jy (Jw 62 2 (.slice x.1.1 t99.parts_.length x.1.2) t99.parts_.length (t99.parts_.map Ji)) (Yc (fun x_ : Int => .int .i64 x_) (fun x_ : Bool => .bool x_) x.2 t99.seen_))) rfl (fun w L' S hF hS hi hp hlt ho hA => k150 hp hlt (Q8 w S) rfl h_t99) Try.call150 rfl) rfl rfl rfl (fun ⟨p_18, p_19⟩ => ?_)
        refine J2 0 1 rfl rfl (by decide) ?_
        refine J2 1 2 rfl rfl (by decide) ?_
        refine Jg ?_
        refine Jo (t99.s_, t99.big_, t99.dirs_, t99.found_, t99.no_, t99.parts_, t99.seen_) (p_18, p_19) 0 [0, 1, 2, 3] (by exact ⟨rfl, rfl, rfl, rfl, rfl, rfl, trivial⟩) (by decide) (by kernel_rfl) (by exact ⟨H111, trivial⟩) (Nat.lt_succ_self _)
       ·have H112 := Jt hb H109; clear H109
        refine Ju ?_
        refine Jo (m, m_2, m_3, m_4, m_5, l82, (Uv mp a1 true)) (p_4, b) 0 [0, 1, 2, 3] (by exact ⟨rfl, rfl, rfl, rfl, rfl, rfl, trivial⟩) (by decide) (by kernel_rfl) (by exact ⟨H112, trivial⟩) (Nat.lt_succ_self _)
      ·have H113 := Jt hb H83; clear H83
       refine Jk rfl rfl rfl ?_
       refine Jk rfl rfl rfl ?_
       refine Ja rfl rfl rfl (Xg (v := .bool false) rfl rfl) ?_
       refine Jg ?_
       refine W0 rfl ?_
       refine Ju ?_
       refine Jo (m, m_2, m_3, m_4, m_5, l82, (Uv mp a1 true)) (p_4, b) 0 [0, 1, 2, 3] (by exact ⟨rfl, rfl, rfl, rfl, rfl, rfl, trivial⟩) (by decide) (by kernel_rfl) (by exact ⟨H113, trivial⟩) (Nat.lt_succ_self _)
     ·rintro ⟨m_6, m_7, m_8, m_9, m_10, l_2, mp_2⟩ ⟨p_5, b_2⟩ gg H84 _
      replace H84 : Y8 a1 a2 self t21 t91 m_6 m_7 m_8 m_9 m_10 l_2 mp_2 = some r := H84
      try dsimp only
      refine Xb (r := r) (σ := Int × (List UInt8) × Bool × Int × Nat × Int × (List T_tag_Span) × (List (Int × Bool)) × (List T_tag_Entry)) (τ := J6 × (Option Addr × Nat) × Nat × (List (List Value)) × (Option Addr × Nat)) (fun s => Zz s.1 s.2.1 s.2.2.1 s.2.2.2.1 s.2.2.2.2.1 s.2.2.2.2.2.1 s.2.2.2.2.2.2.1 s.2.2.2.2.2.2.2.1 s.2.2.2.2.2.2.2.2) (fun s t => [(6, .slice t.2.2.2.2.1 t.2.2.2.1.length t.2.2.2.2.2), (7, .int .i64 s.1)]) (fun s t => [Jm pb0 [str s.2.1, .bool s.2.2.1, .slice t.2.1.1 s.2.2.2.2.2.2.1.length t.2.1.2, .map (some t.2.2.1), .int .i64 s.2.2.2.1, (J5 s.2.2.2.2.1), .int .i64 s.2.2.2.2.2.1] 165, Jw 62 2 (.slice t.2.1.1 s.2.2.2.2.2.2.1.length t.2.1.2) s.2.2.2.2.2.2.1.length (s.2.2.2.2.2.2.1.map Ji), Yc (fun x_ : Int => .int .i64 x_) (fun x_ : Bool => .bool x_) t.2.2.1 s.2.2.2.2.2.2.2.1, Zi Vt t.1, Jw 96 6 (.slice t.2.2.2.2.1 t.2.2.2.1.length t.2.2.2.2.2) t.2.2.2.1.length (t.2.2.2.1.map idC)]) (fun s t => AllC g_tag_Entry t.1 6 t.2.2.2.1 s.2.2.2.2.2.2.2.2) ?_ ?_
      ·refine Jf ?_
       refine Jb ?_
       refine Ja rfl rfl rfl (Jd (v := .int .i64 0) rfl) ?_
       refine Jg ?_
       refine J1 ?_
       refine Ql 96 6 ?_
       refine Z5 (σ := Int × Int × Int × Int × (List UInt8) × Bool × Int × Nat × Int × (List T_tag_Span) × (List (Int × Bool)) × (List T_tag_Entry)) (τ := J6 × (Option Addr × Nat) × Nat × (List (List Value)) × (Option Addr × Nat)) (fun next4 s => Qg a2 self next4 s.1 s.2.1 s.2.2.1 s.2.2.2.1 s.2.2.2.2.1 s.2.2.2.2.2.1 s.2.2.2.2.2.2.1 s.2.2.2.2.2.2.2.1 s.2.2.2.2.2.2.2.2.1 s.2.2.2.2.2.2.2.2.2.1 s.2.2.2.2.2.2.2.2.2.2.1 s.2.2.2.2.2.2.2.2.2.2.2) (fun s t => [(0, .pointer (some ⟨pb0, 0, none⟩)), (1, .int .i64 s.1), (2, v2), (6, .slice t.2.2.2.2.1 t.2.2.2.1.length t.2.2.2.2.2), (7, .int .i64 s.2.1), (9, .int .i64 s.2.2.1), (10, .int .i64 s.2.2.2.1)]) (fun s t => [Jm pb0 [str s.2.2.2.2.1, .bool s.2.2.2.2.2.1, .slice t.2.1.1 s.2.2.2.2.2.2.2.2.2.1.length t.2.1.2, .map (some t.2.2.1), .int .i64 s.2.2.2.2.2.2.1, (J5 s.2.2.2.2.2.2.2.1), .int .i64 s.2.2.2.2.2.2.2.2.1] 165, Jw 62 2 (.slice t.2.1.1 s.2.2.2.2.2.2.2.2.2.1.length t.2.1.2) s.2.2.2.2.2.2.2.2.2.1.length (s.2.2.2.2.2.2.2.2.2.1.map Ji), Yc (fun x_ : Int => .int .i64 x_) (fun x_ : Bool => .bool x_) t.2.2.1 s.2.2.2.2.2.2.2.2.2.2.1, Zi Vt t.1, Jw 96 6 (.slice t.2.2.2.2.1 t.2.2.2.1.length t.2.2.2.2.2) t.2.2.2.1.length (t.2.2.2.1.map idC)]) (fun s t => AllC g_tag_Entry t.1 6 t.2.2.2.1 s.2.2.2.2.2.2.2.2.2.2.2) (a1, t91, t21, 0, m_6, m_7, m_8, m_9, m_10, l_2, mp_2, ([] : List T_tag_Entry)) (Vt, p_5, b_2, ([] : List (List Value)), ((none, 0) : Option Addr × Nat)) [0, 1, 2, 3, 4] H84 (by exact (AllC.nil (G := g_tag_Entry) (h := Vt) (sz := 6))) (by exact ⟨rfl, rfl, rfl, rfl, rfl, rfl, rfl, trivial⟩) (by decide) rfl ?_
       rintro ⟨x1_2, x7_3, x9_2, x10_2, m_21, m_22, m_23, m_24, m_25, l_7, mp_5, l_8⟩ ⟨hp_2, p_8, b_4, css_2, p_9⟩ m4 gg H86 pf_3
       clear H84
       replace H86 : Qg a2 self (it (fun next4 s => Qg a2 self next4 s.1 s.2.1 s.2.2.1 s.2.2.2.1 s.2.2.2.2.1 s.2.2.2.2.2.1 s.2.2.2.2.2.2.1 s.2.2.2.2.2.2.2.1 s.2.2.2.2.2.2.2.2.1 s.2.2.2.2.2.2.2.2.2.1 s.2.2.2.2.2.2.2.2.2.2.1 s.2.2.2.2.2.2.2.2.2.2.2) m4) x1_2 x7_3 x9_2 x10_2 m_21 m_22 m_23 m_24 m_25 l_7 mp_5 l_8 = some r := H86
       generalize hn4 : it (fun next4 s => Qg a2 self next4 s.1 s.2.1 s.2.2.1 s.2.2.2.1 s.2.2.2.2.1 s.2.2.2.2.2.1 s.2.2.2.2.2.2.1 s.2.2.2.2.2.2.2.1 s.2.2.2.2.2.2.2.2.1 s.2.2.2.2.2.2.2.2.2.1 s.2.2.2.2.2.2.2.2.2.2.1 s.2.2.2.2.2.2.2.2.2.2.2) m4 = next4 at H86
       try dsimp only
       refine Jf ?_
       refine Jf ?_
       try dsimp only [z1, z2, z5, z6, z7, z8]
       refine Jb ?_
       refine Ja rfl rfl rfl (Jc (v := .int .i64 x10_2) rfl) ?_
       refine Ja rfl rfl rfl (Jc (v := .int .i64 x9_2) rfl) ?_
       refine Ja rfl rfl rfl (Zn rfl rfl) ?_
       refine Ja rfl rfl rfl (Jc (v := .bool (decide (x10_2 < x9_2))) rfl) ?_
       refine split (fun hb => ?_) (fun hb => ?_)
       ·have H87 := Js hb H86; clear H86
        refine Ja rfl rfl rfl (Jc (v := .pointer (some ⟨pb0, 0, none⟩)) rfl) ?_
        refine Ja rfl rfl rfl (Jp rfl) ?_
        refine Ja rfl rfl rfl (Jl Try.runUnderlying165 rfl Try.sizeOf30 rfl rfl) ?_
        refine Jr (i := 0) (v := .int .i64 m_25) Try.isAgg30 rfl rfl rfl rfl rfl ?_
        refine Ja rfl rfl rfl (Xq rfl rfl) ?_
        refine Ja rfl rfl rfl (Q5 (v := .bool (decide (m_25 = 0))) rfl rfl) ?_
        refine Jg ?_
        try dsimp only [z1, z2, z5, z6, z7, z8]
        refine Qf (b := (decide (m_25 = 0))) rfl (fun hb => ?_) (fun hb => ?_)
        ·have H88 := Js hb H87; clear H87
         refine Ju ?_
         refine Jf ?_
         refine J1 ?_
         refine Xb (r := r) (σ := Unit) (τ := Unit) (fun s => Yl a2 self x1_2 x7_3 x9_2 x10_2 m_21 m_22 m_23 m_24 m_25 l_7 mp_5 l_8 next4) (fun s t => [(0, .pointer (some ⟨pb0, 0, none⟩)), (1, .int .i64 x1_2), (2, v2), (6, .slice p_9.1 css_2.length p_9.2), (7, .int .i64 x7_3), (9, .int .i64 x9_2), (10, .int .i64 x10_2), (104, .pointer (some ⟨pb0, 0, none⟩)), (105, .pointer (some ⟨pb0, 0, none⟩)), (106, .pointer (some ⟨pb0, 6, none⟩)), (107, .int .i64 m_25), (108, .bool (decide (m_25 = 0)))]) (fun s t => [Jm pb0 [str m_21, .bool m_22, .slice p_8.1 l_7.length p_8.2, .map (some b_4), .int .i64 m_23, (J5 m_24), .int .i64 m_25] 165, Jw 62 2 (.slice p_8.1 l_7.length p_8.2) l_7.length (l_7.map Ji), Yc (fun x_ : Int => .int .i64 x_) (fun x_ : Bool => .bool x_) b_4 mp_5, Zi Vt hp_2, Jw 96 6 (.slice p_9.1 css_2.length p_9.2) css_2.length (css_2.map idC)]) (fun s t => True) ?_ ?_
         ·refine Jf ?_
          exact Xr (Kd.p :: Kd.p :: Kd.p :: Kd.p :: Kd.p :: Kd.p :: Kd.p :: Kd.p :: Kd.p :: Kd.d [3, 0, 1, 2] _ :: Kd.p :: Kd.p :: Kd.p :: Kd.d [4] _ :: Kd.d [4] _ :: Kd.d [4] _ :: Kd.p :: Kd.p :: []) 0 mixed (by
           refine Jq rfl rfl (Jc (v := .int .i64 x10_2) rfl) ?_
           refine Jq rfl rfl (Wq rfl rfl) ?_
           refine Jq rfl rfl (Jc (v := .bool (decide (0 < x10_2))) rfl) ?_
           refine splitS (fun hb => ?_) (fun hb => ?_)
           ·have H96 := Js hb H88
            refine Jq rfl rfl (Jc (v := .pointer (some ⟨pb0, 0, none⟩)) rfl) ?_
            refine Jq rfl rfl (Jc (v := .int .i64 x1_2) rfl) ?_
            have h_t117 := Qq H96
            have H97 := Qb H96
            refine Jq rfl rfl (Qd rfl rfl h_t117) ?_
            refine Jq rfl rfl (Jc (v := .int .i64 x10_2) rfl) ?_
            have h_t119 := Qq H97
            have H98 := Qb H97
            refine Jq rfl rfl (Ud rfl rfl h_t119) ?_
            have h_t120 := Qq H98
            have H99 := Qb H98
            refine Jq rfl rfl (Qd rfl rfl h_t120) ?_
            have h_t121 := Qq H99
            have H100 := Qb H99
            refine d_callD (fun w L' hF hS hi => k118 (a0 := (⟨m_21, m_22, l_7, mp_5, m_23, m_24, m_25⟩ : T_tag_reader)) (J3 w) (Z1 (i := 1) rfl hS ((hi 1 (by simp)).trans rfl)) (Vj (fk := (fun x_ : Int => .int .i64 x_)) (fv := (fun x_ : Bool => .bool x_)) (i := 2) hS ((hi 2 (by simp)).trans rfl)) (Q3 (i := 0) hS ((hi 0 (by simp)).trans rfl)) h_t121) Try.call118 rfl rfl ?_
            refine Jq rfl rfl (Jc (v := .slice p_9.1 css_2.length p_9.2) rfl) ?_
            refine Jq rfl rfl (Jc (v := .int .i64 x10_2) rfl) ?_
            have h_t124 := Qq H100
            have H101 := Qb H100
            refine Jq rfl rfl (Uf rfl rfl h_t124) ?_
            have h_t125 := Qq H101
            have H102 := Qb H101
            refine d_readD (fun w L' hF hS hi => Wp Try.underlying27 Try.sizeOf96 rfl rfl (V2 (i := 4) (E := 96) (sz := 6) (n := css_2.length) (a := p_9.1) (c := p_9.2) hS ((hi 4 (by simp)).trans rfl)) rfl (pf_3.ix h_t125)) rfl rfl ?_
            refine d_readE rfl rfl (fun w L' hF hS hi => run_fieldG Try.runUnderlying96 rfl Try.sizeOf3 rfl rfl (V2 (i := 4) (E := 96) (sz := 6) (n := css_2.length) (a := p_9.1) (c := p_9.2) hS ((hi 4 (by simp)).trans rfl)) (pf_3.ix h_t125)) ?_
            refine d_readD (fun w L' hF hS hi => Yu (f := idC) (i := (val (gI (x10_2 - 1)))) (sz := 6) (j := 0) (v := .int .i64 (val (Vn l_8 (val (gI (x10_2 - 1))))).Tag) Try.isAgg3 rfl rfl (V2 (i := 4) (E := 96) (sz := 6) (n := css_2.length) (a := p_9.1) (c := p_9.2) hS ((hi 4 (by simp)).trans rfl)) (pf_3.ix h_t125) (rg_of ((pf_3.eta h_t125).trans (V7 (pf_3.at h_t125))) rfl)) rfl rfl ?_
            refine Jq rfl rfl (r_leq rfl rfl) ?_
            refine Jq rfl rfl (Q5 (v := .bool (decide ((val (Jn (⟨m_21, m_22, l_7, mp_5, m_23, m_24, m_25⟩ : T_tag_reader) (val (gI ((val (gI (x1_2 + 2))) + (val (gI (12 * x10_2)))))) 2)) ≤ (val (Vn l_8 (val (gI (x10_2 - 1))))).Tag))) rfl rfl) ?_
            refine Wf ?_
            try dsimp only [z1, z2, z5, z6, z7, z8]
            refine Qf (b := (decide ((val (Jn (⟨m_21, m_22, l_7, mp_5, m_23, m_24, m_25⟩ : T_tag_reader) (val (gI ((val (gI (x1_2 + 2))) + (val (gI (12 * x10_2)))))) 2)) ≤ (val (Vn l_8 (val (gI (x10_2 - 1))))).Tag))) rfl (fun hb => ?_) (fun hb => ?_)
            ·have H103 := Js hb H102; clear H102
             refine Jf ?_
             refine Jb ?_
             refine Ja rfl rfl rfl (Jc (v := .pointer (some ⟨pb0, 0, none⟩)) rfl) ?_
             obtain ⟨t131, h_t131, H104⟩ := Jh H103; clear H103
             refine Jx 1 2 rfl rfl (by decide) ?_
             refine Jx 0 1 rfl rfl (by decide) ?_
             refine Qv (Qc (i := 0) (rds := []) (G := fun x : (Option Addr × Nat) × Nat => .tuple #[]) (C := fun x : (Option Addr × Nat) × Nat => Jy (Jm pb0 [str t131.s_, .bool t131.big_, .slice x.1.1 t131.parts_.length x.1.2, .map (some x.2), .int .i64 t131.dirs_, (J5 t131.found_), .int .i64 t131.no_] 165) (Jy (Jw 62 2 (.slice x.1.1 t131.parts_.length x.1.2) t131.parts_.length (t131.parts_.map Ji)) (Yc (fun x_ : Int => .int .i64 x_) (fun x_ : Bool => .bool x_) x.2 t131.seen_))) rfl (fun w L' S hF hS hi hp hlt ho hA => k150 hp hlt (Q8 w S) rfl h_t131) Try.call150 rfl) rfl rfl rfl (fun ⟨p_16, p_17⟩ => ?_)
             refine J2 0 1 rfl rfl (by decide) ?_
             refine J2 1 2 rfl rfl (by decide) ?_
             refine Jg ?_
             try dsimp only [z1, z2, z5, z6, z7, z8]
             refine Xy ?_
             refine Jo (x7_3, t131.s_, t131.big_, t131.dirs_, t131.found_, t131.no_, t131.parts_, t131.seen_, l_8) (hp_2, p_16, p_17, css_2, p_9) 0 [0, 1, 2, 3, 4] (by exact ⟨rfl, rfl, trivial⟩) (by decide) (by kernel_rfl) (by exact ⟨H104, pf_3⟩) (Nat.lt_succ_self _)
            ·have H105 := Jt hb H102; clear H102
             refine Ju ?_
             refine Jo () () 0 [0, 1, 2, 3, 4] (by exact ⟨rfl, rfl, rfl, rfl, rfl, rfl, rfl, rfl, rfl, rfl, rfl, rfl, trivial⟩) (by decide) (by kernel_rfl) (by exact ⟨H105, trivial⟩) (Nat.lt_succ_self _)
           ·have H106 := Jt hb H88
            refine Zo rfl rfl ?_
            refine Zo rfl rfl ?_
            refine Zo rfl rfl ?_
            refine Zo rfl rfl ?_
            refine Zo rfl rfl ?_
            refine Zo rfl rfl ?_
            refine Zo rfl rfl ?_
            refine Zo rfl rfl ?_
            refine Zo rfl rfl ?_
            refine Zo rfl rfl ?_
            refine Zo rfl rfl ?_
            refine Zo rfl rfl ?_
            refine Zo rfl rfl ?_
            refine Zo rfl rfl ?_
            refine Jq rfl rfl (Xg (v := .bool false) rfl rfl) ?_
            refine Wf ?_
            try dsimp only [z1, z2, z5, z6, z7, z8]
            refine W0 rfl ?_
            refine Ju ?_
            refine Jo () () 0 [0, 1, 2, 3, 4] (by exact ⟨rfl, rfl, rfl, rfl, rfl, rfl, rfl, rfl, rfl, rfl, rfl, rfl, trivial⟩) (by decide) (by kernel_rfl) (by exact ⟨H106, trivial⟩) (Nat.lt_succ_self _)
           ) (by kernel_rfl)
         ·rintro _ _ gg H89 _
          replace H89 : Yl a2 self x1_2 x7_3 x9_2 x10_2 m_21 m_22 m_23 m_24 m_25 l_7 mp_5 l_8 next4 = some r := H89
          try dsimp only
          refine Jb ?_
          refine Ja rfl rfl rfl (Jc (v := .slice p_9.1 css_2.length p_9.2) rfl) ?_
          refine Ja rfl rfl rfl (Jc (v := .pointer (some ⟨pb0, 0, none⟩)) rfl) ?_
          refine Ja rfl rfl rfl (Jc (v := .int .i64 x1_2) rfl) ?_
          obtain ⟨t135, h_t135, H90⟩ := Jh H89; clear H89
          refine Ja rfl rfl rfl (Qd rfl rfl h_t135) ?_
          refine Ja rfl rfl rfl (Jc (v := .int .i64 x10_2) rfl) ?_
          obtain ⟨t137, h_t137, H91⟩ := Jh H90; clear H90
          refine Ja rfl rfl rfl (Ud rfl rfl h_t137) ?_
          obtain ⟨t138, h_t138, H92⟩ := Jh H91; clear H91
          refine Ja rfl rfl rfl (Qd rfl rfl h_t138) ?_
          refine Ja rfl rfl rfl (Jc (v := v2) rfl) ?_
          obtain ⟨t140, h_t140, H93⟩ := Jh H92; clear H92
          refine Jx 1 2 rfl rfl (by decide) ?_
          refine Jx 0 1 rfl rfl (by decide) ?_
          refine Qv (Qc (i := 0) (rds := []) (G := fun x : (Option Addr × Nat) × (Option Addr × Nat) × (Option Addr × Nat) × (Option Addr × Nat) × Nat => .agg #[.int .i64 t140.1.Tag, .int .i64 t140.1.Value.Kind, str t140.1.Value.Text, .slice x.1.1 t140.1.Value.Ints.length x.1.2, .slice x.2.1.1 t140.1.Value.Ratios.length x.2.1.2, .slice x.2.2.1.1 t140.1.Value.Entries.length x.2.2.1.2]) (C := fun x : (Option Addr × Nat) × (Option Addr × Nat) × (Option Addr × Nat) × (Option Addr × Nat) × Nat => Jy (Jm pb0 [str t140.2.s_, .bool t140.2.big_, .slice x.2.2.2.1.1 t140.2.parts_.length x.2.2.2.1.2, .map (some x.2.2.2.2), .int .i64 t140.2.dirs_, (J5 t140.2.found_), .int .i64 t140.2.no_] 165) (Jy (Jw 62 2 (.slice x.2.2.2.1.1 t140.2.parts_.length x.2.2.2.1.2) t140.2.parts_.length (t140.2.parts_.map Ji)) (Jy (Yc (fun x_ : Int => .int .i64 x_) (fun x_ : Bool => .bool x_) x.2.2.2.2 t140.2.seen_) (Jy (Jw 3 1 (.slice x.1.1 t140.1.Value.Ints.length x.1.2) t140.1.Value.Ints.length (t140.1.Value.Ints.map Xx)) (Jy (Jw 103 2 (.slice x.2.1.1 t140.1.Value.Ratios.length x.2.1.2) t140.1.Value.Ratios.length (t140.1.Value.Ratios.map J7)) (rowD 96 6 g_tag_Entry (.slice x.2.2.1.1 t140.1.Value.Entries.length x.2.2.1.2) t140.1.Value.Entries.length t140.1.Value.Entries)))))) rfl (fun w L' S hF hS hi hp hlt ho hA => k151_b ih hp hlt (Q8 w S) rfl (f2.mono (hw.but hF ho)) h_t140) Try.call151 rfl) rfl rfl rfl (fun ⟨p_10, p_11, p_12, p_13, p_14⟩ => ?_)
          refine J2 0 1 rfl rfl (by decide) ?_
          refine J2 1 2 rfl rfl (by decide) ?_
          refine X3 2 rfl ?_
          refine X3 5 rfl ?_
          refine X3 6 rfl ?_
          refine Qr (vs := [.agg #[.int .i64 t140.1.Tag, .int .i64 t140.1.Value.Kind, str t140.1.Value.Text, .slice p_10.1 t140.1.Value.Ints.length p_10.2, .slice p_11.1 t140.1.Value.Ratios.length p_11.2, .slice p_12.1 t140.1.Value.Entries.length p_12.2]]) (cs := [.int .i64 t140.1.Tag, .int .i64 t140.1.Value.Kind, str t140.1.Value.Text, .slice p_10.1 t140.1.Value.Ints.length p_10.2, .slice p_11.1 t140.1.Value.Ratios.length p_11.2, .slice p_12.1 t140.1.Value.Entries.length p_12.2]) Try.underlying27 Try.sizeOf96 Try.zeroValue96 rfl rfl rfl rfl rfl rfl rfl (fun b3 => ?_)
          try dsimp only [z1, z2, z5, z6, z7, z8]
          refine c_freeze (Φ := fun H_ => FrS H_ 1 (.slice p_10.1 t140.1.Value.Ints.length p_10.2) (t140.1.Value.Ints.map Xx)) 3 5 rfl rfl (by decide) (fun _ _ => noH_le) (fz_own _) (fun hp_3 hle hf => ?_)
          try dsimp only [z1, z2, z5, z6, z7, z8]
          refine c_freeze (Φ := fun H_ => FrS H_ 2 (.slice p_11.1 t140.1.Value.Ratios.length p_11.2) (t140.1.Value.Ratios.map J7)) 3 6 rfl rfl (by decide) (fun _ _ => noH_le) (fz_own _) (fun hp_4 hle_2 hf_2 => ?_)
          refine c_rowD 7 rfl (fun hp_5 css_3 hn pf_4 => ?_)
          rw [hn]
          try dsimp only [z1, z2, z5, z6, z7, z8]
          refine X3 7 rfl ?_
          try dsimp only [z1, z2, z5, z6, z7, z8]
          refine c_poolJoin 3 7 rfl rfl (by decide) (fun _ _ => noH_le) (fun hp_6 hle_3 hle_4 => ?_)
          try dsimp only [z1, z2, z5, z6, z7, z8]
          refine c_freeze (Φ := fun H_ => FrS H_ 6 (.slice p_12.1 css_3.length p_12.2) (css_3.map idC)) 3 9 rfl rfl (by decide) (fun _ _ => noH_le) (fz_own _) (fun hp_7 hle_5 hf_3 => ?_)
          obtain ⟨l142, h_l142, H94⟩ := Jh H93; clear H93
          refine Qv (turns_appendM (i := 4) (k := 8) (p := p_9) (f := idC) (ys := css_2) (ls := [[.int .i64 t140.1.Tag, .int .i64 t140.1.Value.Kind, str t140.1.Value.Text, .slice p_10.1 t140.1.Value.Ints.length p_10.2, .slice p_11.1 t140.1.Value.Ratios.length p_11.2, .slice p_12.1 css_3.length p_12.2]]) Try.underlying27 (Xn Try.typeInfo96) rfl rfl rfl rfl rfl rfl rfl rfl rfl rfl rfl rfl rfl rfl (by simp only [idC, List.map_cons, List.map_nil, List.all_cons, List.all_nil, (((hf.mono hle_2).mono hle_3).mono hle_5).one, ((hf_2.mono hle_3).mono hle_5).one, (frn_of (xs := t140.1.Value.Entries) hf_3 ((pf_4.mono hle_4).mono hle_5)).one] <;> rfl) (app63 (((((pf_3.mono hle).mono hle_2).mono hle_3).mono hle_5).app h_l142 (nc := [[.int .i64 t140.1.Tag, .int .i64 t140.1.Value.Kind, str t140.1.Value.Text, .slice p_10.1 t140.1.Value.Ints.length p_10.2, .slice p_11.1 t140.1.Value.Ratios.length p_11.2, .slice p_12.1 css_3.length p_12.2]]) rfl)) rfl) rfl rfl rfl (fun p_15 => ?_)
          have pf_5 : AllC g_tag_Entry hp_7 6 (css_2 ++ [[.int .i64 t140.1.Tag, .int .i64 t140.1.Value.Kind, str t140.1.Value.Text, .slice p_10.1 t140.1.Value.Ints.length p_10.2, .slice p_11.1 t140.1.Value.Ratios.length p_11.2, .slice p_12.1 css_3.length p_12.2]]) l142 := AllC.snocG ((((pf_3.mono hle).mono hle_2).mono hle_3).mono hle_5) h_l142 rfl ((g_tag_Entry_iff.2 ⟨rfl, ⟨rfl, rfl, (((hf.mono hle_2).mono hle_3).mono hle_5), ((hf_2.mono hle_3).mono hle_5), (frn_of (xs := t140.1.Value.Entries) hf_3 ((pf_4.mono hle_4).mono hle_5))⟩⟩))
          refine Ja rfl rfl rfl (Jd (v := .slice p_15.1 ((css_2 ++ [[.int .i64 t140.1.Tag, .int .i64 t140.1.Value.Kind, str t140.1.Value.Text, .slice p_10.1 t140.1.Value.Ints.length p_10.2, .slice p_11.1 t140.1.Value.Ratios.length p_11.2, .slice p_12.1 css_3.length p_12.2]]).length) p_15.2) rfl) ?_
          refine Jg ?_
          try dsimp only [z1, z2, z5, z6, z7, z8]
          refine Jb ?_
          refine Ja rfl rfl rfl (Jc (v := .int .i64 x10_2) rfl) ?_
          obtain ⟨t111, h_t111, H95⟩ := Jh H94; clear H94
          refine Ja rfl rfl rfl (Qd rfl rfl h_t111) ?_
          refine Ja rfl rfl rfl (Jd (v := .int .i64 t111) rfl) ?_
          refine Jg ?_
          try dsimp only [z1, z2, z5, z6, z7, z8]
          refine Jo (x1_2, x7_3, x9_2, t111, t140.2.s_, t140.2.big_, t140.2.dirs_, t140.2.found_, t140.2.no_, t140.2.parts_, t140.2.seen_, l142) (hp_7, p_13, p_14, (css_2 ++ [[.int .i64 t140.1.Tag, .int .i64 t140.1.Value.Kind, str t140.1.Value.Text, .slice p_10.1 t140.1.Value.Ints.length p_10.2, .slice p_11.1 t140.1.Value.Ratios.length p_11.2, .slice p_12.1 css_3.length p_12.2]]), p_15) m4 [0, 1, 2, 3, 4] (by exact ⟨rfl, rfl, rfl, rfl, rfl, rfl, rfl, trivial⟩) (by decide) (by kernel_rfl) (by exact ⟨(by subst hn4; exact H95), pf_5⟩) (Nat.lt_succ_self _)
        ·have H107 := Jt hb H87; clear H87
         refine Xy ?_
         refine Jo (x7_3, m_21, m_22, m_23, m_24, m_25, l_7, mp_5, l_8) (hp_2, p_8, b_4, css_2, p_9) 0 [0, 1, 2, 3, 4] (by exact ⟨rfl, rfl, trivial⟩) (by decide) (by kernel_rfl) (by exact ⟨H107, pf_3⟩) (Nat.lt_succ_self _)
       ·have H108 := Jt hb H86; clear H86
        refine Jk rfl rfl rfl ?_
        refine Jk rfl rfl rfl ?_
        refine Jk rfl rfl rfl ?_
        refine Jk rfl rfl rfl ?_
        refine Jk rfl rfl rfl ?_
        refine Ja rfl rfl rfl (Xg (v := .bool false) rfl rfl) ?_
        refine Jg ?_
        try dsimp only [z1, z2, z5, z6, z7, z8]
        refine W0 rfl ?_
        refine Xy ?_
        refine Jo (x7_3, m_21, m_22, m_23, m_24, m_25, l_7, mp_5, l_8) (hp_2, p_8, b_4, css_2, p_9) 0 [0, 1, 2, 3, 4] (by exact ⟨rfl, rfl, trivial⟩) (by decide) (by kernel_rfl) (by exact ⟨H108, pf_3⟩) (Nat.lt_succ_self _)
      ·rintro ⟨x7, m_11, m_12, m_13, m_14, m_15, l_3, mp_3, l_4⟩ ⟨hp, p_6, b_3, css, p_7⟩ gg H85 pf
       replace H85 : Zz x7 m_11 m_12 m_13 m_14 m_15 l_3 mp_3 l_4 = some r := H85
       try dsimp only
       refine Jf ?_
       refine Jb ?_
       refine Ja rfl rfl rfl (Jc (v := .slice p_7.1 css.length p_7.2) rfl) ?_
       refine Ja rfl rfl rfl (Jc (v := .int .i64 x7) rfl) ?_
       refine Ja rfl rfl rfl (Jd (v := .slice p_7.1 css.length p_7.2) rfl) ?_
       refine Ja rfl rfl rfl (Jd (v := .int .i64 x7) rfl) ?_
       refine Jg ?_
       try dsimp only [z1, z2, z5, z6, z7, z8]
       refine J0 ?_
       obtain rfl := Option.some.inj H85
       refine Jx 3 4 rfl rfl (by decide) ?_
       refine V5 3 rfl (W7 (p := p_7) rfl pf) ?_
       refine Jx 2 3 rfl rfl (by decide) ?_
       refine Jx 1 2 rfl rfl (by decide) ?_
       refine Jx 0 1 rfl rfl (by decide) ?_
       refine ret2 (v1 := .slice p_7.1 css.length p_7.2) (v2 := .int .i64 x7) rfl rfl rfl (Wm (p_7, p_6, b_3) (i := 0) rfl (by first | rfl | rw [(show css.length = l_4.length from pf.len)]) (by first | exact Imp.refl _ | exact Imp.of (by rw [(show css.length = l_4.length from pf.len)])))
theorem k119 {a0 : T_tag_reader} {pb0 : Nat} {p0_2 : Option Addr × Nat} {n0_2 : Nat} {m0_3 : Nat} {a1 : Int} {a2 : (List Int)} {v2 : Value} {r : (List T_tag_Entry) × Int × T_tag_reader} {w : World} {h : J6} {S : Nat → Prop} (hcs : (Jy (Jm pb0 [str a0.s_, .bool a0.big_, .slice p0_2.1 n0_2 p0_2.2, .map (some m0_3), .int .i64 a0.dirs_, (J5 a0.found_), .int .i64 a0.no_] 165) (Jy (Jw 62 2 (.slice p0_2.1 n0_2 p0_2.2) n0_2 (a0.parts_.map Ji)) (Yc (fun x_ : Int => .int .i64 x_) (fun x_ : Bool => .bool x_) m0_3 a0.seen_))).P S w) (hlt : ∀ b, S b → b < w.heap.size) (hw : Know h w S) (hn0_2 : n0_2 = a0.parts_.length) (f2 : FrS h 1 v2 (a2.map Xx)) (H : Zl a0 a1 a2 = some r) : Does Try.prog 119 (List.toArray [.pointer (some ⟨pb0, 0, none⟩), .int .i64 a1, v2]) w (fun v w' => ∃ x : (Option Addr × Nat) × (Option Addr × Nat) × Nat, v = (.tuple #[.slice x.1.1 r.1.length x.1.2, .int .i64 r.2.1]) ∧ Turn w w' S (Jy (Jm pb0 [str r.2.2.s_, .bool r.2.2.big_, .slice x.2.1.1 r.2.2.parts_.length x.2.1.2, .map (some x.2.2), .int .i64 r.2.2.dirs_, (J5 r.2.2.found_), .int .i64 r.2.2.no_] 165) (Jy (Jw 62 2 (.slice x.2.1.1 r.2.2.parts_.length x.2.1.2) r.2.2.parts_.length (r.2.2.parts_.map Ji)) (Jy (Yc (fun x_ : Int => .int .i64 x_) (fun x_ : Bool => .bool x_) x.2.2 r.2.2.seen_) (rowD 96 6 g_tag_Entry (.slice x.1.1 r.1.length x.1.2) r.1.length r.1))))) := by
 obtain ⟨mm, hm⟩ := fix_it (show V0 (fun (self : (T_tag_reader × Int × (List Int)) → Option ((List T_tag_Entry) × Int × T_tag_reader)) (s : T_tag_reader × Int × (List Int)) => Jz self s.1 s.2.1 s.2.2) (a0, a1, a2) = some r from H)
 exact k119_it mm hcs hlt hw hn0_2 f2 hm
theorem k121 {a0 : (List T_tag_Span)} {v0 : Value} {r : Bool} {w : World} {h : J6} (hw : Know h w Wg) (f0 : FrS h 2 v0 (a0.map Ji)) (H : tag_overlap a0 = some r) : Does Try.prog 121 (List.toArray [v0]) w (fun v w' => v = (.bool r) ∧ Grow w w') := by
 refine enter (n := 22) Try.func121 rfl rfl rfl Wg [] (Sat.nil _ _) ?_
 refine Jf ?_
 refine Jb ?_
 refine Ja rfl rfl rfl (Jd (v := .bool false) rfl) ?_
 refine Jg ?_
 refine Jf ?_
 refine Jf ?_
 refine Jb ?_
 refine Ja rfl rfl rfl (Jd (v := .int .i64 1) rfl) ?_
 refine Jg ?_
 refine J1 ?_
 refine Z5 (σ := Int) (τ := Unit) (fun next1 s => X8 a0 next1 s) (fun s t => [(0, v0), (3, .int .i64 s)]) (fun s t => []) (fun s t => True) 1 () [] H (by exact trivial) (by exact ⟨rfl, rfl, trivial⟩) (by decide) rfl ?_
 rintro x3_2 _ m1 gg H10 _
 clear H
 replace H10 : X8 a0 (it (fun next1 s => X8 a0 next1 s) m1) x3_2 = some r := H10
 generalize hn1 : it (fun next1 s => X8 a0 next1 s) m1 = next1 at H10
 try dsimp only
 refine Jf ?_
 refine Jf ?_
 refine Jb ?_
 refine Ja rfl rfl rfl (Jc (v := .int .i64 x3_2) rfl) ?_
 refine Ja rfl rfl rfl (Jc (v := v0) rfl) ?_
 refine Ja rfl rfl rfl (r_lenF Try.underlying57 rfl f0 rfl) ?_
 refine Ja rfl rfl rfl (Zn rfl rfl) ?_
 refine Jg ?_
 refine Qf (b := (decide (x3_2 < (a0.length : Int)))) rfl (fun hb => ?_) (fun hb => ?_)
 ·have H11 := Js hb H10; clear H10
  refine Ju ?_
  refine Jf ?_
  refine J1 ?_
  refine Jf ?_
  exact Xr (Kd.p :: Kd.p :: Kd.p :: Kd.p :: Kd.d [] _ :: Kd.p :: Kd.p :: Kd.p :: Kd.p :: Kd.p :: Kd.d [] _ :: Kd.p :: []) 0 mixed (by
   refine Jq rfl rfl (Jc (v := v0) rfl) ?_
   refine Jq rfl rfl (Jc (v := .int .i64 x3_2) rfl) ?_
   have h_t12 := Qq H11
   have H12 := Qb H11
   refine Jq rfl rfl (Zd Try.underlying57 Try.sizeOf62 rfl rfl f0 h_t12) ?_
   refine Jq rfl rfl (r_fieldP Try.runUnderlying62 rfl Try.sizeOf3 rfl rfl (some_of_at f0 h_t12)) ?_
   refine d_read (fun w hF => Yu (f := Ji) (i := x3_2) (sz := 2) (j := 0) (v := .int .i64 (val (Vn a0 x3_2)).From) Try.isAgg3 rfl rfl (f0.row (hw.now hF)) h_t12 rfl) rfl rfl ?_
   refine Jq rfl rfl (Jc (v := v0) rfl) ?_
   refine Jq rfl rfl (Jc (v := .int .i64 x3_2) rfl) ?_
   have h_t17 := Qq H12
   have H13 := Qb H12
   refine Jq rfl rfl (Uf rfl rfl h_t17) ?_
   have h_t18 := Qq H13
   have H14 := Qb H13
   refine Jq rfl rfl (Zd Try.underlying57 Try.sizeOf62 rfl rfl f0 h_t18) ?_
   refine Jq rfl rfl (r_fieldP Try.runUnderlying62 rfl Try.sizeOf3 rfl rfl (some_of_at f0 h_t18)) ?_
   refine d_read (fun w hF => Yu (f := Ji) (i := (val (gI (x3_2 - 1)))) (sz := 2) (j := 1) (v := .int .i64 (val (Vn a0 (val (gI (x3_2 - 1))))).To) Try.isAgg3 rfl rfl (f0.row (hw.now hF)) h_t18 rfl) rfl rfl ?_
   refine Jq rfl rfl (Zn rfl rfl) ?_
   refine Wf ?_
   refine Qf (b := (decide ((val (Vn a0 x3_2)).From < (val (Vn a0 (val (gI (x3_2 - 1))))).To))) rfl (fun hb => ?_) (fun hb => ?_)
   ·have H15 := Js hb H14; clear H14
    refine Jf ?_
    refine Jb ?_
    refine Ja rfl rfl rfl (Jd (v := .bool true) rfl) ?_
    refine Jg ?_
    refine J0 ?_
    obtain rfl := Option.some.inj H15
    refine Q2 (v := .bool true) rfl rfl (Zr rfl)
   ·have H16 := Jt hb H14; clear H14
    refine Ju ?_
    refine Jb ?_
    refine Ja rfl rfl rfl (Jc (v := .int .i64 x3_2) rfl) ?_
    obtain ⟨t9, h_t9, H17⟩ := Jh H16; clear H16
    refine Ja rfl rfl rfl (Qd rfl rfl h_t9) ?_
    refine Ja rfl rfl rfl (Jd (v := .int .i64 t9) rfl) ?_
    refine Jg ?_
    refine Jo t9 () m1 [] (by exact ⟨rfl, rfl, trivial⟩) (by decide) (by kernel_rfl) (by exact ⟨(by subst hn1; exact H17), trivial⟩) (Nat.lt_succ_self _)
   ) (by kernel_rfl)
 ·have H18 := Jt hb H10; clear H10
  refine Xy ?_
  refine Jf ?_
  refine Jb ?_
  refine Ja rfl rfl rfl (Jd (v := .bool false) rfl) ?_
  refine Jg ?_
  refine J0 ?_
  obtain rfl := Option.some.inj H18
  refine Q2 (v := .bool false) rfl rfl (Zr rfl)
theorem k71 {a0 : (List UInt8)} {a1 : Nat} {r : T_tag_File × (List T_tag_Span) × Int} {w : World} {h : J6} (hw : Know h w Wg) (H : tag_read a0 a1 = some r) : Does Try.prog 71 (List.toArray [str a0, (J5 a1)]) w (fun v w' => ∃ x : (Option Addr × Nat) × (Option Addr × Nat), v = (.tuple #[.agg #[.bool r.1.Big, .slice x.1.1 r.1.Dirs.length x.1.2], .slice x.2.1 r.2.1.length x.2.2, .int .i64 r.2.2]) ∧ Turn w w' Wg (Jy (rowD 27 1 gs_tag_Entry (.slice x.1.1 r.1.Dirs.length x.1.2) r.1.Dirs.length r.1.Dirs) (Jw 62 2 (.slice x.2.1 r.2.1.length x.2.2) r.2.1.length (r.2.1.map Ji)))) := by
 refine enter (n := 113) Try.func71 rfl rfl rfl Wg [] (Sat.nil _ _) ?_
 refine Wb Vt ?_
 refine Jf ?_
 refine Jb ?_
 refine Zf (cs := [.bool false, .slice none 0 0]) Try.zeroValue24 rfl rfl rfl (fun b6 => ?_)
 refine Ja rfl rfl rfl (Jd (v := .slice none 0 0) rfl) ?_
 refine Ja rfl rfl rfl (Jd (v := .int .i64 0) rfl) ?_
 refine Jg ?_
 refine Jf ?_
 refine Jf ?_
 refine Jb ?_
 refine Ja rfl rfl rfl (Jc (v := str a0) rfl) ?_
 refine Ja rfl rfl rfl (Ue Try.underlying9 rfl) ?_
 refine Ja rfl rfl rfl (Wq rfl rfl) ?_
 refine Jg ?_
 refine Qf (b := (decide (65000 < (a0.length : Int)))) rfl (fun hb => ?_) (fun hb => ?_)
 ·have H30 := Js hb H; clear H
  refine Jf ?_
  refine Jb ?_
  refine Ja rfl rfl rfl (Y6 (pl := #[(0, 1), (1, 1)]) (ps := []) (cells := #[.bool false, .slice none 0 0]) Try.zeroValue24 Try.runUnderlying24 (fun w => by kernel_rfl) rfl rfl) ?_
  refine Qx (i := 1) (vs := [.bool false, .slice none 0 0]) (cs' := [.bool false, .slice none 0 0]) Try.sizeOf24 rfl rfl rfl rfl rfl rfl rfl rfl rfl ?_
  refine Ja rfl rfl rfl (Jd (v := .slice none 0 0) rfl) ?_
  refine Ja rfl rfl rfl (Jd (v := .int .i64 4) rfl) ?_
  refine Jg ?_
  refine J0 ?_
  refine Ql 27 1 ?_
  refine Ql 62 2 ?_
  obtain rfl := Option.some.inj H30
  refine Jx 0 2 rfl rfl (by decide) ?_
  refine V5 0 rfl (W7 (p := ((none, 0) : Option Addr × Nat)) rfl (AllC.nil (G := gs_tag_Entry) (h := Vt) (sz := 1))) ?_
  refine Jx 0 3 rfl rfl (by decide) ?_
  refine retCtt (i := 1) (vs := [.bool false, .slice ((none, 0) : Option Addr × Nat).1 (([] : List (List Value)).length) ((none, 0) : Option Addr × Nat).2]) (v2 := .slice ((none, 0) : Option Addr × Nat).1 ([] : List T_tag_Span).length ((none, 0) : Option Addr × Nat).2) (v3 := .int .i64 4) Try.isAgg24 Try.sizeOf24 rfl rfl rfl rfl rfl rfl (Wm (((none, 0) : Option Addr × Nat), ((none, 0) : Option Addr × Nat)) (i := 0) rfl (by first | rfl | rw [(show (([] : List (List Value)).length) = ([] : List (List T_tag_Entry)).length from (AllC.nil (G := gs_tag_Entry) (h := Vt) (sz := 1)).len)]) (by first | exact Imp.refl _ | exact Imp.of (by rw [(show (([] : List (List Value)).length) = ([] : List (List T_tag_Entry)).length from (AllC.nil (G := gs_tag_Entry) (h := Vt) (sz := 1)).len)])))
 ·have H31 := Jt hb H; clear H
  refine Ju ?_
  refine Jf ?_
  refine Jf ?_
  refine Jb ?_
  refine Ja rfl rfl rfl (Jc (v := str a0) rfl) ?_
  obtain ⟨t17, h_t17, H32⟩ := Jh H31; clear H31
  refine Z8 (k117 h_t17) Try.call117 rfl rfl rfl ?_
  refine Ja rfl rfl rfl (r_not rfl) ?_
  refine Jg ?_
  refine Qf (b := (!t17)) rfl (fun hb => ?_) (fun hb => ?_)
  ·have H33 := Js hb H32; clear H32
   refine Jf ?_
   refine Jb ?_
   refine Ja rfl rfl rfl (Y6 (pl := #[(0, 1), (1, 1)]) (ps := []) (cells := #[.bool false, .slice none 0 0]) Try.zeroValue24 Try.runUnderlying24 (fun w => by kernel_rfl) rfl rfl) ?_
   refine Qx (i := 1) (vs := [.bool false, .slice none 0 0]) (cs' := [.bool false, .slice none 0 0]) Try.sizeOf24 rfl rfl rfl rfl rfl rfl rfl rfl rfl ?_
   refine Ja rfl rfl rfl (Jd (v := .slice none 0 0) rfl) ?_
   refine Ja rfl rfl rfl (Jd (v := .int .i64 8) rfl) ?_
   refine Jg ?_
   refine J0 ?_
   refine Ql 27 1 ?_
   refine Ql 62 2 ?_
   obtain rfl := Option.some.inj H33
   refine Jx 0 2 rfl rfl (by decide) ?_
   refine V5 0 rfl (W7 (p := ((none, 0) : Option Addr × Nat)) rfl (AllC.nil (G := gs_tag_Entry) (h := Vt) (sz := 1))) ?_
   refine Jx 0 3 rfl rfl (by decide) ?_
   refine retCtt (i := 1) (vs := [.bool false, .slice ((none, 0) : Option Addr × Nat).1 (([] : List (List Value)).length) ((none, 0) : Option Addr × Nat).2]) (v2 := .slice ((none, 0) : Option Addr × Nat).1 ([] : List T_tag_Span).length ((none, 0) : Option Addr × Nat).2) (v3 := .int .i64 8) Try.isAgg24 Try.sizeOf24 rfl rfl rfl rfl rfl rfl (Wm (((none, 0) : Option Addr × Nat), ((none, 0) : Option Addr × Nat)) (i := 0) rfl (by first | rfl | rw [(show (([] : List (List Value)).length) = ([] : List (List T_tag_Entry)).length from (AllC.nil (G := gs_tag_Entry) (h := Vt) (sz := 1)).len)]) (by first | exact Imp.refl _ | exact Imp.of (by rw [(show (([] : List (List Value)).length) = ([] : List (List T_tag_Entry)).length from (AllC.nil (G := gs_tag_Entry) (h := Vt) (sz := 1)).len)])))
  ·have H34 := Jt hb H32; clear H32
   refine Ju ?_
   refine Jf ?_
   refine Jb ?_
   refine Ja rfl rfl rfl (Jc (v := str a0) rfl) ?_
   refine Ja rfl rfl rfl (Jc (v := str a0) rfl) ?_
   obtain ⟨t22, h_t22, H35⟩ := Jh H34; clear H34
   refine Ja rfl rfl rfl (r_octG Try.underlying9 rfl rfl h_t22) ?_
   refine Ja rfl rfl rfl (Xq rfl rfl) ?_
   refine Wl (rds := []) (makes_map (fk := (fun x_ : Int => .int .i64 x_)) (fv := (fun x_ : Bool => .bool x_))) rfl rfl rfl (fun b7 => ?_)
   refine Ja rfl rfl rfl (Jc (v := (J5 a1)) rfl) ?_
   refine Ja rfl rfl rfl (Y6 (pl := #[(0, 1), (1, 1), (2, 1), (3, 1), (4, 1), (5, 1), (6, 1)]) (ps := [(0, str a0), (1, .bool (decide (t22 = 77))), (3, .map (some b7)), (5, (J5 a1))]) (cells := #[str a0, .bool (decide (t22 = 77)), .slice none 0 0, .map (some b7), .int .i64 0, (J5 a1), .int .i64 0]) Try.zeroValue165 Try.runUnderlying165 (fun w => by kernel_rfl) rfl (by generalize (a1 : Nat) = fz0_; rcases fz0_ with _ | _ | _ <;> rfl)) ?_
   refine l_box (cs := [str a0, .bool (decide (t22 = 77)), .slice none 0 0, .map (some b7), .int .i64 0, (J5 a1), .int .i64 0]) rfl rfl rfl rfl (fun b8 => ?_)
   refine Ja rfl rfl rfl (Jd (v := .pointer (some ⟨b8, 0, none⟩)) rfl) ?_
   refine Jg ?_
   refine Jf ?_
   try dsimp only [z1, z2, z5, z6, z7, z8]
   refine Jb ?_
   refine Ja rfl rfl rfl (Jc (v := .pointer (some ⟨b8, 0, none⟩)) rfl) ?_
   refine Ja rfl rfl rfl (Jp rfl) ?_
   refine Ja rfl rfl rfl (Jl Try.runUnderlying165 rfl Try.sizeOf4 rfl rfl) ?_
   refine Jr (i := 3) (v := .bool (decide (t22 = 77))) Try.isAgg4 rfl rfl rfl rfl rfl ?_
   refine Ja rfl rfl rfl (Y6 (pl := #[(0, 1), (1, 1)]) (ps := [(0, .bool (decide (t22 = 77)))]) (cells := #[.bool (decide (t22 = 77)), .slice none 0 0]) Try.zeroValue24 Try.runUnderlying24 (fun w => by kernel_rfl) rfl rfl) ?_
   refine Zf (cs := [.bool false, .slice none 0 0]) Try.zeroValue24 rfl rfl rfl (fun b9 => ?_)
   refine Qx (i := 4) (vs := [.bool (decide (t22 = 77)), .slice none 0 0]) (cs' := [.bool (decide (t22 = 77)), .slice none 0 0]) Try.sizeOf24 rfl rfl rfl rfl rfl rfl rfl rfl rfl ?_
   refine Jg ?_
   refine Xb (r := r) (σ := (List UInt8) × Bool × Int × Nat × Int × (List T_tag_Span) × (List (List T_tag_Entry)) × (List (Int × Bool))) (τ := (Option Addr × Nat) × (Option Addr × Nat) × Nat) (fun s => Zw t22 s.1 s.2.1 s.2.2.1 s.2.2.2.1 s.2.2.2.2.1 s.2.2.2.2.2.1 s.2.2.2.2.2.2.1 s.2.2.2.2.2.2.2) (fun s t => [(4, .pointer (some ⟨b6, 0, none⟩)), (7, .pointer (some ⟨b8, 0, none⟩)), (8, .pointer (some ⟨b9, 0, none⟩))]) (fun s t => [Zi Vt Vt, Jm b6 [.bool false, .slice none 0 0] 24, Yc (fun x_ : Int => .int .i64 x_) (fun x_ : Bool => .bool x_) t.2.2 s.2.2.2.2.2.2.2, Jm b8 [str s.1, .bool s.2.1, .slice t.1.1 s.2.2.2.2.2.1.length t.1.2, .map (some t.2.2), .int .i64 s.2.2.1, (J5 s.2.2.2.1), .int .i64 s.2.2.2.2.1] 165, Jm b9 [.bool (decide (t22 = 77)), .slice t.2.1.1 s.2.2.2.2.2.2.1.length t.2.1.2] 24, Jw 62 2 (.slice t.1.1 s.2.2.2.2.2.1.length t.1.2) s.2.2.2.2.2.1.length (s.2.2.2.2.2.1.map Ji), rowD 27 1 gs_tag_Entry (.slice t.2.1.1 s.2.2.2.2.2.2.1.length t.2.1.2) s.2.2.2.2.2.2.1.length s.2.2.2.2.2.2.1]) (fun s t => True) ?_ ?_
   ·refine Jf ?_
    refine Jb ?_
    refine Ja rfl rfl rfl (Jc (v := .pointer (some ⟨b8, 0, none⟩)) rfl) ?_
    obtain ⟨t34, h_t34, H50⟩ := Jh H35; clear H35
    refine Xt (fun w hF hS => k118 (a0 := (⟨a0, (decide (t22 = 77)), ([] : (List T_tag_Span)), ([] : (List (Int × Bool))), 0, a1, 0⟩ : T_tag_reader)) (J3 w) (FrS.nil _ _) (Vj (fk := (fun x_ : Int => .int .i64 x_)) (fv := (fun x_ : Bool => .bool x_)) (i := 2) hS rfl) (Q3 (i := 3) hS rfl) h_t34) Try.call118 rfl rfl rfl ?_
    refine Ja rfl rfl rfl (Jd (v := .int .i64 t34) rfl) ?_
    refine Jg ?_
    refine J1 ?_
    refine Ql 62 2 ?_
    refine Ql 27 1 ?_
    refine Wb Vt ?_
    try dsimp only [z1, z2, z5, z6, z7, z8]
    refine Jx 7 6 rfl rfl (by decide) ?_
    try dsimp only [z1, z2, z5, z6, z7, z8]
    refine V5 7 rfl (imp_rowDx (css := []) (xs := ([] : List (List T_tag_Entry))) (p := ((none, 0) : Option Addr × Nat)) rfl (AllC.nil (G := gs_tag_Entry) (h := Vt) (sz := 1))) ?_
    refine Z5 (σ := Int × (List UInt8) × Bool × Int × Nat × Int × (List T_tag_Span) × (List (List T_tag_Entry)) × (List (Int × Bool))) (τ := (Option Addr × Nat) × (Option Addr × Nat) × Nat) (fun next4 s => Zj t22 next4 s.1 s.2.1 s.2.2.1 s.2.2.2.1 s.2.2.2.2.1 s.2.2.2.2.2.1 s.2.2.2.2.2.2.1 s.2.2.2.2.2.2.2.1 s.2.2.2.2.2.2.2.2) (fun s t => [(4, .pointer (some ⟨b6, 0, none⟩)), (7, .pointer (some ⟨b8, 0, none⟩)), (8, .pointer (some ⟨b9, 0, none⟩)), (9, .int .i64 s.1)]) (fun s t => [Zi Vt Vt, Jm b6 [.bool false, .slice none 0 0] 24, Yc (fun x_ : Int => .int .i64 x_) (fun x_ : Bool => .bool x_) t.2.2 s.2.2.2.2.2.2.2.2, Jm b8 [str s.2.1, .bool s.2.2.1, .slice t.1.1 s.2.2.2.2.2.2.1.length t.1.2, .map (some t.2.2), .int .i64 s.2.2.2.1, (J5 s.2.2.2.2.1), .int .i64 s.2.2.2.2.2.1] 165, Jm b9 [.bool (decide (t22 = 77)), .slice t.2.1.1 s.2.2.2.2.2.2.2.1.length t.2.1.2] 24, Jw 62 2 (.slice t.1.1 s.2.2.2.2.2.2.1.length t.1.2) s.2.2.2.2.2.2.1.length (s.2.2.2.2.2.2.1.map Ji), rowD 27 1 gs_tag_Entry (.slice t.2.1.1 s.2.2.2.2.2.2.2.1.length t.2.1.2) s.2.2.2.2.2.2.2.1.length s.2.2.2.2.2.2.2.1]) (fun s t => True) (t34, a0, (decide (t22 = 77)), 0, a1, 0, ([] : List T_tag_Span), ([] : List (List T_tag_Entry)), ([] : (List (Int × Bool)))) (((none, 0) : Option Addr × Nat), ((none, 0) : Option Addr × Nat), b7) [0, 1, 2, 3, 4, 5, 7] H50 (by exact trivial) (by exact ⟨rfl, rfl, rfl, rfl, trivial⟩) (by decide) rfl ?_
    rintro ⟨x9_2, m_13, m_14, m_15, m_16, m_17, l_5, l_6, mp_3⟩ ⟨p_3, p_4, b_2⟩ m4 gg H51 _
    clear H50
    replace H51 : Zj t22 (it (fun next4 s => Zj t22 next4 s.1 s.2.1 s.2.2.1 s.2.2.2.1 s.2.2.2.2.1 s.2.2.2.2.2.1 s.2.2.2.2.2.2.1 s.2.2.2.2.2.2.2.1 s.2.2.2.2.2.2.2.2) m4) x9_2 m_13 m_14 m_15 m_16 m_17 l_5 l_6 mp_3 = some r := H51
    generalize hn4 : it (fun next4 s => Zj t22 next4 s.1 s.2.1 s.2.2.1 s.2.2.2.1 s.2.2.2.2.1 s.2.2.2.2.2.1 s.2.2.2.2.2.2.1 s.2.2.2.2.2.2.2.1 s.2.2.2.2.2.2.2.2) m4 = next4 at H51
    try dsimp only
    refine Jf ?_
    refine Jf ?_
    try dsimp only [z1, z2, z5, z6, z7, z8]
    refine Jb ?_
    refine Ja rfl rfl rfl (Jc (v := .int .i64 x9_2) rfl) ?_
    refine Ja rfl rfl rfl (V3 rfl rfl) ?_
    refine Ja rfl rfl rfl (Jc (v := .bool (decide (x9_2 ≠ 0))) rfl) ?_
    refine split (fun hb => ?_) (fun hb => ?_)
    ·have H52 := Js hb H51; clear H51
     refine Ja rfl rfl rfl (Jc (v := .pointer (some ⟨b8, 0, none⟩)) rfl) ?_
     refine Ja rfl rfl rfl (Jp rfl) ?_
     refine Ja rfl rfl rfl (Jl Try.runUnderlying165 rfl Try.sizeOf30 rfl rfl) ?_
     refine Jr (i := 3) (v := .int .i64 m_17) Try.isAgg30 rfl rfl rfl rfl rfl ?_
     refine Ja rfl rfl rfl (Xq rfl rfl) ?_
     refine Ja rfl rfl rfl (Q5 (v := .bool (decide (m_17 = 0))) rfl rfl) ?_
     refine Jg ?_
     refine Qf (b := (decide (m_17 = 0))) rfl (fun hb => ?_) (fun hb => ?_)
     ·have H53 := Js hb H52; clear H52
      refine Ju ?_
      refine J1 ?_
      refine Jf ?_
      refine Jb ?_
      refine Ja rfl rfl rfl (Jc (v := .pointer (some ⟨b8, 0, none⟩)) rfl) ?_
      refine Ja rfl rfl rfl (Jp rfl) ?_
      refine Ja rfl rfl rfl (Jl Try.runUnderlying165 rfl Try.sizeOf3 rfl rfl) ?_
      refine Jr (i := 3) (v := .int .i64 m_15) Try.isAgg3 rfl rfl rfl rfl rfl ?_
      obtain ⟨t48, h_t48, H54⟩ := Jh H53; clear H53
      refine Ja rfl rfl rfl (Qd rfl rfl h_t48) ?_
      refine Ja rfl rfl rfl (Jp rfl) ?_
      refine Ja rfl rfl rfl (Jl Try.runUnderlying165 rfl Try.sizeOf3 rfl rfl) ?_
      refine Qx (i := 3) (vs := [.int .i64 t48]) (cs' := [str m_13, .bool m_14, .slice p_3.1 l_5.length p_3.2, .map (some b_2), .int .i64 t48, (J5 m_16), .int .i64 m_17]) Try.sizeOf3 rfl rfl rfl rfl rfl rfl rfl rfl rfl ?_
      refine Jg ?_
      refine Jf ?_
      refine Jb ?_
      refine Ja rfl rfl rfl (Jc (v := .pointer (some ⟨b8, 0, none⟩)) rfl) ?_
      refine Ja rfl rfl rfl (Jc (v := .int .i64 x9_2) rfl) ?_
      refine Ja rfl rfl rfl (Jl Try.runUnderlying24 rfl Try.sizeOf22 rfl rfl) ?_
      refine Jr (i := 4) (v := .slice p_4.1 l_6.length p_4.2) Try.isAgg22 rfl rfl rfl rfl rfl ?_
      refine Ja rfl rfl rfl (r_len Try.underlying22 rfl) ?_
      refine Qr (vs := [.int .i64 (l_6.length : Int)]) (cs := [.int .i64 (l_6.length : Int)]) Try.underlying25 Try.sizeOf3 Try.zeroValue3 rfl rfl rfl rfl rfl rfl rfl (fun b10 => ?_)
      obtain ⟨t58, h_t58, H55⟩ := Jh H54; clear H54
      refine Jx 5 2 rfl rfl (by decide) ?_
      refine Jx 3 5 rfl rfl (by decide) ?_
      refine Qv (Qc (i := 3) (rds := [7]) (G := fun x : (Option Addr × Nat) × (Option Addr × Nat) × Nat => .tuple #[.slice x.1.1 t58.1.length x.1.2, .int .i64 t58.2.1]) (C := fun x : (Option Addr × Nat) × (Option Addr × Nat) × Nat => Jy (Jm b8 [str t58.2.2.s_, .bool t58.2.2.big_, .slice x.2.1.1 t58.2.2.parts_.length x.2.1.2, .map (some x.2.2), .int .i64 t58.2.2.dirs_, (J5 t58.2.2.found_), .int .i64 t58.2.2.no_] 165) (Jy (Jw 62 2 (.slice x.2.1.1 t58.2.2.parts_.length x.2.1.2) t58.2.2.parts_.length (t58.2.2.parts_.map Ji)) (Jy (Yc (fun x_ : Int => .int .i64 x_) (fun x_ : Bool => .bool x_) x.2.2 t58.2.2.seen_) (rowD 96 6 g_tag_Entry (.slice x.1.1 t58.1.length x.1.2) t58.1.length t58.1)))) rfl (fun w L' S hF hS hi hp hlt ho hA => k119 hp hlt (Q8 w S) rfl (frb_box (j := 7) (xs := ([(l_6.length : Int)] : List Int)) (f := Xx) hA hS (by decide) ((hi 7 (by simp)).trans rfl) rfl rfl rfl rfl) h_t58) Try.call119 rfl) rfl rfl rfl (fun ⟨p_5, p_6, p_7⟩ => ?_)
      refine J2 3 5 rfl rfl (by decide) ?_
      refine J2 5 2 rfl rfl (by decide) ?_
      refine X3 2 rfl ?_
      refine Ja rfl rfl rfl (Jc (v := .tuple #[.slice p_5.1 t58.1.length p_5.2, .int .i64 t58.2.1]) rfl) ?_
      refine Ja rfl rfl rfl (Xa (v := .slice p_5.1 t58.1.length p_5.2) rfl rfl) ?_
      refine Ja rfl rfl rfl (Xa (v := .int .i64 t58.2.1) rfl rfl) ?_
      refine Ja rfl rfl rfl (Jd (v := .slice p_5.1 t58.1.length p_5.2) rfl) ?_
      refine Ja rfl rfl rfl (Jd (v := .int .i64 t58.2.1) rfl) ?_
      refine Jg ?_
      refine Jf ?_
      refine c_rowD 6 rfl (fun hp css hn pf => ?_)
      rw [hn]
      try dsimp only [z1, z2, z5, z6, z7, z8]
      refine X3 6 rfl ?_
      try dsimp only [z1, z2, z5, z6, z7, z8]
      refine c_poolJoin 0 6 rfl rfl (by decide) (fun _ _ => noH_le) (fun hp_2 hle hle_2 => ?_)
      try dsimp only [z1, z2, z5, z6, z7, z8]
      refine Jb ?_
      refine Ja rfl rfl rfl (Jl Try.runUnderlying24 rfl Try.sizeOf22 rfl rfl) ?_
      refine Jr (i := 4) (v := .slice p_4.1 css.length p_4.2) Try.isAgg22 rfl rfl rfl rfl rfl ?_
      refine Ja rfl rfl rfl (Jc (v := .slice p_5.1 t58.1.length p_5.2) rfl) ?_
      refine Qr (vs := [.slice p_5.1 t58.1.length p_5.2]) (cs := [.slice p_5.1 t58.1.length p_5.2]) Try.underlying22 Try.sizeOf27 Try.zeroValue27 rfl rfl rfl rfl rfl rfl rfl (fun b11 => ?_)
      refine c_rowD 8 rfl (fun hp_3 css_2 hn_2 pf_2 => ?_)
      rw [hn_2]
      try dsimp only [z1, z2, z5, z6, z7, z8]
      refine X3 8 rfl ?_
      try dsimp only [z1, z2, z5, z6, z7, z8]
      refine c_poolJoin 0 8 rfl rfl (by decide) (fun _ _ => noH_le) (fun hp_4 hle_3 hle_4 => ?_)
      try dsimp only [z1, z2, z5, z6, z7, z8]
      refine c_freeze (Φ := fun H_ => FrS H_ 6 (.slice p_5.1 css_2.length p_5.2) (css_2.map idC)) 0 11 rfl rfl (by decide) (fun _ _ => noH_le) (fz_own _) (fun hp_5 hle_5 hf => ?_)
      obtain ⟨l65, h_l65, H56⟩ := Jh H55; clear H55
      refine Qv (turns_appendM (i := 9) (k := 10) (p := p_4) (f := idC) (ys := css) (ls := [[.slice p_5.1 css_2.length p_5.2]]) Try.underlying22 (Xn Try.typeInfo27) rfl rfl rfl rfl rfl rfl rfl rfl rfl rfl rfl rfl rfl rfl (by simp only [idC, List.map_cons, List.map_nil, List.all_cons, List.all_nil, (frn_of (xs := t58.1) hf ((pf_2.mono hle_4).mono hle_5)).one] <;> rfl) (app63 ((((pf.mono hle_2).mono hle_3).mono hle_5).app h_l65 (nc := [[.slice p_5.1 css_2.length p_5.2]]) rfl)) rfl) rfl rfl rfl (fun p_8 => ?_)
      have pf_3 : AllC gs_tag_Entry hp_5 1 (css ++ [[Value.slice p_5.1 css_2.length p_5.2]]) l65 := AllC.snocG (((pf.mono hle_2).mono hle_3).mono hle_5) h_l65 rfl ((frn_of (xs := t58.1) hf ((pf_2.mono hle_4).mono hle_5)))
      refine Ja rfl rfl rfl (Jl Try.runUnderlying24 rfl Try.sizeOf22 rfl rfl) ?_
      refine Qx (i := 4) (vs := [.slice p_8.1 ((css ++ [[Value.slice p_5.1 css_2.length p_5.2]]).length) p_8.2]) (cs' := [.bool (decide (t22 = 77)), .slice p_8.1 ((css ++ [[Value.slice p_5.1 css_2.length p_5.2]]).length) p_8.2]) Try.sizeOf22 rfl rfl rfl rfl rfl rfl rfl rfl rfl ?_
      refine Jg ?_
      try dsimp only [z1, z2, z5, z6, z7, z8]
      refine Jx 0 9 rfl rfl (by decide) ?_
      try dsimp only [z1, z2, z5, z6, z7, z8]
      refine V5 0 rfl (imp_rowDx (p := p_8) rfl pf_3) ?_
      (try rw [show ((css ++ [[Value.slice p_5.1 css_2.length p_5.2]]).length) = l65.length from pf_3.len])
      refine Wb Vt ?_
      refine c_sel [12, 1, 2, 3, 4, 5, 6, 7, 8, 0, 10, 11] [Zi Vt Vt, Jm b6 [.bool false, .slice none 0 0] 24, Yc (fun x_ : Int => .int .i64 x_) (fun x_ : Bool => .bool x_) p_7 t58.2.2.seen_, Jm b8 [str t58.2.2.s_, .bool t58.2.2.big_, .slice p_6.1 t58.2.2.parts_.length p_6.2, .map (some p_7), .int .i64 t58.2.2.dirs_, (J5 t58.2.2.found_), .int .i64 t58.2.2.no_] 165, Jm b9 [.bool (decide (t22 = 77)), .slice p_8.1 l65.length p_8.2] 24, Jw 62 2 (.slice p_6.1 t58.2.2.parts_.length p_6.2) t58.2.2.parts_.length (t58.2.2.parts_.map Ji), _, Jm b10 [.int .i64 (css.length : Int)] 3, _, rowD 27 1 gs_tag_Entry (.slice p_8.1 l65.length p_8.2) l65.length l65, Jm b11 [.slice p_5.1 css_2.length p_5.2] 27, _] rfl (by decide) ?_
      try dsimp only [z1, z2, z5, z6, z7, z8]
      refine Jb ?_
      refine Ja rfl rfl rfl (Jc (v := .int .i64 t58.2.1) rfl) ?_
      refine Ja rfl rfl rfl (Jd (v := .int .i64 t58.2.1) rfl) ?_
      refine Jg ?_
      refine Jo (t58.2.1, t58.2.2.s_, t58.2.2.big_, t58.2.2.dirs_, t58.2.2.found_, t58.2.2.no_, t58.2.2.parts_, l65, t58.2.2.seen_) (p_6, p_8, p_7) m4 [0, 1, 2, 3, 4, 5, 9] (by exact ⟨rfl, rfl, rfl, rfl, trivial⟩) (by decide) (by kernel_rfl) (by exact ⟨(by subst hn4; exact H56), trivial⟩) (Nat.lt_succ_self _)
     ·have H57 := Jt hb H52; clear H52
      refine Xy ?_
      refine Jo (m_13, m_14, m_15, m_16, m_17, l_5, l_6, mp_3) (p_3, p_4, b_2) 0 [0, 1, 2, 3, 4, 5, 6] (by exact ⟨rfl, rfl, rfl, trivial⟩) (by decide) (by kernel_rfl) (by exact ⟨H57, trivial⟩) (Nat.lt_succ_self _)
    ·have H58 := Jt hb H51; clear H51
     refine Jk rfl rfl rfl ?_
     refine Jk rfl rfl rfl ?_
     refine Jk rfl rfl rfl ?_
     refine Jk rfl rfl rfl ?_
     refine Jk rfl rfl rfl ?_
     refine Ja rfl rfl rfl (Xg (v := .bool false) rfl rfl) ?_
     refine Jg ?_
     refine W0 rfl ?_
     refine Xy ?_
     refine Jo (m_13, m_14, m_15, m_16, m_17, l_5, l_6, mp_3) (p_3, p_4, b_2) 0 [0, 1, 2, 3, 4, 5, 6] (by exact ⟨rfl, rfl, rfl, trivial⟩) (by decide) (by kernel_rfl) (by exact ⟨H58, trivial⟩) (Nat.lt_succ_self _)
   ·rintro ⟨m, m_2, m_3, m_4, m_5, l, l_2, mp⟩ ⟨p, p_2, b⟩ gg H36 _
    replace H36 : Zw t22 m m_2 m_3 m_4 m_5 l l_2 mp = some r := H36
    try dsimp only
    refine Jf ?_
    refine Jb ?_
    refine Ja rfl rfl rfl (Jc (v := .pointer (some ⟨b8, 0, none⟩)) rfl) ?_
    refine Ja rfl rfl rfl (Jp rfl) ?_
    refine Ja rfl rfl rfl (Jl Try.runUnderlying165 rfl Try.sizeOf57 rfl rfl) ?_
    refine Jr (i := 3) (v := .slice p.1 l.length p.2) Try.isAgg57 rfl rfl rfl rfl rfl ?_
    obtain ⟨t72, h_t72, H37⟩ := Jh H36; clear H36
    refine Qv (Qc (i := 5) (rds := []) (G := fun x : Unit => .tuple #[]) (C := fun x : Unit => Jw 62 2 (.slice p.1 l.length p.2) l.length (t72.map Ji)) rfl (fun w L' S hF hS hi hp hlt ho hA => k28_120 hp hlt (Q8 w S) rfl h_t72) Try.call28 rfl) rfl rfl rfl (fun _ => ?_)
    refine c_know (fun w hF hS => lenOf (i := 5) hS rfl) (fun hl_ => ?_)
    have hl : l.length = t72.length := by simpa using hl_.symm
    refine Jg ?_
    refine Xb (r := r) (σ := Int) (τ := Unit) (fun s => Zv t22 l_2 t72 s) (fun s t => [(4, .pointer (some ⟨b6, 0, none⟩)), (7, .pointer (some ⟨b8, 0, none⟩)), (8, .pointer (some ⟨b9, 0, none⟩))]) (fun s t => [Zi Vt Vt, Jm b6 [.bool false, .slice none 0 0] 24, Yc (fun x_ : Int => .int .i64 x_) (fun x_ : Bool => .bool x_) b mp, Jm b8 [str m, .bool m_2, .slice p.1 l.length p.2, .map (some b), .int .i64 m_3, (J5 m_4), .int .i64 s] 165, Jm b9 [.bool (decide (t22 = 77)), .slice p_2.1 l_2.length p_2.2] 24, Jw 62 2 (.slice p.1 l.length p.2) l.length (t72.map Ji), rowD 27 1 gs_tag_Entry (.slice p_2.1 l_2.length p_2.2) l_2.length l_2]) (fun s t => True) ?_ ?_
    ·refine Jf ?_
     refine Jb ?_
     refine Ja rfl rfl rfl (Jc (v := .pointer (some ⟨b8, 0, none⟩)) rfl) ?_
     refine Ja rfl rfl rfl (Jp rfl) ?_
     refine Ja rfl rfl rfl (Jl Try.runUnderlying165 rfl Try.sizeOf30 rfl rfl) ?_
     refine Jr (i := 3) (v := .int .i64 m_5) Try.isAgg30 rfl rfl rfl rfl rfl ?_
     refine Ja rfl rfl rfl (Xq rfl rfl) ?_
     refine Ja rfl rfl rfl (Jc (v := .bool (decide (m_5 = 0))) rfl) ?_
     refine split (fun hb => ?_) (fun hb => ?_)
     ·have H45 := Js hb H37; clear H37
      refine Ja rfl rfl rfl (Jc (v := .pointer (some ⟨b8, 0, none⟩)) rfl) ?_
      refine Ja rfl rfl rfl (Jp rfl) ?_
      refine Ja rfl rfl rfl (Jl Try.runUnderlying165 rfl Try.sizeOf57 rfl rfl) ?_
      refine Jr (i := 3) (v := .slice p.1 l.length p.2) Try.isAgg57 rfl rfl rfl rfl rfl ?_
      obtain ⟨t83, h_t83, H46⟩ := Jh H45; clear H45
      refine Xt (fun w hF hS => k121 (J3 w) (Z1 (i := 5) hl hS rfl) h_t83) Try.call121 rfl rfl rfl ?_
      refine Ja rfl rfl rfl (Q5 (v := .bool t83) rfl rfl) ?_
      refine Jg ?_
      refine Qf (b := t83) rfl (fun hb => ?_) (fun hb => ?_)
      ·have H47 := Js hb H46; clear H46
       refine Jb ?_
       refine Ja rfl rfl rfl (Jc (v := .pointer (some ⟨b8, 0, none⟩)) rfl) ?_
       refine Ja rfl rfl rfl (Jp rfl) ?_
       refine Ja rfl rfl rfl (Jl Try.runUnderlying165 rfl Try.sizeOf30 rfl rfl) ?_
       refine Qx (i := 3) (vs := [.int .i64 6]) (cs' := [str m, .bool m_2, .slice p.1 l.length p.2, .map (some b), .int .i64 m_3, (J5 m_4), .int .i64 6]) Try.sizeOf30 rfl rfl rfl rfl rfl rfl rfl rfl rfl ?_
       refine Jg ?_
       refine Jo 6 () 0 [0, 1, 2, 3, 4, 5, 6] (by exact ⟨rfl, rfl, rfl, trivial⟩) (by decide) (by kernel_rfl) (by exact ⟨H47, trivial⟩) (Nat.lt_succ_self _)
      ·have H48 := Jt hb H46; clear H46
       refine Ju ?_
       refine Jo m_5 () 0 [0, 1, 2, 3, 4, 5, 6] (by exact ⟨rfl, rfl, rfl, trivial⟩) (by decide) (by kernel_rfl) (by exact ⟨H48, trivial⟩) (Nat.lt_succ_self _)
     ·have H49 := Jt hb H37; clear H37
      refine Jk rfl rfl rfl ?_
      refine Jk rfl rfl rfl ?_
      refine Jk rfl rfl rfl ?_
      refine Jk rfl rfl rfl ?_
      refine Jk rfl rfl rfl ?_
      refine Ja rfl rfl rfl (Xg (v := .bool false) rfl rfl) ?_
      refine Jg ?_
      refine W0 rfl ?_
      refine Ju ?_
      refine Jo m_5 () 0 [0, 1, 2, 3, 4, 5, 6] (by exact ⟨rfl, rfl, rfl, trivial⟩) (by decide) (by kernel_rfl) (by exact ⟨H49, trivial⟩) (Nat.lt_succ_self _)
    ·rintro m_6 _ gg H38 _
     replace H38 : Zv t22 l_2 t72 m_6 = some r := H38
     try dsimp only
     refine Xb (r := r) (σ := Int) (τ := Unit) (fun s => Vh t22 l_2 t72 s) (fun s t => [(4, .pointer (some ⟨b6, 0, none⟩)), (7, .pointer (some ⟨b8, 0, none⟩)), (8, .pointer (some ⟨b9, 0, none⟩))]) (fun s t => [Zi Vt Vt, Jm b6 [.bool false, .slice none 0 0] 24, Yc (fun x_ : Int => .int .i64 x_) (fun x_ : Bool => .bool x_) b mp, Jm b8 [str m, .bool m_2, .slice p.1 l.length p.2, .map (some b), .int .i64 m_3, (J5 m_4), .int .i64 s] 165, Jm b9 [.bool (decide (t22 = 77)), .slice p_2.1 l_2.length p_2.2] 24, Jw 62 2 (.slice p.1 l.length p.2) l.length (t72.map Ji), rowD 27 1 gs_tag_Entry (.slice p_2.1 l_2.length p_2.2) l_2.length l_2]) (fun s t => True) ?_ ?_
     ·refine Jf ?_
      refine Jb ?_
      refine Ja rfl rfl rfl (Jc (v := .pointer (some ⟨b8, 0, none⟩)) rfl) ?_
      refine Ja rfl rfl rfl (Jp rfl) ?_
      refine Ja rfl rfl rfl (Jl Try.runUnderlying165 rfl Try.sizeOf30 rfl rfl) ?_
      refine Jr (i := 3) (v := .int .i64 m_6) Try.isAgg30 rfl rfl rfl rfl rfl ?_
      refine Ja rfl rfl rfl (Xq rfl rfl) ?_
      refine Jg ?_
      refine Qf (b := (decide (m_6 = 0))) rfl (fun hb => ?_) (fun hb => ?_)
      ·have H42 := Js hb H38; clear H38
       refine Jb ?_
       refine Ja rfl rfl rfl (Jc (v := .pointer (some ⟨b8, 0, none⟩)) rfl) ?_
       refine Vx (i := 4) (vs := [.bool (decide (t22 = 77)), .slice p_2.1 l_2.length p_2.2]) Try.isAgg24 Try.sizeOf24 rfl rfl rfl rfl rfl ?_
       obtain ⟨t95, h_t95, H43⟩ := Jh H42; clear H42
       refine Xt (fun w hF hS => k41 (J3 w) (frn_rowD (i := 6) hS rfl) h_t95) Try.call41 rfl rfl rfl ?_
       refine Ja rfl rfl rfl (Jp rfl) ?_
       refine Ja rfl rfl rfl (Jl Try.runUnderlying165 rfl Try.sizeOf30 rfl rfl) ?_
       refine Qx (i := 3) (vs := [.int .i64 t95]) (cs' := [str m, .bool m_2, .slice p.1 l.length p.2, .map (some b), .int .i64 m_3, (J5 m_4), .int .i64 t95]) Try.sizeOf30 rfl rfl rfl rfl rfl rfl rfl rfl rfl ?_
       refine Jg ?_
       refine Jo t95 () 0 [0, 1, 2, 3, 4, 5, 6] (by exact ⟨rfl, rfl, rfl, trivial⟩) (by decide) (by kernel_rfl) (by exact ⟨H43, trivial⟩) (Nat.lt_succ_self _)
      ·have H44 := Jt hb H38; clear H38
       refine Ju ?_
       refine Jo m_6 () 0 [0, 1, 2, 3, 4, 5, 6] (by exact ⟨rfl, rfl, rfl, trivial⟩) (by decide) (by kernel_rfl) (by exact ⟨H44, trivial⟩) (Nat.lt_succ_self _)
     ·rintro m_7 _ gg H39 _
      replace H39 : Vh t22 l_2 t72 m_7 = some r := H39
      try dsimp only
      refine Jf ?_
      refine Jf ?_
      refine Jb ?_
      refine Ja rfl rfl rfl (Jc (v := .pointer (some ⟨b8, 0, none⟩)) rfl) ?_
      refine Ja rfl rfl rfl (Jp rfl) ?_
      refine Ja rfl rfl rfl (Jl Try.runUnderlying165 rfl Try.sizeOf30 rfl rfl) ?_
      refine Jr (i := 3) (v := .int .i64 m_7) Try.isAgg30 rfl rfl rfl rfl rfl ?_
      refine Ja rfl rfl rfl (V3 rfl rfl) ?_
      refine Jg ?_
      refine Qf (b := (decide (m_7 ≠ 0))) rfl (fun hb => ?_) (fun hb => ?_)
      ·have H40 := Js hb H39; clear H39
       refine Jf ?_
       exact Xr (Kd.p :: Kd.p :: Kd.p :: Kd.p :: Kd.d [3] _ :: Kd.sv 4 103 1 _ 24 :: Kd.p :: Kd.p :: []) 0 mixed (by
        refine Jq rfl rfl (Y6 (pl := #[(0, 1), (1, 1)]) (ps := []) (cells := #[.bool false, .slice none 0 0]) Try.zeroValue24 Try.runUnderlying24 (fun w => by kernel_rfl) rfl rfl) ?_
        refine Jq rfl rfl (Jc (v := .pointer (some ⟨b8, 0, none⟩)) rfl) ?_
        refine Jq rfl rfl (Jp rfl) ?_
        refine Jq rfl rfl (Jl Try.runUnderlying165 rfl Try.sizeOf30 rfl rfl) ?_
        refine Ya (i := 3) (v := .int .i64 m_7) Try.isAgg30 rfl rfl rfl rfl ?_
        refine Uk (i := 1) (vs := [.bool false, .slice none 0 0]) (cs' := fun v_ => [(vcell v_ 0), (vcell v_ 1)]) Try.sizeOf24 rfl rfl rfl rfl rfl rfl rfl rfl rfl ?_
        refine Jq rfl rfl (Jd (v := .slice none 0 0) rfl) ?_
        refine Jq rfl rfl (Jd (v := .int .i64 m_7) rfl) ?_
        refine Wf ?_
        refine J0 ?_
        refine Ql 27 1 ?_
        refine Ql 62 2 ?_
        obtain rfl := Option.some.inj H40
        refine Jx 0 7 rfl rfl (by decide) ?_
        refine V5 0 rfl (W7 (p := ((none, 0) : Option Addr × Nat)) rfl (AllC.nil (G := gs_tag_Entry) (h := Vt) (sz := 1))) ?_
        refine Jx 0 8 rfl rfl (by decide) ?_
        refine retCtt (i := 1) (vs := [.bool false, .slice ((none, 0) : Option Addr × Nat).1 (([] : List (List Value)).length) ((none, 0) : Option Addr × Nat).2]) (v2 := .slice ((none, 0) : Option Addr × Nat).1 ([] : List T_tag_Span).length ((none, 0) : Option Addr × Nat).2) (v3 := .int .i64 m_7) Try.isAgg24 Try.sizeOf24 rfl rfl rfl rfl rfl rfl (Wm (((none, 0) : Option Addr × Nat), ((none, 0) : Option Addr × Nat)) (i := 0) rfl (by first | rfl | rw [(show (([] : List (List Value)).length) = ([] : List (List T_tag_Entry)).length from (AllC.nil (G := gs_tag_Entry) (h := Vt) (sz := 1)).len)]) (by first | exact Imp.refl _ | exact Imp.of (by rw [(show (([] : List (List Value)).length) = ([] : List (List T_tag_Entry)).length from (AllC.nil (G := gs_tag_Entry) (h := Vt) (sz := 1)).len)])))
        ) (by kernel_rfl)
      ·have H41 := Jt hb H39; clear H39
       refine Ju ?_
       refine Jf ?_
       try dsimp only [z1, z2, z5, z6, z7, z8]
       exact Xr (Kd.d [4] _ :: Kd.p :: Kd.p :: Kd.p :: Kd.d [3] _ :: Kd.sv 4 108 1 _ 24 :: Kd.p :: Kd.p :: []) 0 mixed (by
        refine d_loadN (i := 4) (vs := [.bool (decide (t22 = 77)), .slice p_2.1 l_2.length p_2.2]) Try.isAgg24 Try.sizeOf24 rfl rfl rfl rfl ?_
        refine Jq rfl rfl (Jc (v := .pointer (some ⟨b8, 0, none⟩)) rfl) ?_
        refine Jq rfl rfl (Jp rfl) ?_
        refine Jq rfl rfl (Jl Try.runUnderlying165 rfl Try.sizeOf57 rfl rfl) ?_
        refine Ya (i := 3) (v := .slice p.1 l.length p.2) Try.isAgg57 rfl rfl rfl rfl ?_
        refine Uk (i := 1) (vs := [.bool (decide (t22 = 77)), .slice p_2.1 l_2.length p_2.2]) (cs' := fun v_ => [(vcell v_ 0), (vcell v_ 1)]) Try.sizeOf24 rfl rfl rfl rfl rfl rfl rfl rfl rfl ?_
        refine Jq rfl rfl (Jd (v := .slice p.1 l.length p.2) rfl) ?_
        refine Jq rfl rfl (Jd (v := .int .i64 0) rfl) ?_
        refine Wf ?_
        refine J0 ?_
        obtain rfl := Option.some.inj H41
        refine Jx 6 5 rfl rfl (by decide) ?_
        refine retCtt (i := 1) (vs := [.bool (decide (t22 = 77)), .slice p_2.1 l_2.length p_2.2]) (v2 := .slice p.1 l.length p.2) (v3 := .int .i64 0) Try.isAgg24 Try.sizeOf24 rfl rfl rfl rfl rfl rfl (Wm (p_2, p) (i := 6) rfl (by first | rfl | rw [(show l.length = t72.length from hl)]) (by first | exact Imp.refl _ | exact Imp.of (by rw [(show l.length = t72.length from hl)])))
        ) (by kernel_rfl)
end Go.Proofs.Ytemkoikdkfkijaa

/- TagSpans, the law: the walks, printed by our generator; each follows its model. Conditions: the model yields a value. -/
namespace Go.Proofs.Ytemkoikdkfkijaa
open Go Go.Vc Go.Md Go.M Go.Lx
set_option maxRecDepth 100000
set_option maxHeartbeats 4000000
set_option linter.unusedVariables false
theorem k115 {a0 : T_tag_Ratio} {r : Int} (H : tag_checkRatio a0 = some r) : Ret Try.prog 115 [.agg #[.int .i64 a0.Num, .int .i64 a0.Den]] (.int .i64 r) := by
 refine Vp (n := 11) Try.func115 rfl rfl rfl (fun wd => ?_)
 refine Jf ?_
 refine Jb ?_
 refine l_box (cs := [.int .i64 a0.Num, .int .i64 a0.Den]) rfl rfl rfl rfl (fun b1 => ?_)
 refine Ja rfl rfl rfl (Jd (v := .int .i64 0) rfl) ?_
 refine Jg ?_
 refine Jf ?_
 refine Jf ?_
 refine Jb ?_
 refine Ja rfl rfl rfl (Jl Try.runUnderlying103 rfl Try.sizeOf3 rfl rfl) ?_
 refine Jr (i := 0) (v := .int .i64 a0.Num) Try.isAgg3 rfl rfl rfl rfl rfl ?_
 obtain ⟨t5, h_t5, H7⟩ := Jh H; clear H
 refine Z8 (k97 h_t5) Try.call97 rfl rfl rfl ?_
 refine Ja rfl rfl rfl (Jc (v := .bool t5) rfl) ?_
 refine split (fun hb => ?_) (fun hb => ?_)
 ·have H8 := Js hb H7; clear H7
  refine Jk rfl rfl rfl ?_
  refine Jk rfl rfl rfl ?_
  refine Jk rfl rfl rfl ?_
  refine Ja rfl rfl rfl (Q5 (v := .bool true) rfl rfl) ?_
  refine Jg ?_
  refine c_true rfl ?_
  refine Jf ?_
  refine Jb ?_
  refine Ja rfl rfl rfl (Jd (v := .int .i64 2) rfl) ?_
  refine Jg ?_
  refine J0 ?_
  obtain rfl := Option.some.inj H8
  refine Q2 (v := .int .i64 2) rfl rfl (Zr rfl)
 ·have H9 := Jt hb H7; clear H7
  refine Ja rfl rfl rfl (Jl Try.runUnderlying103 rfl Try.sizeOf3 rfl rfl) ?_
  refine Jr (i := 0) (v := .int .i64 a0.Den) Try.isAgg3 rfl rfl rfl rfl rfl ?_
  obtain ⟨t9, h_t9, H10⟩ := Jh H9; clear H9
  refine Z8 (k97 h_t9) Try.call97 rfl rfl rfl ?_
  refine Ja rfl rfl rfl (Xg (v := .bool t9) rfl rfl) ?_
  refine Jg ?_
  refine Qf (b := t9) rfl (fun hb => ?_) (fun hb => ?_)
  ·have H11 := Js hb H10; clear H10
   refine Jf ?_
   refine Jb ?_
   refine Ja rfl rfl rfl (Jd (v := .int .i64 2) rfl) ?_
   refine Jg ?_
   refine J0 ?_
   obtain rfl := Option.some.inj H11
   refine Q2 (v := .int .i64 2) rfl rfl (Zr rfl)
  ·have H12 := Jt hb H10; clear H10
   refine Ju ?_
   refine Jf ?_
   refine Jb ?_
   refine Ja rfl rfl rfl (Jd (v := .int .i64 0) rfl) ?_
   refine Jg ?_
   refine J0 ?_
   obtain rfl := Option.some.inj H12
   refine Q2 (v := .int .i64 0) rfl rfl (Zr rfl)
theorem k69 {a0 : T_tag_Ratio} {r : T_tag_Ratio × Int} (H : tag_Lowest a0 = some r) : Ret Try.prog 69 [.agg #[.int .i64 a0.Num, .int .i64 a0.Den]] (.tuple #[.agg #[.int .i64 r.1.Num, .int .i64 r.1.Den], .int .i64 r.2]) := by
 refine Vp (n := 32) Try.func69 rfl rfl rfl (fun wd => ?_)
 refine Jf ?_
 refine Jb ?_
 refine l_box (cs := [.int .i64 a0.Num, .int .i64 a0.Den]) rfl rfl rfl rfl (fun b2 => ?_)
 refine Zf (cs := [.int .i64 0, .int .i64 0]) Try.zeroValue103 rfl rfl rfl (fun b3 => ?_)
 refine Ja rfl rfl rfl (Jd (v := .int .i64 0) rfl) ?_
 refine Jg ?_
 refine Jf ?_
 refine Jf ?_
 refine Jb ?_
 refine Vx (i := 0) (vs := [.int .i64 a0.Num, .int .i64 a0.Den]) Try.isAgg103 Try.sizeOf103 rfl rfl rfl rfl rfl ?_
 obtain ⟨t8, h_t8, H11⟩ := Jh H; clear H
 refine Z8 (k115 h_t8) Try.call115 rfl rfl rfl ?_
 refine Ja rfl rfl rfl (Jd (v := .int .i64 t8) rfl) ?_
 refine Jg ?_
 refine Jf ?_
 refine Jb ?_
 refine Ja rfl rfl rfl (Jc (v := .int .i64 t8) rfl) ?_
 refine Ja rfl rfl rfl (V3 rfl rfl) ?_
 refine Jg ?_
 refine Qf (b := (decide (t8 ≠ 0))) rfl (fun hb => ?_) (fun hb => ?_)
 ·have H12 := Js hb H11; clear H11
  refine Jf ?_
  refine Jb ?_
  refine Ja rfl rfl rfl (Y6 (pl := #[(0, 1), (1, 1)]) (ps := []) (cells := #[.int .i64 0, .int .i64 0]) Try.zeroValue103 Try.runUnderlying103 (fun w => by kernel_rfl) rfl rfl) ?_
  refine Ja rfl rfl rfl (Jc (v := .int .i64 t8) rfl) ?_
  refine Qx (i := 1) (vs := [.int .i64 0, .int .i64 0]) (cs' := [.int .i64 0, .int .i64 0]) Try.sizeOf103 rfl rfl rfl rfl rfl rfl rfl rfl rfl ?_
  refine Ja rfl rfl rfl (Jd (v := .int .i64 t8) rfl) ?_
  refine Jg ?_
  refine J0 ?_
  obtain rfl := Option.some.inj H12
  refine retCt (i := 1) (vs := [.int .i64 0, .int .i64 0]) (v2 := .int .i64 t8) Try.isAgg103 Try.sizeOf103 rfl rfl rfl rfl rfl (Zr rfl)
 ·have H13 := Jt hb H11; clear H11
  refine Ju ?_
  refine Jf ?_
  exact Xr (Kd.p :: Kd.d [0] _ :: Kd.p :: Kd.d [0] _ :: Kd.p :: Kd.p :: []) 0 mixed (by
   refine Jq rfl rfl (Jl Try.runUnderlying103 rfl Try.sizeOf3 rfl rfl) ?_
   refine Ya (i := 0) (v := .int .i64 a0.Num) Try.isAgg3 rfl rfl rfl rfl ?_
   refine Jq rfl rfl (Jl Try.runUnderlying103 rfl Try.sizeOf3 rfl rfl) ?_
   refine Ya (i := 0) (v := .int .i64 a0.Den) Try.isAgg3 rfl rfl rfl rfl ?_
   refine Jq rfl rfl (Jd (v := .int .i64 a0.Num) rfl) ?_
   refine Jq rfl rfl (Jd (v := .int .i64 a0.Den) rfl) ?_
   refine Wf ?_
   refine Xb (r := r) (σ := Int) (τ := Unit) (fun s => tag_Lowest_j1 a0 s) (fun s t => [(1, .pointer (some ⟨b2, 0, none⟩)), (2, .pointer (some ⟨b3, 0, none⟩)), (5, .int .i64 s)]) (fun s t => [Jm b2 [.int .i64 a0.Num, .int .i64 a0.Den] 103, Jm b3 [.int .i64 0, .int .i64 0] 103]) (fun s t => True) ?_ ?_
   ·refine J1 ?_
    refine Z5 (σ := Int × Int) (τ := Unit) (fun next2 s => X9 a0 next2 s.1 s.2) (fun s t => [(1, .pointer (some ⟨b2, 0, none⟩)), (2, .pointer (some ⟨b3, 0, none⟩)), (5, .int .i64 s.1), (6, .int .i64 s.2)]) (fun s t => [Jm b2 [.int .i64 a0.Num, .int .i64 a0.Den] 103, Jm b3 [.int .i64 0, .int .i64 0] 103]) (fun s t => True) (a0.Num, a0.Den) () [0, 1] H13 (by exact trivial) (by exact ⟨rfl, rfl, rfl, rfl, trivial⟩) (by decide) rfl ?_
    rintro ⟨x5_3, x6_2⟩ _ m2 gg H17 _
    clear H13
    replace H17 : X9 a0 (it (fun next2 s => X9 a0 next2 s.1 s.2) m2) x5_3 x6_2 = some r := H17
    generalize hn2 : it (fun next2 s => X9 a0 next2 s.1 s.2) m2 = next2 at H17
    try dsimp only
    refine Jf ?_
    refine Jf ?_
    refine Jb ?_
    refine Ja rfl rfl rfl (Jc (v := .int .i64 x6_2) rfl) ?_
    refine Ja rfl rfl rfl (V3 rfl rfl) ?_
    refine Jg ?_
    refine Qf (b := (decide (x6_2 ≠ 0))) rfl (fun hb => ?_) (fun hb => ?_)
    ·have H18 := Js hb H17; clear H17
     refine Ju ?_
     refine J1 ?_
     exact Xr (Kd.p :: Kd.p :: Kd.p :: Kd.p :: Kd.p :: Kd.p :: []) 0 mixed (by
      refine Jq rfl rfl (Jc (v := .int .i64 x6_2) rfl) ?_
      refine Jq rfl rfl (Jc (v := .int .i64 x5_3) rfl) ?_
      refine Jq rfl rfl (Jc (v := .int .i64 x6_2) rfl) ?_
      have h_t22 := Qq H18
      have H19 := Qb H18
      refine Jq rfl rfl (r_remG rfl rfl h_t22) ?_
      refine Jq rfl rfl (Jd (v := .int .i64 x6_2) rfl) ?_
      refine Jq rfl rfl (Jd (v := .int .i64 (val (gRem x5_3 x6_2))) rfl) ?_
      refine Wf ?_
      refine Jo (x6_2, (val (gRem x5_3 x6_2))) () m2 [0, 1] (by exact ⟨rfl, rfl, rfl, rfl, trivial⟩) (by decide) (by kernel_rfl) (by exact ⟨(by subst hn2; exact H19), trivial⟩) (Nat.lt_succ_self _)
      ) (by kernel_rfl)
    ·have H20 := Jt hb H17; clear H17
     refine Xy ?_
     refine Jo x5_3 () 0 [0, 1] (by exact ⟨rfl, rfl, rfl, trivial⟩) (by decide) (by kernel_rfl) (by exact ⟨H20, trivial⟩) (Nat.lt_succ_self _)
   ·rintro x5 _ gg H14 _
    replace H14 : tag_Lowest_j1 a0 x5 = some r := H14
    try dsimp only
    refine Jf ?_
    exact Xr (Kd.p :: Kd.d [0] _ :: Kd.p :: Kd.p :: Kd.p :: Kd.d [0] _ :: Kd.p :: Kd.p :: Kd.p :: Kd.st 2 1 [_, _] 103 :: Kd.p :: []) 0 mixed (by
     refine Jq rfl rfl (Jl Try.runUnderlying103 rfl Try.sizeOf3 rfl rfl) ?_
     refine Ya (i := 0) (v := .int .i64 a0.Num) Try.isAgg3 rfl rfl rfl rfl ?_
     refine Jq rfl rfl (Jc (v := .int .i64 x5) rfl) ?_
     have h_t26 := Qq H14
     have H15 := Qb H14
     refine Jq rfl rfl (r_quoG rfl rfl h_t26) ?_
     refine Jq rfl rfl (Jl Try.runUnderlying103 rfl Try.sizeOf3 rfl rfl) ?_
     refine Ya (i := 0) (v := .int .i64 a0.Den) Try.isAgg3 rfl rfl rfl rfl ?_
     refine Jq rfl rfl (Jc (v := .int .i64 x5) rfl) ?_
     have h_t30 := Qq H15
     have H16 := Qb H15
     refine Jq rfl rfl (r_quoG rfl rfl h_t30) ?_
     refine Jq rfl rfl (Y6 (pl := #[(0, 1), (1, 1)]) (ps := [(0, .int .i64 (val (gQuo a0.Num x5))), (1, .int .i64 (val (gQuo a0.Den x5)))]) (cells := #[.int .i64 (val (gQuo a0.Num x5)), .int .i64 (val (gQuo a0.Den x5))]) Try.zeroValue103 Try.runUnderlying103 (fun w => by kernel_rfl) rfl rfl) ?_
     refine d_store (i := 1) (vs := [.int .i64 (val (gQuo a0.Num x5)), .int .i64 (val (gQuo a0.Den x5))]) (cs' := [.int .i64 (val (gQuo a0.Num x5)), .int .i64 (val (gQuo a0.Den x5))]) Try.sizeOf103 rfl rfl rfl rfl rfl rfl rfl rfl rfl ?_
     refine Jq rfl rfl (Jd (v := .int .i64 0) rfl) ?_
     refine Wf ?_
     refine J0 ?_
     obtain rfl := Option.some.inj H16
     refine retCt (i := 1) (vs := [.int .i64 (val (gQuo a0.Num x5)), .int .i64 (val (gQuo a0.Den x5))]) (v2 := .int .i64 0) Try.isAgg103 Try.sizeOf103 rfl rfl rfl rfl rfl (Zr rfl)
     ) (by kernel_rfl)
   ) (by kernel_rfl)
theorem k23 {r : Bool} (H : Uh = some r) : Ret Try.prog 23 [] (.bool r) := by
 refine Vp (n := 15) Try.func23 rfl rfl rfl (fun wd => ?_)
 refine Jf ?_
 refine Jb ?_
 refine Ja rfl rfl rfl (Jd (v := .bool false) rfl) ?_
 refine Jg ?_
 refine Jf ?_
 refine Jb ?_
 refine Ja rfl rfl rfl (Y6 (pl := #[(0, 1), (1, 1)]) (ps := [(0, .int .i64 2), (1, .int .i64 4)]) (cells := #[.int .i64 2, .int .i64 4]) Try.zeroValue103 Try.runUnderlying103 (fun w => by kernel_rfl) rfl rfl) ?_
 obtain ⟨t5, h_t5, H4⟩ := Jh H; clear H
 refine Z8 (k69 h_t5) Try.call69 rfl rfl rfl ?_
 refine Ja rfl rfl rfl (Jc (v := .tuple #[.agg #[.int .i64 t5.1.Num, .int .i64 t5.1.Den], .int .i64 t5.2]) rfl) ?_
 refine Ja rfl rfl rfl (Xa (v := .agg #[.int .i64 t5.1.Num, .int .i64 t5.1.Den]) rfl rfl) ?_
 refine Ja rfl rfl rfl (Xa (v := .int .i64 t5.2) rfl rfl) ?_
 refine Zf (cs := [.int .i64 0, .int .i64 0]) Try.zeroValue103 rfl rfl rfl (fun b1 => ?_)
 refine Qx (i := 0) (vs := [.int .i64 t5.1.Num, .int .i64 t5.1.Den]) (cs' := [.int .i64 t5.1.Num, .int .i64 t5.1.Den]) Try.sizeOf103 rfl rfl rfl rfl rfl rfl rfl rfl rfl ?_
 refine Ja rfl rfl rfl (Jd (v := .int .i64 t5.2) rfl) ?_
 refine Jg ?_
 refine Jf ?_
 refine Jb ?_
 refine Ja rfl rfl rfl (Jc (v := .int .i64 t5.2) rfl) ?_
 refine Ja rfl rfl rfl (Xq rfl rfl) ?_
 refine Ja rfl rfl rfl (Jc (v := .bool (decide (t5.2 = 0))) rfl) ?_
 refine split (fun hb => ?_) (fun hb => ?_)
 ·have H5 := Js hb H4; clear H4
  refine Vx (i := 0) (vs := [.int .i64 t5.1.Num, .int .i64 t5.1.Den]) Try.isAgg103 Try.sizeOf103 rfl rfl rfl rfl rfl ?_
  refine Ja rfl rfl rfl (Y6 (pl := #[(0, 1), (1, 1)]) (ps := [(0, .int .i64 1), (1, .int .i64 2)]) (cells := #[.int .i64 1, .int .i64 2]) Try.zeroValue103 Try.runUnderlying103 (fun w => by kernel_rfl) rfl rfl) ?_
  refine Ja rfl rfl rfl (r_eqlA (xs := #[.int .i64 t5.1.Num, .int .i64 t5.1.Den]) (ys := #[.int .i64 1, .int .i64 2]) Try.eqGuardType103 (fun w => run_eq_tag_Ratio w t5.1 (⟨1, 2⟩ : T_tag_Ratio)) rfl rfl) ?_
  refine Ja rfl rfl rfl (Q5 (v := .bool (W6 t5.1 (⟨1, 2⟩ : T_tag_Ratio))) rfl rfl) ?_
  refine Ja rfl rfl rfl (Jd (v := .bool (W6 t5.1 (⟨1, 2⟩ : T_tag_Ratio))) rfl) ?_
  refine Jg ?_
  refine J0 ?_
  obtain rfl := Option.some.inj H5
  refine Q2 (v := .bool (W6 t5.1 (⟨1, 2⟩ : T_tag_Ratio))) rfl rfl (Zr rfl)
 ·have H6 := Jt hb H4; clear H4
  refine Jk rfl rfl rfl ?_
  refine Jk rfl rfl rfl ?_
  refine Jk rfl rfl rfl ?_
  refine Ja rfl rfl rfl (Xg (v := .bool false) rfl rfl) ?_
  refine Ja rfl rfl rfl (Jd (v := .bool false) rfl) ?_
  refine Jg ?_
  refine J0 ?_
  obtain rfl := Option.some.inj H6
  refine Q2 (v := .bool false) rfl rfl (Zr rfl)
theorem k73 {a : Option Addr} {n c : Nat} (hc : n ≤ c) : Ret Try.prog 73 [.slice a n c] (.slice (Vg a 0 n 2) n n) := by
  refine Vp (n := 9) Try.func73 rfl rfl rfl (fun wd => ?_)
  refine Jf ?_
  refine Jb ?_
  refine Ja rfl rfl rfl (Jd (v := .slice none 0 0) rfl) ?_
  refine Jg ?_
  refine Jf ?_
  refine Jb ?_
  refine Ja rfl rfl rfl (Jc (v := .slice a n c) rfl) ?_
  refine Ja rfl rfl rfl (Jc (v := .slice a n c) rfl) ?_
  refine Ja rfl rfl rfl (r_len Try.underlying57 rfl) ?_
  refine Ja rfl rfl rfl (Jc (v := .slice a n c) rfl) ?_
  refine Ja rfl rfl rfl (r_len Try.underlying57 rfl) ?_
  refine Ja rfl rfl rfl (r_sliceHM (a := a) (m := n) (c := c) (h := (n : Int)) (q := (n : Int)) Try.underlying57 Try.sizeOf62 rfl rfl rfl (Int.natCast_nonneg n) (Int.le_refl _) (Int.ofNat_le.2 hc)) ?_
  refine Ja rfl rfl rfl (Jd (v := .slice (Vg a 0 n 2) n n) rfl) ?_
  refine Jg ?_
  refine J0 ?_
  exact Q2 (v := .slice (Vg a 0 n 2) n n) rfl rfl (Zr rfl)
theorem k25 {a0 : (List UInt8)} {r : (List T_tag_Span) × Int} {w : World} {h : J6} (hw : Know h w Wg) (H : Um a0 = some r) : Does Try.prog 25 (List.toArray [str a0]) w (fun v w' => ∃ x : (Option Addr × Nat), v = (.tuple #[.slice x.1 r.1.length x.2, .int .i64 r.2]) ∧ Turn w w' Wg (rowO 62 2 (.slice x.1 r.1.length x.2) r.1.length (r.1.map Ji))) := by
 refine enter (n := 52) Try.func25 rfl rfl rfl Wg [] (Sat.nil _ _) ?_
 refine Wb Vt ?_
 refine Jf ?_
 refine Jb ?_
 refine Ja rfl rfl rfl (Jd (v := .slice none 0 0) rfl) ?_
 refine Ja rfl rfl rfl (Jd (v := .int .i64 0) rfl) ?_
 refine Jg ?_
 refine Jf ?_
 refine Jb ?_
 refine Ja rfl rfl rfl (Jc (v := str a0) rfl) ?_
 obtain ⟨t13, h_t13, H33⟩ := Jh H; clear H
 refine Wl (Xv (rds := []) (G := fun x : (Option Addr × Nat) × (Option Addr × Nat) => .tuple #[.agg #[.bool t13.1.Big, .slice x.1.1 t13.1.Dirs.length x.1.2], .slice x.2.1 t13.2.1.length x.2.2, .int .i64 t13.2.2]) (C := fun x : (Option Addr × Nat) × (Option Addr × Nat) => Jy (rowD 27 1 gs_tag_Entry (.slice x.1.1 t13.1.Dirs.length x.1.2) t13.1.Dirs.length t13.1.Dirs) (Jw 62 2 (.slice x.2.1 t13.2.1.length x.2.2) t13.2.1.length (t13.2.1.map Ji))) (fun w L' hF hS hi => k71 (J3 w)  h_t13) Try.call71 rfl) rfl rfl rfl (fun ⟨p, p_2⟩ => ?_)
 refine X3 1 rfl ?_
 refine c_rowD 1 rfl (fun hp css hn pf => ?_)
 rw [hn]
 refine X3 1 rfl ?_
 refine c_poolJoin 0 1 rfl rfl (by decide) (fun _ _ => noH_le) (fun hp_2 hle hle_2 => ?_)
 refine Ja rfl rfl rfl (Jc (v := .tuple #[.agg #[.bool t13.1.Big, .slice p.1 css.length p.2], .slice p_2.1 t13.2.1.length p_2.2, .int .i64 t13.2.2]) rfl) ?_
 refine Ja rfl rfl rfl (Xa (v := .agg #[.bool t13.1.Big, .slice p.1 css.length p.2]) rfl rfl) ?_
 refine Ja rfl rfl rfl (Xa (v := .slice p_2.1 t13.2.1.length p_2.2) rfl rfl) ?_
 refine Ja rfl rfl rfl (Xa (v := .int .i64 t13.2.2) rfl rfl) ?_
 refine Zf (cs := [.bool false, .slice none 0 0]) Try.zeroValue24 rfl rfl rfl (fun b8 => ?_)
 refine Qx (i := 4) (vs := [.bool t13.1.Big, .slice p.1 css.length p.2]) (cs' := [.bool t13.1.Big, .slice p.1 css.length p.2]) Try.sizeOf24 rfl rfl rfl rfl rfl rfl rfl rfl rfl ?_
 refine Ja rfl rfl rfl (Jd (v := .slice p_2.1 t13.2.1.length p_2.2) rfl) ?_
 refine Ja rfl rfl rfl (Jd (v := .int .i64 t13.2.2) rfl) ?_
 refine Jg ?_
 try dsimp only [z1, z2, z5, z6, z7, z8]
 refine Jf ?_
 refine Jf ?_
 refine Jb ?_
 refine Ja rfl rfl rfl (Jc (v := .int .i64 t13.2.2) rfl) ?_
 refine Ja rfl rfl rfl (V3 rfl rfl) ?_
 refine Jg ?_
 try dsimp only [z1, z2, z5, z6, z7, z8]
 refine Qf (b := (decide (t13.2.2 ≠ 0))) rfl (fun hb => ?_) (fun hb => ?_)
 ·have H34 := Js hb H33; clear H33
  refine Jf ?_
  refine Jb ?_
  refine Ja rfl rfl rfl (Jc (v := .int .i64 t13.2.2) rfl) ?_
  refine Ja rfl rfl rfl (Jd (v := .slice none 0 0) rfl) ?_
  refine Ja rfl rfl rfl (Jd (v := .int .i64 t13.2.2) rfl) ?_
  refine Jg ?_
  try dsimp only [z1, z2, z5, z6, z7, z8]
  refine J0 ?_
  refine Ql 62 2 ?_
  obtain rfl := Option.some.inj H34
  refine V5 5 rfl (imp_rowO _ _ _ _ _) ?_
  refine ret2 (v1 := .slice ((none, 0) : Option Addr × Nat).1 ([] : List T_tag_Span).length ((none, 0) : Option Addr × Nat).2) (v2 := .int .i64 t13.2.2) rfl rfl rfl (Wm ((none, 0) : Option Addr × Nat) (i := 5) rfl rfl (Imp.refl _))
 ·have H35 := Jt hb H33; clear H33
  refine Ju ?_
  refine Jf ?_
  refine Jb ?_
  refine Ja rfl rfl rfl (Y6 (pl := #[(0, 1), (1, 1)]) (ps := [(0, .int .i64 0), (1, .int .i64 8)]) (cells := #[.int .i64 0, .int .i64 8]) Try.zeroValue62 Try.runUnderlying62 (fun w => by kernel_rfl) rfl rfl) ?_
  refine Qr (vs := [.agg #[.int .i64 0, .int .i64 8]]) (cs := [.int .i64 0, .int .i64 8]) Try.underlying57 Try.sizeOf62 Try.zeroValue62 rfl rfl rfl rfl rfl rfl rfl (fun b9 => ?_)
  refine Ja rfl rfl rfl (Jd (v := .slice (some ⟨b9, 0, none⟩) 1 1) rfl) ?_
  refine Jg ?_
  try dsimp only [z1, z2, z5, z6, z7, z8]
  refine Xb (r := r) (σ := (List T_tag_Span)) (τ := (Option Addr × Nat) × Nat) (fun s => tag_Used_j1 s) (fun s t => [(7, .slice t.1.1 t.2 t.1.2)]) (fun s t => [Zi Vt hp_2, Jw 62 2 (.slice t.1.1 t.2 t.1.2) t.2 (s.map Ji)]) (fun s t => t.2 = s.length) ?_ ?_
  ·refine Jf ?_
   refine Jb ?_
   refine Ja rfl rfl rfl (Jc (v := .slice p_2.1 t13.2.1.length p_2.2) rfl) ?_
   refine Ja rfl rfl rfl (r_len Try.underlying57 rfl) ?_
   refine Ja rfl rfl rfl (Jc (v := .int .i64 0) rfl) ?_
   refine Jg ?_
   try dsimp only [z1, z2, z5, z6, z7, z8]
   refine J1 ?_
   refine c_dr 4 <| c_dr 3 <| c_dr 1 ?_
   try dsimp only [z1, z2, z3, z4, z5, z6, z7, z8]
   refine V5 2 rfl (imp_box (m := 1) (E := 62) (sz := 2) (xs := (([(⟨0, 8⟩ : T_tag_Span)] : List T_tag_Span)).map Ji) rfl rfl rfl ⟨rfl, by decide⟩) ?_
   refine Z5 (σ := Int × (List T_tag_Span)) (τ := (Option Addr × Nat) × Nat) (fun next2 s => Yr t13 next2 s.1 s.2) (fun s t => [(7, .slice t.1.1 t.2 t.1.2), (22, .slice p_2.1 t13.2.1.length p_2.2), (23, .int .i64 (t13.2.1.length : Int)), (24, .int .i64 s.1)]) (fun s t => [Zi Vt hp_2, Jw 62 2 (.slice p_2.1 t13.2.1.length p_2.2) t13.2.1.length (t13.2.1.map Ji), Jw 62 2 (.slice t.1.1 t.2 t.1.2) t.2 (s.2.map Ji)]) (fun s t => t.2 = s.2.length) (0, ([(⟨0, 8⟩ : T_tag_Span)] : List T_tag_Span)) (((some ⟨b9, 0, none⟩, 1) : Option Addr × Nat), 1) [0, 1, 2] H35 (by exact rfl) (by exact ⟨rfl, rfl, rfl, rfl, trivial⟩) (by decide) rfl ?_
   rintro ⟨x24_2, l_3⟩ ⟨p_4, n_2⟩ m2 gg H37 hl_3
   clear H35
   replace H37 : Yr t13 (it (fun next2 s => Yr t13 next2 s.1 s.2) m2) x24_2 l_3 = some r := H37
   generalize hn2 : it (fun next2 s => Yr t13 next2 s.1 s.2) m2 = next2 at H37
   try dsimp only
   refine Jf ?_
   refine Jb ?_
   refine Ja rfl rfl rfl (Zn rfl rfl) ?_
   refine Jg ?_
   refine Jf ?_
   refine Qf (b := (decide (x24_2 < (t13.2.1.length : Int)))) rfl (fun hb => ?_) (fun hb => ?_)
   ·have H38 := Js hb H37; clear H37
    refine Ju ?_
    refine Xb (r := r) (σ := (List T_tag_Span)) (τ := (Option Addr × Nat) × Nat) (fun s => Wr x24_2 next2 s) (fun s t => [(7, .slice t.1.1 t.2 t.1.2), (22, .slice p_2.1 t13.2.1.length p_2.2), (23, .int .i64 (t13.2.1.length : Int)), (24, .int .i64 x24_2)]) (fun s t => [Zi Vt hp_2, Jw 62 2 (.slice p_2.1 t13.2.1.length p_2.2) t13.2.1.length (t13.2.1.map Ji), Jw 62 2 (.slice t.1.1 t.2 t.1.2) t.2 (s.map Ji)]) (fun s t => t.2 = s.length) ?_ ?_
    ·refine J1 ?_
     refine Jf ?_
     refine Jb ?_
     obtain ⟨t26, h_t26, H41⟩ := Jh H38; clear H38
     refine Yg (fun w hF hS => Wp Try.underlying57 Try.sizeOf62 rfl rfl (V2 (i := 1) hS rfl) rfl h_t26) rfl rfl rfl ?_
     refine Yg (fun w hF hS => Z2 (f := Ji) (i := x24_2) (sz := 2) (j := 0) (vs := [.int .i64 t26.From, .int .i64 t26.To]) Try.isAgg62 Try.sizeOf62 rfl rfl (V2 (i := 1) hS rfl) h_t26 rfl) rfl rfl rfl ?_
     refine Zf (cs := [.int .i64 0, .int .i64 0]) Try.zeroValue62 rfl rfl rfl (fun b10 => ?_)
     refine Qx (i := 3) (vs := [.int .i64 t26.From, .int .i64 t26.To]) (cs' := [.int .i64 t26.From, .int .i64 t26.To]) Try.sizeOf62 rfl rfl rfl rfl rfl rfl rfl rfl rfl ?_
     refine Jg ?_
     refine Jf ?_
     refine Jb ?_
     refine Ja rfl rfl rfl (Jc (v := .slice p_4.1 n_2 p_4.2) rfl) ?_
     refine Ja rfl rfl rfl (Jc (v := .slice p_4.1 n_2 p_4.2) rfl) ?_
     refine Ja rfl rfl rfl (r_lenN Try.underlying57 rfl hl_3) ?_
     obtain ⟨t31, h_t31, H42⟩ := Jh H41; clear H41
     refine Ja rfl rfl rfl (Uf rfl rfl h_t31) ?_
     obtain ⟨t32, h_t32, H43⟩ := Jh H42; clear H42
     refine Yg (fun w hF hS => Wp Try.underlying57 Try.sizeOf62 rfl rfl (V2 (i := 2) hS rfl) hl_3 h_t32) rfl rfl rfl ?_
     refine Ja rfl rfl rfl (Jd (v := _) rfl) ?_
     refine Jg ?_
     refine Jf ?_
     exact Xr (Kd.p :: Kd.d [2] _ :: Kd.d [2] _ :: Kd.d [2] _ :: Kd.p :: Kd.d [3] _ :: Kd.p :: []) 0 mixed (by
      refine Jq rfl rfl (Jc (v := _) rfl) ?_
      refine d_readE rfl rfl (fun w L' hF hS hi => run_nilG rfl (V2 (i := 2) (E := 62) (sz := 2) (n := n_2) (a := p_4.1) (c := p_4.2) hS ((hi 2 (by simp)).trans rfl)) h_t32) ?_
      refine d_readE rfl rfl (fun w L' hF hS hi => run_fieldG Try.runUnderlying62 rfl Try.sizeOf3 rfl rfl (V2 (i := 2) (E := 62) (sz := 2) (n := n_2) (a := p_4.1) (c := p_4.2) hS ((hi 2 (by simp)).trans rfl)) h_t32) ?_
      refine d_readD (fun w L' hF hS hi => Yu (f := Ji) (i := t31) (sz := 2) (j := 1) (v := .int .i64 t32.To) Try.isAgg3 rfl rfl (V2 (i := 2) (E := 62) (sz := 2) (n := n_2) (a := p_4.1) (c := p_4.2) hS ((hi 2 (by simp)).trans rfl)) h_t32 rfl) rfl rfl ?_
      refine Jq rfl rfl (Jl Try.runUnderlying62 rfl Try.sizeOf3 rfl rfl) ?_
      refine Ya (i := 3) (v := .int .i64 t26.From) Try.isAgg3 rfl rfl rfl rfl ?_
      refine Jq rfl rfl (Xq rfl rfl) ?_
      refine Wf ?_
      refine Qf (b := (decide (t32.To = t26.From))) rfl (fun hb => ?_) (fun hb => ?_)
      ·have H44 := Js hb H43; clear H43
       refine Jb ?_
       refine Ja rfl rfl rfl (Jc (v := _) rfl) ?_
       refine Ja rfl rfl rfl (Jl Try.runUnderlying62 rfl Try.sizeOf3 rfl rfl) ?_
       refine Jr (i := 3) (v := .int .i64 t26.To) Try.isAgg3 rfl rfl rfl rfl rfl ?_
       refine Yg (fun w hF hS => run_nilG rfl (V2 (i := 2) hS rfl) h_t32) rfl rfl rfl ?_
       refine c_know (fun w hF hS => someOf (i := 2) hS rfl h_t32) (fun hs => ?_)
       refine Ja rfl rfl rfl (r_fieldP Try.runUnderlying62 rfl Try.sizeOf3 rfl rfl hs) ?_
       obtain ⟨l2, h_l2, H45⟩ := Jh H44; clear H44
       refine l_storeG (q := 2) (j := 1) (i := t31) (sz := 2) (hm := hl_3) (f := Ji) (vs := [.int .i64 t26.To]) Try.sizeOf3 rfl rfl rfl rfl rfl rfl rfl rfl rfl (fun y_ hy_ => by first | rfl | (cases hy_.symm.trans h_t32; rfl)) h_l2 ?_
       refine Jg ?_
       refine Jo l2 (p_4, n_2) 0 [0, 1, 2] (by exact ⟨rfl, rfl, rfl, rfl, trivial⟩) (by decide) (by kernel_rfl) (by exact ⟨H45, (gSet_n hl_3 h_l2)⟩) (Nat.lt_succ_self _)
      ·have H46 := Jt hb H43; clear H43
       refine Jb ?_
       refine Ja rfl rfl rfl (Jc (v := .slice p_4.1 n_2 p_4.2) rfl) ?_
       refine Vx (i := 3) (vs := [.int .i64 t26.From, .int .i64 t26.To]) Try.isAgg62 Try.sizeOf62 rfl rfl rfl rfl rfl ?_
       refine Qr (vs := [.agg #[.int .i64 t26.From, .int .i64 t26.To]]) (cs := [.int .i64 t26.From, .int .i64 t26.To]) Try.underlying57 Try.sizeOf62 Try.zeroValue62 rfl rfl rfl rfl rfl rfl rfl (fun b11 => ?_)
       obtain ⟨l48, h_l48, H47⟩ := Jh H46; clear H46
       refine Qv (Xd (i := 2) (hn := hl_3) (rds := [4]) (p := p_4) (sz := 2) (by_ := 16) (f := Ji) (ys := l_3) (ls := ([t26] : List T_tag_Span)) (V := .slice (some ⟨b11, 0, none⟩) 1 1) Try.underlying57 (Xn Try.typeInfo62) rfl rfl rfl rfl rfl rfl rfl rfl rfl rfl (fun w L' hF hS hi => Vm (i := 4) hS ((hi 4 (by simp)).trans rfl) rfl rfl) (fun _ => rfl) (fun _ => rfl) h_l48) rfl rfl rfl (fun p_6 => ?_)
       refine Ja rfl rfl rfl (Jd (v := .slice p_6.1 l48.length p_6.2) rfl) ?_
       refine Jg ?_
       refine Jo l48 (p_6, l48.length) 0 [0, 1, 2] (by exact ⟨rfl, rfl, rfl, rfl, trivial⟩) (by decide) (by kernel_rfl) (by exact ⟨H47, rfl⟩) (Nat.lt_succ_self _)
      ) (by kernel_rfl)
    ·rintro l_4 ⟨p_5, n_3⟩ gg H39 hl_4
     replace H39 : Wr x24_2 next2 l_4 = some r := H39
     try dsimp only
     refine Jb ?_
     obtain ⟨t49, h_t49, H40⟩ := Jh H39; clear H39
     refine Ja rfl rfl rfl (Qd rfl rfl h_t49) ?_
     refine Ja rfl rfl rfl (Jc (v := .int .i64 t49) rfl) ?_
     refine Jg ?_
     refine Jo (t49, l_4) (p_5, n_3) m2 [0, 1, 2] (by exact ⟨rfl, rfl, rfl, rfl, trivial⟩) (by decide) (by kernel_rfl) (by exact ⟨(by subst hn2; exact H40), hl_4⟩) (Nat.lt_succ_self _)
   ·have H48 := Jt hb H37; clear H37
    refine Xy ?_
    refine Jo l_3 (p_4, n_2) 0 [0, 2] (by exact ⟨rfl, trivial⟩) (by decide) (by kernel_rfl) (by exact ⟨H48, hl_3⟩) (Nat.lt_succ_self _)
  ·rintro l ⟨p_3, n⟩ gg H36 hl
   replace H36 : tag_Used_j1 l = some r := H36
   try dsimp only
   refine Jf ?_
   refine Jb ?_
   refine Ja rfl rfl rfl (Jc (v := .slice p_3.1 n p_3.2) rfl) ?_
   refine Xt (fun w hF hS => k73 (capOf (i := 1) hS rfl) w) Try.call73 rfl rfl rfl ?_
   refine Ja rfl rfl rfl (Jd (v := .slice (Vg p_3.1 0 n 2) n n) rfl) ?_
   refine Ja rfl rfl rfl (Jd (v := .int .i64 0) rfl) ?_
   refine Jg ?_
   refine J0 ?_
   obtain rfl := Option.some.inj H36
   refine V5 1 rfl (imp_clipR _ _ _ _ _ _) ?_
   refine ret2 (v1 := .slice (Vg p_3.1 0 n 2) n n) (v2 := .int .i64 0) rfl rfl rfl (Wm (Vg p_3.1 0 n 2, n) (i := 1) rfl (by first | rfl | rw [(show n = l.length from hl)]) (by first | exact Imp.refl _ | exact Imp.of (by rw [(show n = l.length from hl)])))
theorem k26 {a0 : (List UInt8)} {r : (List T_tag_Span) × Int} {w : World} {h : J6} (hw : Know h w Wg) (H : tag_Holes a0 = some r) : Does Try.prog 26 (List.toArray [str a0]) w (fun v w' => ∃ x : (Option Addr × Nat), v = (.tuple #[.slice x.1 r.1.length x.2, .int .i64 r.2]) ∧ Turn w w' Wg (roV 2 (.slice x.1 r.1.length x.2) r.1.length (r.1.map Ji))) := by
 refine enter (n := 47) Try.func26 rfl rfl rfl Wg [] (Sat.nil _ _) ?_
 refine Jf ?_
 refine Jb ?_
 refine Ja rfl rfl rfl (Jd (v := .slice none 0 0) rfl) ?_
 refine Ja rfl rfl rfl (Jd (v := .int .i64 0) rfl) ?_
 refine Jg ?_
 refine Jf ?_
 refine Jb ?_
 refine Ja rfl rfl rfl (Jc (v := str a0) rfl) ?_
 obtain ⟨t12, h_t12, H29⟩ := Jh H; clear H
 refine Wl (Xv (rds := []) (G := fun x : (Option Addr × Nat) => .tuple #[.slice x.1 t12.1.length x.2, .int .i64 t12.2]) (C := fun x : (Option Addr × Nat) => rowO 62 2 (.slice x.1 t12.1.length x.2) t12.1.length (t12.1.map Ji)) (fun w L' hF hS hi => k25 (J3 w)  h_t12) Try.call25 rfl) rfl rfl rfl (fun p => ?_)
 refine Ja rfl rfl rfl (Jc (v := .tuple #[.slice p.1 t12.1.length p.2, .int .i64 t12.2]) rfl) ?_
 refine Ja rfl rfl rfl (Xa (v := .slice p.1 t12.1.length p.2) rfl rfl) ?_
 refine Ja rfl rfl rfl (Xa (v := .int .i64 t12.2) rfl rfl) ?_
 refine Ja rfl rfl rfl (Jd (v := .slice p.1 t12.1.length p.2) rfl) ?_
 refine Ja rfl rfl rfl (Jd (v := .int .i64 t12.2) rfl) ?_
 refine Jg ?_
 refine Jf ?_
 refine Jf ?_
 refine Jb ?_
 refine Ja rfl rfl rfl (Jc (v := .int .i64 t12.2) rfl) ?_
 refine Ja rfl rfl rfl (V3 rfl rfl) ?_
 refine Jg ?_
 refine Qf (b := (decide (t12.2 ≠ 0))) rfl (fun hb => ?_) (fun hb => ?_)
 ·have H30 := Js hb H29; clear H29
  refine Jf ?_
  refine Jb ?_
  refine Ja rfl rfl rfl (Jc (v := .int .i64 t12.2) rfl) ?_
  refine Ja rfl rfl rfl (Jd (v := .slice none 0 0) rfl) ?_
  refine Ja rfl rfl rfl (Jd (v := .int .i64 t12.2) rfl) ?_
  refine Jg ?_
  refine J0 ?_
  refine Ql 62 2 ?_
  obtain rfl := Option.some.inj H30
  refine V5 1 rfl (row_ro _ _ _ _ _) ?_
  refine ret2 (v1 := .slice ((none, 0) : Option Addr × Nat).1 ([] : List T_tag_Span).length ((none, 0) : Option Addr × Nat).2) (v2 := .int .i64 t12.2) rfl rfl rfl (Wm ((none, 0) : Option Addr × Nat) (i := 1) rfl rfl (Imp.refl _))
 ·have H31 := Jt hb H29; clear H29
  refine Ju ?_
  refine Jf ?_
  refine Jb ?_
  refine Ja rfl rfl rfl (Jd (v := .slice none 0 0) rfl) ?_
  refine Jg ?_
  refine Jf ?_
  refine Jb ?_
  refine Ja rfl rfl rfl (Jd (v := .int .i64 0) rfl) ?_
  refine Jg ?_
  refine Xb (r := r) (σ := (List T_tag_Span)) (τ := (Option Addr × Nat)) (fun s => Us s) (fun s t => [(6, .slice t.1 s.length t.2)]) (fun s t => [Jw 62 2 (.slice t.1 s.length t.2) s.length (s.map Ji)]) (fun s t => True) ?_ ?_
  ·refine Jf ?_
   refine Jb ?_
   refine Ja rfl rfl rfl (Jc (v := .slice p.1 t12.1.length p.2) rfl) ?_
   refine Ja rfl rfl rfl (Jc (v := str a0) rfl) ?_
   refine Ja rfl rfl rfl (Ue Try.underlying9 rfl) ?_
   refine Ja rfl rfl rfl (Jc (v := str a0) rfl) ?_
   refine Ja rfl rfl rfl (Ue Try.underlying9 rfl) ?_
   refine Ja rfl rfl rfl (Y6 (pl := #[(0, 1), (1, 1)]) (ps := [(0, .int .i64 (a0.length : Int)), (1, .int .i64 (a0.length : Int))]) (cells := #[.int .i64 (a0.length : Int), .int .i64 (a0.length : Int)]) Try.zeroValue62 Try.runUnderlying62 (fun w => by kernel_rfl) rfl rfl) ?_
   refine Qr (vs := [.agg #[.int .i64 (a0.length : Int), .int .i64 (a0.length : Int)]]) (cs := [.int .i64 (a0.length : Int), .int .i64 (a0.length : Int)]) Try.underlying57 Try.sizeOf62 Try.zeroValue62 rfl rfl rfl rfl rfl rfl rfl (fun b6 => ?_)
   obtain ⟨l25, h_l25, H33⟩ := Jh H31; clear H31
   refine Qv (turns_appF (i := 0) (hn := rfl) (rds := [1]) (p := p) (sz := 2) (by_ := 16) (f := Ji) (ys := t12.1) (ls := ([(⟨(a0.length : Int), (a0.length : Int)⟩ : T_tag_Span)] : List T_tag_Span)) (V := .slice (some ⟨b6, 0, none⟩) 1 1) Try.underlying57 (Xn Try.typeInfo62) rfl rfl rfl rfl rfl rfl rfl rfl rfl rfl (fun w L' hF hS hi => Vm (i := 1) hS ((hi 1 (by simp)).trans rfl) rfl rfl) (fun _ => rfl) (fun _ => rfl) h_l25) rfl rfl rfl (fun p_3 => ?_)
   refine Ja rfl rfl rfl (r_len Try.underlying57 rfl) ?_
   refine Ja rfl rfl rfl (Jc (v := .int .i64 0) rfl) ?_
   refine Jg ?_
   refine J1 ?_
   refine c_dr 1 ?_
   try dsimp only [z1, z2, z3, z4, z5, z6, z7, z8]
   refine Ql 62 2 ?_
   refine Z5 (σ := Int × Int × (List T_tag_Span)) (τ := (Option Addr × Nat)) (fun next2 s => Y1 l25 next2 s.1 s.2.1 s.2.2) (fun s t => [(6, .slice t.1 s.2.2.length t.2), (7, .int .i64 s.1), (25, .slice p_3.1 l25.length p_3.2), (26, .int .i64 (l25.length : Int)), (27, .int .i64 s.2.1)]) (fun s t => [rowO 62 2 (.slice p_3.1 l25.length p_3.2) l25.length (l25.map Ji), Jw 62 2 (.slice t.1 s.2.2.length t.2) s.2.2.length (s.2.2.map Ji)]) (fun s t => True) (0, 0, ([] : List T_tag_Span)) ((none, 0) : Option Addr × Nat) [0, 1] H33 (by exact trivial) (by exact ⟨rfl, rfl, rfl, rfl, rfl, trivial⟩) (by decide) rfl ?_
   rintro ⟨x7_2, x27_2, l_3⟩ p_4 m2 gg H34 _
   clear H33
   replace H34 : Y1 l25 (it (fun next2 s => Y1 l25 next2 s.1 s.2.1 s.2.2) m2) x7_2 x27_2 l_3 = some r := H34
   generalize hn2 : it (fun next2 s => Y1 l25 next2 s.1 s.2.1 s.2.2) m2 = next2 at H34
   try dsimp only
   refine Jf ?_
   refine Jb ?_
   refine Ja rfl rfl rfl (Zn rfl rfl) ?_
   refine Jg ?_
   refine Jf ?_
   refine Qf (b := (decide (x27_2 < (l25.length : Int)))) rfl (fun hb => ?_) (fun hb => ?_)
   ·have H35 := Js hb H34; clear H34
    refine Ju ?_
    refine Jf ?_
    refine J1 ?_
    refine Jf ?_
    refine Jb ?_
    obtain ⟨t29, h_t29, H36⟩ := Jh H35; clear H35
    refine Yg (fun w hF hS => Wp Try.underlying57 Try.sizeOf62 rfl rfl (offOf (i := 0) hS rfl) rfl h_t29) rfl rfl rfl ?_
    refine Yg (fun w hF hS => Z2 (f := Ji) (i := x27_2) (sz := 2) (j := 0) (vs := [.int .i64 t29.From, .int .i64 t29.To]) Try.isAgg62 Try.sizeOf62 rfl rfl (offOf (i := 0) hS rfl) h_t29 rfl) rfl rfl rfl ?_
    refine Zf (cs := [.int .i64 0, .int .i64 0]) Try.zeroValue62 rfl rfl rfl (fun b7 => ?_)
    refine Qx (i := 2) (vs := [.int .i64 t29.From, .int .i64 t29.To]) (cs' := [.int .i64 t29.From, .int .i64 t29.To]) Try.sizeOf62 rfl rfl rfl rfl rfl rfl rfl rfl rfl ?_
    refine Jg ?_
    refine Xb (r := r) (σ := (List T_tag_Span)) (τ := (Option Addr × Nat)) (fun s => Wy x27_2 next2 t29 s) (fun s t => [(6, .slice t.1 s.length t.2), (9, .pointer (some ⟨b7, 0, none⟩)), (25, .slice p_3.1 l25.length p_3.2), (26, .int .i64 (l25.length : Int)), (27, .int .i64 x27_2)]) (fun s t => [rowO 62 2 (.slice p_3.1 l25.length p_3.2) l25.length (l25.map Ji), Jw 62 2 (.slice t.1 s.length t.2) s.length (s.map Ji), Jm b7 [.int .i64 t29.From, .int .i64 t29.To] 62]) (fun s t => True) ?_ ?_
    ·refine Jf ?_
     refine Jb ?_
     refine Ja rfl rfl rfl (Jl Try.runUnderlying62 rfl Try.sizeOf3 rfl rfl) ?_
     refine Jr (i := 2) (v := .int .i64 t29.From) Try.isAgg3 rfl rfl rfl rfl rfl ?_
     refine Ja rfl rfl rfl (Jc (v := .int .i64 x7_2) rfl) ?_
     refine Ja rfl rfl rfl (Wq rfl rfl) ?_
     refine Jg ?_
     refine Qf (b := (decide (x7_2 < t29.From))) rfl (fun hb => ?_) (fun hb => ?_)
     ·have H39 := Js hb H36; clear H36
      refine Jb ?_
      refine Ja rfl rfl rfl (Jc (v := .slice p_4.1 l_3.length p_4.2) rfl) ?_
      refine Ja rfl rfl rfl (Jc (v := .int .i64 x7_2) rfl) ?_
      refine Ja rfl rfl rfl (Jl Try.runUnderlying62 rfl Try.sizeOf3 rfl rfl) ?_
      refine Jr (i := 2) (v := .int .i64 t29.From) Try.isAgg3 rfl rfl rfl rfl rfl ?_
      refine Ja rfl rfl rfl (Y6 (pl := #[(0, 1), (1, 1)]) (ps := [(0, .int .i64 x7_2), (1, .int .i64 t29.From)]) (cells := #[.int .i64 x7_2, .int .i64 t29.From]) Try.zeroValue62 Try.runUnderlying62 (fun w => by kernel_rfl) rfl rfl) ?_
      refine Qr (vs := [.agg #[.int .i64 x7_2, .int .i64 t29.From]]) (cs := [.int .i64 x7_2, .int .i64 t29.From]) Try.underlying57 Try.sizeOf62 Try.zeroValue62 rfl rfl rfl rfl rfl rfl rfl (fun b8 => ?_)
      obtain ⟨l41, h_l41, H40⟩ := Jh H39; clear H39
      refine Qv (Xd (i := 1) (hn := rfl) (rds := [3]) (p := p_4) (sz := 2) (by_ := 16) (f := Ji) (ys := l_3) (ls := ([(⟨x7_2, t29.From⟩ : T_tag_Span)] : List T_tag_Span)) (V := .slice (some ⟨b8, 0, none⟩) 1 1) Try.underlying57 (Xn Try.typeInfo62) rfl rfl rfl rfl rfl rfl rfl rfl rfl rfl (fun w L' hF hS hi => Vm (i := 3) hS ((hi 3 (by simp)).trans rfl) rfl rfl) (fun _ => rfl) (fun _ => rfl) h_l41) rfl rfl rfl (fun p_6 => ?_)
      refine Ja rfl rfl rfl (Jd (v := .slice p_6.1 l41.length p_6.2) rfl) ?_
      refine Jg ?_
      refine Jo l41 p_6 0 [0, 1, 2] (by exact ⟨rfl, rfl, rfl, rfl, rfl, trivial⟩) (by decide) (by kernel_rfl) (by exact ⟨H40, trivial⟩) (Nat.lt_succ_self _)
     ·have H41 := Jt hb H36; clear H36
      refine Ju ?_
      refine Jo l_3 p_4 0 [0, 1, 2] (by exact ⟨rfl, rfl, rfl, rfl, rfl, trivial⟩) (by decide) (by kernel_rfl) (by exact ⟨H41, trivial⟩) (Nat.lt_succ_self _)
    ·rintro l_4 p_5 gg H37 _
     replace H37 : Wy x27_2 next2 t29 l_4 = some r := H37
     try dsimp only
     refine Jb ?_
     refine Ja rfl rfl rfl (Jl Try.runUnderlying62 rfl Try.sizeOf3 rfl rfl) ?_
     refine Jr (i := 2) (v := .int .i64 t29.To) Try.isAgg3 rfl rfl rfl rfl rfl ?_
     refine Ja rfl rfl rfl (Jd (v := .int .i64 t29.To) rfl) ?_
     refine Jg ?_
     refine Jb ?_
     obtain ⟨t44, h_t44, H38⟩ := Jh H37; clear H37
     refine Ja rfl rfl rfl (Qd rfl rfl h_t44) ?_
     refine Ja rfl rfl rfl (Jc (v := .int .i64 t44) rfl) ?_
     refine Jg ?_
     refine Jo (t29.To, t44, l_4) p_5 m2 [0, 1] (by exact ⟨rfl, rfl, rfl, rfl, rfl, trivial⟩) (by decide) (by kernel_rfl) (by exact ⟨(by subst hn2; exact H38), trivial⟩) (Nat.lt_succ_self _)
   ·have H42 := Jt hb H34; clear H34
    refine Xy ?_
    refine Jo l_3 p_4 0 [1] (by exact ⟨rfl, trivial⟩) (by decide) (by kernel_rfl) (by exact ⟨H42, trivial⟩) (Nat.lt_succ_self _)
  ·rintro l p_2 gg H32 _
   replace H32 : Us l = some r := H32
   try dsimp only
   refine Jf ?_
   refine Jb ?_
   refine Ja rfl rfl rfl (Jc (v := .slice p_2.1 l.length p_2.2) rfl) ?_
   refine Xt (fun w hF hS => k73 (capOf (i := 0) hS rfl) w) Try.call73 rfl rfl rfl ?_
   refine Ja rfl rfl rfl (Jd (v := .slice (Vg p_2.1 0 l.length 2) l.length l.length) rfl) ?_
   refine Ja rfl rfl rfl (Jd (v := .int .i64 0) rfl) ?_
   refine Jg ?_
   refine J0 ?_
   obtain rfl := Option.some.inj H32
   refine V5 0 rfl (imp_clipO _ _ _ _ _ _) ?_
   refine ret2 (v1 := .slice (Vg p_2.1 0 l.length 2) l.length l.length) (v2 := .int .i64 0) rfl rfl rfl (Wm (Vg p_2.1 0 l.length 2, l.length) (i := 0) rfl rfl (Imp.refl _))
theorem k74 {n : Int} {u : Nat} (hg : gGroC 16 n = some u) (w : World) : Does Try.prog 74 (List.toArray [.slice none 0 0, .int .i64 n]) w (fun v w' => ∃ p : Option Addr × Nat, v = .slice p.1 0 p.2 ∧ Turn w w' Wg (rowC 62 2 (.slice p.1 0 p.2) 0 [] u)) := by
  obtain ⟨rfl, h0, h1, h2⟩ := gGroC_some hg
  obtain ⟨m, rfl⟩ : ∃ m : Nat, n = (m : Int) := ⟨n.toNat, (Int.toNat_of_nonneg h0).symm⟩
  rw [Int.toNat_natCast] at h2 ⊢
  refine enter (n := 27) Try.func74 rfl rfl rfl Wg [] (Sat.nil _ _) ?_
  refine Jf ?_
  refine Jb ?_
  refine Ja rfl rfl rfl (Jd (v := .slice none 0 0) rfl) ?_
  refine Jg ?_
  refine Jf ?_
  refine Jf ?_
  refine Jb ?_
  refine Ja rfl rfl rfl (Jc (v := .int .i64 (m : Int)) rfl) ?_
  refine Ja rfl rfl rfl (r_decF (Zn rfl rfl) (by omega)) ?_
  refine Jg ?_
  refine W0 rfl ?_
  refine Ju ?_
  refine Jf ?_
  refine Jf ?_
  refine Jb ?_
  refine Ja rfl rfl rfl (Jc (v := .int .i64 (m : Int)) rfl) ?_
  refine Ja rfl rfl rfl (Jc (v := .slice none 0 0) rfl) ?_
  refine Ja rfl rfl rfl (r_cap (c := 0) Try.underlying57 rfl) ?_
  refine Ja rfl rfl rfl (Jc (v := .slice none 0 0) rfl) ?_
  refine Ja rfl rfl rfl (r_len (m := 0) Try.underlying57 rfl) ?_
  refine Ja rfl rfl rfl (Uf (z := 0) rfl rfl (by decide)) ?_
  refine Ja rfl rfl rfl (Uf (z := (m : Int)) rfl rfl (by rw [Int.sub_zero]; exact J4 (by omega))) ?_
  refine Ja rfl rfl rfl (Jd (v := .int .i64 (m : Int)) rfl) ?_
  refine Jg ?_
  refine Jf ?_
  refine Jb ?_
  refine Ja rfl rfl rfl (Jc (v := .int .i64 (m : Int)) rfl) ?_
  rcases Nat.eq_zero_or_pos m with hm | hm
  · refine Ja rfl rfl rfl (r_decF (Wq rfl rfl) (by omega)) ?_
    refine Jg ?_
    refine W0 rfl ?_
    refine Ju ?_
    refine Jf ?_
    refine Jb ?_
    refine Ja rfl rfl rfl (Jc (v := .slice none 0 0) rfl) ?_
    refine Ja rfl rfl rfl (Jd (v := .slice none 0 0) rfl) ?_
    refine Jg ?_
    refine J0 ?_
    subst hm
    refine Ql 62 2 ?_
    refine V5 0 rfl (imp_C0 62 2 _) ?_
    exact Q2 (v := .slice none 0 0) rfl rfl (Wm ((none, 0) : Option Addr × Nat) (i := 0) rfl rfl (Imp.refl _))
  · refine Ja rfl rfl rfl (r_decT (Wq rfl rfl) (by omega)) ?_
    refine Jg ?_
    refine c_true rfl ?_
    refine Jb ?_
    refine Ja rfl rfl rfl (Jc (v := .slice none 0 0) rfl) ?_
    refine Ja rfl rfl rfl (Jc (v := .slice none 0 0) rfl) ?_
    refine Ja rfl rfl rfl (r_cap (c := 0) Try.underlying57 rfl) ?_
    refine Ja rfl rfl rfl (r_sliceH (a := none) (m := 0) (c := 0) (h := 0) Try.underlying57 Try.sizeOf62 rfl rfl (by decide) (by decide)) ?_
    refine Ja rfl rfl rfl (Jc (v := .int .i64 (m : Int)) rfl) ?_
    refine Wl (rds := []) (makes_zerosC (E := 62) (sz := 2) (by_ := 16) (m := m) Try.underlying57 Try.underlying3 (Xn Try.typeInfo62) rfl rfl rfl rfl rfl rfl rfl hm (by omega) h2) rfl rfl rfl (fun ⟨g0, c0⟩ => ?_)
    refine Ja rfl rfl rfl (Jc (v := .slice none 0 0) rfl) ?_
    refine Ja rfl rfl rfl (r_len (m := 0) Try.underlying57 rfl) ?_
    refine Ja rfl rfl rfl (r_sliceH0 (g0 := g0) (c := c0) Try.underlying57 Try.sizeOf62 rfl rfl) ?_
    refine Ja rfl rfl rfl (Jd (v := .slice (some ⟨g0, 0, none⟩) 0 c0) rfl) ?_
    refine Jg ?_
    refine Jf ?_
    refine Jb ?_
    refine Ja rfl rfl rfl (Jc (v := .slice (some ⟨g0, 0, none⟩) 0 c0) rfl) ?_
    refine Ja rfl rfl rfl (Jd (v := .slice (some ⟨g0, 0, none⟩) 0 c0) rfl) ?_
    refine Jg ?_
    refine J0 ?_
    exact Q2 (v := .slice (some ⟨g0, 0, none⟩) 0 c0) rfl rfl (Wm ((some ⟨g0, 0, none⟩, c0) : Option Addr × Nat) (i := 0) rfl rfl (Imp.refl _))
theorem k27 {a0 : (List (List T_tag_Span))} {v0 : Value} {r : (List T_tag_Span)} {w : World} {h : J6} (hw : Know h w Wg) (f0 : FrN h 1 v0 gs_tag_Span a0) (H : Ze a0 = some r) : Does Try.prog 27 (List.toArray [v0]) w (fun v w' => ∃ x : (Option Addr × Nat), v = (.slice x.1 r.length x.2) ∧ Turn w w' Wg (Jw 62 2 (.slice x.1 r.length x.2) r.length (r.map Ji))) := by
 refine enter (n := 36) Try.func27 rfl rfl rfl Wg [] (Sat.nil _ _) ?_
 refine Jf ?_
 refine Jb ?_
 refine Ja rfl rfl rfl (Jd (v := .slice none 0 0) rfl) ?_
 refine Jg ?_
 refine Jf ?_
 refine Jb ?_
 refine Ja rfl rfl rfl (Jd (v := .int .i64 0) rfl) ?_
 refine Jg ?_
 refine Xb (r := r) (σ := Int) (τ := Unit) (fun s => Yt a0 s) (fun s t => [(0, v0), (3, .int .i64 s)]) (fun s t => []) (fun s t => True) ?_ ?_
 ·refine Jf ?_
  refine Jb ?_
  refine Ja rfl rfl rfl (Jc (v := v0) rfl) ?_
  refine Ja rfl rfl rfl (V1 Try.underlying124 rfl f0) ?_
  refine Ja rfl rfl rfl (Jc (v := .int .i64 0) rfl) ?_
  refine Jg ?_
  refine J1 ?_
  refine Z5 (σ := Int × Int) (τ := Unit) (fun next3 s => J9 a0 next3 s.1 s.2) (fun s t => [(0, v0), (3, .int .i64 s.1), (9, v0), (10, .int .i64 (a0.length : Int)), (11, .int .i64 s.2)]) (fun s t => []) (fun s t => True) (0, 0) () [] H (by exact trivial) (by exact ⟨rfl, rfl, rfl, rfl, rfl, trivial⟩) (by decide) rfl ?_
  rintro ⟨x3_3, x11_2⟩ _ m3 gg H25 _
  clear H
  replace H25 : J9 a0 (it (fun next3 s => J9 a0 next3 s.1 s.2) m3) x3_3 x11_2 = some r := H25
  generalize hn3 : it (fun next3 s => J9 a0 next3 s.1 s.2) m3 = next3 at H25
  try dsimp only
  refine Jf ?_
  refine Jb ?_
  refine Ja rfl rfl rfl (Zn rfl rfl) ?_
  refine Jg ?_
  refine Jf ?_
  refine Qf (b := (decide (x11_2 < (a0.length : Int)))) rfl (fun hb => ?_) (fun hb => ?_)
  ·have H26 := Js hb H25; clear H25
   refine Ju ?_
   refine Jf ?_
   refine J1 ?_
   refine Jf ?_
   refine Jb ?_
   obtain ⟨t13, h_t13, H27⟩ := Jh H26; clear H26
   refine Ja rfl rfl rfl (Zd Try.underlying124 Try.sizeOf57 rfl rfl f0.frs (f0.ix h_t13)) ?_
   refine Yg (fun w hF hS => Yu (f := (elC h v0 1)) (i := x11_2) (sz := 1) (j := 0) (v := (Xz h v0 1 (Int.toNat x11_2) 0)) Try.isAgg57 rfl rfl (f0.frs.row (hw.now hF)) (f0.ix h_t13) (rg_of (cgs_tag_Span (f0.at h_t13)) rfl)) rfl rfl rfl ?_
   refine Ja rfl rfl rfl (Jd (v := (Xz h v0 1 (Int.toNat x11_2) 0)) rfl) ?_
   refine Jg ?_
   refine Jf ?_
   refine Jb ?_
   refine Ja rfl rfl rfl (Jc (v := .int .i64 x3_3) rfl) ?_
   refine Ja rfl rfl rfl (Jc (v := (Xz h v0 1 (Int.toNat x11_2) 0)) rfl) ?_
   refine Ja rfl rfl rfl (r_lenF Try.underlying57 rfl (show FrS h 2 (Xz h v0 1 (Int.toNat x11_2) 0) (t13.map Ji) from (f0.at h_t13)) rfl) ?_
   obtain ⟨t18, h_t18, H28⟩ := Jh H27; clear H27
   refine Ja rfl rfl rfl (Qd rfl rfl h_t18) ?_
   refine Ja rfl rfl rfl (Jd (v := .int .i64 t18) rfl) ?_
   refine Jg ?_
   refine Jf ?_
   refine Jb ?_
   refine Ja rfl rfl rfl (Jc (v := .int .i64 t18) rfl) ?_
   refine Ja rfl rfl rfl (Zn rfl rfl) ?_
   refine Jg ?_
   refine Qf (b := (decide (t18 < 0))) rfl (fun hb => ?_) (fun hb => ?_)
   ·have H29 := Js hb H28; clear H28
    exact absurd (show (none : Option ((List T_tag_Span))) = some r from H29) (fun h => by cases h)
   ·have H30 := Jt hb H28; clear H28
    refine Ju ?_
    refine Jb ?_
    obtain ⟨t22, h_t22, H31⟩ := Jh H30; clear H30
    refine Ja rfl rfl rfl (Qd rfl rfl h_t22) ?_
    refine Ja rfl rfl rfl (Jc (v := .int .i64 t22) rfl) ?_
    refine Jg ?_
    refine Jo (t18, t22) () m3 [] (by exact ⟨rfl, rfl, rfl, rfl, rfl, trivial⟩) (by decide) (by kernel_rfl) (by exact ⟨(by subst hn3; exact H31), trivial⟩) (Nat.lt_succ_self _)
  ·have H32 := Jt hb H25; clear H25
   refine Xy ?_
   refine Jo x3_3 () 0 [] (by exact ⟨rfl, rfl, trivial⟩) (by decide) (by kernel_rfl) (by exact ⟨H32, trivial⟩) (Nat.lt_succ_self _)
 ·rintro x3 _ gg H17 _
  replace H17 : Yt a0 x3 = some r := H17
  try dsimp only
  refine Jf ?_
  refine Jb ?_
  refine Ja rfl rfl rfl (Jc (v := .int .i64 x3) rfl) ?_
  obtain ⟨u24, h_u24, H18⟩ := Jh H17; clear H17
  refine Wl (Xv (rds := []) (G := fun x : (Option Addr × Nat) => .slice x.1 ([] : List T_tag_Span).length x.2) (C := fun x : (Option Addr × Nat) => rowC 62 2 (.slice x.1 ([] : List T_tag_Span).length x.2) ([] : List T_tag_Span).length (([] : List T_tag_Span).map Ji) u24) (fun w L' hF hS hi => k74 h_u24 w) Try.call74 rfl) rfl rfl rfl (fun p => ?_)
  refine Ja rfl rfl rfl (Jd (v := .slice p.1 ([] : List T_tag_Span).length p.2) rfl) ?_
  refine Jg ?_
  refine Jf ?_
  refine Jf ?_
  refine Jb ?_
  refine Ja rfl rfl rfl (Jc (v := v0) rfl) ?_
  refine Ja rfl rfl rfl (V1 Try.underlying124 rfl f0) ?_
  refine Ja rfl rfl rfl (Jc (v := .int .i64 0) rfl) ?_
  refine Jg ?_
  refine J1 ?_
  refine Z5 (σ := Int × (List T_tag_Span)) (τ := (Option Addr × Nat)) (fun next2 s => Qa a0 u24 next2 s.1 s.2) (fun s t => [(6, .slice t.1 s.2.length t.2), (25, v0), (26, .int .i64 (a0.length : Int)), (27, .int .i64 s.1)]) (fun s t => [rowC 62 2 (.slice t.1 s.2.length t.2) s.2.length (s.2.map Ji) u24]) (fun s t => True) (0, ([] : List T_tag_Span)) p [0] H18 (by exact trivial) (by exact ⟨rfl, rfl, rfl, rfl, trivial⟩) (by decide) rfl ?_
  rintro ⟨x27_2, l_2⟩ p_2 m2 gg H19 _
  clear H18
  replace H19 : Qa a0 u24 (it (fun next2 s => Qa a0 u24 next2 s.1 s.2) m2) x27_2 l_2 = some r := H19
  generalize hn2 : it (fun next2 s => Qa a0 u24 next2 s.1 s.2) m2 = next2 at H19
  try dsimp only
  refine Jf ?_
  refine Jb ?_
  refine Ja rfl rfl rfl (Zn rfl rfl) ?_
  refine Jg ?_
  refine Jf ?_
  refine Qf (b := (decide (x27_2 < (a0.length : Int)))) rfl (fun hb => ?_) (fun hb => ?_)
  ·have H20 := Js hb H19; clear H19
   refine Ju ?_
   refine Jf ?_
   refine J1 ?_
   refine Jf ?_
   refine Jb ?_
   obtain ⟨t29, h_t29, H21⟩ := Jh H20; clear H20
   refine Ja rfl rfl rfl (Zd Try.underlying124 Try.sizeOf57 rfl rfl f0.frs (f0.ix h_t29)) ?_
   refine Yg (fun w hF hS => Yu (f := (elC h v0 1)) (i := x27_2) (sz := 1) (j := 0) (v := (Xz h v0 1 (Int.toNat x27_2) 0)) Try.isAgg57 rfl rfl (f0.frs.row (hw.now hF)) (f0.ix h_t29) (rg_of (cgs_tag_Span (f0.at h_t29)) rfl)) rfl rfl rfl ?_
   refine Ja rfl rfl rfl (Jd (v := (Xz h v0 1 (Int.toNat x27_2) 0)) rfl) ?_
   refine Jg ?_
   refine Jb ?_
   refine Ja rfl rfl rfl (Jc (v := .slice p_2.1 l_2.length p_2.2) rfl) ?_
   refine Ja rfl rfl rfl (Jc (v := (Xz h v0 1 (Int.toNat x27_2) 0)) rfl) ?_
   obtain ⟨l33, h_l33, H22⟩ := Jh H21; clear H21
   refine Qv (turns_appC (i := 0) (hn := rfl) (rds := []) (p := p_2) (sz := 2) (by_ := 16) (f := Ji) (ys := l_2) (ls := t29) (V := (Xz h v0 1 (Int.toNat x27_2) 0)) Try.underlying57 (Xn Try.typeInfo62) rfl rfl rfl rfl rfl rfl rfl rfl (show FrS h 2 (Xz h v0 1 (Int.toNat x27_2) 0) (t29.map Ji) from (f0.at h_t29)).eq (List.length_map _) (fun w L' hF hS hi => ((show FrS h 2 (Xz h v0 1 (Int.toNat x27_2) 0) (t29.map Ji) from (f0.at h_t29))).row (hw.now hF)) (fun _ => rfl) (fun _ => rfl) h_l33) rfl rfl rfl (fun p_3 => ?_)
   refine Ja rfl rfl rfl (Jd (v := .slice p_3.1 l33.length p_3.2) rfl) ?_
   refine Jg ?_
   refine Jb ?_
   obtain ⟨t34, h_t34, H23⟩ := Jh H22; clear H22
   refine Ja rfl rfl rfl (Qd rfl rfl h_t34) ?_
   refine Ja rfl rfl rfl (Jc (v := .int .i64 t34) rfl) ?_
   refine Jg ?_
   refine Jo (t34, l33) p_3 m2 [0] (by exact ⟨rfl, rfl, rfl, rfl, trivial⟩) (by decide) (by kernel_rfl) (by exact ⟨(by subst hn2; exact H23), trivial⟩) (Nat.lt_succ_self _)
  ·have H24 := Jt hb H19; clear H19
   refine Xy ?_
   refine Jf ?_
   refine Jb ?_
   refine Ja rfl rfl rfl (Jc (v := .slice p_2.1 l_2.length p_2.2) rfl) ?_
   refine Ja rfl rfl rfl (Jd (v := .slice p_2.1 l_2.length p_2.2) rfl) ?_
   refine Jg ?_
   refine J0 ?_
   obtain rfl := Option.some.inj H24
   refine V5 0 rfl (imp_rowC _ _ _ _ _ _) ?_
   refine Q2 (v := .slice p_2.1 l_2.length p_2.2) rfl rfl (Wm p_2 (i := 0) rfl rfl (Imp.refl _))
theorem k5 {a0 : T_tag_File} {v0_1 : Value} {a1 : (List UInt8)} {r : Bool} {w : World} {h : J6} (hw : Know h w Wg) (f0_1 : FrN h 1 v0_1 gs_tag_Entry a0.Dirs) (H : Wh a0 a1 = some r) : Does Try.prog 5 (List.toArray [.agg #[.bool a0.Big, v0_1], str a1]) w (fun v w' => v = (.bool r) ∧ Grow w w') := by
 refine enter (n := 108) Try.func5 rfl rfl rfl Wg [] (Sat.nil _ _) ?_
 refine Jf ?_
 refine Jb ?_
 refine l_box (cs := [.bool a0.Big, v0_1]) rfl rfl rfl rfl (fun b5 => ?_)
 refine Ja rfl rfl rfl (Jd (v := .bool false) rfl) ?_
 refine Jg ?_
 refine Jf ?_
 refine Jf ?_
 refine Jb ?_
 obtain ⟨t19, h_t19, H47⟩ := Jh H; clear H
 refine Z8 (k23 h_t19) Try.call23 rfl rfl rfl ?_
 refine Ja rfl rfl rfl (r_not rfl) ?_
 refine Jg ?_
 refine Qf (b := (!t19)) rfl (fun hb => ?_) (fun hb => ?_)
 ·have H48 := Js hb H47; clear H47
  refine Jf ?_
  refine Jb ?_
  refine Ja rfl rfl rfl (Jd (v := .bool false) rfl) ?_
  refine Jg ?_
  refine J0 ?_
  obtain rfl := Option.some.inj H48
  refine Q2 (v := .bool false) rfl rfl (Zr rfl)
 ·have H49 := Jt hb H47; clear H47
  refine Ju ?_
  refine Jf ?_
  refine Jb ?_
  refine Vx (i := 0) (vs := [.bool a0.Big, v0_1]) Try.isAgg24 Try.sizeOf24 rfl rfl rfl rfl rfl ?_
  obtain ⟨t23, h_t23, H50⟩ := Jh H49; clear H49
  refine Xt (fun w hF hS => k24 (J3 w) (f0_1.mono (hw.now hF)) h_t23) Try.call24 rfl rfl rfl ?_
  refine Ja rfl rfl rfl (Jc (v := .tuple #[str t23.1, .int .i64 t23.2]) rfl) ?_
  refine Ja rfl rfl rfl (Xa (v := str t23.1) rfl rfl) ?_
  refine Ja rfl rfl rfl (Xa (v := .int .i64 t23.2) rfl rfl) ?_
  refine Ja rfl rfl rfl (Jd (v := str t23.1) rfl) ?_
  refine Ja rfl rfl rfl (Jd (v := .int .i64 t23.2) rfl) ?_
  refine Jg ?_
  refine Jf ?_
  refine Jf ?_
  refine Jb ?_
  refine Ja rfl rfl rfl (Jc (v := str a1) rfl) ?_
  refine Ja rfl rfl rfl (Jc (v := str t23.1) rfl) ?_
  refine Qr (vs := [str a1, str t23.1]) (cs := [str a1, str t23.1]) Try.underlying56 Try.sizeOf9 Try.zeroValue9 rfl rfl rfl rfl rfl rfl rfl (fun b6 => ?_)
  refine Ja rfl rfl rfl (r_len Try.underlying56 rfl) ?_
  refine Ja rfl rfl rfl (Jc (v := .int .i64 0) rfl) ?_
  refine Jg ?_
  refine J1 ?_
  refine c_dr 0 ?_
  try dsimp only [z1, z2, z3, z4, z5, z6, z7, z8]
  refine Z5 (σ := Int) (τ := Unit) (fun next1 s => Yd a1 t23 next1 s) (fun s t => [(6, .int .i64 t23.2), (28, .slice (some ⟨b6, 0, none⟩) 2 2), (29, .int .i64 2), (30, .int .i64 s)]) (fun s t => [Jm b6 [str a1, str t23.1] 9]) (fun s t => True) 0 () [0] H50 (by exact trivial) (by exact ⟨rfl, rfl, rfl, rfl, trivial⟩) (by decide) rfl ?_
  rintro x30_2 _ m1 gg H51 _
  clear H50
  replace H51 : Yd a1 t23 (it (fun next1 s => Yd a1 t23 next1 s) m1) x30_2 = some r := H51
  generalize hn1 : it (fun next1 s => Yd a1 t23 next1 s) m1 = next1 at H51
  try dsimp only
  refine Jf ?_
  refine Jb ?_
  refine Ja rfl rfl rfl (Zn rfl rfl) ?_
  refine Jg ?_
  refine Jf ?_
  refine Qf (b := (decide (x30_2 < 2))) rfl (fun hb => ?_) (fun hb => ?_)
  ·have H52 := Js hb H51; clear H51
   refine Ju ?_
   refine Xb (r := r) (σ := Unit) (τ := Unit) (fun s => Y0 x30_2 next1) (fun s t => [(6, .int .i64 t23.2), (28, .slice (some ⟨b6, 0, none⟩) 2 2), (29, .int .i64 2), (30, .int .i64 x30_2)]) (fun s t => [Jm b6 [str a1, str t23.1] 9]) (fun s t => True) ?_ ?_
   ·refine J1 ?_
    refine Jf ?_
    refine Jb ?_
    refine Ja rfl rfl rfl (Jc (v := .int .i64 x30_2) rfl) ?_
    obtain ⟨t33, h_t33, H55⟩ := Jh H52; clear H52
    refine Ja rfl rfl rfl (r_indexS Try.underlying56 Try.sizeOf9 rfl rfl h_t33 rfl) ?_
    refine Yg (fun w hF hS => Yu (f := e_string) (i := x30_2) (sz := 1) (j := 0) (v := str t33) Try.isAgg9 rfl rfl (Vm (sz := 1) (xs := ([a1, t23.1] : List (List UInt8)).map e_string) (i := 0) hS rfl rfl rfl) h_t33 rfl) rfl rfl rfl ?_
    refine Ja rfl rfl rfl (Jd (v := .int .i64 x30_2) rfl) ?_
    refine Ja rfl rfl rfl (Jd (v := str t33) rfl) ?_
    refine Jg ?_
    refine Jf ?_
    refine Jb ?_
    refine Ja rfl rfl rfl (Jc (v := str t33) rfl) ?_
    obtain ⟨t37, h_t37, H56⟩ := Jh H55; clear H55
    refine Wl (Xv (rds := []) (G := fun x : (Option Addr × Nat) => .tuple #[.slice x.1 t37.1.length x.2, .int .i64 t37.2]) (C := fun x : (Option Addr × Nat) => rowO 62 2 (.slice x.1 t37.1.length x.2) t37.1.length (t37.1.map Ji)) (fun w L' hF hS hi => k25 (J3 w)  h_t37) Try.call25 rfl) rfl rfl rfl (fun p => ?_)
    refine Ja rfl rfl rfl (Jc (v := .tuple #[.slice p.1 t37.1.length p.2, .int .i64 t37.2]) rfl) ?_
    refine Ja rfl rfl rfl (Xa (v := .slice p.1 t37.1.length p.2) rfl rfl) ?_
    refine Ja rfl rfl rfl (Xa (v := .int .i64 t37.2) rfl rfl) ?_
    refine Ja rfl rfl rfl (Jd (v := .slice p.1 t37.1.length p.2) rfl) ?_
    refine Ja rfl rfl rfl (Jd (v := .int .i64 t37.2) rfl) ?_
    refine Jg ?_
    refine Jf ?_
    refine Jb ?_
    refine Ja rfl rfl rfl (Jc (v := str t33) rfl) ?_
    obtain ⟨t42, h_t42, H57⟩ := Jh H56; clear H56
    refine Wl (Xv (rds := []) (G := fun x : (Option Addr × Nat) => .tuple #[.slice x.1 t42.1.length x.2, .int .i64 t42.2]) (C := fun x : (Option Addr × Nat) => roV 2 (.slice x.1 t42.1.length x.2) t42.1.length (t42.1.map Ji)) (fun w L' hF hS hi => k26 (J3 w)  h_t42) Try.call26 rfl) rfl rfl rfl (fun p_2 => ?_)
    refine Ja rfl rfl rfl (Jc (v := .tuple #[.slice p_2.1 t42.1.length p_2.2, .int .i64 t42.2]) rfl) ?_
    refine Ja rfl rfl rfl (Xa (v := .slice p_2.1 t42.1.length p_2.2) rfl rfl) ?_
    refine Ja rfl rfl rfl (Xa (v := .int .i64 t42.2) rfl rfl) ?_
    refine Ja rfl rfl rfl (Jd (v := .slice p_2.1 t42.1.length p_2.2) rfl) ?_
    refine Ja rfl rfl rfl (Jd (v := .int .i64 t42.2) rfl) ?_
    refine Jg ?_
    refine Jf ?_
    refine Jf ?_
    refine Jb ?_
    refine Ja rfl rfl rfl (Jc (v := .int .i64 t37.2) rfl) ?_
    refine Ja rfl rfl rfl (Jc (v := .int .i64 t42.2) rfl) ?_
    refine Ja rfl rfl rfl (V3 rfl rfl) ?_
    refine Jg ?_
    refine Qf (b := (decide (t37.2 ≠ t42.2))) rfl (fun hb => ?_) (fun hb => ?_)
    ·have H58 := Js hb H57; clear H57
     refine Jf ?_
     refine Jb ?_
     refine Ja rfl rfl rfl (Jd (v := .bool false) rfl) ?_
     refine Jg ?_
     refine J0 ?_
     obtain rfl := Option.some.inj H58
     refine Q2 (v := .bool false) rfl rfl (Zr rfl)
    ·have H59 := Jt hb H57; clear H57
     refine Ju ?_
     refine Jf ?_
     refine Jf ?_
     refine Jb ?_
     refine Ja rfl rfl rfl (Jc (v := .int .i64 t37.2) rfl) ?_
     refine Ja rfl rfl rfl (V3 rfl rfl) ?_
     refine Jg ?_
     refine Qf (b := (decide (t37.2 ≠ 0))) rfl (fun hb => ?_) (fun hb => ?_)
     ·have H60 := Js hb H59; clear H59
      refine Xy ?_
      refine Jo () () 0 [0] (by exact ⟨rfl, rfl, rfl, rfl, trivial⟩) (by decide) (by kernel_rfl) (by exact ⟨H60, trivial⟩) (Nat.lt_succ_self _)
     ·have H61 := Jt hb H59; clear H59
      refine Ju ?_
      refine Jf ?_
      refine Jb ?_
      refine Ja rfl rfl rfl (Jc (v := .slice p.1 t37.1.length p.2) rfl) ?_
      refine Ja rfl rfl rfl (Jc (v := .slice p_2.1 t42.1.length p_2.2) rfl) ?_
      refine Qr (vs := [.slice p.1 t37.1.length p.2, .slice p_2.1 t42.1.length p_2.2]) (cs := [.slice p.1 t37.1.length p.2, .slice p_2.1 t42.1.length p_2.2]) Try.underlying124 Try.sizeOf57 Try.zeroValue57 rfl rfl rfl rfl rfl rfl rfl (fun b7 => ?_)
      obtain ⟨t53, h_t53, H62⟩ := Jh H61; clear H61
      refine Wl (Xv (rds := [1, 2, 3]) (G := fun x : (Option Addr × Nat) => .slice x.1 t53.length x.2) (C := fun x : (Option Addr × Nat) => Jw 62 2 (.slice x.1 t53.length x.2) t53.length (t53.map Ji)) (fun w L' hF hS hi => k27 (J3 w) (frn_box (G := gs_tag_Span) (sz := 1) (xs := ([t37.1, t42.1] : List (List T_tag_Span))) (i := 3) hS ((hi 3 (by simp)).trans rfl) rfl rfl rfl ⟨(frs_off (i := 1) rfl hS ((hi 1 (by simp)).trans rfl)), (frs_rd (i := 2) hS ((hi 2 (by simp)).trans rfl)), rfl⟩) h_t53) Try.call27 rfl) rfl rfl rfl (fun p_3 => ?_)
      refine Ja rfl rfl rfl (Jd (v := .slice p_3.1 t53.length p_3.2) rfl) ?_
      refine Jg ?_
      refine Jf ?_
      refine Jb ?_
      refine Ja rfl rfl rfl (Jc (v := .slice p_3.1 t53.length p_3.2) rfl) ?_
      obtain ⟨t55, h_t55, H63⟩ := Jh H62; clear H62
      refine Qv (Qc (i := 4) (rds := []) (G := fun x : Unit => .tuple #[]) (C := fun x : Unit => Jw 62 2 (.slice p_3.1 t53.length p_3.2) t53.length (t55.map Ji)) rfl (fun w L' S hF hS hi hp hlt ho hA => k28_29 hp hlt (Q8 w S) rfl h_t55) Try.call28 rfl) rfl rfl rfl (fun _ => ?_)
      refine c_know (fun w hF hS => lenOf (i := 4) hS rfl) (fun hl_ => ?_)
      have hl : t53.length = t55.length := by simpa using hl_.symm
      refine Jg ?_
      refine Jf ?_
      refine Jb ?_
      refine Ja rfl rfl rfl (Jd (v := .int .i64 0) rfl) ?_
      refine Jg ?_
      refine Xb (r := r) (σ := Int × (List T_tag_Span)) (τ := Unit) (fun s => Va t23 x30_2 next1 t33 s.1 s.2) (fun s t => [(6, .int .i64 t23.2), (7, .int .i64 x30_2), (8, str t33), (11, .slice p_2.1 t42.1.length p_2.2), (14, .int .i64 s.1), (28, .slice (some ⟨b6, 0, none⟩) 2 2), (29, .int .i64 2), (30, .int .i64 x30_2)]) (fun s t => [Jm b6 [str a1, str t23.1] 9, roV 2 (.slice p_2.1 t42.1.length p_2.2) t42.1.length (s.2.map Ji)]) (fun s t => t42.1.length = s.2.length) ?_ ?_
      ·refine Jf ?_
       refine Jb ?_
       refine Ja rfl rfl rfl (Jc (v := .slice p_3.1 t53.length p_3.2) rfl) ?_
       refine Ja rfl rfl rfl (r_lenN Try.underlying57 rfl hl) ?_
       refine Ja rfl rfl rfl (Jc (v := .int .i64 0) rfl) ?_
       refine Jg ?_
       refine J1 ?_
       refine c_dr 3 <| c_dr 1 ?_
       try dsimp only [z1, z2, z3, z4, z5, z6, z7, z8]
       refine Z5 (σ := Int × Int) (τ := Unit) (fun next6 s => Xo t23 x30_2 next1 t33 t42 t55 next6 s.1 s.2) (fun s t => [(6, .int .i64 t23.2), (7, .int .i64 x30_2), (8, str t33), (11, .slice p_2.1 t42.1.length p_2.2), (14, .int .i64 s.1), (28, .slice (some ⟨b6, 0, none⟩) 2 2), (29, .int .i64 2), (30, .int .i64 x30_2), (56, .slice p_3.1 t53.length p_3.2), (57, .int .i64 (t55.length : Int)), (58, .int .i64 s.2)]) (fun s t => [Jm b6 [str a1, str t23.1] 9, roV 2 (.slice p_2.1 t42.1.length p_2.2) t42.1.length (t42.1.map Ji), Jw 62 2 (.slice p_3.1 t53.length p_3.2) t53.length (t55.map Ji)]) (fun s t => True) (0, 0) () [0, 1, 2] H63 (by exact trivial) (by exact ⟨rfl, rfl, rfl, rfl, rfl, rfl, rfl, rfl, rfl, rfl, rfl, trivial⟩) (by decide) rfl ?_
       rintro ⟨x14_3, x58_2⟩ _ m6 gg H83 _
       clear H63
       replace H83 : Xo t23 x30_2 next1 t33 t42 t55 (it (fun next6 s => Xo t23 x30_2 next1 t33 t42 t55 next6 s.1 s.2) m6) x14_3 x58_2 = some r := H83
       generalize hn6 : it (fun next6 s => Xo t23 x30_2 next1 t33 t42 t55 next6 s.1 s.2) m6 = next6 at H83
       try dsimp only
       refine Jf ?_
       refine Jb ?_
       refine Ja rfl rfl rfl (Zn rfl rfl) ?_
       refine Jg ?_
       refine Jf ?_
       refine Qf (b := (decide (x58_2 < (t55.length : Int)))) rfl (fun hb => ?_) (fun hb => ?_)
       ·have H84 := Js hb H83; clear H83
        refine Ju ?_
        refine Jf ?_
        refine J1 ?_
        refine Jf ?_
        refine Jb ?_
        obtain ⟨t60, h_t60, H85⟩ := Jh H84; clear H84
        refine Yg (fun w hF hS => Wp Try.underlying57 Try.sizeOf62 rfl rfl (V2 (i := 2) hS rfl) hl h_t60) rfl rfl rfl ?_
        refine Yg (fun w hF hS => Z2 (f := Ji) (i := x58_2) (sz := 2) (j := 0) (vs := [.int .i64 t60.From, .int .i64 t60.To]) Try.isAgg62 Try.sizeOf62 rfl rfl (V2 (i := 2) hS rfl) h_t60 rfl) rfl rfl rfl ?_
        refine Zf (cs := [.int .i64 0, .int .i64 0]) Try.zeroValue62 rfl rfl rfl (fun b9 => ?_)
        refine Qx (i := 3) (vs := [.int .i64 t60.From, .int .i64 t60.To]) (cs' := [.int .i64 t60.From, .int .i64 t60.To]) Try.sizeOf62 rfl rfl rfl rfl rfl rfl rfl rfl rfl ?_
        refine Jg ?_
        refine Jf ?_
        refine Jf ?_
        refine Jb ?_
        refine Ja rfl rfl rfl (Jl Try.runUnderlying62 rfl Try.sizeOf3 rfl rfl) ?_
        refine Jr (i := 3) (v := .int .i64 t60.From) Try.isAgg3 rfl rfl rfl rfl rfl ?_
        refine Ja rfl rfl rfl (Jc (v := .int .i64 x14_3) rfl) ?_
        refine Ja rfl rfl rfl (V3 rfl rfl) ?_
        refine Ja rfl rfl rfl (Jc (v := .bool (decide (t60.From ≠ x14_3))) rfl) ?_
        refine split (fun hb => ?_) (fun hb => ?_)
        ·have H86 := Js hb H85; clear H85
         refine Jk rfl rfl rfl ?_
         refine Jk rfl rfl rfl ?_
         refine Jk rfl rfl rfl ?_
         refine Jk rfl rfl rfl ?_
         refine Jk rfl rfl rfl ?_
         refine Ja rfl rfl rfl (Q5 (v := .bool true) rfl rfl) ?_
         refine Jg ?_
         refine c_true rfl ?_
         refine Jf ?_
         refine Jb ?_
         refine Ja rfl rfl rfl (Jd (v := .bool false) rfl) ?_
         refine Jg ?_
         refine J0 ?_
         obtain rfl := Option.some.inj H86
         refine Q2 (v := .bool false) rfl rfl (Zr rfl)
        ·have H87 := Jt hb H85; clear H85
         refine Ja rfl rfl rfl (Jl Try.runUnderlying62 rfl Try.sizeOf3 rfl rfl) ?_
         refine Jr (i := 3) (v := .int .i64 t60.To) Try.isAgg3 rfl rfl rfl rfl rfl ?_
         refine Ja rfl rfl rfl (Jl Try.runUnderlying62 rfl Try.sizeOf3 rfl rfl) ?_
         refine Jr (i := 3) (v := .int .i64 t60.From) Try.isAgg3 rfl rfl rfl rfl rfl ?_
         refine Ja rfl rfl rfl (r_leq rfl rfl) ?_
         refine Ja rfl rfl rfl (Xg (v := .bool (decide (t60.To ≤ t60.From))) rfl rfl) ?_
         refine Jg ?_
         refine Qf (b := (decide (t60.To ≤ t60.From))) rfl (fun hb => ?_) (fun hb => ?_)
         ·have H88 := Js hb H87; clear H87
          refine Jf ?_
          refine Jb ?_
          refine Ja rfl rfl rfl (Jd (v := .bool false) rfl) ?_
          refine Jg ?_
          refine J0 ?_
          obtain rfl := Option.some.inj H88
          refine Q2 (v := .bool false) rfl rfl (Zr rfl)
         ·have H89 := Jt hb H87; clear H87
          refine Ju ?_
          refine Jb ?_
          refine Ja rfl rfl rfl (Jl Try.runUnderlying62 rfl Try.sizeOf3 rfl rfl) ?_
          refine Jr (i := 3) (v := .int .i64 t60.To) Try.isAgg3 rfl rfl rfl rfl rfl ?_
          refine Ja rfl rfl rfl (Jd (v := .int .i64 t60.To) rfl) ?_
          refine Jg ?_
          refine Jb ?_
          obtain ⟨t75, h_t75, H90⟩ := Jh H89; clear H89
          refine Ja rfl rfl rfl (Qd rfl rfl h_t75) ?_
          refine Ja rfl rfl rfl (Jc (v := .int .i64 t75) rfl) ?_
          refine Jg ?_
          refine Jo (t60.To, t75) () m6 [0, 1, 2] (by exact ⟨rfl, rfl, rfl, rfl, rfl, rfl, rfl, rfl, rfl, rfl, rfl, trivial⟩) (by decide) (by kernel_rfl) (by exact ⟨(by subst hn6; exact H90), trivial⟩) (Nat.lt_succ_self _)
       ·have H91 := Jt hb H83; clear H83
        refine Xy ?_
        refine Jo (x14_3, t42.1) () 0 [0, 1] (by exact ⟨rfl, rfl, rfl, rfl, rfl, rfl, rfl, rfl, trivial⟩) (by decide) (by kernel_rfl) (by exact ⟨H91, rfl⟩) (Nat.lt_succ_self _)
      ·rintro ⟨x14, l⟩ _ gg H64 hl_2
       replace H64 : Va t23 x30_2 next1 t33 x14 l = some r := H64
       try dsimp only
       refine Jf ?_
       refine Jf ?_
       refine Jb ?_
       refine Ja rfl rfl rfl (Jc (v := .int .i64 x14) rfl) ?_
       refine Ja rfl rfl rfl (Jc (v := str t33) rfl) ?_
       refine Ja rfl rfl rfl (Ue Try.underlying9 rfl) ?_
       refine Ja rfl rfl rfl (V3 rfl rfl) ?_
       refine Jg ?_
       refine Qf (b := (decide (x14 ≠ (t33.length : Int)))) rfl (fun hb => ?_) (fun hb => ?_)
       ·have H65 := Js hb H64; clear H64
        refine Jf ?_
        refine Jb ?_
        refine Ja rfl rfl rfl (Jd (v := .bool false) rfl) ?_
        refine Jg ?_
        refine J0 ?_
        obtain rfl := Option.some.inj H65
        refine Q2 (v := .bool false) rfl rfl (Zr rfl)
       ·have H66 := Jt hb H64; clear H64
        refine Ju ?_
        refine Jf ?_
        refine Jb ?_
        refine Ja rfl rfl rfl (Jc (v := .slice p_2.1 t42.1.length p_2.2) rfl) ?_
        refine Ja rfl rfl rfl (r_lenN Try.underlying57 rfl hl_2) ?_
        refine Ja rfl rfl rfl (Jc (v := .int .i64 0) rfl) ?_
        refine Jg ?_
        refine J1 ?_
        refine Z5 (σ := Int) (τ := Unit) (fun next4 s => Ye t23 x30_2 next1 l next4 s) (fun s t => [(6, .int .i64 t23.2), (7, .int .i64 x30_2), (28, .slice (some ⟨b6, 0, none⟩) 2 2), (29, .int .i64 2), (30, .int .i64 x30_2), (80, .slice p_2.1 t42.1.length p_2.2), (81, .int .i64 (l.length : Int)), (82, .int .i64 s)]) (fun s t => [Jm b6 [str a1, str t23.1] 9, roV 2 (.slice p_2.1 t42.1.length p_2.2) t42.1.length (l.map Ji)]) (fun s t => True) 0 () [0, 1] H66 (by exact trivial) (by exact ⟨rfl, rfl, rfl, rfl, rfl, rfl, rfl, rfl, trivial⟩) (by decide) rfl ?_
        rintro x82_2 _ m4 gg H67 _
        clear H66
        replace H67 : Ye t23 x30_2 next1 l (it (fun next4 s => Ye t23 x30_2 next1 l next4 s) m4) x82_2 = some r := H67
        generalize hn4 : it (fun next4 s => Ye t23 x30_2 next1 l next4 s) m4 = next4 at H67
        try dsimp only
        refine Jf ?_
        refine Jb ?_
        refine Ja rfl rfl rfl (Zn rfl rfl) ?_
        refine Jg ?_
        refine Jf ?_
        refine Qf (b := (decide (x82_2 < (l.length : Int)))) rfl (fun hb => ?_) (fun hb => ?_)
        ·have H68 := Js hb H67; clear H67
         refine Ju ?_
         refine Xb (r := r) (σ := Unit) (τ := Unit) (fun s => Yv x82_2 next4) (fun s t => [(6, .int .i64 t23.2), (7, .int .i64 x30_2), (28, .slice (some ⟨b6, 0, none⟩) 2 2), (29, .int .i64 2), (30, .int .i64 x30_2), (80, .slice p_2.1 t42.1.length p_2.2), (81, .int .i64 (l.length : Int)), (82, .int .i64 x82_2)]) (fun s t => [Jm b6 [str a1, str t23.1] 9, roV 2 (.slice p_2.1 t42.1.length p_2.2) t42.1.length (l.map Ji)]) (fun s t => True) ?_ ?_
         ·refine J1 ?_
          refine Jf ?_
          refine Jb ?_
          obtain ⟨t84, h_t84, H71⟩ := Jh H68; clear H68
          refine Yg (fun w hF hS => Wp Try.underlying57 Try.sizeOf62 rfl rfl (roOf (i := 1) hS rfl) hl_2 h_t84) rfl rfl rfl ?_
          refine Yg (fun w hF hS => Z2 (f := Ji) (i := x82_2) (sz := 2) (j := 0) (vs := [.int .i64 t84.From, .int .i64 t84.To]) Try.isAgg62 Try.sizeOf62 rfl rfl (roOf (i := 1) hS rfl) h_t84 rfl) rfl rfl rfl ?_
          refine Zf (cs := [.int .i64 0, .int .i64 0]) Try.zeroValue62 rfl rfl rfl (fun b8 => ?_)
          refine Qx (i := 2) (vs := [.int .i64 t84.From, .int .i64 t84.To]) (cs' := [.int .i64 t84.From, .int .i64 t84.To]) Try.sizeOf62 rfl rfl rfl rfl rfl rfl rfl rfl rfl ?_
          refine Jg ?_
          refine Jf ?_
          refine Jb ?_
          refine Ja rfl rfl rfl (Jc (v := .int .i64 x30_2) rfl) ?_
          refine Ja rfl rfl rfl (Xq rfl rfl) ?_
          refine Ja rfl rfl rfl (Jc (v := .bool (decide (x30_2 = 1))) rfl) ?_
          refine split (fun hb => ?_) (fun hb => ?_)
          ·have H72 := Js hb H71; clear H71
           refine Ja rfl rfl rfl (Jc (v := .int .i64 t23.2) rfl) ?_
           refine Ja rfl rfl rfl (Xq rfl rfl) ?_
           refine Ja rfl rfl rfl (Q5 (v := .bool (decide (t23.2 = 0))) rfl rfl) ?_
           refine Ja rfl rfl rfl (Jc (v := .bool (decide (t23.2 = 0))) rfl) ?_
           refine split (fun hb => ?_) (fun hb => ?_)
           ·have H73 := Js hb H72; clear H72
            refine Ja rfl rfl rfl (Jl Try.runUnderlying62 rfl Try.sizeOf3 rfl rfl) ?_
            refine Jr (i := 2) (v := .int .i64 t84.To) Try.isAgg3 rfl rfl rfl rfl rfl ?_
            refine Ja rfl rfl rfl (Jl Try.runUnderlying62 rfl Try.sizeOf3 rfl rfl) ?_
            refine Jr (i := 2) (v := .int .i64 t84.From) Try.isAgg3 rfl rfl rfl rfl rfl ?_
            obtain ⟨t97, h_t97, H74⟩ := Jh H73; clear H73
            refine Ja rfl rfl rfl (Qd rfl rfl h_t97) ?_
            refine Ja rfl rfl rfl (V3 rfl rfl) ?_
            refine Ja rfl rfl rfl (Jc (v := .bool (decide (t84.To ≠ t97))) rfl) ?_
            refine split (fun hb => ?_) (fun hb => ?_)
            ·have H75 := Js hb H74; clear H74
             refine Jk rfl rfl rfl ?_
             refine Jk rfl rfl rfl ?_
             refine Jk rfl rfl rfl ?_
             refine Jk rfl rfl rfl ?_
             refine Ja rfl rfl rfl (Q5 (v := .bool true) rfl rfl) ?_
             refine Ja rfl rfl rfl (Q5 (v := .bool true) rfl rfl) ?_
             refine Jg ?_
             refine c_true rfl ?_
             refine Jf ?_
             refine Jb ?_
             refine Ja rfl rfl rfl (Jd (v := .bool false) rfl) ?_
             refine Jg ?_
             refine J0 ?_
             obtain rfl := Option.some.inj H75
             refine Q2 (v := .bool false) rfl rfl (Zr rfl)
            ·have H76 := Jt hb H74; clear H74
             refine Ja rfl rfl rfl (Jl Try.runUnderlying62 rfl Try.sizeOf3 rfl rfl) ?_
             refine Jr (i := 2) (v := .int .i64 t84.From) Try.isAgg3 rfl rfl rfl rfl rfl ?_
             obtain ⟨t102, h_t102, H77⟩ := Jh H76; clear H76
             refine Ja rfl rfl rfl (r_remG rfl rfl h_t102) ?_
             refine Ja rfl rfl rfl (Xq rfl rfl) ?_
             refine Ja rfl rfl rfl (Xg (v := .bool (decide (t102 = 0))) rfl rfl) ?_
             refine Ja rfl rfl rfl (Q5 (v := .bool (decide (t102 = 0))) rfl rfl) ?_
             refine Jg ?_
             refine Qf (b := (decide (t102 = 0))) rfl (fun hb => ?_) (fun hb => ?_)
             ·have H78 := Js hb H77; clear H77
              refine Jf ?_
              refine Jb ?_
              refine Ja rfl rfl rfl (Jd (v := .bool false) rfl) ?_
              refine Jg ?_
              refine J0 ?_
              obtain rfl := Option.some.inj H78
              refine Q2 (v := .bool false) rfl rfl (Zr rfl)
             ·have H79 := Jt hb H77; clear H77
              refine Ju ?_
              refine Jo () () 0 [0, 1] (by exact ⟨rfl, rfl, rfl, rfl, rfl, rfl, rfl, rfl, trivial⟩) (by decide) (by kernel_rfl) (by exact ⟨H79, trivial⟩) (Nat.lt_succ_self _)
           ·have H80 := Jt hb H72; clear H72
            refine Jk rfl rfl rfl ?_
            refine Jk rfl rfl rfl ?_
            refine Jk rfl rfl rfl ?_
            refine Jk rfl rfl rfl ?_
            refine Jk rfl rfl rfl ?_
            refine Jk rfl rfl rfl ?_
            refine Jk rfl rfl rfl ?_
            refine Jk rfl rfl rfl ?_
            refine Jk rfl rfl rfl ?_
            refine Jk rfl rfl rfl ?_
            refine Jk rfl rfl rfl ?_
            refine Jk rfl rfl rfl ?_
            refine Ja rfl rfl rfl (Xg (v := .bool false) rfl rfl) ?_
            refine Jg ?_
            refine W0 rfl ?_
            refine Ju ?_
            refine Jo () () 0 [0, 1] (by exact ⟨rfl, rfl, rfl, rfl, rfl, rfl, rfl, rfl, trivial⟩) (by decide) (by kernel_rfl) (by exact ⟨H80, trivial⟩) (Nat.lt_succ_self _)
          ·have H81 := Jt hb H71; clear H71
           refine Jk rfl rfl rfl ?_
           refine Jk rfl rfl rfl ?_
           refine Ja rfl rfl rfl (Xg (v := .bool false) rfl rfl) ?_
           refine Ja rfl rfl rfl (Jc (v := .bool false) rfl) ?_
           refine Jk rfl rfl rfl ?_
           refine Jk rfl rfl rfl ?_
           refine Jk rfl rfl rfl ?_
           refine Jk rfl rfl rfl ?_
           refine Jk rfl rfl rfl ?_
           refine Jk rfl rfl rfl ?_
           refine Jk rfl rfl rfl ?_
           refine Jk rfl rfl rfl ?_
           refine Jk rfl rfl rfl ?_
           refine Jk rfl rfl rfl ?_
           refine Jk rfl rfl rfl ?_
           refine Jk rfl rfl rfl ?_
           refine Ja rfl rfl rfl (Xg (v := .bool false) rfl rfl) ?_
           refine Jg ?_
           refine W0 rfl ?_
           refine Ju ?_
           refine Jo () () 0 [0, 1] (by exact ⟨rfl, rfl, rfl, rfl, rfl, rfl, rfl, rfl, trivial⟩) (by decide) (by kernel_rfl) (by exact ⟨H81, trivial⟩) (Nat.lt_succ_self _)
         ·rintro _ _ gg H69 _
          replace H69 : Yv x82_2 next4 = some r := H69
          try dsimp only
          refine Jb ?_
          obtain ⟨t106, h_t106, H70⟩ := Jh H69; clear H69
          refine Ja rfl rfl rfl (Qd rfl rfl h_t106) ?_
          refine Ja rfl rfl rfl (Jc (v := .int .i64 t106) rfl) ?_
          refine Jg ?_
          refine Jo t106 () m4 [0, 1] (by exact ⟨rfl, rfl, rfl, rfl, rfl, rfl, rfl, rfl, trivial⟩) (by decide) (by kernel_rfl) (by exact ⟨(by subst hn4; exact H70), trivial⟩) (Nat.lt_succ_self _)
        ·have H82 := Jt hb H67; clear H67
         refine Xy ?_
         refine Jo () () 0 [0] (by exact ⟨rfl, rfl, rfl, rfl, trivial⟩) (by decide) (by kernel_rfl) (by exact ⟨H82, trivial⟩) (Nat.lt_succ_self _)
   ·rintro _ _ gg H53 _
    replace H53 : Y0 x30_2 next1 = some r := H53
    try dsimp only
    refine Jb ?_
    obtain ⟨t107, h_t107, H54⟩ := Jh H53; clear H53
    refine Ja rfl rfl rfl (Qd rfl rfl h_t107) ?_
    refine Ja rfl rfl rfl (Jc (v := .int .i64 t107) rfl) ?_
    refine Jg ?_
    refine Jo t107 () m1 [0] (by exact ⟨rfl, rfl, rfl, rfl, trivial⟩) (by decide) (by kernel_rfl) (by exact ⟨(by subst hn1; exact H54), trivial⟩) (Nat.lt_succ_self _)
  ·have H92 := Jt hb H51; clear H51
   refine Xy ?_
   refine Jf ?_
   refine Jb ?_
   refine Ja rfl rfl rfl (Jd (v := .bool true) rfl) ?_
   refine Jg ?_
   refine J0 ?_
   obtain rfl := Option.some.inj H92
   refine Q2 (v := .bool true) rfl rfl (Zr rfl)
end Go.Proofs.Ytemkoikdkfkijaa

/- Plain lemmas about models: loops that count, scans for a first error. Conditions: none. -/
namespace Go.Pl
open Go.Md
end Go.Pl

/- More plain lemmas about models: loops that run or go on, two loops that do the same, loops that collect. Conditions: none. -/
namespace Go.Pl
open Go.Md
theorem Vu {α β : Type} {m : Option α} {k k' : α → Option β} (h : ∀ a, m = some a → k a = k' a) : J8 m k = J8 m k' := by
 cases m with
 | none => rfl
 | some a => exact h a rfl
theorem cnd_congr {α : Type} {b : Bool} {x y x' y' : Option α} (h1 : b = true → x = x') (h2 : b = false → y = y') : Q9 b x y = Q9 b x' y' := by
 cases b
 ·exact h2 rfl
 ·exact h1 rfl
theorem fix_list {α ρ σ : Type} {F : (Int × σ → Option ρ) → Int × σ → Option ρ} (xs : List α) (f : σ → α → σ) (J : σ → Option ρ) (I : Nat → σ → Prop)
  (more : ∀ (next : Int × σ → Option ρ) (k : Nat) (s : σ) (hk : k < xs.length), I k s → F next ((k : Int), s) = next ((k : Int) + 1, f s xs[k]) ∧ I (k + 1) (f s xs[k]))
  (stop : ∀ (next : Int × σ → Option ρ) (s : σ), I xs.length s → F next ((xs.length : Int), s) = J s) (s : σ) (hs : I 0 s) : V0 F (0, s) = J (xs.foldl f s) := by
 have key : ∀ n k s, k ≤ xs.length → xs.length - k < n → I k s → V0 F ((k : Int), s) = J ((xs.drop k).foldl f s) := by
  intro n
  induction n with
  | zero => intro k s _ h; omega
  | succ n ih =>
   intro k s hk h hI
   rcases Nat.lt_or_ge k xs.length with h1 | h1
   ·rw [Qw ((k : Int) + 1, f s xs[k]) (fun next => (more next k s h1 hI).1), List.drop_eq_getElem_cons h1, List.foldl_cons]
    exact ih (k + 1) _ (by omega) (by omega) (more (fun _ => none) k s h1 hI).2
   ·have : k = xs.length := by omega
    subst this
    rw [List.drop_length]
    exact Qm fun next => stop next s hI
 have := key (xs.length + 1) 0 s (Nat.zero_le _) (by omega) hs
 simpa using this
theorem foldl_app {α β : Type} (f : α → β) : ∀ (xs : List α) (s : List β), xs.foldl (fun s x => s ++ [f x]) s = s ++ xs.map f
 | [], s => by simp
 | x :: xs, s => by rw [List.foldl_cons, foldl_app f xs]; simp
end Go.Pl

/- Numbers and values as octets, values checked, in plain Lean. Conditions: none. -/
namespace Go.M
open Go.Md Go.Pl
theorem cI {α : Type} {p : Prop} [Decidable p] {x y : Option α} : Q9 (decide p) x y = if p then x else y := cnd_if ..
theorem fix_ofG {α ρ γ : Type} {F : (α → Option ρ) → α → Option ρ} (spec : γ → α → Option ρ) (I : γ → α → Prop) (μ : γ → Nat)
  (step : ∀ (next : α → Option ρ) (g : γ) (a : α), I g a → (∀ g' b, I g' b → μ g' < μ g → next b = spec g' b) → F next a = spec g a) (g : γ) (a : α) (ha : I g a) : V0 F a = spec g a := by
 have key : ∀ (n : Nat) (g : γ) (a : α), I g a → μ g < n → it F n a = spec g a := by
  intro n
  induction n with
  | zero => intro g a _ h; omega
  | succ n ih => intro g a ha h; exact step _ g a ha fun g' b hb hlt => ih g' b hb (by omega)
 exact fix_ev (k := μ g + 1) fun n hn => key n g a ha (by omega)
theorem Y9 (a b : List UInt8) : Qk (a ++ b) = Qk a ++ Qk b := List.map_append
theorem Qs (a : List UInt8) : (Qk a).length = a.length := List.length_map _
theorem toStr_ofStr (a : List UInt8) : Vw (Qk a) = a := by
 unfold Vw Qk
 rw [List.map_map]
 conv => rhs; rw [← List.map_id a]
 apply List.map_congr_left
 intro c _
 show UInt8.ofNat ((c.toNat : Int).toNat) = c
 rw [Int.toNat_natCast, UInt8.ofNat_toNat]
theorem ofStr_toStr {l : List Int} (h : ∀ x ∈ l, 0 ≤ x ∧ x ≤ 255) : Qk (Vw l) = l := by
 unfold Vw Qk
 rw [List.map_map]
 conv => rhs; rw [← List.map_id l]
 apply List.map_congr_left
 intro c hc
 have := h c hc
 show (((UInt8.ofNat c.toNat).toNat : Nat) : Int) = c
 rw [UInt8.toNat_ofNat']
 omega
theorem num_ex (big : Bool) (n : Int) (k : Nat) (hk : k ≤ 8) : ∃ L : List Int, Jj big n k = some L ∧ L.length = k ∧ (∀ x ∈ L, 0 ≤ x ∧ x ≤ 255) ∧ (n = 0 → ∀ x ∈ L, x = 0) := by
 have key : ∀ m i : Nat, i + m = k → ∀ l : List Int, l.length = k → (∀ x ∈ l, 0 ≤ x ∧ x ≤ 255) → (n = 0 → ∀ x ∈ l, x = 0) →
   ∃ L : List Int, V0 (fun next1 s => Qz big n k (List.replicate k 0) next1 s.1 s.2) ((i : Int), l) = some L ∧ L.length = k ∧ (∀ x ∈ L, 0 ≤ x ∧ x ≤ 255) ∧ (n = 0 → ∀ x ∈ L, x = 0) := by
  intro m
  induction m with
  | zero =>
   intro i hi l hl hx hz
   refine ⟨l, Qm fun next => ?_, hl, hx, hz⟩
   show Qz big n k _ next (i : Int) l = _
   unfold Qz
   rw [cI, if_neg (by rw [List.length_replicate]; omega)]
  | succ m ih =>
   intro i hi l hl hx hz
   have hs : ∃ y : Int, gShr 64 n (8 * (i : Int)) = some y ∧ (n = 0 → y = 0) := by
    refine ⟨n / 2 ^ min (8 * (i : Int)).toNat 64, if_pos (by omega), fun e => by rw [e]; exact Int.zero_ediv _⟩
   obtain ⟨y, hy, hy0⟩ := hs
   have hp : ∃ q : Nat, q < k ∧ (∀ (next : Int × List Int → Option (List Int)), Qz big n k (List.replicate k 0) next (i : Int) l = next ((i : Int) + 1, l.set q (wU8 y))) := by
    cases big
    ·refine ⟨i, by omega, fun next => ?_⟩
     unfold Qz
     rw [cI, if_pos (by rw [List.length_replicate]; omega), Xi]
     unfold Zh
     rw [J4 (by omega), Je, hy, Je, Yk (by omega), Je, gSet_ok (by omega) (by omega), Je, J4 (by omega), Je, Int.toNat_natCast]
    ·refine ⟨k - 1 - i, by omega, fun next => ?_⟩
     unfold Qz
     rw [cI, if_pos (by rw [List.length_replicate]; omega), Y3, J4 (by omega), Je, J4 (by omega), Je]
     unfold Zh
     rw [J4 (by omega), Je, hy, Je, gAt_ok (by omega) (by omega), Je, gSet_ok (by omega) (by omega), Je, J4 (by omega), Je, show ((k : Int) - 1 - (i : Int)).toNat = k - 1 - i from by omega]
   obtain ⟨q, hq, h1⟩ := hp
   obtain ⟨L, a1, a3, a4, a5⟩ := ih (i + 1) (by omega) (l.set q (wU8 y)) (by rw [List.length_set]; exact hl) (fun x hxm => by
    rcases List.mem_or_eq_of_mem_set hxm with h | h
    ·exact hx x h
    ·rw [h]; unfold wU8; omega) (fun e x hxm => by
    rcases List.mem_or_eq_of_mem_set hxm with h | h
    ·exact hz e x h
    ·rw [h, hy0 e]; rfl)
   exact ⟨L, (Qw _ h1).trans a1, a3, a4, a5⟩
 obtain ⟨L, a1, a3⟩ := key k 0 (by omega) (List.replicate k 0) (by simp) (fun x hx => by rw [(List.mem_replicate.1 hx).2]; omega) (fun _ x hx => (List.mem_replicate.1 hx).2)
 refine ⟨L, ?_, a3⟩
 unfold Jj
 rw [gMake_ok (by omega), Je, Int.toNat_natCast]; exact a1
noncomputable def Xl (big : Bool) (n : Int) (k : Nat) : List UInt8 := Vw ((Jj big n k).getD [])
theorem num_tag (big : Bool) (n : Int) {k : Nat} (hk : k ≤ 8) : Jj big n k = some (Qk (Xl big n k)) := by
 obtain ⟨L, h1, _, h4, _⟩ := num_ex big n k hk
 unfold Xl
 rw [h1, Option.getD_some, ofStr_toStr h4]
theorem Qh (big : Bool) (n : Int) {k : Nat} (hk : k ≤ 8) : (Xl big n k).length = k := by
 obtain ⟨L, h1, h3, _⟩ := num_ex big n k hk
 unfold Xl Vw
 rw [h1, Option.getD_some, List.length_map, h3]
theorem num_zero (big : Bool) {k : Nat} (hk : k ≤ 8) : Xl big 0 k = List.replicate k 0 := by
 obtain ⟨L, h1, h3, _, h5⟩ := num_ex big 0 k hk
 have : L = List.replicate k 0 := List.eq_replicate_iff.2 ⟨h3, h5 rfl⟩
 unfold Xl Vw
 rw [h1, Option.getD_some, this, List.map_replicate]; rfl
theorem tag2 (big : Bool) (n : Int) : Jj big n 2 = some (Qk (Xl big n 2)) := num_tag big n (k := 2) (by omega)
theorem tag4 (big : Bool) (n : Int) : Jj big n 4 = some (Qk (Xl big n 4)) := num_tag big n (k := 4) (by omega)
def Qe (k : Int) : Nat := if k = 1 ∨ k = 2 ∨ k = 7 then 1 else if k = 3 then 2 else if k = 4 ∨ k = 9 then 4 else if k = 5 then 8 else 0
theorem Ui (k : Int) : Qe k ≤ 8 := by unfold Qe; (repeat' split) <;> omega
theorem sizeOf_eq (k : Int) : Yy k = some (if k = 13 then 1 else (Qe k : Int)) := by
 unfold Yy Z3 Qe
 by_cases h1 : k = 1
 ·subst h1; rfl
 by_cases h2 : k = 2
 ·subst h2; rfl
 by_cases h3 : k = 3
 ·subst h3; rfl
 by_cases h4 : k = 4
 ·subst h4; rfl
 by_cases h5 : k = 5
 ·subst h5; rfl
 by_cases h7 : k = 7
 ·subst h7; rfl
 by_cases h9 : k = 9
 ·subst h9; rfl
 by_cases h13 : k = 13
 ·subst h13; rfl
 simp [h1, h2, h3, h4, h5, h7, h9, h13, Xi]
def W3 (k : Int) : Prop := k = 1 ∨ k = 3 ∨ k = 4 ∨ k = 9
def textK (k : Int) : Prop := k = 2 ∨ k = 7
instance (k : Int) : Decidable (W3 k) := by unfold W3; infer_instance
instance (k : Int) : Decidable (textK k) := by unfold textK; infer_instance
def kindP (k : Int) : Prop := W3 k ∨ textK k ∨ k = 5 ∨ k = 13
instance (k : Int) : Decidable (kindP k) := by unfold kindP; infer_instance
def formP (v : T_tag_Value) : Prop := (¬ W3 v.Kind ∧ v.Ints ≠ []) ∨ (¬ textK v.Kind ∧ v.Text ≠ []) ∨ (v.Kind ≠ 5 ∧ v.Ratios ≠ []) ∨ (v.Kind ≠ 13 ∧ v.Entries ≠ [])
noncomputable def Vl (v : T_tag_Value) : Int := open Classical in if ¬ kindP v.Kind then 10 else if formP v then 1 else 0
theorem ne_len {α : Type} (l : List α) : (0 : Int) < (l.length : Int) ↔ l ≠ [] := by
 cases l <;> simp <;> omega
theorem wide_zero (k : Int) (h : k ≠ 13) : (Qe k : Int) = 0 ↔ ¬ kindP k := by
 unfold Qe kindP W3 textK
 split
 ·omega
 ·split
  ·omega
  ·split
   ·omega
   ·split <;> omega
theorem j3_fields (v : T_tag_Value) (b : Bool) : Yz v b = some (open Classical in if b = true ∨ (v.Kind ≠ 13 ∧ v.Entries ≠ []) then 1 else 0) := by
 unfold Yz
 cases b
 ·rw [Xi, cI, cI]
  by_cases h1 : v.Kind ≠ 13
  ·by_cases h2 : v.Entries = []
   ·rw [if_pos h1, if_neg (by rw [ne_len]; simpa using h2), if_neg (by simp [h2])]
   ·rw [if_pos h1, if_pos ((ne_len _).2 h2), if_pos (.inr ⟨h1, h2⟩)]
  ·rw [if_neg h1, if_neg (by simp [h1])]
 ·rw [Y3, Y3, if_pos (.inl rfl)]
theorem j2_fields (v : T_tag_Value) (b : Bool) : Yx v b = some (open Classical in if b = true ∨ (v.Kind ≠ 5 ∧ v.Ratios ≠ []) ∨ (v.Kind ≠ 13 ∧ v.Entries ≠ []) then 1 else 0) := by
 unfold Yx
 cases b
 ·rw [Xi, cI, j3_fields, j3_fields]
  by_cases h1 : v.Kind ≠ 5
  ·rw [if_pos h1]
   congr 1
   by_cases h2 : v.Ratios = []
   ·simp [h2]
   ·simp [h2, h1, List.length_pos_iff]
  ·rw [if_neg h1]; simp [h1]
 ·rw [Y3, Y3, if_pos (.inl rfl)]
theorem j1_fields (v : T_tag_Value) (b : Bool) : Yw v b = some (open Classical in if b = true ∨ (¬ textK v.Kind ∧ v.Text ≠ []) ∨ (v.Kind ≠ 5 ∧ v.Ratios ≠ []) ∨ (v.Kind ≠ 13 ∧ v.Entries ≠ []) then 1 else 0) := by
 have ht : tag_isText v.Kind = some (decide (textK v.Kind)) := by
  unfold tag_isText textK
  rw [cI]
  by_cases h : v.Kind = 2
  ·simp [h]
  ·simp [h]
 unfold Yw
 cases b
 ·rw [Xi, ht, Je, j2_fields, j2_fields]
  by_cases h1 : textK v.Kind
  ·rw [decide_eq_true h1]
   show Q9 false _ _ = _
   rw [Xi]; simp [h1]
  ·rw [decide_eq_false h1]
   show Q9 true _ _ = _
   rw [Y3]; simp [h1]
 ·rw [Y3, Y3, if_pos (.inl rfl)]
theorem checkFields_eq (v : T_tag_Value) : Vr v = some (Vl v) := by
 have hi : tag_isInts v.Kind = some (decide (W3 v.Kind)) := by
  unfold tag_isInts W3
  rw [cI, cI, cI]
  by_cases h : v.Kind = 1
  ·simp [h]
  by_cases h3 : v.Kind = 3
  ·simp [h3]
  by_cases h4 : v.Kind = 4
  ·simp [h4]
  simp [h, h3, h4]
 unfold Vr Vl
 rw [sizeOf_eq, Je, cI]
 by_cases hk : kindP v.Kind
 ·have hz : ¬ (if v.Kind = 13 then (1 : Int) else (Qe v.Kind : Int)) = 0 := by
   by_cases h13 : v.Kind = 13
   ·rw [if_pos h13]; omega
   ·rw [if_neg h13]; exact fun e => (wide_zero _ h13).1 e hk
  rw [if_neg hz, hi, Je, j1_fields, j1_fields, if_neg (show ¬ ¬ kindP v.Kind from fun h => h hk)]
  by_cases h1 : W3 v.Kind
  ·rw [decide_eq_true h1]
   show Q9 false _ _ = _
   rw [Xi]; unfold formP; simp [h1]
  ·rw [decide_eq_false h1]
   show Q9 true _ _ = _
   rw [Y3]; unfold formP; simp [h1, List.length_pos_iff]
 ·have h13 : v.Kind ≠ 13 := fun e => hk (.inr (.inr (.inr e)))
  rw [if_neg h13, if_pos ((wide_zero _ h13).2 hk), if_pos hk]
def limS (k : Int) : Int × Int := if k = 1 then (0, 255) else if k = 3 then (0, 65535) else if k = 9 then (-2147483648, 2147483647) else (0, 4294967295)
theorem bounds_eq (k : Int) : tag_bounds k = some (limS k) := by
 unfold tag_bounds limS
 rw [cI, cI, cI]; (repeat' split) <;> rfl
theorem out_tag (a b c : Int) : Zx a b c = some (decide (a < b ∨ c < a)) := by
 unfold Zx
 rw [cI]
 by_cases h : a < b
 ·rw [if_pos h]; simp [h]
 ·rw [if_neg h]; simp [h]
def ratP (r : T_tag_Ratio) : Prop := (r.Num < 0 ∨ 4294967295 < r.Num) ∨ (r.Den < 0 ∨ 4294967295 < r.Den)
noncomputable def plainE (v : T_tag_Value) : Int := open Classical in
 if Vl v ≠ 0 then Vl v else if ∃ n ∈ v.Ints, n < (limS v.Kind).1 ∨ (limS v.Kind).2 < n then 2 else if ∃ r ∈ v.Ratios, ratP r then 2 else if v.Kind = 2 ∧ (0 : UInt8) ∈ v.Text then 9 else 0
theorem look_loop {α : Type} {F : (Int → Option Int) → Int → Option Int} (xs : List α) (p : α → Prop) (e : Int) (o : Option Int) (more : ∀ (next : Int → Option Int) (k : Nat) (hk : k < xs.length), (p xs[k] → F next (k : Int) = some e) ∧ (¬ p xs[k] → F next (k : Int) = next ((k : Int) + 1))) (stop : ∀ next, F next (xs.length : Int) = o) :
  V0 F 0 = open Classical in if ∃ x ∈ xs, p x then some e else o := by
 have key : ∀ m i : Nat, i + m = xs.length → V0 F (i : Int) = open Classical in if ∃ x ∈ xs.drop i, p x then some e else o := by
  intro m
  induction m with
  | zero =>
   intro i hi
   have : i = xs.length := by omega
   subst this
   rw [List.drop_length, if_neg (by simp)]
   exact Qm stop
  | succ m ih =>
   intro i hi
   have hlt : i < xs.length := by omega
   rw [List.drop_eq_getElem_cons hlt]
   by_cases hp : p xs[i]
   ·rw [if_pos ⟨_, List.mem_cons_self, hp⟩]
    exact Qm fun next => (more next i hlt).1 hp
   ·rw [Qw ((i : Int) + 1) (fun next => (more next i hlt).2 hp)]
    have := ih (i + 1) (by omega)
    rw [show ((i : Int) + 1) = ((i + 1 : Nat) : Int) from rfl, this]
    congr 1
    apply propext
    constructor
    ·rintro ⟨x, hx, h⟩; exact ⟨x, List.mem_cons_of_mem _ hx, h⟩
    ·rintro ⟨x, hx, h⟩
     rcases List.mem_cons.1 hx with h' | h'
     ·subst h'; exact absurd h hp
     ·exact ⟨x, h', h⟩
 have := key xs.length 0 (by omega)
 rw [List.drop_zero] at this
 exact this
def vB (v : T_tag_Value) : Prop := v.Text.length ≤ 2000000 ∧ v.Ints.length ≤ 2000000 ∧ v.Ratios.length ≤ 2000000
theorem j2_plain {v : T_tag_Value} (hb : vB v) : Y7 v = some (open Classical in if v.Kind = 2 ∧ (0 : UInt8) ∈ v.Text then 9 else 0) := by
 unfold Y7
 rw [cI]
 by_cases h2 : v.Kind = 2
 ·rw [if_pos h2, look_loop v.Text (fun c => c = 0) 9 (some 0) (fun next k hk => ?_) (fun next => ?_)]
  ·congr 1
   by_cases hm : (0 : UInt8) ∈ v.Text
   ·rw [if_pos ⟨0, hm, rfl⟩, if_pos ⟨h2, hm⟩]
   ·rw [if_neg (fun ⟨x, hx, e⟩ => hm (e ▸ hx)), if_neg (fun h => hm h.2)]
  ·show (_ → Xf v next (k : Int) = _) ∧ (_ → Xf v next (k : Int) = _)
   have := hb.1
   unfold Xf
   rw [cI, if_pos (by omega), gOct_nat hk, Je, cI]
   constructor
   ·intro e; rw [if_pos (by rw [e]; rfl)]
   ·intro e
    have : v.Text[k].toNat ≠ 0 := fun h => e (by rw [← UInt8.ofNat_toNat (x := v.Text[k]), h]; rfl)
    rw [if_neg (by omega), J4 (by omega), Je]
  ·show Xf v next (v.Text.length : Int) = _
   unfold Xf
   rw [cI, if_neg (by omega)]
 ·rw [if_neg h2, if_neg (fun h => h2 h.1)]
theorem checkPlain_eq {v : T_tag_Value} (hb : vB v) : W5 v = some (plainE v) := by
 unfold W5 plainE
 rw [checkFields_eq, Je, cI]
 by_cases hf : Vl v ≠ 0
 ·rw [if_pos hf, if_pos hf]
 rw [if_neg hf, if_neg hf, bounds_eq, Je]
 rw [look_loop (F := fun next5 s => Q7 v (limS v.Kind) next5 s) v.Ints (fun n => n < (limS v.Kind).1 ∨ (limS v.Kind).2 < n) 2 (Y5 v) (fun next k hk => ?_) (fun next => ?_)]
 ·have e1 : Y5 v = some (open Classical in if ∃ r ∈ v.Ratios, ratP r then 2 else if v.Kind = 2 ∧ (0 : UInt8) ∈ v.Text then 9 else 0) := by
   unfold Y5
   rw [look_loop (F := fun next4 s => Q6 v next4 s) v.Ratios ratP 2 (Y7 v) (fun next k hk => ?_) (fun next => ?_), j2_plain hb]
   ·split <;> rfl
   ·show (_ → Q6 v next (k : Int) = _) ∧ (_ → Q6 v next (k : Int) = _)
    have := hb.2.2
    unfold Q6 ratP
    rw [cI, if_pos (by omega), Yk hk, Je, out_tag, Je, cI, out_tag, Je, cI]
    constructor
    ·intro e
     by_cases h1 : v.Ratios[k].Num < 0 ∨ 4294967295 < v.Ratios[k].Num
     ·rw [if_pos h1]
     ·rw [if_neg h1, if_pos (e.resolve_left h1)]
    ·intro e
     rw [if_neg (fun h => e (.inl h)), if_neg (fun h => e (.inr h)), J4 (by omega), Je]
   ·show Q6 v next (v.Ratios.length : Int) = _
    unfold Q6
    rw [cI, if_neg (by omega)]
  rw [e1]; split <;> rfl
 ·show (_ → Q7 v _ next (k : Int) = _) ∧ (_ → Q7 v _ next (k : Int) = _)
  have := hb.2.1
  unfold Q7
  rw [cI, if_pos (by omega), Yk hk, Je, out_tag, Je, cI]
  constructor
  ·intro e; rw [if_pos e]
  ·intro e; rw [if_neg e, J4 (by omega), Je]
 ·show Q7 v _ next (v.Ints.length : Int) = _
  unfold Q7
  rw [cI, if_neg (by omega)]
end Go.M

/- Directories checked, values as octets, in plain Lean. Conditions: none. -/
namespace Go.M
open Go.Md Go.Pl
def szD : Nat → List T_tag_Entry → Nat
 | 0, _ => 0
 | d + 1, l => (l.map fun e => 1 + e.Value.Text.length + e.Value.Ints.length + e.Value.Ratios.length + szD d e.Value.Entries).sum
def szE (d : Nat) (e : T_tag_Entry) : Nat := 1 + e.Value.Text.length + e.Value.Ints.length + e.Value.Ratios.length + szD d e.Value.Entries
theorem szD_nil (d : Nat) : szD (d + 1) [] = 0 := rfl
theorem szD_cons (d : Nat) (e : T_tag_Entry) (l : List T_tag_Entry) : szD (d + 1) (e :: l) = szE d e + szD (d + 1) l := by
 simp only [szD, szE, List.map_cons, List.sum_cons]
theorem szD_mem {d : Nat} {e : T_tag_Entry} : ∀ {l : List T_tag_Entry}, e ∈ l → szE d e ≤ szD (d + 1) l
 | [], h => by cases h
 | x :: l, h => by
  rw [szD_cons]
  rcases List.mem_cons.1 h with h | h
  ·subst h; omega
  ·have := szD_mem (d := d) h; omega
theorem vB_of {d : Nat} {e : T_tag_Entry} {l : List T_tag_Entry} (h : szD (d + 1) l ≤ 2000000) (he : e ∈ l) : vB e.Value ∧ szD d e.Value.Entries ≤ 2000000 := by
 have := szD_mem (d := d) he
 unfold szE at this
 unfold vB
 omega
def prevT (l : List T_tag_Entry) : Nat → Option Int
 | 0 => none
 | k + 1 => (l[k]?).map (·.Tag)
def lowP (pr : Option Int) (e : T_tag_Entry) : Prop := ∃ t, pr = some t ∧ e.Tag ≤ t
noncomputable def listE (f : T_tag_Entry → Int) : Option Int → List T_tag_Entry → Int
 | _, [] => 0
 | pr, e :: l => open Classical in if e.Tag < 0 ∨ 65535 < e.Tag then 2 else if lowP pr e then 5 else if f e ≠ 0 then f e else listE f (some e.Tag) l
theorem list_loop {G : (Int → Option Int) → Int → Option Int} (l : List T_tag_Entry) (f : T_tag_Entry → Int)
  (more : ∀ (next : Int → Option Int) (k : Nat) (hk : k < l.length), G next (k : Int) = open Classical in if l[k].Tag < 0 ∨ 65535 < l[k].Tag then some 2 else if lowP (prevT l k) l[k] then some 5 else if f l[k] ≠ 0 then some (f l[k]) else next ((k : Int) + 1))
  (stop : ∀ next, G next (l.length : Int) = some 0) : V0 G 0 = some (listE f none l) := by
 have key : ∀ m i : Nat, i + m = l.length → V0 G (i : Int) = some (listE f (prevT l i) (l.drop i)) := by
  intro m
  induction m with
  | zero =>
   intro i hi
   have : i = l.length := by omega
   subst this
   rw [List.drop_length]
   exact Qm stop
  | succ m ih =>
   intro i hi
   have hlt : i < l.length := by omega
   rw [List.drop_eq_getElem_cons hlt]
   unfold listE
   by_cases h1 : l[i].Tag < 0 ∨ 65535 < l[i].Tag
   ·rw [if_pos h1]
    exact Qm fun next => by rw [more next i hlt, if_pos h1]
   rw [if_neg h1]
   by_cases h2 : lowP (prevT l i) l[i]
   ·rw [if_pos h2]
    exact Qm fun next => by rw [more next i hlt, if_neg h1, if_pos h2]
   rw [if_neg h2]
   by_cases h3 : f l[i] ≠ 0
   ·rw [if_pos h3]
    exact Qm fun next => by rw [more next i hlt, if_neg h1, if_neg h2, if_pos h3]
   rw [if_neg h3, Qw ((i : Int) + 1) (fun next => by rw [more next i hlt, if_neg h1, if_neg h2, if_neg h3])]
   have := ih (i + 1) (by omega)
   have e1 : prevT l (i + 1) = some l[i].Tag := by show (l[i]?).map _ = _; rw [List.getElem?_eq_getElem hlt]; rfl
   rw [e1] at this
   exact this
 have := key l.length 0 (by omega)
 rw [List.drop_zero] at this
 exact this
theorem listE_zero {f : T_tag_Entry → Int} : ∀ {l : List T_tag_Entry} {pr : Option Int}, listE f pr l = 0 → ∀ e ∈ l, f e = 0
 | [], _, _, e, he => by cases he
 | x :: l, pr, h, e, he => by
  unfold listE at h
  split at h
  ·omega
  split at h
  ·omega
  split at h
  ·rename_i h1; exact absurd h h1
  ·rename_i h1
   rcases List.mem_cons.1 he with h' | h'
   ·subst h'; simpa using h1
   ·exact listE_zero h e h'
noncomputable def dE : Nat → List T_tag_Entry → Int
 | 0, _ => 4
 | d + 1, l => if 200 < l.length then 4 else listE (fun e => if e.Value.Kind ≠ 13 then plainE e.Value else if Vl e.Value ≠ 0 then Vl e.Value else dE d e.Value.Entries) none l
theorem low_step {α : Type} {l : List T_tag_Entry} {k : Nat} (hk : k < l.length) (hl : l.length ≤ 1000) (J : Option α) (x : α) :
  Q9 (decide (0 < (k : Int))) (J8 (gI ((k : Int) - 1)) fun t => J8 (Vn l t) fun t35 => Q9 (decide (l[k].Tag ≤ t35.Tag)) (some x) J) J = open Classical in if lowP (prevT l k) l[k] then some x else J := by
 rw [cI]
 cases k with
 | zero =>
  rw [if_neg (by omega), if_neg]
  rintro ⟨t, h, _⟩
  cases h
 | succ k =>
  have e : prevT l (k + 1) = some l[k].Tag := by show (l[k]?).map _ = _; rw [List.getElem?_eq_getElem (by omega)]; rfl
  rw [if_pos (by omega), J4 (by omega), Je, show (((k + 1 : Nat) : Int) - 1) = (k : Int) from by omega, Yk (by omega), Je, cI, e]
  by_cases h : l[k + 1].Tag ≤ l[k].Tag
  ·rw [if_pos h, if_pos ⟨_, rfl, h⟩]
  ·rw [if_neg h, if_neg]
   rintro ⟨t, ht, h'⟩
   cases ht
   exact h h'
theorem checkDir_eq (d : Nat) (l : List T_tag_Entry) (deep : Int) (hd : deep = 6 - (d : Int)) (h5 : d ≤ 5) (hz : szD d l ≤ 2000000) : Ut l deep = some (dE d l) := by
 unfold Ut
 refine fix_ofG (fun d (a : List T_tag_Entry × Int) => some (dE d a.1)) (fun d a => a.2 = 6 - (d : Int) ∧ d ≤ 5 ∧ szD d a.1 ≤ 2000000) (fun d => d) ?_ d (l, deep) ⟨hd, h5, hz⟩
 rintro next d ⟨l, deep⟩ ⟨hd, h5, hz⟩ ih
 simp only at hd hz
 show X2 next l deep = some (dE d l)
 unfold X2
 rw [cI, cI]
 cases d with
 | zero => rw [if_pos (by omega)]; rfl
 | succ d =>
  rw [if_neg (by omega)]
  unfold dE
  by_cases hl : 200 < l.length
  ·rw [if_pos (by omega), if_pos hl]
  rw [if_neg (by omega), if_neg hl]
  refine list_loop l _ (fun nx k hk => ?_) (fun nx => ?_)
  ·obtain ⟨hb, hzn⟩ := vB_of hz (List.getElem_mem hk)
   unfold Zb
   rw [cI, if_pos (by omega), Yk hk, Je, out_tag, Je, cI]
   by_cases h1 : l[k].Tag < 0 ∨ 65535 < l[k].Tag
   ·rw [if_pos h1, if_pos h1]
   rw [if_neg h1, if_neg h1, low_step hk (by omega)]
   congr 1
   unfold Vo
   have e3 : ∀ x : Int, Za (k : Int) nx x = if x ≠ 0 then some x else nx ((k : Int) + 1) := fun x => by
    unfold Za; rw [cI, J4 (by omega), Je]
   rw [cI]
   by_cases h13 : l[k].Value.Kind ≠ 13
   ·rw [if_pos h13, checkPlain_eq hb, Je, e3]; simp only [if_pos h13]
   ·rw [if_neg h13, checkFields_eq, Je, cI]
    simp only [if_neg h13]
    by_cases hf : Vl l[k].Value = 0
    ·have := ih d (l[k].Value.Entries, deep + 1) ⟨by show deep + 1 = _; omega, by omega, hzn⟩ (by omega)
     rw [if_pos hf, J4 (by omega), Je, this, Je, e3, if_neg (show ¬ Vl l[k].Value ≠ 0 from fun h => h hf)]
    ·rw [if_neg hf, e3]; simp [hf]
  ·unfold Zb
   rw [cI, if_neg (by omega)]
theorem fields13 {v : T_tag_Value} (h : v.Kind = 13) : Vl v = open Classical in if v.Text ≠ [] ∨ v.Ints ≠ [] ∨ v.Ratios ≠ [] then 1 else 0 := by
 unfold Vl
 rw [if_neg (show ¬ ¬ kindP v.Kind from fun x => x (.inr (.inr (.inr h))))]
 congr 1
 apply propext
 unfold formP W3 textK
 rw [h]
 constructor
 ·rintro (⟨_, a⟩ | ⟨_, a⟩ | ⟨_, a⟩ | ⟨a, _⟩)
  ·exact .inr (.inl a)
  ·exact .inl a
  ·exact .inr (.inr a)
  ·exact absurd rfl a
 ·rintro (a | a | a)
  ·exact .inr (.inl ⟨by omega, a⟩)
  ·exact .inl ⟨by omega, a⟩
  ·exact .inr (.inr (.inl ⟨by omega, a⟩))
def okV (v : T_tag_Value) : Prop := kindP v.Kind ∧ ¬ formP v
def okD : Nat → List T_tag_Entry → Prop
 | 0, _ => False
 | d + 1, l => l.length ≤ 200 ∧ ∀ e ∈ l, okV e.Value ∧ (e.Value.Kind = 13 → okD d e.Value.Entries)
theorem fields_ok {v : T_tag_Value} (h : Vl v = 0) : okV v := by
 unfold Vl at h
 split at h
 ·omega
 split at h
 ·omega
 rename_i h1 h2
 exact ⟨Classical.byContradiction h1, h2⟩
theorem dE_ok : ∀ {d : Nat} {l : List T_tag_Entry}, dE d l = 0 → okD d l := by
 intro d
 induction d with
 | zero => intro l h; unfold dE at h; omega
 | succ d ih =>
  intro l h
  unfold dE at h
  split at h
  ·omega
  rename_i hl
  refine ⟨by omega, fun e he => ?_⟩
  have := listE_zero h e he
  split at this
  ·rename_i h13
   refine ⟨?_, fun h => absurd h h13⟩
   unfold plainE at this
   split at this
   ·rename_i h1; exact absurd this h1
   ·rename_i h1; exact fields_ok (by simpa using h1)
  ·split at this
   ·rename_i h1; exact absurd this h1
   ·rename_i h1; exact ⟨fields_ok (by simpa using h1), fun _ => ih this⟩
theorem fold_ofStr {α : Type} (g : α → List UInt8) : ∀ (xs : List α) (a : List UInt8), xs.foldl (fun s x => s ++ Qk (g x)) (Qk a) = Qk (a ++ xs.flatMap g)
 | [], a => by simp
 | x :: xs, a => by rw [List.foldl_cons, ← Y9, fold_ofStr g xs]; simp
noncomputable def ratS (big : Bool) (r : T_tag_Ratio) : List UInt8 := Xl big r.Num 4 ++ Xl big r.Den 4
noncomputable def V4 (big : Bool) (v : T_tag_Value) : List UInt8 :=
 if v.Kind = 2 then v.Text ++ [0] else if v.Kind = 7 then v.Text else if v.Kind = 5 then v.Ratios.flatMap (ratS big) else v.Ints.flatMap fun n => Xl big n (Qe v.Kind)
def cntS (v : T_tag_Value) : Nat := if v.Kind = 2 then v.Text.length + 1 else if v.Kind = 7 then v.Text.length else if v.Kind = 5 then v.Ratios.length else if v.Kind = 13 then 1 else v.Ints.length
theorem Wo {α : Type} {g : α → List UInt8} {w : Nat} (h : ∀ x, (g x).length = w) : ∀ xs : List α, (xs.flatMap g).length = xs.length * w
 | [] => by simp
 | x :: xs => by rw [List.flatMap_cons, List.length_append, h, Wo h xs, List.length_cons, Nat.add_mul]; omega
theorem ratS_len (big : Bool) (r : T_tag_Ratio) : (ratS big r).length = 8 := by
 unfold ratS; rw [List.length_append, Qh _ _ (by omega), Qh _ _ (by omega)]
theorem octS_len (big : Bool) {v : T_tag_Value} (hv : okV v) (h13 : v.Kind ≠ 13) : (V4 big v).length = cntS v * Qe v.Kind := by
 unfold V4 cntS
 by_cases h2 : v.Kind = 2
 ·rw [if_pos h2, if_pos h2, List.length_append, h2]; simp [Qe]
 rw [if_neg h2, if_neg h2]
 by_cases h7 : v.Kind = 7
 ·rw [if_pos h7, if_pos h7, h7]; simp [Qe]
 rw [if_neg h7, if_neg h7]
 by_cases h5 : v.Kind = 5
 ·rw [if_pos h5, if_pos h5, h5, Wo (ratS_len big)]; rfl
 rw [if_neg h5, if_neg h5, if_neg h13, Wo (w := Qe v.Kind) (fun n => Qh _ _ (Ui _))]
theorem octS_le (big : Bool) (v : T_tag_Value) : (V4 big v).length ≤ 1 + v.Text.length + 8 * v.Ints.length + 8 * v.Ratios.length := by
 unfold V4
 split
 ·rw [List.length_append, List.length_singleton]; omega
 split
 ·omega
 split
 ·rw [Wo (ratS_len big)]; omega
 ·rw [Wo (w := Qe v.Kind) (fun n => Qh _ _ (Ui _))]
  have := Nat.mul_le_mul_left v.Ints.length (Ui v.Kind)
  omega
theorem count_eq {v : T_tag_Value} (hb : vB v) : Xs v = some (cntS v : Int) := by
 unfold Xs cntS
 have := hb.1
 rw [cI, cI, cI, cI]
 by_cases h2 : v.Kind = 2
 ·rw [if_pos h2, if_pos h2, J4 (by omega), Je]; rfl
 by_cases h7 : v.Kind = 7
 ·rw [if_neg h2, if_pos h7, if_neg h2, if_pos h7]
 by_cases h5 : v.Kind = 5
 ·rw [if_neg h2, if_neg h7, if_pos h5, if_neg h2, if_neg h7, if_pos h5]
 by_cases h13 : v.Kind = 13
 ·rw [if_neg h2, if_neg h7, if_neg h5, if_pos h13, if_neg h2, if_neg h7, if_neg h5, if_pos h13]; rfl
 rw [if_neg h2, if_neg h7, if_neg h5, if_neg h13, if_neg h2, if_neg h7, if_neg h5, if_neg h13]
theorem ok_parts {v : T_tag_Value} (hv : okV v) : (¬ W3 v.Kind → v.Ints = []) ∧ (¬ textK v.Kind → v.Text = []) ∧ (v.Kind ≠ 5 → v.Ratios = []) := by
 obtain ⟨_, hf⟩ := hv
 unfold formP at hf
 refine ⟨fun h => ?_, fun h => ?_, fun h => ?_⟩
 ·exact Classical.byContradiction fun e => hf (.inl ⟨h, e⟩)
 ·exact Classical.byContradiction fun e => hf (.inr (.inl ⟨h, e⟩))
 ·exact Classical.byContradiction fun e => hf (.inr (.inr (.inl ⟨h, e⟩)))
theorem tag_ratios {big : Bool} {v : T_tag_Value} (hb : vB v) (a : List UInt8) (ha : a.length ≤ 16000000) : Vs big v (Qk a) = some (Qk (a ++ v.Ratios.flatMap (ratS big))) := by
 unfold Vs
 have hr := hb.2.2
 rw [← fold_ofStr]
 refine fix_list (F := fun next2 s => Yj big v next2 s.1 s.2) v.Ratios (fun s r => s ++ Qk (ratS big r)) some (fun k s => s.length ≤ a.length + 8 * k) (fun next k s hk hs => ?_) (fun next s hs => ?_) _ (by rw [Qs]; omega)
 ·refine ⟨?_, by show (s ++ _).length ≤ _; rw [List.length_append, Qs, ratS_len]; omega⟩
  show Yj big v next (k : Int) s = _
  unfold Yj
  have l1 : (Qk (Xl big v.Ratios[k].Num 4)).length = 4 := by rw [Qs, Qh _ _ (by omega)]
  have l2 : (Qk (Xl big v.Ratios[k].Den 4)).length = 4 := by rw [Qs, Qh _ _ (by omega)]
  rw [cI, if_pos (by omega), Yk hk, Je, tag4, Je, Yf (by omega), Je, tag4, Je, Yf (by rw [List.length_append]; omega), Je, J4 (by omega), Je]
  unfold ratS
  rw [Y9, List.append_assoc]
 ·show Yj big v next (v.Ratios.length : Int) s = _
  unfold Yj
  rw [cI, if_neg (by omega)]
theorem octets_eq {big : Bool} {v : T_tag_Value} (hb : vB v) (hv : okV v) (h13 : v.Kind ≠ 13) : Xj big v = some (Qk (V4 big v)) := by
 have hb' := hb
 obtain ⟨b1, b2, b3⟩ := hb'
 obtain ⟨p1, p2, p3⟩ := ok_parts hv
 unfold Xj V4
 rw [cI, cI]
 by_cases h2 : v.Kind = 2
 ·rw [if_pos h2, if_pos h2, gByt_ok (by omega), Je, gApL_ok (by rw [Qs, List.length_singleton]; omega), Je, Y9]; rfl
 by_cases h7 : v.Kind = 7
 ·rw [if_neg h2, if_pos h7, if_neg h2, if_pos h7, gByt_ok (by omega), Je]
 rw [if_neg h2, if_neg h7, if_neg h2, if_neg h7]
 have hloop := fix_list (F := fun next3 s => Yh big v next3 s.1 s.2) v.Ints (fun s n => s ++ Qk (Xl big n (Qe v.Kind))) (Vs big v) (fun k s => s.length ≤ 8 * k) (fun next k s hk hs => by
   have hw := Ui v.Kind
   have l1 : (Qk (Xl big v.Ints[k] (Qe v.Kind))).length = Qe v.Kind := by rw [Qs, Qh _ _ hw]
   refine ⟨?_, by show (s ++ _).length ≤ _; rw [List.length_append, l1]; omega⟩
   show Yh big v next (k : Int) s = _
   unfold Yh
   rw [cI, if_pos (by omega), Yk hk, Je, sizeOf_eq, Je, if_neg h13, num_tag _ _ hw, Je, Yf (by omega), Je, J4 (by omega), Je]) (fun next s hs => by
   show Yh big v next (v.Ints.length : Int) s = _
   unfold Yh
   rw [cI, if_neg (by omega)]) [] (by simp)
 rw [hloop, show ([] : List Int) = Qk [] from rfl, fold_ofStr, List.nil_append]
 have hlen : (v.Ints.flatMap fun n => Xl big n (Qe v.Kind)).length ≤ 16000000 := by
  rw [Wo (w := Qe v.Kind) (fun n => Qh _ _ (Ui _))]
  have := Nat.mul_le_mul_left v.Ints.length (Ui v.Kind)
  omega
 rw [tag_ratios hb _ hlen]
 by_cases h5 : v.Kind = 5
 ·rw [if_pos h5, p1 (by rw [h5]; unfold W3; omega)]; rfl
 ·rw [if_neg h5, p3 h5, List.flatMap_nil, List.append_nil]
end Go.M
