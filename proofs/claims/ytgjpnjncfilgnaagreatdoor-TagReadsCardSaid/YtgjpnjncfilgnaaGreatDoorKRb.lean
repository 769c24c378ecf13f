/- TagReads, read: the walks, printed by our generator; each follows its model. Conditions: the model yields a value. -/
import Derived.Test.YtgjpnjncfilgnaaGreatDoorKRa
namespace Go.Proofs.YtgjpnjncfilgnaaGreatDoor
open Go Go.Vc Go.Md Go.M Go.Lx
set_option maxRecDepth 100000
set_option maxHeartbeats 4000000
set_option linter.unusedVariables false
theorem k126 {a0 : (List UInt8)} {r : Bool} (H : Uz a0 = some r) : Ret Tryz.prog 126 [Jv a0] (.bool r) := by
 refine Wa (n := 14) Tryz.func126 rfl rfl rfl (fun wd => ?_)
 refine Jf ?_
 refine Jb ?_
 refine Ja rfl rfl rfl (Jc (v := .bool false) rfl) ?_
 refine Jg ?_
 refine Jf ?_
 refine Jf ?_
 refine Jb ?_
 refine Ja rfl rfl rfl (Je (v := Jv a0) rfl) ?_
 refine Ja rfl rfl rfl (Z0 Tryz.underlying9 rfl) ?_
 refine Ja rfl rfl rfl (Zc rfl rfl) ?_
 refine Jg ?_
 refine Qd (b := (decide ((a0.length : Int) < 8))) rfl (fun hb => ?_) (fun hb => ?_)
 ·have H7 := Jp hb H; clear H
  refine Jf ?_
  refine Jb ?_
  refine Ja rfl rfl rfl (Jc (v := .bool false) rfl) ?_
  refine Jg ?_
  refine Jx ?_
  obtain rfl := Option.some.inj H7
  refine Qn (v := .bool false) rfl rfl (Yh rfl)
 ·have H8 := Jq hb H; clear H
  refine Jt ?_
  refine Jf ?_
  refine Jb ?_
  refine Ja rfl rfl rfl (Je (v := Jv a0) rfl) ?_
  obtain ⟨t7, h_t7, H9⟩ := Jh H8; clear H8
  refine Ja rfl rfl rfl (Jaj Tryz.underlying9 rfl rfl h_t7) ?_
  refine Ja rfl rfl rfl (r_eqlT rfl rfl) ?_
  refine Ja rfl rfl rfl (Je (v := .bool (decide (t7 = [73, 73, 42, 0]))) rfl) ?_
  refine split (fun hb => ?_) (fun hb => ?_)
  ·have H10 := Jp hb H9; clear H9
   refine Ji rfl rfl rfl ?_
   refine Ji rfl rfl rfl ?_
   refine Ji rfl rfl rfl ?_
   refine Ja rfl rfl rfl (J9 (v := .bool true) rfl rfl) ?_
   refine Ja rfl rfl rfl (Jc (v := .bool true) rfl) ?_
   refine Jg ?_
   refine Jx ?_
   obtain rfl := Option.some.inj H10
   refine Qn (v := .bool true) rfl rfl (Yh rfl)
  ·have H11 := Jq hb H9; clear H9
   refine Ja rfl rfl rfl (Je (v := Jv a0) rfl) ?_
   obtain ⟨t11, h_t11, H12⟩ := Jh H11; clear H11
   refine Ja rfl rfl rfl (Jaj Tryz.underlying9 rfl rfl h_t11) ?_
   refine Ja rfl rfl rfl (r_eqlT rfl rfl) ?_
   refine Ja rfl rfl rfl (Qf (v := .bool (decide (t11 = [77, 77, 0, 42]))) rfl rfl) ?_
   refine Ja rfl rfl rfl (Jc (v := .bool (decide (t11 = [77, 77, 0, 42]))) rfl) ?_
   refine Jg ?_
   refine Jx ?_
   obtain rfl := Option.some.inj H12
   refine Qn (v := .bool (decide (t11 = [77, 77, 0, 42]))) rfl rfl (Yh rfl)
theorem k77 {a0 : Bool} {a1 : (List UInt8)} {a2 : Int} {a3 : Int} {r : Int} (H : U8 a0 a1 a2 a3 = some r) : Ret Tryz.prog 77 [.bool a0, Jv a1, .int .i64 a2, .int .i64 a3] (.int .i64 r) := by
 refine Wa (n := 33) Tryz.func77 rfl rfl rfl (fun wd => ?_)
 refine Jf ?_
 refine Jb ?_
 refine Ja rfl rfl rfl (Jc (v := .int .i64 0) rfl) ?_
 refine Jg ?_
 refine Jf ?_
 refine Jb ?_
 refine Ja rfl rfl rfl (Jc (v := .int .i64 0) rfl) ?_
 refine Jg ?_
 refine Jf ?_
 refine Jf ?_
 refine Jb ?_
 refine Ja rfl rfl rfl (Je (v := .int .i64 a3) rfl) ?_
 refine Ja rfl rfl rfl (Je (v := .int .i64 0) rfl) ?_
 refine Jg ?_
 refine J8 ?_
 refine Z2 (σ := Int × Int) (τ := Unit) (fun next1 s => Yw a0 a1 a2 a3 next1 s.1 s.2) (fun s t => [(0, .bool a0), (1, Jv a1), (2, .int .i64 a2), (3, .int .i64 a3), (9, .int .i64 s.1), (12, .int .i64 a3), (13, .int .i64 s.2)]) (fun s t => []) (fun s t => True) (0, 0) () [] H (by exact trivial) (by exact ⟨rfl, rfl, rfl, rfl, rfl, rfl, rfl, trivial⟩) (by decide) rfl ?_
 rintro ⟨x9_2, x13_2⟩ _ m1 gg H14 _
 clear H
 replace H14 : Yw a0 a1 a2 a3 (it (fun next1 s => Yw a0 a1 a2 a3 next1 s.1 s.2) m1) x9_2 x13_2 = some r := H14
 generalize hn1 : it (fun next1 s => Yw a0 a1 a2 a3 next1 s.1 s.2) m1 = next1 at H14
 try dsimp only
 refine Jf ?_
 refine Jb ?_
 refine Ja rfl rfl rfl (Zc rfl rfl) ?_
 refine Jg ?_
 refine Jf ?_
 refine Qd (b := (decide (x13_2 < a3))) rfl (fun hb => ?_) (fun hb => ?_)
 ·have H15 := Jp hb H14; clear H14
  refine Jt ?_
  refine Jf ?_
  refine J8 ?_
  refine Jf ?_
  refine Jb ?_
  refine Ja rfl rfl rfl (Je (v := .int .i64 x13_2) rfl) ?_
  refine Ja rfl rfl rfl (Jc (v := .int .i64 x13_2) rfl) ?_
  refine Jg ?_
  refine Jf ?_
  refine Jb ?_
  refine Ja rfl rfl rfl (Je (v := .int .i64 a3) rfl) ?_
  obtain ⟨t17, h_t17, H16⟩ := Jh H15; clear H15
  refine Ja rfl rfl rfl (Wv rfl rfl h_t17) ?_
  refine Ja rfl rfl rfl (Je (v := .int .i64 x13_2) rfl) ?_
  obtain ⟨t19, h_t19, H17⟩ := Jh H16; clear H16
  refine Ja rfl rfl rfl (Wv rfl rfl h_t19) ?_
  refine Ja rfl rfl rfl (Jc (v := .int .i64 t19) rfl) ?_
  refine Jg ?_
  refine Qz (r := r) (σ := Int) (τ := Unit) (fun s => Wl a1 a2 x9_2 x13_2 next1 s) (fun s t => [(0, .bool a0), (1, Jv a1), (2, .int .i64 a2), (3, .int .i64 a3), (9, .int .i64 x9_2), (11, .int .i64 s), (12, .int .i64 a3), (13, .int .i64 x13_2)]) (fun s t => []) (fun s t => True) ?_ ?_
  ·refine Jf ?_
   refine Jb ?_
   refine Ja rfl rfl rfl (Je (v := .bool a0) rfl) ?_
   refine Jg ?_
   refine Qd (b := a0) rfl (fun hb => ?_) (fun hb => ?_)
   ·have H24 := Jp hb H17; clear H17
    refine Jb ?_
    refine Ja rfl rfl rfl (Je (v := .int .i64 x13_2) rfl) ?_
    refine Ja rfl rfl rfl (Jc (v := .int .i64 x13_2) rfl) ?_
    refine Jg ?_
    refine Jn x13_2 () 0 [] (by exact ⟨rfl, rfl, rfl, rfl, rfl, rfl, rfl, rfl, trivial⟩) (by decide) (by kernel_rfl) (by exact ⟨H24, trivial⟩) (Nat.lt_succ_self _)
   ·have H25 := Jq hb H17; clear H17
    refine Jt ?_
    refine Jn t19 () 0 [] (by exact ⟨rfl, rfl, rfl, rfl, rfl, rfl, rfl, rfl, trivial⟩) (by decide) (by kernel_rfl) (by exact ⟨H25, trivial⟩) (Nat.lt_succ_self _)
  ·rintro x11 _ gg H18 _
   replace H18 : Wl a1 a2 x9_2 x13_2 next1 x11 = some r := H18
   try dsimp only
   refine Jb ?_
   refine Ja rfl rfl rfl (Je (v := .int .i64 x9_2) rfl) ?_
   obtain ⟨t23, h_t23, H19⟩ := Jh H18; clear H18
   refine Ja rfl rfl rfl (r_shlG rfl rfl h_t23) ?_
   refine Ja rfl rfl rfl (Je (v := Jv a1) rfl) ?_
   refine Ja rfl rfl rfl (Je (v := .int .i64 a2) rfl) ?_
   refine Ja rfl rfl rfl (Je (v := .int .i64 x11) rfl) ?_
   obtain ⟨t27, h_t27, H20⟩ := Jh H19; clear H19
   refine Ja rfl rfl rfl (Qe rfl rfl h_t27) ?_
   obtain ⟨t28, h_t28, H21⟩ := Jh H20; clear H20
   refine Ja rfl rfl rfl (r_octG Tryz.underlying9 rfl rfl h_t28) ?_
   obtain ⟨t29, h_t29, H22⟩ := Jh H21; clear H21
   refine Ja rfl rfl rfl (r_convG Tryz.runUnderlying5 Tryz.runUnderlying3 rfl (gK_i64 h_t29)) ?_
   refine Ja rfl rfl rfl (r_bitsOr (bits := 64) rfl rfl rfl (wr_i64 _)) ?_
   refine Ja rfl rfl rfl (Jc (v := .int .i64 (wI64 (bOr 64 t23 t29))) rfl) ?_
   refine Jg ?_
   refine Jb ?_
   obtain ⟨t31, h_t31, H23⟩ := Jh H22; clear H22
   refine Ja rfl rfl rfl (Qe rfl rfl h_t31) ?_
   refine Ja rfl rfl rfl (Je (v := .int .i64 t31) rfl) ?_
   refine Jg ?_
   refine Jn ((wI64 (bOr 64 t23 t29)), t31) () m1 [] (by exact ⟨rfl, rfl, rfl, rfl, rfl, rfl, rfl, trivial⟩) (by decide) (by kernel_rfl) (by exact ⟨(by subst hn1; exact H23), trivial⟩) (Nat.lt_succ_self _)
 ·have H26 := Jq hb H14; clear H14
  refine X3 ?_
  refine Jf ?_
  refine Jb ?_
  refine Ja rfl rfl rfl (Je (v := .int .i64 x9_2) rfl) ?_
  refine Ja rfl rfl rfl (Jc (v := .int .i64 x9_2) rfl) ?_
  refine Jg ?_
  refine Jx ?_
  obtain rfl := Option.some.inj H26
  refine Qn (v := .int .i64 x9_2) rfl rfl (Yh rfl)
theorem k127 {a0 : T_tag_reader} {v0_2 : Value} {v0_3 : Value} {pb0 : Nat} {a1 : Int} {a2 : Int} {r : Int} {w : World} {h : Qj} (hw : Know h w Vi) (f0_2 : FrS h 2 v0_2 (a0.parts_.map Jj)) (f0_3 : FrM h (fun x_ : Int => .int .i64 x_) (fun x_ : Bool => .bool x_) v0_3 a0.seen_) (hb0 : h pb0 = some (.cells (List.toArray [Jv a0.s_, .bool a0.big_, v0_2, v0_3, .int .i64 a0.dirs_, (Qo a0.found_), .int .i64 a0.no_]) 195 (0, 0))) (H : Jy a0 a1 a2 = some r) : Does Tryz.prog 127 (List.toArray [.pointer (some ⟨pb0, 0, none⟩), .int .i64 a1, .int .i64 a2]) w (fun v w' => v = (.int .i64 r) ∧ Grow w w') := by
 refine enter (n := 18) Tryz.func127 rfl rfl rfl Vi [] (Sat.nil _ _) ?_
 refine Jf ?_
 refine Jb ?_
 refine Ja rfl rfl rfl (Jc (v := .int .i64 0) rfl) ?_
 refine Jg ?_
 refine Jf ?_
 exact Xp (Kd.p :: Kd.p :: Kd.p :: Kd.d [] _ :: Kd.p :: Kd.p :: Kd.p :: Kd.d [] _ :: Kd.p :: Kd.p :: Kd.d [] _ :: Kd.p :: []) 0 mixed (by
  refine Jm rfl rfl (Je (v := .pointer (some ⟨pb0, 0, none⟩)) rfl) ?_
  refine Jm rfl rfl (Ju rfl) ?_
  refine Jm rfl rfl (Jk Tryz.runUnderlying195 rfl Tryz.sizeOf4 rfl rfl) ?_
  refine d_read (fun w hF => U2 (v := .bool a0.big_) Tryz.isAgg4 rfl (hw.now hF _ _ hb0) rfl) rfl rfl ?_
  refine Jm rfl rfl (Je (v := .pointer (some ⟨pb0, 0, none⟩)) rfl) ?_
  refine Jm rfl rfl (Ju rfl) ?_
  refine Jm rfl rfl (Jk Tryz.runUnderlying195 rfl Tryz.sizeOf9 rfl rfl) ?_
  refine d_read (fun w hF => U2 (v := Jv a0.s_) Tryz.isAgg9 rfl (hw.now hF _ _ hb0) rfl) rfl rfl ?_
  refine Jm rfl rfl (Je (v := .int .i64 a1) rfl) ?_
  refine Jm rfl rfl (Je (v := .int .i64 a2) rfl) ?_
  have h_t17 := Qg H
  have H2 := J6 H
  refine d_call (k77 h_t17) Tryz.call77 rfl rfl ?_
  refine Jm rfl rfl (Jc (v := .int .i64 (val (U8 a0.big_ a0.s_ a1 a2))) rfl) ?_
  refine Zh ?_
  refine Jx ?_
  obtain rfl := Option.some.inj H2
  refine Qn (v := .int .i64 (val (U8 a0.big_ a0.s_ a1 a2))) rfl rfl (Yh rfl)
  ) (by kernel_rfl)
theorem k169 {a0 : T_tag_reader} {v0_2 : Value} {v0_3 : Value} {pb0 : Nat} {a1 : Int} {a2 : Int} {r : Bool} {w : World} {h : Qj} (hw : Know h w Vi) (f0_2 : FrS h 2 v0_2 (a0.parts_.map Jj)) (f0_3 : FrM h (fun x_ : Int => .int .i64 x_) (fun x_ : Bool => .bool x_) v0_3 a0.seen_) (hb0 : h pb0 = some (.cells (List.toArray [Jv a0.s_, .bool a0.big_, v0_2, v0_3, .int .i64 a0.dirs_, (Qo a0.found_), .int .i64 a0.no_]) 195 (0, 0))) (H : V3 a0 a1 a2 = some r) : Does Tryz.prog 169 (List.toArray [.pointer (some ⟨pb0, 0, none⟩), .int .i64 a1, .int .i64 a2]) w (fun v w' => v = (.bool r) ∧ Grow w w') := by
 refine enter (n := 29) Tryz.func169 rfl rfl rfl Vi [] (Sat.nil _ _) ?_
 refine Jf ?_
 refine Jb ?_
 refine Ja rfl rfl rfl (Jc (v := .bool false) rfl) ?_
 refine Jg ?_
 refine Jf ?_
 refine Jb ?_
 refine Ja rfl rfl rfl (Je (v := .int .i64 a1) rfl) ?_
 refine Ja rfl rfl rfl (r_geq rfl rfl) ?_
 refine Ja rfl rfl rfl (Je (v := .bool (decide (8 ≤ a1))) rfl) ?_
 refine split (fun hb => ?_) (fun hb => ?_)
 ·have H6 := Jp hb H; clear H
  refine Ja rfl rfl rfl (Je (v := .int .i64 a2) rfl) ?_
  refine Ja rfl rfl rfl (Je (v := .pointer (some ⟨pb0, 0, none⟩)) rfl) ?_
  refine Ja rfl rfl rfl (Ju rfl) ?_
  refine Ja rfl rfl rfl (Jk Tryz.runUnderlying195 rfl Tryz.sizeOf9 rfl rfl) ?_
  refine Yu (fun w hF hS => U2 (v := Jv a0.s_) Tryz.isAgg9 rfl (hw.now hF _ _ hb0) rfl) rfl rfl rfl ?_
  refine Ja rfl rfl rfl (Z0 Tryz.underlying9 rfl) ?_
  refine Ja rfl rfl rfl (r_leq rfl rfl) ?_
  refine Ja rfl rfl rfl (J9 (v := .bool (decide (a2 ≤ (a0.s_.length : Int)))) rfl rfl) ?_
  refine Ja rfl rfl rfl (Je (v := .bool (decide (a2 ≤ (a0.s_.length : Int)))) rfl) ?_
  refine split (fun hb => ?_) (fun hb => ?_)
  ·have H7 := Jp hb H6; clear H6
   refine Ja rfl rfl rfl (Je (v := .int .i64 a1) rfl) ?_
   refine Ja rfl rfl rfl (Je (v := .pointer (some ⟨pb0, 0, none⟩)) rfl) ?_
   refine Ja rfl rfl rfl (Ju rfl) ?_
   refine Ja rfl rfl rfl (Jk Tryz.runUnderlying195 rfl Tryz.sizeOf9 rfl rfl) ?_
   refine Yu (fun w hF hS => U2 (v := Jv a0.s_) Tryz.isAgg9 rfl (hw.now hF _ _ hb0) rfl) rfl rfl rfl ?_
   refine Ja rfl rfl rfl (Z0 Tryz.underlying9 rfl) ?_
   refine Ja rfl rfl rfl (Je (v := .int .i64 a2) rfl) ?_
   obtain ⟨t26, h_t26, H8⟩ := Jh H7; clear H7
   refine Ja rfl rfl rfl (Wv rfl rfl h_t26) ?_
   refine Ja rfl rfl rfl (r_leq rfl rfl) ?_
   refine Ja rfl rfl rfl (J9 (v := .bool (decide (a1 ≤ t26))) rfl rfl) ?_
   refine Ja rfl rfl rfl (Jc (v := .bool (decide (a1 ≤ t26))) rfl) ?_
   refine Jg ?_
   refine Jx ?_
   obtain rfl := Option.some.inj H8
   refine Qn (v := .bool (decide (a1 ≤ t26))) rfl rfl (Yh rfl)
  ·have H9 := Jq hb H6; clear H6
   refine Ji rfl rfl rfl ?_
   refine Ji rfl rfl rfl ?_
   refine Ji rfl rfl rfl ?_
   refine Ji rfl rfl rfl ?_
   refine Ji rfl rfl rfl ?_
   refine Ji rfl rfl rfl ?_
   refine Ji rfl rfl rfl ?_
   refine Ji rfl rfl rfl ?_
   refine Ji rfl rfl rfl ?_
   refine Ja rfl rfl rfl (Qf (v := .bool false) rfl rfl) ?_
   refine Ja rfl rfl rfl (Jc (v := .bool false) rfl) ?_
   refine Jg ?_
   refine Jx ?_
   obtain rfl := Option.some.inj H9
   refine Qn (v := .bool false) rfl rfl (Yh rfl)
 ·have H10 := Jq hb H; clear H
  refine Ji rfl rfl rfl ?_
  refine Ji rfl rfl rfl ?_
  refine Ji rfl rfl rfl ?_
  refine Ji rfl rfl rfl ?_
  refine Ji rfl rfl rfl ?_
  refine Ji rfl rfl rfl ?_
  refine Ji rfl rfl rfl ?_
  refine Ja rfl rfl rfl (Qf (v := .bool false) rfl rfl) ?_
  refine Ja rfl rfl rfl (Je (v := .bool false) rfl) ?_
  refine Ji rfl rfl rfl ?_
  refine Ji rfl rfl rfl ?_
  refine Ji rfl rfl rfl ?_
  refine Ji rfl rfl rfl ?_
  refine Ji rfl rfl rfl ?_
  refine Ji rfl rfl rfl ?_
  refine Ji rfl rfl rfl ?_
  refine Ji rfl rfl rfl ?_
  refine Ji rfl rfl rfl ?_
  refine Ja rfl rfl rfl (Qf (v := .bool false) rfl rfl) ?_
  refine Ja rfl rfl rfl (Jc (v := .bool false) rfl) ?_
  refine Jg ?_
  refine Jx ?_
  obtain rfl := Option.some.inj H10
  refine Qn (v := .bool false) rfl rfl (Yh rfl)
theorem k170 {a0 : T_tag_reader} {pb0 : Nat} {p0_2 : Option Addr × Nat} {n0_2 : Nat} {m0_3 : Nat} {a1 : Int} {r : T_tag_reader} {w : World} {h : Qj} {S : Nat → Prop} (hcs : (J1 (Jo pb0 [Jv a0.s_, .bool a0.big_, .slice p0_2.1 n0_2 p0_2.2, .map (some m0_3), .int .i64 a0.dirs_, (Qo a0.found_), .int .i64 a0.no_] 195) (J1 (Qa 56 2 (.slice p0_2.1 n0_2 p0_2.2) n0_2 (a0.parts_.map Jj)) (Q1 (fun x_ : Int => .int .i64 x_) (fun x_ : Bool => .bool x_) m0_3 a0.seen_))).P S w) (hlt : ∀ b, S b → b < w.heap.size) (hw : Know h w S) (hn0_2 : n0_2 = a0.parts_.length) (H : Q7 a0 a1 = some r) : Does Tryz.prog 170 (List.toArray [.pointer (some ⟨pb0, 0, none⟩), .int .i64 a1]) w (fun v w' => ∃ x : (Option Addr × Nat) × Nat, v = (.tuple #[]) ∧ Turn w w' S (J1 (Jo pb0 [Jv r.s_, .bool r.big_, .slice x.1.1 r.parts_.length x.1.2, .map (some x.2), .int .i64 r.dirs_, (Qo r.found_), .int .i64 r.no_] 195) (J1 (Qa 56 2 (.slice x.1.1 r.parts_.length x.1.2) r.parts_.length (r.parts_.map Jj)) (Q1 (fun x_ : Int => .int .i64 x_) (fun x_ : Bool => .bool x_) x.2 r.seen_)))) := by
 refine enter (n := 13) Tryz.func170 rfl rfl rfl S [J1 (Jo pb0 [Jv a0.s_, .bool a0.big_, .slice p0_2.1 n0_2 p0_2.2, .map (some m0_3), .int .i64 a0.dirs_, (Qo a0.found_), .int .i64 a0.no_] 195) (J1 (Qa 56 2 (.slice p0_2.1 n0_2 p0_2.2) n0_2 (a0.parts_.map Jj)) (Q1 (fun x_ : Int => .int .i64 x_) (fun x_ : Bool => .bool x_) m0_3 a0.seen_))] (Sat.one hcs hlt) ?_
 refine Q2 0 rfl ?_
 refine Q2 1 rfl ?_
 refine Jf ?_
 refine Jb ?_
 refine Ja rfl rfl rfl (Je (v := .pointer (some ⟨pb0, 0, none⟩)) rfl) ?_
 refine Ja rfl rfl rfl (Ju rfl) ?_
 refine Ja rfl rfl rfl (Jk Tryz.runUnderlying195 rfl Tryz.sizeOf28 rfl rfl) ?_
 refine Js (i := 0) (v := .int .i64 a0.no_) Tryz.isAgg28 rfl rfl rfl rfl rfl ?_
 refine Ja rfl rfl rfl (Q0 rfl rfl) ?_
 refine Jg ?_
 refine Qd (b := (decide (a0.no_ = 0))) rfl (fun hb => ?_) (fun hb => ?_)
 ·have H3 := Jp hb H; clear H
  refine Jb ?_
  refine Ja rfl rfl rfl (Je (v := .pointer (some ⟨pb0, 0, none⟩)) rfl) ?_
  refine Ja rfl rfl rfl (Je (v := .int .i64 a1) rfl) ?_
  refine Ja rfl rfl rfl (Ju rfl) ?_
  refine Ja rfl rfl rfl (Jk Tryz.runUnderlying195 rfl Tryz.sizeOf28 rfl rfl) ?_
  refine Qc (i := 0) (vs := [.int .i64 a1]) (cs' := [Jv a0.s_, .bool a0.big_, .slice p0_2.1 n0_2 p0_2.2, .map (some m0_3), .int .i64 a0.dirs_, (Qo a0.found_), .int .i64 a1]) Tryz.sizeOf28 rfl rfl rfl rfl rfl rfl rfl rfl rfl ?_
  refine Jg ?_
  obtain rfl := Option.some.inj H3
  refine Jl 1 2 rfl rfl (by decide) ?_
  refine Jl 0 1 rfl rfl (by decide) ?_
  refine ret0n rfl (V6 (p0_2, m0_3) (i := 0) rfl (by first | rfl | rw [(show n0_2 = a0.parts_.length from hn0_2)]) (by first | exact Imp.refl _ | exact Imp.of (by rw [(show n0_2 = a0.parts_.length from hn0_2)] <;> rfl)))
 ·have H4 := Jq hb H; clear H
  refine Jt ?_
  obtain rfl := Option.some.inj H4
  refine Jl 1 2 rfl rfl (by decide) ?_
  refine Jl 0 1 rfl rfl (by decide) ?_
  refine ret0n rfl (V6 (p0_2, m0_3) (i := 0) rfl (by first | rfl | rw [(show n0_2 = a0.parts_.length from hn0_2)]) (by first | exact Imp.refl _ | exact Imp.of (by rw [(show n0_2 = a0.parts_.length from hn0_2)] <;> rfl)))
theorem k109 {a0 : (List Int)} {v0 : Value} {r : (List Int)} {w : World} {h : Qj} (hw : Know h w Vi) (f0 : FrS h 1 v0 (a0.map Xc)) (H : W5 a0 = some r) : Does Tryz.prog 109 (List.toArray [v0]) w (fun v w' => ∃ x : (Option Addr × Nat), v = (.slice x.1 r.length x.2) ∧ Turn w w' Vi (Qa 3 1 (.slice x.1 r.length x.2) r.length (r.map Xc))) := by
 refine enter (n := 8) Tryz.func109 rfl rfl rfl Vi [] (Sat.nil _ _) ?_
 refine Jf ?_
 refine Jb ?_
 refine Ja rfl rfl rfl (Jc (v := .slice none 0 0) rfl) ?_
 refine Jg ?_
 refine Jf ?_
 refine Jf ?_
 refine Jb ?_
 refine Ja rfl rfl rfl (Je (v := v0) rfl) ?_
 refine Ja rfl rfl rfl (r_eqlNilS Tryz.underlying30 f0 rfl rfl) ?_
 refine Jg ?_
 refine Qd (b := isNilV v0) rfl (fun hb => ?_) (fun hb => ?_)
 ·have hn_ : a0 = [] := f0.nilV hb
  have H3 : some ([] : List Int) = some r := by have h_ := H; rw [hn_] at h_; exact h_
  refine Jf ?_
  refine Jb ?_
  refine Ja rfl rfl rfl (Jc (v := .slice none 0 0) rfl) ?_
  refine Jg ?_
  refine Jx ?_
  refine J0 3 1 ?_
  obtain rfl := Option.some.inj H3
  refine Qn (v := .slice ((none, 0) : Option Addr × Nat).1 ([] : List Int).length ((none, 0) : Option Addr × Nat).2) rfl rfl (V6 ((none, 0) : Option Addr × Nat) (i := 0) rfl rfl (Imp.refl _))
 ·skip
  refine Jt ?_
  refine Jf ?_
  refine Jb ?_
  refine Q9 (vs := []) (cs := []) Tryz.underlying30 Tryz.sizeOf3 Tryz.zeroValue3 rfl rfl rfl rfl rfl rfl rfl (fun b1 => ?_)
  refine Ja rfl rfl rfl (Je (v := v0) rfl) ?_
  refine Y0 0 rfl (imp_box (m := 0) (E := 3) (sz := 1) (xs := (([] : List Int)).map Xc) rfl rfl rfl ⟨rfl, by decide⟩) ?_
  obtain ⟨l7, h_l7, H4⟩ := Jh H; clear H
  refine Xg (Y3 (i := 0) (hn := rfl) (rds := []) (p := ((some ⟨b1, 0, none⟩, 0) : Option Addr × Nat)) (sz := 1) (by_ := 8) (f := Xc) (ys := ([] : List Int)) (ls := a0) (V := v0) Tryz.underlying30 (Z1 Tryz.typeInfo3) rfl rfl rfl rfl rfl rfl rfl rfl f0.eq (List.length_map _) (fun w L' hF hS hi => (f0).row (hw.now hF)) (fun _ => rfl) (fun _ => rfl) h_l7) rfl rfl rfl (fun p => ?_)
  refine Ja rfl rfl rfl (Jc (v := .slice p.1 l7.length p.2) rfl) ?_
  refine Jg ?_
  refine Jx ?_
  obtain rfl := Option.some.inj H4
  refine Qn (v := .slice p.1 l7.length p.2) rfl rfl (V6 p (i := 0) rfl rfl (Imp.refl _))
theorem k241 {a0 : T_tag_reader} {pb0 : Nat} {p0_2 : Option Addr × Nat} {n0_2 : Nat} {m0_3 : Nat} {a1 : (List UInt8)} {r : (List UInt8) × T_tag_reader} {w : World} {h : Qj} {S : Nat → Prop} (hcs : (J1 (Jo pb0 [Jv a0.s_, .bool a0.big_, .slice p0_2.1 n0_2 p0_2.2, .map (some m0_3), .int .i64 a0.dirs_, (Qo a0.found_), .int .i64 a0.no_] 195) (J1 (Qa 56 2 (.slice p0_2.1 n0_2 p0_2.2) n0_2 (a0.parts_.map Jj)) (Q1 (fun x_ : Int => .int .i64 x_) (fun x_ : Bool => .bool x_) m0_3 a0.seen_))).P S w) (hlt : ∀ b, S b → b < w.heap.size) (hw : Know h w S) (hn0_2 : n0_2 = a0.parts_.length) (H : U9 a0 a1 = some r) : Does Tryz.prog 241 (List.toArray [.pointer (some ⟨pb0, 0, none⟩), Jv a1]) w (fun v w' => ∃ x : (Option Addr × Nat) × Nat, v = (Jv r.1) ∧ Turn w w' S (J1 (Jo pb0 [Jv r.2.s_, .bool r.2.big_, .slice x.1.1 r.2.parts_.length x.1.2, .map (some x.2), .int .i64 r.2.dirs_, (Qo r.2.found_), .int .i64 r.2.no_] 195) (J1 (Qa 56 2 (.slice x.1.1 r.2.parts_.length x.1.2) r.2.parts_.length (r.2.parts_.map Jj)) (Q1 (fun x_ : Int => .int .i64 x_) (fun x_ : Bool => .bool x_) x.2 r.2.seen_)))) := by
 refine enter (n := 36) Tryz.func241 rfl rfl rfl S [J1 (Jo pb0 [Jv a0.s_, .bool a0.big_, .slice p0_2.1 n0_2 p0_2.2, .map (some m0_3), .int .i64 a0.dirs_, (Qo a0.found_), .int .i64 a0.no_] 195) (J1 (Qa 56 2 (.slice p0_2.1 n0_2 p0_2.2) n0_2 (a0.parts_.map Jj)) (Q1 (fun x_ : Int => .int .i64 x_) (fun x_ : Bool => .bool x_) m0_3 a0.seen_))] (Sat.one hcs hlt) ?_
 refine Q2 0 rfl ?_
 refine Q2 1 rfl ?_
 refine Jf ?_
 refine Jb ?_
 refine Ja rfl rfl rfl (Jc (v := Jv []) rfl) ?_
 refine Jg ?_
 refine Jf ?_
 refine Jf ?_
 refine Jb ?_
 refine Ja rfl rfl rfl (Je (v := Jv a1) rfl) ?_
 refine Ja rfl rfl rfl (r_eqlT rfl rfl) ?_
 refine Ja rfl rfl rfl (Je (v := .bool (decide (a1 = []))) rfl) ?_
 refine split (fun hb => ?_) (fun hb => ?_)
 ·have H20 := Jp hb H; clear H
  refine Ji rfl rfl rfl ?_
  refine Ji rfl rfl rfl ?_
  refine Ji rfl rfl rfl ?_
  refine Ji rfl rfl rfl ?_
  refine Ji rfl rfl rfl ?_
  refine Ji rfl rfl rfl ?_
  refine Ja rfl rfl rfl (J9 (v := .bool true) rfl rfl) ?_
  refine Jg ?_
  refine Uw rfl ?_
  refine Jf ?_
  refine Jb ?_
  refine Ja rfl rfl rfl (Je (v := .pointer (some ⟨pb0, 0, none⟩)) rfl) ?_
  obtain ⟨t17, h_t17, H21⟩ := Jh H20; clear H20
  refine Jl 1 2 rfl rfl (by decide) ?_
  refine Jl 0 1 rfl rfl (by decide) ?_
  refine Xg (Ql (i := 0) (rds := []) (G := fun x : (Option Addr × Nat) × Nat => .tuple #[]) (C := fun x : (Option Addr × Nat) × Nat => J1 (Jo pb0 [Jv t17.s_, .bool t17.big_, .slice x.1.1 t17.parts_.length x.1.2, .map (some x.2), .int .i64 t17.dirs_, (Qo t17.found_), .int .i64 t17.no_] 195) (J1 (Qa 56 2 (.slice x.1.1 t17.parts_.length x.1.2) t17.parts_.length (t17.parts_.map Jj)) (Q1 (fun x_ : Int => .int .i64 x_) (fun x_ : Bool => .bool x_) x.2 t17.seen_))) rfl (fun w L' S hF hS hi hp hlt ho hA => k170 hp hlt (Xa w S) hn0_2 h_t17) Tryz.call170 rfl) rfl rfl rfl (fun ⟨p, p_2⟩ => ?_)
  refine Qk 0 1 rfl rfl (by decide) ?_
  refine Qk 1 2 rfl rfl (by decide) ?_
  refine Jg ?_
  refine Jf ?_
  try dsimp only [z1, z2, z5, z6, z7, z8]
  refine Jb ?_
  refine Ja rfl rfl rfl (Jc (v := Jv []) rfl) ?_
  refine Jg ?_
  refine Jx ?_
  obtain rfl := Option.some.inj H21
  refine Jl 1 2 rfl rfl (by decide) ?_
  refine Jl 0 1 rfl rfl (by decide) ?_
  refine Qn (v := Jv []) rfl rfl (V6 (p, p_2) (i := 0) rfl rfl (Imp.refl _))
 ·have H22 := Jq hb H; clear H
  refine Ja rfl rfl rfl (Je (v := Jv a1) rfl) ?_
  refine Ja rfl rfl rfl (Je (v := Jv a1) rfl) ?_
  refine Ja rfl rfl rfl (Z0 Tryz.underlying9 rfl) ?_
  obtain ⟨t12, h_t12, H23⟩ := Jh H22; clear H22
  refine Ja rfl rfl rfl (Wv rfl rfl h_t12) ?_
  obtain ⟨t13, h_t13, H24⟩ := Jh H23; clear H23
  refine Ja rfl rfl rfl (r_octG Tryz.underlying9 rfl rfl h_t13) ?_
  refine Ja rfl rfl rfl (Va rfl rfl) ?_
  refine Ja rfl rfl rfl (Qf (v := .bool (decide (t13 ≠ 0))) rfl rfl) ?_
  refine Jg ?_
  refine Qd (b := (decide (t13 ≠ 0))) rfl (fun hb => ?_) (fun hb => ?_)
  ·have H25 := Jp hb H24; clear H24
   refine Jf ?_
   refine Jb ?_
   refine Ja rfl rfl rfl (Je (v := .pointer (some ⟨pb0, 0, none⟩)) rfl) ?_
   obtain ⟨t17_2, h_t17_2, H26⟩ := Jh H25; clear H25
   refine Jl 1 2 rfl rfl (by decide) ?_
   refine Jl 0 1 rfl rfl (by decide) ?_
   refine Xg (Ql (i := 0) (rds := []) (G := fun x : (Option Addr × Nat) × Nat => .tuple #[]) (C := fun x : (Option Addr × Nat) × Nat => J1 (Jo pb0 [Jv t17_2.s_, .bool t17_2.big_, .slice x.1.1 t17_2.parts_.length x.1.2, .map (some x.2), .int .i64 t17_2.dirs_, (Qo t17_2.found_), .int .i64 t17_2.no_] 195) (J1 (Qa 56 2 (.slice x.1.1 t17_2.parts_.length x.1.2) t17_2.parts_.length (t17_2.parts_.map Jj)) (Q1 (fun x_ : Int => .int .i64 x_) (fun x_ : Bool => .bool x_) x.2 t17_2.seen_))) rfl (fun w L' S hF hS hi hp hlt ho hA => k170 hp hlt (Xa w S) hn0_2 h_t17_2) Tryz.call170 rfl) rfl rfl rfl (fun ⟨p_3, p_4⟩ => ?_)
   refine Qk 0 1 rfl rfl (by decide) ?_
   refine Qk 1 2 rfl rfl (by decide) ?_
   refine Jg ?_
   refine Jf ?_
   try dsimp only [z1, z2, z5, z6, z7, z8]
   refine Jb ?_
   refine Ja rfl rfl rfl (Jc (v := Jv []) rfl) ?_
   refine Jg ?_
   refine Jx ?_
   obtain rfl := Option.some.inj H26
   refine Jl 1 2 rfl rfl (by decide) ?_
   refine Jl 0 1 rfl rfl (by decide) ?_
   refine Qn (v := Jv []) rfl rfl (V6 (p_3, p_4) (i := 0) rfl rfl (Imp.refl _))
  ·have H27 := Jq hb H24; clear H24
   refine Jt ?_
   refine Jf ?_
   refine Jb ?_
   refine Ja rfl rfl rfl (Je (v := Jv a1) rfl) ?_
   refine Ja rfl rfl rfl (Je (v := Jv a1) rfl) ?_
   refine Ja rfl rfl rfl (Z0 Tryz.underlying9 rfl) ?_
   obtain ⟨t21, h_t21, H28⟩ := Jh H27; clear H27
   refine Ja rfl rfl rfl (Wv rfl rfl h_t21) ?_
   obtain ⟨t22, h_t22, H29⟩ := Jh H28; clear H28
   refine Ja rfl rfl rfl (Jaj Tryz.underlying9 rfl rfl h_t22) ?_
   refine Ja rfl rfl rfl (Jc (v := Jv t22) rfl) ?_
   refine Jg ?_
   refine Jf ?_
   refine Jf ?_
   refine Jb ?_
   refine Ja rfl rfl rfl (Je (v := Jv t22) rfl) ?_
   refine Ja rfl rfl rfl (Z0 Tryz.underlying9 rfl) ?_
   refine Ja rfl rfl rfl (Je (v := .int .i64 0) rfl) ?_
   refine Jg ?_
   refine J8 ?_
   refine Z2 (σ := Int × (List UInt8) × Bool × Int × Nat × Int × (List T_tag_Span) × (List (Int × Bool))) (τ := (Option Addr × Nat) × Nat × Nat) (fun next1 s => Xe t22 next1 s.1 s.2.1 s.2.2.1 s.2.2.2.1 s.2.2.2.2.1 s.2.2.2.2.2.1 s.2.2.2.2.2.2.1 s.2.2.2.2.2.2.2) (fun s t => [(0, .pointer (some ⟨pb0, 0, none⟩)), (1, Jv t22), (24, .int .i64 (t22.length : Int)), (25, .int .i64 s.1)]) (fun s t => [Jo pb0 [Jv s.2.1, .bool s.2.2.1, .slice t.1.1 t.2.1 t.1.2, .map (some t.2.2), .int .i64 s.2.2.2.1, (Qo s.2.2.2.2.1), .int .i64 s.2.2.2.2.2.1] 195, Qa 56 2 (.slice t.1.1 t.2.1 t.1.2) t.2.1 (s.2.2.2.2.2.2.1.map Jj), Q1 (fun x_ : Int => .int .i64 x_) (fun x_ : Bool => .bool x_) t.2.2 s.2.2.2.2.2.2.2]) (fun s t => t.2.1 = s.2.2.2.2.2.2.1.length) (0, a0.s_, a0.big_, a0.dirs_, a0.found_, a0.no_, a0.parts_, a0.seen_) (p0_2, n0_2, m0_3) [0, 1, 2] H29 (by exact hn0_2) (by exact ⟨rfl, rfl, rfl, rfl, trivial⟩) (by decide) rfl ?_
   rintro ⟨x25_2, m_6, m_7, m_8, m_9, m_10, l_2, mp_2⟩ ⟨p_5, n, b⟩ m1 gg H30 hl_2
   clear H29
   replace H30 : Xe t22 (it (fun next1 s => Xe t22 next1 s.1 s.2.1 s.2.2.1 s.2.2.2.1 s.2.2.2.2.1 s.2.2.2.2.2.1 s.2.2.2.2.2.2.1 s.2.2.2.2.2.2.2) m1) x25_2 m_6 m_7 m_8 m_9 m_10 l_2 mp_2 = some r := H30
   generalize hn1 : it (fun next1 s => Xe t22 next1 s.1 s.2.1 s.2.2.1 s.2.2.2.1 s.2.2.2.2.1 s.2.2.2.2.2.1 s.2.2.2.2.2.2.1 s.2.2.2.2.2.2.2) m1 = next1 at H30
   try dsimp only
   refine Jf ?_
   refine Jb ?_
   refine Ja rfl rfl rfl (Zc rfl rfl) ?_
   refine Jg ?_
   refine Jf ?_
   refine Qd (b := (decide (x25_2 < (t22.length : Int)))) rfl (fun hb => ?_) (fun hb => ?_)
   ·have H31 := Jp hb H30; clear H30
    refine Jt ?_
    refine Qz (r := r) (σ := (List UInt8) × Bool × Int × Nat × Int × (List T_tag_Span) × (List (Int × Bool))) (τ := (Option Addr × Nat) × Nat × Nat) (fun s => Zr x25_2 next1 s.1 s.2.1 s.2.2.1 s.2.2.2.1 s.2.2.2.2.1 s.2.2.2.2.2.1 s.2.2.2.2.2.2) (fun s t => [(0, .pointer (some ⟨pb0, 0, none⟩)), (1, Jv t22), (24, .int .i64 (t22.length : Int)), (25, .int .i64 x25_2)]) (fun s t => [Jo pb0 [Jv s.1, .bool s.2.1, .slice t.1.1 t.2.1 t.1.2, .map (some t.2.2), .int .i64 s.2.2.1, (Qo s.2.2.2.1), .int .i64 s.2.2.2.2.1] 195, Qa 56 2 (.slice t.1.1 t.2.1 t.1.2) t.2.1 (s.2.2.2.2.2.1.map Jj), Q1 (fun x_ : Int => .int .i64 x_) (fun x_ : Bool => .bool x_) t.2.2 s.2.2.2.2.2.2]) (fun s t => t.2.1 = s.2.2.2.2.2.1.length) ?_ ?_
    ·refine J8 ?_
     refine Jf ?_
     refine Jb ?_
     refine Ja rfl rfl rfl (Je (v := .int .i64 x25_2) rfl) ?_
     refine Ja rfl rfl rfl (Jc (v := .int .i64 x25_2) rfl) ?_
     refine Jg ?_
     refine Jf ?_
     refine Jb ?_
     refine Ja rfl rfl rfl (Je (v := Jv t22) rfl) ?_
     refine Ja rfl rfl rfl (Je (v := .int .i64 x25_2) rfl) ?_
     obtain ⟨t30, h_t30, H34⟩ := Jh H31; clear H31
     refine Ja rfl rfl rfl (r_octG Tryz.underlying9 rfl rfl h_t30) ?_
     refine Ja rfl rfl rfl (Q0 rfl rfl) ?_
     refine Jg ?_
     refine Qd (b := (decide (t30 = 0))) rfl (fun hb => ?_) (fun hb => ?_)
     ·have H35 := Jp hb H34; clear H34
      refine Jb ?_
      refine Ja rfl rfl rfl (Je (v := .pointer (some ⟨pb0, 0, none⟩)) rfl) ?_
      obtain ⟨t33, h_t33, H36⟩ := Jh H35; clear H35
      refine Jl 1 2 rfl rfl (by decide) ?_
      refine Jl 0 1 rfl rfl (by decide) ?_
      refine Xg (Ql (i := 0) (rds := []) (G := fun x : (Option Addr × Nat) × Nat => .tuple #[]) (C := fun x : (Option Addr × Nat) × Nat => J1 (Jo pb0 [Jv t33.s_, .bool t33.big_, .slice x.1.1 t33.parts_.length x.1.2, .map (some x.2), .int .i64 t33.dirs_, (Qo t33.found_), .int .i64 t33.no_] 195) (J1 (Qa 56 2 (.slice x.1.1 t33.parts_.length x.1.2) t33.parts_.length (t33.parts_.map Jj)) (Q1 (fun x_ : Int => .int .i64 x_) (fun x_ : Bool => .bool x_) x.2 t33.seen_))) rfl (fun w L' S hF hS hi hp hlt ho hA => k170 (a0 := (⟨m_6, m_7, l_2, mp_2, m_8, m_9, m_10⟩ : T_tag_reader)) hp hlt (Xa w S) hl_2 h_t33) Tryz.call170 rfl) rfl rfl rfl (fun ⟨p_7, p_8⟩ => ?_)
      refine Qk 0 1 rfl rfl (by decide) ?_
      refine Qk 1 2 rfl rfl (by decide) ?_
      refine Jg ?_
      refine Jn (t33.s_, t33.big_, t33.dirs_, t33.found_, t33.no_, t33.parts_, t33.seen_) (p_7, t33.parts_.length, p_8) 0 [0, 1, 2] (by exact ⟨rfl, rfl, rfl, rfl, trivial⟩) (by decide) (by kernel_rfl) (by exact ⟨H36, rfl⟩) (Nat.lt_succ_self _)
     ·have H37 := Jq hb H34; clear H34
      refine Jt ?_
      refine Jn (m_6, m_7, m_8, m_9, m_10, l_2, mp_2) (p_5, n, b) 0 [0, 1, 2] (by exact ⟨rfl, rfl, rfl, rfl, trivial⟩) (by decide) (by kernel_rfl) (by exact ⟨H37, hl_2⟩) (Nat.lt_succ_self _)
    ·rintro ⟨m_11, m_12, m_13, m_14, m_15, l_3, mp_3⟩ ⟨p_6, n_2, b_2⟩ gg H32 hl_3
     replace H32 : Zr x25_2 next1 m_11 m_12 m_13 m_14 m_15 l_3 mp_3 = some r := H32
     try dsimp only
     refine Jb ?_
     obtain ⟨t34, h_t34, H33⟩ := Jh H32; clear H32
     refine Ja rfl rfl rfl (Qe rfl rfl h_t34) ?_
     refine Ja rfl rfl rfl (Je (v := .int .i64 t34) rfl) ?_
     refine Jg ?_
     refine Jn (t34, m_11, m_12, m_13, m_14, m_15, l_3, mp_3) (p_6, n_2, b_2) m1 [0, 1, 2] (by exact ⟨rfl, rfl, rfl, rfl, trivial⟩) (by decide) (by kernel_rfl) (by exact ⟨(by subst hn1; exact H33), hl_3⟩) (Nat.lt_succ_self _)
   ·have H38 := Jq hb H30; clear H30
    refine X3 ?_
    refine Jf ?_
    try dsimp only [z1, z2, z5, z6, z7, z8]
    refine Jb ?_
    refine Ja rfl rfl rfl (Je (v := Jv t22) rfl) ?_
    refine Ja rfl rfl rfl (Jc (v := Jv t22) rfl) ?_
    refine Jg ?_
    refine Jx ?_
    obtain rfl := Option.some.inj H38
    refine Jl 1 2 rfl rfl (by decide) ?_
    refine Jl 0 1 rfl rfl (by decide) ?_
    refine Qn (v := Jv t22) rfl rfl (V6 (p_5, b) (i := 0) rfl (by first | rfl | rw [(show n = l_2.length from hl_2)]) (by first | exact Imp.refl _ | exact Imp.of (by rw [(show n = l_2.length from hl_2)] <;> rfl)))
theorem k207 {a0 : T_tag_reader} {pb0 : Nat} {p0_2 : Option Addr × Nat} {n0_2 : Nat} {m0_3 : Nat} {a1 : Int} {a2 : Int} {a3 : Int} {r : T_tag_Value × T_tag_reader} {w : World} {h : Qj} {S : Nat → Prop} (hcs : (J1 (Jo pb0 [Jv a0.s_, .bool a0.big_, .slice p0_2.1 n0_2 p0_2.2, .map (some m0_3), .int .i64 a0.dirs_, (Qo a0.found_), .int .i64 a0.no_] 195) (J1 (Qa 56 2 (.slice p0_2.1 n0_2 p0_2.2) n0_2 (a0.parts_.map Jj)) (Q1 (fun x_ : Int => .int .i64 x_) (fun x_ : Bool => .bool x_) m0_3 a0.seen_))).P S w) (hlt : ∀ b, S b → b < w.heap.size) (hw : Know h w S) (hn0_2 : n0_2 = a0.parts_.length) (H : U6 a0 a1 a2 a3 = some r) : Does Tryz.prog 207 (List.toArray [.pointer (some ⟨pb0, 0, none⟩), .int .i64 a1, .int .i64 a2, .int .i64 a3]) w (fun v w' => ∃ x : (Option Addr × Nat) × (Option Addr × Nat) × (Option Addr × Nat) × (Option Addr × Nat) × Nat, v = (.agg #[.int .i64 r.1.Kind, Jv r.1.Text, .slice x.1.1 r.1.Ints.length x.1.2, .slice x.2.1.1 r.1.Ratios.length x.2.1.2, .slice x.2.2.1.1 r.1.Entries.length x.2.2.1.2]) ∧ Turn w w' S (J1 (Jo pb0 [Jv r.2.s_, .bool r.2.big_, .slice x.2.2.2.1.1 r.2.parts_.length x.2.2.2.1.2, .map (some x.2.2.2.2), .int .i64 r.2.dirs_, (Qo r.2.found_), .int .i64 r.2.no_] 195) (J1 (Qa 56 2 (.slice x.2.2.2.1.1 r.2.parts_.length x.2.2.2.1.2) r.2.parts_.length (r.2.parts_.map Jj)) (J1 (Q1 (fun x_ : Int => .int .i64 x_) (fun x_ : Bool => .bool x_) x.2.2.2.2 r.2.seen_) (J1 (Qa 3 1 (.slice x.1.1 r.1.Ints.length x.1.2) r.1.Ints.length (r.1.Ints.map Xc)) (J1 (Qa 74 2 (.slice x.2.1.1 r.1.Ratios.length x.2.1.2) r.1.Ratios.length (r.1.Ratios.map Jz)) (W3 83 6 g_tag_Entry (.slice x.2.2.1.1 r.1.Entries.length x.2.2.1.2) r.1.Entries.length r.1.Entries))))))) := by
 refine enter (n := 131) Tryz.func207 rfl rfl rfl S [J1 (Jo pb0 [Jv a0.s_, .bool a0.big_, .slice p0_2.1 n0_2 p0_2.2, .map (some m0_3), .int .i64 a0.dirs_, (Qo a0.found_), .int .i64 a0.no_] 195) (J1 (Qa 56 2 (.slice p0_2.1 n0_2 p0_2.2) n0_2 (a0.parts_.map Jj)) (Q1 (fun x_ : Int => .int .i64 x_) (fun x_ : Bool => .bool x_) m0_3 a0.seen_))] (Sat.one hcs hlt) ?_
 refine Q2 0 rfl ?_
 refine Q2 1 rfl ?_
 refine Zs X6 ?_
 refine Jf ?_
 refine Jb ?_
 refine Yo (cs := [.int .i64 0, Jv [], .slice none 0 0, .slice none 0 0, .slice none 0 0]) Tryz.zeroValue38 rfl rfl rfl (fun b5 => ?_)
 refine Jg ?_
 refine Jf ?_
 refine Jb ?_
 refine Ja rfl rfl rfl (Je (v := .int .i64 a2) rfl) ?_
 refine Ja rfl rfl rfl (Je (v := .int .i64 a1) rfl) ?_
 obtain ⟨t17, h_t17, H50⟩ := Jh H; clear H
 refine Wb (k139 h_t17) Tryz.call139 rfl rfl rfl ?_
 obtain ⟨t18, h_t18, H51⟩ := Jh H50; clear H50
 refine Ja rfl rfl rfl (W6 rfl rfl h_t18) ?_
 refine Ja rfl rfl rfl (Jc (v := .int .i64 t18) rfl) ?_
 refine Jg ?_
 refine Jf ?_
 refine Jb ?_
 refine Ja rfl rfl rfl (Je (v := .int .i64 a3) rfl) ?_
 refine Ja rfl rfl rfl (Jc (v := .int .i64 a3) rfl) ?_
 refine Jg ?_
 refine Qz (r := r) (σ := Int × (List T_tag_Span)) (τ := (Option Addr × Nat) × Nat) (fun s => Zu a0 a1 a2 t18 s.1 s.2) (fun s t => [(0, .pointer (some ⟨pb0, 0, none⟩)), (1, .int .i64 a1), (2, .int .i64 a2), (8, .pointer (some ⟨b5, 0, none⟩)), (9, .int .i64 t18), (10, .int .i64 s.1)]) (fun s t => [Jo pb0 [Jv a0.s_, .bool a0.big_, .slice t.1.1 t.2 t.1.2, .map (some m0_3), .int .i64 a0.dirs_, (Qo a0.found_), .int .i64 a0.no_] 195, Qa 56 2 (.slice t.1.1 t.2 t.1.2) t.2 (s.2.map Jj), Q1 (fun x_ : Int => .int .i64 x_) (fun x_ : Bool => .bool x_) m0_3 a0.seen_, Yv X6 X6, Jo b5 [.int .i64 0, Jv [], .slice none 0 0, .slice none 0 0, .slice none 0 0] 38]) (fun s t => t.2 = s.2.length) ?_ ?_
 ·refine Jf ?_
  refine Jb ?_
  refine Ja rfl rfl rfl (Je (v := .int .i64 t18) rfl) ?_
  refine Ja rfl rfl rfl (Zm rfl rfl) ?_
  refine Jg ?_
  refine Qd (b := (decide (4 < t18))) rfl (fun hb => ?_) (fun hb => ?_)
  ·have H90 := Jp hb H51; clear H51
   refine Jf ?_
   refine Jb ?_
   refine Ja rfl rfl rfl (Je (v := .pointer (some ⟨pb0, 0, none⟩)) rfl) ?_
   refine Ja rfl rfl rfl (Je (v := .int .i64 a3) rfl) ?_
   obtain ⟨t24, h_t24, H91⟩ := Jh H90; clear H90
   refine Qw (fun w hF hS => k127 (a0 := a0) (J7 w) (Yn (i := 1) hn0_2 hS rfl) (Xz (fk := (fun x_ : Int => .int .i64 x_)) (fv := (fun x_ : Bool => .bool x_)) (i := 2) hS rfl) (Xb (i := 0) hS rfl) h_t24) Tryz.call127 rfl rfl rfl ?_
   refine Ja rfl rfl rfl (Jc (v := .int .i64 t24) rfl) ?_
   refine Jg ?_
   refine Jf ?_
   refine Jf ?_
   refine Jb ?_
   refine Ja rfl rfl rfl (Je (v := .pointer (some ⟨pb0, 0, none⟩)) rfl) ?_
   refine Ja rfl rfl rfl (Je (v := .int .i64 t24) rfl) ?_
   refine Ja rfl rfl rfl (Je (v := .int .i64 t18) rfl) ?_
   obtain ⟨t28, h_t28, H92⟩ := Jh H91; clear H91
   refine Qw (fun w hF hS => k169 (a0 := a0) (J7 w) (Yn (i := 1) hn0_2 hS rfl) (Xz (fk := (fun x_ : Int => .int .i64 x_)) (fv := (fun x_ : Bool => .bool x_)) (i := 2) hS rfl) (Xb (i := 0) hS rfl) h_t28) Tryz.call169 rfl rfl rfl ?_
   refine Ja rfl rfl rfl (r_not rfl) ?_
   refine Jg ?_
   refine Qd (b := (!t28)) rfl (fun hb => ?_) (fun hb => ?_)
   ·have H93 := Jp hb H92; clear H92
    refine Jf ?_
    refine Jb ?_
    refine Ja rfl rfl rfl (Je (v := .pointer (some ⟨pb0, 0, none⟩)) rfl) ?_
    obtain ⟨t31, h_t31, H94⟩ := Jh H93; clear H93
    refine Jl 1 2 rfl rfl (by decide) ?_
    refine Jl 0 1 rfl rfl (by decide) ?_
    refine Xg (Ql (i := 0) (rds := []) (G := fun x : (Option Addr × Nat) × Nat => .tuple #[]) (C := fun x : (Option Addr × Nat) × Nat => J1 (Jo pb0 [Jv t31.s_, .bool t31.big_, .slice x.1.1 t31.parts_.length x.1.2, .map (some x.2), .int .i64 t31.dirs_, (Qo t31.found_), .int .i64 t31.no_] 195) (J1 (Qa 56 2 (.slice x.1.1 t31.parts_.length x.1.2) t31.parts_.length (t31.parts_.map Jj)) (Q1 (fun x_ : Int => .int .i64 x_) (fun x_ : Bool => .bool x_) x.2 t31.seen_))) rfl (fun w L' S hF hS hi hp hlt ho hA => k170 hp hlt (Xa w S) hn0_2 h_t31) Tryz.call170 rfl) rfl rfl rfl (fun ⟨p_11, p_12⟩ => ?_)
    refine Qk 0 1 rfl rfl (by decide) ?_
    refine Qk 1 2 rfl rfl (by decide) ?_
    refine Jg ?_
    refine Jf ?_
    try dsimp only [z1, z2, z5, z6, z7, z8]
    refine Jb ?_
    refine Ja rfl rfl rfl (Yi (pl := #[(0, 1), (1, 1), (2, 1), (3, 1), (4, 1)]) (ps := []) (cells := #[.int .i64 0, Jv [], .slice none 0 0, .slice none 0 0, .slice none 0 0]) Tryz.zeroValue38 Tryz.runUnderlying38 (fun w => by kernel_rfl) rfl rfl) ?_
    refine Qc (i := 4) (vs := [.int .i64 0, Jv [], .slice none 0 0, .slice none 0 0, .slice none 0 0]) (cs' := [.int .i64 0, Jv [], .slice none 0 0, .slice none 0 0, .slice none 0 0]) Tryz.sizeOf38 rfl rfl rfl rfl rfl rfl rfl rfl rfl ?_
    refine Jg ?_
    refine Jx ?_
    try dsimp only [z1, z2, z3, z4, z5, z6, z7, z8]
    refine J0 3 1 ?_
    refine J0 74 2 ?_
    refine J0 83 6 ?_
    try dsimp only [z1, z2, z5, z6, z7, z8]
    obtain rfl := Option.some.inj H94
    refine Jl 3 7 rfl rfl (by decide) ?_
    refine Y0 3 rfl (Xn (p := ((none, 0) : Option Addr × Nat)) rfl (AllC.nil (G := g_tag_Entry) (h := X6) (sz := 6))) ?_
    refine Jl 6 3 rfl rfl (by decide) ?_
    refine Jl 5 6 rfl rfl (by decide) ?_
    refine Jl 2 5 rfl rfl (by decide) ?_
    refine Jl 1 2 rfl rfl (by decide) ?_
    refine Jl 0 1 rfl rfl (by decide) ?_
    refine retC (i := 4) (vs := [.int .i64 0, Jv [], .slice ((none, 0) : Option Addr × Nat).1 ([] : List Int).length ((none, 0) : Option Addr × Nat).2, .slice ((none, 0) : Option Addr × Nat).1 ([] : List T_tag_Ratio).length ((none, 0) : Option Addr × Nat).2, .slice ((none, 0) : Option Addr × Nat).1 (([] : List (List Value)).length) ((none, 0) : Option Addr × Nat).2]) Tryz.isAgg38 Tryz.sizeOf38 rfl rfl rfl rfl (V6 (((none, 0) : Option Addr × Nat), ((none, 0) : Option Addr × Nat), ((none, 0) : Option Addr × Nat), p_11, p_12) (i := 0) rfl (by first | rfl | rw [(show (([] : List (List Value)).length) = ([] : List T_tag_Entry).length from (AllC.nil (G := g_tag_Entry) (h := X6) (sz := 6)).len)]) (by first | exact Imp.refl _ | exact Imp.of (by rw [(show (([] : List (List Value)).length) = ([] : List T_tag_Entry).length from (AllC.nil (G := g_tag_Entry) (h := X6) (sz := 6)).len)] <;> rfl)))
   ·have H95 := Jq hb H92; clear H92
    refine Jt ?_
    try dsimp only [z1, z2, z5, z6, z7, z8]
    refine Jb ?_
    refine Ja rfl rfl rfl (Je (v := .pointer (some ⟨pb0, 0, none⟩)) rfl) ?_
    refine Ja rfl rfl rfl (Je (v := .pointer (some ⟨pb0, 0, none⟩)) rfl) ?_
    refine Ja rfl rfl rfl (Ju rfl) ?_
    refine Ja rfl rfl rfl (Jk Tryz.runUnderlying195 rfl Tryz.sizeOf48 rfl rfl) ?_
    refine Js (i := 0) (v := .slice p0_2.1 n0_2 p0_2.2) Tryz.isAgg48 rfl rfl rfl rfl rfl ?_
    refine Ja rfl rfl rfl (Je (v := .int .i64 t24) rfl) ?_
    refine Ja rfl rfl rfl (Je (v := .int .i64 t24) rfl) ?_
    refine Ja rfl rfl rfl (Je (v := .int .i64 t18) rfl) ?_
    obtain ⟨t41, h_t41, H96⟩ := Jh H95; clear H95
    refine Ja rfl rfl rfl (Qe rfl rfl h_t41) ?_
    refine Ja rfl rfl rfl (Yi (pl := #[(0, 1), (1, 1)]) (ps := [(0, .int .i64 t24), (1, .int .i64 t41)]) (cells := #[.int .i64 t24, .int .i64 t41]) Tryz.zeroValue56 Tryz.runUnderlying56 (fun w => by kernel_rfl) rfl rfl) ?_
    refine Q9 (vs := [.agg #[.int .i64 t24, .int .i64 t41]]) (cs := [.int .i64 t24, .int .i64 t41]) Tryz.underlying48 Tryz.sizeOf56 Tryz.zeroValue56 rfl rfl rfl rfl rfl rfl rfl (fun b9 => ?_)
    obtain ⟨l44, h_l44, H97⟩ := Jh H96; clear H96
    refine Xg (Y3 (i := 1) (hn := hn0_2) (rds := [5]) (p := p0_2) (sz := 2) (by_ := 16) (f := Jj) (ys := a0.parts_) (ls := ([(⟨t24, t41⟩ : T_tag_Span)] : List T_tag_Span)) (V := .slice (some ⟨b9, 0, none⟩) 1 1) Tryz.underlying48 (Z1 Tryz.typeInfo56) rfl rfl rfl rfl rfl rfl rfl rfl rfl rfl (fun w L' hF hS hi => Wo (i := 5) hS ((hi 5 (by simp)).trans rfl) rfl rfl) (fun _ => rfl) (fun _ => rfl) h_l44) rfl rfl rfl (fun p_13 => ?_)
    refine Ja rfl rfl rfl (Ju rfl) ?_
    refine Ja rfl rfl rfl (Jk Tryz.runUnderlying195 rfl Tryz.sizeOf48 rfl rfl) ?_
    refine Qc (i := 0) (vs := [.slice p_13.1 l44.length p_13.2]) (cs' := [Jv a0.s_, .bool a0.big_, .slice p_13.1 l44.length p_13.2, .map (some m0_3), .int .i64 a0.dirs_, (Qo a0.found_), .int .i64 a0.no_]) Tryz.sizeOf48 rfl rfl rfl rfl rfl rfl rfl rfl rfl ?_
    refine Jg ?_
    refine Jn (t24, l44) (p_13, l44.length) 0 [0, 1, 2, 3, 4] (by exact ⟨rfl, rfl, rfl, rfl, rfl, rfl, trivial⟩) (by decide) (by kernel_rfl) (by exact ⟨H97, rfl⟩) (Nat.lt_succ_self _)
  ·have H98 := Jq hb H51; clear H51
   refine Jt ?_
   refine Jn (a3, a0.parts_) (p0_2, n0_2) 0 [0, 1, 2, 3, 4] (by exact ⟨rfl, rfl, rfl, rfl, rfl, rfl, trivial⟩) (by decide) (by kernel_rfl) (by exact ⟨H98, hn0_2⟩) (Nat.lt_succ_self _)
 ·rintro ⟨x10, l⟩ ⟨p, n⟩ gg H52 hl
  replace H52 : Zu a0 a1 a2 t18 x10 l = some r := H52
  try dsimp only
  refine Jf ?_
  refine Jb ?_
  refine Ja rfl rfl rfl (Je (v := .int .i64 a1) rfl) ?_
  refine Ja rfl rfl rfl (Yi (pl := #[(0, 1), (1, 1), (2, 1), (3, 1), (4, 1)]) (ps := [(0, .int .i64 a1)]) (cells := #[.int .i64 a1, Jv [], .slice none 0 0, .slice none 0 0, .slice none 0 0]) Tryz.zeroValue38 Tryz.runUnderlying38 (fun w => by kernel_rfl) rfl rfl) ?_
  refine Yo (cs := [.int .i64 0, Jv [], .slice none 0 0, .slice none 0 0, .slice none 0 0]) Tryz.zeroValue38 rfl rfl rfl (fun b6 => ?_)
  refine Qc (i := 5) (vs := [.int .i64 a1, Jv [], .slice none 0 0, .slice none 0 0, .slice none 0 0]) (cs' := [.int .i64 a1, Jv [], .slice none 0 0, .slice none 0 0, .slice none 0 0]) Tryz.sizeOf38 rfl rfl rfl rfl rfl rfl rfl rfl rfl ?_
  refine Jg ?_
  refine Qz (r := r) (σ := (List UInt8) × Bool × Int × Nat × Int × (List T_tag_Span) × (List (Int × Bool)) × (List UInt8) × (List Int) × (List T_tag_Ratio)) (τ := (Option Addr × Nat) × Nat × Nat × (Option Addr × Nat) × (Option Addr × Nat)) (fun s => Zt a1 s.1 s.2.1 s.2.2.1 s.2.2.2.1 s.2.2.2.2.1 s.2.2.2.2.2.1 s.2.2.2.2.2.2.1 s.2.2.2.2.2.2.2.1 s.2.2.2.2.2.2.2.2.1 s.2.2.2.2.2.2.2.2.2) (fun s t => [(8, .pointer (some ⟨b5, 0, none⟩)), (11, .pointer (some ⟨b6, 0, none⟩))]) (fun s t => [Jo pb0 [Jv s.1, .bool s.2.1, .slice t.1.1 t.2.1 t.1.2, .map (some t.2.2.1), .int .i64 s.2.2.1, (Qo s.2.2.2.1), .int .i64 s.2.2.2.2.1] 195, Qa 56 2 (.slice t.1.1 t.2.1 t.1.2) t.2.1 (s.2.2.2.2.2.1.map Jj), Q1 (fun x_ : Int => .int .i64 x_) (fun x_ : Bool => .bool x_) t.2.2.1 s.2.2.2.2.2.2.1, Yv X6 X6, Jo b5 [.int .i64 0, Jv [], .slice none 0 0, .slice none 0 0, .slice none 0 0] 38, Jo b6 [.int .i64 a1, Jv s.2.2.2.2.2.2.2.1, .slice t.2.2.2.1.1 s.2.2.2.2.2.2.2.2.1.length t.2.2.2.1.2, .slice t.2.2.2.2.1 s.2.2.2.2.2.2.2.2.2.length t.2.2.2.2.2, .slice none 0 0] 38, Qa 3 1 (.slice t.2.2.2.1.1 s.2.2.2.2.2.2.2.2.1.length t.2.2.2.1.2) s.2.2.2.2.2.2.2.2.1.length (s.2.2.2.2.2.2.2.2.1.map Xc), Qa 74 2 (.slice t.2.2.2.2.1 s.2.2.2.2.2.2.2.2.2.length t.2.2.2.2.2) s.2.2.2.2.2.2.2.2.2.length (s.2.2.2.2.2.2.2.2.2.map Jz)]) (fun s t => t.2.1 = s.2.2.2.2.2.1.length) ?_ ?_
  ·refine J8 ?_
   refine Jf ?_
   try dsimp only [z1, z2, z5, z6, z7, z8]
   refine Jb ?_
   refine Ja rfl rfl rfl (Je (v := .int .i64 a1) rfl) ?_
   refine Ja rfl rfl rfl (Q0 rfl rfl) ?_
   refine Ja rfl rfl rfl (Jc (v := .bool (decide (a1 = 2))) rfl) ?_
   refine Jg ?_
   refine Qd (b := (decide (a1 = 2))) rfl (fun hb => ?_) (fun hb => ?_)
   ·have H54 := Jp hb H52; clear H52
    refine Jb ?_
    refine Ja rfl rfl rfl (Je (v := .pointer (some ⟨pb0, 0, none⟩)) rfl) ?_
    refine Ja rfl rfl rfl (Je (v := .pointer (some ⟨pb0, 0, none⟩)) rfl) ?_
    refine Ja rfl rfl rfl (Ju rfl) ?_
    refine Ja rfl rfl rfl (Jk Tryz.runUnderlying195 rfl Tryz.sizeOf9 rfl rfl) ?_
    refine Js (i := 0) (v := Jv a0.s_) Tryz.isAgg9 rfl rfl rfl rfl rfl ?_
    refine Ja rfl rfl rfl (Je (v := .int .i64 x10) rfl) ?_
    refine Ja rfl rfl rfl (Je (v := .int .i64 x10) rfl) ?_
    refine Ja rfl rfl rfl (Je (v := .int .i64 t18) rfl) ?_
    obtain ⟨t86, h_t86, H55⟩ := Jh H54; clear H54
    refine Ja rfl rfl rfl (Qe rfl rfl h_t86) ?_
    obtain ⟨t87, h_t87, H56⟩ := Jh H55; clear H55
    refine Ja rfl rfl rfl (r_cutTG Tryz.underlying9 rfl rfl rfl h_t87) ?_
    obtain ⟨t88, h_t88, H57⟩ := Jh H56; clear H56
    refine Jl 1 2 rfl rfl (by decide) ?_
    refine Jl 0 1 rfl rfl (by decide) ?_
    refine Xg (Ql (i := 0) (rds := []) (G := fun x : (Option Addr × Nat) × Nat => Jv t88.1) (C := fun x : (Option Addr × Nat) × Nat => J1 (Jo pb0 [Jv t88.2.s_, .bool t88.2.big_, .slice x.1.1 t88.2.parts_.length x.1.2, .map (some x.2), .int .i64 t88.2.dirs_, (Qo t88.2.found_), .int .i64 t88.2.no_] 195) (J1 (Qa 56 2 (.slice x.1.1 t88.2.parts_.length x.1.2) t88.2.parts_.length (t88.2.parts_.map Jj)) (Q1 (fun x_ : Int => .int .i64 x_) (fun x_ : Bool => .bool x_) x.2 t88.2.seen_))) rfl (fun w L' S hF hS hi hp hlt ho hA => k241 (a0 := (⟨a0.s_, a0.big_, l, a0.seen_, a0.dirs_, a0.found_, a0.no_⟩ : T_tag_reader)) hp hlt (Xa w S) hl h_t88) Tryz.call241 rfl) rfl rfl rfl (fun ⟨p_5, p_6⟩ => ?_)
    refine Qk 0 1 rfl rfl (by decide) ?_
    refine Qk 1 2 rfl rfl (by decide) ?_
    refine Ja rfl rfl rfl (Jk Tryz.runUnderlying38 rfl Tryz.sizeOf9 rfl rfl) ?_
    refine Qc (i := 5) (vs := [Jv t88.1]) (cs' := [.int .i64 a1, Jv t88.1, .slice none 0 0, .slice none 0 0, .slice none 0 0]) Tryz.sizeOf9 rfl rfl rfl rfl rfl rfl rfl rfl rfl ?_
    refine Jg ?_
    refine J0 3 1 ?_
    refine J0 74 2 ?_
    refine Jn (t88.2.s_, t88.2.big_, t88.2.dirs_, t88.2.found_, t88.2.no_, t88.2.parts_, t88.2.seen_, t88.1, ([] : List Int), ([] : List T_tag_Ratio)) (p_5, t88.2.parts_.length, p_6, ((none, 0) : Option Addr × Nat), ((none, 0) : Option Addr × Nat)) 0 [0, 1, 2, 3, 4, 5, 6, 7] (by exact ⟨rfl, rfl, trivial⟩) (by decide) (by kernel_rfl) (by exact ⟨H57, rfl⟩) (Nat.lt_succ_self _)
   ·have H58 := Jq hb H52; clear H52
    refine Jf ?_
    try dsimp only [z1, z2, z5, z6, z7, z8]
    refine Jb ?_
    refine Ja rfl rfl rfl (Je (v := .int .i64 a1) rfl) ?_
    refine Ja rfl rfl rfl (Q0 rfl rfl) ?_
    refine Ja rfl rfl rfl (Jc (v := .bool (decide (a1 = 7))) rfl) ?_
    refine Jg ?_
    refine Qd (b := (decide (a1 = 7))) rfl (fun hb => ?_) (fun hb => ?_)
    ·have H59 := Jp hb H58; clear H58
     refine Jb ?_
     refine Ja rfl rfl rfl (Je (v := .pointer (some ⟨pb0, 0, none⟩)) rfl) ?_
     refine Ja rfl rfl rfl (Ju rfl) ?_
     refine Ja rfl rfl rfl (Jk Tryz.runUnderlying195 rfl Tryz.sizeOf9 rfl rfl) ?_
     refine Js (i := 0) (v := Jv a0.s_) Tryz.isAgg9 rfl rfl rfl rfl rfl ?_
     refine Ja rfl rfl rfl (Je (v := .int .i64 x10) rfl) ?_
     refine Ja rfl rfl rfl (Je (v := .int .i64 x10) rfl) ?_
     refine Ja rfl rfl rfl (Je (v := .int .i64 t18) rfl) ?_
     obtain ⟨t100, h_t100, H60⟩ := Jh H59; clear H59
     refine Ja rfl rfl rfl (Qe rfl rfl h_t100) ?_
     obtain ⟨t101, h_t101, H61⟩ := Jh H60; clear H60
     refine Ja rfl rfl rfl (r_cutTG Tryz.underlying9 rfl rfl rfl h_t101) ?_
     refine Ja rfl rfl rfl (Jk Tryz.runUnderlying38 rfl Tryz.sizeOf9 rfl rfl) ?_
     refine Qc (i := 5) (vs := [Jv t101]) (cs' := [.int .i64 a1, Jv t101, .slice none 0 0, .slice none 0 0, .slice none 0 0]) Tryz.sizeOf9 rfl rfl rfl rfl rfl rfl rfl rfl rfl ?_
     refine Jg ?_
     refine J0 3 1 ?_
     refine J0 74 2 ?_
     refine Jn (a0.s_, a0.big_, a0.dirs_, a0.found_, a0.no_, l, a0.seen_, t101, ([] : List Int), ([] : List T_tag_Ratio)) (p, n, m0_3, ((none, 0) : Option Addr × Nat), ((none, 0) : Option Addr × Nat)) 0 [0, 1, 2, 3, 4, 5, 6, 7] (by exact ⟨rfl, rfl, trivial⟩) (by decide) (by kernel_rfl) (by exact ⟨H61, hl⟩) (Nat.lt_succ_self _)
    ·have H62 := Jq hb H58; clear H58
     refine Jf ?_
     refine Jb ?_
     refine Ja rfl rfl rfl (Je (v := .int .i64 a1) rfl) ?_
     refine Ja rfl rfl rfl (Q0 rfl rfl) ?_
     refine Ja rfl rfl rfl (Jc (v := .bool (decide (a1 = 5))) rfl) ?_
     refine Jg ?_
     refine Qd (b := (decide (a1 = 5))) rfl (fun hb => ?_) (fun hb => ?_)
     ·have H63 := Jp hb H62; clear H62
      refine Jf ?_
      refine Jb ?_
      refine Ja rfl rfl rfl (Je (v := .int .i64 a2) rfl) ?_
      refine Ja rfl rfl rfl (Je (v := .int .i64 0) rfl) ?_
      refine Jg ?_
      refine J8 ?_
      refine J0 74 2 ?_
      refine Z2 (σ := Int × (List T_tag_Ratio)) (τ := (Option Addr × Nat)) (fun next3 s => Xw a0 a1 a2 x10 l next3 s.1 s.2) (fun s t => [(0, .pointer (some ⟨pb0, 0, none⟩)), (8, .pointer (some ⟨b5, 0, none⟩)), (10, .int .i64 x10), (11, .pointer (some ⟨b6, 0, none⟩)), (106, .int .i64 a2), (107, .int .i64 s.1)]) (fun s t => [Jo pb0 [Jv a0.s_, .bool a0.big_, .slice p.1 n p.2, .map (some m0_3), .int .i64 a0.dirs_, (Qo a0.found_), .int .i64 a0.no_] 195, Qa 56 2 (.slice p.1 n p.2) n (l.map Jj), Q1 (fun x_ : Int => .int .i64 x_) (fun x_ : Bool => .bool x_) m0_3 a0.seen_, Yv X6 X6, Jo b5 [.int .i64 0, Jv [], .slice none 0 0, .slice none 0 0, .slice none 0 0] 38, Jo b6 [.int .i64 a1, Jv [], .slice none 0 0, .slice t.1 s.2.length t.2, .slice none 0 0] 38, Qa 74 2 (.slice t.1 s.2.length t.2) s.2.length (s.2.map Jz)]) (fun s t => True) (0, ([] : List T_tag_Ratio)) ((none, 0) : Option Addr × Nat) [0, 1, 2, 3, 4, 5, 6] H63 (by exact trivial) (by exact ⟨rfl, rfl, rfl, rfl, rfl, rfl, trivial⟩) (by decide) rfl ?_
      rintro ⟨x107_2, l_6⟩ p_7 m3 gg H64 _
      clear H63
      replace H64 : Xw a0 a1 a2 x10 l (it (fun next3 s => Xw a0 a1 a2 x10 l next3 s.1 s.2) m3) x107_2 l_6 = some r := H64
      generalize hn3 : it (fun next3 s => Xw a0 a1 a2 x10 l next3 s.1 s.2) m3 = next3 at H64
      try dsimp only
      refine Jf ?_
      refine Jb ?_
      refine Ja rfl rfl rfl (Zc rfl rfl) ?_
      refine Jg ?_
      refine Jf ?_
      refine Qd (b := (decide (x107_2 < a2))) rfl (fun hb => ?_) (fun hb => ?_)
      ·have H65 := Jp hb H64; clear H64
       refine Jt ?_
       refine Jf ?_
       refine J8 ?_
       refine Jf ?_
       refine Jb ?_
       refine Ja rfl rfl rfl (Je (v := .int .i64 x107_2) rfl) ?_
       refine Ja rfl rfl rfl (Jc (v := .int .i64 x107_2) rfl) ?_
       refine Jg ?_
       exact Xp (Kd.p :: Kd.d [5] _ :: Kd.p :: Kd.p :: Kd.p :: Kd.p :: Kd.p :: Kd.d [3, 0, 1, 2] _ :: Kd.p :: Kd.p :: Kd.p :: Kd.p :: Kd.p :: Kd.p :: Kd.d [3, 0, 1, 2] _ :: Kd.p :: Kd.ns 7 [_, _] 74 1 :: Kd.t 6 [7] _ _ :: Kd.p :: Kd.sv 128 127 5 _ 38 :: []) 1 mixed (by
        refine Jm rfl rfl (Jk Tryz.runUnderlying38 rfl Tryz.sizeOf31 rfl rfl) ?_
        refine Xq (i := 5) (v := .slice p_7.1 l_6.length p_7.2) Tryz.isAgg31 rfl rfl rfl rfl ?_
        refine Jm rfl rfl (Je (v := .pointer (some ⟨pb0, 0, none⟩)) rfl) ?_
        refine Jm rfl rfl (Je (v := .int .i64 x10) rfl) ?_
        refine Jm rfl rfl (Je (v := .int .i64 x107_2) rfl) ?_
        have h_t115 := Qg H65
        have H66 := J6 H65
        refine Jm rfl rfl (W6 rfl rfl h_t115) ?_
        have h_t116 := Qg H66
        have H67 := J6 H66
        refine Jm rfl rfl (Qe rfl rfl h_t116) ?_
        have h_t117 := Qg H67
        have H68 := J6 H67
        refine d_callD (fun w L' hF hS hi => k127 (a0 := (⟨a0.s_, a0.big_, l, a0.seen_, a0.dirs_, a0.found_, a0.no_⟩ : T_tag_reader)) (J7 w) (Yn (i := 1) hl hS ((hi 1 (by simp)).trans rfl)) (Xz (fk := (fun x_ : Int => .int .i64 x_)) (fv := (fun x_ : Bool => .bool x_)) (i := 2) hS ((hi 2 (by simp)).trans rfl)) (Xb (i := 0) hS ((hi 0 (by simp)).trans rfl)) h_t117) Tryz.call127 rfl rfl ?_
        refine Jm rfl rfl (Je (v := .pointer (some ⟨pb0, 0, none⟩)) rfl) ?_
        refine Jm rfl rfl (Je (v := .int .i64 x10) rfl) ?_
        refine Jm rfl rfl (Je (v := .int .i64 x107_2) rfl) ?_
        have h_t121 := Qg H68
        have H69 := J6 H68
        refine Jm rfl rfl (W6 rfl rfl h_t121) ?_
        have h_t122 := Qg H69
        have H70 := J6 H69
        refine Jm rfl rfl (Qe rfl rfl h_t122) ?_
        have h_t123 := Qg H70
        have H71 := J6 H70
        refine Jm rfl rfl (Qe rfl rfl h_t123) ?_
        have h_t124 := Qg H71
        have H72 := J6 H71
        refine d_callD (fun w L' hF hS hi => k127 (a0 := (⟨a0.s_, a0.big_, l, a0.seen_, a0.dirs_, a0.found_, a0.no_⟩ : T_tag_reader)) (J7 w) (Yn (i := 1) hl hS ((hi 1 (by simp)).trans rfl)) (Xz (fk := (fun x_ : Int => .int .i64 x_)) (fv := (fun x_ : Bool => .bool x_)) (i := 2) hS ((hi 2 (by simp)).trans rfl)) (Xb (i := 0) hS ((hi 0 (by simp)).trans rfl)) h_t124) Tryz.call127 rfl rfl ?_
        refine Jm rfl rfl (Yi (pl := #[(0, 1), (1, 1)]) (ps := [(0, .int .i64 (val (Jy (⟨a0.s_, a0.big_, l, a0.seen_, a0.dirs_, a0.found_, a0.no_⟩ : T_tag_reader) (val (gI (x10 + (val (gI (8 * x107_2)))))) 4))), (1, .int .i64 (val (Jy (⟨a0.s_, a0.big_, l, a0.seen_, a0.dirs_, a0.found_, a0.no_⟩ : T_tag_reader) (val (gI ((val (gI (x10 + (val (gI (8 * x107_2)))))) + 4))) 4)))]) (cells := #[.int .i64 (val (Jy (⟨a0.s_, a0.big_, l, a0.seen_, a0.dirs_, a0.found_, a0.no_⟩ : T_tag_reader) (val (gI (x10 + (val (gI (8 * x107_2)))))) 4)), .int .i64 (val (Jy (⟨a0.s_, a0.big_, l, a0.seen_, a0.dirs_, a0.found_, a0.no_⟩ : T_tag_reader) (val (gI ((val (gI (x10 + (val (gI (8 * x107_2)))))) + 4))) 4))]) Tryz.zeroValue74 Tryz.runUnderlying74 (fun w => by kernel_rfl) rfl rfl) ?_
        refine d_newS rfl rfl (run_buildSlice (vs := [.agg #[.int .i64 (val (Jy (⟨a0.s_, a0.big_, l, a0.seen_, a0.dirs_, a0.found_, a0.no_⟩ : T_tag_reader) (val (gI (x10 + (val (gI (8 * x107_2)))))) 4)), .int .i64 (val (Jy (⟨a0.s_, a0.big_, l, a0.seen_, a0.dirs_, a0.found_, a0.no_⟩ : T_tag_reader) (val (gI ((val (gI (x10 + (val (gI (8 * x107_2)))))) + 4))) 4))]]) (cs := [.int .i64 (val (Jy (⟨a0.s_, a0.big_, l, a0.seen_, a0.dirs_, a0.found_, a0.no_⟩ : T_tag_reader) (val (gI (x10 + (val (gI (8 * x107_2)))))) 4)), .int .i64 (val (Jy (⟨a0.s_, a0.big_, l, a0.seen_, a0.dirs_, a0.found_, a0.no_⟩ : T_tag_reader) (val (gI ((val (gI (x10 + (val (gI (8 * x107_2)))))) + 4))) 4))]) Tryz.underlying31 Tryz.sizeOf74 Tryz.zeroValue74 rfl rfl rfl rfl rfl) rfl (fun b7 => ?_)
        have h_l127 := Qg H72
        have H73 := J6 H72
        refine d_turn (Cv := fun v => Qa 74 2 v (val (Vu 16 l_6 ([(⟨(val (Jy (⟨a0.s_, a0.big_, l, a0.seen_, a0.dirs_, a0.found_, a0.no_⟩ : T_tag_reader) (val (gI (x10 + (val (gI (8 * x107_2)))))) 4)), (val (Jy (⟨a0.s_, a0.big_, l, a0.seen_, a0.dirs_, a0.found_, a0.no_⟩ : T_tag_reader) (val (gI ((val (gI (x10 + (val (gI (8 * x107_2)))))) + 4))) 4))⟩ : T_tag_Ratio)] : List T_tag_Ratio))).length ((val (Vu 16 l_6 ([(⟨(val (Jy (⟨a0.s_, a0.big_, l, a0.seen_, a0.dirs_, a0.found_, a0.no_⟩ : T_tag_reader) (val (gI (x10 + (val (gI (8 * x107_2)))))) 4)), (val (Jy (⟨a0.s_, a0.big_, l, a0.seen_, a0.dirs_, a0.found_, a0.no_⟩ : T_tag_reader) (val (gI ((val (gI (x10 + (val (gI (8 * x107_2)))))) + 4))) 4))⟩ : T_tag_Ratio)] : List T_tag_Ratio))).map Jz)) (none, 0) (Y3 (i := 6) (hn := rfl) (rds := [7]) (p := p_7) (sz := 2) (by_ := 16) (f := Jz) (ys := l_6) (ls := ([(⟨(val (Jy (⟨a0.s_, a0.big_, l, a0.seen_, a0.dirs_, a0.found_, a0.no_⟩ : T_tag_reader) (val (gI (x10 + (val (gI (8 * x107_2)))))) 4)), (val (Jy (⟨a0.s_, a0.big_, l, a0.seen_, a0.dirs_, a0.found_, a0.no_⟩ : T_tag_reader) (val (gI ((val (gI (x10 + (val (gI (8 * x107_2)))))) + 4))) 4))⟩ : T_tag_Ratio)] : List T_tag_Ratio)) (V := .slice (some ⟨b7, 0, none⟩) 1 1) Tryz.underlying31 (Z1 Tryz.typeInfo74) rfl rfl rfl rfl rfl rfl rfl rfl rfl rfl (fun w L' hF hS hi => Wo (i := 7) hS ((hi 7 (by simp)).trans rfl) rfl rfl) (fun _ => rfl) (fun _ => rfl) h_l127) (fun _ => rfl) rfl rfl (fun p_8 => ?_)
        refine Jm rfl rfl (Jk Tryz.runUnderlying38 rfl Tryz.sizeOf31 rfl rfl) ?_
        refine d_storeV (i := 5) (vs := [.slice p_8.1 (val (Vu 16 l_6 ([(⟨(val (Jy (⟨a0.s_, a0.big_, l, a0.seen_, a0.dirs_, a0.found_, a0.no_⟩ : T_tag_reader) (val (gI (x10 + (val (gI (8 * x107_2)))))) 4)), (val (Jy (⟨a0.s_, a0.big_, l, a0.seen_, a0.dirs_, a0.found_, a0.no_⟩ : T_tag_reader) (val (gI ((val (gI (x10 + (val (gI (8 * x107_2)))))) + 4))) 4))⟩ : T_tag_Ratio)] : List T_tag_Ratio))).length p_8.2]) (cs' := fun v_ => [.int .i64 a1, Jv [], .slice none 0 0, v_, .slice none 0 0]) Tryz.sizeOf31 rfl rfl rfl rfl rfl rfl rfl rfl rfl ?_
        refine Zh ?_
        refine Jb ?_
        obtain ⟨t129, h_t129, H74⟩ := Jh H73; clear H73
        refine Ja rfl rfl rfl (Qe rfl rfl h_t129) ?_
        refine Ja rfl rfl rfl (Je (v := .int .i64 t129) rfl) ?_
        refine Jg ?_
        refine Jn (t129, (val (Vu 16 l_6 ([(⟨(val (Jy (⟨a0.s_, a0.big_, l, a0.seen_, a0.dirs_, a0.found_, a0.no_⟩ : T_tag_reader) (val (gI (x10 + (val (gI (8 * x107_2)))))) 4)), (val (Jy (⟨a0.s_, a0.big_, l, a0.seen_, a0.dirs_, a0.found_, a0.no_⟩ : T_tag_reader) (val (gI ((val (gI (x10 + (val (gI (8 * x107_2)))))) + 4))) 4))⟩ : T_tag_Ratio)] : List T_tag_Ratio)))) p_8 m3 [0, 1, 2, 3, 4, 5, 6] (by exact ⟨rfl, rfl, rfl, rfl, rfl, rfl, trivial⟩) (by decide) (by kernel_rfl) (by exact ⟨(by subst hn3; exact H74), trivial⟩) (Nat.lt_succ_self _)
        ) (by kernel_rfl)
      ·have H75 := Jq hb H64; clear H64
       refine X3 ?_
       refine J0 3 1 ?_
       refine Jn (a0.s_, a0.big_, a0.dirs_, a0.found_, a0.no_, l, a0.seen_, [], ([] : List Int), l_6) (p, n, m0_3, ((none, 0) : Option Addr × Nat), p_7) 0 [0, 1, 2, 3, 4, 5, 7, 6] (by exact ⟨rfl, rfl, trivial⟩) (by decide) (by kernel_rfl) (by exact ⟨H75, hl⟩) (Nat.lt_succ_self _)
     ·have H76 := Jq hb H62; clear H62
      refine Jf ?_
      refine Jb ?_
      refine Ja rfl rfl rfl (Je (v := .int .i64 a2) rfl) ?_
      refine Ja rfl rfl rfl (Je (v := .int .i64 0) rfl) ?_
      refine Jg ?_
      refine J8 ?_
      refine J0 3 1 ?_
      refine Z2 (σ := Int × (List Int)) (τ := (Option Addr × Nat)) (fun next4 s => Xx a0 a1 a2 x10 l next4 s.1 s.2) (fun s t => [(0, .pointer (some ⟨pb0, 0, none⟩)), (1, .int .i64 a1), (8, .pointer (some ⟨b5, 0, none⟩)), (10, .int .i64 x10), (11, .pointer (some ⟨b6, 0, none⟩)), (49, .int .i64 a2), (50, .int .i64 s.1)]) (fun s t => [Jo pb0 [Jv a0.s_, .bool a0.big_, .slice p.1 n p.2, .map (some m0_3), .int .i64 a0.dirs_, (Qo a0.found_), .int .i64 a0.no_] 195, Qa 56 2 (.slice p.1 n p.2) n (l.map Jj), Q1 (fun x_ : Int => .int .i64 x_) (fun x_ : Bool => .bool x_) m0_3 a0.seen_, Yv X6 X6, Jo b5 [.int .i64 0, Jv [], .slice none 0 0, .slice none 0 0, .slice none 0 0] 38, Jo b6 [.int .i64 a1, Jv [], .slice t.1 s.2.length t.2, .slice none 0 0, .slice none 0 0] 38, Qa 3 1 (.slice t.1 s.2.length t.2) s.2.length (s.2.map Xc)]) (fun s t => True) (0, ([] : List Int)) ((none, 0) : Option Addr × Nat) [0, 1, 2, 3, 4, 5, 6] H76 (by exact trivial) (by exact ⟨rfl, rfl, rfl, rfl, rfl, rfl, rfl, trivial⟩) (by decide) rfl ?_
      rintro ⟨x50_2, l_8⟩ p_9 m4 gg H77 _
      clear H76
      replace H77 : Xx a0 a1 a2 x10 l (it (fun next4 s => Xx a0 a1 a2 x10 l next4 s.1 s.2) m4) x50_2 l_8 = some r := H77
      generalize hn4 : it (fun next4 s => Xx a0 a1 a2 x10 l next4 s.1 s.2) m4 = next4 at H77
      try dsimp only
      refine Jf ?_
      try dsimp only [z1, z2, z5, z6, z7, z8]
      refine Jb ?_
      refine Ja rfl rfl rfl (Zc rfl rfl) ?_
      refine Jg ?_
      refine Jf ?_
      refine Qd (b := (decide (x50_2 < a2))) rfl (fun hb => ?_) (fun hb => ?_)
      ·have H78 := Jp hb H77; clear H77
       refine Jt ?_
       refine Jf ?_
       refine J8 ?_
       refine Jf ?_
       refine Jb ?_
       refine Ja rfl rfl rfl (Je (v := .int .i64 x50_2) rfl) ?_
       refine Ja rfl rfl rfl (Jc (v := .int .i64 x50_2) rfl) ?_
       refine Jg ?_
       refine Jf ?_
       refine Jb ?_
       refine Ja rfl rfl rfl (Je (v := .pointer (some ⟨pb0, 0, none⟩)) rfl) ?_
       refine Ja rfl rfl rfl (Je (v := .int .i64 x10) rfl) ?_
       refine Ja rfl rfl rfl (Je (v := .int .i64 x50_2) rfl) ?_
       refine Ja rfl rfl rfl (Je (v := .int .i64 a1) rfl) ?_
       obtain ⟨t57, h_t57, H79⟩ := Jh H78; clear H78
       refine Wb (k139 h_t57) Tryz.call139 rfl rfl rfl ?_
       obtain ⟨t58, h_t58, H80⟩ := Jh H79; clear H79
       refine Ja rfl rfl rfl (W6 rfl rfl h_t58) ?_
       obtain ⟨t59, h_t59, H81⟩ := Jh H80; clear H80
       refine Ja rfl rfl rfl (Qe rfl rfl h_t59) ?_
       refine Ja rfl rfl rfl (Je (v := .int .i64 a1) rfl) ?_
       obtain ⟨t61, h_t61, H82⟩ := Jh H81; clear H81
       refine Wb (k139 h_t61) Tryz.call139 rfl rfl rfl ?_
       obtain ⟨t62, h_t62, H83⟩ := Jh H82; clear H82
       refine Qw (fun w hF hS => k127 (a0 := (⟨a0.s_, a0.big_, l, a0.seen_, a0.dirs_, a0.found_, a0.no_⟩ : T_tag_reader)) (J7 w) (Yn (i := 1) hl hS rfl) (Xz (fk := (fun x_ : Int => .int .i64 x_)) (fv := (fun x_ : Bool => .bool x_)) (i := 2) hS rfl) (Xb (i := 0) hS rfl) h_t62) Tryz.call127 rfl rfl rfl ?_
       refine Ja rfl rfl rfl (Jc (v := .int .i64 t62) rfl) ?_
       refine Jg ?_
       refine Qz (r := r) (σ := Int) (τ := Unit) (fun s => Zv x50_2 l_8 next4 s) (fun s t => [(0, .pointer (some ⟨pb0, 0, none⟩)), (1, .int .i64 a1), (8, .pointer (some ⟨b5, 0, none⟩)), (10, .int .i64 x10), (11, .pointer (some ⟨b6, 0, none⟩)), (14, .int .i64 s), (49, .int .i64 a2), (50, .int .i64 x50_2)]) (fun s t => [Jo pb0 [Jv a0.s_, .bool a0.big_, .slice p.1 n p.2, .map (some m0_3), .int .i64 a0.dirs_, (Qo a0.found_), .int .i64 a0.no_] 195, Qa 56 2 (.slice p.1 n p.2) n (l.map Jj), Q1 (fun x_ : Int => .int .i64 x_) (fun x_ : Bool => .bool x_) m0_3 a0.seen_, Yv X6 X6, Jo b5 [.int .i64 0, Jv [], .slice none 0 0, .slice none 0 0, .slice none 0 0] 38, Jo b6 [.int .i64 a1, Jv [], .slice p_9.1 l_8.length p_9.2, .slice none 0 0, .slice none 0 0] 38, Qa 3 1 (.slice p_9.1 l_8.length p_9.2) l_8.length (l_8.map Xc)]) (fun s t => True) ?_ ?_
       ·refine Jf ?_
        refine Jb ?_
        refine Ja rfl rfl rfl (Je (v := .int .i64 a1) rfl) ?_
        refine Ja rfl rfl rfl (Q0 rfl rfl) ?_
        refine Jg ?_
        refine Qd (b := (decide (a1 = 9))) rfl (fun hb => ?_) (fun hb => ?_)
        ·have H87 := Jp hb H83; clear H83
         refine Jb ?_
         refine Ja rfl rfl rfl (Je (v := .int .i64 t62) rfl) ?_
         refine Ja rfl rfl rfl (r_convG Tryz.runUnderlying3 Tryz.runUnderlying21 rfl (wr_i32 _)) ?_
         refine Ja rfl rfl rfl (r_convG Tryz.runUnderlying21 Tryz.runUnderlying3 rfl (wr_i64 _)) ?_
         refine Ja rfl rfl rfl (Jc (v := .int .i64 (wI64 (wI32 t62))) rfl) ?_
         refine Jg ?_
         refine Jn (wI64 (wI32 t62)) () 0 [0, 1, 2, 3, 4, 5, 6] (by exact ⟨rfl, rfl, rfl, rfl, rfl, rfl, rfl, rfl, trivial⟩) (by decide) (by kernel_rfl) (by exact ⟨H87, trivial⟩) (Nat.lt_succ_self _)
        ·have H88 := Jq hb H83; clear H83
         refine Jt ?_
         refine Jn t62 () 0 [0, 1, 2, 3, 4, 5, 6] (by exact ⟨rfl, rfl, rfl, rfl, rfl, rfl, rfl, rfl, trivial⟩) (by decide) (by kernel_rfl) (by exact ⟨H88, trivial⟩) (Nat.lt_succ_self _)
       ·rintro x14 _ gg H84 _
        replace H84 : Zv x50_2 l_8 next4 x14 = some r := H84
        try dsimp only
        refine Jb ?_
        refine Ja rfl rfl rfl (Jk Tryz.runUnderlying38 rfl Tryz.sizeOf30 rfl rfl) ?_
        refine Js (i := 5) (v := .slice p_9.1 l_8.length p_9.2) Tryz.isAgg30 rfl rfl rfl rfl rfl ?_
        refine Ja rfl rfl rfl (Je (v := .int .i64 x14) rfl) ?_
        refine Q9 (vs := [.int .i64 x14]) (cs := [.int .i64 x14]) Tryz.underlying30 Tryz.sizeOf3 Tryz.zeroValue3 rfl rfl rfl rfl rfl rfl rfl (fun b8 => ?_)
        obtain ⟨l72, h_l72, H85⟩ := Jh H84; clear H84
        refine Xg (Y3 (i := 6) (hn := rfl) (rds := [7]) (p := p_9) (sz := 1) (by_ := 8) (f := Xc) (ys := l_8) (ls := ([x14] : List Int)) (V := .slice (some ⟨b8, 0, none⟩) 1 1) Tryz.underlying30 (Z1 Tryz.typeInfo3) rfl rfl rfl rfl rfl rfl rfl rfl rfl rfl (fun w L' hF hS hi => Wo (i := 7) hS ((hi 7 (by simp)).trans rfl) rfl rfl) (fun _ => rfl) (fun _ => rfl) h_l72) rfl rfl rfl (fun p_10 => ?_)
        refine Ja rfl rfl rfl (Jk Tryz.runUnderlying38 rfl Tryz.sizeOf30 rfl rfl) ?_
        refine Qc (i := 5) (vs := [.slice p_10.1 l72.length p_10.2]) (cs' := [.int .i64 a1, Jv [], .slice p_10.1 l72.length p_10.2, .slice none 0 0, .slice none 0 0]) Tryz.sizeOf30 rfl rfl rfl rfl rfl rfl rfl rfl rfl ?_
        refine Jg ?_
        refine Jb ?_
        obtain ⟨t74, h_t74, H86⟩ := Jh H85; clear H85
        refine Ja rfl rfl rfl (Qe rfl rfl h_t74) ?_
        refine Ja rfl rfl rfl (Je (v := .int .i64 t74) rfl) ?_
        refine Jg ?_
        refine Jn (t74, l72) p_10 m4 [0, 1, 2, 3, 4, 5, 6] (by exact ⟨rfl, rfl, rfl, rfl, rfl, rfl, rfl, trivial⟩) (by decide) (by kernel_rfl) (by exact ⟨(by subst hn4; exact H86), trivial⟩) (Nat.lt_succ_self _)
      ·have H89 := Jq hb H77; clear H77
       refine X3 ?_
       refine J0 74 2 ?_
       refine Jn (a0.s_, a0.big_, a0.dirs_, a0.found_, a0.no_, l, a0.seen_, [], l_8, ([] : List T_tag_Ratio)) (p, n, m0_3, p_9, ((none, 0) : Option Addr × Nat)) 0 [0, 1, 2, 3, 4, 5, 6, 7] (by exact ⟨rfl, rfl, trivial⟩) (by decide) (by kernel_rfl) (by exact ⟨H89, hl⟩) (Nat.lt_succ_self _)
  ·rintro ⟨m, m_2, m_3, m_4, m_5, l_2, mp, m_6, l_3, l_4⟩ ⟨p_2, n_2, b, p_3, p_4⟩ gg H53 hl_2
   replace H53 : Zt a1 m m_2 m_3 m_4 m_5 l_2 mp m_6 l_3 l_4 = some r := H53
   try dsimp only
   refine Jf ?_
   try dsimp only [z1, z2, z5, z6, z7, z8]
   refine Jb ?_
   refine Xr (i := 5) (vs := [.int .i64 a1, Jv m_6, .slice p_3.1 l_3.length p_3.2, .slice p_4.1 l_4.length p_4.2, .slice none 0 0]) Tryz.isAgg38 Tryz.sizeOf38 rfl rfl rfl rfl rfl ?_
   refine Qc (i := 4) (vs := [.int .i64 a1, Jv m_6, .slice p_3.1 l_3.length p_3.2, .slice p_4.1 l_4.length p_4.2, .slice none 0 0]) (cs' := [.int .i64 a1, Jv m_6, .slice p_3.1 l_3.length p_3.2, .slice p_4.1 l_4.length p_4.2, .slice none 0 0]) Tryz.sizeOf38 rfl rfl rfl rfl rfl rfl rfl rfl rfl ?_
   refine Jg ?_
   refine Jx ?_
   refine c_dr 5 ?_
   try dsimp only [z1, z2, z3, z4, z5, z6, z7, z8]
   refine J0 83 6 ?_
   obtain rfl := Option.some.inj H53
   refine Jl 3 7 rfl rfl (by decide) ?_
   refine Y0 3 rfl (Xn (p := ((none, 0) : Option Addr × Nat)) rfl (AllC.nil (G := g_tag_Entry) (h := X6) (sz := 6))) ?_
   refine Jl 6 3 rfl rfl (by decide) ?_
   refine Jl 5 6 rfl rfl (by decide) ?_
   refine Jl 2 5 rfl rfl (by decide) ?_
   refine Jl 1 2 rfl rfl (by decide) ?_
   refine Jl 0 1 rfl rfl (by decide) ?_
   refine retC (i := 4) (vs := [.int .i64 a1, Jv m_6, .slice p_3.1 l_3.length p_3.2, .slice p_4.1 l_4.length p_4.2, .slice ((none, 0) : Option Addr × Nat).1 (([] : List (List Value)).length) ((none, 0) : Option Addr × Nat).2]) Tryz.isAgg38 Tryz.sizeOf38 rfl rfl rfl rfl (V6 (p_3, p_4, ((none, 0) : Option Addr × Nat), p_2, b) (i := 0) rfl (by first | rfl | rw [(show (([] : List (List Value)).length) = ([] : List T_tag_Entry).length from (AllC.nil (G := g_tag_Entry) (h := X6) (sz := 6)).len), (show n_2 = l_2.length from hl_2)]) (by first | exact Imp.refl _ | exact Imp.of (by rw [(show (([] : List (List Value)).length) = ([] : List T_tag_Entry).length from (AllC.nil (G := g_tag_Entry) (h := X6) (sz := 6)).len), (show n_2 = l_2.length from hl_2)] <;> rfl)))
theorem k171_b {self : (T_tag_reader × Int × (List Int)) → Option ((List T_tag_Entry) × Int × T_tag_reader)} (ih : ∀ {a0 : T_tag_reader} {pb0 : Nat} {p0_2 : Option Addr × Nat} {n0_2 : Nat} {m0_3 : Nat} {a1 : Int} {a2 : (List Int)} {v2 : Value} {r : (List T_tag_Entry) × Int × T_tag_reader} {w : World} {h : Qj} {S : Nat → Prop} (hcs : (J1 (Jo pb0 [Jv a0.s_, .bool a0.big_, .slice p0_2.1 n0_2 p0_2.2, .map (some m0_3), .int .i64 a0.dirs_, (Qo a0.found_), .int .i64 a0.no_] 195) (J1 (Qa 56 2 (.slice p0_2.1 n0_2 p0_2.2) n0_2 (a0.parts_.map Jj)) (Q1 (fun x_ : Int => .int .i64 x_) (fun x_ : Bool => .bool x_) m0_3 a0.seen_))).P S w) (hlt : ∀ b, S b → b < w.heap.size) (hw : Know h w S) (hn0_2 : n0_2 = a0.parts_.length) (f2 : FrS h 1 v2 (a2.map Xc)) (_ : self (a0, a1, a2) = some r), Does Tryz.prog 128 (List.toArray [.pointer (some ⟨pb0, 0, none⟩), .int .i64 a1, v2]) w (fun v w' => ∃ x : (Option Addr × Nat) × (Option Addr × Nat) × Nat, v = (.tuple #[.slice x.1.1 r.1.length x.1.2, .int .i64 r.2.1]) ∧ Turn w w' S (J1 (Jo pb0 [Jv r.2.2.s_, .bool r.2.2.big_, .slice x.2.1.1 r.2.2.parts_.length x.2.1.2, .map (some x.2.2), .int .i64 r.2.2.dirs_, (Qo r.2.2.found_), .int .i64 r.2.2.no_] 195) (J1 (Qa 56 2 (.slice x.2.1.1 r.2.2.parts_.length x.2.1.2) r.2.2.parts_.length (r.2.2.parts_.map Jj)) (J1 (Q1 (fun x_ : Int => .int .i64 x_) (fun x_ : Bool => .bool x_) x.2.2 r.2.2.seen_) (W3 83 6 g_tag_Entry (.slice x.1.1 r.1.length x.1.2) r.1.length r.1)))))) {a0 : T_tag_reader} {pb0 : Nat} {p0_2 : Option Addr × Nat} {n0_2 : Nat} {m0_3 : Nat} {a1 : Int} {a2 : (List Int)} {v2 : Value} {r : T_tag_Entry × T_tag_reader} {w : World} {h : Qj} {S : Nat → Prop} (hcs : (J1 (Jo pb0 [Jv a0.s_, .bool a0.big_, .slice p0_2.1 n0_2 p0_2.2, .map (some m0_3), .int .i64 a0.dirs_, (Qo a0.found_), .int .i64 a0.no_] 195) (J1 (Qa 56 2 (.slice p0_2.1 n0_2 p0_2.2) n0_2 (a0.parts_.map Jj)) (Q1 (fun x_ : Int => .int .i64 x_) (fun x_ : Bool => .bool x_) m0_3 a0.seen_))).P S w) (hlt : ∀ b, S b → b < w.heap.size) (hw : Know h w S) (hn0_2 : n0_2 = a0.parts_.length) (f2 : FrS h 1 v2 (a2.map Xc)) (H : Xt self a0 a1 a2 = some r) : Does Tryz.prog 171 (List.toArray [.pointer (some ⟨pb0, 0, none⟩), .int .i64 a1, v2]) w (fun v w' => ∃ x : (Option Addr × Nat) × (Option Addr × Nat) × (Option Addr × Nat) × (Option Addr × Nat) × Nat, v = (.agg #[.int .i64 r.1.Tag, .int .i64 r.1.Value.Kind, Jv r.1.Value.Text, .slice x.1.1 r.1.Value.Ints.length x.1.2, .slice x.2.1.1 r.1.Value.Ratios.length x.2.1.2, .slice x.2.2.1.1 r.1.Value.Entries.length x.2.2.1.2]) ∧ Turn w w' S (J1 (Jo pb0 [Jv r.2.s_, .bool r.2.big_, .slice x.2.2.2.1.1 r.2.parts_.length x.2.2.2.1.2, .map (some x.2.2.2.2), .int .i64 r.2.dirs_, (Qo r.2.found_), .int .i64 r.2.no_] 195) (J1 (Qa 56 2 (.slice x.2.2.2.1.1 r.2.parts_.length x.2.2.2.1.2) r.2.parts_.length (r.2.parts_.map Jj)) (J1 (Q1 (fun x_ : Int => .int .i64 x_) (fun x_ : Bool => .bool x_) x.2.2.2.2 r.2.seen_) (J1 (Qa 3 1 (.slice x.1.1 r.1.Value.Ints.length x.1.2) r.1.Value.Ints.length (r.1.Value.Ints.map Xc)) (J1 (Qa 74 2 (.slice x.2.1.1 r.1.Value.Ratios.length x.2.1.2) r.1.Value.Ratios.length (r.1.Value.Ratios.map Jz)) (W3 83 6 g_tag_Entry (.slice x.2.2.1.1 r.1.Value.Entries.length x.2.2.1.2) r.1.Value.Entries.length r.1.Value.Entries))))))) := by
 refine enter (n := 76) Tryz.func171 rfl rfl rfl S [J1 (Jo pb0 [Jv a0.s_, .bool a0.big_, .slice p0_2.1 n0_2 p0_2.2, .map (some m0_3), .int .i64 a0.dirs_, (Qo a0.found_), .int .i64 a0.no_] 195) (J1 (Qa 56 2 (.slice p0_2.1 n0_2 p0_2.2) n0_2 (a0.parts_.map Jj)) (Q1 (fun x_ : Int => .int .i64 x_) (fun x_ : Bool => .bool x_) m0_3 a0.seen_))] (Sat.one hcs hlt) ?_
 refine Q2 0 rfl ?_
 refine Q2 1 rfl ?_
 refine Zs X6 ?_
 refine Jf ?_
 refine Jb ?_
 refine Yo (cs := [.int .i64 0, .int .i64 0, Jv [], .slice none 0 0, .slice none 0 0, .slice none 0 0]) Tryz.zeroValue83 rfl rfl rfl (fun b3 => ?_)
 refine Jg ?_
 refine Jf ?_
 refine Jb ?_
 refine Ja rfl rfl rfl (Je (v := .pointer (some ⟨pb0, 0, none⟩)) rfl) ?_
 refine Ja rfl rfl rfl (Je (v := .int .i64 a1) rfl) ?_
 obtain ⟨t13, h_t13, H28⟩ := Jh H; clear H
 refine Qw (fun w hF hS => k127 (a0 := a0) (J7 w) (Yn (i := 1) hn0_2 hS rfl) (Xz (fk := (fun x_ : Int => .int .i64 x_)) (fv := (fun x_ : Bool => .bool x_)) (i := 2) hS rfl) (Xb (i := 0) hS rfl) h_t13) Tryz.call127 rfl rfl rfl ?_
 refine Ja rfl rfl rfl (Je (v := .pointer (some ⟨pb0, 0, none⟩)) rfl) ?_
 refine Ja rfl rfl rfl (Je (v := .int .i64 a1) rfl) ?_
 obtain ⟨t16, h_t16, H29⟩ := Jh H28; clear H28
 refine Ja rfl rfl rfl (Qe rfl rfl h_t16) ?_
 obtain ⟨t17, h_t17, H30⟩ := Jh H29; clear H29
 refine Qw (fun w hF hS => k127 (a0 := a0) (J7 w) (Yn (i := 1) hn0_2 hS rfl) (Xz (fk := (fun x_ : Int => .int .i64 x_)) (fv := (fun x_ : Bool => .bool x_)) (i := 2) hS rfl) (Xb (i := 0) hS rfl) h_t17) Tryz.call127 rfl rfl rfl ?_
 refine Ja rfl rfl rfl (Je (v := .pointer (some ⟨pb0, 0, none⟩)) rfl) ?_
 refine Ja rfl rfl rfl (Je (v := .int .i64 a1) rfl) ?_
 obtain ⟨t20, h_t20, H31⟩ := Jh H30; clear H30
 refine Ja rfl rfl rfl (Qe rfl rfl h_t20) ?_
 obtain ⟨t21, h_t21, H32⟩ := Jh H31; clear H31
 refine Qw (fun w hF hS => k127 (a0 := a0) (J7 w) (Yn (i := 1) hn0_2 hS rfl) (Xz (fk := (fun x_ : Int => .int .i64 x_)) (fv := (fun x_ : Bool => .bool x_)) (i := 2) hS rfl) (Xb (i := 0) hS rfl) h_t21) Tryz.call127 rfl rfl rfl ?_
 refine Ja rfl rfl rfl (Jc (v := .int .i64 t13) rfl) ?_
 refine Ja rfl rfl rfl (Jc (v := .int .i64 t17) rfl) ?_
 refine Ja rfl rfl rfl (Jc (v := .int .i64 t21) rfl) ?_
 refine Jg ?_
 refine Jf ?_
 refine Jb ?_
 refine Ja rfl rfl rfl (Je (v := v2) rfl) ?_
 obtain ⟨t23, h_t23, H33⟩ := Jh H32; clear H32
 refine l_make (Ue (rds := []) (G := fun x : (Option Addr × Nat) => .slice x.1 t23.length x.2) (C := fun x : (Option Addr × Nat) => Qa 3 1 (.slice x.1 t23.length x.2) t23.length (t23.map Xc)) (fun w L' hF hS hi => k109 (J7 w) (f2.mono (hw.now hF)) h_t23) Tryz.call109 rfl) rfl rfl rfl (fun p => ?_)
 refine Ja rfl rfl rfl (Je (v := .int .i64 t13) rfl) ?_
 refine Q9 (vs := [.int .i64 t13]) (cs := [.int .i64 t13]) Tryz.underlying30 Tryz.sizeOf3 Tryz.zeroValue3 rfl rfl rfl rfl rfl rfl rfl (fun b4 => ?_)
 obtain ⟨l26, h_l26, H34⟩ := Jh H33; clear H33
 refine Xg (Y3 (i := 5) (hn := rfl) (rds := [6]) (p := p) (sz := 1) (by_ := 8) (f := Xc) (ys := t23) (ls := ([t13] : List Int)) (V := .slice (some ⟨b4, 0, none⟩) 1 1) Tryz.underlying30 (Z1 Tryz.typeInfo3) rfl rfl rfl rfl rfl rfl rfl rfl rfl rfl (fun w L' hF hS hi => Wo (i := 6) hS ((hi 6 (by simp)).trans rfl) rfl rfl) (fun _ => rfl) (fun _ => rfl) h_l26) rfl rfl rfl (fun p_2 => ?_)
 refine Ja rfl rfl rfl (Jc (v := .slice p_2.1 l26.length p_2.2) rfl) ?_
 refine Jg ?_
 refine Jf ?_
 try dsimp only [z1, z2, z5, z6, z7, z8]
 refine Jb ?_
 refine Ja rfl rfl rfl (Je (v := .pointer (some ⟨pb0, 0, none⟩)) rfl) ?_
 refine Ja rfl rfl rfl (Ju rfl) ?_
 refine Ja rfl rfl rfl (Jk Tryz.runUnderlying195 rfl Tryz.sizeOf114 rfl rfl) ?_
 refine Js (i := 0) (v := (Qo a0.found_)) Tryz.isAgg114 rfl rfl rfl rfl rfl ?_
 refine Ja rfl rfl rfl (Je (v := .slice p_2.1 l26.length p_2.2) rfl) ?_
 refine Ja rfl rfl rfl (Je (v := .int .i64 a1) rfl) ?_
 obtain ⟨g33, h_g33, H35⟩ := Jh H34; clear H34
 obtain ⟨t33, h_t33, H36⟩ := Jh H35; clear H35
 refine l_callV (R := U5 g33) (r := .tuple #[]) (v := (Qo a0.found_)) (fun w hF hS => ⟨((hft114 a0.found_).fn (gFn_some h_g33) _), ⟨l26, _, a1, _, (Yn (i := 5) rfl hS rfl), rfl, h_t33, rfl⟩⟩) rfl rfl rfl rfl ?_
 refine Jg ?_
 refine Jf ?_
 refine Jb ?_
 refine Ja rfl rfl rfl (Je (v := .int .i64 t13) rfl) ?_
 refine Ja rfl rfl rfl (Je (v := .int .i64 t17) rfl) ?_
 refine Ja rfl rfl rfl (Yi (pl := #[(0, 1), (1, 1), (2, 1), (3, 1), (4, 1)]) (ps := [(0, .int .i64 t17)]) (cells := #[.int .i64 t17, Jv [], .slice none 0 0, .slice none 0 0, .slice none 0 0]) Tryz.zeroValue38 Tryz.runUnderlying38 (fun w => by kernel_rfl) rfl rfl) ?_
 refine Ja rfl rfl rfl (Yi (pl := #[(0, 1), (1, 5)]) (ps := [(0, .int .i64 t13), (1, .agg #[.int .i64 t17, Jv [], .slice none 0 0, .slice none 0 0, .slice none 0 0])]) (cells := #[.int .i64 t13, .int .i64 t17, Jv [], .slice none 0 0, .slice none 0 0, .slice none 0 0]) Tryz.zeroValue83 Tryz.runUnderlying83 (fun w => by kernel_rfl) rfl (by kernel_rfl)) ?_
 refine Yo (cs := [.int .i64 0, .int .i64 0, Jv [], .slice none 0 0, .slice none 0 0, .slice none 0 0]) Tryz.zeroValue83 rfl rfl rfl (fun b5 => ?_)
 refine Qc (i := 7) (vs := [.int .i64 t13, .int .i64 t17, Jv [], .slice none 0 0, .slice none 0 0, .slice none 0 0]) (cs' := [.int .i64 t13, .int .i64 t17, Jv [], .slice none 0 0, .slice none 0 0, .slice none 0 0]) Tryz.sizeOf83 rfl rfl rfl rfl rfl rfl rfl rfl rfl ?_
 refine Jg ?_
 refine Qz (r := r) (σ := Int × (List UInt8) × (List Int) × (List T_tag_Ratio) × (List T_tag_Entry) × (List UInt8) × Bool × Int × Nat × Int × (List T_tag_Span) × (List (Int × Bool))) (τ := (Option Addr × Nat) × (Option Addr × Nat) × (Option Addr × Nat) × (Option Addr × Nat) × Nat) (fun s => Y1 t13 s.1 s.2.1 s.2.2.1 s.2.2.2.1 s.2.2.2.2.1 s.2.2.2.2.2.1 s.2.2.2.2.2.2.1 s.2.2.2.2.2.2.2.1 s.2.2.2.2.2.2.2.2.1 s.2.2.2.2.2.2.2.2.2.1 s.2.2.2.2.2.2.2.2.2.2.1 s.2.2.2.2.2.2.2.2.2.2.2) (fun s t => [(6, .pointer (some ⟨b3, 0, none⟩)), (10, .pointer (some ⟨b5, 0, none⟩))]) (fun s t => [Jo pb0 [Jv s.2.2.2.2.2.1, .bool s.2.2.2.2.2.2.1, .slice t.2.2.2.1.1 s.2.2.2.2.2.2.2.2.2.2.1.length t.2.2.2.1.2, .map (some t.2.2.2.2), .int .i64 s.2.2.2.2.2.2.2.1, (Qo s.2.2.2.2.2.2.2.2.1), .int .i64 s.2.2.2.2.2.2.2.2.2.1] 195, Qa 56 2 (.slice t.2.2.2.1.1 s.2.2.2.2.2.2.2.2.2.2.1.length t.2.2.2.1.2) s.2.2.2.2.2.2.2.2.2.2.1.length (s.2.2.2.2.2.2.2.2.2.2.1.map Jj), Q1 (fun x_ : Int => .int .i64 x_) (fun x_ : Bool => .bool x_) t.2.2.2.2 s.2.2.2.2.2.2.2.2.2.2.2, Yv X6 X6, Jo b3 [.int .i64 0, .int .i64 0, Jv [], .slice none 0 0, .slice none 0 0, .slice none 0 0] 83, Jo b5 [.int .i64 t13, .int .i64 s.1, Jv s.2.1, .slice t.1.1 s.2.2.1.length t.1.2, .slice t.2.1.1 s.2.2.2.1.length t.2.1.2, .slice t.2.2.1.1 s.2.2.2.2.1.length t.2.2.1.2] 83, Qa 3 1 (.slice t.1.1 s.2.2.1.length t.1.2) s.2.2.1.length (s.2.2.1.map Xc), Qa 74 2 (.slice t.2.1.1 s.2.2.2.1.length t.2.1.2) s.2.2.2.1.length (s.2.2.2.1.map Jz), W3 83 6 g_tag_Entry (.slice t.2.2.1.1 s.2.2.2.2.1.length t.2.2.1.2) s.2.2.2.2.1.length s.2.2.2.2.1]) (fun s t => True) ?_ ?_
 ·refine J8 ?_
  refine Jf ?_
  refine Jb ?_
  refine Ja rfl rfl rfl (Je (v := .int .i64 t17) rfl) ?_
  obtain ⟨t47, h_t47, H38⟩ := Jh H36; clear H36
  refine Wb (k139 h_t47) Tryz.call139 rfl rfl rfl ?_
  refine Ja rfl rfl rfl (Q0 rfl rfl) ?_
  refine Ja rfl rfl rfl (Jc (v := .bool (decide (t47 = 0))) rfl) ?_
  refine Jg ?_
  refine Qd (b := (decide (t47 = 0))) rfl (fun hb => ?_) (fun hb => ?_)
  ·have H39 := Jp hb H38; clear H38
   refine Jb ?_
   refine Ja rfl rfl rfl (Je (v := .pointer (some ⟨pb0, 0, none⟩)) rfl) ?_
   obtain ⟨t50, h_t50, H40⟩ := Jh H39; clear H39
   refine Jl 1 2 rfl rfl (by decide) ?_
   refine Jl 0 1 rfl rfl (by decide) ?_
   refine Xg (Ql (i := 0) (rds := []) (G := fun x : (Option Addr × Nat) × Nat => .tuple #[]) (C := fun x : (Option Addr × Nat) × Nat => J1 (Jo pb0 [Jv t50.s_, .bool t50.big_, .slice x.1.1 t50.parts_.length x.1.2, .map (some x.2), .int .i64 t50.dirs_, (Qo t50.found_), .int .i64 t50.no_] 195) (J1 (Qa 56 2 (.slice x.1.1 t50.parts_.length x.1.2) t50.parts_.length (t50.parts_.map Jj)) (Q1 (fun x_ : Int => .int .i64 x_) (fun x_ : Bool => .bool x_) x.2 t50.seen_))) rfl (fun w L' S hF hS hi hp hlt ho hA => k170 hp hlt (Xa w S) hn0_2 h_t50) Tryz.call170 rfl) rfl rfl rfl (fun ⟨p_7, p_8⟩ => ?_)
   refine Qk 0 1 rfl rfl (by decide) ?_
   refine Qk 1 2 rfl rfl (by decide) ?_
   refine Jg ?_
   refine J0 3 1 ?_
   refine J0 74 2 ?_
   refine J0 83 6 ?_
   refine Zs X6 ?_
   try dsimp only [z1, z2, z5, z6, z7, z8]
   refine Jl 11 10 rfl rfl (by decide) ?_
   try dsimp only [z1, z2, z5, z6, z7, z8]
   refine Y0 11 rfl (imp_rowDx (css := []) (xs := ([] : List T_tag_Entry)) (p := ((none, 0) : Option Addr × Nat)) rfl (AllC.nil (G := g_tag_Entry) (h := X6) (sz := 6))) ?_
   refine Jn (t17, [], ([] : List Int), ([] : List T_tag_Ratio), ([] : List T_tag_Entry), t50.s_, t50.big_, t50.dirs_, t50.found_, t50.no_, t50.parts_, t50.seen_) (((none, 0) : Option Addr × Nat), ((none, 0) : Option Addr × Nat), ((none, 0) : Option Addr × Nat), p_7, p_8) 0 [0, 1, 2, 3, 4, 7, 8, 9, 11] (by exact ⟨rfl, rfl, trivial⟩) (by decide) (by kernel_rfl) (by exact ⟨H40, trivial⟩) (Nat.lt_succ_self _)
  ·have H41 := Jq hb H38; clear H38
   refine Qz (r := r) (σ := Bool) (τ := Unit) (fun s => Y2 a0 a1 self t13 t17 t21 l26 s) (fun s t => [(0, .pointer (some ⟨pb0, 0, none⟩)), (1, .int .i64 a1), (2, .slice p_2.1 l26.length p_2.2), (6, .pointer (some ⟨b3, 0, none⟩)), (8, .int .i64 t17), (9, .int .i64 t21), (10, .pointer (some ⟨b5, 0, none⟩)), (51, .bool s)]) (fun s t => [Jo pb0 [Jv a0.s_, .bool a0.big_, .slice p0_2.1 n0_2 p0_2.2, .map (some m0_3), .int .i64 a0.dirs_, (Qo a0.found_), .int .i64 a0.no_] 195, Qa 56 2 (.slice p0_2.1 n0_2 p0_2.2) n0_2 (a0.parts_.map Jj), Q1 (fun x_ : Int => .int .i64 x_) (fun x_ : Bool => .bool x_) m0_3 a0.seen_, Yv X6 X6, Jo b3 [.int .i64 0, .int .i64 0, Jv [], .slice none 0 0, .slice none 0 0, .slice none 0 0] 83, Qa 3 1 (.slice p_2.1 l26.length p_2.2) l26.length (l26.map Xc), Jo b5 [.int .i64 t13, .int .i64 t17, Jv [], .slice none 0 0, .slice none 0 0, .slice none 0 0] 83]) (fun s t => True) ?_ ?_
   ·try dsimp only [z1, z2, z5, z6, z7, z8]
    refine Jb ?_
    refine Ja rfl rfl rfl (Je (v := .int .i64 t17) rfl) ?_
    refine Ja rfl rfl rfl (Q0 rfl rfl) ?_
    refine Ja rfl rfl rfl (Je (v := .bool (decide (t17 = 13))) rfl) ?_
    refine split (fun hb => ?_) (fun hb => ?_)
    ·have H53 := Jp hb H41; clear H41
     refine Ja rfl rfl rfl (Je (v := .int .i64 t21) rfl) ?_
     refine Ja rfl rfl rfl (Va rfl rfl) ?_
     refine Ja rfl rfl rfl (J9 (v := .bool (decide (t21 ≠ 1))) rfl rfl) ?_
     refine Ja rfl rfl rfl (Jc (v := .bool (decide (t21 ≠ 1))) rfl) ?_
     refine Jg ?_
     refine Jn (decide (t21 ≠ 1)) () 0 [0, 1, 2, 3, 4, 5, 7] (by exact ⟨rfl, rfl, rfl, rfl, rfl, rfl, rfl, rfl, trivial⟩) (by decide) (by kernel_rfl) (by exact ⟨H53, trivial⟩) (Nat.lt_succ_self _)
    ·have H54 := Jq hb H41; clear H41
     refine Ji rfl rfl rfl ?_
     refine Ji rfl rfl rfl ?_
     refine Ja rfl rfl rfl (Qf (v := .bool false) rfl rfl) ?_
     refine Ja rfl rfl rfl (Jc (v := .bool false) rfl) ?_
     refine Jg ?_
     refine Jn false () 0 [0, 1, 2, 3, 4, 5, 7] (by exact ⟨rfl, rfl, rfl, rfl, rfl, rfl, rfl, rfl, trivial⟩) (by decide) (by kernel_rfl) (by exact ⟨H54, trivial⟩) (Nat.lt_succ_self _)
   ·rintro x51 _ gg H42 _
    replace H42 : Y2 a0 a1 self t13 t17 t21 l26 x51 = some r := H42
    try dsimp only
    refine Qd (b := x51) rfl (fun hb => ?_) (fun hb => ?_)
    ·have H43 := Jp hb H42; clear H42
     try dsimp only [z1, z2, z5, z6, z7, z8]
     refine Jb ?_
     refine Ja rfl rfl rfl (Je (v := .pointer (some ⟨pb0, 0, none⟩)) rfl) ?_
     obtain ⟨t59, h_t59, H44⟩ := Jh H43; clear H43
     refine Jl 1 2 rfl rfl (by decide) ?_
     refine Jl 0 1 rfl rfl (by decide) ?_
     refine Xg (Ql (i := 0) (rds := []) (G := fun x : (Option Addr × Nat) × Nat => .tuple #[]) (C := fun x : (Option Addr × Nat) × Nat => J1 (Jo pb0 [Jv t59.s_, .bool t59.big_, .slice x.1.1 t59.parts_.length x.1.2, .map (some x.2), .int .i64 t59.dirs_, (Qo t59.found_), .int .i64 t59.no_] 195) (J1 (Qa 56 2 (.slice x.1.1 t59.parts_.length x.1.2) t59.parts_.length (t59.parts_.map Jj)) (Q1 (fun x_ : Int => .int .i64 x_) (fun x_ : Bool => .bool x_) x.2 t59.seen_))) rfl (fun w L' S hF hS hi hp hlt ho hA => k170 hp hlt (Xa w S) hn0_2 h_t59) Tryz.call170 rfl) rfl rfl rfl (fun ⟨p_9, p_10⟩ => ?_)
     refine Qk 0 1 rfl rfl (by decide) ?_
     refine Qk 1 2 rfl rfl (by decide) ?_
     refine Jg ?_
     refine J0 3 1 ?_
     refine J0 74 2 ?_
     refine J0 83 6 ?_
     refine Zs X6 ?_
     try dsimp only [z1, z2, z5, z6, z7, z8]
     refine Jl 10 9 rfl rfl (by decide) ?_
     try dsimp only [z1, z2, z5, z6, z7, z8]
     refine Y0 10 rfl (imp_rowDx (css := []) (xs := ([] : List T_tag_Entry)) (p := ((none, 0) : Option Addr × Nat)) rfl (AllC.nil (G := g_tag_Entry) (h := X6) (sz := 6))) ?_
     refine Jn (t17, [], ([] : List Int), ([] : List T_tag_Ratio), ([] : List T_tag_Entry), t59.s_, t59.big_, t59.dirs_, t59.found_, t59.no_, t59.parts_, t59.seen_) (((none, 0) : Option Addr × Nat), ((none, 0) : Option Addr × Nat), ((none, 0) : Option Addr × Nat), p_9, p_10) 0 [0, 1, 2, 3, 4, 6, 7, 8, 10] (by exact ⟨rfl, rfl, trivial⟩) (by decide) (by kernel_rfl) (by exact ⟨H44, trivial⟩) (Nat.lt_succ_self _)
    ·have H45 := Jq hb H42; clear H42
     refine Jf ?_
     try dsimp only [z1, z2, z5, z6, z7, z8]
     refine Jb ?_
     refine Ja rfl rfl rfl (Je (v := .int .i64 t17) rfl) ?_
     refine Ja rfl rfl rfl (Q0 rfl rfl) ?_
     refine Ja rfl rfl rfl (Jc (v := .bool (decide (t17 = 13))) rfl) ?_
     refine Jg ?_
     refine Qd (b := (decide (t17 = 13))) rfl (fun hb => ?_) (fun hb => ?_)
     ·have H46 := Jp hb H45; clear H45
      refine Jb ?_
      refine Ja rfl rfl rfl (Je (v := .pointer (some ⟨pb0, 0, none⟩)) rfl) ?_
      refine Ja rfl rfl rfl (Je (v := .pointer (some ⟨pb0, 0, none⟩)) rfl) ?_
      refine Ja rfl rfl rfl (Je (v := .int .i64 a1) rfl) ?_
      obtain ⟨t67, h_t67, H47⟩ := Jh H46; clear H46
      refine Ja rfl rfl rfl (Qe rfl rfl h_t67) ?_
      obtain ⟨t68, h_t68, H48⟩ := Jh H47; clear H47
      refine Qw (fun w hF hS => k127 (a0 := a0) (J7 w) (Yn (i := 1) hn0_2 hS rfl) (Xz (fk := (fun x_ : Int => .int .i64 x_)) (fv := (fun x_ : Bool => .bool x_)) (i := 2) hS rfl) (Xb (i := 0) hS rfl) h_t68) Tryz.call127 rfl rfl rfl ?_
      refine Ja rfl rfl rfl (Je (v := .slice p_2.1 l26.length p_2.2) rfl) ?_
      obtain ⟨t70, h_t70, H49⟩ := Jh H48; clear H48
      refine Jl 1 2 rfl rfl (by decide) ?_
      refine Jl 0 1 rfl rfl (by decide) ?_
      refine Xg (Ql (i := 0) (rds := [5]) (G := fun x : (Option Addr × Nat) × (Option Addr × Nat) × Nat => .tuple #[.slice x.1.1 t70.1.length x.1.2, .int .i64 t70.2.1]) (C := fun x : (Option Addr × Nat) × (Option Addr × Nat) × Nat => J1 (Jo pb0 [Jv t70.2.2.s_, .bool t70.2.2.big_, .slice x.2.1.1 t70.2.2.parts_.length x.2.1.2, .map (some x.2.2), .int .i64 t70.2.2.dirs_, (Qo t70.2.2.found_), .int .i64 t70.2.2.no_] 195) (J1 (Qa 56 2 (.slice x.2.1.1 t70.2.2.parts_.length x.2.1.2) t70.2.2.parts_.length (t70.2.2.parts_.map Jj)) (J1 (Q1 (fun x_ : Int => .int .i64 x_) (fun x_ : Bool => .bool x_) x.2.2 t70.2.2.seen_) (W3 83 6 g_tag_Entry (.slice x.1.1 t70.1.length x.1.2) t70.1.length t70.1)))) rfl (fun w L' S hF hS hi hp hlt ho hA => ih hp hlt (Xa w S) hn0_2 (frb_own (j := 5) rfl hA hS (by decide) ((hi 5 (by simp)).trans rfl)) h_t70) Tryz.call128 rfl) rfl rfl rfl (fun ⟨p_11, p_12, p_13⟩ => ?_)
      refine Qk 0 1 rfl rfl (by decide) ?_
      refine Qk 1 2 rfl rfl (by decide) ?_
      refine Q2 2 rfl ?_
      refine Ja rfl rfl rfl (Je (v := .tuple #[.slice p_11.1 t70.1.length p_11.2, .int .i64 t70.2.1]) rfl) ?_
      refine Ja rfl rfl rfl (Qs (v := .slice p_11.1 t70.1.length p_11.2) rfl rfl) ?_
      refine Ja rfl rfl rfl (Qs (v := .int .i64 t70.2.1) rfl rfl) ?_
      refine Ja rfl rfl rfl (Jk Tryz.runUnderlying83 rfl Tryz.sizeOf38 rfl rfl) ?_
      refine Ja rfl rfl rfl (Jk Tryz.runUnderlying38 rfl Tryz.sizeOf36 rfl rfl) ?_
      refine Qc (i := 6) (vs := [.slice p_11.1 t70.1.length p_11.2]) (cs' := [.int .i64 t13, .int .i64 t17, Jv [], .slice none 0 0, .slice none 0 0, .slice p_11.1 t70.1.length p_11.2]) Tryz.sizeOf36 rfl rfl rfl rfl rfl rfl rfl rfl rfl ?_
      refine Jg ?_
      refine J0 3 1 ?_
      refine J0 74 2 ?_
      refine Jn (t17, [], ([] : List Int), ([] : List T_tag_Ratio), t70.1, t70.2.2.s_, t70.2.2.big_, t70.2.2.dirs_, t70.2.2.found_, t70.2.2.no_, t70.2.2.parts_, t70.2.2.seen_) (((none, 0) : Option Addr × Nat), ((none, 0) : Option Addr × Nat), p_11, p_12, p_13) 0 [0, 1, 2, 3, 4, 6, 8, 9, 7] (by exact ⟨rfl, rfl, trivial⟩) (by decide) (by kernel_rfl) (by exact ⟨H49, trivial⟩) (Nat.lt_succ_self _)
     ·have H50 := Jq hb H45; clear H45
      try dsimp only [z1, z2, z5, z6, z7, z8]
      refine Jb ?_
      refine Ja rfl rfl rfl (Je (v := .pointer (some ⟨pb0, 0, none⟩)) rfl) ?_
      refine Ja rfl rfl rfl (Je (v := .int .i64 t17) rfl) ?_
      refine Ja rfl rfl rfl (Je (v := .int .i64 t21) rfl) ?_
      refine Ja rfl rfl rfl (Je (v := .int .i64 a1) rfl) ?_
      obtain ⟨t42, h_t42, H51⟩ := Jh H50; clear H50
      refine Ja rfl rfl rfl (Qe rfl rfl h_t42) ?_
      obtain ⟨t43, h_t43, H52⟩ := Jh H51; clear H51
      refine Jl 1 2 rfl rfl (by decide) ?_
      refine Jl 0 1 rfl rfl (by decide) ?_
      refine Xg (Ql (i := 0) (rds := []) (G := fun x : (Option Addr × Nat) × (Option Addr × Nat) × (Option Addr × Nat) × (Option Addr × Nat) × Nat => .agg #[.int .i64 t43.1.Kind, Jv t43.1.Text, .slice x.1.1 t43.1.Ints.length x.1.2, .slice x.2.1.1 t43.1.Ratios.length x.2.1.2, .slice x.2.2.1.1 t43.1.Entries.length x.2.2.1.2]) (C := fun x : (Option Addr × Nat) × (Option Addr × Nat) × (Option Addr × Nat) × (Option Addr × Nat) × Nat => J1 (Jo pb0 [Jv t43.2.s_, .bool t43.2.big_, .slice x.2.2.2.1.1 t43.2.parts_.length x.2.2.2.1.2, .map (some x.2.2.2.2), .int .i64 t43.2.dirs_, (Qo t43.2.found_), .int .i64 t43.2.no_] 195) (J1 (Qa 56 2 (.slice x.2.2.2.1.1 t43.2.parts_.length x.2.2.2.1.2) t43.2.parts_.length (t43.2.parts_.map Jj)) (J1 (Q1 (fun x_ : Int => .int .i64 x_) (fun x_ : Bool => .bool x_) x.2.2.2.2 t43.2.seen_) (J1 (Qa 3 1 (.slice x.1.1 t43.1.Ints.length x.1.2) t43.1.Ints.length (t43.1.Ints.map Xc)) (J1 (Qa 74 2 (.slice x.2.1.1 t43.1.Ratios.length x.2.1.2) t43.1.Ratios.length (t43.1.Ratios.map Jz)) (W3 83 6 g_tag_Entry (.slice x.2.2.1.1 t43.1.Entries.length x.2.2.1.2) t43.1.Entries.length t43.1.Entries)))))) rfl (fun w L' S hF hS hi hp hlt ho hA => k207 hp hlt (Xa w S) hn0_2 h_t43) Tryz.call207 rfl) rfl rfl rfl (fun ⟨p_14, p_15, p_16, p_17, p_18⟩ => ?_)
      refine Qk 0 1 rfl rfl (by decide) ?_
      refine Qk 1 2 rfl rfl (by decide) ?_
      refine Q2 2 rfl ?_
      refine Q2 7 rfl ?_
      refine Q2 8 rfl ?_
      refine Ja rfl rfl rfl (Jk Tryz.runUnderlying83 rfl Tryz.sizeOf38 rfl rfl) ?_
      refine Qc (i := 6) (vs := [.int .i64 t43.1.Kind, Jv t43.1.Text, .slice p_14.1 t43.1.Ints.length p_14.2, .slice p_15.1 t43.1.Ratios.length p_15.2, .slice p_16.1 t43.1.Entries.length p_16.2]) (cs' := [.int .i64 t13, .int .i64 t43.1.Kind, Jv t43.1.Text, .slice p_14.1 t43.1.Ints.length p_14.2, .slice p_15.1 t43.1.Ratios.length p_15.2, .slice p_16.1 t43.1.Entries.length p_16.2]) Tryz.sizeOf38 rfl rfl rfl rfl rfl rfl rfl rfl rfl ?_
      refine Jg ?_
      refine Jn (t43.1.Kind, t43.1.Text, t43.1.Ints, t43.1.Ratios, t43.1.Entries, t43.2.s_, t43.2.big_, t43.2.dirs_, t43.2.found_, t43.2.no_, t43.2.parts_, t43.2.seen_) (p_14, p_15, p_16, p_17, p_18) 0 [0, 1, 2, 3, 4, 6, 7, 8, 9] (by exact ⟨rfl, rfl, trivial⟩) (by decide) (by kernel_rfl) (by exact ⟨H52, trivial⟩) (Nat.lt_succ_self _)
 ·rintro ⟨m, m_2, l, l_2, l_3, m_3, m_4, m_5, m_6, m_7, l_4, mp⟩ ⟨p_3, p_4, p_5, p_6, b⟩ gg H37 _
  replace H37 : Y1 t13 m m_2 l l_2 l_3 m_3 m_4 m_5 m_6 m_7 l_4 mp = some r := H37
  try dsimp only
  refine Jf ?_
  refine Jb ?_
  refine Xr (i := 5) (vs := [.int .i64 t13, .int .i64 m, Jv m_2, .slice p_3.1 l.length p_3.2, .slice p_4.1 l_2.length p_4.2, .slice p_5.1 l_3.length p_5.2]) Tryz.isAgg83 Tryz.sizeOf83 rfl rfl rfl rfl rfl ?_
  refine Qc (i := 4) (vs := [.int .i64 t13, .int .i64 m, Jv m_2, .slice p_3.1 l.length p_3.2, .slice p_4.1 l_2.length p_4.2, .slice p_5.1 l_3.length p_5.2]) (cs' := [.int .i64 t13, .int .i64 m, Jv m_2, .slice p_3.1 l.length p_3.2, .slice p_4.1 l_2.length p_4.2, .slice p_5.1 l_3.length p_5.2]) Tryz.sizeOf83 rfl rfl rfl rfl rfl rfl rfl rfl rfl ?_
  refine Jg ?_
  refine Jx ?_
  refine c_dr 5 ?_
  try dsimp only [z1, z2, z3, z4, z5, z6, z7, z8]
  obtain rfl := Option.some.inj H37
  refine Jl 6 7 rfl rfl (by decide) ?_
  refine Jl 5 6 rfl rfl (by decide) ?_
  refine Jl 2 5 rfl rfl (by decide) ?_
  refine Jl 1 2 rfl rfl (by decide) ?_
  refine Jl 0 1 rfl rfl (by decide) ?_
  refine retC (i := 4) (vs := [.int .i64 t13, .int .i64 m, Jv m_2, .slice p_3.1 l.length p_3.2, .slice p_4.1 l_2.length p_4.2, .slice p_5.1 l_3.length p_5.2]) Tryz.isAgg83 Tryz.sizeOf83 rfl rfl rfl rfl (V6 (p_3, p_4, p_5, p_6, b) (i := 0) rfl rfl (Imp.refl _))
theorem k128_it (mm : Nat) : ∀ {a0 : T_tag_reader} {pb0 : Nat} {p0_2 : Option Addr × Nat} {n0_2 : Nat} {m0_3 : Nat} {a1 : Int} {a2 : (List Int)} {v2 : Value} {r : (List T_tag_Entry) × Int × T_tag_reader} {w : World} {h : Qj} {S : Nat → Prop} (hcs : (J1 (Jo pb0 [Jv a0.s_, .bool a0.big_, .slice p0_2.1 n0_2 p0_2.2, .map (some m0_3), .int .i64 a0.dirs_, (Qo a0.found_), .int .i64 a0.no_] 195) (J1 (Qa 56 2 (.slice p0_2.1 n0_2 p0_2.2) n0_2 (a0.parts_.map Jj)) (Q1 (fun x_ : Int => .int .i64 x_) (fun x_ : Bool => .bool x_) m0_3 a0.seen_))).P S w) (hlt : ∀ b, S b → b < w.heap.size) (hw : Know h w S) (hn0_2 : n0_2 = a0.parts_.length) (f2 : FrS h 1 v2 (a2.map Xc)) (H : it (fun (self : (T_tag_reader × Int × (List Int)) → Option ((List T_tag_Entry) × Int × T_tag_reader)) (s : T_tag_reader × Int × (List Int)) => Qh self s.1 s.2.1 s.2.2) mm (a0, a1, a2) = some r), Does Tryz.prog 128 (List.toArray [.pointer (some ⟨pb0, 0, none⟩), .int .i64 a1, v2]) w (fun v w' => ∃ x : (Option Addr × Nat) × (Option Addr × Nat) × Nat, v = (.tuple #[.slice x.1.1 r.1.length x.1.2, .int .i64 r.2.1]) ∧ Turn w w' S (J1 (Jo pb0 [Jv r.2.2.s_, .bool r.2.2.big_, .slice x.2.1.1 r.2.2.parts_.length x.2.1.2, .map (some x.2.2), .int .i64 r.2.2.dirs_, (Qo r.2.2.found_), .int .i64 r.2.2.no_] 195) (J1 (Qa 56 2 (.slice x.2.1.1 r.2.2.parts_.length x.2.1.2) r.2.2.parts_.length (r.2.2.parts_.map Jj)) (J1 (Q1 (fun x_ : Int => .int .i64 x_) (fun x_ : Bool => .bool x_) x.2.2 r.2.2.seen_) (W3 83 6 g_tag_Entry (.slice x.1.1 r.1.length x.1.2) r.1.length r.1))))) := by
 induction mm with
 | zero => intros; rename_i H; exact absurd H (by simp [it])
 | succ mm ih =>
  intro a0 pb0 p0_2 n0_2 m0_3 a1 a2 v2 r w h S hcs hlt hw hn0_2 f2 H
  replace H : Qh (it (fun (self : (T_tag_reader × Int × (List Int)) → Option ((List T_tag_Entry) × Int × T_tag_reader)) (s : T_tag_reader × Int × (List Int)) => Qh self s.1 s.2.1 s.2.2) mm) a0 a1 a2 = some r := H
  generalize it (fun (self : (T_tag_reader × Int × (List Int)) → Option ((List T_tag_Entry) × Int × T_tag_reader)) (s : T_tag_reader × Int × (List Int)) => Qh self s.1 s.2.1 s.2.2) mm = self at H ih
  refine enter (n := 145) Tryz.func128 rfl rfl rfl S [J1 (Jo pb0 [Jv a0.s_, .bool a0.big_, .slice p0_2.1 n0_2 p0_2.2, .map (some m0_3), .int .i64 a0.dirs_, (Qo a0.found_), .int .i64 a0.no_] 195) (J1 (Qa 56 2 (.slice p0_2.1 n0_2 p0_2.2) n0_2 (a0.parts_.map Jj)) (Q1 (fun x_ : Int => .int .i64 x_) (fun x_ : Bool => .bool x_) m0_3 a0.seen_))] (Sat.one hcs hlt) ?_
  refine Q2 0 rfl ?_
  refine Q2 1 rfl ?_
  refine Zs X6 ?_
  refine Jf ?_
  refine Jb ?_
  refine Ja rfl rfl rfl (Jc (v := .slice none 0 0) rfl) ?_
  refine Ja rfl rfl rfl (Jc (v := .int .i64 0) rfl) ?_
  refine Jg ?_
  refine Jf ?_
  refine Jb ?_
  refine Ja rfl rfl rfl (Je (v := v2) rfl) ?_
  refine Ja rfl rfl rfl (Vs Tryz.underlying30 rfl f2 rfl) ?_
  refine Ja rfl rfl rfl (Jc (v := .int .i64 (a2.length : Int)) rfl) ?_
  refine Jg ?_
  refine Jf ?_
  refine Jf ?_
  refine Jb ?_
  refine Ja rfl rfl rfl (Je (v := .pointer (some ⟨pb0, 0, none⟩)) rfl) ?_
  refine Ja rfl rfl rfl (Je (v := .int .i64 a1) rfl) ?_
  obtain ⟨t15, h_t15, H67⟩ := Jh H; clear H
  refine Qw (fun w hF hS => k169 (a0 := a0) (J7 w) (Yn (i := 1) hn0_2 hS rfl) (Xz (fk := (fun x_ : Int => .int .i64 x_)) (fv := (fun x_ : Bool => .bool x_)) (i := 2) hS rfl) (Xb (i := 0) hS rfl) h_t15) Tryz.call169 rfl rfl rfl ?_
  refine Ja rfl rfl rfl (r_not rfl) ?_
  refine Jg ?_
  refine Qd (b := (!t15)) rfl (fun hb => ?_) (fun hb => ?_)
  ·have H68 := Jp hb H67; clear H67
   refine Jf ?_
   refine Jb ?_
   refine Ja rfl rfl rfl (Je (v := .pointer (some ⟨pb0, 0, none⟩)) rfl) ?_
   obtain ⟨t18, h_t18, H69⟩ := Jh H68; clear H68
   refine Jl 1 2 rfl rfl (by decide) ?_
   refine Jl 0 1 rfl rfl (by decide) ?_
   refine Xg (Ql (i := 0) (rds := []) (G := fun x : (Option Addr × Nat) × Nat => .tuple #[]) (C := fun x : (Option Addr × Nat) × Nat => J1 (Jo pb0 [Jv t18.s_, .bool t18.big_, .slice x.1.1 t18.parts_.length x.1.2, .map (some x.2), .int .i64 t18.dirs_, (Qo t18.found_), .int .i64 t18.no_] 195) (J1 (Qa 56 2 (.slice x.1.1 t18.parts_.length x.1.2) t18.parts_.length (t18.parts_.map Jj)) (Q1 (fun x_ : Int => .int .i64 x_) (fun x_ : Bool => .bool x_) x.2 t18.seen_))) rfl (fun w L' S hF hS hi hp hlt ho hA => k170 hp hlt (Xa w S) hn0_2 h_t18) Tryz.call170 rfl) rfl rfl rfl (fun ⟨p, p_2⟩ => ?_)
   refine Qk 0 1 rfl rfl (by decide) ?_
   refine Qk 1 2 rfl rfl (by decide) ?_
   refine Jg ?_
   refine Jf ?_
   try dsimp only [z1, z2, z5, z6, z7, z8]
   refine Jb ?_
   refine Ja rfl rfl rfl (Jc (v := .slice none 0 0) rfl) ?_
   refine Ja rfl rfl rfl (Jc (v := .int .i64 0) rfl) ?_
   refine Jg ?_
   refine Jx ?_
   refine J0 83 6 ?_
   obtain rfl := Option.some.inj H69
   refine Jl 3 4 rfl rfl (by decide) ?_
   refine Y0 3 rfl (Xn (p := ((none, 0) : Option Addr × Nat)) rfl (AllC.nil (G := g_tag_Entry) (h := X6) (sz := 6))) ?_
   refine Jl 2 3 rfl rfl (by decide) ?_
   refine Jl 1 2 rfl rfl (by decide) ?_
   refine Jl 0 1 rfl rfl (by decide) ?_
   refine ret2 (v1 := .slice ((none, 0) : Option Addr × Nat).1 (([] : List (List Value)).length) ((none, 0) : Option Addr × Nat).2) (v2 := .int .i64 0) rfl rfl rfl (V6 (((none, 0) : Option Addr × Nat), p, p_2) (i := 0) rfl (by first | rfl | rw [(show (([] : List (List Value)).length) = ([] : List T_tag_Entry).length from (AllC.nil (G := g_tag_Entry) (h := X6) (sz := 6)).len)]) (by first | exact Imp.refl _ | exact Imp.of (by rw [(show (([] : List (List Value)).length) = ([] : List T_tag_Entry).length from (AllC.nil (G := g_tag_Entry) (h := X6) (sz := 6)).len)] <;> rfl)))
  ·have H70 := Jq hb H67; clear H67
   refine Jt ?_
   refine Jf ?_
   try dsimp only [z1, z2, z5, z6, z7, z8]
   refine Jb ?_
   refine Ja rfl rfl rfl (Je (v := .pointer (some ⟨pb0, 0, none⟩)) rfl) ?_
   refine Ja rfl rfl rfl (Je (v := .int .i64 a1) rfl) ?_
   obtain ⟨t21, h_t21, H71⟩ := Jh H70; clear H70
   refine Qw (fun w hF hS => k127 (a0 := a0) (J7 w) (Yn (i := 1) hn0_2 hS rfl) (Xz (fk := (fun x_ : Int => .int .i64 x_)) (fv := (fun x_ : Bool => .bool x_)) (i := 2) hS rfl) (Xb (i := 0) hS rfl) h_t21) Tryz.call127 rfl rfl rfl ?_
   refine Ja rfl rfl rfl (Jc (v := .int .i64 t21) rfl) ?_
   refine Jg ?_
   refine Qz (r := r) (σ := (List UInt8) × Bool × Int × Nat × Int × (List T_tag_Span) × (List (Int × Bool))) (τ := (Option Addr × Nat) × Nat × Nat) (fun s => Xd a1 a2 self t21 s.1 s.2.1 s.2.2.1 s.2.2.2.1 s.2.2.2.2.1 s.2.2.2.2.2.1 s.2.2.2.2.2.2) (fun s t => [(0, .pointer (some ⟨pb0, 0, none⟩)), (1, .int .i64 a1), (2, v2), (6, .slice none 0 0), (8, .int .i64 (a2.length : Int)), (9, .int .i64 t21)]) (fun s t => [Jo pb0 [Jv s.1, .bool s.2.1, .slice t.1.1 t.2.1 t.1.2, .map (some t.2.2), .int .i64 s.2.2.1, (Qo s.2.2.2.1), .int .i64 s.2.2.2.2.1] 195, Qa 56 2 (.slice t.1.1 t.2.1 t.1.2) t.2.1 (s.2.2.2.2.2.1.map Jj), Q1 (fun x_ : Int => .int .i64 x_) (fun x_ : Bool => .bool x_) t.2.2 s.2.2.2.2.2.2, Yv X6 X6]) (fun s t => t.2.1 = s.2.2.2.2.2.1.length) ?_ ?_
   ·refine J8 ?_
    refine Jf ?_
    refine Jb ?_
    refine Ja rfl rfl rfl (Je (v := .pointer (some ⟨pb0, 0, none⟩)) rfl) ?_
    refine Ja rfl rfl rfl (Ju rfl) ?_
    refine Ja rfl rfl rfl (Jk Tryz.runUnderlying195 rfl Tryz.sizeOf116 rfl rfl) ?_
    refine Js (i := 0) (v := .map (some m0_3)) Tryz.isAgg116 rfl rfl rfl rfl rfl ?_
    refine Ja rfl rfl rfl (Je (v := .int .i64 a1) rfl) ?_
    refine Yu (fun w hF hS => run_lookup (i := 2) (fk := (fun x_ : Int => .int .i64 x_)) (fv := (fun x_ : Bool => .bool x_)) (k := a1) (z := false) keyF_int Tryz.underlying116 Tryz.underlying3 Tryz.zeroValue4 rfl rfl hS rfl) rfl rfl rfl ?_
    refine Ja rfl rfl rfl (Jc (v := .bool ((mGet a0.seen_ a1).getD false)) rfl) ?_
    refine Jg ?_
    refine Qd (b := ((mGet a0.seen_ a1).getD false)) rfl (fun hb => ?_) (fun hb => ?_)
    ·have H114 := Jp hb H71; clear H71
     refine Jb ?_
     refine Ja rfl rfl rfl (Je (v := .pointer (some ⟨pb0, 0, none⟩)) rfl) ?_
     obtain ⟨t30, h_t30, H115⟩ := Jh H114; clear H114
     refine Jl 1 2 rfl rfl (by decide) ?_
     refine Jl 0 1 rfl rfl (by decide) ?_
     refine Xg (Ql (i := 0) (rds := []) (G := fun x : (Option Addr × Nat) × Nat => .tuple #[]) (C := fun x : (Option Addr × Nat) × Nat => J1 (Jo pb0 [Jv t30.s_, .bool t30.big_, .slice x.1.1 t30.parts_.length x.1.2, .map (some x.2), .int .i64 t30.dirs_, (Qo t30.found_), .int .i64 t30.no_] 195) (J1 (Qa 56 2 (.slice x.1.1 t30.parts_.length x.1.2) t30.parts_.length (t30.parts_.map Jj)) (Q1 (fun x_ : Int => .int .i64 x_) (fun x_ : Bool => .bool x_) x.2 t30.seen_))) rfl (fun w L' S hF hS hi hp hlt ho hA => k170 hp hlt (Xa w S) hn0_2 h_t30) Tryz.call170 rfl) rfl rfl rfl (fun ⟨p_20, p_21⟩ => ?_)
     refine Qk 0 1 rfl rfl (by decide) ?_
     refine Qk 1 2 rfl rfl (by decide) ?_
     refine Jg ?_
     refine Jn (t30.s_, t30.big_, t30.dirs_, t30.found_, t30.no_, t30.parts_, t30.seen_) (p_20, t30.parts_.length, p_21) 0 [0, 1, 2, 3] (by exact ⟨rfl, rfl, rfl, rfl, rfl, rfl, trivial⟩) (by decide) (by kernel_rfl) (by exact ⟨H115, rfl⟩) (Nat.lt_succ_self _)
    ·have H116 := Jq hb H71; clear H71
     refine Jf ?_
     try dsimp only [z1, z2, z5, z6, z7, z8]
     refine Jb ?_
     refine Ja rfl rfl rfl (Je (v := .pointer (some ⟨pb0, 0, none⟩)) rfl) ?_
     refine Ja rfl rfl rfl (Ju rfl) ?_
     refine Ja rfl rfl rfl (Jk Tryz.runUnderlying195 rfl Tryz.sizeOf3 rfl rfl) ?_
     refine Js (i := 0) (v := .int .i64 a0.dirs_) Tryz.isAgg3 rfl rfl rfl rfl rfl ?_
     refine Ja rfl rfl rfl (Zm rfl rfl) ?_
     refine Ja rfl rfl rfl (Je (v := .bool (decide (20 < a0.dirs_))) rfl) ?_
     refine split (fun hb => ?_) (fun hb => ?_)
     ·have H117 := Jp hb H116; clear H116
      refine Ji rfl rfl rfl ?_
      refine Ji rfl rfl rfl ?_
      refine Ja rfl rfl rfl (J9 (v := .bool true) rfl rfl) ?_
      refine Ja rfl rfl rfl (Je (v := .bool true) rfl) ?_
      refine Ji rfl rfl rfl ?_
      refine Ji rfl rfl rfl ?_
      refine Ja rfl rfl rfl (J9 (v := .bool true) rfl rfl) ?_
      refine Ja rfl rfl rfl (Jc (v := .bool true) rfl) ?_
      refine Jg ?_
      refine Uw rfl ?_
      refine Jb ?_
      refine Ja rfl rfl rfl (Je (v := .pointer (some ⟨pb0, 0, none⟩)) rfl) ?_
      obtain ⟨t46, h_t46, H118⟩ := Jh H117; clear H117
      refine Jl 1 2 rfl rfl (by decide) ?_
      refine Jl 0 1 rfl rfl (by decide) ?_
      refine Xg (Ql (i := 0) (rds := []) (G := fun x : (Option Addr × Nat) × Nat => .tuple #[]) (C := fun x : (Option Addr × Nat) × Nat => J1 (Jo pb0 [Jv t46.s_, .bool t46.big_, .slice x.1.1 t46.parts_.length x.1.2, .map (some x.2), .int .i64 t46.dirs_, (Qo t46.found_), .int .i64 t46.no_] 195) (J1 (Qa 56 2 (.slice x.1.1 t46.parts_.length x.1.2) t46.parts_.length (t46.parts_.map Jj)) (Q1 (fun x_ : Int => .int .i64 x_) (fun x_ : Bool => .bool x_) x.2 t46.seen_))) rfl (fun w L' S hF hS hi hp hlt ho hA => k170 hp hlt (Xa w S) hn0_2 h_t46) Tryz.call170 rfl) rfl rfl rfl (fun ⟨p_22, p_23⟩ => ?_)
      refine Qk 0 1 rfl rfl (by decide) ?_
      refine Qk 1 2 rfl rfl (by decide) ?_
      refine Jg ?_
      refine Jn (t46.s_, t46.big_, t46.dirs_, t46.found_, t46.no_, t46.parts_, t46.seen_) (p_22, t46.parts_.length, p_23) 0 [0, 1, 2, 3] (by exact ⟨rfl, rfl, rfl, rfl, rfl, rfl, trivial⟩) (by decide) (by kernel_rfl) (by exact ⟨H118, rfl⟩) (Nat.lt_succ_self _)
     ·have H119 := Jq hb H116; clear H116
      refine Ja rfl rfl rfl (Je (v := .int .i64 (a2.length : Int)) rfl) ?_
      refine Ja rfl rfl rfl (Zm rfl rfl) ?_
      refine Ja rfl rfl rfl (Qf (v := .bool (decide (5 < (a2.length : Int)))) rfl rfl) ?_
      refine Ja rfl rfl rfl (Je (v := .bool (decide (5 < (a2.length : Int)))) rfl) ?_
      refine split (fun hb => ?_) (fun hb => ?_)
      ·have H120 := Jp hb H119; clear H119
       refine Ji rfl rfl rfl ?_
       refine Ji rfl rfl rfl ?_
       refine Ja rfl rfl rfl (J9 (v := .bool true) rfl rfl) ?_
       refine Ja rfl rfl rfl (Jc (v := .bool true) rfl) ?_
       refine Jg ?_
       refine Uw rfl ?_
       refine Jb ?_
       refine Ja rfl rfl rfl (Je (v := .pointer (some ⟨pb0, 0, none⟩)) rfl) ?_
       obtain ⟨t46_2, h_t46_2, H121⟩ := Jh H120; clear H120
       refine Jl 1 2 rfl rfl (by decide) ?_
       refine Jl 0 1 rfl rfl (by decide) ?_
       refine Xg (Ql (i := 0) (rds := []) (G := fun x : (Option Addr × Nat) × Nat => .tuple #[]) (C := fun x : (Option Addr × Nat) × Nat => J1 (Jo pb0 [Jv t46_2.s_, .bool t46_2.big_, .slice x.1.1 t46_2.parts_.length x.1.2, .map (some x.2), .int .i64 t46_2.dirs_, (Qo t46_2.found_), .int .i64 t46_2.no_] 195) (J1 (Qa 56 2 (.slice x.1.1 t46_2.parts_.length x.1.2) t46_2.parts_.length (t46_2.parts_.map Jj)) (Q1 (fun x_ : Int => .int .i64 x_) (fun x_ : Bool => .bool x_) x.2 t46_2.seen_))) rfl (fun w L' S hF hS hi hp hlt ho hA => k170 hp hlt (Xa w S) hn0_2 h_t46_2) Tryz.call170 rfl) rfl rfl rfl (fun ⟨p_24, p_25⟩ => ?_)
       refine Qk 0 1 rfl rfl (by decide) ?_
       refine Qk 1 2 rfl rfl (by decide) ?_
       refine Jg ?_
       refine Jn (t46_2.s_, t46_2.big_, t46_2.dirs_, t46_2.found_, t46_2.no_, t46_2.parts_, t46_2.seen_) (p_24, t46_2.parts_.length, p_25) 0 [0, 1, 2, 3] (by exact ⟨rfl, rfl, rfl, rfl, rfl, rfl, trivial⟩) (by decide) (by kernel_rfl) (by exact ⟨H121, rfl⟩) (Nat.lt_succ_self _)
      ·have H122 := Jq hb H119; clear H119
       refine Ja rfl rfl rfl (Je (v := .int .i64 t21) rfl) ?_
       refine Ja rfl rfl rfl (Zm rfl rfl) ?_
       refine Ja rfl rfl rfl (Qf (v := .bool (decide (200 < t21))) rfl rfl) ?_
       refine Ja rfl rfl rfl (Jc (v := .bool (decide (200 < t21))) rfl) ?_
       refine Jg ?_
       refine Qd (b := (decide (200 < t21))) rfl (fun hb => ?_) (fun hb => ?_)
       ·have H123 := Jp hb H122; clear H122
        try dsimp only [z1, z2, z5, z6, z7, z8]
        refine Jb ?_
        refine Ja rfl rfl rfl (Je (v := .pointer (some ⟨pb0, 0, none⟩)) rfl) ?_
        obtain ⟨t46_3, h_t46_3, H124⟩ := Jh H123; clear H123
        refine Jl 1 2 rfl rfl (by decide) ?_
        refine Jl 0 1 rfl rfl (by decide) ?_
        refine Xg (Ql (i := 0) (rds := []) (G := fun x : (Option Addr × Nat) × Nat => .tuple #[]) (C := fun x : (Option Addr × Nat) × Nat => J1 (Jo pb0 [Jv t46_3.s_, .bool t46_3.big_, .slice x.1.1 t46_3.parts_.length x.1.2, .map (some x.2), .int .i64 t46_3.dirs_, (Qo t46_3.found_), .int .i64 t46_3.no_] 195) (J1 (Qa 56 2 (.slice x.1.1 t46_3.parts_.length x.1.2) t46_3.parts_.length (t46_3.parts_.map Jj)) (Q1 (fun x_ : Int => .int .i64 x_) (fun x_ : Bool => .bool x_) x.2 t46_3.seen_))) rfl (fun w L' S hF hS hi hp hlt ho hA => k170 hp hlt (Xa w S) hn0_2 h_t46_3) Tryz.call170 rfl) rfl rfl rfl (fun ⟨p_26, p_27⟩ => ?_)
        refine Qk 0 1 rfl rfl (by decide) ?_
        refine Qk 1 2 rfl rfl (by decide) ?_
        refine Jg ?_
        refine Jn (t46_3.s_, t46_3.big_, t46_3.dirs_, t46_3.found_, t46_3.no_, t46_3.parts_, t46_3.seen_) (p_26, t46_3.parts_.length, p_27) 0 [0, 1, 2, 3] (by exact ⟨rfl, rfl, rfl, rfl, rfl, rfl, trivial⟩) (by decide) (by kernel_rfl) (by exact ⟨H124, rfl⟩) (Nat.lt_succ_self _)
       ·have H125 := Jq hb H122; clear H122
        refine Jf ?_
        refine Jb ?_
        refine Ja rfl rfl rfl (Je (v := .pointer (some ⟨pb0, 0, none⟩)) rfl) ?_
        refine Ja rfl rfl rfl (Je (v := .int .i64 a1) rfl) ?_
        refine Ja rfl rfl rfl (Je (v := .int .i64 t21) rfl) ?_
        obtain ⟨t51, h_t51, H126⟩ := Jh H125; clear H125
        refine Ja rfl rfl rfl (W6 rfl rfl h_t51) ?_
        obtain ⟨t52, h_t52, H127⟩ := Jh H126; clear H126
        refine Ja rfl rfl rfl (Qe rfl rfl h_t52) ?_
        obtain ⟨t53, h_t53, H128⟩ := Jh H127; clear H127
        refine Ja rfl rfl rfl (Qe rfl rfl h_t53) ?_
        obtain ⟨t54, h_t54, H129⟩ := Jh H128; clear H128
        refine Qw (fun w hF hS => k169 (a0 := a0) (J7 w) (Yn (i := 1) hn0_2 hS rfl) (Xz (fk := (fun x_ : Int => .int .i64 x_)) (fv := (fun x_ : Bool => .bool x_)) (i := 2) hS rfl) (Xb (i := 0) hS rfl) h_t54) Tryz.call169 rfl rfl rfl ?_
        refine Ja rfl rfl rfl (r_not rfl) ?_
        refine Ja rfl rfl rfl (Jc (v := .bool (!t54)) rfl) ?_
        refine Jg ?_
        refine Qd (b := (!t54)) rfl (fun hb => ?_) (fun hb => ?_)
        ·have H130 := Jp hb H129; clear H129
         refine Jb ?_
         refine Ja rfl rfl rfl (Je (v := .pointer (some ⟨pb0, 0, none⟩)) rfl) ?_
         obtain ⟨t57, h_t57, H131⟩ := Jh H130; clear H130
         refine Jl 1 2 rfl rfl (by decide) ?_
         refine Jl 0 1 rfl rfl (by decide) ?_
         refine Xg (Ql (i := 0) (rds := []) (G := fun x : (Option Addr × Nat) × Nat => .tuple #[]) (C := fun x : (Option Addr × Nat) × Nat => J1 (Jo pb0 [Jv t57.s_, .bool t57.big_, .slice x.1.1 t57.parts_.length x.1.2, .map (some x.2), .int .i64 t57.dirs_, (Qo t57.found_), .int .i64 t57.no_] 195) (J1 (Qa 56 2 (.slice x.1.1 t57.parts_.length x.1.2) t57.parts_.length (t57.parts_.map Jj)) (Q1 (fun x_ : Int => .int .i64 x_) (fun x_ : Bool => .bool x_) x.2 t57.seen_))) rfl (fun w L' S hF hS hi hp hlt ho hA => k170 hp hlt (Xa w S) hn0_2 h_t57) Tryz.call170 rfl) rfl rfl rfl (fun ⟨p_28, p_29⟩ => ?_)
         refine Qk 0 1 rfl rfl (by decide) ?_
         refine Qk 1 2 rfl rfl (by decide) ?_
         refine Jg ?_
         refine Jn (t57.s_, t57.big_, t57.dirs_, t57.found_, t57.no_, t57.parts_, t57.seen_) (p_28, t57.parts_.length, p_29) 0 [0, 1, 2, 3] (by exact ⟨rfl, rfl, rfl, rfl, rfl, rfl, trivial⟩) (by decide) (by kernel_rfl) (by exact ⟨H131, rfl⟩) (Nat.lt_succ_self _)
        ·have H132 := Jq hb H129; clear H129
         refine Jt ?_
         refine Jn (a0.s_, a0.big_, a0.dirs_, a0.found_, a0.no_, a0.parts_, a0.seen_) (p0_2, n0_2, m0_3) 0 [0, 1, 2, 3] (by exact ⟨rfl, rfl, rfl, rfl, rfl, rfl, trivial⟩) (by decide) (by kernel_rfl) (by exact ⟨H132, hn0_2⟩) (Nat.lt_succ_self _)
   ·rintro ⟨m, m_2, m_3, m_4, m_5, l, mp⟩ ⟨p_3, n, b⟩ gg H72 hl
    replace H72 : Xd a1 a2 self t21 m m_2 m_3 m_4 m_5 l mp = some r := H72
    try dsimp only
    refine Jf ?_
    refine Jf ?_
    refine Jb ?_
    refine Ja rfl rfl rfl (Je (v := .pointer (some ⟨pb0, 0, none⟩)) rfl) ?_
    refine Ja rfl rfl rfl (Ju rfl) ?_
    refine Ja rfl rfl rfl (Jk Tryz.runUnderlying195 rfl Tryz.sizeOf28 rfl rfl) ?_
    refine Js (i := 0) (v := .int .i64 m_5) Tryz.isAgg28 rfl rfl rfl rfl rfl ?_
    refine Ja rfl rfl rfl (Va rfl rfl) ?_
    refine Jg ?_
    refine Qd (b := (decide (m_5 ≠ 0))) rfl (fun hb => ?_) (fun hb => ?_)
    ·have H73 := Jp hb H72; clear H72
     refine Jf ?_
     refine Jb ?_
     refine Ja rfl rfl rfl (Jc (v := .slice none 0 0) rfl) ?_
     refine Ja rfl rfl rfl (Jc (v := .int .i64 0) rfl) ?_
     refine Jg ?_
     refine Jx ?_
     refine J0 83 6 ?_
     obtain rfl := Option.some.inj H73
     refine Jl 3 4 rfl rfl (by decide) ?_
     refine Y0 3 rfl (Xn (p := ((none, 0) : Option Addr × Nat)) rfl (AllC.nil (G := g_tag_Entry) (h := X6) (sz := 6))) ?_
     refine Jl 2 3 rfl rfl (by decide) ?_
     refine Jl 1 2 rfl rfl (by decide) ?_
     refine Jl 0 1 rfl rfl (by decide) ?_
     refine ret2 (v1 := .slice ((none, 0) : Option Addr × Nat).1 (([] : List (List Value)).length) ((none, 0) : Option Addr × Nat).2) (v2 := .int .i64 0) rfl rfl rfl (V6 (((none, 0) : Option Addr × Nat), p_3, b) (i := 0) rfl (by first | rfl | rw [(show (([] : List (List Value)).length) = ([] : List T_tag_Entry).length from (AllC.nil (G := g_tag_Entry) (h := X6) (sz := 6)).len), (show n = l.length from hl)]) (by first | exact Imp.refl _ | exact Imp.of (by rw [(show (([] : List (List Value)).length) = ([] : List T_tag_Entry).length from (AllC.nil (G := g_tag_Entry) (h := X6) (sz := 6)).len), (show n = l.length from hl)] <;> rfl)))
    ·have H74 := Jq hb H72; clear H72
     refine Jt ?_
     refine Jf ?_
     try dsimp only [z1, z2, z5, z6, z7, z8]
     refine Jb ?_
     refine Ja rfl rfl rfl (Je (v := .pointer (some ⟨pb0, 0, none⟩)) rfl) ?_
     refine Ja rfl rfl rfl (Ju rfl) ?_
     refine Ja rfl rfl rfl (Jk Tryz.runUnderlying195 rfl Tryz.sizeOf116 rfl rfl) ?_
     refine Js (i := 0) (v := .map (some b)) Tryz.isAgg116 rfl rfl rfl rfl rfl ?_
     refine Ja rfl rfl rfl (Je (v := .int .i64 a1) rfl) ?_
     refine l_turn0 (turns_mset (u := true) (i := 2) (rds := []) (fk := (fun x_ : Int => .int .i64 x_)) (fv := (fun x_ : Bool => .bool x_)) (k := a1) (v := true) keyF_int (.inr rfl) Tryz.underlying116 Tryz.underlying3 rfl rfl rfl rfl) rfl rfl (fun _ => ?_)
     refine Jg ?_
     refine Jf ?_
     refine Jb ?_
     refine Ja rfl rfl rfl (Je (v := .pointer (some ⟨pb0, 0, none⟩)) rfl) ?_
     refine Ja rfl rfl rfl (Je (v := .pointer (some ⟨pb0, 0, none⟩)) rfl) ?_
     refine Ja rfl rfl rfl (Ju rfl) ?_
     refine Ja rfl rfl rfl (Jk Tryz.runUnderlying195 rfl Tryz.sizeOf48 rfl rfl) ?_
     refine Js (i := 0) (v := .slice p_3.1 n p_3.2) Tryz.isAgg48 rfl rfl rfl rfl rfl ?_
     refine Ja rfl rfl rfl (Je (v := .int .i64 a1) rfl) ?_
     refine Ja rfl rfl rfl (Je (v := .int .i64 a1) rfl) ?_
     obtain ⟨t75, h_t75, H75⟩ := Jh H74; clear H74
     refine Ja rfl rfl rfl (Qe rfl rfl h_t75) ?_
     refine Ja rfl rfl rfl (Je (v := .int .i64 t21) rfl) ?_
     obtain ⟨t77, h_t77, H76⟩ := Jh H75; clear H75
     refine Ja rfl rfl rfl (W6 rfl rfl h_t77) ?_
     obtain ⟨t78, h_t78, H77⟩ := Jh H76; clear H76
     refine Ja rfl rfl rfl (Qe rfl rfl h_t78) ?_
     obtain ⟨t79, h_t79, H78⟩ := Jh H77; clear H77
     refine Ja rfl rfl rfl (Qe rfl rfl h_t79) ?_
     refine Ja rfl rfl rfl (Yi (pl := #[(0, 1), (1, 1)]) (ps := [(0, .int .i64 a1), (1, .int .i64 t79)]) (cells := #[.int .i64 a1, .int .i64 t79]) Tryz.zeroValue56 Tryz.runUnderlying56 (fun w => by kernel_rfl) rfl rfl) ?_
     refine Q9 (vs := [.agg #[.int .i64 a1, .int .i64 t79]]) (cs := [.int .i64 a1, .int .i64 t79]) Tryz.underlying48 Tryz.sizeOf56 Tryz.zeroValue56 rfl rfl rfl rfl rfl rfl rfl (fun b2 => ?_)
     obtain ⟨l82, h_l82, H79⟩ := Jh H78; clear H78
     refine Xg (Y3 (i := 1) (hn := hl) (rds := [4]) (p := p_3) (sz := 2) (by_ := 16) (f := Jj) (ys := l) (ls := ([(⟨a1, t79⟩ : T_tag_Span)] : List T_tag_Span)) (V := .slice (some ⟨b2, 0, none⟩) 1 1) Tryz.underlying48 (Z1 Tryz.typeInfo56) rfl rfl rfl rfl rfl rfl rfl rfl rfl rfl (fun w L' hF hS hi => Wo (i := 4) hS ((hi 4 (by simp)).trans rfl) rfl rfl) (fun _ => rfl) (fun _ => rfl) h_l82) rfl rfl rfl (fun p_4 => ?_)
     refine Ja rfl rfl rfl (Ju rfl) ?_
     refine Ja rfl rfl rfl (Jk Tryz.runUnderlying195 rfl Tryz.sizeOf48 rfl rfl) ?_
     refine Qc (i := 0) (vs := [.slice p_4.1 l82.length p_4.2]) (cs' := [Jv m, .bool m_2, .slice p_4.1 l82.length p_4.2, .map (some b), .int .i64 m_3, (Qo m_4), .int .i64 m_5]) Tryz.sizeOf48 rfl rfl rfl rfl rfl rfl rfl rfl rfl ?_
     refine Jg ?_
     refine Jf ?_
     refine Jb ?_
     refine Ja rfl rfl rfl (Je (v := .pointer (some ⟨pb0, 0, none⟩)) rfl) ?_
     refine Ja rfl rfl rfl (Je (v := .int .i64 a1) rfl) ?_
     obtain ⟨t87, h_t87, H80⟩ := Jh H79; clear H79
     refine Ja rfl rfl rfl (Qe rfl rfl h_t87) ?_
     refine Ja rfl rfl rfl (Je (v := .int .i64 t21) rfl) ?_
     obtain ⟨t89, h_t89, H81⟩ := Jh H80; clear H80
     refine Ja rfl rfl rfl (W6 rfl rfl h_t89) ?_
     obtain ⟨t90, h_t90, H82⟩ := Jh H81; clear H81
     refine Ja rfl rfl rfl (Qe rfl rfl h_t90) ?_
     obtain ⟨t91, h_t91, H83⟩ := Jh H82; clear H82
     refine Qw (fun w hF hS => k127 (a0 := (⟨m, m_2, l82, (Z6 mp a1 true), m_3, m_4, m_5⟩ : T_tag_reader)) (J7 w) (Yn (i := 1) rfl hS rfl) (Xz (fk := (fun x_ : Int => .int .i64 x_)) (fv := (fun x_ : Bool => .bool x_)) (i := 2) hS rfl) (Xb (i := 0) hS rfl) h_t91) Tryz.call127 rfl rfl rfl ?_
     refine Ja rfl rfl rfl (Jc (v := .int .i64 t91) rfl) ?_
     refine Jg ?_
     refine Qz (r := r) (σ := (List UInt8) × Bool × Int × Nat × Int × (List T_tag_Span) × (List (Int × Bool))) (τ := (Option Addr × Nat) × Nat) (fun s => Vm a1 a2 self t21 t91 s.1 s.2.1 s.2.2.1 s.2.2.2.1 s.2.2.2.2.1 s.2.2.2.2.2.1 s.2.2.2.2.2.2) (fun s t => [(0, .pointer (some ⟨pb0, 0, none⟩)), (1, .int .i64 a1), (2, v2), (6, .slice none 0 0), (7, .int .i64 t91), (9, .int .i64 t21)]) (fun s t => [Jo pb0 [Jv s.1, .bool s.2.1, .slice t.1.1 s.2.2.2.2.2.1.length t.1.2, .map (some t.2), .int .i64 s.2.2.1, (Qo s.2.2.2.1), .int .i64 s.2.2.2.2.1] 195, Qa 56 2 (.slice t.1.1 s.2.2.2.2.2.1.length t.1.2) s.2.2.2.2.2.1.length (s.2.2.2.2.2.1.map Jj), Q1 (fun x_ : Int => .int .i64 x_) (fun x_ : Bool => .bool x_) t.2 s.2.2.2.2.2.2, Yv X6 X6]) (fun s t => True) ?_ ?_
     ·refine Jf ?_
      refine Jb ?_
      refine Ja rfl rfl rfl (Je (v := .int .i64 (a2.length : Int)) rfl) ?_
      refine Ja rfl rfl rfl (Zm rfl rfl) ?_
      refine Ja rfl rfl rfl (Je (v := .bool (decide (1 < (a2.length : Int)))) rfl) ?_
      refine split (fun hb => ?_) (fun hb => ?_)
      ·have H109 := Jp hb H83; clear H83
       refine Ja rfl rfl rfl (Je (v := .int .i64 t91) rfl) ?_
       refine Ja rfl rfl rfl (Va rfl rfl) ?_
       refine Ja rfl rfl rfl (J9 (v := .bool (decide (t91 ≠ 0))) rfl rfl) ?_
       refine Jg ?_
       refine Qd (b := (decide (t91 ≠ 0))) rfl (fun hb => ?_) (fun hb => ?_)
       ·have H110 := Jp hb H109; clear H109
        refine Jb ?_
        refine Ja rfl rfl rfl (Je (v := .pointer (some ⟨pb0, 0, none⟩)) rfl) ?_
        obtain ⟨t99, h_t99, H111⟩ := Jh H110; clear H110
        refine Jl 1 2 rfl rfl (by decide) ?_
        refine Jl 0 1 rfl rfl (by decide) ?_
        refine Xg (Ql (i := 0) (rds := []) (G := fun x : (Option Addr × Nat) × Nat => .tuple #[]) (C := fun x : (Option Addr × Nat) × Nat => J1 (Jo pb0 [Jv t99.s_, .bool t99.big_, .slice x.1.1 t99.parts_.length x.1.2, .map (some x.2), .int .i64 t99.dirs_, (Qo t99.found_), .int .i64 t99.no_] 195) (J1 (Qa 56 2 (.slice x.1.1 t99.parts_.length x.1.2) t99.parts_.length (t99.parts_.map Jj)) (Q1 (fun x_ : Int => .int .i64 x_) (fun x_ : Bool => .bool x_) x.2 t99.seen_))) rfl (fun w L' S hF hS hi hp hlt ho hA => k170 (a0 := (⟨m, m_2, l82, (Z6 mp a1 true), m_3, m_4, m_5⟩ : T_tag_reader)) hp hlt (Xa w S) rfl h_t99) Tryz.call170 rfl) rfl rfl rfl (fun ⟨p_18, p_19⟩ => ?_)
        refine Qk 0 1 rfl rfl (by decide) ?_
        refine Qk 1 2 rfl rfl (by decide) ?_
        refine Jg ?_
        refine Jn (t99.s_, t99.big_, t99.dirs_, t99.found_, t99.no_, t99.parts_, t99.seen_) (p_18, p_19) 0 [0, 1, 2, 3] (by exact ⟨rfl, rfl, rfl, rfl, rfl, rfl, trivial⟩) (by decide) (by kernel_rfl) (by exact ⟨H111, trivial⟩) (Nat.lt_succ_self _)
       ·have H112 := Jq hb H109; clear H109
        refine Jt ?_
        refine Jn (m, m_2, m_3, m_4, m_5, l82, (Z6 mp a1 true)) (p_4, b) 0 [0, 1, 2, 3] (by exact ⟨rfl, rfl, rfl, rfl, rfl, rfl, trivial⟩) (by decide) (by kernel_rfl) (by exact ⟨H112, trivial⟩) (Nat.lt_succ_self _)
      ·have H113 := Jq hb H83; clear H83
       refine Ji rfl rfl rfl ?_
       refine Ji rfl rfl rfl ?_
       refine Ja rfl rfl rfl (Qf (v := .bool false) rfl rfl) ?_
       refine Jg ?_
       refine Ug rfl ?_
       refine Jt ?_
       refine Jn (m, m_2, m_3, m_4, m_5, l82, (Z6 mp a1 true)) (p_4, b) 0 [0, 1, 2, 3] (by exact ⟨rfl, rfl, rfl, rfl, rfl, rfl, trivial⟩) (by decide) (by kernel_rfl) (by exact ⟨H113, trivial⟩) (Nat.lt_succ_self _)
     ·rintro ⟨m_6, m_7, m_8, m_9, m_10, l_2, mp_2⟩ ⟨p_5, b_2⟩ gg H84 _
      replace H84 : Vm a1 a2 self t21 t91 m_6 m_7 m_8 m_9 m_10 l_2 mp_2 = some r := H84
      try dsimp only
      refine Qz (r := r) (σ := Int × (List UInt8) × Bool × Int × Nat × Int × (List T_tag_Span) × (List (Int × Bool)) × (List T_tag_Entry)) (τ := Qj × (Option Addr × Nat) × Nat × (List (List Value)) × (Option Addr × Nat)) (fun s => Wr s.1 s.2.1 s.2.2.1 s.2.2.2.1 s.2.2.2.2.1 s.2.2.2.2.2.1 s.2.2.2.2.2.2.1 s.2.2.2.2.2.2.2.1 s.2.2.2.2.2.2.2.2) (fun s t => [(6, .slice t.2.2.2.2.1 t.2.2.2.1.length t.2.2.2.2.2), (7, .int .i64 s.1)]) (fun s t => [Jo pb0 [Jv s.2.1, .bool s.2.2.1, .slice t.2.1.1 s.2.2.2.2.2.2.1.length t.2.1.2, .map (some t.2.2.1), .int .i64 s.2.2.2.1, (Qo s.2.2.2.2.1), .int .i64 s.2.2.2.2.2.1] 195, Qa 56 2 (.slice t.2.1.1 s.2.2.2.2.2.2.1.length t.2.1.2) s.2.2.2.2.2.2.1.length (s.2.2.2.2.2.2.1.map Jj), Q1 (fun x_ : Int => .int .i64 x_) (fun x_ : Bool => .bool x_) t.2.2.1 s.2.2.2.2.2.2.2.1, Yv X6 t.1, Qa 83 6 (.slice t.2.2.2.2.1 t.2.2.2.1.length t.2.2.2.2.2) t.2.2.2.1.length (t.2.2.2.1.map idC)]) (fun s t => AllC g_tag_Entry t.1 6 t.2.2.2.1 s.2.2.2.2.2.2.2.2) ?_ ?_
      ·refine Jf ?_
       refine Jb ?_
       refine Ja rfl rfl rfl (Jc (v := .int .i64 0) rfl) ?_
       refine Jg ?_
       refine J8 ?_
       refine J0 83 6 ?_
       refine Z2 (σ := Int × Int × Int × Int × (List UInt8) × Bool × Int × Nat × Int × (List T_tag_Span) × (List (Int × Bool)) × (List T_tag_Entry)) (τ := Qj × (Option Addr × Nat) × Nat × (List (List Value)) × (Option Addr × Nat)) (fun next4 s => Q3 a2 self next4 s.1 s.2.1 s.2.2.1 s.2.2.2.1 s.2.2.2.2.1 s.2.2.2.2.2.1 s.2.2.2.2.2.2.1 s.2.2.2.2.2.2.2.1 s.2.2.2.2.2.2.2.2.1 s.2.2.2.2.2.2.2.2.2.1 s.2.2.2.2.2.2.2.2.2.2.1 s.2.2.2.2.2.2.2.2.2.2.2) (fun s t => [(0, .pointer (some ⟨pb0, 0, none⟩)), (1, .int .i64 s.1), (2, v2), (6, .slice t.2.2.2.2.1 t.2.2.2.1.length t.2.2.2.2.2), (7, .int .i64 s.2.1), (9, .int .i64 s.2.2.1), (10, .int .i64 s.2.2.2.1)]) (fun s t => [Jo pb0 [Jv s.2.2.2.2.1, .bool s.2.2.2.2.2.1, .slice t.2.1.1 s.2.2.2.2.2.2.2.2.2.1.length t.2.1.2, .map (some t.2.2.1), .int .i64 s.2.2.2.2.2.2.1, (Qo s.2.2.2.2.2.2.2.1), .int .i64 s.2.2.2.2.2.2.2.2.1] 195, Qa 56 2 (.slice t.2.1.1 s.2.2.2.2.2.2.2.2.2.1.length t.2.1.2) s.2.2.2.2.2.2.2.2.2.1.length (s.2.2.2.2.2.2.2.2.2.1.map Jj), Q1 (fun x_ : Int => .int .i64 x_) (fun x_ : Bool => .bool x_) t.2.2.1 s.2.2.2.2.2.2.2.2.2.2.1, Yv X6 t.1, Qa 83 6 (.slice t.2.2.2.2.1 t.2.2.2.1.length t.2.2.2.2.2) t.2.2.2.1.length (t.2.2.2.1.map idC)]) (fun s t => AllC g_tag_Entry t.1 6 t.2.2.2.1 s.2.2.2.2.2.2.2.2.2.2.2) (a1, t91, t21, 0, m_6, m_7, m_8, m_9, m_10, l_2, mp_2, ([] : List T_tag_Entry)) (X6, p_5, b_2, ([] : List (List Value)), ((none, 0) : Option Addr × Nat)) [0, 1, 2, 3, 4] H84 (by exact (AllC.nil (G := g_tag_Entry) (h := X6) (sz := 6))) (by exact ⟨rfl, rfl, rfl, rfl, rfl, rfl, rfl, trivial⟩) (by decide) rfl ?_
       rintro ⟨x1_2, x7_3, x9_2, x10_2, m_21, m_22, m_23, m_24, m_25, l_7, mp_5, l_8⟩ ⟨hp_2, p_8, b_4, css_2, p_9⟩ m4 gg H86 pf_3
       clear H84
       replace H86 : Q3 a2 self (it (fun next4 s => Q3 a2 self next4 s.1 s.2.1 s.2.2.1 s.2.2.2.1 s.2.2.2.2.1 s.2.2.2.2.2.1 s.2.2.2.2.2.2.1 s.2.2.2.2.2.2.2.1 s.2.2.2.2.2.2.2.2.1 s.2.2.2.2.2.2.2.2.2.1 s.2.2.2.2.2.2.2.2.2.2.1 s.2.2.2.2.2.2.2.2.2.2.2) m4) x1_2 x7_3 x9_2 x10_2 m_21 m_22 m_23 m_24 m_25 l_7 mp_5 l_8 = some r := H86
       generalize hn4 : it (fun next4 s => Q3 a2 self next4 s.1 s.2.1 s.2.2.1 s.2.2.2.1 s.2.2.2.2.1 s.2.2.2.2.2.1 s.2.2.2.2.2.2.1 s.2.2.2.2.2.2.2.1 s.2.2.2.2.2.2.2.2.1 s.2.2.2.2.2.2.2.2.2.1 s.2.2.2.2.2.2.2.2.2.2.1 s.2.2.2.2.2.2.2.2.2.2.2) m4 = next4 at H86
       try dsimp only
       refine Jf ?_
       refine Jf ?_
       try dsimp only [z1, z2, z5, z6, z7, z8]
       refine Jb ?_
       refine Ja rfl rfl rfl (Je (v := .int .i64 x10_2) rfl) ?_
       refine Ja rfl rfl rfl (Je (v := .int .i64 x9_2) rfl) ?_
       refine Ja rfl rfl rfl (Zc rfl rfl) ?_
       refine Ja rfl rfl rfl (Je (v := .bool (decide (x10_2 < x9_2))) rfl) ?_
       refine split (fun hb => ?_) (fun hb => ?_)
       ·have H87 := Jp hb H86; clear H86
        refine Ja rfl rfl rfl (Je (v := .pointer (some ⟨pb0, 0, none⟩)) rfl) ?_
        refine Ja rfl rfl rfl (Ju rfl) ?_
        refine Ja rfl rfl rfl (Jk Tryz.runUnderlying195 rfl Tryz.sizeOf28 rfl rfl) ?_
        refine Js (i := 0) (v := .int .i64 m_25) Tryz.isAgg28 rfl rfl rfl rfl rfl ?_
        refine Ja rfl rfl rfl (Q0 rfl rfl) ?_
        refine Ja rfl rfl rfl (J9 (v := .bool (decide (m_25 = 0))) rfl rfl) ?_
        refine Jg ?_
        try dsimp only [z1, z2, z5, z6, z7, z8]
        refine Qd (b := (decide (m_25 = 0))) rfl (fun hb => ?_) (fun hb => ?_)
        ·have H88 := Jp hb H87; clear H87
         refine Jt ?_
         refine Jf ?_
         refine J8 ?_
         refine Qz (r := r) (σ := Unit) (τ := Unit) (fun s => Zq a2 self x1_2 x7_3 x9_2 x10_2 m_21 m_22 m_23 m_24 m_25 l_7 mp_5 l_8 next4) (fun s t => [(0, .pointer (some ⟨pb0, 0, none⟩)), (1, .int .i64 x1_2), (2, v2), (6, .slice p_9.1 css_2.length p_9.2), (7, .int .i64 x7_3), (9, .int .i64 x9_2), (10, .int .i64 x10_2), (104, .pointer (some ⟨pb0, 0, none⟩)), (105, .pointer (some ⟨pb0, 0, none⟩)), (106, .pointer (some ⟨pb0, 6, none⟩)), (107, .int .i64 m_25), (108, .bool (decide (m_25 = 0)))]) (fun s t => [Jo pb0 [Jv m_21, .bool m_22, .slice p_8.1 l_7.length p_8.2, .map (some b_4), .int .i64 m_23, (Qo m_24), .int .i64 m_25] 195, Qa 56 2 (.slice p_8.1 l_7.length p_8.2) l_7.length (l_7.map Jj), Q1 (fun x_ : Int => .int .i64 x_) (fun x_ : Bool => .bool x_) b_4 mp_5, Yv X6 hp_2, Qa 83 6 (.slice p_9.1 css_2.length p_9.2) css_2.length (css_2.map idC)]) (fun s t => True) ?_ ?_
         ·refine Jf ?_
          exact Xp (Kd.p :: Kd.p :: Kd.p :: Kd.p :: Kd.p :: Kd.p :: Kd.p :: Kd.p :: Kd.p :: Kd.d [3, 0, 1, 2] _ :: Kd.p :: Kd.p :: Kd.p :: Kd.d [4] _ :: Kd.d [4] _ :: Kd.d [4] _ :: Kd.p :: Kd.p :: []) 0 mixed (by
           refine Jm rfl rfl (Je (v := .int .i64 x10_2) rfl) ?_
           refine Jm rfl rfl (Zm rfl rfl) ?_
           refine Jm rfl rfl (Je (v := .bool (decide (0 < x10_2))) rfl) ?_
           refine splitS (fun hb => ?_) (fun hb => ?_)
           ·have H96 := Jp hb H88
            refine Jm rfl rfl (Je (v := .pointer (some ⟨pb0, 0, none⟩)) rfl) ?_
            refine Jm rfl rfl (Je (v := .int .i64 x1_2) rfl) ?_
            have h_t117 := Qg H96
            have H97 := J6 H96
            refine Jm rfl rfl (Qe rfl rfl h_t117) ?_
            refine Jm rfl rfl (Je (v := .int .i64 x10_2) rfl) ?_
            have h_t119 := Qg H97
            have H98 := J6 H97
            refine Jm rfl rfl (W6 rfl rfl h_t119) ?_
            have h_t120 := Qg H98
            have H99 := J6 H98
            refine Jm rfl rfl (Qe rfl rfl h_t120) ?_
            have h_t121 := Qg H99
            have H100 := J6 H99
            refine d_callD (fun w L' hF hS hi => k127 (a0 := (⟨m_21, m_22, l_7, mp_5, m_23, m_24, m_25⟩ : T_tag_reader)) (J7 w) (Yn (i := 1) rfl hS ((hi 1 (by simp)).trans rfl)) (Xz (fk := (fun x_ : Int => .int .i64 x_)) (fv := (fun x_ : Bool => .bool x_)) (i := 2) hS ((hi 2 (by simp)).trans rfl)) (Xb (i := 0) hS ((hi 0 (by simp)).trans rfl)) h_t121) Tryz.call127 rfl rfl ?_
            refine Jm rfl rfl (Je (v := .slice p_9.1 css_2.length p_9.2) rfl) ?_
            refine Jm rfl rfl (Je (v := .int .i64 x10_2) rfl) ?_
            have h_t124 := Qg H100
            have H101 := J6 H100
            refine Jm rfl rfl (Wv rfl rfl h_t124) ?_
            have h_t125 := Qg H101
            have H102 := J6 H101
            refine Jam (fun w L' hF hS hi => V7 Tryz.underlying36 Tryz.sizeOf83 rfl rfl (W4 (i := 4) (E := 83) (sz := 6) (n := css_2.length) (a := p_9.1) (c := p_9.2) hS ((hi 4 (by simp)).trans rfl)) rfl (pf_3.ix h_t125)) rfl rfl ?_
            refine d_readE rfl rfl (fun w L' hF hS hi => run_fieldG Tryz.runUnderlying83 rfl Tryz.sizeOf3 rfl rfl (W4 (i := 4) (E := 83) (sz := 6) (n := css_2.length) (a := p_9.1) (c := p_9.2) hS ((hi 4 (by simp)).trans rfl)) (pf_3.ix h_t125)) ?_
            refine Jam (fun w L' hF hS hi => X4 (f := idC) (i := (val (gI (x10_2 - 1)))) (sz := 6) (j := 0) (v := .int .i64 (val (Y6 l_8 (val (gI (x10_2 - 1))))).Tag) Tryz.isAgg3 rfl rfl (W4 (i := 4) (E := 83) (sz := 6) (n := css_2.length) (a := p_9.1) (c := p_9.2) hS ((hi 4 (by simp)).trans rfl)) (pf_3.ix h_t125) (rg_of ((pf_3.eta h_t125).trans (Vd (pf_3.at h_t125))) rfl)) rfl rfl ?_
            refine Jm rfl rfl (r_leq rfl rfl) ?_
            refine Jm rfl rfl (J9 (v := .bool (decide ((val (Jy (⟨m_21, m_22, l_7, mp_5, m_23, m_24, m_25⟩ : T_tag_reader) (val (gI ((val (gI (x1_2 + 2))) + (val (gI (12 * x10_2)))))) 2)) ≤ (val (Y6 l_8 (val (gI (x10_2 - 1))))).Tag))) rfl rfl) ?_
            refine Zh ?_
            try dsimp only [z1, z2, z5, z6, z7, z8]
            refine Qd (b := (decide ((val (Jy (⟨m_21, m_22, l_7, mp_5, m_23, m_24, m_25⟩ : T_tag_reader) (val (gI ((val (gI (x1_2 + 2))) + (val (gI (12 * x10_2)))))) 2)) ≤ (val (Y6 l_8 (val (gI (x10_2 - 1))))).Tag))) rfl (fun hb => ?_) (fun hb => ?_)
            ·have H103 := Jp hb H102; clear H102
             refine Jf ?_
             refine Jb ?_
             refine Ja rfl rfl rfl (Je (v := .pointer (some ⟨pb0, 0, none⟩)) rfl) ?_
             obtain ⟨t131, h_t131, H104⟩ := Jh H103; clear H103
             refine Jl 1 2 rfl rfl (by decide) ?_
             refine Jl 0 1 rfl rfl (by decide) ?_
             refine Xg (Ql (i := 0) (rds := []) (G := fun x : (Option Addr × Nat) × Nat => .tuple #[]) (C := fun x : (Option Addr × Nat) × Nat => J1 (Jo pb0 [Jv t131.s_, .bool t131.big_, .slice x.1.1 t131.parts_.length x.1.2, .map (some x.2), .int .i64 t131.dirs_, (Qo t131.found_), .int .i64 t131.no_] 195) (J1 (Qa 56 2 (.slice x.1.1 t131.parts_.length x.1.2) t131.parts_.length (t131.parts_.map Jj)) (Q1 (fun x_ : Int => .int .i64 x_) (fun x_ : Bool => .bool x_) x.2 t131.seen_))) rfl (fun w L' S hF hS hi hp hlt ho hA => k170 (a0 := (⟨m_21, m_22, l_7, mp_5, m_23, m_24, m_25⟩ : T_tag_reader)) hp hlt (Xa w S) rfl h_t131) Tryz.call170 rfl) rfl rfl rfl (fun ⟨p_16, p_17⟩ => ?_)
             refine Qk 0 1 rfl rfl (by decide) ?_
             refine Qk 1 2 rfl rfl (by decide) ?_
             refine Jg ?_
             try dsimp only [z1, z2, z5, z6, z7, z8]
             refine X3 ?_
             refine Jn (x7_3, t131.s_, t131.big_, t131.dirs_, t131.found_, t131.no_, t131.parts_, t131.seen_, l_8) (hp_2, p_16, p_17, css_2, p_9) 0 [0, 1, 2, 3, 4] (by exact ⟨rfl, rfl, trivial⟩) (by decide) (by kernel_rfl) (by exact ⟨H104, pf_3⟩) (Nat.lt_succ_self _)
            ·have H105 := Jq hb H102; clear H102
             refine Jt ?_
             refine Jn () () 0 [0, 1, 2, 3, 4] (by exact ⟨rfl, rfl, rfl, rfl, rfl, rfl, rfl, rfl, rfl, rfl, rfl, rfl, trivial⟩) (by decide) (by kernel_rfl) (by exact ⟨H105, trivial⟩) (Nat.lt_succ_self _)
           ·have H106 := Jq hb H88
            refine Qi rfl rfl ?_
            refine Qi rfl rfl ?_
            refine Qi rfl rfl ?_
            refine Qi rfl rfl ?_
            refine Qi rfl rfl ?_
            refine Qi rfl rfl ?_
            refine Qi rfl rfl ?_
            refine Qi rfl rfl ?_
            refine Qi rfl rfl ?_
            refine Qi rfl rfl ?_
            refine Qi rfl rfl ?_
            refine Qi rfl rfl ?_
            refine Qi rfl rfl ?_
            refine Qi rfl rfl ?_
            refine Jm rfl rfl (Qf (v := .bool false) rfl rfl) ?_
            refine Zh ?_
            try dsimp only [z1, z2, z5, z6, z7, z8]
            refine Ug rfl ?_
            refine Jt ?_
            refine Jn () () 0 [0, 1, 2, 3, 4] (by exact ⟨rfl, rfl, rfl, rfl, rfl, rfl, rfl, rfl, rfl, rfl, rfl, rfl, trivial⟩) (by decide) (by kernel_rfl) (by exact ⟨H106, trivial⟩) (Nat.lt_succ_self _)
           ) (by kernel_rfl)
         ·rintro _ _ gg H89 _
          replace H89 : Zq a2 self x1_2 x7_3 x9_2 x10_2 m_21 m_22 m_23 m_24 m_25 l_7 mp_5 l_8 next4 = some r := H89
          try dsimp only
          refine Jb ?_
          refine Ja rfl rfl rfl (Je (v := .slice p_9.1 css_2.length p_9.2) rfl) ?_
          refine Ja rfl rfl rfl (Je (v := .pointer (some ⟨pb0, 0, none⟩)) rfl) ?_
          refine Ja rfl rfl rfl (Je (v := .int .i64 x1_2) rfl) ?_
          obtain ⟨t135, h_t135, H90⟩ := Jh H89; clear H89
          refine Ja rfl rfl rfl (Qe rfl rfl h_t135) ?_
          refine Ja rfl rfl rfl (Je (v := .int .i64 x10_2) rfl) ?_
          obtain ⟨t137, h_t137, H91⟩ := Jh H90; clear H90
          refine Ja rfl rfl rfl (W6 rfl rfl h_t137) ?_
          obtain ⟨t138, h_t138, H92⟩ := Jh H91; clear H91
          refine Ja rfl rfl rfl (Qe rfl rfl h_t138) ?_
          refine Ja rfl rfl rfl (Je (v := v2) rfl) ?_
          obtain ⟨t140, h_t140, H93⟩ := Jh H92; clear H92
          refine Jl 1 2 rfl rfl (by decide) ?_
          refine Jl 0 1 rfl rfl (by decide) ?_
          refine Xg (Ql (i := 0) (rds := []) (G := fun x : (Option Addr × Nat) × (Option Addr × Nat) × (Option Addr × Nat) × (Option Addr × Nat) × Nat => .agg #[.int .i64 t140.1.Tag, .int .i64 t140.1.Value.Kind, Jv t140.1.Value.Text, .slice x.1.1 t140.1.Value.Ints.length x.1.2, .slice x.2.1.1 t140.1.Value.Ratios.length x.2.1.2, .slice x.2.2.1.1 t140.1.Value.Entries.length x.2.2.1.2]) (C := fun x : (Option Addr × Nat) × (Option Addr × Nat) × (Option Addr × Nat) × (Option Addr × Nat) × Nat => J1 (Jo pb0 [Jv t140.2.s_, .bool t140.2.big_, .slice x.2.2.2.1.1 t140.2.parts_.length x.2.2.2.1.2, .map (some x.2.2.2.2), .int .i64 t140.2.dirs_, (Qo t140.2.found_), .int .i64 t140.2.no_] 195) (J1 (Qa 56 2 (.slice x.2.2.2.1.1 t140.2.parts_.length x.2.2.2.1.2) t140.2.parts_.length (t140.2.parts_.map Jj)) (J1 (Q1 (fun x_ : Int => .int .i64 x_) (fun x_ : Bool => .bool x_) x.2.2.2.2 t140.2.seen_) (J1 (Qa 3 1 (.slice x.1.1 t140.1.Value.Ints.length x.1.2) t140.1.Value.Ints.length (t140.1.Value.Ints.map Xc)) (J1 (Qa 74 2 (.slice x.2.1.1 t140.1.Value.Ratios.length x.2.1.2) t140.1.Value.Ratios.length (t140.1.Value.Ratios.map Jz)) (W3 83 6 g_tag_Entry (.slice x.2.2.1.1 t140.1.Value.Entries.length x.2.2.1.2) t140.1.Value.Entries.length t140.1.Value.Entries)))))) rfl (fun w L' S hF hS hi hp hlt ho hA => k171_b ih (a0 := (⟨m_21, m_22, l_7, mp_5, m_23, m_24, m_25⟩ : T_tag_reader)) hp hlt (Xa w S) rfl (f2.mono (hw.but hF ho)) h_t140) Tryz.call171 rfl) rfl rfl rfl (fun ⟨p_10, p_11, p_12, p_13, p_14⟩ => ?_)
          refine Qk 0 1 rfl rfl (by decide) ?_
          refine Qk 1 2 rfl rfl (by decide) ?_
          refine Q2 2 rfl ?_
          refine Q2 5 rfl ?_
          refine Q2 6 rfl ?_
          refine Q9 (vs := [.agg #[.int .i64 t140.1.Tag, .int .i64 t140.1.Value.Kind, Jv t140.1.Value.Text, .slice p_10.1 t140.1.Value.Ints.length p_10.2, .slice p_11.1 t140.1.Value.Ratios.length p_11.2, .slice p_12.1 t140.1.Value.Entries.length p_12.2]]) (cs := [.int .i64 t140.1.Tag, .int .i64 t140.1.Value.Kind, Jv t140.1.Value.Text, .slice p_10.1 t140.1.Value.Ints.length p_10.2, .slice p_11.1 t140.1.Value.Ratios.length p_11.2, .slice p_12.1 t140.1.Value.Entries.length p_12.2]) Tryz.underlying36 Tryz.sizeOf83 Tryz.zeroValue83 rfl rfl rfl rfl rfl rfl rfl (fun b3 => ?_)
          try dsimp only [z1, z2, z5, z6, z7, z8]
          refine Jaz (Φ := fun H_ => FrS H_ 1 (.slice p_10.1 t140.1.Value.Ints.length p_10.2) (t140.1.Value.Ints.map Xc)) 3 5 rfl rfl (by decide) (fun _ _ => W7) (fz_own _) (fun hp_3 hle hf => ?_)
          try dsimp only [z1, z2, z5, z6, z7, z8]
          refine Jaz (Φ := fun H_ => FrS H_ 2 (.slice p_11.1 t140.1.Value.Ratios.length p_11.2) (t140.1.Value.Ratios.map Jz)) 3 6 rfl rfl (by decide) (fun _ _ => W7) (fz_own _) (fun hp_4 hle_2 hf_2 => ?_)
          refine c_rowD 7 rfl (fun hp_5 css_3 hn pf_4 => ?_)
          rw [hn]
          try dsimp only [z1, z2, z5, z6, z7, z8]
          refine Q2 7 rfl ?_
          try dsimp only [z1, z2, z5, z6, z7, z8]
          refine Wy 3 7 rfl rfl (by decide) (fun _ _ => W7) (fun hp_6 hle_3 hle_4 => ?_)
          try dsimp only [z1, z2, z5, z6, z7, z8]
          refine Jaz (Φ := fun H_ => FrS H_ 6 (.slice p_12.1 css_3.length p_12.2) (css_3.map idC)) 3 9 rfl rfl (by decide) (fun _ _ => W7) (fz_own _) (fun hp_7 hle_5 hf_3 => ?_)
          obtain ⟨l142, h_l142, H94⟩ := Jh H93; clear H93
          refine Xg (Ja6 (i := 4) (k := 8) (p := p_9) (f := idC) (ys := css_2) (ls := [[.int .i64 t140.1.Tag, .int .i64 t140.1.Value.Kind, Jv t140.1.Value.Text, .slice p_10.1 t140.1.Value.Ints.length p_10.2, .slice p_11.1 t140.1.Value.Ratios.length p_11.2, .slice p_12.1 css_3.length p_12.2]]) Tryz.underlying36 (Z1 Tryz.typeInfo83) rfl rfl rfl rfl rfl rfl rfl rfl rfl rfl rfl rfl rfl rfl (by simp only [idC, List.map_cons, List.map_nil, List.all_cons, List.all_nil, (((hf.mono hle_2).mono hle_3).mono hle_5).one, ((hf_2.mono hle_3).mono hle_5).one, (frn_of (xs := t140.1.Value.Entries) hf_3 ((pf_4.mono hle_4).mono hle_5)).one] <;> rfl) (app63 (((((pf_3.mono hle).mono hle_2).mono hle_3).mono hle_5).app h_l142 (nc := [[.int .i64 t140.1.Tag, .int .i64 t140.1.Value.Kind, Jv t140.1.Value.Text, .slice p_10.1 t140.1.Value.Ints.length p_10.2, .slice p_11.1 t140.1.Value.Ratios.length p_11.2, .slice p_12.1 css_3.length p_12.2]]) rfl)) rfl) rfl rfl rfl (fun p_15 => ?_)
          have pf_5 : AllC g_tag_Entry hp_7 6 (css_2 ++ [[.int .i64 t140.1.Tag, .int .i64 t140.1.Value.Kind, Jv t140.1.Value.Text, .slice p_10.1 t140.1.Value.Ints.length p_10.2, .slice p_11.1 t140.1.Value.Ratios.length p_11.2, .slice p_12.1 css_3.length p_12.2]]) l142 := AllC.snocG ((((pf_3.mono hle).mono hle_2).mono hle_3).mono hle_5) h_l142 rfl ((g_tag_Entry_iff.2 ⟨rfl, ⟨rfl, rfl, (((hf.mono hle_2).mono hle_3).mono hle_5), ((hf_2.mono hle_3).mono hle_5), (frn_of (xs := t140.1.Value.Entries) hf_3 ((pf_4.mono hle_4).mono hle_5))⟩⟩))
          refine Ja rfl rfl rfl (Jc (v := .slice p_15.1 ((css_2 ++ [[.int .i64 t140.1.Tag, .int .i64 t140.1.Value.Kind, Jv t140.1.Value.Text, .slice p_10.1 t140.1.Value.Ints.length p_10.2, .slice p_11.1 t140.1.Value.Ratios.length p_11.2, .slice p_12.1 css_3.length p_12.2]]).length) p_15.2) rfl) ?_
          refine Jg ?_
          try dsimp only [z1, z2, z5, z6, z7, z8]
          refine Jb ?_
          refine Ja rfl rfl rfl (Je (v := .int .i64 x10_2) rfl) ?_
          obtain ⟨t111, h_t111, H95⟩ := Jh H94; clear H94
          refine Ja rfl rfl rfl (Qe rfl rfl h_t111) ?_
          refine Ja rfl rfl rfl (Jc (v := .int .i64 t111) rfl) ?_
          refine Jg ?_
          try dsimp only [z1, z2, z5, z6, z7, z8]
          refine Jn (x1_2, x7_3, x9_2, t111, t140.2.s_, t140.2.big_, t140.2.dirs_, t140.2.found_, t140.2.no_, t140.2.parts_, t140.2.seen_, l142) (hp_7, p_13, p_14, (css_2 ++ [[.int .i64 t140.1.Tag, .int .i64 t140.1.Value.Kind, Jv t140.1.Value.Text, .slice p_10.1 t140.1.Value.Ints.length p_10.2, .slice p_11.1 t140.1.Value.Ratios.length p_11.2, .slice p_12.1 css_3.length p_12.2]]), p_15) m4 [0, 1, 2, 3, 4] (by exact ⟨rfl, rfl, rfl, rfl, rfl, rfl, rfl, trivial⟩) (by decide) (by kernel_rfl) (by exact ⟨(by subst hn4; exact H95), pf_5⟩) (Nat.lt_succ_self _)
        ·have H107 := Jq hb H87; clear H87
         refine X3 ?_
         refine Jn (x7_3, m_21, m_22, m_23, m_24, m_25, l_7, mp_5, l_8) (hp_2, p_8, b_4, css_2, p_9) 0 [0, 1, 2, 3, 4] (by exact ⟨rfl, rfl, trivial⟩) (by decide) (by kernel_rfl) (by exact ⟨H107, pf_3⟩) (Nat.lt_succ_self _)
       ·have H108 := Jq hb H86; clear H86
        refine Ji rfl rfl rfl ?_
        refine Ji rfl rfl rfl ?_
        refine Ji rfl rfl rfl ?_
        refine Ji rfl rfl rfl ?_
        refine Ji rfl rfl rfl ?_
        refine Ja rfl rfl rfl (Qf (v := .bool false) rfl rfl) ?_
        refine Jg ?_
        try dsimp only [z1, z2, z5, z6, z7, z8]
        refine Ug rfl ?_
        refine X3 ?_
        refine Jn (x7_3, m_21, m_22, m_23, m_24, m_25, l_7, mp_5, l_8) (hp_2, p_8, b_4, css_2, p_9) 0 [0, 1, 2, 3, 4] (by exact ⟨rfl, rfl, trivial⟩) (by decide) (by kernel_rfl) (by exact ⟨H108, pf_3⟩) (Nat.lt_succ_self _)
      ·rintro ⟨x7, m_11, m_12, m_13, m_14, m_15, l_3, mp_3, l_4⟩ ⟨hp, p_6, b_3, css, p_7⟩ gg H85 pf
       replace H85 : Wr x7 m_11 m_12 m_13 m_14 m_15 l_3 mp_3 l_4 = some r := H85
       try dsimp only
       refine Jf ?_
       refine Jb ?_
       refine Ja rfl rfl rfl (Je (v := .slice p_7.1 css.length p_7.2) rfl) ?_
       refine Ja rfl rfl rfl (Je (v := .int .i64 x7) rfl) ?_
       refine Ja rfl rfl rfl (Jc (v := .slice p_7.1 css.length p_7.2) rfl) ?_
       refine Ja rfl rfl rfl (Jc (v := .int .i64 x7) rfl) ?_
       refine Jg ?_
       try dsimp only [z1, z2, z5, z6, z7, z8]
       refine Jx ?_
       obtain rfl := Option.some.inj H85
       refine Jl 3 4 rfl rfl (by decide) ?_
       refine Y0 3 rfl (Xn (p := p_7) rfl pf) ?_
       refine Jl 2 3 rfl rfl (by decide) ?_
       refine Jl 1 2 rfl rfl (by decide) ?_
       refine Jl 0 1 rfl rfl (by decide) ?_
       refine ret2 (v1 := .slice p_7.1 css.length p_7.2) (v2 := .int .i64 x7) rfl rfl rfl (V6 (p_7, p_6, b_3) (i := 0) rfl (by first | rfl | rw [(show css.length = l_4.length from pf.len)]) (by first | exact Imp.refl _ | exact Imp.of (by rw [(show css.length = l_4.length from pf.len)] <;> rfl)))
theorem k128 {a0 : T_tag_reader} {pb0 : Nat} {p0_2 : Option Addr × Nat} {n0_2 : Nat} {m0_3 : Nat} {a1 : Int} {a2 : (List Int)} {v2 : Value} {r : (List T_tag_Entry) × Int × T_tag_reader} {w : World} {h : Qj} {S : Nat → Prop} (hcs : (J1 (Jo pb0 [Jv a0.s_, .bool a0.big_, .slice p0_2.1 n0_2 p0_2.2, .map (some m0_3), .int .i64 a0.dirs_, (Qo a0.found_), .int .i64 a0.no_] 195) (J1 (Qa 56 2 (.slice p0_2.1 n0_2 p0_2.2) n0_2 (a0.parts_.map Jj)) (Q1 (fun x_ : Int => .int .i64 x_) (fun x_ : Bool => .bool x_) m0_3 a0.seen_))).P S w) (hlt : ∀ b, S b → b < w.heap.size) (hw : Know h w S) (hn0_2 : n0_2 = a0.parts_.length) (f2 : FrS h 1 v2 (a2.map Xc)) (H : V8 a0 a1 a2 = some r) : Does Tryz.prog 128 (List.toArray [.pointer (some ⟨pb0, 0, none⟩), .int .i64 a1, v2]) w (fun v w' => ∃ x : (Option Addr × Nat) × (Option Addr × Nat) × Nat, v = (.tuple #[.slice x.1.1 r.1.length x.1.2, .int .i64 r.2.1]) ∧ Turn w w' S (J1 (Jo pb0 [Jv r.2.2.s_, .bool r.2.2.big_, .slice x.2.1.1 r.2.2.parts_.length x.2.1.2, .map (some x.2.2), .int .i64 r.2.2.dirs_, (Qo r.2.2.found_), .int .i64 r.2.2.no_] 195) (J1 (Qa 56 2 (.slice x.2.1.1 r.2.2.parts_.length x.2.1.2) r.2.2.parts_.length (r.2.2.parts_.map Jj)) (J1 (Q1 (fun x_ : Int => .int .i64 x_) (fun x_ : Bool => .bool x_) x.2.2 r.2.2.seen_) (W3 83 6 g_tag_Entry (.slice x.1.1 r.1.length x.1.2) r.1.length r.1))))) := by
 obtain ⟨mm, hm⟩ := fix_it (show Z3 (fun (self : (T_tag_reader × Int × (List Int)) → Option ((List T_tag_Entry) × Int × T_tag_reader)) (s : T_tag_reader × Int × (List Int)) => Qh self s.1 s.2.1 s.2.2) (a0, a1, a2) = some r from H)
 exact k128_it mm hcs hlt hw hn0_2 f2 hm
theorem k129_130 {a0 : (List T_tag_Span)} {p0 : Option Addr × Nat} {n0 : Nat} {r : (List T_tag_Span)} {w : World} {h : Qj} {S : Nat → Prop} (hcs : (Qa 56 2 (.slice p0.1 n0 p0.2) n0 (a0.map Jj)).P S w) (hlt : ∀ b, S b → b < w.heap.size) (_ : Know h w S) (hn0 : n0 = a0.length) (H : gSortF a0 Qm = some r) : Does Tryz.prog 129 (List.toArray [.slice p0.1 n0 p0.2, .func (.func 130) #[] #[]]) w (fun v w' => ∃ x : Unit, v = (.tuple #[]) ∧ Turn w w' S (Qa 56 2 (.slice p0.1 n0 p0.2) n0 (r.map Jj))) :=
  sort_func (ρ := Go.Proofs.Tryz.sortFP_ren) Go.Proofs.Tryz.sortFP (k := 2) (fun w => Tryz.isAgg56 w) (fun w => Tryz.sizeOf56 w) Jj (fun _ => rfl) (fun x v hv => by simp [Jj] at hv; rcases hv with rfl | rfl <;> rfl) Go.Proofs.Tryz.entersP (fun x y v W hv => Go.Proofs.Tryz.cmpP x y v W hv) hcs hlt hn0 H
theorem k129_135 {a0 : (List T_tag_Span)} {p0 : Option Addr × Nat} {n0 : Nat} {Rq : Type} {kq : (List T_tag_Span) → Option Rq} {r : Rq} {w : World} {h : Qj} {S : Nat → Prop} (hcs : (Qa 56 2 (.slice p0.1 n0 p0.2) n0 (a0.map Jj)).P S w) (hlt : ∀ b, S b → b < w.heap.size) (_ : Know h w S) (hn0 : n0 = a0.length) (H : gSortA a0 Za kq = some r) : Does Tryz.prog 129 (List.toArray [.slice p0.1 n0 p0.2, .func (.func 135) #[] #[]]) w (fun v w' => ∃ (r_ : _) (x : Unit), kq r_ = some r ∧ v = (.tuple #[]) ∧ Turn w w' S (Qa 56 2 (.slice p0.1 n0 p0.2) n0 (r_.map Jj))) :=
  sort_funcA (ρ := Go.Proofs.Tryz.sortFP_ren) Go.Proofs.Tryz.sortFP (k := 2) (fun w => Tryz.isAgg56 w) (fun w => Tryz.sizeOf56 w) Jj (fun _ => rfl) (fun x v hv => by simp [Jj] at hv; rcases hv with rfl | rfl <;> rfl) Go.Proofs.Tryz.entersA (fun x y v W hv => Go.Proofs.Tryz.cmpA x y v W hv) hcs hlt hn0 H
theorem k131 {a0 : (List T_tag_Span)} {v0 : Value} {r : Bool} {w : World} {h : Qj} (hw : Know h w Vi) (f0 : FrS h 2 v0 (a0.map Jj)) (H : tag_overlap a0 = some r) : Does Tryz.prog 131 (List.toArray [v0]) w (fun v w' => v = (.bool r) ∧ Grow w w') := by
 refine enter (n := 22) Tryz.func131 rfl rfl rfl Vi [] (Sat.nil _ _) ?_
 refine Jf ?_
 refine Jb ?_
 refine Ja rfl rfl rfl (Jc (v := .bool false) rfl) ?_
 refine Jg ?_
 refine Jf ?_
 refine Jf ?_
 refine Jb ?_
 refine Ja rfl rfl rfl (Jc (v := .int .i64 1) rfl) ?_
 refine Jg ?_
 refine J8 ?_
 refine Z2 (σ := Int) (τ := Unit) (fun next1 s => Y8 a0 next1 s) (fun s t => [(0, v0), (3, .int .i64 s)]) (fun s t => []) (fun s t => True) 1 () [] H (by exact trivial) (by exact ⟨rfl, rfl, trivial⟩) (by decide) rfl ?_
 rintro x3_2 _ m1 gg H10 _
 clear H
 replace H10 : Y8 a0 (it (fun next1 s => Y8 a0 next1 s) m1) x3_2 = some r := H10
 generalize hn1 : it (fun next1 s => Y8 a0 next1 s) m1 = next1 at H10
 try dsimp only
 refine Jf ?_
 refine Jf ?_
 refine Jb ?_
 refine Ja rfl rfl rfl (Je (v := .int .i64 x3_2) rfl) ?_
 refine Ja rfl rfl rfl (Je (v := v0) rfl) ?_
 refine Ja rfl rfl rfl (Vs Tryz.underlying48 rfl f0 rfl) ?_
 refine Ja rfl rfl rfl (Zc rfl rfl) ?_
 refine Jg ?_
 refine Qd (b := (decide (x3_2 < (a0.length : Int)))) rfl (fun hb => ?_) (fun hb => ?_)
 ·have H11 := Jp hb H10; clear H10
  refine Jt ?_
  refine Jf ?_
  refine J8 ?_
  refine Jf ?_
  exact Xp (Kd.p :: Kd.p :: Kd.p :: Kd.p :: Kd.d [] _ :: Kd.p :: Kd.p :: Kd.p :: Kd.p :: Kd.p :: Kd.d [] _ :: Kd.p :: []) 0 mixed (by
   refine Jm rfl rfl (Je (v := v0) rfl) ?_
   refine Jm rfl rfl (Je (v := .int .i64 x3_2) rfl) ?_
   have h_t12 := Qg H11
   have H12 := J6 H11
   refine Jm rfl rfl (X5 Tryz.underlying48 Tryz.sizeOf56 rfl rfl f0 h_t12) ?_
   refine Jm rfl rfl (r_fieldP Tryz.runUnderlying56 rfl Tryz.sizeOf3 rfl rfl (some_of_at f0 h_t12)) ?_
   refine d_read (fun w hF => X4 (f := Jj) (i := x3_2) (sz := 2) (j := 0) (v := .int .i64 (val (Y6 a0 x3_2)).From) Tryz.isAgg3 rfl rfl (f0.row (hw.now hF)) h_t12 rfl) rfl rfl ?_
   refine Jm rfl rfl (Je (v := v0) rfl) ?_
   refine Jm rfl rfl (Je (v := .int .i64 x3_2) rfl) ?_
   have h_t17 := Qg H12
   have H13 := J6 H12
   refine Jm rfl rfl (Wv rfl rfl h_t17) ?_
   have h_t18 := Qg H13
   have H14 := J6 H13
   refine Jm rfl rfl (X5 Tryz.underlying48 Tryz.sizeOf56 rfl rfl f0 h_t18) ?_
   refine Jm rfl rfl (r_fieldP Tryz.runUnderlying56 rfl Tryz.sizeOf3 rfl rfl (some_of_at f0 h_t18)) ?_
   refine d_read (fun w hF => X4 (f := Jj) (i := (val (gI (x3_2 - 1)))) (sz := 2) (j := 1) (v := .int .i64 (val (Y6 a0 (val (gI (x3_2 - 1))))).To) Tryz.isAgg3 rfl rfl (f0.row (hw.now hF)) h_t18 rfl) rfl rfl ?_
   refine Jm rfl rfl (Zc rfl rfl) ?_
   refine Zh ?_
   refine Qd (b := (decide ((val (Y6 a0 x3_2)).From < (val (Y6 a0 (val (gI (x3_2 - 1))))).To))) rfl (fun hb => ?_) (fun hb => ?_)
   ·have H15 := Jp hb H14; clear H14
    refine Jf ?_
    refine Jb ?_
    refine Ja rfl rfl rfl (Jc (v := .bool true) rfl) ?_
    refine Jg ?_
    refine Jx ?_
    obtain rfl := Option.some.inj H15
    refine Qn (v := .bool true) rfl rfl (Yh rfl)
   ·have H16 := Jq hb H14; clear H14
    refine Jt ?_
    refine Jb ?_
    refine Ja rfl rfl rfl (Je (v := .int .i64 x3_2) rfl) ?_
    obtain ⟨t9, h_t9, H17⟩ := Jh H16; clear H16
    refine Ja rfl rfl rfl (Qe rfl rfl h_t9) ?_
    refine Ja rfl rfl rfl (Jc (v := .int .i64 t9) rfl) ?_
    refine Jg ?_
    refine Jn t9 () m1 [] (by exact ⟨rfl, rfl, trivial⟩) (by decide) (by kernel_rfl) (by exact ⟨(by subst hn1; exact H17), trivial⟩) (Nat.lt_succ_self _)
   ) (by kernel_rfl)
 ·have H18 := Jq hb H10; clear H10
  refine X3 ?_
  refine Jf ?_
  refine Jb ?_
  refine Ja rfl rfl rfl (Jc (v := .bool false) rfl) ?_
  refine Jg ?_
  refine Jx ?_
  obtain rfl := Option.some.inj H18
  refine Qn (v := .bool false) rfl rfl (Yh rfl)
theorem k63 {a0 : (List UInt8)} {a1 : Nat} {r : T_tag_File × (List T_tag_Span) × Int} {w : World} {h : Qj} (hw : Know h w Vi) (H : Jai a0 a1 = some r) : Does Tryz.prog 63 (List.toArray [Jv a0, (Qo a1)]) w (fun v w' => ∃ x : (Option Addr × Nat) × (Option Addr × Nat), v = (.tuple #[.agg #[.bool r.1.Big, .slice x.1.1 r.1.Dirs.length x.1.2], .slice x.2.1 r.2.1.length x.2.2, .int .i64 r.2.2]) ∧ Turn w w' Vi (J1 (W3 36 1 gs_tag_Entry (.slice x.1.1 r.1.Dirs.length x.1.2) r.1.Dirs.length r.1.Dirs) (Qa 56 2 (.slice x.2.1 r.2.1.length x.2.2) r.2.1.length (r.2.1.map Jj)))) := by
 refine enter (n := 113) Tryz.func63 rfl rfl rfl Vi [] (Sat.nil _ _) ?_
 refine Zs X6 ?_
 refine Jf ?_
 refine Jb ?_
 refine Yo (cs := [.bool false, .slice none 0 0]) Tryz.zeroValue24 rfl rfl rfl (fun b6 => ?_)
 refine Ja rfl rfl rfl (Jc (v := .slice none 0 0) rfl) ?_
 refine Ja rfl rfl rfl (Jc (v := .int .i64 0) rfl) ?_
 refine Jg ?_
 refine Jf ?_
 refine Jf ?_
 refine Jb ?_
 refine Ja rfl rfl rfl (Je (v := Jv a0) rfl) ?_
 refine Ja rfl rfl rfl (Z0 Tryz.underlying9 rfl) ?_
 refine Ja rfl rfl rfl (Zm rfl rfl) ?_
 refine Jg ?_
 refine Qd (b := (decide (65000 < (a0.length : Int)))) rfl (fun hb => ?_) (fun hb => ?_)
 ·have H30 := Jp hb H; clear H
  refine Jf ?_
  refine Jb ?_
  refine Ja rfl rfl rfl (Yi (pl := #[(0, 1), (1, 1)]) (ps := []) (cells := #[.bool false, .slice none 0 0]) Tryz.zeroValue24 Tryz.runUnderlying24 (fun w => by kernel_rfl) rfl rfl) ?_
  refine Qc (i := 1) (vs := [.bool false, .slice none 0 0]) (cs' := [.bool false, .slice none 0 0]) Tryz.sizeOf24 rfl rfl rfl rfl rfl rfl rfl rfl rfl ?_
  refine Ja rfl rfl rfl (Jc (v := .slice none 0 0) rfl) ?_
  refine Ja rfl rfl rfl (Jc (v := .int .i64 4) rfl) ?_
  refine Jg ?_
  refine Jx ?_
  refine J0 36 1 ?_
  refine J0 56 2 ?_
  obtain rfl := Option.some.inj H30
  refine Jl 0 2 rfl rfl (by decide) ?_
  refine Y0 0 rfl (Xn (p := ((none, 0) : Option Addr × Nat)) rfl (AllC.nil (G := gs_tag_Entry) (h := X6) (sz := 1))) ?_
  refine Jl 0 3 rfl rfl (by decide) ?_
  refine retCtt (i := 1) (vs := [.bool false, .slice ((none, 0) : Option Addr × Nat).1 (([] : List (List Value)).length) ((none, 0) : Option Addr × Nat).2]) (v2 := .slice ((none, 0) : Option Addr × Nat).1 ([] : List T_tag_Span).length ((none, 0) : Option Addr × Nat).2) (v3 := .int .i64 4) Tryz.isAgg24 Tryz.sizeOf24 rfl rfl rfl rfl rfl rfl (V6 (((none, 0) : Option Addr × Nat), ((none, 0) : Option Addr × Nat)) (i := 0) rfl (by first | rfl | rw [(show (([] : List (List Value)).length) = ([] : List (List T_tag_Entry)).length from (AllC.nil (G := gs_tag_Entry) (h := X6) (sz := 1)).len)]) (by first | exact Imp.refl _ | exact Imp.of (by rw [(show (([] : List (List Value)).length) = ([] : List (List T_tag_Entry)).length from (AllC.nil (G := gs_tag_Entry) (h := X6) (sz := 1)).len)] <;> rfl)))
 ·have H31 := Jq hb H; clear H
  refine Jt ?_
  refine Jf ?_
  refine Jf ?_
  refine Jb ?_
  refine Ja rfl rfl rfl (Je (v := Jv a0) rfl) ?_
  obtain ⟨t17, h_t17, H32⟩ := Jh H31; clear H31
  refine Wb (k126 h_t17) Tryz.call126 rfl rfl rfl ?_
  refine Ja rfl rfl rfl (r_not rfl) ?_
  refine Jg ?_
  refine Qd (b := (!t17)) rfl (fun hb => ?_) (fun hb => ?_)
  ·have H33 := Jp hb H32; clear H32
   refine Jf ?_
   refine Jb ?_
   refine Ja rfl rfl rfl (Yi (pl := #[(0, 1), (1, 1)]) (ps := []) (cells := #[.bool false, .slice none 0 0]) Tryz.zeroValue24 Tryz.runUnderlying24 (fun w => by kernel_rfl) rfl rfl) ?_
   refine Qc (i := 1) (vs := [.bool false, .slice none 0 0]) (cs' := [.bool false, .slice none 0 0]) Tryz.sizeOf24 rfl rfl rfl rfl rfl rfl rfl rfl rfl ?_
   refine Ja rfl rfl rfl (Jc (v := .slice none 0 0) rfl) ?_
   refine Ja rfl rfl rfl (Jc (v := .int .i64 8) rfl) ?_
   refine Jg ?_
   refine Jx ?_
   refine J0 36 1 ?_
   refine J0 56 2 ?_
   obtain rfl := Option.some.inj H33
   refine Jl 0 2 rfl rfl (by decide) ?_
   refine Y0 0 rfl (Xn (p := ((none, 0) : Option Addr × Nat)) rfl (AllC.nil (G := gs_tag_Entry) (h := X6) (sz := 1))) ?_
   refine Jl 0 3 rfl rfl (by decide) ?_
   refine retCtt (i := 1) (vs := [.bool false, .slice ((none, 0) : Option Addr × Nat).1 (([] : List (List Value)).length) ((none, 0) : Option Addr × Nat).2]) (v2 := .slice ((none, 0) : Option Addr × Nat).1 ([] : List T_tag_Span).length ((none, 0) : Option Addr × Nat).2) (v3 := .int .i64 8) Tryz.isAgg24 Tryz.sizeOf24 rfl rfl rfl rfl rfl rfl (V6 (((none, 0) : Option Addr × Nat), ((none, 0) : Option Addr × Nat)) (i := 0) rfl (by first | rfl | rw [(show (([] : List (List Value)).length) = ([] : List (List T_tag_Entry)).length from (AllC.nil (G := gs_tag_Entry) (h := X6) (sz := 1)).len)]) (by first | exact Imp.refl _ | exact Imp.of (by rw [(show (([] : List (List Value)).length) = ([] : List (List T_tag_Entry)).length from (AllC.nil (G := gs_tag_Entry) (h := X6) (sz := 1)).len)] <;> rfl)))
  ·have H34 := Jq hb H32; clear H32
   refine Jt ?_
   refine Jf ?_
   refine Jb ?_
   refine Ja rfl rfl rfl (Je (v := Jv a0) rfl) ?_
   refine Ja rfl rfl rfl (Je (v := Jv a0) rfl) ?_
   obtain ⟨t22, h_t22, H35⟩ := Jh H34; clear H34
   refine Ja rfl rfl rfl (r_octG Tryz.underlying9 rfl rfl h_t22) ?_
   refine Ja rfl rfl rfl (Q0 rfl rfl) ?_
   refine l_make (rds := []) (makes_map (fk := (fun x_ : Int => .int .i64 x_)) (fv := (fun x_ : Bool => .bool x_))) rfl rfl rfl (fun b7 => ?_)
   refine Ja rfl rfl rfl (Je (v := (Qo a1)) rfl) ?_
   refine Ja rfl rfl rfl (Yi (pl := #[(0, 1), (1, 1), (2, 1), (3, 1), (4, 1), (5, 1), (6, 1)]) (ps := [(0, Jv a0), (1, .bool (decide (t22 = 77))), (3, .map (some b7)), (5, (Qo a1))]) (cells := #[Jv a0, .bool (decide (t22 = 77)), .slice none 0 0, .map (some b7), .int .i64 0, (Qo a1), .int .i64 0]) Tryz.zeroValue195 Tryz.runUnderlying195 (fun w => by kernel_rfl) rfl (by generalize (a1 : Nat) = fz0_; rcases fz0_ with _ | _ | _ <;> rfl)) ?_
   refine U4 (cs := [Jv a0, .bool (decide (t22 = 77)), .slice none 0 0, .map (some b7), .int .i64 0, (Qo a1), .int .i64 0]) rfl rfl rfl rfl (fun b8 => ?_)
   refine Ja rfl rfl rfl (Jc (v := .pointer (some ⟨b8, 0, none⟩)) rfl) ?_
   refine Jg ?_
   refine Jf ?_
   try dsimp only [z1, z2, z5, z6, z7, z8]
   refine Jb ?_
   refine Ja rfl rfl rfl (Je (v := .pointer (some ⟨b8, 0, none⟩)) rfl) ?_
   refine Ja rfl rfl rfl (Ju rfl) ?_
   refine Ja rfl rfl rfl (Jk Tryz.runUnderlying195 rfl Tryz.sizeOf4 rfl rfl) ?_
   refine Js (i := 3) (v := .bool (decide (t22 = 77))) Tryz.isAgg4 rfl rfl rfl rfl rfl ?_
   refine Ja rfl rfl rfl (Yi (pl := #[(0, 1), (1, 1)]) (ps := [(0, .bool (decide (t22 = 77)))]) (cells := #[.bool (decide (t22 = 77)), .slice none 0 0]) Tryz.zeroValue24 Tryz.runUnderlying24 (fun w => by kernel_rfl) rfl rfl) ?_
   refine Yo (cs := [.bool false, .slice none 0 0]) Tryz.zeroValue24 rfl rfl rfl (fun b9 => ?_)
   refine Qc (i := 4) (vs := [.bool (decide (t22 = 77)), .slice none 0 0]) (cs' := [.bool (decide (t22 = 77)), .slice none 0 0]) Tryz.sizeOf24 rfl rfl rfl rfl rfl rfl rfl rfl rfl ?_
   refine Jg ?_
   refine Qz (r := r) (σ := (List UInt8) × Bool × Int × Nat × Int × (List T_tag_Span) × (List (List T_tag_Entry)) × (List (Int × Bool))) (τ := (Option Addr × Nat) × (Option Addr × Nat) × Nat) (fun s => Vz t22 s.1 s.2.1 s.2.2.1 s.2.2.2.1 s.2.2.2.2.1 s.2.2.2.2.2.1 s.2.2.2.2.2.2.1 s.2.2.2.2.2.2.2) (fun s t => [(4, .pointer (some ⟨b6, 0, none⟩)), (7, .pointer (some ⟨b8, 0, none⟩)), (8, .pointer (some ⟨b9, 0, none⟩))]) (fun s t => [Yv X6 X6, Jo b6 [.bool false, .slice none 0 0] 24, Q1 (fun x_ : Int => .int .i64 x_) (fun x_ : Bool => .bool x_) t.2.2 s.2.2.2.2.2.2.2, Jo b8 [Jv s.1, .bool s.2.1, .slice t.1.1 s.2.2.2.2.2.1.length t.1.2, .map (some t.2.2), .int .i64 s.2.2.1, (Qo s.2.2.2.1), .int .i64 s.2.2.2.2.1] 195, Jo b9 [.bool (decide (t22 = 77)), .slice t.2.1.1 s.2.2.2.2.2.2.1.length t.2.1.2] 24, Qa 56 2 (.slice t.1.1 s.2.2.2.2.2.1.length t.1.2) s.2.2.2.2.2.1.length (s.2.2.2.2.2.1.map Jj), W3 36 1 gs_tag_Entry (.slice t.2.1.1 s.2.2.2.2.2.2.1.length t.2.1.2) s.2.2.2.2.2.2.1.length s.2.2.2.2.2.2.1]) (fun s t => True) ?_ ?_
   ·refine Jf ?_
    refine Jb ?_
    refine Ja rfl rfl rfl (Je (v := .pointer (some ⟨b8, 0, none⟩)) rfl) ?_
    obtain ⟨t34, h_t34, H50⟩ := Jh H35; clear H35
    refine Qw (fun w hF hS => k127 (a0 := (⟨a0, (decide (t22 = 77)), ([] : (List T_tag_Span)), ([] : (List (Int × Bool))), 0, a1, 0⟩ : T_tag_reader)) (J7 w) (FrS.nil _ _) (Xz (fk := (fun x_ : Int => .int .i64 x_)) (fv := (fun x_ : Bool => .bool x_)) (i := 2) hS rfl) (Xb (i := 3) hS rfl) h_t34) Tryz.call127 rfl rfl rfl ?_
    refine Ja rfl rfl rfl (Jc (v := .int .i64 t34) rfl) ?_
    refine Jg ?_
    refine J8 ?_
    refine J0 56 2 ?_
    refine J0 36 1 ?_
    refine Zs X6 ?_
    try dsimp only [z1, z2, z5, z6, z7, z8]
    refine Jl 7 6 rfl rfl (by decide) ?_
    try dsimp only [z1, z2, z5, z6, z7, z8]
    refine Y0 7 rfl (imp_rowDx (css := []) (xs := ([] : List (List T_tag_Entry))) (p := ((none, 0) : Option Addr × Nat)) rfl (AllC.nil (G := gs_tag_Entry) (h := X6) (sz := 1))) ?_
    refine Z2 (σ := Int × (List UInt8) × Bool × Int × Nat × Int × (List T_tag_Span) × (List (List T_tag_Entry)) × (List (Int × Bool))) (τ := (Option Addr × Nat) × (Option Addr × Nat) × Nat) (fun next4 s => V2 t22 next4 s.1 s.2.1 s.2.2.1 s.2.2.2.1 s.2.2.2.2.1 s.2.2.2.2.2.1 s.2.2.2.2.2.2.1 s.2.2.2.2.2.2.2.1 s.2.2.2.2.2.2.2.2) (fun s t => [(4, .pointer (some ⟨b6, 0, none⟩)), (7, .pointer (some ⟨b8, 0, none⟩)), (8, .pointer (some ⟨b9, 0, none⟩)), (9, .int .i64 s.1)]) (fun s t => [Yv X6 X6, Jo b6 [.bool false, .slice none 0 0] 24, Q1 (fun x_ : Int => .int .i64 x_) (fun x_ : Bool => .bool x_) t.2.2 s.2.2.2.2.2.2.2.2, Jo b8 [Jv s.2.1, .bool s.2.2.1, .slice t.1.1 s.2.2.2.2.2.2.1.length t.1.2, .map (some t.2.2), .int .i64 s.2.2.2.1, (Qo s.2.2.2.2.1), .int .i64 s.2.2.2.2.2.1] 195, Jo b9 [.bool (decide (t22 = 77)), .slice t.2.1.1 s.2.2.2.2.2.2.2.1.length t.2.1.2] 24, Qa 56 2 (.slice t.1.1 s.2.2.2.2.2.2.1.length t.1.2) s.2.2.2.2.2.2.1.length (s.2.2.2.2.2.2.1.map Jj), W3 36 1 gs_tag_Entry (.slice t.2.1.1 s.2.2.2.2.2.2.2.1.length t.2.1.2) s.2.2.2.2.2.2.2.1.length s.2.2.2.2.2.2.2.1]) (fun s t => True) (t34, a0, (decide (t22 = 77)), 0, a1, 0, ([] : List T_tag_Span), ([] : List (List T_tag_Entry)), ([] : (List (Int × Bool)))) (((none, 0) : Option Addr × Nat), ((none, 0) : Option Addr × Nat), b7) [0, 1, 2, 3, 4, 5, 7] H50 (by exact trivial) (by exact ⟨rfl, rfl, rfl, rfl, trivial⟩) (by decide) rfl ?_
    rintro ⟨x9_2, m_13, m_14, m_15, m_16, m_17, l_5, l_6, mp_3⟩ ⟨p_3, p_4, b_2⟩ m4 gg H51 _
    clear H50
    replace H51 : V2 t22 (it (fun next4 s => V2 t22 next4 s.1 s.2.1 s.2.2.1 s.2.2.2.1 s.2.2.2.2.1 s.2.2.2.2.2.1 s.2.2.2.2.2.2.1 s.2.2.2.2.2.2.2.1 s.2.2.2.2.2.2.2.2) m4) x9_2 m_13 m_14 m_15 m_16 m_17 l_5 l_6 mp_3 = some r := H51
    generalize hn4 : it (fun next4 s => V2 t22 next4 s.1 s.2.1 s.2.2.1 s.2.2.2.1 s.2.2.2.2.1 s.2.2.2.2.2.1 s.2.2.2.2.2.2.1 s.2.2.2.2.2.2.2.1 s.2.2.2.2.2.2.2.2) m4 = next4 at H51
    try dsimp only
    refine Jf ?_
    refine Jf ?_
    try dsimp only [z1, z2, z5, z6, z7, z8]
    refine Jb ?_
    refine Ja rfl rfl rfl (Je (v := .int .i64 x9_2) rfl) ?_
    refine Ja rfl rfl rfl (Va rfl rfl) ?_
    refine Ja rfl rfl rfl (Je (v := .bool (decide (x9_2 ≠ 0))) rfl) ?_
    refine split (fun hb => ?_) (fun hb => ?_)
    ·have H52 := Jp hb H51; clear H51
     refine Ja rfl rfl rfl (Je (v := .pointer (some ⟨b8, 0, none⟩)) rfl) ?_
     refine Ja rfl rfl rfl (Ju rfl) ?_
     refine Ja rfl rfl rfl (Jk Tryz.runUnderlying195 rfl Tryz.sizeOf28 rfl rfl) ?_
     refine Js (i := 3) (v := .int .i64 m_17) Tryz.isAgg28 rfl rfl rfl rfl rfl ?_
     refine Ja rfl rfl rfl (Q0 rfl rfl) ?_
     refine Ja rfl rfl rfl (J9 (v := .bool (decide (m_17 = 0))) rfl rfl) ?_
     refine Jg ?_
     refine Qd (b := (decide (m_17 = 0))) rfl (fun hb => ?_) (fun hb => ?_)
     ·have H53 := Jp hb H52; clear H52
      refine Jt ?_
      refine J8 ?_
      refine Jf ?_
      refine Jb ?_
      refine Ja rfl rfl rfl (Je (v := .pointer (some ⟨b8, 0, none⟩)) rfl) ?_
      refine Ja rfl rfl rfl (Ju rfl) ?_
      refine Ja rfl rfl rfl (Jk Tryz.runUnderlying195 rfl Tryz.sizeOf3 rfl rfl) ?_
      refine Js (i := 3) (v := .int .i64 m_15) Tryz.isAgg3 rfl rfl rfl rfl rfl ?_
      obtain ⟨t48, h_t48, H54⟩ := Jh H53; clear H53
      refine Ja rfl rfl rfl (Qe rfl rfl h_t48) ?_
      refine Ja rfl rfl rfl (Ju rfl) ?_
      refine Ja rfl rfl rfl (Jk Tryz.runUnderlying195 rfl Tryz.sizeOf3 rfl rfl) ?_
      refine Qc (i := 3) (vs := [.int .i64 t48]) (cs' := [Jv m_13, .bool m_14, .slice p_3.1 l_5.length p_3.2, .map (some b_2), .int .i64 t48, (Qo m_16), .int .i64 m_17]) Tryz.sizeOf3 rfl rfl rfl rfl rfl rfl rfl rfl rfl ?_
      refine Jg ?_
      refine Jf ?_
      refine Jb ?_
      refine Ja rfl rfl rfl (Je (v := .pointer (some ⟨b8, 0, none⟩)) rfl) ?_
      refine Ja rfl rfl rfl (Je (v := .int .i64 x9_2) rfl) ?_
      refine Ja rfl rfl rfl (Jk Tryz.runUnderlying24 rfl Tryz.sizeOf22 rfl rfl) ?_
      refine Js (i := 4) (v := .slice p_4.1 l_6.length p_4.2) Tryz.isAgg22 rfl rfl rfl rfl rfl ?_
      refine Ja rfl rfl rfl (r_len Tryz.underlying22 rfl) ?_
      refine Q9 (vs := [.int .i64 (l_6.length : Int)]) (cs := [.int .i64 (l_6.length : Int)]) Tryz.underlying30 Tryz.sizeOf3 Tryz.zeroValue3 rfl rfl rfl rfl rfl rfl rfl (fun b10 => ?_)
      obtain ⟨t58, h_t58, H55⟩ := Jh H54; clear H54
      refine Jl 5 2 rfl rfl (by decide) ?_
      refine Jl 3 5 rfl rfl (by decide) ?_
      refine Xg (Ql (i := 3) (rds := [7]) (G := fun x : (Option Addr × Nat) × (Option Addr × Nat) × Nat => .tuple #[.slice x.1.1 t58.1.length x.1.2, .int .i64 t58.2.1]) (C := fun x : (Option Addr × Nat) × (Option Addr × Nat) × Nat => J1 (Jo b8 [Jv t58.2.2.s_, .bool t58.2.2.big_, .slice x.2.1.1 t58.2.2.parts_.length x.2.1.2, .map (some x.2.2), .int .i64 t58.2.2.dirs_, (Qo t58.2.2.found_), .int .i64 t58.2.2.no_] 195) (J1 (Qa 56 2 (.slice x.2.1.1 t58.2.2.parts_.length x.2.1.2) t58.2.2.parts_.length (t58.2.2.parts_.map Jj)) (J1 (Q1 (fun x_ : Int => .int .i64 x_) (fun x_ : Bool => .bool x_) x.2.2 t58.2.2.seen_) (W3 83 6 g_tag_Entry (.slice x.1.1 t58.1.length x.1.2) t58.1.length t58.1)))) rfl (fun w L' S hF hS hi hp hlt ho hA => k128 (a0 := (⟨m_13, m_14, l_5, mp_3, t48, m_16, m_17⟩ : T_tag_reader)) hp hlt (Xa w S) rfl (frb_box (j := 7) (xs := ([(l_6.length : Int)] : List Int)) (f := Xc) hA hS (by decide) ((hi 7 (by simp)).trans rfl) rfl rfl rfl rfl) h_t58) Tryz.call128 rfl) rfl rfl rfl (fun ⟨p_5, p_6, p_7⟩ => ?_)
      refine Qk 3 5 rfl rfl (by decide) ?_
      refine Qk 5 2 rfl rfl (by decide) ?_
      refine Q2 2 rfl ?_
      refine Ja rfl rfl rfl (Je (v := .tuple #[.slice p_5.1 t58.1.length p_5.2, .int .i64 t58.2.1]) rfl) ?_
      refine Ja rfl rfl rfl (Qs (v := .slice p_5.1 t58.1.length p_5.2) rfl rfl) ?_
      refine Ja rfl rfl rfl (Qs (v := .int .i64 t58.2.1) rfl rfl) ?_
      refine Ja rfl rfl rfl (Jc (v := .slice p_5.1 t58.1.length p_5.2) rfl) ?_
      refine Ja rfl rfl rfl (Jc (v := .int .i64 t58.2.1) rfl) ?_
      refine Jg ?_
      refine Jf ?_
      refine c_rowD 6 rfl (fun hp css hn pf => ?_)
      rw [hn]
      try dsimp only [z1, z2, z5, z6, z7, z8]
      refine Q2 6 rfl ?_
      try dsimp only [z1, z2, z5, z6, z7, z8]
      refine Wy 0 6 rfl rfl (by decide) (fun _ _ => W7) (fun hp_2 hle hle_2 => ?_)
      try dsimp only [z1, z2, z5, z6, z7, z8]
      refine Jb ?_
      refine Ja rfl rfl rfl (Jk Tryz.runUnderlying24 rfl Tryz.sizeOf22 rfl rfl) ?_
      refine Js (i := 4) (v := .slice p_4.1 css.length p_4.2) Tryz.isAgg22 rfl rfl rfl rfl rfl ?_
      refine Ja rfl rfl rfl (Je (v := .slice p_5.1 t58.1.length p_5.2) rfl) ?_
      refine Q9 (vs := [.slice p_5.1 t58.1.length p_5.2]) (cs := [.slice p_5.1 t58.1.length p_5.2]) Tryz.underlying22 Tryz.sizeOf36 Tryz.zeroValue36 rfl rfl rfl rfl rfl rfl rfl (fun b11 => ?_)
      refine c_rowD 8 rfl (fun hp_3 css_2 hn_2 pf_2 => ?_)
      rw [hn_2]
      try dsimp only [z1, z2, z5, z6, z7, z8]
      refine Q2 8 rfl ?_
      try dsimp only [z1, z2, z5, z6, z7, z8]
      refine Wy 0 8 rfl rfl (by decide) (fun _ _ => W7) (fun hp_4 hle_3 hle_4 => ?_)
      try dsimp only [z1, z2, z5, z6, z7, z8]
      refine Jaz (Φ := fun H_ => FrS H_ 6 (.slice p_5.1 css_2.length p_5.2) (css_2.map idC)) 0 11 rfl rfl (by decide) (fun _ _ => W7) (fz_own _) (fun hp_5 hle_5 hf => ?_)
      obtain ⟨l65, h_l65, H56⟩ := Jh H55; clear H55
      refine Xg (Ja6 (i := 9) (k := 10) (p := p_4) (f := idC) (ys := css) (ls := [[.slice p_5.1 css_2.length p_5.2]]) Tryz.underlying22 (Z1 Tryz.typeInfo36) rfl rfl rfl rfl rfl rfl rfl rfl rfl rfl rfl rfl rfl rfl (by simp only [idC, List.map_cons, List.map_nil, List.all_cons, List.all_nil, (frn_of (xs := t58.1) hf ((pf_2.mono hle_4).mono hle_5)).one] <;> rfl) (app63 ((((pf.mono hle_2).mono hle_3).mono hle_5).app h_l65 (nc := [[.slice p_5.1 css_2.length p_5.2]]) rfl)) rfl) rfl rfl rfl (fun p_8 => ?_)
      have pf_3 : AllC gs_tag_Entry hp_5 1 (css ++ [[Value.slice p_5.1 css_2.length p_5.2]]) l65 := AllC.snocG (((pf.mono hle_2).mono hle_3).mono hle_5) h_l65 rfl ((frn_of (xs := t58.1) hf ((pf_2.mono hle_4).mono hle_5)))
      refine Ja rfl rfl rfl (Jk Tryz.runUnderlying24 rfl Tryz.sizeOf22 rfl rfl) ?_
      refine Qc (i := 4) (vs := [.slice p_8.1 ((css ++ [[Value.slice p_5.1 css_2.length p_5.2]]).length) p_8.2]) (cs' := [.bool (decide (t22 = 77)), .slice p_8.1 ((css ++ [[Value.slice p_5.1 css_2.length p_5.2]]).length) p_8.2]) Tryz.sizeOf22 rfl rfl rfl rfl rfl rfl rfl rfl rfl ?_
      refine Jg ?_
      try dsimp only [z1, z2, z5, z6, z7, z8]
      refine Jl 0 9 rfl rfl (by decide) ?_
      try dsimp only [z1, z2, z5, z6, z7, z8]
      refine Y0 0 rfl (imp_rowDx (p := p_8) rfl pf_3) ?_
      (try rw [show ((css ++ [[Value.slice p_5.1 css_2.length p_5.2]]).length) = l65.length from pf_3.len])
      refine Zs X6 ?_
      refine c_sel [12, 1, 2, 3, 4, 5, 6, 7, 8, 0, 10, 11] [Yv X6 X6, Jo b6 [.bool false, .slice none 0 0] 24, Q1 (fun x_ : Int => .int .i64 x_) (fun x_ : Bool => .bool x_) p_7 t58.2.2.seen_, Jo b8 [Jv t58.2.2.s_, .bool t58.2.2.big_, .slice p_6.1 t58.2.2.parts_.length p_6.2, .map (some p_7), .int .i64 t58.2.2.dirs_, (Qo t58.2.2.found_), .int .i64 t58.2.2.no_] 195, Jo b9 [.bool (decide (t22 = 77)), .slice p_8.1 l65.length p_8.2] 24, Qa 56 2 (.slice p_6.1 t58.2.2.parts_.length p_6.2) t58.2.2.parts_.length (t58.2.2.parts_.map Jj), _, Jo b10 [.int .i64 (css.length : Int)] 3, _, W3 36 1 gs_tag_Entry (.slice p_8.1 l65.length p_8.2) l65.length l65, Jo b11 [.slice p_5.1 css_2.length p_5.2] 36, _] rfl (by decide) ?_
      try dsimp only [z1, z2, z5, z6, z7, z8]
      refine Jb ?_
      refine Ja rfl rfl rfl (Je (v := .int .i64 t58.2.1) rfl) ?_
      refine Ja rfl rfl rfl (Jc (v := .int .i64 t58.2.1) rfl) ?_
      refine Jg ?_
      refine Jn (t58.2.1, t58.2.2.s_, t58.2.2.big_, t58.2.2.dirs_, t58.2.2.found_, t58.2.2.no_, t58.2.2.parts_, l65, t58.2.2.seen_) (p_6, p_8, p_7) m4 [0, 1, 2, 3, 4, 5, 9] (by exact ⟨rfl, rfl, rfl, rfl, trivial⟩) (by decide) (by kernel_rfl) (by exact ⟨(by subst hn4; exact H56), trivial⟩) (Nat.lt_succ_self _)
     ·have H57 := Jq hb H52; clear H52
      refine X3 ?_
      refine Jn (m_13, m_14, m_15, m_16, m_17, l_5, l_6, mp_3) (p_3, p_4, b_2) 0 [0, 1, 2, 3, 4, 5, 6] (by exact ⟨rfl, rfl, rfl, trivial⟩) (by decide) (by kernel_rfl) (by exact ⟨H57, trivial⟩) (Nat.lt_succ_self _)
    ·have H58 := Jq hb H51; clear H51
     refine Ji rfl rfl rfl ?_
     refine Ji rfl rfl rfl ?_
     refine Ji rfl rfl rfl ?_
     refine Ji rfl rfl rfl ?_
     refine Ji rfl rfl rfl ?_
     refine Ja rfl rfl rfl (Qf (v := .bool false) rfl rfl) ?_
     refine Jg ?_
     refine Ug rfl ?_
     refine X3 ?_
     refine Jn (m_13, m_14, m_15, m_16, m_17, l_5, l_6, mp_3) (p_3, p_4, b_2) 0 [0, 1, 2, 3, 4, 5, 6] (by exact ⟨rfl, rfl, rfl, trivial⟩) (by decide) (by kernel_rfl) (by exact ⟨H58, trivial⟩) (Nat.lt_succ_self _)
   ·rintro ⟨m, m_2, m_3, m_4, m_5, l, l_2, mp⟩ ⟨p, p_2, b⟩ gg H36 _
    replace H36 : Vz t22 m m_2 m_3 m_4 m_5 l l_2 mp = some r := H36
    try dsimp only
    refine Jf ?_
    refine Jb ?_
    refine Ja rfl rfl rfl (Je (v := .pointer (some ⟨b8, 0, none⟩)) rfl) ?_
    refine Ja rfl rfl rfl (Ju rfl) ?_
    refine Ja rfl rfl rfl (Jk Tryz.runUnderlying195 rfl Tryz.sizeOf48 rfl rfl) ?_
    refine Js (i := 3) (v := .slice p.1 l.length p.2) Tryz.isAgg48 rfl rfl rfl rfl rfl ?_
    obtain ⟨t72, h_t72, H37⟩ := Jh H36; clear H36
    refine Xg (Ql (i := 5) (rds := []) (G := fun x : Unit => .tuple #[]) (C := fun x : Unit => Qa 56 2 (.slice p.1 l.length p.2) l.length (t72.map Jj)) rfl (fun w L' S hF hS hi hp hlt ho hA => k129_130 hp hlt (Xa w S) rfl h_t72) Tryz.call129 rfl) rfl rfl rfl (fun _ => ?_)
    refine c_know (fun w hF hS => lenOf (i := 5) hS rfl) (fun hl_ => ?_)
    have hl : l.length = t72.length := by simpa using hl_.symm
    refine Jg ?_
    refine Qz (r := r) (σ := Int) (τ := Unit) (fun s => Vh t22 l_2 t72 s) (fun s t => [(4, .pointer (some ⟨b6, 0, none⟩)), (7, .pointer (some ⟨b8, 0, none⟩)), (8, .pointer (some ⟨b9, 0, none⟩))]) (fun s t => [Yv X6 X6, Jo b6 [.bool false, .slice none 0 0] 24, Q1 (fun x_ : Int => .int .i64 x_) (fun x_ : Bool => .bool x_) b mp, Jo b8 [Jv m, .bool m_2, .slice p.1 l.length p.2, .map (some b), .int .i64 m_3, (Qo m_4), .int .i64 s] 195, Jo b9 [.bool (decide (t22 = 77)), .slice p_2.1 l_2.length p_2.2] 24, Qa 56 2 (.slice p.1 l.length p.2) l.length (t72.map Jj), W3 36 1 gs_tag_Entry (.slice p_2.1 l_2.length p_2.2) l_2.length l_2]) (fun s t => True) ?_ ?_
    ·refine Jf ?_
     refine Jb ?_
     refine Ja rfl rfl rfl (Je (v := .pointer (some ⟨b8, 0, none⟩)) rfl) ?_
     refine Ja rfl rfl rfl (Ju rfl) ?_
     refine Ja rfl rfl rfl (Jk Tryz.runUnderlying195 rfl Tryz.sizeOf28 rfl rfl) ?_
     refine Js (i := 3) (v := .int .i64 m_5) Tryz.isAgg28 rfl rfl rfl rfl rfl ?_
     refine Ja rfl rfl rfl (Q0 rfl rfl) ?_
     refine Ja rfl rfl rfl (Je (v := .bool (decide (m_5 = 0))) rfl) ?_
     refine split (fun hb => ?_) (fun hb => ?_)
     ·have H45 := Jp hb H37; clear H37
      refine Ja rfl rfl rfl (Je (v := .pointer (some ⟨b8, 0, none⟩)) rfl) ?_
      refine Ja rfl rfl rfl (Ju rfl) ?_
      refine Ja rfl rfl rfl (Jk Tryz.runUnderlying195 rfl Tryz.sizeOf48 rfl rfl) ?_
      refine Js (i := 3) (v := .slice p.1 l.length p.2) Tryz.isAgg48 rfl rfl rfl rfl rfl ?_
      obtain ⟨t83, h_t83, H46⟩ := Jh H45; clear H45
      refine Qw (fun w hF hS => k131 (J7 w) (Yn (i := 5) hl hS rfl) h_t83) Tryz.call131 rfl rfl rfl ?_
      refine Ja rfl rfl rfl (J9 (v := .bool t83) rfl rfl) ?_
      refine Jg ?_
      refine Qd (b := t83) rfl (fun hb => ?_) (fun hb => ?_)
      ·have H47 := Jp hb H46; clear H46
       refine Jb ?_
       refine Ja rfl rfl rfl (Je (v := .pointer (some ⟨b8, 0, none⟩)) rfl) ?_
       refine Ja rfl rfl rfl (Ju rfl) ?_
       refine Ja rfl rfl rfl (Jk Tryz.runUnderlying195 rfl Tryz.sizeOf28 rfl rfl) ?_
       refine Qc (i := 3) (vs := [.int .i64 6]) (cs' := [Jv m, .bool m_2, .slice p.1 l.length p.2, .map (some b), .int .i64 m_3, (Qo m_4), .int .i64 6]) Tryz.sizeOf28 rfl rfl rfl rfl rfl rfl rfl rfl rfl ?_
       refine Jg ?_
       refine Jn 6 () 0 [0, 1, 2, 3, 4, 5, 6] (by exact ⟨rfl, rfl, rfl, trivial⟩) (by decide) (by kernel_rfl) (by exact ⟨H47, trivial⟩) (Nat.lt_succ_self _)
      ·have H48 := Jq hb H46; clear H46
       refine Jt ?_
       refine Jn m_5 () 0 [0, 1, 2, 3, 4, 5, 6] (by exact ⟨rfl, rfl, rfl, trivial⟩) (by decide) (by kernel_rfl) (by exact ⟨H48, trivial⟩) (Nat.lt_succ_self _)
     ·have H49 := Jq hb H37; clear H37
      refine Ji rfl rfl rfl ?_
      refine Ji rfl rfl rfl ?_
      refine Ji rfl rfl rfl ?_
      refine Ji rfl rfl rfl ?_
      refine Ji rfl rfl rfl ?_
      refine Ja rfl rfl rfl (Qf (v := .bool false) rfl rfl) ?_
      refine Jg ?_
      refine Ug rfl ?_
      refine Jt ?_
      refine Jn m_5 () 0 [0, 1, 2, 3, 4, 5, 6] (by exact ⟨rfl, rfl, rfl, trivial⟩) (by decide) (by kernel_rfl) (by exact ⟨H49, trivial⟩) (Nat.lt_succ_self _)
    ·rintro m_6 _ gg H38 _
     replace H38 : Vh t22 l_2 t72 m_6 = some r := H38
     try dsimp only
     refine Qz (r := r) (σ := Int) (τ := Unit) (fun s => Vg t22 l_2 t72 s) (fun s t => [(4, .pointer (some ⟨b6, 0, none⟩)), (7, .pointer (some ⟨b8, 0, none⟩)), (8, .pointer (some ⟨b9, 0, none⟩))]) (fun s t => [Yv X6 X6, Jo b6 [.bool false, .slice none 0 0] 24, Q1 (fun x_ : Int => .int .i64 x_) (fun x_ : Bool => .bool x_) b mp, Jo b8 [Jv m, .bool m_2, .slice p.1 l.length p.2, .map (some b), .int .i64 m_3, (Qo m_4), .int .i64 s] 195, Jo b9 [.bool (decide (t22 = 77)), .slice p_2.1 l_2.length p_2.2] 24, Qa 56 2 (.slice p.1 l.length p.2) l.length (t72.map Jj), W3 36 1 gs_tag_Entry (.slice p_2.1 l_2.length p_2.2) l_2.length l_2]) (fun s t => True) ?_ ?_
     ·refine Jf ?_
      refine Jb ?_
      refine Ja rfl rfl rfl (Je (v := .pointer (some ⟨b8, 0, none⟩)) rfl) ?_
      refine Ja rfl rfl rfl (Ju rfl) ?_
      refine Ja rfl rfl rfl (Jk Tryz.runUnderlying195 rfl Tryz.sizeOf28 rfl rfl) ?_
      refine Js (i := 3) (v := .int .i64 m_6) Tryz.isAgg28 rfl rfl rfl rfl rfl ?_
      refine Ja rfl rfl rfl (Q0 rfl rfl) ?_
      refine Jg ?_
      refine Qd (b := (decide (m_6 = 0))) rfl (fun hb => ?_) (fun hb => ?_)
      ·have H42 := Jp hb H38; clear H38
       refine Jb ?_
       refine Ja rfl rfl rfl (Je (v := .pointer (some ⟨b8, 0, none⟩)) rfl) ?_
       refine Xr (i := 4) (vs := [.bool (decide (t22 = 77)), .slice p_2.1 l_2.length p_2.2]) Tryz.isAgg24 Tryz.sizeOf24 rfl rfl rfl rfl rfl ?_
       obtain ⟨t95, h_t95, H43⟩ := Jh H42; clear H42
       refine Qw (fun w hF hS => k37 (J7 w) (frn_rowD (i := 6) hS rfl) h_t95) Tryz.call37 rfl rfl rfl ?_
       refine Ja rfl rfl rfl (Ju rfl) ?_
       refine Ja rfl rfl rfl (Jk Tryz.runUnderlying195 rfl Tryz.sizeOf28 rfl rfl) ?_
       refine Qc (i := 3) (vs := [.int .i64 t95]) (cs' := [Jv m, .bool m_2, .slice p.1 l.length p.2, .map (some b), .int .i64 m_3, (Qo m_4), .int .i64 t95]) Tryz.sizeOf28 rfl rfl rfl rfl rfl rfl rfl rfl rfl ?_
       refine Jg ?_
       refine Jn t95 () 0 [0, 1, 2, 3, 4, 5, 6] (by exact ⟨rfl, rfl, rfl, trivial⟩) (by decide) (by kernel_rfl) (by exact ⟨H43, trivial⟩) (Nat.lt_succ_self _)
      ·have H44 := Jq hb H38; clear H38
       refine Jt ?_
       refine Jn m_6 () 0 [0, 1, 2, 3, 4, 5, 6] (by exact ⟨rfl, rfl, rfl, trivial⟩) (by decide) (by kernel_rfl) (by exact ⟨H44, trivial⟩) (Nat.lt_succ_self _)
     ·rintro m_7 _ gg H39 _
      replace H39 : Vg t22 l_2 t72 m_7 = some r := H39
      try dsimp only
      refine Jf ?_
      refine Jf ?_
      refine Jb ?_
      refine Ja rfl rfl rfl (Je (v := .pointer (some ⟨b8, 0, none⟩)) rfl) ?_
      refine Ja rfl rfl rfl (Ju rfl) ?_
      refine Ja rfl rfl rfl (Jk Tryz.runUnderlying195 rfl Tryz.sizeOf28 rfl rfl) ?_
      refine Js (i := 3) (v := .int .i64 m_7) Tryz.isAgg28 rfl rfl rfl rfl rfl ?_
      refine Ja rfl rfl rfl (Va rfl rfl) ?_
      refine Jg ?_
      refine Qd (b := (decide (m_7 ≠ 0))) rfl (fun hb => ?_) (fun hb => ?_)
      ·have H40 := Jp hb H39; clear H39
       refine Jf ?_
       exact Xp (Kd.p :: Kd.p :: Kd.p :: Kd.p :: Kd.d [3] _ :: Kd.sv 4 103 1 _ 24 :: Kd.p :: Kd.p :: []) 0 mixed (by
        refine Jm rfl rfl (Yi (pl := #[(0, 1), (1, 1)]) (ps := []) (cells := #[.bool false, .slice none 0 0]) Tryz.zeroValue24 Tryz.runUnderlying24 (fun w => by kernel_rfl) rfl rfl) ?_
        refine Jm rfl rfl (Je (v := .pointer (some ⟨b8, 0, none⟩)) rfl) ?_
        refine Jm rfl rfl (Ju rfl) ?_
        refine Jm rfl rfl (Jk Tryz.runUnderlying195 rfl Tryz.sizeOf28 rfl rfl) ?_
        refine Xq (i := 3) (v := .int .i64 m_7) Tryz.isAgg28 rfl rfl rfl rfl ?_
        refine d_storeV (i := 1) (vs := [.bool false, .slice none 0 0]) (cs' := fun v_ => [(vcell v_ 0), (vcell v_ 1)]) Tryz.sizeOf24 rfl rfl rfl rfl rfl rfl rfl rfl rfl ?_
        refine Jm rfl rfl (Jc (v := .slice none 0 0) rfl) ?_
        refine Jm rfl rfl (Jc (v := .int .i64 m_7) rfl) ?_
        refine Zh ?_
        refine Jx ?_
        refine J0 36 1 ?_
        refine J0 56 2 ?_
        obtain rfl := Option.some.inj H40
        refine Jl 0 7 rfl rfl (by decide) ?_
        refine Y0 0 rfl (Xn (p := ((none, 0) : Option Addr × Nat)) rfl (AllC.nil (G := gs_tag_Entry) (h := X6) (sz := 1))) ?_
        refine Jl 0 8 rfl rfl (by decide) ?_
        refine retCtt (i := 1) (vs := [.bool false, .slice ((none, 0) : Option Addr × Nat).1 (([] : List (List Value)).length) ((none, 0) : Option Addr × Nat).2]) (v2 := .slice ((none, 0) : Option Addr × Nat).1 ([] : List T_tag_Span).length ((none, 0) : Option Addr × Nat).2) (v3 := .int .i64 m_7) Tryz.isAgg24 Tryz.sizeOf24 rfl rfl rfl rfl rfl rfl (V6 (((none, 0) : Option Addr × Nat), ((none, 0) : Option Addr × Nat)) (i := 0) rfl (by first | rfl | rw [(show (([] : List (List Value)).length) = ([] : List (List T_tag_Entry)).length from (AllC.nil (G := gs_tag_Entry) (h := X6) (sz := 1)).len)]) (by first | exact Imp.refl _ | exact Imp.of (by rw [(show (([] : List (List Value)).length) = ([] : List (List T_tag_Entry)).length from (AllC.nil (G := gs_tag_Entry) (h := X6) (sz := 1)).len)] <;> rfl)))
        ) (by kernel_rfl)
      ·have H41 := Jq hb H39; clear H39
       refine Jt ?_
       refine Jf ?_
       try dsimp only [z1, z2, z5, z6, z7, z8]
       exact Xp (Kd.d [4] _ :: Kd.p :: Kd.p :: Kd.p :: Kd.d [3] _ :: Kd.sv 4 108 1 _ 24 :: Kd.p :: Kd.p :: []) 0 mixed (by
        refine d_loadN (i := 4) (vs := [.bool (decide (t22 = 77)), .slice p_2.1 l_2.length p_2.2]) Tryz.isAgg24 Tryz.sizeOf24 rfl rfl rfl rfl ?_
        refine Jm rfl rfl (Je (v := .pointer (some ⟨b8, 0, none⟩)) rfl) ?_
        refine Jm rfl rfl (Ju rfl) ?_
        refine Jm rfl rfl (Jk Tryz.runUnderlying195 rfl Tryz.sizeOf48 rfl rfl) ?_
        refine Xq (i := 3) (v := .slice p.1 l.length p.2) Tryz.isAgg48 rfl rfl rfl rfl ?_
        refine d_storeV (i := 1) (vs := [.bool (decide (t22 = 77)), .slice p_2.1 l_2.length p_2.2]) (cs' := fun v_ => [(vcell v_ 0), (vcell v_ 1)]) Tryz.sizeOf24 rfl rfl rfl rfl rfl rfl rfl rfl rfl ?_
        refine Jm rfl rfl (Jc (v := .slice p.1 l.length p.2) rfl) ?_
        refine Jm rfl rfl (Jc (v := .int .i64 0) rfl) ?_
        refine Zh ?_
        refine Jx ?_
        obtain rfl := Option.some.inj H41
        refine Jl 6 5 rfl rfl (by decide) ?_
        refine retCtt (i := 1) (vs := [.bool (decide (t22 = 77)), .slice p_2.1 l_2.length p_2.2]) (v2 := .slice p.1 l.length p.2) (v3 := .int .i64 0) Tryz.isAgg24 Tryz.sizeOf24 rfl rfl rfl rfl rfl rfl (V6 (p_2, p) (i := 6) rfl (by first | rfl | rw [(show l.length = t72.length from hl)]) (by first | exact Imp.refl _ | exact Imp.of (by rw [(show l.length = t72.length from hl)] <;> rfl)))
        ) (by kernel_rfl)
end Go.Proofs.YtgjpnjncfilgnaaGreatDoor
