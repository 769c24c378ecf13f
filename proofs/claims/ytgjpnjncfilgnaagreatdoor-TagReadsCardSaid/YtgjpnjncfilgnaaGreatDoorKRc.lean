/- TagReads, the reference's read: the walks, printed by our generator; each follows its model. Conditions: the model yields a value. -/
import Derived.Test.YtgjpnjncfilgnaaGreatDoorKRb
import Derived.Test.YtgjpnjncfilgnaaGreatDoorMd
namespace Go.Proofs.YtgjpnjncfilgnaaGreatDoor
open Go Go.Vc Go.Md Go.M Go.Lx
set_option maxRecDepth 100000
set_option maxHeartbeats 4000000
set_option linter.unusedVariables false
theorem k175 {a0 : Bool} {a1 : (List UInt8)} {r : Int} (H : Qt a0 a1 = some r) : Ret Tryz.prog 175 [.bool a0, Jv a1] (.int .i64 r) := by
 refine Wa (n := 29) Tryz.func175 rfl rfl rfl (fun wd => ?_)
 refine Jf ?_
 refine Jb ?_
 refine Ja rfl rfl rfl (Jc (v := .int .i64 0) rfl) ?_
 refine Jg ?_
 refine Jf ?_
 refine Jb ?_
 refine Ja rfl rfl rfl (Jc (v := .int .i64 0) rfl) ?_
 refine Jg ?_
 refine Jf ?_
 refine Jf ?_
 refine Jb ?_
 refine Ja rfl rfl rfl (Je (v := Jv a1) rfl) ?_
 refine Ja rfl rfl rfl (Z0 Tryz.underlying9 rfl) ?_
 refine Ja rfl rfl rfl (Je (v := .int .i64 0) rfl) ?_
 refine Jg ?_
 refine J8 ?_
 refine Z2 (σ := Int × Int) (τ := Unit) (fun next1 s => Zj a0 a1 next1 s.1 s.2) (fun s t => [(0, .bool a0), (1, Jv a1), (5, .int .i64 s.1), (9, .int .i64 (a1.length : Int)), (10, .int .i64 s.2)]) (fun s t => []) (fun s t => True) (0, 0) () [] H (by exact trivial) (by exact ⟨rfl, rfl, rfl, rfl, rfl, trivial⟩) (by decide) rfl ?_
 rintro ⟨x5_2, x10_2⟩ _ m1 gg H13 _
 clear H
 replace H13 : Zj a0 a1 (it (fun next1 s => Zj a0 a1 next1 s.1 s.2) m1) x5_2 x10_2 = some r := H13
 generalize hn1 : it (fun next1 s => Zj a0 a1 next1 s.1 s.2) m1 = next1 at H13
 try dsimp only
 refine Jf ?_
 refine Jb ?_
 refine Ja rfl rfl rfl (Zc rfl rfl) ?_
 refine Jg ?_
 refine Jf ?_
 refine Qd (b := (decide (x10_2 < (a1.length : Int)))) rfl (fun hb => ?_) (fun hb => ?_)
 ·have H14 := Jp hb H13; clear H13
  refine Jt ?_
  refine Jf ?_
  refine J8 ?_
  refine Jf ?_
  refine Jb ?_
  refine Ja rfl rfl rfl (Je (v := .int .i64 x10_2) rfl) ?_
  refine Ja rfl rfl rfl (Jc (v := .int .i64 x10_2) rfl) ?_
  refine Jg ?_
  refine Jf ?_
  refine Jb ?_
  refine Ja rfl rfl rfl (Je (v := Jv a1) rfl) ?_
  refine Ja rfl rfl rfl (Z0 Tryz.underlying9 rfl) ?_
  obtain ⟨t15, h_t15, H15⟩ := Jh H14; clear H14
  refine Ja rfl rfl rfl (Wv rfl rfl h_t15) ?_
  refine Ja rfl rfl rfl (Je (v := .int .i64 x10_2) rfl) ?_
  obtain ⟨t17, h_t17, H16⟩ := Jh H15; clear H15
  refine Ja rfl rfl rfl (Wv rfl rfl h_t17) ?_
  refine Ja rfl rfl rfl (Jc (v := .int .i64 t17) rfl) ?_
  refine Jg ?_
  refine Qz (r := r) (σ := Int) (τ := Unit) (fun s => Up a1 x5_2 x10_2 next1 s) (fun s t => [(0, .bool a0), (1, Jv a1), (5, .int .i64 x5_2), (7, .int .i64 s), (9, .int .i64 (a1.length : Int)), (10, .int .i64 x10_2)]) (fun s t => []) (fun s t => True) ?_ ?_
  ·refine Jf ?_
   refine Jb ?_
   refine Ja rfl rfl rfl (Je (v := .bool a0) rfl) ?_
   refine Jg ?_
   refine Qd (b := a0) rfl (fun hb => ?_) (fun hb => ?_)
   ·have H22 := Jp hb H16; clear H16
    refine Jb ?_
    refine Ja rfl rfl rfl (Je (v := .int .i64 x10_2) rfl) ?_
    refine Ja rfl rfl rfl (Jc (v := .int .i64 x10_2) rfl) ?_
    refine Jg ?_
    refine Jn x10_2 () 0 [] (by exact ⟨rfl, rfl, rfl, rfl, rfl, rfl, trivial⟩) (by decide) (by kernel_rfl) (by exact ⟨H22, trivial⟩) (Nat.lt_succ_self _)
   ·have H23 := Jq hb H16; clear H16
    refine Jt ?_
    refine Jn t17 () 0 [] (by exact ⟨rfl, rfl, rfl, rfl, rfl, rfl, trivial⟩) (by decide) (by kernel_rfl) (by exact ⟨H23, trivial⟩) (Nat.lt_succ_self _)
  ·rintro x7 _ gg H17 _
   replace H17 : Up a1 x5_2 x10_2 next1 x7 = some r := H17
   try dsimp only
   refine Jb ?_
   refine Ja rfl rfl rfl (Je (v := .int .i64 x5_2) rfl) ?_
   obtain ⟨t21, h_t21, H18⟩ := Jh H17; clear H17
   refine Ja rfl rfl rfl (r_shlG rfl rfl h_t21) ?_
   refine Ja rfl rfl rfl (Je (v := Jv a1) rfl) ?_
   refine Ja rfl rfl rfl (Je (v := .int .i64 x7) rfl) ?_
   obtain ⟨t24, h_t24, H19⟩ := Jh H18; clear H18
   refine Ja rfl rfl rfl (r_octG Tryz.underlying9 rfl rfl h_t24) ?_
   obtain ⟨t25, h_t25, H20⟩ := Jh H19; clear H19
   refine Ja rfl rfl rfl (r_convG Tryz.runUnderlying5 Tryz.runUnderlying3 rfl (gK_i64 h_t25)) ?_
   refine Ja rfl rfl rfl (r_bitsOr (bits := 64) rfl rfl rfl (wr_i64 _)) ?_
   refine Ja rfl rfl rfl (Jc (v := .int .i64 (wI64 (bOr 64 t21 t25))) rfl) ?_
   refine Jg ?_
   refine Jb ?_
   obtain ⟨t27, h_t27, H21⟩ := Jh H20; clear H20
   refine Ja rfl rfl rfl (Qe rfl rfl h_t27) ?_
   refine Ja rfl rfl rfl (Je (v := .int .i64 t27) rfl) ?_
   refine Jg ?_
   refine Jn ((wI64 (bOr 64 t21 t25)), t27) () m1 [] (by exact ⟨rfl, rfl, rfl, rfl, rfl, trivial⟩) (by decide) (by kernel_rfl) (by exact ⟨(by subst hn1; exact H21), trivial⟩) (Nat.lt_succ_self _)
 ·have H24 := Jq hb H13; clear H13
  refine X3 ?_
  refine Jf ?_
  refine Jb ?_
  refine Ja rfl rfl rfl (Je (v := .int .i64 x5_2) rfl) ?_
  refine Ja rfl rfl rfl (Jc (v := .int .i64 x5_2) rfl) ?_
  refine Jg ?_
  refine Jx ?_
  obtain rfl := Option.some.inj H24
  refine Qn (v := .int .i64 x5_2) rfl rfl (Yh rfl)
theorem k132 {a0 : T_tintref2_reader} {v0_2 : Value} {v0_3 : Value} {v0_4 : Value} {pb0 : Nat} {a1 : Int} {a2 : Int} {r : Int} {w : World} {h : Qj} (hw : Know h w Vi) (f0_2 : FrM h (fun x_ : Int => .int .i64 x_) (fun x_ : Bool => .bool x_) v0_2 a0.starts_) (f0_3 : FrS h 2 v0_3 (a0.parts_.map Jj)) (f0_4 : FrM h (fun x_ : (List UInt8) => Jv x_) (fun x_ : T_tintref2_place => .agg #[.int .i64 x_.entry_, .int .i64 x_.from_, .int .i64 x_.to_]) v0_4 a0.places_) (hb0 : h pb0 = some (.cells (List.toArray [Jv a0.s_, .bool a0.big_, v0_2, v0_3, v0_4]) 119 (0, 0))) (H : Qy a0 a1 a2 = some r) : Does Tryz.prog 132 (List.toArray [.pointer (some ⟨pb0, 0, none⟩), .int .i64 a1, .int .i64 a2]) w (fun v w' => v = (.int .i64 r) ∧ Grow w w') := by
 refine enter (n := 21) Tryz.func132 rfl rfl rfl Vi [] (Sat.nil _ _) ?_
 refine Jf ?_
 refine Jb ?_
 refine Ja rfl rfl rfl (Jc (v := .int .i64 0) rfl) ?_
 refine Jg ?_
 refine Jf ?_
 exact Xp (Kd.p :: Kd.p :: Kd.p :: Kd.d [] _ :: Kd.p :: Kd.p :: Kd.p :: Kd.d [] _ :: Kd.p :: Kd.p :: Kd.p :: Kd.p :: Kd.p :: Kd.d [] _ :: Kd.p :: []) 0 mixed (by
  refine Jm rfl rfl (Je (v := .pointer (some ⟨pb0, 0, none⟩)) rfl) ?_
  refine Jm rfl rfl (Ju rfl) ?_
  refine Jm rfl rfl (Jk Tryz.runUnderlying119 rfl Tryz.sizeOf4 rfl rfl) ?_
  refine d_read (fun w hF => U2 (v := .bool a0.big_) Tryz.isAgg4 rfl (hw.now hF _ _ hb0) rfl) rfl rfl ?_
  refine Jm rfl rfl (Je (v := .pointer (some ⟨pb0, 0, none⟩)) rfl) ?_
  refine Jm rfl rfl (Ju rfl) ?_
  refine Jm rfl rfl (Jk Tryz.runUnderlying119 rfl Tryz.sizeOf9 rfl rfl) ?_
  refine d_read (fun w hF => U2 (v := Jv a0.s_) Tryz.isAgg9 rfl (hw.now hF _ _ hb0) rfl) rfl rfl ?_
  refine Jm rfl rfl (Je (v := .int .i64 a1) rfl) ?_
  refine Jm rfl rfl (Je (v := .int .i64 a1) rfl) ?_
  refine Jm rfl rfl (Je (v := .int .i64 a2) rfl) ?_
  have h_t18 := Qg H
  have H4 := J6 H
  refine Jm rfl rfl (Qe rfl rfl h_t18) ?_
  have h_t19 := Qg H4
  have H5 := J6 H4
  refine Jm rfl rfl (r_cutTG Tryz.underlying9 rfl rfl rfl h_t19) ?_
  have h_t20 := Qg H5
  have H6 := J6 H5
  refine d_call (k175 h_t20) Tryz.call175 rfl rfl ?_
  refine Jm rfl rfl (Jc (v := .int .i64 (val (Qt a0.big_ (val (Ys a0.s_ a1 (val (gI (a1 + a2)))))))) rfl) ?_
  refine Zh ?_
  refine Jx ?_
  obtain rfl := Option.some.inj H6
  refine Qn (v := .int .i64 (val (Qt a0.big_ (val (Ys a0.s_ a1 (val (gI (a1 + a2)))))))) rfl rfl (Yh rfl)
  ) (by kernel_rfl)
theorem k134 {a0 : Int} {r : (List UInt8)} {w : World} {h : Qj} (hw : Know h w Vi) (tb_pow10 : TabH Tryz.prog h "internal/strconv.uint64pow10" .u64 Lib.pow10Tab) (H : gItoa a0 = some r) : Does Tryz.prog 134 (List.toArray [.int .i64 a0]) w (fun v w' => v = (Jv r) ∧ Grow w w') :=
  itoa_does (ρ := Go.Proofs.Tryz.laysM171_ren) Go.Proofs.Tryz.laysM171 hw tb_pow10 H
theorem k176 {a0 : T_tintref2_reader} {v0_2 : Value} {v0_3 : Value} {v0_4 : Value} {pb0 : Nat} {a1 : Int} {a2 : Int} {r : Bool} {w : World} {h : Qj} (hw : Know h w Vi) (f0_2 : FrM h (fun x_ : Int => .int .i64 x_) (fun x_ : Bool => .bool x_) v0_2 a0.starts_) (f0_3 : FrS h 2 v0_3 (a0.parts_.map Jj)) (f0_4 : FrM h (fun x_ : (List UInt8) => Jv x_) (fun x_ : T_tintref2_place => .agg #[.int .i64 x_.entry_, .int .i64 x_.from_, .int .i64 x_.to_]) v0_4 a0.places_) (hb0 : h pb0 = some (.cells (List.toArray [Jv a0.s_, .bool a0.big_, v0_2, v0_3, v0_4]) 119 (0, 0))) (H : Wg a0 a1 a2 = some r) : Does Tryz.prog 176 (List.toArray [.pointer (some ⟨pb0, 0, none⟩), .int .i64 a1, .int .i64 a2]) w (fun v w' => v = (.bool r) ∧ Grow w w') := by
 refine enter (n := 29) Tryz.func176 rfl rfl rfl Vi [] (Sat.nil _ _) ?_
 refine Jf ?_
 refine Jb ?_
 refine Ja rfl rfl rfl (Jc (v := .bool false) rfl) ?_
 refine Jg ?_
 refine Jf ?_
 refine Jb ?_
 refine Ja rfl rfl rfl (Je (v := .int .i64 a1) rfl) ?_
 refine Ja rfl rfl rfl (r_geq rfl rfl) ?_
 refine Ja rfl rfl rfl (Je (v := .bool (decide (8 ≤ a1))) rfl) ?_
 refine split (fun hb => ?_) (fun hb => ?_)
 ·have H6 := Jp hb H; clear H
  refine Ja rfl rfl rfl (Je (v := .int .i64 a1) rfl) ?_
  refine Ja rfl rfl rfl (Je (v := .pointer (some ⟨pb0, 0, none⟩)) rfl) ?_
  refine Ja rfl rfl rfl (Ju rfl) ?_
  refine Ja rfl rfl rfl (Jk Tryz.runUnderlying119 rfl Tryz.sizeOf9 rfl rfl) ?_
  refine Yu (fun w hF hS => U2 (v := Jv a0.s_) Tryz.isAgg9 rfl (hw.now hF _ _ hb0) rfl) rfl rfl rfl ?_
  refine Ja rfl rfl rfl (Z0 Tryz.underlying9 rfl) ?_
  refine Ja rfl rfl rfl (r_leq rfl rfl) ?_
  refine Ja rfl rfl rfl (J9 (v := .bool (decide (a1 ≤ (a0.s_.length : Int)))) rfl rfl) ?_
  refine Ja rfl rfl rfl (Je (v := .bool (decide (a1 ≤ (a0.s_.length : Int)))) rfl) ?_
  refine split (fun hb => ?_) (fun hb => ?_)
  ·have H7 := Jp hb H6; clear H6
   refine Ja rfl rfl rfl (Je (v := .int .i64 a2) rfl) ?_
   refine Ja rfl rfl rfl (Je (v := .pointer (some ⟨pb0, 0, none⟩)) rfl) ?_
   refine Ja rfl rfl rfl (Ju rfl) ?_
   refine Ja rfl rfl rfl (Jk Tryz.runUnderlying119 rfl Tryz.sizeOf9 rfl rfl) ?_
   refine Yu (fun w hF hS => U2 (v := Jv a0.s_) Tryz.isAgg9 rfl (hw.now hF _ _ hb0) rfl) rfl rfl rfl ?_
   refine Ja rfl rfl rfl (Z0 Tryz.underlying9 rfl) ?_
   refine Ja rfl rfl rfl (Je (v := .int .i64 a1) rfl) ?_
   obtain ⟨t26, h_t26, H8⟩ := Jh H7; clear H7
   refine Ja rfl rfl rfl (Wv rfl rfl h_t26) ?_
   refine Ja rfl rfl rfl (r_leq rfl rfl) ?_
   refine Ja rfl rfl rfl (J9 (v := .bool (decide (a2 ≤ t26))) rfl rfl) ?_
   refine Ja rfl rfl rfl (Jc (v := .bool (decide (a2 ≤ t26))) rfl) ?_
   refine Jg ?_
   refine Jx ?_
   obtain rfl := Option.some.inj H8
   refine Qn (v := .bool (decide (a2 ≤ t26))) rfl rfl (Yh rfl)
  ·have H9 := Jq hb H6; clear H6
   refine Ji rfl rfl rfl ?_
   refine Ji rfl rfl rfl ?_
   refine Ji rfl rfl rfl ?_
   refine Ji rfl rfl rfl ?_
   refine Ji rfl rfl rfl ?_
   refine Ji rfl rfl rfl ?_
   refine Ji rfl rfl rfl ?_
   refine Ji rfl rfl rfl ?_
   refine Ji rfl rfl rfl ?_
   refine Ja rfl rfl rfl (Qf (v := .bool false) rfl rfl) ?_
   refine Ja rfl rfl rfl (Jc (v := .bool false) rfl) ?_
   refine Jg ?_
   refine Jx ?_
   obtain rfl := Option.some.inj H9
   refine Qn (v := .bool false) rfl rfl (Yh rfl)
 ·have H10 := Jq hb H; clear H
  refine Ji rfl rfl rfl ?_
  refine Ji rfl rfl rfl ?_
  refine Ji rfl rfl rfl ?_
  refine Ji rfl rfl rfl ?_
  refine Ji rfl rfl rfl ?_
  refine Ji rfl rfl rfl ?_
  refine Ji rfl rfl rfl ?_
  refine Ja rfl rfl rfl (Qf (v := .bool false) rfl rfl) ?_
  refine Ja rfl rfl rfl (Je (v := .bool false) rfl) ?_
  refine Ji rfl rfl rfl ?_
  refine Ji rfl rfl rfl ?_
  refine Ji rfl rfl rfl ?_
  refine Ji rfl rfl rfl ?_
  refine Ji rfl rfl rfl ?_
  refine Ji rfl rfl rfl ?_
  refine Ji rfl rfl rfl ?_
  refine Ji rfl rfl rfl ?_
  refine Ji rfl rfl rfl ?_
  refine Ja rfl rfl rfl (Qf (v := .bool false) rfl rfl) ?_
  refine Ja rfl rfl rfl (Jc (v := .bool false) rfl) ?_
  refine Jg ?_
  refine Jx ?_
  obtain rfl := Option.some.inj H10
  refine Qn (v := .bool false) rfl rfl (Yh rfl)
theorem k177_b {self : (T_tintref2_reader × Int × Int × Int × Bool × (List UInt8)) → Option ((List T_tag_Entry) × Int × Int × T_tintref2_reader)} (ih : ∀ {a0 : T_tintref2_reader} {pb0 : Nat} {m0_2 : Nat} {p0_3 : Option Addr × Nat} {n0_3 : Nat} {m0_4 : Nat} {a1 : Int} {a2 : Int} {a3 : Int} {a4 : Bool} {a5 : (List UInt8)} {r : (List T_tag_Entry) × Int × Int × T_tintref2_reader} {w : World} {h : Qj} {S : Nat → Prop} (hcs : (J1 (Jo pb0 [Jv a0.s_, .bool a0.big_, .map (some m0_2), .slice p0_3.1 n0_3 p0_3.2, .map (some m0_4)] 119) (J1 (Q1 (fun x_ : Int => .int .i64 x_) (fun x_ : Bool => .bool x_) m0_2 a0.starts_) (J1 (Qa 56 2 (.slice p0_3.1 n0_3 p0_3.2) n0_3 (a0.parts_.map Jj)) (Q1 (fun x_ : (List UInt8) => Jv x_) (fun x_ : T_tintref2_place => .agg #[.int .i64 x_.entry_, .int .i64 x_.from_, .int .i64 x_.to_]) m0_4 a0.places_)))).P S w) (hlt : ∀ b, S b → b < w.heap.size) (hw : Know h w S) (hn0_3 : n0_3 = a0.parts_.length) (tb_pow10 : TabH Tryz.prog h "internal/strconv.uint64pow10" .u64 Lib.pow10Tab) (_ : self (a0, a1, a2, a3, a4, a5) = some r), Does Tryz.prog 133 (List.toArray [.pointer (some ⟨pb0, 0, none⟩), .int .i64 a1, .int .i64 a2, .int .i64 a3, .bool a4, Jv a5]) w (fun v w' => ∃ x : (Option Addr × Nat) × Nat × (Option Addr × Nat) × Nat, v = (.tuple #[.slice x.1.1 r.1.length x.1.2, .int .i64 r.2.1, .int .i64 r.2.2.1]) ∧ Turn w w' S (J1 (Jo pb0 [Jv r.2.2.2.s_, .bool r.2.2.2.big_, .map (some x.2.1), .slice x.2.2.1.1 r.2.2.2.parts_.length x.2.2.1.2, .map (some x.2.2.2)] 119) (J1 (Q1 (fun x_ : Int => .int .i64 x_) (fun x_ : Bool => .bool x_) x.2.1 r.2.2.2.starts_) (J1 (Qa 56 2 (.slice x.2.2.1.1 r.2.2.2.parts_.length x.2.2.1.2) r.2.2.2.parts_.length (r.2.2.2.parts_.map Jj)) (J1 (Q1 (fun x_ : (List UInt8) => Jv x_) (fun x_ : T_tintref2_place => .agg #[.int .i64 x_.entry_, .int .i64 x_.from_, .int .i64 x_.to_]) x.2.2.2 r.2.2.2.places_) (W3 83 6 g_tag_Entry (.slice x.1.1 r.1.length x.1.2) r.1.length r.1))))))) {a0 : T_tintref2_reader} {pb0 : Nat} {m0_2 : Nat} {p0_3 : Option Addr × Nat} {n0_3 : Nat} {m0_4 : Nat} {a1 : Int} {a2 : Int} {a3 : (List UInt8)} {r : T_tag_Value × Int × T_tintref2_reader} {w : World} {h : Qj} {S : Nat → Prop} (hcs : (J1 (Jo pb0 [Jv a0.s_, .bool a0.big_, .map (some m0_2), .slice p0_3.1 n0_3 p0_3.2, .map (some m0_4)] 119) (J1 (Q1 (fun x_ : Int => .int .i64 x_) (fun x_ : Bool => .bool x_) m0_2 a0.starts_) (J1 (Qa 56 2 (.slice p0_3.1 n0_3 p0_3.2) n0_3 (a0.parts_.map Jj)) (Q1 (fun x_ : (List UInt8) => Jv x_) (fun x_ : T_tintref2_place => .agg #[.int .i64 x_.entry_, .int .i64 x_.from_, .int .i64 x_.to_]) m0_4 a0.places_)))).P S w) (hlt : ∀ b, S b → b < w.heap.size) (hw : Know h w S) (hn0_3 : n0_3 = a0.parts_.length) (tb_pow10 : TabH Tryz.prog h "internal/strconv.uint64pow10" .u64 Lib.pow10Tab) (H : Xo self a0 a1 a2 a3 = some r) : Does Tryz.prog 177 (List.toArray [.pointer (some ⟨pb0, 0, none⟩), .int .i64 a1, .int .i64 a2, Jv a3]) w (fun v w' => ∃ x : (Option Addr × Nat) × (Option Addr × Nat) × (Option Addr × Nat) × Nat × (Option Addr × Nat) × Nat, v = (.tuple #[.agg #[.int .i64 r.1.Kind, Jv r.1.Text, .slice x.1.1 r.1.Ints.length x.1.2, .slice x.2.1.1 r.1.Ratios.length x.2.1.2, .slice x.2.2.1.1 r.1.Entries.length x.2.2.1.2], .int .i64 r.2.1]) ∧ Turn w w' S (J1 (Jo pb0 [Jv r.2.2.s_, .bool r.2.2.big_, .map (some x.2.2.2.1), .slice x.2.2.2.2.1.1 r.2.2.parts_.length x.2.2.2.2.1.2, .map (some x.2.2.2.2.2)] 119) (J1 (Q1 (fun x_ : Int => .int .i64 x_) (fun x_ : Bool => .bool x_) x.2.2.2.1 r.2.2.starts_) (J1 (Qa 56 2 (.slice x.2.2.2.2.1.1 r.2.2.parts_.length x.2.2.2.2.1.2) r.2.2.parts_.length (r.2.2.parts_.map Jj)) (J1 (Q1 (fun x_ : (List UInt8) => Jv x_) (fun x_ : T_tintref2_place => .agg #[.int .i64 x_.entry_, .int .i64 x_.from_, .int .i64 x_.to_]) x.2.2.2.2.2 r.2.2.places_) (J1 (Qa 3 1 (.slice x.1.1 r.1.Ints.length x.1.2) r.1.Ints.length (r.1.Ints.map Xc)) (J1 (Qa 74 2 (.slice x.2.1.1 r.1.Ratios.length x.2.1.2) r.1.Ratios.length (r.1.Ratios.map Jz)) (W3 83 6 g_tag_Entry (.slice x.2.2.1.1 r.1.Entries.length x.2.2.1.2) r.1.Entries.length r.1.Entries)))))))) := by
 refine enter (n := 201) Tryz.func177 rfl rfl rfl S [J1 (Jo pb0 [Jv a0.s_, .bool a0.big_, .map (some m0_2), .slice p0_3.1 n0_3 p0_3.2, .map (some m0_4)] 119) (J1 (Q1 (fun x_ : Int => .int .i64 x_) (fun x_ : Bool => .bool x_) m0_2 a0.starts_) (J1 (Qa 56 2 (.slice p0_3.1 n0_3 p0_3.2) n0_3 (a0.parts_.map Jj)) (Q1 (fun x_ : (List UInt8) => Jv x_) (fun x_ : T_tintref2_place => .agg #[.int .i64 x_.entry_, .int .i64 x_.from_, .int .i64 x_.to_]) m0_4 a0.places_)))] (Sat.one hcs hlt) ?_
 refine Q2 0 rfl ?_
 refine Q2 1 rfl ?_
 refine Q2 2 rfl ?_
 refine Zs X6 ?_
 refine Jf ?_
 refine Jb ?_
 refine Yo (cs := [.int .i64 0, Jv [], .slice none 0 0, .slice none 0 0, .slice none 0 0]) Tryz.zeroValue38 rfl rfl rfl (fun b5 => ?_)
 refine Ja rfl rfl rfl (Jc (v := .int .i64 0) rfl) ?_
 refine Jg ?_
 refine Jf ?_
 refine Jb ?_
 refine Ja rfl rfl rfl (Je (v := .pointer (some ⟨pb0, 0, none⟩)) rfl) ?_
 refine Ja rfl rfl rfl (Je (v := .int .i64 a1) rfl) ?_
 obtain ⟨t20, h_t20, H69⟩ := Jh H; clear H
 refine Ja rfl rfl rfl (Qe rfl rfl h_t20) ?_
 obtain ⟨t21, h_t21, H70⟩ := Jh H69; clear H69
 refine Qw (fun w hF hS => k132 (a0 := a0) (J7 w) (Xz (fk := (fun x_ : Int => .int .i64 x_)) (fv := (fun x_ : Bool => .bool x_)) (i := 1) hS rfl) (Yn (i := 2) hn0_3 hS rfl) (Xz (fk := (fun x_ : (List UInt8) => Jv x_)) (fv := (fun x_ : T_tintref2_place => .agg #[.int .i64 x_.entry_, .int .i64 x_.from_, .int .i64 x_.to_])) (i := 3) hS rfl) (Xb (i := 0) hS rfl) h_t21) Tryz.call132 rfl rfl rfl ?_
 refine Ja rfl rfl rfl (Jk Tryz.runUnderlying38 rfl Tryz.sizeOf3 rfl rfl) ?_
 refine Qc (i := 5) (vs := [.int .i64 t21]) (cs' := [.int .i64 t21, Jv [], .slice none 0 0, .slice none 0 0, .slice none 0 0]) Tryz.sizeOf3 rfl rfl rfl rfl rfl rfl rfl rfl rfl ?_
 refine Jg ?_
 refine Jf ?_
 try dsimp only [z1, z2, z5, z6, z7, z8]
 refine Jb ?_
 refine Ja rfl rfl rfl (Je (v := .pointer (some ⟨pb0, 0, none⟩)) rfl) ?_
 refine Ja rfl rfl rfl (Je (v := .int .i64 a1) rfl) ?_
 obtain ⟨t25, h_t25, H71⟩ := Jh H70; clear H70
 refine Ja rfl rfl rfl (Qe rfl rfl h_t25) ?_
 obtain ⟨t26, h_t26, H72⟩ := Jh H71; clear H71
 refine Qw (fun w hF hS => k132 (a0 := a0) (J7 w) (Xz (fk := (fun x_ : Int => .int .i64 x_)) (fv := (fun x_ : Bool => .bool x_)) (i := 1) hS rfl) (Yn (i := 2) hn0_3 hS rfl) (Xz (fk := (fun x_ : (List UInt8) => Jv x_)) (fv := (fun x_ : T_tintref2_place => .agg #[.int .i64 x_.entry_, .int .i64 x_.from_, .int .i64 x_.to_])) (i := 3) hS rfl) (Xb (i := 0) hS rfl) h_t26) Tryz.call132 rfl rfl rfl ?_
 refine Ja rfl rfl rfl (Je (v := .pointer (some ⟨pb0, 0, none⟩)) rfl) ?_
 refine Ja rfl rfl rfl (Je (v := .int .i64 a1) rfl) ?_
 obtain ⟨t29, h_t29, H73⟩ := Jh H72; clear H72
 refine Ja rfl rfl rfl (Qe rfl rfl h_t29) ?_
 obtain ⟨t30, h_t30, H74⟩ := Jh H73; clear H73
 refine Qw (fun w hF hS => k132 (a0 := a0) (J7 w) (Xz (fk := (fun x_ : Int => .int .i64 x_)) (fv := (fun x_ : Bool => .bool x_)) (i := 1) hS rfl) (Yn (i := 2) hn0_3 hS rfl) (Xz (fk := (fun x_ : (List UInt8) => Jv x_)) (fv := (fun x_ : T_tintref2_place => .agg #[.int .i64 x_.entry_, .int .i64 x_.from_, .int .i64 x_.to_])) (i := 3) hS rfl) (Xb (i := 0) hS rfl) h_t30) Tryz.call132 rfl rfl rfl ?_
 refine Ja rfl rfl rfl (Jc (v := .int .i64 t26) rfl) ?_
 refine Ja rfl rfl rfl (Jc (v := .int .i64 t30) rfl) ?_
 refine Jg ?_
 refine Jf ?_
 refine Jb ?_
 refine Ja rfl rfl rfl (Jk Tryz.runUnderlying38 rfl Tryz.sizeOf3 rfl rfl) ?_
 refine Js (i := 5) (v := .int .i64 t21) Tryz.isAgg3 rfl rfl rfl rfl rfl ?_
 obtain ⟨t33, h_t33, H75⟩ := Jh H74; clear H74
 refine Wb (k140 h_t33) Tryz.call140 rfl rfl rfl ?_
 refine Ja rfl rfl rfl (Jc (v := .int .i64 t33) rfl) ?_
 refine Jg ?_
 refine Jf ?_
 refine J8 ?_
 refine Jf ?_
 refine Jb ?_
 refine Ja rfl rfl rfl (Je (v := .int .i64 t33) rfl) ?_
 refine Ja rfl rfl rfl (Q0 rfl rfl) ?_
 refine Ja rfl rfl rfl (Jc (v := .bool (decide (t33 = 0))) rfl) ?_
 refine Jg ?_
 refine Qd (b := (decide (t33 = 0))) rfl (fun hb => ?_) (fun hb => ?_)
 ·have H76 := Jp hb H75; clear H75
  refine Jf ?_
  refine Jb ?_
  refine Xr (i := 5) (vs := [.int .i64 t21, Jv [], .slice none 0 0, .slice none 0 0, .slice none 0 0]) Tryz.isAgg38 Tryz.sizeOf38 rfl rfl rfl rfl rfl ?_
  refine Qc (i := 5) (vs := [.int .i64 t21, Jv [], .slice none 0 0, .slice none 0 0, .slice none 0 0]) (cs' := [.int .i64 t21, Jv [], .slice none 0 0, .slice none 0 0, .slice none 0 0]) Tryz.sizeOf38 rfl rfl rfl rfl rfl rfl rfl rfl rfl ?_
  refine Ja rfl rfl rfl (Jc (v := .int .i64 10) rfl) ?_
  refine Jg ?_
  refine Jx ?_
  try dsimp only [z1, z2, z3, z4, z5, z6, z7, z8]
  refine J0 3 1 ?_
  refine J0 74 2 ?_
  refine J0 83 6 ?_
  try dsimp only [z1, z2, z5, z6, z7, z8]
  obtain rfl := Option.some.inj H76
  refine Jl 4 8 rfl rfl (by decide) ?_
  refine Y0 4 rfl (Xn (p := ((none, 0) : Option Addr × Nat)) rfl (AllC.nil (G := g_tag_Entry) (h := X6) (sz := 6))) ?_
  refine Jl 7 4 rfl rfl (by decide) ?_
  refine Jl 6 7 rfl rfl (by decide) ?_
  refine Jl 3 6 rfl rfl (by decide) ?_
  refine Jl 2 3 rfl rfl (by decide) ?_
  refine Jl 1 2 rfl rfl (by decide) ?_
  refine Jl 0 1 rfl rfl (by decide) ?_
  refine retCt (i := 5) (vs := [.int .i64 t21, Jv [], .slice ((none, 0) : Option Addr × Nat).1 ([] : List Int).length ((none, 0) : Option Addr × Nat).2, .slice ((none, 0) : Option Addr × Nat).1 ([] : List T_tag_Ratio).length ((none, 0) : Option Addr × Nat).2, .slice ((none, 0) : Option Addr × Nat).1 (([] : List (List Value)).length) ((none, 0) : Option Addr × Nat).2]) (v2 := .int .i64 10) Tryz.isAgg38 Tryz.sizeOf38 rfl rfl rfl rfl rfl (V6 (((none, 0) : Option Addr × Nat), ((none, 0) : Option Addr × Nat), ((none, 0) : Option Addr × Nat), m0_2, p0_3, m0_4) (i := 0) rfl (by first | rfl | rw [(show (([] : List (List Value)).length) = ([] : List T_tag_Entry).length from (AllC.nil (G := g_tag_Entry) (h := X6) (sz := 6)).len), (show n0_3 = a0.parts_.length from hn0_3)]) (by first | exact Imp.refl _ | exact Imp.of (by rw [(show (([] : List (List Value)).length) = ([] : List T_tag_Entry).length from (AllC.nil (G := g_tag_Entry) (h := X6) (sz := 6)).len), (show n0_3 = a0.parts_.length from hn0_3)] <;> rfl)))
 ·have H77 := Jq hb H75; clear H75
  refine Jf ?_
  try dsimp only [z1, z2, z5, z6, z7, z8]
  refine Jb ?_
  refine Ja rfl rfl rfl (Jk Tryz.runUnderlying38 rfl Tryz.sizeOf3 rfl rfl) ?_
  refine Js (i := 5) (v := .int .i64 t21) Tryz.isAgg3 rfl rfl rfl rfl rfl ?_
  refine Ja rfl rfl rfl (Q0 rfl rfl) ?_
  refine Ja rfl rfl rfl (Jc (v := .bool (decide (t21 = 13))) rfl) ?_
  refine Jg ?_
  refine Qd (b := (decide (t21 = 13))) rfl (fun hb => ?_) (fun hb => ?_)
  ·have H78 := Jp hb H77; clear H77
   refine Jf ?_
   refine Jf ?_
   refine Jb ?_
   refine Ja rfl rfl rfl (Je (v := .int .i64 t26) rfl) ?_
   refine Ja rfl rfl rfl (Va rfl rfl) ?_
   refine Jg ?_
   refine Qd (b := (decide (t26 ≠ 1))) rfl (fun hb => ?_) (fun hb => ?_)
   ·have H79 := Jp hb H78; clear H78
    refine Jf ?_
    refine Jb ?_
    refine Xr (i := 5) (vs := [.int .i64 t21, Jv [], .slice none 0 0, .slice none 0 0, .slice none 0 0]) Tryz.isAgg38 Tryz.sizeOf38 rfl rfl rfl rfl rfl ?_
    refine Qc (i := 5) (vs := [.int .i64 t21, Jv [], .slice none 0 0, .slice none 0 0, .slice none 0 0]) (cs' := [.int .i64 t21, Jv [], .slice none 0 0, .slice none 0 0, .slice none 0 0]) Tryz.sizeOf38 rfl rfl rfl rfl rfl rfl rfl rfl rfl ?_
    refine Ja rfl rfl rfl (Jc (v := .int .i64 1) rfl) ?_
    refine Jg ?_
    refine Jx ?_
    try dsimp only [z1, z2, z3, z4, z5, z6, z7, z8]
    refine J0 3 1 ?_
    refine J0 74 2 ?_
    refine J0 83 6 ?_
    try dsimp only [z1, z2, z5, z6, z7, z8]
    obtain rfl := Option.some.inj H79
    refine Jl 4 8 rfl rfl (by decide) ?_
    refine Y0 4 rfl (Xn (p := ((none, 0) : Option Addr × Nat)) rfl (AllC.nil (G := g_tag_Entry) (h := X6) (sz := 6))) ?_
    refine Jl 7 4 rfl rfl (by decide) ?_
    refine Jl 6 7 rfl rfl (by decide) ?_
    refine Jl 3 6 rfl rfl (by decide) ?_
    refine Jl 2 3 rfl rfl (by decide) ?_
    refine Jl 1 2 rfl rfl (by decide) ?_
    refine Jl 0 1 rfl rfl (by decide) ?_
    refine retCt (i := 5) (vs := [.int .i64 t21, Jv [], .slice ((none, 0) : Option Addr × Nat).1 ([] : List Int).length ((none, 0) : Option Addr × Nat).2, .slice ((none, 0) : Option Addr × Nat).1 ([] : List T_tag_Ratio).length ((none, 0) : Option Addr × Nat).2, .slice ((none, 0) : Option Addr × Nat).1 (([] : List (List Value)).length) ((none, 0) : Option Addr × Nat).2]) (v2 := .int .i64 1) Tryz.isAgg38 Tryz.sizeOf38 rfl rfl rfl rfl rfl (V6 (((none, 0) : Option Addr × Nat), ((none, 0) : Option Addr × Nat), ((none, 0) : Option Addr × Nat), m0_2, p0_3, m0_4) (i := 0) rfl (by first | rfl | rw [(show (([] : List (List Value)).length) = ([] : List T_tag_Entry).length from (AllC.nil (G := g_tag_Entry) (h := X6) (sz := 6)).len), (show n0_3 = a0.parts_.length from hn0_3)]) (by first | exact Imp.refl _ | exact Imp.of (by rw [(show (([] : List (List Value)).length) = ([] : List T_tag_Entry).length from (AllC.nil (G := g_tag_Entry) (h := X6) (sz := 6)).len), (show n0_3 = a0.parts_.length from hn0_3)] <;> rfl)))
   ·have H80 := Jq hb H78; clear H78
    refine Jt ?_
    refine Jf ?_
    try dsimp only [z1, z2, z5, z6, z7, z8]
    refine Jb ?_
    refine Ja rfl rfl rfl (Je (v := .pointer (some ⟨pb0, 0, none⟩)) rfl) ?_
    refine Ja rfl rfl rfl (Ju rfl) ?_
    refine Ja rfl rfl rfl (Jk Tryz.runUnderlying119 rfl Tryz.sizeOf117 rfl rfl) ?_
    refine Js (i := 0) (v := .map (some m0_4)) Tryz.isAgg117 rfl rfl rfl rfl rfl ?_
    refine Ja rfl rfl rfl (Je (v := Jv a3) rfl) ?_
    refine Ja rfl rfl rfl (Je (v := .int .i64 a1) rfl) ?_
    refine Ja rfl rfl rfl (Yi (pl := #[(0, 1), (1, 1), (2, 1)]) (ps := [(0, .int .i64 a1)]) (cells := #[.int .i64 a1, .int .i64 0, .int .i64 0]) Tryz.zeroValue138 Tryz.runUnderlying138 (fun w => by kernel_rfl) rfl rfl) ?_
    refine l_turn0 (turns_mset (u := true) (i := 3) (rds := []) (fk := (fun x_ : (List UInt8) => Jv x_)) (fv := (fun x_ : T_tintref2_place => .agg #[.int .i64 x_.entry_, .int .i64 x_.from_, .int .i64 x_.to_])) (k := a3) (v := (⟨a1, 0, 0⟩ : T_tintref2_place)) keyF_str (.inr rfl) Tryz.underlying117 Tryz.underlying9 rfl rfl rfl rfl) rfl rfl (fun _ => ?_)
    refine Jg ?_
    refine Jf ?_
    refine Jb ?_
    refine Ja rfl rfl rfl (Je (v := .pointer (some ⟨pb0, 0, none⟩)) rfl) ?_
    refine Ja rfl rfl rfl (Je (v := .int .i64 t30) rfl) ?_
    refine Ja rfl rfl rfl (Je (v := .int .i64 a2) rfl) ?_
    obtain ⟨t56, h_t56, H81⟩ := Jh H80; clear H80
    refine Ja rfl rfl rfl (Qe rfl rfl h_t56) ?_
    refine Ja rfl rfl rfl (Je (v := Jv a3) rfl) ?_
    obtain ⟨t58, h_t58, H82⟩ := Jh H81; clear H81
    refine Jl 2 3 rfl rfl (by decide) ?_
    refine Jl 1 2 rfl rfl (by decide) ?_
    refine Jl 0 1 rfl rfl (by decide) ?_
    refine Xg (Ql (i := 0) (rds := []) (G := fun x : (Option Addr × Nat) × Nat × (Option Addr × Nat) × Nat => .tuple #[.slice x.1.1 t58.1.length x.1.2, .int .i64 t58.2.1, .int .i64 t58.2.2.1]) (C := fun x : (Option Addr × Nat) × Nat × (Option Addr × Nat) × Nat => J1 (Jo pb0 [Jv t58.2.2.2.s_, .bool t58.2.2.2.big_, .map (some x.2.1), .slice x.2.2.1.1 t58.2.2.2.parts_.length x.2.2.1.2, .map (some x.2.2.2)] 119) (J1 (Q1 (fun x_ : Int => .int .i64 x_) (fun x_ : Bool => .bool x_) x.2.1 t58.2.2.2.starts_) (J1 (Qa 56 2 (.slice x.2.2.1.1 t58.2.2.2.parts_.length x.2.2.1.2) t58.2.2.2.parts_.length (t58.2.2.2.parts_.map Jj)) (J1 (Q1 (fun x_ : (List UInt8) => Jv x_) (fun x_ : T_tintref2_place => .agg #[.int .i64 x_.entry_, .int .i64 x_.from_, .int .i64 x_.to_]) x.2.2.2 t58.2.2.2.places_) (W3 83 6 g_tag_Entry (.slice x.1.1 t58.1.length x.1.2) t58.1.length t58.1))))) rfl (fun w L' S hF hS hi hp hlt ho hA => ih (a0 := (⟨a0.s_, a0.big_, a0.starts_, a0.parts_, (Z6 a0.places_ a3 (⟨a1, 0, 0⟩ : T_tintref2_place))⟩ : T_tintref2_reader)) hp hlt (Xa w S) hn0_3 (tb_pow10.mono (hw.but hF ho)) h_t58) Tryz.call133 rfl) rfl rfl rfl (fun ⟨p, p_2, p_3, p_4⟩ => ?_)
    refine Qk 0 1 rfl rfl (by decide) ?_
    refine Qk 1 2 rfl rfl (by decide) ?_
    refine Qk 2 3 rfl rfl (by decide) ?_
    refine Q2 3 rfl ?_
    refine Ja rfl rfl rfl (Je (v := .tuple #[.slice p.1 t58.1.length p.2, .int .i64 t58.2.1, .int .i64 t58.2.2.1]) rfl) ?_
    refine Ja rfl rfl rfl (Qs (v := .slice p.1 t58.1.length p.2) rfl rfl) ?_
    refine Ja rfl rfl rfl (Qs (v := .int .i64 t58.2.1) rfl rfl) ?_
    refine Ja rfl rfl rfl (Qs (v := .int .i64 t58.2.2.1) rfl rfl) ?_
    refine Ja rfl rfl rfl (Jk Tryz.runUnderlying38 rfl Tryz.sizeOf36 rfl rfl) ?_
    refine Qc (i := 5) (vs := [.slice p.1 t58.1.length p.2]) (cs' := [.int .i64 t21, Jv [], .slice none 0 0, .slice none 0 0, .slice p.1 t58.1.length p.2]) Tryz.sizeOf36 rfl rfl rfl rfl rfl rfl rfl rfl rfl ?_
    refine Ja rfl rfl rfl (Jc (v := .int .i64 t58.2.2.1) rfl) ?_
    refine Jg ?_
    refine Jf ?_
    try dsimp only [z1, z2, z5, z6, z7, z8]
    refine Jb ?_
    refine Xr (i := 5) (vs := [.int .i64 t21, Jv [], .slice none 0 0, .slice none 0 0, .slice p.1 t58.1.length p.2]) Tryz.isAgg38 Tryz.sizeOf38 rfl rfl rfl rfl rfl ?_
    refine Ja rfl rfl rfl (Je (v := .int .i64 t58.2.2.1) rfl) ?_
    refine Qc (i := 5) (vs := [.int .i64 t21, Jv [], .slice none 0 0, .slice none 0 0, .slice p.1 t58.1.length p.2]) (cs' := [.int .i64 t21, Jv [], .slice none 0 0, .slice none 0 0, .slice p.1 t58.1.length p.2]) Tryz.sizeOf38 rfl rfl rfl rfl rfl rfl rfl rfl rfl ?_
    refine Ja rfl rfl rfl (Jc (v := .int .i64 t58.2.2.1) rfl) ?_
    refine Jg ?_
    refine Jx ?_
    try dsimp only [z1, z2, z3, z4, z5, z6, z7, z8]
    refine J0 3 1 ?_
    refine J0 74 2 ?_
    obtain rfl := Option.some.inj H82
    refine Jl 8 6 rfl rfl (by decide) ?_
    refine Jl 7 8 rfl rfl (by decide) ?_
    refine Jl 3 7 rfl rfl (by decide) ?_
    refine Jl 2 3 rfl rfl (by decide) ?_
    refine Jl 1 2 rfl rfl (by decide) ?_
    refine Jl 0 1 rfl rfl (by decide) ?_
    refine retCt (i := 5) (vs := [.int .i64 t21, Jv [], .slice ((none, 0) : Option Addr × Nat).1 ([] : List Int).length ((none, 0) : Option Addr × Nat).2, .slice ((none, 0) : Option Addr × Nat).1 ([] : List T_tag_Ratio).length ((none, 0) : Option Addr × Nat).2, .slice p.1 t58.1.length p.2]) (v2 := .int .i64 t58.2.2.1) Tryz.isAgg38 Tryz.sizeOf38 rfl rfl rfl rfl rfl (V6 (((none, 0) : Option Addr × Nat), ((none, 0) : Option Addr × Nat), p, p_2, p_3, p_4) (i := 0) rfl rfl (Imp.refl _))
  ·have H83 := Jq hb H77; clear H77
   refine Jt ?_
   refine Jf ?_
   try dsimp only [z1, z2, z5, z6, z7, z8]
   refine Jb ?_
   refine Ja rfl rfl rfl (Je (v := .int .i64 a1) rfl) ?_
   obtain ⟨t66, h_t66, H84⟩ := Jh H83; clear H83
   refine Ja rfl rfl rfl (Qe rfl rfl h_t66) ?_
   refine Ja rfl rfl rfl (Je (v := .int .i64 t26) rfl) ?_
   refine Ja rfl rfl rfl (Je (v := .int .i64 t33) rfl) ?_
   obtain ⟨t69, h_t69, H85⟩ := Jh H84; clear H84
   refine Ja rfl rfl rfl (W6 rfl rfl h_t69) ?_
   refine Ja rfl rfl rfl (Jc (v := .int .i64 t66) rfl) ?_
   refine Ja rfl rfl rfl (Jc (v := .int .i64 t69) rfl) ?_
   refine Jg ?_
   refine Jf ?_
   refine Jb ?_
   refine Ja rfl rfl rfl (Je (v := .int .i64 a1) rfl) ?_
   refine Ja rfl rfl rfl (Yi (pl := #[(0, 1), (1, 1), (2, 1)]) (ps := [(0, .int .i64 a1)]) (cells := #[.int .i64 a1, .int .i64 0, .int .i64 0]) Tryz.zeroValue138 Tryz.runUnderlying138 (fun w => by kernel_rfl) rfl rfl) ?_
   refine Yo (cs := [.int .i64 0, .int .i64 0, .int .i64 0]) Tryz.zeroValue138 rfl rfl rfl (fun b6 => ?_)
   refine Qc (i := 6) (vs := [.int .i64 a1, .int .i64 0, .int .i64 0]) (cs' := [.int .i64 a1, .int .i64 0, .int .i64 0]) Tryz.sizeOf138 rfl rfl rfl rfl rfl rfl rfl rfl rfl ?_
   refine Jg ?_
   refine Qz (r := r) (σ := Int × (List T_tag_Span) × Int × Int) (τ := (Option Addr × Nat) × Nat) (fun s => Vp a0 a1 a3 t21 t33 t69 s.1 s.2.1 s.2.2.1 s.2.2.2) (fun s t => [(0, .pointer (some ⟨pb0, 0, none⟩)), (3, Jv a3), (8, .pointer (some ⟨b5, 0, none⟩)), (12, .int .i64 t33), (13, .int .i64 s.1), (14, .int .i64 t69), (15, .pointer (some ⟨b6, 0, none⟩))]) (fun s t => [Jo pb0 [Jv a0.s_, .bool a0.big_, .map (some m0_2), .slice t.1.1 t.2 t.1.2, .map (some m0_4)] 119, Q1 (fun x_ : Int => .int .i64 x_) (fun x_ : Bool => .bool x_) m0_2 a0.starts_, Qa 56 2 (.slice t.1.1 t.2 t.1.2) t.2 (s.2.1.map Jj), Q1 (fun x_ : (List UInt8) => Jv x_) (fun x_ : T_tintref2_place => .agg #[.int .i64 x_.entry_, .int .i64 x_.from_, .int .i64 x_.to_]) m0_4 a0.places_, Yv X6 X6, Jo b5 [.int .i64 t21, Jv [], .slice none 0 0, .slice none 0 0, .slice none 0 0] 38, Jo b6 [.int .i64 a1, .int .i64 s.2.2.1, .int .i64 s.2.2.2] 138]) (fun s t => t.2 = s.2.1.length) ?_ ?_
   ·refine Jf ?_
    refine Jb ?_
    refine Ja rfl rfl rfl (Je (v := .int .i64 t69) rfl) ?_
    refine Ja rfl rfl rfl (Zm rfl rfl) ?_
    refine Jg ?_
    refine Qd (b := (decide (4 < t69))) rfl (fun hb => ?_) (fun hb => ?_)
    ·have H129 := Jp hb H85; clear H85
     refine Jf ?_
     refine Jb ?_
     refine Ja rfl rfl rfl (Je (v := .int .i64 t30) rfl) ?_
     refine Ja rfl rfl rfl (Jc (v := .int .i64 t30) rfl) ?_
     refine Jg ?_
     refine Jf ?_
     refine Jf ?_
     refine Jb ?_
     refine Ja rfl rfl rfl (Je (v := .pointer (some ⟨pb0, 0, none⟩)) rfl) ?_
     refine Ja rfl rfl rfl (Je (v := .int .i64 t30) rfl) ?_
     refine Ja rfl rfl rfl (Je (v := .int .i64 t69) rfl) ?_
     obtain ⟨t78, h_t78, H130⟩ := Jh H129; clear H129
     refine Qw (fun w hF hS => k176 (a0 := a0) (J7 w) (Xz (fk := (fun x_ : Int => .int .i64 x_)) (fv := (fun x_ : Bool => .bool x_)) (i := 1) hS rfl) (Yn (i := 2) hn0_3 hS rfl) (Xz (fk := (fun x_ : (List UInt8) => Jv x_)) (fv := (fun x_ : T_tintref2_place => .agg #[.int .i64 x_.entry_, .int .i64 x_.from_, .int .i64 x_.to_])) (i := 3) hS rfl) (Xb (i := 0) hS rfl) h_t78) Tryz.call176 rfl rfl rfl ?_
     refine Ja rfl rfl rfl (r_not rfl) ?_
     refine Jg ?_
     refine Qd (b := (!t78)) rfl (fun hb => ?_) (fun hb => ?_)
     ·have H131 := Jp hb H130; clear H130
      refine Jf ?_
      refine Jb ?_
      refine Xr (i := 5) (vs := [.int .i64 t21, Jv [], .slice none 0 0, .slice none 0 0, .slice none 0 0]) Tryz.isAgg38 Tryz.sizeOf38 rfl rfl rfl rfl rfl ?_
      refine Qc (i := 5) (vs := [.int .i64 t21, Jv [], .slice none 0 0, .slice none 0 0, .slice none 0 0]) (cs' := [.int .i64 t21, Jv [], .slice none 0 0, .slice none 0 0, .slice none 0 0]) Tryz.sizeOf38 rfl rfl rfl rfl rfl rfl rfl rfl rfl ?_
      refine Ja rfl rfl rfl (Jc (v := .int .i64 2) rfl) ?_
      refine Jg ?_
      refine Jx ?_
      refine c_dr 6 ?_
      try dsimp only [z1, z2, z3, z4, z5, z6, z7, z8]
      refine J0 3 1 ?_
      refine J0 74 2 ?_
      refine J0 83 6 ?_
      try dsimp only [z1, z2, z5, z6, z7, z8]
      obtain rfl := Option.some.inj H131
      refine Jl 4 8 rfl rfl (by decide) ?_
      refine Y0 4 rfl (Xn (p := ((none, 0) : Option Addr × Nat)) rfl (AllC.nil (G := g_tag_Entry) (h := X6) (sz := 6))) ?_
      refine Jl 7 4 rfl rfl (by decide) ?_
      refine Jl 6 7 rfl rfl (by decide) ?_
      refine Jl 3 6 rfl rfl (by decide) ?_
      refine Jl 2 3 rfl rfl (by decide) ?_
      refine Jl 1 2 rfl rfl (by decide) ?_
      refine Jl 0 1 rfl rfl (by decide) ?_
      refine retCt (i := 5) (vs := [.int .i64 t21, Jv [], .slice ((none, 0) : Option Addr × Nat).1 ([] : List Int).length ((none, 0) : Option Addr × Nat).2, .slice ((none, 0) : Option Addr × Nat).1 ([] : List T_tag_Ratio).length ((none, 0) : Option Addr × Nat).2, .slice ((none, 0) : Option Addr × Nat).1 (([] : List (List Value)).length) ((none, 0) : Option Addr × Nat).2]) (v2 := .int .i64 2) Tryz.isAgg38 Tryz.sizeOf38 rfl rfl rfl rfl rfl (V6 (((none, 0) : Option Addr × Nat), ((none, 0) : Option Addr × Nat), ((none, 0) : Option Addr × Nat), m0_2, p0_3, m0_4) (i := 0) rfl (by first | rfl | rw [(show (([] : List (List Value)).length) = ([] : List T_tag_Entry).length from (AllC.nil (G := g_tag_Entry) (h := X6) (sz := 6)).len), (show n0_3 = a0.parts_.length from hn0_3)]) (by first | exact Imp.refl _ | exact Imp.of (by rw [(show (([] : List (List Value)).length) = ([] : List T_tag_Entry).length from (AllC.nil (G := g_tag_Entry) (h := X6) (sz := 6)).len), (show n0_3 = a0.parts_.length from hn0_3)] <;> rfl)))
     ·have H132 := Jq hb H130; clear H130
      refine Jt ?_
      refine Jf ?_
      try dsimp only [z1, z2, z5, z6, z7, z8]
      refine Jb ?_
      refine Ja rfl rfl rfl (Je (v := .pointer (some ⟨pb0, 0, none⟩)) rfl) ?_
      refine Ja rfl rfl rfl (Je (v := .pointer (some ⟨pb0, 0, none⟩)) rfl) ?_
      refine Ja rfl rfl rfl (Ju rfl) ?_
      refine Ja rfl rfl rfl (Jk Tryz.runUnderlying119 rfl Tryz.sizeOf48 rfl rfl) ?_
      refine Js (i := 0) (v := .slice p0_3.1 n0_3 p0_3.2) Tryz.isAgg48 rfl rfl rfl rfl rfl ?_
      refine Ja rfl rfl rfl (Je (v := .int .i64 t30) rfl) ?_
      refine Ja rfl rfl rfl (Je (v := .int .i64 t30) rfl) ?_
      refine Ja rfl rfl rfl (Je (v := .int .i64 t69) rfl) ?_
      obtain ⟨t89, h_t89, H133⟩ := Jh H132; clear H132
      refine Ja rfl rfl rfl (Qe rfl rfl h_t89) ?_
      refine Ja rfl rfl rfl (Yi (pl := #[(0, 1), (1, 1)]) (ps := [(0, .int .i64 t30), (1, .int .i64 t89)]) (cells := #[.int .i64 t30, .int .i64 t89]) Tryz.zeroValue56 Tryz.runUnderlying56 (fun w => by kernel_rfl) rfl rfl) ?_
      refine Q9 (vs := [.agg #[.int .i64 t30, .int .i64 t89]]) (cs := [.int .i64 t30, .int .i64 t89]) Tryz.underlying48 Tryz.sizeOf56 Tryz.zeroValue56 rfl rfl rfl rfl rfl rfl rfl (fun b9 => ?_)
      obtain ⟨l92, h_l92, H134⟩ := Jh H133; clear H133
      refine Xg (Y3 (i := 2) (hn := hn0_3) (rds := [7]) (p := p0_3) (sz := 2) (by_ := 16) (f := Jj) (ys := a0.parts_) (ls := ([(⟨t30, t89⟩ : T_tag_Span)] : List T_tag_Span)) (V := .slice (some ⟨b9, 0, none⟩) 1 1) Tryz.underlying48 (Z1 Tryz.typeInfo56) rfl rfl rfl rfl rfl rfl rfl rfl rfl rfl (fun w L' hF hS hi => Wo (i := 7) hS ((hi 7 (by simp)).trans rfl) rfl rfl) (fun _ => rfl) (fun _ => rfl) h_l92) rfl rfl rfl (fun p_12 => ?_)
      refine Ja rfl rfl rfl (Ju rfl) ?_
      refine Ja rfl rfl rfl (Jk Tryz.runUnderlying119 rfl Tryz.sizeOf48 rfl rfl) ?_
      refine Qc (i := 0) (vs := [.slice p_12.1 l92.length p_12.2]) (cs' := [Jv a0.s_, .bool a0.big_, .map (some m0_2), .slice p_12.1 l92.length p_12.2, .map (some m0_4)]) Tryz.sizeOf48 rfl rfl rfl rfl rfl rfl rfl rfl rfl ?_
      refine Jg ?_
      refine Jb ?_
      refine Ja rfl rfl rfl (Je (v := .int .i64 t30) rfl) ?_
      refine Ja rfl rfl rfl (Je (v := .int .i64 t30) rfl) ?_
      refine Ja rfl rfl rfl (Je (v := .int .i64 t69) rfl) ?_
      obtain ⟨t98, h_t98, H135⟩ := Jh H134; clear H134
      refine Ja rfl rfl rfl (Qe rfl rfl h_t98) ?_
      refine Ja rfl rfl rfl (Jk Tryz.runUnderlying138 rfl Tryz.sizeOf3 rfl rfl) ?_
      refine Qc (i := 6) (vs := [.int .i64 t30]) (cs' := [.int .i64 a1, .int .i64 t30, .int .i64 0]) Tryz.sizeOf3 rfl rfl rfl rfl rfl rfl rfl rfl rfl ?_
      refine Ja rfl rfl rfl (Jk Tryz.runUnderlying138 rfl Tryz.sizeOf3 rfl rfl) ?_
      refine Qc (i := 6) (vs := [.int .i64 t98]) (cs' := [.int .i64 a1, .int .i64 t30, .int .i64 t98]) Tryz.sizeOf3 rfl rfl rfl rfl rfl rfl rfl rfl rfl ?_
      refine Jg ?_
      refine Jn (t30, l92, t30, t98) (p_12, l92.length) 0 [0, 1, 2, 3, 4, 5, 6] (by exact ⟨rfl, rfl, rfl, rfl, rfl, rfl, rfl, trivial⟩) (by decide) (by kernel_rfl) (by exact ⟨H135, rfl⟩) (Nat.lt_succ_self _)
    ·have H136 := Jq hb H85; clear H85
     refine Jt ?_
     refine Jn (t66, a0.parts_, 0, 0) (p0_3, n0_3) 0 [0, 1, 2, 3, 4, 5, 6] (by exact ⟨rfl, rfl, rfl, rfl, rfl, rfl, rfl, trivial⟩) (by decide) (by kernel_rfl) (by exact ⟨H136, hn0_3⟩) (Nat.lt_succ_self _)
   ·rintro ⟨x13, l, m, m_2⟩ ⟨p_5, n⟩ gg H86 hl
    replace H86 : Vp a0 a1 a3 t21 t33 t69 x13 l m m_2 = some r := H86
    try dsimp only
    refine Jf ?_
    exact Xp (Kd.p :: Kd.p :: Kd.p :: Kd.d [0] _ :: Kd.p :: Kd.d [6] _ :: Kd.t 3 [] _ _ :: []) 0 mixed (by
     refine Jm rfl rfl (Je (v := .pointer (some ⟨pb0, 0, none⟩)) rfl) ?_
     refine Jm rfl rfl (Ju rfl) ?_
     refine Jm rfl rfl (Jk Tryz.runUnderlying119 rfl Tryz.sizeOf117 rfl rfl) ?_
     refine Xq (i := 0) (v := .map (some m0_4)) Tryz.isAgg117 rfl rfl rfl rfl ?_
     refine Jm rfl rfl (Je (v := Jv a3) rfl) ?_
     refine d_loadN (i := 6) (vs := [.int .i64 a1, .int .i64 m, .int .i64 m_2]) Tryz.isAgg138 Tryz.sizeOf138 rfl rfl rfl rfl ?_
     refine d_turn0 (Cv := fun _ => Q1 (fun x_ : (List UInt8) => Jv x_) (fun x_ : T_tintref2_place => .agg #[.int .i64 x_.entry_, .int .i64 x_.from_, .int .i64 x_.to_]) m0_4 (Z6 a0.places_ a3 (⟨a1, m, m_2⟩ : T_tintref2_place))) () (turns_mset (u := true) (i := 3) (rds := _) (fk := (fun x_ : (List UInt8) => Jv x_)) (fv := (fun x_ : T_tintref2_place => .agg #[.int .i64 x_.entry_, .int .i64 x_.from_, .int .i64 x_.to_])) (k := a3) (v := (⟨a1, m, m_2⟩ : T_tintref2_place)) keyF_str (.inr rfl) Tryz.underlying117 Tryz.underlying9 rfl rfl rfl rfl) (fun _ => rfl) rfl rfl (fun _ => ?_)
     refine Zh ?_
     refine Jf ?_
     refine Jb ?_
     refine Ja rfl rfl rfl (Je (v := .pointer (some ⟨pb0, 0, none⟩)) rfl) ?_
     refine Ja rfl rfl rfl (Ju rfl) ?_
     refine Ja rfl rfl rfl (Jk Tryz.runUnderlying119 rfl Tryz.sizeOf9 rfl rfl) ?_
     refine Js (i := 0) (v := Jv a0.s_) Tryz.isAgg9 rfl rfl rfl rfl rfl ?_
     refine Ja rfl rfl rfl (Je (v := .int .i64 x13) rfl) ?_
     refine Ja rfl rfl rfl (Je (v := .int .i64 x13) rfl) ?_
     refine Ja rfl rfl rfl (Je (v := .int .i64 t69) rfl) ?_
     obtain ⟨t114, h_t114, H87⟩ := Jh H86; clear H86
     refine Ja rfl rfl rfl (Qe rfl rfl h_t114) ?_
     obtain ⟨t115, h_t115, H88⟩ := Jh H87; clear H87
     refine Ja rfl rfl rfl (r_cutTG Tryz.underlying9 rfl rfl rfl h_t115) ?_
     refine Ja rfl rfl rfl (Jc (v := Jv t115) rfl) ?_
     refine Jg ?_
     refine Qz (r := r) (σ := (List UInt8) × (List Int) × (List T_tag_Ratio)) (τ := (Option Addr × Nat) × (Option Addr × Nat)) (fun s => Y5 a0 a1 a3 t21 l m m_2 s.1 s.2.1 s.2.2) (fun s t => [(8, .pointer (some ⟨b5, 0, none⟩))]) (fun s t => [Jo pb0 [Jv a0.s_, .bool a0.big_, .map (some m0_2), .slice p_5.1 n p_5.2, .map (some m0_4)] 119, Q1 (fun x_ : Int => .int .i64 x_) (fun x_ : Bool => .bool x_) m0_2 a0.starts_, Qa 56 2 (.slice p_5.1 n p_5.2) n (l.map Jj), Q1 (fun x_ : (List UInt8) => Jv x_) (fun x_ : T_tintref2_place => .agg #[.int .i64 x_.entry_, .int .i64 x_.from_, .int .i64 x_.to_]) m0_4 (Z6 a0.places_ a3 (⟨a1, m, m_2⟩ : T_tintref2_place)), Yv X6 X6, Jo b5 [.int .i64 t21, Jv s.1, .slice t.1.1 s.2.1.length t.1.2, .slice t.2.1 s.2.2.length t.2.2, .slice none 0 0] 38, Qa 3 1 (.slice t.1.1 s.2.1.length t.1.2) s.2.1.length (s.2.1.map Xc), Qa 74 2 (.slice t.2.1 s.2.2.length t.2.2) s.2.2.length (s.2.2.map Jz)]) (fun s t => True) ?_ ?_
     ·refine Jf ?_
      try dsimp only [z1, z2, z5, z6, z7, z8]
      refine Jb ?_
      refine Ja rfl rfl rfl (Jk Tryz.runUnderlying38 rfl Tryz.sizeOf3 rfl rfl) ?_
      refine Js (i := 5) (v := .int .i64 t21) Tryz.isAgg3 rfl rfl rfl rfl rfl ?_
      refine Jg ?_
      refine J8 ?_
      refine Jf ?_
      refine Jb ?_
      refine Ja rfl rfl rfl (Q0 rfl rfl) ?_
      refine Ja rfl rfl rfl (Jc (v := .bool (decide (t21 = 2))) rfl) ?_
      refine Jg ?_
      refine Qd (b := (decide (t21 = 2))) rfl (fun hb => ?_) (fun hb => ?_)
      ·have H90 := Jp hb H88; clear H88
       refine Jf ?_
       refine Jf ?_
       refine Jb ?_
       refine Ja rfl rfl rfl (Je (v := Jv t115) rfl) ?_
       refine Ja rfl rfl rfl (r_eqlT rfl rfl) ?_
       refine Ja rfl rfl rfl (Je (v := .bool (decide (t115 = []))) rfl) ?_
       refine split (fun hb => ?_) (fun hb => ?_)
       ·have H91 := Jp hb H90; clear H90
        refine Ji rfl rfl rfl ?_
        refine Ji rfl rfl rfl ?_
        refine Ji rfl rfl rfl ?_
        refine Ji rfl rfl rfl ?_
        refine Ji rfl rfl rfl ?_
        refine Ji rfl rfl rfl ?_
        refine Ja rfl rfl rfl (J9 (v := .bool true) rfl rfl) ?_
        refine Jg ?_
        refine Uw rfl ?_
        refine Jf ?_
        refine Jb ?_
        refine Xr (i := 5) (vs := [.int .i64 t21, Jv [], .slice none 0 0, .slice none 0 0, .slice none 0 0]) Tryz.isAgg38 Tryz.sizeOf38 rfl rfl rfl rfl rfl ?_
        refine Qc (i := 5) (vs := [.int .i64 t21, Jv [], .slice none 0 0, .slice none 0 0, .slice none 0 0]) (cs' := [.int .i64 t21, Jv [], .slice none 0 0, .slice none 0 0, .slice none 0 0]) Tryz.sizeOf38 rfl rfl rfl rfl rfl rfl rfl rfl rfl ?_
        refine Ja rfl rfl rfl (Jc (v := .int .i64 1) rfl) ?_
        refine Jg ?_
        refine Jx ?_
        refine c_dr 6 ?_
        try dsimp only [z1, z2, z3, z4, z5, z6, z7, z8]
        refine J0 3 1 ?_
        refine J0 74 2 ?_
        refine J0 83 6 ?_
        try dsimp only [z1, z2, z5, z6, z7, z8]
        obtain rfl := Option.some.inj H91
        refine Jl 4 8 rfl rfl (by decide) ?_
        refine Y0 4 rfl (Xn (p := ((none, 0) : Option Addr × Nat)) rfl (AllC.nil (G := g_tag_Entry) (h := X6) (sz := 6))) ?_
        refine Jl 7 4 rfl rfl (by decide) ?_
        refine Jl 6 7 rfl rfl (by decide) ?_
        refine Jl 3 6 rfl rfl (by decide) ?_
        refine Jl 2 3 rfl rfl (by decide) ?_
        refine Jl 1 2 rfl rfl (by decide) ?_
        refine Jl 0 1 rfl rfl (by decide) ?_
        refine retCt (i := 5) (vs := [.int .i64 t21, Jv [], .slice ((none, 0) : Option Addr × Nat).1 ([] : List Int).length ((none, 0) : Option Addr × Nat).2, .slice ((none, 0) : Option Addr × Nat).1 ([] : List T_tag_Ratio).length ((none, 0) : Option Addr × Nat).2, .slice ((none, 0) : Option Addr × Nat).1 (([] : List (List Value)).length) ((none, 0) : Option Addr × Nat).2]) (v2 := .int .i64 1) Tryz.isAgg38 Tryz.sizeOf38 rfl rfl rfl rfl rfl (V6 (((none, 0) : Option Addr × Nat), ((none, 0) : Option Addr × Nat), ((none, 0) : Option Addr × Nat), m0_2, p_5, m0_4) (i := 0) rfl (by first | rfl | rw [(show (([] : List (List Value)).length) = ([] : List T_tag_Entry).length from (AllC.nil (G := g_tag_Entry) (h := X6) (sz := 6)).len), (show n = l.length from hl)]) (by first | exact Imp.refl _ | exact Imp.of (by rw [(show (([] : List (List Value)).length) = ([] : List T_tag_Entry).length from (AllC.nil (G := g_tag_Entry) (h := X6) (sz := 6)).len), (show n = l.length from hl)] <;> rfl)))
       ·have H92 := Jq hb H90; clear H90
        refine Ja rfl rfl rfl (Je (v := Jv t115) rfl) ?_
        refine Ja rfl rfl rfl (Je (v := Jv t115) rfl) ?_
        refine Ja rfl rfl rfl (Z0 Tryz.underlying9 rfl) ?_
        obtain ⟨t154, h_t154, H93⟩ := Jh H92; clear H92
        refine Ja rfl rfl rfl (Wv rfl rfl h_t154) ?_
        obtain ⟨t155, h_t155, H94⟩ := Jh H93; clear H93
        refine Ja rfl rfl rfl (r_octG Tryz.underlying9 rfl rfl h_t155) ?_
        refine Ja rfl rfl rfl (Va rfl rfl) ?_
        refine Ja rfl rfl rfl (Qf (v := .bool (decide (t155 ≠ 0))) rfl rfl) ?_
        refine Jg ?_
        refine Qd (b := (decide (t155 ≠ 0))) rfl (fun hb => ?_) (fun hb => ?_)
        ·have H95 := Jp hb H94; clear H94
         refine Jf ?_
         try dsimp only [z1, z2, z5, z6, z7, z8]
         refine Jb ?_
         refine Xr (i := 5) (vs := [.int .i64 t21, Jv [], .slice none 0 0, .slice none 0 0, .slice none 0 0]) Tryz.isAgg38 Tryz.sizeOf38 rfl rfl rfl rfl rfl ?_
         refine Qc (i := 5) (vs := [.int .i64 t21, Jv [], .slice none 0 0, .slice none 0 0, .slice none 0 0]) (cs' := [.int .i64 t21, Jv [], .slice none 0 0, .slice none 0 0, .slice none 0 0]) Tryz.sizeOf38 rfl rfl rfl rfl rfl rfl rfl rfl rfl ?_
         refine Ja rfl rfl rfl (Jc (v := .int .i64 1) rfl) ?_
         refine Jg ?_
         refine Jx ?_
         refine c_dr 6 ?_
         try dsimp only [z1, z2, z3, z4, z5, z6, z7, z8]
         refine J0 3 1 ?_
         refine J0 74 2 ?_
         refine J0 83 6 ?_
         try dsimp only [z1, z2, z5, z6, z7, z8]
         obtain rfl := Option.some.inj H95
         refine Jl 4 8 rfl rfl (by decide) ?_
         refine Y0 4 rfl (Xn (p := ((none, 0) : Option Addr × Nat)) rfl (AllC.nil (G := g_tag_Entry) (h := X6) (sz := 6))) ?_
         refine Jl 7 4 rfl rfl (by decide) ?_
         refine Jl 6 7 rfl rfl (by decide) ?_
         refine Jl 3 6 rfl rfl (by decide) ?_
         refine Jl 2 3 rfl rfl (by decide) ?_
         refine Jl 1 2 rfl rfl (by decide) ?_
         refine Jl 0 1 rfl rfl (by decide) ?_
         refine retCt (i := 5) (vs := [.int .i64 t21, Jv [], .slice ((none, 0) : Option Addr × Nat).1 ([] : List Int).length ((none, 0) : Option Addr × Nat).2, .slice ((none, 0) : Option Addr × Nat).1 ([] : List T_tag_Ratio).length ((none, 0) : Option Addr × Nat).2, .slice ((none, 0) : Option Addr × Nat).1 (([] : List (List Value)).length) ((none, 0) : Option Addr × Nat).2]) (v2 := .int .i64 1) Tryz.isAgg38 Tryz.sizeOf38 rfl rfl rfl rfl rfl (V6 (((none, 0) : Option Addr × Nat), ((none, 0) : Option Addr × Nat), ((none, 0) : Option Addr × Nat), m0_2, p_5, m0_4) (i := 0) rfl (by first | rfl | rw [(show (([] : List (List Value)).length) = ([] : List T_tag_Entry).length from (AllC.nil (G := g_tag_Entry) (h := X6) (sz := 6)).len), (show n = l.length from hl)]) (by first | exact Imp.refl _ | exact Imp.of (by rw [(show (([] : List (List Value)).length) = ([] : List T_tag_Entry).length from (AllC.nil (G := g_tag_Entry) (h := X6) (sz := 6)).len), (show n = l.length from hl)] <;> rfl)))
        ·have H96 := Jq hb H94; clear H94
         refine Jt ?_
         refine Jf ?_
         try dsimp only [z1, z2, z5, z6, z7, z8]
         refine Jb ?_
         refine Ja rfl rfl rfl (Je (v := Jv t115) rfl) ?_
         refine Ja rfl rfl rfl (Je (v := Jv t115) rfl) ?_
         refine Ja rfl rfl rfl (Z0 Tryz.underlying9 rfl) ?_
         obtain ⟨t162, h_t162, H97⟩ := Jh H96; clear H96
         refine Ja rfl rfl rfl (Wv rfl rfl h_t162) ?_
         obtain ⟨t163, h_t163, H98⟩ := Jh H97; clear H97
         refine Ja rfl rfl rfl (Jaj Tryz.underlying9 rfl rfl h_t163) ?_
         refine Ja rfl rfl rfl (Jk Tryz.runUnderlying38 rfl Tryz.sizeOf9 rfl rfl) ?_
         refine Qc (i := 5) (vs := [Jv t163]) (cs' := [.int .i64 t21, Jv t163, .slice none 0 0, .slice none 0 0, .slice none 0 0]) Tryz.sizeOf9 rfl rfl rfl rfl rfl rfl rfl rfl rfl ?_
         refine Jg ?_
         refine Jf ?_
         refine Jb ?_
         refine Ja rfl rfl rfl (Jk Tryz.runUnderlying38 rfl Tryz.sizeOf9 rfl rfl) ?_
         refine Js (i := 5) (v := Jv t163) Tryz.isAgg9 rfl rfl rfl rfl rfl ?_
         obtain ⟨t167, h_t167, H99⟩ := Jh H98; clear H98
         refine Wb (k142 h_t167) Tryz.call142 rfl rfl rfl ?_
         refine Ja rfl rfl rfl (r_geq rfl rfl) ?_
         refine Jg ?_
         refine Qd (b := (decide (0 ≤ t167))) rfl (fun hb => ?_) (fun hb => ?_)
         ·have H100 := Jp hb H99; clear H99
          refine Jf ?_
          refine Jb ?_
          refine Xr (i := 5) (vs := [.int .i64 t21, Jv t163, .slice none 0 0, .slice none 0 0, .slice none 0 0]) Tryz.isAgg38 Tryz.sizeOf38 rfl rfl rfl rfl rfl ?_
          refine Qc (i := 5) (vs := [.int .i64 t21, Jv t163, .slice none 0 0, .slice none 0 0, .slice none 0 0]) (cs' := [.int .i64 t21, Jv t163, .slice none 0 0, .slice none 0 0, .slice none 0 0]) Tryz.sizeOf38 rfl rfl rfl rfl rfl rfl rfl rfl rfl ?_
          refine Ja rfl rfl rfl (Jc (v := .int .i64 9) rfl) ?_
          refine Jg ?_
          refine Jx ?_
          refine c_dr 6 ?_
          try dsimp only [z1, z2, z3, z4, z5, z6, z7, z8]
          refine J0 3 1 ?_
          refine J0 74 2 ?_
          refine J0 83 6 ?_
          try dsimp only [z1, z2, z5, z6, z7, z8]
          obtain rfl := Option.some.inj H100
          refine Jl 4 8 rfl rfl (by decide) ?_
          refine Y0 4 rfl (Xn (p := ((none, 0) : Option Addr × Nat)) rfl (AllC.nil (G := g_tag_Entry) (h := X6) (sz := 6))) ?_
          refine Jl 7 4 rfl rfl (by decide) ?_
          refine Jl 6 7 rfl rfl (by decide) ?_
          refine Jl 3 6 rfl rfl (by decide) ?_
          refine Jl 2 3 rfl rfl (by decide) ?_
          refine Jl 1 2 rfl rfl (by decide) ?_
          refine Jl 0 1 rfl rfl (by decide) ?_
          refine retCt (i := 5) (vs := [.int .i64 t21, Jv t163, .slice ((none, 0) : Option Addr × Nat).1 ([] : List Int).length ((none, 0) : Option Addr × Nat).2, .slice ((none, 0) : Option Addr × Nat).1 ([] : List T_tag_Ratio).length ((none, 0) : Option Addr × Nat).2, .slice ((none, 0) : Option Addr × Nat).1 (([] : List (List Value)).length) ((none, 0) : Option Addr × Nat).2]) (v2 := .int .i64 9) Tryz.isAgg38 Tryz.sizeOf38 rfl rfl rfl rfl rfl (V6 (((none, 0) : Option Addr × Nat), ((none, 0) : Option Addr × Nat), ((none, 0) : Option Addr × Nat), m0_2, p_5, m0_4) (i := 0) rfl (by first | rfl | rw [(show (([] : List (List Value)).length) = ([] : List T_tag_Entry).length from (AllC.nil (G := g_tag_Entry) (h := X6) (sz := 6)).len), (show n = l.length from hl)]) (by first | exact Imp.refl _ | exact Imp.of (by rw [(show (([] : List (List Value)).length) = ([] : List T_tag_Entry).length from (AllC.nil (G := g_tag_Entry) (h := X6) (sz := 6)).len), (show n = l.length from hl)] <;> rfl)))
         ·have H101 := Jq hb H99; clear H99
          refine Jt ?_
          refine J0 3 1 ?_
          refine J0 74 2 ?_
          refine Jn (t163, ([] : List Int), ([] : List T_tag_Ratio)) (((none, 0) : Option Addr × Nat), ((none, 0) : Option Addr × Nat)) 0 [0, 1, 2, 3, 4, 5, 7, 8] (by exact ⟨rfl, trivial⟩) (by decide) (by kernel_rfl) (by exact ⟨H101, trivial⟩) (Nat.lt_succ_self _)
      ·have H102 := Jq hb H88; clear H88
       refine Jf ?_
       try dsimp only [z1, z2, z5, z6, z7, z8]
       refine Jb ?_
       refine Ja rfl rfl rfl (Q0 rfl rfl) ?_
       refine Ja rfl rfl rfl (Jc (v := .bool (decide (t21 = 7))) rfl) ?_
       refine Jg ?_
       refine Qd (b := (decide (t21 = 7))) rfl (fun hb => ?_) (fun hb => ?_)
       ·have H103 := Jp hb H102; clear H102
        refine Jb ?_
        refine Ja rfl rfl rfl (Je (v := Jv t115) rfl) ?_
        refine Ja rfl rfl rfl (Jk Tryz.runUnderlying38 rfl Tryz.sizeOf9 rfl rfl) ?_
        refine Qc (i := 5) (vs := [Jv t115]) (cs' := [.int .i64 t21, Jv t115, .slice none 0 0, .slice none 0 0, .slice none 0 0]) Tryz.sizeOf9 rfl rfl rfl rfl rfl rfl rfl rfl rfl ?_
        refine Jg ?_
        refine J0 3 1 ?_
        refine J0 74 2 ?_
        refine Jn (t115, ([] : List Int), ([] : List T_tag_Ratio)) (((none, 0) : Option Addr × Nat), ((none, 0) : Option Addr × Nat)) 0 [0, 1, 2, 3, 4, 5, 7, 8] (by exact ⟨rfl, trivial⟩) (by decide) (by kernel_rfl) (by exact ⟨H103, trivial⟩) (Nat.lt_succ_self _)
       ·have H104 := Jq hb H102; clear H102
        refine Jf ?_
        refine Jb ?_
        refine Ja rfl rfl rfl (Q0 rfl rfl) ?_
        refine Ja rfl rfl rfl (Jc (v := .bool (decide (t21 = 5))) rfl) ?_
        refine Jg ?_
        refine Qd (b := (decide (t21 = 5))) rfl (fun hb => ?_) (fun hb => ?_)
        ·have H105 := Jp hb H104; clear H104
         refine J8 ?_
         refine c_dr 6 ?_
         try dsimp only [z1, z2, z3, z4, z5, z6, z7, z8]
         refine J0 74 2 ?_
         refine Z2 (σ := (List UInt8) × (List T_tag_Ratio)) (τ := (Option Addr × Nat)) (fun next3 s => Yd a0 a1 a3 t21 l m m_2 next3 s.1 s.2) (fun s t => [(0, .pointer (some ⟨pb0, 0, none⟩)), (8, .pointer (some ⟨b5, 0, none⟩)), (16, Jv s.1)]) (fun s t => [Jo pb0 [Jv a0.s_, .bool a0.big_, .map (some m0_2), .slice p_5.1 n p_5.2, .map (some m0_4)] 119, Q1 (fun x_ : Int => .int .i64 x_) (fun x_ : Bool => .bool x_) m0_2 a0.starts_, Qa 56 2 (.slice p_5.1 n p_5.2) n (l.map Jj), Q1 (fun x_ : (List UInt8) => Jv x_) (fun x_ : T_tintref2_place => .agg #[.int .i64 x_.entry_, .int .i64 x_.from_, .int .i64 x_.to_]) m0_4 (Z6 a0.places_ a3 (⟨a1, m, m_2⟩ : T_tintref2_place)), Yv X6 X6, Jo b5 [.int .i64 t21, Jv [], .slice none 0 0, .slice t.1 s.2.length t.2, .slice none 0 0] 38, Qa 74 2 (.slice t.1 s.2.length t.2) s.2.length (s.2.map Jz)]) (fun s t => True) (t115, ([] : List T_tag_Ratio)) ((none, 0) : Option Addr × Nat) [0, 1, 2, 3, 4, 5, 6] H105 (by exact trivial) (by exact ⟨rfl, rfl, rfl, trivial⟩) (by decide) rfl ?_
         rintro ⟨x16_2, l_5⟩ p_8 m3 gg H106 _
         clear H105
         replace H106 : Yd a0 a1 a3 t21 l m m_2 (it (fun next3 s => Yd a0 a1 a3 t21 l m m_2 next3 s.1 s.2) m3) x16_2 l_5 = some r := H106
         generalize hn3 : it (fun next3 s => Yd a0 a1 a3 t21 l m m_2 next3 s.1 s.2) m3 = next3 at H106
         try dsimp only
         refine Jf ?_
         refine Jf ?_
         refine Jb ?_
         refine Ja rfl rfl rfl (Je (v := Jv x16_2) rfl) ?_
         refine Ja rfl rfl rfl (r_neqT rfl rfl) ?_
         refine Jg ?_
         refine Qd (b := (decide (x16_2 ≠ []))) rfl (fun hb => ?_) (fun hb => ?_)
         ·have H107 := Jp hb H106; clear H106
          refine Jt ?_
          refine Jf ?_
          refine J8 ?_
          exact Xp (Kd.p :: Kd.d [5] _ :: Kd.p :: Kd.p :: Kd.p :: Kd.d [0] _ :: Kd.p :: Kd.p :: Kd.d [] _ :: Kd.p :: Kd.p :: Kd.p :: Kd.d [0] _ :: Kd.p :: Kd.p :: Kd.d [] _ :: Kd.p :: Kd.ns 7 [_, _] 74 1 :: Kd.t 6 [7] _ _ :: Kd.p :: Kd.sv 199 198 5 _ 38 :: []) 1 mixed (by
           refine Jm rfl rfl (Jk Tryz.runUnderlying38 rfl Tryz.sizeOf31 rfl rfl) ?_
           refine Xq (i := 5) (v := .slice p_8.1 l_5.length p_8.2) Tryz.isAgg31 rfl rfl rfl rfl ?_
           refine Jm rfl rfl (Je (v := .pointer (some ⟨pb0, 0, none⟩)) rfl) ?_
           refine Jm rfl rfl (Ju rfl) ?_
           refine Jm rfl rfl (Jk Tryz.runUnderlying119 rfl Tryz.sizeOf4 rfl rfl) ?_
           refine Xq (i := 0) (v := .bool a0.big_) Tryz.isAgg4 rfl rfl rfl rfl ?_
           refine Jm rfl rfl (Je (v := Jv x16_2) rfl) ?_
           have h_t187 := Qg H107
           have H108 := J6 H107
           refine Jm rfl rfl (Jaj Tryz.underlying9 rfl rfl h_t187) ?_
           have h_t188 := Qg H108
           have H109 := J6 H108
           refine d_call (k175 h_t188) Tryz.call175 rfl rfl ?_
           refine Jm rfl rfl (Je (v := .pointer (some ⟨pb0, 0, none⟩)) rfl) ?_
           refine Jm rfl rfl (Ju rfl) ?_
           refine Jm rfl rfl (Jk Tryz.runUnderlying119 rfl Tryz.sizeOf4 rfl rfl) ?_
           refine Xq (i := 0) (v := .bool a0.big_) Tryz.isAgg4 rfl rfl rfl rfl ?_
           refine Jm rfl rfl (Je (v := Jv x16_2) rfl) ?_
           have h_t194 := Qg H109
           have H110 := J6 H109
           refine Jm rfl rfl (r_cutTG Tryz.underlying9 rfl rfl rfl h_t194) ?_
           have h_t195 := Qg H110
           have H111 := J6 H110
           refine d_call (k175 h_t195) Tryz.call175 rfl rfl ?_
           refine Jm rfl rfl (Yi (pl := #[(0, 1), (1, 1)]) (ps := [(0, .int .i64 (val (Qt a0.big_ (val (Ys x16_2 0 4))))), (1, .int .i64 (val (Qt a0.big_ (val (Ys x16_2 4 8)))))]) (cells := #[.int .i64 (val (Qt a0.big_ (val (Ys x16_2 0 4)))), .int .i64 (val (Qt a0.big_ (val (Ys x16_2 4 8))))]) Tryz.zeroValue74 Tryz.runUnderlying74 (fun w => by kernel_rfl) rfl rfl) ?_
           refine d_newS rfl rfl (run_buildSlice (vs := [.agg #[.int .i64 (val (Qt a0.big_ (val (Ys x16_2 0 4)))), .int .i64 (val (Qt a0.big_ (val (Ys x16_2 4 8))))]]) (cs := [.int .i64 (val (Qt a0.big_ (val (Ys x16_2 0 4)))), .int .i64 (val (Qt a0.big_ (val (Ys x16_2 4 8))))]) Tryz.underlying31 Tryz.sizeOf74 Tryz.zeroValue74 rfl rfl rfl rfl rfl) rfl (fun b7 => ?_)
           have h_l198 := Qg H111
           have H112 := J6 H111
           refine d_turn (Cv := fun v => Qa 74 2 v (val (Vu 16 l_5 ([(⟨(val (Qt a0.big_ (val (Ys x16_2 0 4)))), (val (Qt a0.big_ (val (Ys x16_2 4 8))))⟩ : T_tag_Ratio)] : List T_tag_Ratio))).length ((val (Vu 16 l_5 ([(⟨(val (Qt a0.big_ (val (Ys x16_2 0 4)))), (val (Qt a0.big_ (val (Ys x16_2 4 8))))⟩ : T_tag_Ratio)] : List T_tag_Ratio))).map Jz)) (none, 0) (Y3 (i := 6) (hn := rfl) (rds := [7]) (p := p_8) (sz := 2) (by_ := 16) (f := Jz) (ys := l_5) (ls := ([(⟨(val (Qt a0.big_ (val (Ys x16_2 0 4)))), (val (Qt a0.big_ (val (Ys x16_2 4 8))))⟩ : T_tag_Ratio)] : List T_tag_Ratio)) (V := .slice (some ⟨b7, 0, none⟩) 1 1) Tryz.underlying31 (Z1 Tryz.typeInfo74) rfl rfl rfl rfl rfl rfl rfl rfl rfl rfl (fun w L' hF hS hi => Wo (i := 7) hS ((hi 7 (by simp)).trans rfl) rfl rfl) (fun _ => rfl) (fun _ => rfl) h_l198) (fun _ => rfl) rfl rfl (fun p_9 => ?_)
           refine Jm rfl rfl (Jk Tryz.runUnderlying38 rfl Tryz.sizeOf31 rfl rfl) ?_
           refine d_storeV (i := 5) (vs := [.slice p_9.1 (val (Vu 16 l_5 ([(⟨(val (Qt a0.big_ (val (Ys x16_2 0 4)))), (val (Qt a0.big_ (val (Ys x16_2 4 8))))⟩ : T_tag_Ratio)] : List T_tag_Ratio))).length p_9.2]) (cs' := fun v_ => [.int .i64 t21, Jv [], .slice none 0 0, v_, .slice none 0 0]) Tryz.sizeOf31 rfl rfl rfl rfl rfl rfl rfl rfl rfl ?_
           refine Zh ?_
           refine Jb ?_
           refine Ja rfl rfl rfl (Je (v := Jv x16_2) rfl) ?_
           obtain ⟨t179, h_t179, H113⟩ := Jh H112; clear H112
           refine Ja rfl rfl rfl (r_cutFromG Tryz.underlying9 rfl rfl h_t179) ?_
           refine Ja rfl rfl rfl (Jc (v := Jv t179) rfl) ?_
           refine Jg ?_
           refine Jn (t179, (val (Vu 16 l_5 ([(⟨(val (Qt a0.big_ (val (Ys x16_2 0 4)))), (val (Qt a0.big_ (val (Ys x16_2 4 8))))⟩ : T_tag_Ratio)] : List T_tag_Ratio)))) p_9 m3 [0, 1, 2, 3, 4, 5, 6] (by exact ⟨rfl, rfl, rfl, trivial⟩) (by decide) (by kernel_rfl) (by exact ⟨(by subst hn3; exact H113), trivial⟩) (Nat.lt_succ_self _)
           ) (by kernel_rfl)
         ·have H114 := Jq hb H106; clear H106
          refine X3 ?_
          refine J0 3 1 ?_
          refine Jn ([], ([] : List Int), l_5) (((none, 0) : Option Addr × Nat), p_8) 0 [0, 1, 2, 3, 4, 5, 7, 6] (by exact ⟨rfl, trivial⟩) (by decide) (by kernel_rfl) (by exact ⟨H114, trivial⟩) (Nat.lt_succ_self _)
        ·have H115 := Jq hb H104; clear H104
         refine J8 ?_
         refine c_dr 6 ?_
         try dsimp only [z1, z2, z3, z4, z5, z6, z7, z8]
         refine J0 3 1 ?_
         refine Z2 (σ := (List UInt8) × (List Int)) (τ := (Option Addr × Nat)) (fun next4 s => Yc a0 a1 a3 t21 t33 l m m_2 next4 s.1 s.2) (fun s t => [(0, .pointer (some ⟨pb0, 0, none⟩)), (8, .pointer (some ⟨b5, 0, none⟩)), (12, .int .i64 t33), (16, Jv s.1)]) (fun s t => [Jo pb0 [Jv a0.s_, .bool a0.big_, .map (some m0_2), .slice p_5.1 n p_5.2, .map (some m0_4)] 119, Q1 (fun x_ : Int => .int .i64 x_) (fun x_ : Bool => .bool x_) m0_2 a0.starts_, Qa 56 2 (.slice p_5.1 n p_5.2) n (l.map Jj), Q1 (fun x_ : (List UInt8) => Jv x_) (fun x_ : T_tintref2_place => .agg #[.int .i64 x_.entry_, .int .i64 x_.from_, .int .i64 x_.to_]) m0_4 (Z6 a0.places_ a3 (⟨a1, m, m_2⟩ : T_tintref2_place)), Yv X6 X6, Jo b5 [.int .i64 t21, Jv [], .slice t.1 s.2.length t.2, .slice none 0 0, .slice none 0 0] 38, Qa 3 1 (.slice t.1 s.2.length t.2) s.2.length (s.2.map Xc)]) (fun s t => True) (t115, ([] : List Int)) ((none, 0) : Option Addr × Nat) [0, 1, 2, 3, 4, 5, 6] H115 (by exact trivial) (by exact ⟨rfl, rfl, rfl, rfl, trivial⟩) (by decide) rfl ?_
         rintro ⟨x16_4, l_7⟩ p_10 m4 gg H116 _
         clear H115
         replace H116 : Yc a0 a1 a3 t21 t33 l m m_2 (it (fun next4 s => Yc a0 a1 a3 t21 t33 l m m_2 next4 s.1 s.2) m4) x16_4 l_7 = some r := H116
         generalize hn4 : it (fun next4 s => Yc a0 a1 a3 t21 t33 l m m_2 next4 s.1 s.2) m4 = next4 at H116
         try dsimp only
         refine Jf ?_
         refine Jf ?_
         refine Jb ?_
         refine Ja rfl rfl rfl (Je (v := Jv x16_4) rfl) ?_
         refine Ja rfl rfl rfl (r_neqT rfl rfl) ?_
         refine Jg ?_
         refine Qd (b := (decide (x16_4 ≠ []))) rfl (fun hb => ?_) (fun hb => ?_)
         ·have H117 := Jp hb H116; clear H116
          refine Jt ?_
          refine Jf ?_
          refine J8 ?_
          refine Jf ?_
          exact Xp (Kd.p :: Kd.p :: Kd.p :: Kd.d [0] _ :: Kd.p :: Kd.p :: Kd.p :: Kd.d [] _ :: Kd.p :: []) 0 mixed (by
           refine Jm rfl rfl (Je (v := .pointer (some ⟨pb0, 0, none⟩)) rfl) ?_
           refine Jm rfl rfl (Ju rfl) ?_
           refine Jm rfl rfl (Jk Tryz.runUnderlying119 rfl Tryz.sizeOf4 rfl rfl) ?_
           refine Xq (i := 0) (v := .bool a0.big_) Tryz.isAgg4 rfl rfl rfl rfl ?_
           refine Jm rfl rfl (Je (v := Jv x16_4) rfl) ?_
           refine Jm rfl rfl (Je (v := .int .i64 t33) rfl) ?_
           have h_t129 := Qg H117
           have H118 := J6 H117
           refine Jm rfl rfl (Jaj Tryz.underlying9 rfl rfl h_t129) ?_
           have h_t130 := Qg H118
           have H119 := J6 H118
           refine d_call (k175 h_t130) Tryz.call175 rfl rfl ?_
           refine Jm rfl rfl (Jc (v := .int .i64 (val (Qt a0.big_ (val (Ys x16_4 0 t33))))) rfl) ?_
           refine Zh ?_
           refine Qz (r := r) (σ := Int) (τ := Unit) (fun s => Zo t33 x16_4 l_7 next4 s) (fun s t => [(0, .pointer (some ⟨pb0, 0, none⟩)), (8, .pointer (some ⟨b5, 0, none⟩)), (12, .int .i64 t33), (16, Jv x16_4), (17, .int .i64 s)]) (fun s t => [Jo pb0 [Jv a0.s_, .bool a0.big_, .map (some m0_2), .slice p_5.1 n p_5.2, .map (some m0_4)] 119, Q1 (fun x_ : Int => .int .i64 x_) (fun x_ : Bool => .bool x_) m0_2 a0.starts_, Qa 56 2 (.slice p_5.1 n p_5.2) n (l.map Jj), Q1 (fun x_ : (List UInt8) => Jv x_) (fun x_ : T_tintref2_place => .agg #[.int .i64 x_.entry_, .int .i64 x_.from_, .int .i64 x_.to_]) m0_4 (Z6 a0.places_ a3 (⟨a1, m, m_2⟩ : T_tintref2_place)), Yv X6 X6, Jo b5 [.int .i64 t21, Jv [], .slice p_10.1 l_7.length p_10.2, .slice none 0 0, .slice none 0 0] 38, Qa 3 1 (.slice p_10.1 l_7.length p_10.2) l_7.length (l_7.map Xc)]) (fun s t => True) ?_ ?_
           ·refine Jf ?_
            refine Jb ?_
            refine Ja rfl rfl rfl (Jk Tryz.runUnderlying38 rfl Tryz.sizeOf3 rfl rfl) ?_
            refine Js (i := 5) (v := .int .i64 t21) Tryz.isAgg3 rfl rfl rfl rfl rfl ?_
            refine Ja rfl rfl rfl (Q0 rfl rfl) ?_
            refine Ja rfl rfl rfl (Je (v := .bool (decide (t21 = 9))) rfl) ?_
            refine split (fun hb => ?_) (fun hb => ?_)
            ·have H123 := Jp hb H119; clear H119
             refine Ja rfl rfl rfl (Je (v := .int .i64 (val (Qt a0.big_ (val (Ys x16_4 0 t33))))) rfl) ?_
             refine Ja rfl rfl rfl (r_geq rfl rfl) ?_
             refine Ja rfl rfl rfl (J9 (v := .bool (decide (2147483648 ≤ (val (Qt a0.big_ (val (Ys x16_4 0 t33))))))) rfl rfl) ?_
             refine Jg ?_
             refine Qd (b := (decide (2147483648 ≤ (val (Qt a0.big_ (val (Ys x16_4 0 t33))))))) rfl (fun hb => ?_) (fun hb => ?_)
             ·have H124 := Jp hb H123; clear H123
              refine Jb ?_
              refine Ja rfl rfl rfl (Je (v := .int .i64 (val (Qt a0.big_ (val (Ys x16_4 0 t33))))) rfl) ?_
              obtain ⟨t139, h_t139, H125⟩ := Jh H124; clear H124
              refine Ja rfl rfl rfl (Wv rfl rfl h_t139) ?_
              refine Ja rfl rfl rfl (Jc (v := .int .i64 t139) rfl) ?_
              refine Jg ?_
              refine Jn t139 () 0 [0, 1, 2, 3, 4, 5, 6] (by exact ⟨rfl, rfl, rfl, rfl, rfl, trivial⟩) (by decide) (by kernel_rfl) (by exact ⟨H125, trivial⟩) (Nat.lt_succ_self _)
             ·have H126 := Jq hb H123; clear H123
              refine Jt ?_
              refine Jn (val (Qt a0.big_ (val (Ys x16_4 0 t33)))) () 0 [0, 1, 2, 3, 4, 5, 6] (by exact ⟨rfl, rfl, rfl, rfl, rfl, trivial⟩) (by decide) (by kernel_rfl) (by exact ⟨H126, trivial⟩) (Nat.lt_succ_self _)
            ·have H127 := Jq hb H119; clear H119
             refine Ji rfl rfl rfl ?_
             refine Ji rfl rfl rfl ?_
             refine Ja rfl rfl rfl (Qf (v := .bool false) rfl rfl) ?_
             refine Jg ?_
             refine Ug rfl ?_
             refine Jt ?_
             refine Jn (val (Qt a0.big_ (val (Ys x16_4 0 t33)))) () 0 [0, 1, 2, 3, 4, 5, 6] (by exact ⟨rfl, rfl, rfl, rfl, rfl, trivial⟩) (by decide) (by kernel_rfl) (by exact ⟨H127, trivial⟩) (Nat.lt_succ_self _)
           ·rintro x17 _ gg H120 _
            replace H120 : Zo t33 x16_4 l_7 next4 x17 = some r := H120
            try dsimp only
            refine Jb ?_
            refine Ja rfl rfl rfl (Jk Tryz.runUnderlying38 rfl Tryz.sizeOf30 rfl rfl) ?_
            refine Js (i := 5) (v := .slice p_10.1 l_7.length p_10.2) Tryz.isAgg30 rfl rfl rfl rfl rfl ?_
            refine Ja rfl rfl rfl (Je (v := .int .i64 x17) rfl) ?_
            refine Q9 (vs := [.int .i64 x17]) (cs := [.int .i64 x17]) Tryz.underlying30 Tryz.sizeOf3 Tryz.zeroValue3 rfl rfl rfl rfl rfl rfl rfl (fun b8 => ?_)
            obtain ⟨l144, h_l144, H121⟩ := Jh H120; clear H120
            refine Xg (Y3 (i := 6) (hn := rfl) (rds := [7]) (p := p_10) (sz := 1) (by_ := 8) (f := Xc) (ys := l_7) (ls := ([x17] : List Int)) (V := .slice (some ⟨b8, 0, none⟩) 1 1) Tryz.underlying30 (Z1 Tryz.typeInfo3) rfl rfl rfl rfl rfl rfl rfl rfl rfl rfl (fun w L' hF hS hi => Wo (i := 7) hS ((hi 7 (by simp)).trans rfl) rfl rfl) (fun _ => rfl) (fun _ => rfl) h_l144) rfl rfl rfl (fun p_11 => ?_)
            refine Ja rfl rfl rfl (Jk Tryz.runUnderlying38 rfl Tryz.sizeOf30 rfl rfl) ?_
            refine Qc (i := 5) (vs := [.slice p_11.1 l144.length p_11.2]) (cs' := [.int .i64 t21, Jv [], .slice p_11.1 l144.length p_11.2, .slice none 0 0, .slice none 0 0]) Tryz.sizeOf30 rfl rfl rfl rfl rfl rfl rfl rfl rfl ?_
            refine Jg ?_
            refine Jb ?_
            refine Ja rfl rfl rfl (Je (v := Jv x16_4) rfl) ?_
            refine Ja rfl rfl rfl (Je (v := .int .i64 t33) rfl) ?_
            obtain ⟨t122, h_t122, H122⟩ := Jh H121; clear H121
            refine Ja rfl rfl rfl (r_cutFromG Tryz.underlying9 rfl rfl h_t122) ?_
            refine Ja rfl rfl rfl (Jc (v := Jv t122) rfl) ?_
            refine Jg ?_
            refine Jn (t122, l144) p_11 m4 [0, 1, 2, 3, 4, 5, 6] (by exact ⟨rfl, rfl, rfl, rfl, trivial⟩) (by decide) (by kernel_rfl) (by exact ⟨(by subst hn4; exact H122), trivial⟩) (Nat.lt_succ_self _)
           ) (by kernel_rfl)
         ·have H128 := Jq hb H116; clear H116
          refine X3 ?_
          refine J0 74 2 ?_
          refine Jn ([], l_7, ([] : List T_tag_Ratio)) (p_10, ((none, 0) : Option Addr × Nat)) 0 [0, 1, 2, 3, 4, 5, 6, 7] (by exact ⟨rfl, trivial⟩) (by decide) (by kernel_rfl) (by exact ⟨H128, trivial⟩) (Nat.lt_succ_self _)
     ·rintro ⟨m_3, l_2, l_3⟩ ⟨p_6, p_7⟩ gg H89 _
      replace H89 : Y5 a0 a1 a3 t21 l m m_2 m_3 l_2 l_3 = some r := H89
      try dsimp only
      refine Jf ?_
      refine Jb ?_
      refine Xr (i := 5) (vs := [.int .i64 t21, Jv m_3, .slice p_6.1 l_2.length p_6.2, .slice p_7.1 l_3.length p_7.2, .slice none 0 0]) Tryz.isAgg38 Tryz.sizeOf38 rfl rfl rfl rfl rfl ?_
      refine Qc (i := 5) (vs := [.int .i64 t21, Jv m_3, .slice p_6.1 l_2.length p_6.2, .slice p_7.1 l_3.length p_7.2, .slice none 0 0]) (cs' := [.int .i64 t21, Jv m_3, .slice p_6.1 l_2.length p_6.2, .slice p_7.1 l_3.length p_7.2, .slice none 0 0]) Tryz.sizeOf38 rfl rfl rfl rfl rfl rfl rfl rfl rfl ?_
      refine Ja rfl rfl rfl (Jc (v := .int .i64 0) rfl) ?_
      refine Jg ?_
      refine Jx ?_
      try dsimp only [z1, z2, z3, z4, z5, z6, z7, z8]
      refine J0 83 6 ?_
      obtain rfl := Option.some.inj H89
      refine Jl 4 8 rfl rfl (by decide) ?_
      refine Y0 4 rfl (Xn (p := ((none, 0) : Option Addr × Nat)) rfl (AllC.nil (G := g_tag_Entry) (h := X6) (sz := 6))) ?_
      refine Jl 7 4 rfl rfl (by decide) ?_
      refine Jl 6 7 rfl rfl (by decide) ?_
      refine Jl 3 6 rfl rfl (by decide) ?_
      refine Jl 2 3 rfl rfl (by decide) ?_
      refine Jl 1 2 rfl rfl (by decide) ?_
      refine Jl 0 1 rfl rfl (by decide) ?_
      refine retCt (i := 5) (vs := [.int .i64 t21, Jv m_3, .slice p_6.1 l_2.length p_6.2, .slice p_7.1 l_3.length p_7.2, .slice ((none, 0) : Option Addr × Nat).1 (([] : List (List Value)).length) ((none, 0) : Option Addr × Nat).2]) (v2 := .int .i64 0) Tryz.isAgg38 Tryz.sizeOf38 rfl rfl rfl rfl rfl (V6 (p_6, p_7, ((none, 0) : Option Addr × Nat), m0_2, p_5, m0_4) (i := 0) rfl (by first | rfl | rw [(show (([] : List (List Value)).length) = ([] : List T_tag_Entry).length from (AllC.nil (G := g_tag_Entry) (h := X6) (sz := 6)).len), (show n = l.length from hl)]) (by first | exact Imp.refl _ | exact Imp.of (by rw [(show (([] : List (List Value)).length) = ([] : List T_tag_Entry).length from (AllC.nil (G := g_tag_Entry) (h := X6) (sz := 6)).len), (show n = l.length from hl)] <;> rfl)))
     ) (by kernel_rfl)
theorem k133_it (mm : Nat) : ∀ {a0 : T_tintref2_reader} {pb0 : Nat} {m0_2 : Nat} {p0_3 : Option Addr × Nat} {n0_3 : Nat} {m0_4 : Nat} {a1 : Int} {a2 : Int} {a3 : Int} {a4 : Bool} {a5 : (List UInt8)} {r : (List T_tag_Entry) × Int × Int × T_tintref2_reader} {w : World} {h : Qj} {S : Nat → Prop} (hcs : (J1 (Jo pb0 [Jv a0.s_, .bool a0.big_, .map (some m0_2), .slice p0_3.1 n0_3 p0_3.2, .map (some m0_4)] 119) (J1 (Q1 (fun x_ : Int => .int .i64 x_) (fun x_ : Bool => .bool x_) m0_2 a0.starts_) (J1 (Qa 56 2 (.slice p0_3.1 n0_3 p0_3.2) n0_3 (a0.parts_.map Jj)) (Q1 (fun x_ : (List UInt8) => Jv x_) (fun x_ : T_tintref2_place => .agg #[.int .i64 x_.entry_, .int .i64 x_.from_, .int .i64 x_.to_]) m0_4 a0.places_)))).P S w) (hlt : ∀ b, S b → b < w.heap.size) (hw : Know h w S) (hn0_3 : n0_3 = a0.parts_.length) (tb_pow10 : TabH Tryz.prog h "internal/strconv.uint64pow10" .u64 Lib.pow10Tab) (H : it (fun (self : (T_tintref2_reader × Int × Int × Int × Bool × (List UInt8)) → Option ((List T_tag_Entry) × Int × Int × T_tintref2_reader)) (s : T_tintref2_reader × Int × Int × Int × Bool × (List UInt8)) => Qx self s.1 s.2.1 s.2.2.1 s.2.2.2.1 s.2.2.2.2.1 s.2.2.2.2.2) mm (a0, a1, a2, a3, a4, a5) = some r), Does Tryz.prog 133 (List.toArray [.pointer (some ⟨pb0, 0, none⟩), .int .i64 a1, .int .i64 a2, .int .i64 a3, .bool a4, Jv a5]) w (fun v w' => ∃ x : (Option Addr × Nat) × Nat × (Option Addr × Nat) × Nat, v = (.tuple #[.slice x.1.1 r.1.length x.1.2, .int .i64 r.2.1, .int .i64 r.2.2.1]) ∧ Turn w w' S (J1 (Jo pb0 [Jv r.2.2.2.s_, .bool r.2.2.2.big_, .map (some x.2.1), .slice x.2.2.1.1 r.2.2.2.parts_.length x.2.2.1.2, .map (some x.2.2.2)] 119) (J1 (Q1 (fun x_ : Int => .int .i64 x_) (fun x_ : Bool => .bool x_) x.2.1 r.2.2.2.starts_) (J1 (Qa 56 2 (.slice x.2.2.1.1 r.2.2.2.parts_.length x.2.2.1.2) r.2.2.2.parts_.length (r.2.2.2.parts_.map Jj)) (J1 (Q1 (fun x_ : (List UInt8) => Jv x_) (fun x_ : T_tintref2_place => .agg #[.int .i64 x_.entry_, .int .i64 x_.from_, .int .i64 x_.to_]) x.2.2.2 r.2.2.2.places_) (W3 83 6 g_tag_Entry (.slice x.1.1 r.1.length x.1.2) r.1.length r.1)))))) := by
 induction mm with
 | zero => intros; rename_i H; exact absurd H (by simp [it])
 | succ mm ih =>
  intro a0 pb0 m0_2 p0_3 n0_3 m0_4 a1 a2 a3 a4 a5 r w h S hcs hlt hw hn0_3 tb_pow10 H
  replace H : Qx (it (fun (self : (T_tintref2_reader × Int × Int × Int × Bool × (List UInt8)) → Option ((List T_tag_Entry) × Int × Int × T_tintref2_reader)) (s : T_tintref2_reader × Int × Int × Int × Bool × (List UInt8)) => Qx self s.1 s.2.1 s.2.2.1 s.2.2.2.1 s.2.2.2.2.1 s.2.2.2.2.2) mm) a0 a1 a2 a3 a4 a5 = some r := H
  generalize it (fun (self : (T_tintref2_reader × Int × Int × Int × Bool × (List UInt8)) → Option ((List T_tag_Entry) × Int × Int × T_tintref2_reader)) (s : T_tintref2_reader × Int × Int × Int × Bool × (List UInt8)) => Qx self s.1 s.2.1 s.2.2.1 s.2.2.2.1 s.2.2.2.2.1 s.2.2.2.2.2) mm = self at H ih
  refine enter (n := 134) Tryz.func133 rfl rfl rfl S [J1 (Jo pb0 [Jv a0.s_, .bool a0.big_, .map (some m0_2), .slice p0_3.1 n0_3 p0_3.2, .map (some m0_4)] 119) (J1 (Q1 (fun x_ : Int => .int .i64 x_) (fun x_ : Bool => .bool x_) m0_2 a0.starts_) (J1 (Qa 56 2 (.slice p0_3.1 n0_3 p0_3.2) n0_3 (a0.parts_.map Jj)) (Q1 (fun x_ : (List UInt8) => Jv x_) (fun x_ : T_tintref2_place => .agg #[.int .i64 x_.entry_, .int .i64 x_.from_, .int .i64 x_.to_]) m0_4 a0.places_)))] (Sat.one hcs hlt) ?_
  refine Q2 0 rfl ?_
  refine Q2 1 rfl ?_
  refine Q2 2 rfl ?_
  refine Zs X6 ?_
  refine Jf ?_
  refine Jb ?_
  refine Ja rfl rfl rfl (Jc (v := .slice none 0 0) rfl) ?_
  refine Ja rfl rfl rfl (Jc (v := .int .i64 0) rfl) ?_
  refine Ja rfl rfl rfl (Jc (v := .int .i64 0) rfl) ?_
  refine Jg ?_
  refine Jf ?_
  refine Jf ?_
  refine Jb ?_
  refine Ja rfl rfl rfl (Je (v := .pointer (some ⟨pb0, 0, none⟩)) rfl) ?_
  refine Ja rfl rfl rfl (Je (v := .int .i64 a1) rfl) ?_
  obtain ⟨t21, h_t21, H56⟩ := Jh H; clear H
  refine Qw (fun w hF hS => k176 (a0 := a0) (J7 w) (Xz (fk := (fun x_ : Int => .int .i64 x_)) (fv := (fun x_ : Bool => .bool x_)) (i := 1) hS rfl) (Yn (i := 2) hn0_3 hS rfl) (Xz (fk := (fun x_ : (List UInt8) => Jv x_)) (fv := (fun x_ : T_tintref2_place => .agg #[.int .i64 x_.entry_, .int .i64 x_.from_, .int .i64 x_.to_])) (i := 3) hS rfl) (Xb (i := 0) hS rfl) h_t21) Tryz.call176 rfl rfl rfl ?_
  refine Ja rfl rfl rfl (r_not rfl) ?_
  refine Jg ?_
  refine Qd (b := (!t21)) rfl (fun hb => ?_) (fun hb => ?_)
  ·have H57 := Jp hb H56; clear H56
   refine Jf ?_
   refine Jb ?_
   refine Ja rfl rfl rfl (Jc (v := .slice none 0 0) rfl) ?_
   refine Ja rfl rfl rfl (Jc (v := .int .i64 0) rfl) ?_
   refine Ja rfl rfl rfl (Jc (v := .int .i64 2) rfl) ?_
   refine Jg ?_
   refine Jx ?_
   refine J0 83 6 ?_
   obtain rfl := Option.some.inj H57
   refine Jl 4 5 rfl rfl (by decide) ?_
   refine Y0 4 rfl (Xn (p := ((none, 0) : Option Addr × Nat)) rfl (AllC.nil (G := g_tag_Entry) (h := X6) (sz := 6))) ?_
   refine Jl 3 4 rfl rfl (by decide) ?_
   refine Jl 2 3 rfl rfl (by decide) ?_
   refine Jl 1 2 rfl rfl (by decide) ?_
   refine Jl 0 1 rfl rfl (by decide) ?_
   refine ret3 (v1 := .slice ((none, 0) : Option Addr × Nat).1 (([] : List (List Value)).length) ((none, 0) : Option Addr × Nat).2) (v2 := .int .i64 0) (v3 := .int .i64 2) rfl rfl rfl rfl (V6 (((none, 0) : Option Addr × Nat), m0_2, p0_3, m0_4) (i := 0) rfl (by first | rfl | rw [(show (([] : List (List Value)).length) = ([] : List T_tag_Entry).length from (AllC.nil (G := g_tag_Entry) (h := X6) (sz := 6)).len), (show n0_3 = a0.parts_.length from hn0_3)]) (by first | exact Imp.refl _ | exact Imp.of (by rw [(show (([] : List (List Value)).length) = ([] : List T_tag_Entry).length from (AllC.nil (G := g_tag_Entry) (h := X6) (sz := 6)).len), (show n0_3 = a0.parts_.length from hn0_3)] <;> rfl)))
  ·have H58 := Jq hb H56; clear H56
   refine Jt ?_
   refine Jf ?_
   refine Jf ?_
   try dsimp only [z1, z2, z5, z6, z7, z8]
   refine Jb ?_
   refine Ja rfl rfl rfl (Je (v := .pointer (some ⟨pb0, 0, none⟩)) rfl) ?_
   refine Ja rfl rfl rfl (Ju rfl) ?_
   refine Ja rfl rfl rfl (Jk Tryz.runUnderlying119 rfl Tryz.sizeOf116 rfl rfl) ?_
   refine Js (i := 0) (v := .map (some m0_2)) Tryz.isAgg116 rfl rfl rfl rfl rfl ?_
   refine Ja rfl rfl rfl (Je (v := .int .i64 a1) rfl) ?_
   refine Yu (fun w hF hS => run_lookup (i := 1) (fk := (fun x_ : Int => .int .i64 x_)) (fv := (fun x_ : Bool => .bool x_)) (k := a1) (z := false) keyF_int Tryz.underlying116 Tryz.underlying3 Tryz.zeroValue4 rfl rfl hS rfl) rfl rfl rfl ?_
   refine Jg ?_
   refine Qd (b := ((mGet a0.starts_ a1).getD false)) rfl (fun hb => ?_) (fun hb => ?_)
   ·have H59 := Jp hb H58; clear H58
    refine Jf ?_
    refine Jb ?_
    refine Ja rfl rfl rfl (Jc (v := .slice none 0 0) rfl) ?_
    refine Ja rfl rfl rfl (Jc (v := .int .i64 0) rfl) ?_
    refine Ja rfl rfl rfl (Jc (v := .int .i64 13) rfl) ?_
    refine Jg ?_
    refine Jx ?_
    refine J0 83 6 ?_
    obtain rfl := Option.some.inj H59
    refine Jl 4 5 rfl rfl (by decide) ?_
    refine Y0 4 rfl (Xn (p := ((none, 0) : Option Addr × Nat)) rfl (AllC.nil (G := g_tag_Entry) (h := X6) (sz := 6))) ?_
    refine Jl 3 4 rfl rfl (by decide) ?_
    refine Jl 2 3 rfl rfl (by decide) ?_
    refine Jl 1 2 rfl rfl (by decide) ?_
    refine Jl 0 1 rfl rfl (by decide) ?_
    refine ret3 (v1 := .slice ((none, 0) : Option Addr × Nat).1 (([] : List (List Value)).length) ((none, 0) : Option Addr × Nat).2) (v2 := .int .i64 0) (v3 := .int .i64 13) rfl rfl rfl rfl (V6 (((none, 0) : Option Addr × Nat), m0_2, p0_3, m0_4) (i := 0) rfl (by first | rfl | rw [(show (([] : List (List Value)).length) = ([] : List T_tag_Entry).length from (AllC.nil (G := g_tag_Entry) (h := X6) (sz := 6)).len), (show n0_3 = a0.parts_.length from hn0_3)]) (by first | exact Imp.refl _ | exact Imp.of (by rw [(show (([] : List (List Value)).length) = ([] : List T_tag_Entry).length from (AllC.nil (G := g_tag_Entry) (h := X6) (sz := 6)).len), (show n0_3 = a0.parts_.length from hn0_3)] <;> rfl)))
   ·have H60 := Jq hb H58; clear H58
    refine Jt ?_
    refine Jf ?_
    try dsimp only [z1, z2, z5, z6, z7, z8]
    refine Jb ?_
    refine Ja rfl rfl rfl (Je (v := .pointer (some ⟨pb0, 0, none⟩)) rfl) ?_
    refine Ja rfl rfl rfl (Ju rfl) ?_
    refine Ja rfl rfl rfl (Jk Tryz.runUnderlying119 rfl Tryz.sizeOf116 rfl rfl) ?_
    refine Js (i := 0) (v := .map (some m0_2)) Tryz.isAgg116 rfl rfl rfl rfl rfl ?_
    refine Ja rfl rfl rfl (Je (v := .int .i64 a1) rfl) ?_
    refine l_turn0 (turns_mset (u := true) (i := 1) (rds := []) (fk := (fun x_ : Int => .int .i64 x_)) (fv := (fun x_ : Bool => .bool x_)) (k := a1) (v := true) keyF_int (.inr rfl) Tryz.underlying116 Tryz.underlying3 rfl rfl rfl rfl) rfl rfl (fun _ => ?_)
    refine Jg ?_
    refine Jf ?_
    refine Jb ?_
    refine Ja rfl rfl rfl (Je (v := .pointer (some ⟨pb0, 0, none⟩)) rfl) ?_
    refine Ja rfl rfl rfl (Je (v := .int .i64 a1) rfl) ?_
    obtain ⟨t36, h_t36, H61⟩ := Jh H60; clear H60
    refine Qw (fun w hF hS => k132 (a0 := (⟨a0.s_, a0.big_, (Z6 a0.starts_ a1 true), a0.parts_, a0.places_⟩ : T_tintref2_reader)) (J7 w) (Xz (fk := (fun x_ : Int => .int .i64 x_)) (fv := (fun x_ : Bool => .bool x_)) (i := 1) hS rfl) (Yn (i := 2) hn0_3 hS rfl) (Xz (fk := (fun x_ : (List UInt8) => Jv x_)) (fv := (fun x_ : T_tintref2_place => .agg #[.int .i64 x_.entry_, .int .i64 x_.from_, .int .i64 x_.to_])) (i := 3) hS rfl) (Xb (i := 0) hS rfl) h_t36) Tryz.call132 rfl rfl rfl ?_
    refine Ja rfl rfl rfl (Jc (v := .int .i64 t36) rfl) ?_
    refine Jg ?_
    refine Jf ?_
    refine Jf ?_
    refine Jb ?_
    refine Ja rfl rfl rfl (Je (v := .int .i64 a3) rfl) ?_
    refine Ja rfl rfl rfl (r_geq rfl rfl) ?_
    refine Ja rfl rfl rfl (Je (v := .bool (decide (20 ≤ a3))) rfl) ?_
    refine split (fun hb => ?_) (fun hb => ?_)
    ·have H62 := Jp hb H61; clear H61
     refine Ji rfl rfl rfl ?_
     refine Ji rfl rfl rfl ?_
     refine Ja rfl rfl rfl (J9 (v := .bool true) rfl rfl) ?_
     refine Ja rfl rfl rfl (Je (v := .bool true) rfl) ?_
     refine Ji rfl rfl rfl ?_
     refine Ji rfl rfl rfl ?_
     refine Ja rfl rfl rfl (J9 (v := .bool true) rfl rfl) ?_
     refine Jg ?_
     refine Uw rfl ?_
     refine Jf ?_
     refine Jb ?_
     refine Ja rfl rfl rfl (Jc (v := .slice none 0 0) rfl) ?_
     refine Ja rfl rfl rfl (Jc (v := .int .i64 0) rfl) ?_
     refine Ja rfl rfl rfl (Jc (v := .int .i64 4) rfl) ?_
     refine Jg ?_
     refine Jx ?_
     refine J0 83 6 ?_
     obtain rfl := Option.some.inj H62
     refine Jl 4 5 rfl rfl (by decide) ?_
     refine Y0 4 rfl (Xn (p := ((none, 0) : Option Addr × Nat)) rfl (AllC.nil (G := g_tag_Entry) (h := X6) (sz := 6))) ?_
     refine Jl 3 4 rfl rfl (by decide) ?_
     refine Jl 2 3 rfl rfl (by decide) ?_
     refine Jl 1 2 rfl rfl (by decide) ?_
     refine Jl 0 1 rfl rfl (by decide) ?_
     refine ret3 (v1 := .slice ((none, 0) : Option Addr × Nat).1 (([] : List (List Value)).length) ((none, 0) : Option Addr × Nat).2) (v2 := .int .i64 0) (v3 := .int .i64 4) rfl rfl rfl rfl (V6 (((none, 0) : Option Addr × Nat), m0_2, p0_3, m0_4) (i := 0) rfl (by first | rfl | rw [(show (([] : List (List Value)).length) = ([] : List T_tag_Entry).length from (AllC.nil (G := g_tag_Entry) (h := X6) (sz := 6)).len), (show n0_3 = a0.parts_.length from hn0_3)]) (by first | exact Imp.refl _ | exact Imp.of (by rw [(show (([] : List (List Value)).length) = ([] : List T_tag_Entry).length from (AllC.nil (G := g_tag_Entry) (h := X6) (sz := 6)).len), (show n0_3 = a0.parts_.length from hn0_3)] <;> rfl)))
    ·have H63 := Jq hb H61; clear H61
     refine Ja rfl rfl rfl (Je (v := .int .i64 a2) rfl) ?_
     refine Ja rfl rfl rfl (Zm rfl rfl) ?_
     refine Ja rfl rfl rfl (Qf (v := .bool (decide (5 < a2))) rfl rfl) ?_
     refine Ja rfl rfl rfl (Je (v := .bool (decide (5 < a2))) rfl) ?_
     refine split (fun hb => ?_) (fun hb => ?_)
     ·have H64 := Jp hb H63; clear H63
      refine Ji rfl rfl rfl ?_
      refine Ji rfl rfl rfl ?_
      refine Ja rfl rfl rfl (J9 (v := .bool true) rfl rfl) ?_
      refine Jg ?_
      refine Uw rfl ?_
      refine Jf ?_
      try dsimp only [z1, z2, z5, z6, z7, z8]
      refine Jb ?_
      refine Ja rfl rfl rfl (Jc (v := .slice none 0 0) rfl) ?_
      refine Ja rfl rfl rfl (Jc (v := .int .i64 0) rfl) ?_
      refine Ja rfl rfl rfl (Jc (v := .int .i64 4) rfl) ?_
      refine Jg ?_
      refine Jx ?_
      refine J0 83 6 ?_
      obtain rfl := Option.some.inj H64
      refine Jl 4 5 rfl rfl (by decide) ?_
      refine Y0 4 rfl (Xn (p := ((none, 0) : Option Addr × Nat)) rfl (AllC.nil (G := g_tag_Entry) (h := X6) (sz := 6))) ?_
      refine Jl 3 4 rfl rfl (by decide) ?_
      refine Jl 2 3 rfl rfl (by decide) ?_
      refine Jl 1 2 rfl rfl (by decide) ?_
      refine Jl 0 1 rfl rfl (by decide) ?_
      refine ret3 (v1 := .slice ((none, 0) : Option Addr × Nat).1 (([] : List (List Value)).length) ((none, 0) : Option Addr × Nat).2) (v2 := .int .i64 0) (v3 := .int .i64 4) rfl rfl rfl rfl (V6 (((none, 0) : Option Addr × Nat), m0_2, p0_3, m0_4) (i := 0) rfl (by first | rfl | rw [(show (([] : List (List Value)).length) = ([] : List T_tag_Entry).length from (AllC.nil (G := g_tag_Entry) (h := X6) (sz := 6)).len), (show n0_3 = a0.parts_.length from hn0_3)]) (by first | exact Imp.refl _ | exact Imp.of (by rw [(show (([] : List (List Value)).length) = ([] : List T_tag_Entry).length from (AllC.nil (G := g_tag_Entry) (h := X6) (sz := 6)).len), (show n0_3 = a0.parts_.length from hn0_3)] <;> rfl)))
     ·have H65 := Jq hb H63; clear H63
      refine Ja rfl rfl rfl (Je (v := .int .i64 t36) rfl) ?_
      refine Ja rfl rfl rfl (Zm rfl rfl) ?_
      refine Ja rfl rfl rfl (Qf (v := .bool (decide (200 < t36))) rfl rfl) ?_
      refine Jg ?_
      refine Qd (b := (decide (200 < t36))) rfl (fun hb => ?_) (fun hb => ?_)
      ·have H66 := Jp hb H65; clear H65
       refine Jf ?_
       try dsimp only [z1, z2, z5, z6, z7, z8]
       refine Jb ?_
       refine Ja rfl rfl rfl (Jc (v := .slice none 0 0) rfl) ?_
       refine Ja rfl rfl rfl (Jc (v := .int .i64 0) rfl) ?_
       refine Ja rfl rfl rfl (Jc (v := .int .i64 4) rfl) ?_
       refine Jg ?_
       refine Jx ?_
       refine J0 83 6 ?_
       obtain rfl := Option.some.inj H66
       refine Jl 4 5 rfl rfl (by decide) ?_
       refine Y0 4 rfl (Xn (p := ((none, 0) : Option Addr × Nat)) rfl (AllC.nil (G := g_tag_Entry) (h := X6) (sz := 6))) ?_
       refine Jl 3 4 rfl rfl (by decide) ?_
       refine Jl 2 3 rfl rfl (by decide) ?_
       refine Jl 1 2 rfl rfl (by decide) ?_
       refine Jl 0 1 rfl rfl (by decide) ?_
       refine ret3 (v1 := .slice ((none, 0) : Option Addr × Nat).1 (([] : List (List Value)).length) ((none, 0) : Option Addr × Nat).2) (v2 := .int .i64 0) (v3 := .int .i64 4) rfl rfl rfl rfl (V6 (((none, 0) : Option Addr × Nat), m0_2, p0_3, m0_4) (i := 0) rfl (by first | rfl | rw [(show (([] : List (List Value)).length) = ([] : List T_tag_Entry).length from (AllC.nil (G := g_tag_Entry) (h := X6) (sz := 6)).len), (show n0_3 = a0.parts_.length from hn0_3)]) (by first | exact Imp.refl _ | exact Imp.of (by rw [(show (([] : List (List Value)).length) = ([] : List T_tag_Entry).length from (AllC.nil (G := g_tag_Entry) (h := X6) (sz := 6)).len), (show n0_3 = a0.parts_.length from hn0_3)] <;> rfl)))
      ·have H67 := Jq hb H65; clear H65
       refine Jt ?_
       refine Jf ?_
       refine Jf ?_
       try dsimp only [z1, z2, z5, z6, z7, z8]
       refine Jb ?_
       refine Ja rfl rfl rfl (Je (v := .pointer (some ⟨pb0, 0, none⟩)) rfl) ?_
       refine Ja rfl rfl rfl (Je (v := .int .i64 a1) rfl) ?_
       refine Ja rfl rfl rfl (Je (v := .int .i64 t36) rfl) ?_
       obtain ⟨t50, h_t50, H68⟩ := Jh H67; clear H67
       refine Ja rfl rfl rfl (W6 rfl rfl h_t50) ?_
       obtain ⟨t51, h_t51, H69⟩ := Jh H68; clear H68
       refine Ja rfl rfl rfl (Qe rfl rfl h_t51) ?_
       obtain ⟨t52, h_t52, H70⟩ := Jh H69; clear H69
       refine Ja rfl rfl rfl (Qe rfl rfl h_t52) ?_
       obtain ⟨t53, h_t53, H71⟩ := Jh H70; clear H70
       refine Qw (fun w hF hS => k176 (a0 := (⟨a0.s_, a0.big_, (Z6 a0.starts_ a1 true), a0.parts_, a0.places_⟩ : T_tintref2_reader)) (J7 w) (Xz (fk := (fun x_ : Int => .int .i64 x_)) (fv := (fun x_ : Bool => .bool x_)) (i := 1) hS rfl) (Yn (i := 2) hn0_3 hS rfl) (Xz (fk := (fun x_ : (List UInt8) => Jv x_)) (fv := (fun x_ : T_tintref2_place => .agg #[.int .i64 x_.entry_, .int .i64 x_.from_, .int .i64 x_.to_])) (i := 3) hS rfl) (Xb (i := 0) hS rfl) h_t53) Tryz.call176 rfl rfl rfl ?_
       refine Ja rfl rfl rfl (r_not rfl) ?_
       refine Jg ?_
       refine Qd (b := (!t53)) rfl (fun hb => ?_) (fun hb => ?_)
       ·have H72 := Jp hb H71; clear H71
        refine Jf ?_
        refine Jb ?_
        refine Ja rfl rfl rfl (Jc (v := .slice none 0 0) rfl) ?_
        refine Ja rfl rfl rfl (Jc (v := .int .i64 0) rfl) ?_
        refine Ja rfl rfl rfl (Jc (v := .int .i64 2) rfl) ?_
        refine Jg ?_
        refine Jx ?_
        refine J0 83 6 ?_
        obtain rfl := Option.some.inj H72
        refine Jl 4 5 rfl rfl (by decide) ?_
        refine Y0 4 rfl (Xn (p := ((none, 0) : Option Addr × Nat)) rfl (AllC.nil (G := g_tag_Entry) (h := X6) (sz := 6))) ?_
        refine Jl 3 4 rfl rfl (by decide) ?_
        refine Jl 2 3 rfl rfl (by decide) ?_
        refine Jl 1 2 rfl rfl (by decide) ?_
        refine Jl 0 1 rfl rfl (by decide) ?_
        refine ret3 (v1 := .slice ((none, 0) : Option Addr × Nat).1 (([] : List (List Value)).length) ((none, 0) : Option Addr × Nat).2) (v2 := .int .i64 0) (v3 := .int .i64 2) rfl rfl rfl rfl (V6 (((none, 0) : Option Addr × Nat), m0_2, p0_3, m0_4) (i := 0) rfl (by first | rfl | rw [(show (([] : List (List Value)).length) = ([] : List T_tag_Entry).length from (AllC.nil (G := g_tag_Entry) (h := X6) (sz := 6)).len), (show n0_3 = a0.parts_.length from hn0_3)]) (by first | exact Imp.refl _ | exact Imp.of (by rw [(show (([] : List (List Value)).length) = ([] : List T_tag_Entry).length from (AllC.nil (G := g_tag_Entry) (h := X6) (sz := 6)).len), (show n0_3 = a0.parts_.length from hn0_3)] <;> rfl)))
       ·have H73 := Jq hb H71; clear H71
        refine Jt ?_
        refine Jf ?_
        try dsimp only [z1, z2, z5, z6, z7, z8]
        refine Jb ?_
        refine Ja rfl rfl rfl (Je (v := .pointer (some ⟨pb0, 0, none⟩)) rfl) ?_
        refine Ja rfl rfl rfl (Je (v := .pointer (some ⟨pb0, 0, none⟩)) rfl) ?_
        refine Ja rfl rfl rfl (Ju rfl) ?_
        refine Ja rfl rfl rfl (Jk Tryz.runUnderlying119 rfl Tryz.sizeOf48 rfl rfl) ?_
        refine Js (i := 0) (v := .slice p0_3.1 n0_3 p0_3.2) Tryz.isAgg48 rfl rfl rfl rfl rfl ?_
        refine Ja rfl rfl rfl (Je (v := .int .i64 a1) rfl) ?_
        refine Ja rfl rfl rfl (Je (v := .int .i64 a1) rfl) ?_
        obtain ⟨t62, h_t62, H74⟩ := Jh H73; clear H73
        refine Ja rfl rfl rfl (Qe rfl rfl h_t62) ?_
        refine Ja rfl rfl rfl (Je (v := .int .i64 t36) rfl) ?_
        obtain ⟨t64, h_t64, H75⟩ := Jh H74; clear H74
        refine Ja rfl rfl rfl (W6 rfl rfl h_t64) ?_
        obtain ⟨t65, h_t65, H76⟩ := Jh H75; clear H75
        refine Ja rfl rfl rfl (Qe rfl rfl h_t65) ?_
        obtain ⟨t66, h_t66, H77⟩ := Jh H76; clear H76
        refine Ja rfl rfl rfl (Qe rfl rfl h_t66) ?_
        refine Ja rfl rfl rfl (Yi (pl := #[(0, 1), (1, 1)]) (ps := [(0, .int .i64 a1), (1, .int .i64 t66)]) (cells := #[.int .i64 a1, .int .i64 t66]) Tryz.zeroValue56 Tryz.runUnderlying56 (fun w => by kernel_rfl) rfl rfl) ?_
        refine Q9 (vs := [.agg #[.int .i64 a1, .int .i64 t66]]) (cs := [.int .i64 a1, .int .i64 t66]) Tryz.underlying48 Tryz.sizeOf56 Tryz.zeroValue56 rfl rfl rfl rfl rfl rfl rfl (fun b3 => ?_)
        obtain ⟨l69, h_l69, H78⟩ := Jh H77; clear H77
        refine Xg (Y3 (i := 2) (hn := hn0_3) (rds := [5]) (p := p0_3) (sz := 2) (by_ := 16) (f := Jj) (ys := a0.parts_) (ls := ([(⟨a1, t66⟩ : T_tag_Span)] : List T_tag_Span)) (V := .slice (some ⟨b3, 0, none⟩) 1 1) Tryz.underlying48 (Z1 Tryz.typeInfo56) rfl rfl rfl rfl rfl rfl rfl rfl rfl rfl (fun w L' hF hS hi => Wo (i := 5) hS ((hi 5 (by simp)).trans rfl) rfl rfl) (fun _ => rfl) (fun _ => rfl) h_l69) rfl rfl rfl (fun p => ?_)
        refine Ja rfl rfl rfl (Ju rfl) ?_
        refine Ja rfl rfl rfl (Jk Tryz.runUnderlying119 rfl Tryz.sizeOf48 rfl rfl) ?_
        refine Qc (i := 0) (vs := [.slice p.1 l69.length p.2]) (cs' := [Jv a0.s_, .bool a0.big_, .map (some m0_2), .slice p.1 l69.length p.2, .map (some m0_4)]) Tryz.sizeOf48 rfl rfl rfl rfl rfl rfl rfl rfl rfl ?_
        refine Jg ?_
        refine Jf ?_
        refine Jb ?_
        refine Ja rfl rfl rfl (Je (v := .pointer (some ⟨pb0, 0, none⟩)) rfl) ?_
        refine Ja rfl rfl rfl (Je (v := .int .i64 a1) rfl) ?_
        obtain ⟨t74, h_t74, H79⟩ := Jh H78; clear H78
        refine Ja rfl rfl rfl (Qe rfl rfl h_t74) ?_
        refine Ja rfl rfl rfl (Je (v := .int .i64 t36) rfl) ?_
        obtain ⟨t76, h_t76, H80⟩ := Jh H79; clear H79
        refine Ja rfl rfl rfl (W6 rfl rfl h_t76) ?_
        obtain ⟨t77, h_t77, H81⟩ := Jh H80; clear H80
        refine Ja rfl rfl rfl (Qe rfl rfl h_t77) ?_
        obtain ⟨t78, h_t78, H82⟩ := Jh H81; clear H81
        refine Qw (fun w hF hS => k132 (a0 := (⟨a0.s_, a0.big_, (Z6 a0.starts_ a1 true), l69, a0.places_⟩ : T_tintref2_reader)) (J7 w) (Xz (fk := (fun x_ : Int => .int .i64 x_)) (fv := (fun x_ : Bool => .bool x_)) (i := 1) hS rfl) (Yn (i := 2) rfl hS rfl) (Xz (fk := (fun x_ : (List UInt8) => Jv x_)) (fv := (fun x_ : T_tintref2_place => .agg #[.int .i64 x_.entry_, .int .i64 x_.from_, .int .i64 x_.to_])) (i := 3) hS rfl) (Xb (i := 0) hS rfl) h_t78) Tryz.call132 rfl rfl rfl ?_
        refine Ja rfl rfl rfl (Jc (v := .int .i64 t78) rfl) ?_
        refine Jg ?_
        refine Qz (r := r) (σ := Unit) (τ := Unit) (fun s => Yl a0 a1 a2 a5 self t36 l69 t78) (fun s t => [(0, .pointer (some ⟨pb0, 0, none⟩)), (1, .int .i64 a1), (2, .int .i64 a2), (5, Jv a5), (12, .slice none 0 0), (13, .int .i64 t78), (15, .int .i64 t36)]) (fun s t => [Jo pb0 [Jv a0.s_, .bool a0.big_, .map (some m0_2), .slice p.1 l69.length p.2, .map (some m0_4)] 119, Q1 (fun x_ : Int => .int .i64 x_) (fun x_ : Bool => .bool x_) m0_2 (Z6 a0.starts_ a1 true), Qa 56 2 (.slice p.1 l69.length p.2) l69.length (l69.map Jj), Q1 (fun x_ : (List UInt8) => Jv x_) (fun x_ : T_tintref2_place => .agg #[.int .i64 x_.entry_, .int .i64 x_.from_, .int .i64 x_.to_]) m0_4 a0.places_, Yv X6 X6]) (fun s t => True) ?_ ?_
        ·refine Jf ?_
         refine Jb ?_
         refine Ja rfl rfl rfl (Je (v := .bool a4) rfl) ?_
         refine Ja rfl rfl rfl (Je (v := .bool a4) rfl) ?_
         refine split (fun hb => ?_) (fun hb => ?_)
         ·have H107 := Jp hb H82; clear H82
          refine Ja rfl rfl rfl (Je (v := .int .i64 t78) rfl) ?_
          refine Ja rfl rfl rfl (Va rfl rfl) ?_
          refine Ja rfl rfl rfl (J9 (v := .bool (decide (t78 ≠ 0))) rfl rfl) ?_
          refine Jg ?_
          refine Qd (b := (decide (t78 ≠ 0))) rfl (fun hb => ?_) (fun hb => ?_)
          ·have H108 := Jp hb H107; clear H107
           refine Jf ?_
           refine Jb ?_
           refine Ja rfl rfl rfl (Jc (v := .slice none 0 0) rfl) ?_
           refine Ja rfl rfl rfl (Jc (v := .int .i64 0) rfl) ?_
           refine Ja rfl rfl rfl (Jc (v := .int .i64 1) rfl) ?_
           refine Jg ?_
           refine Jx ?_
           refine J0 83 6 ?_
           obtain rfl := Option.some.inj H108
           refine Jl 4 6 rfl rfl (by decide) ?_
           refine Y0 4 rfl (Xn (p := ((none, 0) : Option Addr × Nat)) rfl (AllC.nil (G := g_tag_Entry) (h := X6) (sz := 6))) ?_
           refine Jl 3 4 rfl rfl (by decide) ?_
           refine Jl 2 3 rfl rfl (by decide) ?_
           refine Jl 1 2 rfl rfl (by decide) ?_
           refine Jl 0 1 rfl rfl (by decide) ?_
           refine ret3 (v1 := .slice ((none, 0) : Option Addr × Nat).1 (([] : List (List Value)).length) ((none, 0) : Option Addr × Nat).2) (v2 := .int .i64 0) (v3 := .int .i64 1) rfl rfl rfl rfl (V6 (((none, 0) : Option Addr × Nat), m0_2, p, m0_4) (i := 0) rfl (by first | rfl | rw [(show (([] : List (List Value)).length) = ([] : List T_tag_Entry).length from (AllC.nil (G := g_tag_Entry) (h := X6) (sz := 6)).len)]) (by first | exact Imp.refl _ | exact Imp.of (by rw [(show (([] : List (List Value)).length) = ([] : List T_tag_Entry).length from (AllC.nil (G := g_tag_Entry) (h := X6) (sz := 6)).len)] <;> rfl)))
          ·have H109 := Jq hb H107; clear H107
           refine Jt ?_
           refine Jn () () 0 [0, 1, 2, 3, 4] (by exact ⟨rfl, rfl, rfl, rfl, rfl, rfl, rfl, trivial⟩) (by decide) (by kernel_rfl) (by exact ⟨H109, trivial⟩) (Nat.lt_succ_self _)
         ·have H110 := Jq hb H82; clear H82
          refine Ji rfl rfl rfl ?_
          refine Ji rfl rfl rfl ?_
          refine Ja rfl rfl rfl (Qf (v := .bool false) rfl rfl) ?_
          refine Jg ?_
          refine Ug rfl ?_
          refine Jt ?_
          refine Jn () () 0 [0, 1, 2, 3, 4] (by exact ⟨rfl, rfl, rfl, rfl, rfl, rfl, rfl, trivial⟩) (by decide) (by kernel_rfl) (by exact ⟨H110, trivial⟩) (Nat.lt_succ_self _)
        ·rintro _ _ gg H83 _
         replace H83 : Yl a0 a1 a2 a5 self t36 l69 t78 = some r := H83
         try dsimp only
         refine Qz (r := r) (σ := Int × (List UInt8) × Bool × (List (Int × Bool)) × (List T_tag_Span) × (List ((List UInt8) × T_tintref2_place)) × (List T_tag_Entry)) (τ := Qj × Nat × (Option Addr × Nat) × Nat × (List (List Value)) × (Option Addr × Nat)) (fun s => Jak s.1 s.2.1 s.2.2.1 s.2.2.2.1 s.2.2.2.2.1 s.2.2.2.2.2.1 s.2.2.2.2.2.2) (fun s t => [(12, .slice t.2.2.2.2.2.1 t.2.2.2.2.1.length t.2.2.2.2.2.2), (13, .int .i64 s.1)]) (fun s t => [Jo pb0 [Jv s.2.1, .bool s.2.2.1, .map (some t.2.1), .slice t.2.2.1.1 s.2.2.2.2.1.length t.2.2.1.2, .map (some t.2.2.2.1)] 119, Q1 (fun x_ : Int => .int .i64 x_) (fun x_ : Bool => .bool x_) t.2.1 s.2.2.2.1, Qa 56 2 (.slice t.2.2.1.1 s.2.2.2.2.1.length t.2.2.1.2) s.2.2.2.2.1.length (s.2.2.2.2.1.map Jj), Q1 (fun x_ : (List UInt8) => Jv x_) (fun x_ : T_tintref2_place => .agg #[.int .i64 x_.entry_, .int .i64 x_.from_, .int .i64 x_.to_]) t.2.2.2.1 s.2.2.2.2.2.1, Yv X6 t.1, Qa 83 6 (.slice t.2.2.2.2.2.1 t.2.2.2.2.1.length t.2.2.2.2.2.2) t.2.2.2.2.1.length (t.2.2.2.2.1.map idC)]) (fun s t => AllC g_tag_Entry t.1 6 t.2.2.2.2.1 s.2.2.2.2.2.2) ?_ ?_
         ·refine Jf ?_
          try dsimp only [z1, z2, z5, z6, z7, z8]
          refine Jb ?_
          refine Ja rfl rfl rfl (Je (v := .int .i64 t36) rfl) ?_
          refine Ja rfl rfl rfl (Je (v := .int .i64 0) rfl) ?_
          refine Jg ?_
          refine J8 ?_
          refine J0 83 6 ?_
          refine Z2 (σ := Int × Int × (List UInt8) × Int × Int × Int × (List UInt8) × Bool × (List (Int × Bool)) × (List T_tag_Span) × (List ((List UInt8) × T_tintref2_place)) × (List T_tag_Entry)) (τ := Qj × Nat × (Option Addr × Nat) × Nat × (List (List Value)) × (Option Addr × Nat)) (fun next3 s => Q6 self next3 s.1 s.2.1 s.2.2.1 s.2.2.2.1 s.2.2.2.2.1 s.2.2.2.2.2.1 s.2.2.2.2.2.2.1 s.2.2.2.2.2.2.2.1 s.2.2.2.2.2.2.2.2.1 s.2.2.2.2.2.2.2.2.2.1 s.2.2.2.2.2.2.2.2.2.2.1 s.2.2.2.2.2.2.2.2.2.2.2) (fun s t => [(0, .pointer (some ⟨pb0, 0, none⟩)), (1, .int .i64 s.1), (2, .int .i64 s.2.1), (5, Jv s.2.2.1), (12, .slice t.2.2.2.2.2.1 t.2.2.2.2.1.length t.2.2.2.2.2.2), (13, .int .i64 s.2.2.2.1), (84, .int .i64 s.2.2.2.2.1), (85, .int .i64 s.2.2.2.2.2.1)]) (fun s t => [Jo pb0 [Jv s.2.2.2.2.2.2.1, .bool s.2.2.2.2.2.2.2.1, .map (some t.2.1), .slice t.2.2.1.1 s.2.2.2.2.2.2.2.2.2.1.length t.2.2.1.2, .map (some t.2.2.2.1)] 119, Q1 (fun x_ : Int => .int .i64 x_) (fun x_ : Bool => .bool x_) t.2.1 s.2.2.2.2.2.2.2.2.1, Qa 56 2 (.slice t.2.2.1.1 s.2.2.2.2.2.2.2.2.2.1.length t.2.2.1.2) s.2.2.2.2.2.2.2.2.2.1.length (s.2.2.2.2.2.2.2.2.2.1.map Jj), Q1 (fun x_ : (List UInt8) => Jv x_) (fun x_ : T_tintref2_place => .agg #[.int .i64 x_.entry_, .int .i64 x_.from_, .int .i64 x_.to_]) t.2.2.2.1 s.2.2.2.2.2.2.2.2.2.2.1, Yv X6 t.1, Qa 83 6 (.slice t.2.2.2.2.2.1 t.2.2.2.2.1.length t.2.2.2.2.2.2) t.2.2.2.2.1.length (t.2.2.2.2.1.map idC)]) (fun s t => AllC g_tag_Entry t.1 6 t.2.2.2.2.1 s.2.2.2.2.2.2.2.2.2.2.2) (a1, a2, a5, t78, t36, 0, a0.s_, a0.big_, (Z6 a0.starts_ a1 true), l69, a0.places_, ([] : List T_tag_Entry)) (X6, m0_2, p, m0_4, ([] : List (List Value)), ((none, 0) : Option Addr × Nat)) [0, 1, 2, 3, 4, 5] H83 (by exact (AllC.nil (G := g_tag_Entry) (h := X6) (sz := 6))) (by exact ⟨rfl, rfl, rfl, rfl, rfl, rfl, rfl, rfl, trivial⟩) (by decide) rfl ?_
          rintro ⟨x1_2, x2_2, x5_2, x13_3, x84_2, x85_2, m_5, m_6, mp_5, l_5, mp_6, l_6⟩ ⟨hp_2, b_3, p_4, b_4, css_2, p_5⟩ m3 gg H85 pf_3
          clear H83
          replace H85 : Q6 self (it (fun next3 s => Q6 self next3 s.1 s.2.1 s.2.2.1 s.2.2.2.1 s.2.2.2.2.1 s.2.2.2.2.2.1 s.2.2.2.2.2.2.1 s.2.2.2.2.2.2.2.1 s.2.2.2.2.2.2.2.2.1 s.2.2.2.2.2.2.2.2.2.1 s.2.2.2.2.2.2.2.2.2.2.1 s.2.2.2.2.2.2.2.2.2.2.2) m3) x1_2 x2_2 x5_2 x13_3 x84_2 x85_2 m_5 m_6 mp_5 l_5 mp_6 l_6 = some r := H85
          generalize hn3 : it (fun next3 s => Q6 self next3 s.1 s.2.1 s.2.2.1 s.2.2.2.1 s.2.2.2.2.1 s.2.2.2.2.2.1 s.2.2.2.2.2.2.1 s.2.2.2.2.2.2.2.1 s.2.2.2.2.2.2.2.2.1 s.2.2.2.2.2.2.2.2.2.1 s.2.2.2.2.2.2.2.2.2.2.1 s.2.2.2.2.2.2.2.2.2.2.2) m3 = next3 at H85
          try dsimp only
          refine Jf ?_
          refine Jb ?_
          refine Ja rfl rfl rfl (Zc rfl rfl) ?_
          refine Jg ?_
          try dsimp only [z1, z2, z5, z6, z7, z8]
          refine Jf ?_
          refine Qd (b := (decide (x85_2 < x84_2))) rfl (fun hb => ?_) (fun hb => ?_)
          ·have H86 := Jp hb H85; clear H85
           refine Jt ?_
           refine Jf ?_
           refine J8 ?_
           refine Jf ?_
           refine Jb ?_
           refine Ja rfl rfl rfl (Je (v := .int .i64 x85_2) rfl) ?_
           refine Ja rfl rfl rfl (Jc (v := .int .i64 x85_2) rfl) ?_
           refine Jg ?_
           try dsimp only [z1, z2, z5, z6, z7, z8]
           refine Jf ?_
           refine Jb ?_
           refine Ja rfl rfl rfl (Je (v := .int .i64 x1_2) rfl) ?_
           obtain ⟨t89, h_t89, H87⟩ := Jh H86; clear H86
           refine Ja rfl rfl rfl (Qe rfl rfl h_t89) ?_
           refine Ja rfl rfl rfl (Je (v := .int .i64 x85_2) rfl) ?_
           obtain ⟨t91, h_t91, H88⟩ := Jh H87; clear H87
           refine Ja rfl rfl rfl (W6 rfl rfl h_t91) ?_
           obtain ⟨t92, h_t92, H89⟩ := Jh H88; clear H88
           refine Ja rfl rfl rfl (Qe rfl rfl h_t92) ?_
           refine Ja rfl rfl rfl (Jc (v := .int .i64 t92) rfl) ?_
           refine Jg ?_
           try dsimp only [z1, z2, z5, z6, z7, z8]
           refine Jf ?_
           refine Jb ?_
           refine Ja rfl rfl rfl (Je (v := .pointer (some ⟨pb0, 0, none⟩)) rfl) ?_
           refine Ja rfl rfl rfl (Je (v := .int .i64 t92) rfl) ?_
           obtain ⟨t95, h_t95, H90⟩ := Jh H89; clear H89
           refine Qw (fun w hF hS => k132 (a0 := (⟨m_5, m_6, mp_5, l_5, mp_6⟩ : T_tintref2_reader)) (J7 w) (Xz (fk := (fun x_ : Int => .int .i64 x_)) (fv := (fun x_ : Bool => .bool x_)) (i := 1) hS rfl) (Yn (i := 2) rfl hS rfl) (Xz (fk := (fun x_ : (List UInt8) => Jv x_)) (fv := (fun x_ : T_tintref2_place => .agg #[.int .i64 x_.entry_, .int .i64 x_.from_, .int .i64 x_.to_])) (i := 3) hS rfl) (Xb (i := 0) hS rfl) h_t95) Tryz.call132 rfl rfl rfl ?_
           refine Ja rfl rfl rfl (Yi (pl := #[(0, 1), (1, 5)]) (ps := [(0, .int .i64 t95)]) (cells := #[.int .i64 t95, .int .i64 0, Jv [], .slice none 0 0, .slice none 0 0, .slice none 0 0]) Tryz.zeroValue83 Tryz.runUnderlying83 (fun w => by kernel_rfl) rfl (by kernel_rfl)) ?_
           refine Yo (cs := [.int .i64 0, .int .i64 0, Jv [], .slice none 0 0, .slice none 0 0, .slice none 0 0]) Tryz.zeroValue83 rfl rfl rfl (fun b4 => ?_)
           refine Qc (i := 6) (vs := [.int .i64 t95, .int .i64 0, Jv [], .slice none 0 0, .slice none 0 0, .slice none 0 0]) (cs' := [.int .i64 t95, .int .i64 0, Jv [], .slice none 0 0, .slice none 0 0, .slice none 0 0]) Tryz.sizeOf83 rfl rfl rfl rfl rfl rfl rfl rfl rfl ?_
           refine Jg ?_
           try dsimp only [z1, z2, z5, z6, z7, z8]
           refine Qz (r := r) (σ := Unit) (τ := Unit) (fun s => Ze self x1_2 x2_2 x5_2 x13_3 x84_2 x85_2 m_5 m_6 mp_5 l_5 mp_6 l_6 next3 t92 t95) (fun s t => [(0, .pointer (some ⟨pb0, 0, none⟩)), (1, .int .i64 x1_2), (2, .int .i64 x2_2), (5, Jv x5_2), (12, .slice p_5.1 css_2.length p_5.2), (13, .int .i64 x13_3), (17, .int .i64 t92), (18, .pointer (some ⟨b4, 0, none⟩)), (84, .int .i64 x84_2), (85, .int .i64 x85_2)]) (fun s t => [Jo pb0 [Jv m_5, .bool m_6, .map (some b_3), .slice p_4.1 l_5.length p_4.2, .map (some b_4)] 119, Q1 (fun x_ : Int => .int .i64 x_) (fun x_ : Bool => .bool x_) b_3 mp_5, Qa 56 2 (.slice p_4.1 l_5.length p_4.2) l_5.length (l_5.map Jj), Q1 (fun x_ : (List UInt8) => Jv x_) (fun x_ : T_tintref2_place => .agg #[.int .i64 x_.entry_, .int .i64 x_.from_, .int .i64 x_.to_]) b_4 mp_6, Yv X6 hp_2, Qa 83 6 (.slice p_5.1 css_2.length p_5.2) css_2.length (css_2.map idC), Jo b4 [.int .i64 t95, .int .i64 0, Jv [], .slice none 0 0, .slice none 0 0, .slice none 0 0] 83]) (fun s t => True) ?_ ?_
           ·refine Jf ?_
            exact Xp (Kd.p :: Kd.p :: Kd.p :: Kd.p :: Kd.d [6] _ :: Kd.p :: Kd.p :: Kd.p :: Kd.d [5] _ :: Kd.d [5] _ :: Kd.d [5] _ :: Kd.p :: Kd.p :: []) 0 mixed (by
             refine Jm rfl rfl (Je (v := .int .i64 x85_2) rfl) ?_
             refine Jm rfl rfl (Zm rfl rfl) ?_
             refine Jm rfl rfl (Je (v := .bool (decide (0 < x85_2))) rfl) ?_
             refine splitS (fun hb => ?_) (fun hb => ?_)
             ·have H100 := Jp hb H90
              refine Jm rfl rfl (Jk Tryz.runUnderlying83 rfl Tryz.sizeOf3 rfl rfl) ?_
              refine Xq (i := 6) (v := .int .i64 t95) Tryz.isAgg3 rfl rfl rfl rfl ?_
              refine Jm rfl rfl (Je (v := .slice p_5.1 css_2.length p_5.2) rfl) ?_
              refine Jm rfl rfl (Je (v := .int .i64 x85_2) rfl) ?_
              have h_t104 := Qg H100
              have H101 := J6 H100
              refine Jm rfl rfl (Wv rfl rfl h_t104) ?_
              have h_t105 := Qg H101
              have H102 := J6 H101
              refine Jam (fun w L' hF hS hi => V7 Tryz.underlying36 Tryz.sizeOf83 rfl rfl (W4 (i := 5) (E := 83) (sz := 6) (n := css_2.length) (a := p_5.1) (c := p_5.2) hS ((hi 5 (by simp)).trans rfl)) rfl (pf_3.ix h_t105)) rfl rfl ?_
              refine d_readE rfl rfl (fun w L' hF hS hi => run_fieldG Tryz.runUnderlying83 rfl Tryz.sizeOf3 rfl rfl (W4 (i := 5) (E := 83) (sz := 6) (n := css_2.length) (a := p_5.1) (c := p_5.2) hS ((hi 5 (by simp)).trans rfl)) (pf_3.ix h_t105)) ?_
              refine Jam (fun w L' hF hS hi => X4 (f := idC) (i := (val (gI (x85_2 - 1)))) (sz := 6) (j := 0) (v := .int .i64 (val (Y6 l_6 (val (gI (x85_2 - 1))))).Tag) Tryz.isAgg3 rfl rfl (W4 (i := 5) (E := 83) (sz := 6) (n := css_2.length) (a := p_5.1) (c := p_5.2) hS ((hi 5 (by simp)).trans rfl)) (pf_3.ix h_t105) (rg_of ((pf_3.eta h_t105).trans (Vd (pf_3.at h_t105))) rfl)) rfl rfl ?_
              refine Jm rfl rfl (r_leq rfl rfl) ?_
              refine Jm rfl rfl (J9 (v := .bool (decide (t95 ≤ (val (Y6 l_6 (val (gI (x85_2 - 1))))).Tag))) rfl rfl) ?_
              refine Zh ?_
              try dsimp only [z1, z2, z5, z6, z7, z8]
              refine Qd (b := (decide (t95 ≤ (val (Y6 l_6 (val (gI (x85_2 - 1))))).Tag))) rfl (fun hb => ?_) (fun hb => ?_)
              ·have H103 := Jp hb H102; clear H102
               refine Jf ?_
               refine Jb ?_
               refine Ja rfl rfl rfl (Jc (v := .slice none 0 0) rfl) ?_
               refine Ja rfl rfl rfl (Jc (v := .int .i64 0) rfl) ?_
               refine Ja rfl rfl rfl (Jc (v := .int .i64 5) rfl) ?_
               refine Jg ?_
               try dsimp only [z1, z2, z5, z6, z7, z8]
               refine Jx ?_
               refine J0 83 6 ?_
               obtain rfl := Option.some.inj H103
               refine Jl 4 7 rfl rfl (by decide) ?_
               refine Y0 4 rfl (Xn (p := ((none, 0) : Option Addr × Nat)) rfl (AllC.nil (G := g_tag_Entry) (h := hp_2) (sz := 6))) ?_
               refine Jl 3 4 rfl rfl (by decide) ?_
               refine Jl 2 3 rfl rfl (by decide) ?_
               refine Jl 1 2 rfl rfl (by decide) ?_
               refine Jl 0 1 rfl rfl (by decide) ?_
               refine ret3 (v1 := .slice ((none, 0) : Option Addr × Nat).1 (([] : List (List Value)).length) ((none, 0) : Option Addr × Nat).2) (v2 := .int .i64 0) (v3 := .int .i64 5) rfl rfl rfl rfl (V6 (((none, 0) : Option Addr × Nat), b_3, p_4, b_4) (i := 0) rfl (by first | rfl | rw [(show (([] : List (List Value)).length) = ([] : List T_tag_Entry).length from (AllC.nil (G := g_tag_Entry) (h := hp_2) (sz := 6)).len)]) (by first | exact Imp.refl _ | exact Imp.of (by rw [(show (([] : List (List Value)).length) = ([] : List T_tag_Entry).length from (AllC.nil (G := g_tag_Entry) (h := hp_2) (sz := 6)).len)] <;> rfl)))
              ·have H104 := Jq hb H102; clear H102
               refine Jt ?_
               refine Jn () () 0 [0, 1, 2, 3, 4, 5, 6] (by exact ⟨rfl, rfl, rfl, rfl, rfl, rfl, rfl, rfl, rfl, rfl, trivial⟩) (by decide) (by kernel_rfl) (by exact ⟨H104, trivial⟩) (Nat.lt_succ_self _)
             ·have H105 := Jq hb H90
              refine Qi rfl rfl ?_
              refine Qi rfl rfl ?_
              refine Qi rfl rfl ?_
              refine Qi rfl rfl ?_
              refine Qi rfl rfl ?_
              refine Qi rfl rfl ?_
              refine Qi rfl rfl ?_
              refine Qi rfl rfl ?_
              refine Qi rfl rfl ?_
              refine Jm rfl rfl (Qf (v := .bool false) rfl rfl) ?_
              refine Zh ?_
              try dsimp only [z1, z2, z5, z6, z7, z8]
              refine Ug rfl ?_
              refine Jt ?_
              refine Jn () () 0 [0, 1, 2, 3, 4, 5, 6] (by exact ⟨rfl, rfl, rfl, rfl, rfl, rfl, rfl, rfl, rfl, rfl, trivial⟩) (by decide) (by kernel_rfl) (by exact ⟨H105, trivial⟩) (Nat.lt_succ_self _)
             ) (by kernel_rfl)
           ·rintro _ _ gg H91 _
            replace H91 : Ze self x1_2 x2_2 x5_2 x13_3 x84_2 x85_2 m_5 m_6 mp_5 l_5 mp_6 l_6 next3 t92 t95 = some r := H91
            try dsimp only
            refine Jf ?_
            refine Jb ?_
            refine Ja rfl rfl rfl (Je (v := .pointer (some ⟨pb0, 0, none⟩)) rfl) ?_
            refine Ja rfl rfl rfl (Je (v := .int .i64 t92) rfl) ?_
            refine Ja rfl rfl rfl (Je (v := .int .i64 x2_2) rfl) ?_
            refine Ja rfl rfl rfl (Je (v := Jv x5_2) rfl) ?_
            obtain ⟨t115, h_t115, H92⟩ := Jh H91; clear H91
            refine Ja rfl rfl rfl (Vj rfl rfl h_t115) ?_
            refine Ja rfl rfl rfl (Jk Tryz.runUnderlying83 rfl Tryz.sizeOf3 rfl rfl) ?_
            refine Js (i := 6) (v := .int .i64 t95) Tryz.isAgg3 rfl rfl rfl rfl rfl ?_
            obtain ⟨t118, h_t118, H93⟩ := Jh H92; clear H92
            refine Qw (fun w hF hS => k134 (J7 w) (tb_pow10.mono (hw.now hF)) h_t118) Tryz.call134 rfl rfl rfl ?_
            obtain ⟨t119, h_t119, H94⟩ := Jh H93; clear H93
            refine Ja rfl rfl rfl (Vj rfl rfl h_t119) ?_
            obtain ⟨t120, h_t120, H95⟩ := Jh H94; clear H94
            refine Jl 2 3 rfl rfl (by decide) ?_
            refine Jl 1 2 rfl rfl (by decide) ?_
            refine Jl 0 1 rfl rfl (by decide) ?_
            refine Xg (Ql (i := 0) (rds := []) (G := fun x : (Option Addr × Nat) × (Option Addr × Nat) × (Option Addr × Nat) × Nat × (Option Addr × Nat) × Nat => .tuple #[.agg #[.int .i64 t120.1.Kind, Jv t120.1.Text, .slice x.1.1 t120.1.Ints.length x.1.2, .slice x.2.1.1 t120.1.Ratios.length x.2.1.2, .slice x.2.2.1.1 t120.1.Entries.length x.2.2.1.2], .int .i64 t120.2.1]) (C := fun x : (Option Addr × Nat) × (Option Addr × Nat) × (Option Addr × Nat) × Nat × (Option Addr × Nat) × Nat => J1 (Jo pb0 [Jv t120.2.2.s_, .bool t120.2.2.big_, .map (some x.2.2.2.1), .slice x.2.2.2.2.1.1 t120.2.2.parts_.length x.2.2.2.2.1.2, .map (some x.2.2.2.2.2)] 119) (J1 (Q1 (fun x_ : Int => .int .i64 x_) (fun x_ : Bool => .bool x_) x.2.2.2.1 t120.2.2.starts_) (J1 (Qa 56 2 (.slice x.2.2.2.2.1.1 t120.2.2.parts_.length x.2.2.2.2.1.2) t120.2.2.parts_.length (t120.2.2.parts_.map Jj)) (J1 (Q1 (fun x_ : (List UInt8) => Jv x_) (fun x_ : T_tintref2_place => .agg #[.int .i64 x_.entry_, .int .i64 x_.from_, .int .i64 x_.to_]) x.2.2.2.2.2 t120.2.2.places_) (J1 (Qa 3 1 (.slice x.1.1 t120.1.Ints.length x.1.2) t120.1.Ints.length (t120.1.Ints.map Xc)) (J1 (Qa 74 2 (.slice x.2.1.1 t120.1.Ratios.length x.2.1.2) t120.1.Ratios.length (t120.1.Ratios.map Jz)) (W3 83 6 g_tag_Entry (.slice x.2.2.1.1 t120.1.Entries.length x.2.2.1.2) t120.1.Entries.length t120.1.Entries))))))) rfl (fun w L' S hF hS hi hp hlt ho hA => k177_b ih (a0 := (⟨m_5, m_6, mp_5, l_5, mp_6⟩ : T_tintref2_reader)) hp hlt (Xa w S) rfl (tb_pow10.mono (hw.but hF ho)) h_t120) Tryz.call177 rfl) rfl rfl rfl (fun ⟨p_6, p_7, p_8, p_9, p_10, p_11⟩ => ?_)
            refine Qk 0 1 rfl rfl (by decide) ?_
            refine Qk 1 2 rfl rfl (by decide) ?_
            refine Qk 2 3 rfl rfl (by decide) ?_
            refine Q2 3 rfl ?_
            refine Q2 7 rfl ?_
            refine Q2 8 rfl ?_
            refine Ja rfl rfl rfl (Je (v := .tuple #[.agg #[.int .i64 t120.1.Kind, Jv t120.1.Text, .slice p_6.1 t120.1.Ints.length p_6.2, .slice p_7.1 t120.1.Ratios.length p_7.2, .slice p_8.1 t120.1.Entries.length p_8.2], .int .i64 t120.2.1]) rfl) ?_
            refine Ja rfl rfl rfl (Qs (v := .agg #[.int .i64 t120.1.Kind, Jv t120.1.Text, .slice p_6.1 t120.1.Ints.length p_6.2, .slice p_7.1 t120.1.Ratios.length p_7.2, .slice p_8.1 t120.1.Entries.length p_8.2]) rfl rfl) ?_
            refine Ja rfl rfl rfl (Qs (v := .int .i64 t120.2.1) rfl rfl) ?_
            refine Ja rfl rfl rfl (Jk Tryz.runUnderlying83 rfl Tryz.sizeOf38 rfl rfl) ?_
            refine Qc (i := 6) (vs := [.int .i64 t120.1.Kind, Jv t120.1.Text, .slice p_6.1 t120.1.Ints.length p_6.2, .slice p_7.1 t120.1.Ratios.length p_7.2, .slice p_8.1 t120.1.Entries.length p_8.2]) (cs' := [.int .i64 t95, .int .i64 t120.1.Kind, Jv t120.1.Text, .slice p_6.1 t120.1.Ints.length p_6.2, .slice p_7.1 t120.1.Ratios.length p_7.2, .slice p_8.1 t120.1.Entries.length p_8.2]) Tryz.sizeOf38 rfl rfl rfl rfl rfl rfl rfl rfl rfl ?_
            refine Ja rfl rfl rfl (Jc (v := .int .i64 t120.2.1) rfl) ?_
            refine Jg ?_
            try dsimp only [z1, z2, z5, z6, z7, z8]
            refine Jf ?_
            refine Jf ?_
            refine Jb ?_
            refine Ja rfl rfl rfl (Je (v := .int .i64 t120.2.1) rfl) ?_
            refine Ja rfl rfl rfl (Va rfl rfl) ?_
            refine Jg ?_
            try dsimp only [z1, z2, z5, z6, z7, z8]
            refine Qd (b := (decide (t120.2.1 ≠ 0))) rfl (fun hb => ?_) (fun hb => ?_)
            ·have H96 := Jp hb H95; clear H95
             refine Jf ?_
             refine Jb ?_
             refine Ja rfl rfl rfl (Je (v := .int .i64 t120.2.1) rfl) ?_
             refine Ja rfl rfl rfl (Jc (v := .slice none 0 0) rfl) ?_
             refine Ja rfl rfl rfl (Jc (v := .int .i64 0) rfl) ?_
             refine Ja rfl rfl rfl (Jc (v := .int .i64 t120.2.1) rfl) ?_
             refine Jg ?_
             try dsimp only [z1, z2, z5, z6, z7, z8]
             refine Jx ?_
             refine J0 83 6 ?_
             obtain rfl := Option.some.inj H96
             refine Jl 4 10 rfl rfl (by decide) ?_
             refine Y0 4 rfl (Xn (p := ((none, 0) : Option Addr × Nat)) rfl (AllC.nil (G := g_tag_Entry) (h := hp_2) (sz := 6))) ?_
             refine Jl 3 4 rfl rfl (by decide) ?_
             refine Jl 2 3 rfl rfl (by decide) ?_
             refine Jl 1 2 rfl rfl (by decide) ?_
             refine Jl 0 1 rfl rfl (by decide) ?_
             refine ret3 (v1 := .slice ((none, 0) : Option Addr × Nat).1 (([] : List (List Value)).length) ((none, 0) : Option Addr × Nat).2) (v2 := .int .i64 0) (v3 := .int .i64 t120.2.1) rfl rfl rfl rfl (V6 (((none, 0) : Option Addr × Nat), p_9, p_10, p_11) (i := 0) rfl (by first | rfl | rw [(show (([] : List (List Value)).length) = ([] : List T_tag_Entry).length from (AllC.nil (G := g_tag_Entry) (h := hp_2) (sz := 6)).len)]) (by first | exact Imp.refl _ | exact Imp.of (by rw [(show (([] : List (List Value)).length) = ([] : List T_tag_Entry).length from (AllC.nil (G := g_tag_Entry) (h := hp_2) (sz := 6)).len)] <;> rfl)))
            ·have H97 := Jq hb H95; clear H95
             refine Jt ?_
             try dsimp only [z1, z2, z5, z6, z7, z8]
             refine Jb ?_
             refine Ja rfl rfl rfl (Je (v := .slice p_5.1 css_2.length p_5.2) rfl) ?_
             refine Xr (i := 6) (vs := [.int .i64 t95, .int .i64 t120.1.Kind, Jv t120.1.Text, .slice p_6.1 t120.1.Ints.length p_6.2, .slice p_7.1 t120.1.Ratios.length p_7.2, .slice p_8.1 t120.1.Entries.length p_8.2]) Tryz.isAgg83 Tryz.sizeOf83 rfl rfl rfl rfl rfl ?_
             refine Q9 (vs := [.agg #[.int .i64 t95, .int .i64 t120.1.Kind, Jv t120.1.Text, .slice p_6.1 t120.1.Ints.length p_6.2, .slice p_7.1 t120.1.Ratios.length p_7.2, .slice p_8.1 t120.1.Entries.length p_8.2]]) (cs := [.int .i64 t95, .int .i64 t120.1.Kind, Jv t120.1.Text, .slice p_6.1 t120.1.Ints.length p_6.2, .slice p_7.1 t120.1.Ratios.length p_7.2, .slice p_8.1 t120.1.Entries.length p_8.2]) Tryz.underlying36 Tryz.sizeOf83 Tryz.zeroValue83 rfl rfl rfl rfl rfl rfl rfl (fun b5 => ?_)
             try dsimp only [z1, z2, z5, z6, z7, z8]
             refine Jaz (Φ := fun H_ => FrS H_ 1 (.slice p_6.1 t120.1.Ints.length p_6.2) (t120.1.Ints.map Xc)) 4 7 rfl rfl (by decide) (fun _ _ => W7) (fz_own _) (fun hp_3 hle hf => ?_)
             try dsimp only [z1, z2, z5, z6, z7, z8]
             refine Jaz (Φ := fun H_ => FrS H_ 2 (.slice p_7.1 t120.1.Ratios.length p_7.2) (t120.1.Ratios.map Jz)) 4 8 rfl rfl (by decide) (fun _ _ => W7) (fz_own _) (fun hp_4 hle_2 hf_2 => ?_)
             refine c_rowD 9 rfl (fun hp_5 css_3 hn pf_4 => ?_)
             rw [hn]
             try dsimp only [z1, z2, z5, z6, z7, z8]
             refine Q2 9 rfl ?_
             try dsimp only [z1, z2, z5, z6, z7, z8]
             refine Wy 4 9 rfl rfl (by decide) (fun _ _ => W7) (fun hp_6 hle_3 hle_4 => ?_)
             try dsimp only [z1, z2, z5, z6, z7, z8]
             refine Jaz (Φ := fun H_ => FrS H_ 6 (.slice p_8.1 css_3.length p_8.2) (css_3.map idC)) 4 11 rfl rfl (by decide) (fun _ _ => W7) (fz_own _) (fun hp_7 hle_5 hf_3 => ?_)
             obtain ⟨l130, h_l130, H98⟩ := Jh H97; clear H97
             refine Xg (Ja6 (i := 5) (k := 10) (p := p_5) (f := idC) (ys := css_2) (ls := [[.int .i64 t95, .int .i64 t120.1.Kind, Jv t120.1.Text, .slice p_6.1 t120.1.Ints.length p_6.2, .slice p_7.1 t120.1.Ratios.length p_7.2, .slice p_8.1 css_3.length p_8.2]]) Tryz.underlying36 (Z1 Tryz.typeInfo83) rfl rfl rfl rfl rfl rfl rfl rfl rfl rfl rfl rfl rfl rfl (by simp only [idC, List.map_cons, List.map_nil, List.all_cons, List.all_nil, (((hf.mono hle_2).mono hle_3).mono hle_5).one, ((hf_2.mono hle_3).mono hle_5).one, (frn_of (xs := t120.1.Entries) hf_3 ((pf_4.mono hle_4).mono hle_5)).one] <;> rfl) (app63 (((((pf_3.mono hle).mono hle_2).mono hle_3).mono hle_5).app h_l130 (nc := [[.int .i64 t95, .int .i64 t120.1.Kind, Jv t120.1.Text, .slice p_6.1 t120.1.Ints.length p_6.2, .slice p_7.1 t120.1.Ratios.length p_7.2, .slice p_8.1 css_3.length p_8.2]]) rfl)) rfl) rfl rfl rfl (fun p_12 => ?_)
             have pf_5 : AllC g_tag_Entry hp_7 6 (css_2 ++ [[.int .i64 t95, .int .i64 t120.1.Kind, Jv t120.1.Text, .slice p_6.1 t120.1.Ints.length p_6.2, .slice p_7.1 t120.1.Ratios.length p_7.2, .slice p_8.1 css_3.length p_8.2]]) l130 := AllC.snocG ((((pf_3.mono hle).mono hle_2).mono hle_3).mono hle_5) h_l130 rfl ((g_tag_Entry_iff.2 ⟨rfl, ⟨rfl, rfl, (((hf.mono hle_2).mono hle_3).mono hle_5), ((hf_2.mono hle_3).mono hle_5), (frn_of (xs := t120.1.Entries) hf_3 ((pf_4.mono hle_4).mono hle_5))⟩⟩))
             refine Ja rfl rfl rfl (Jc (v := .slice p_12.1 ((css_2 ++ [[.int .i64 t95, .int .i64 t120.1.Kind, Jv t120.1.Text, .slice p_6.1 t120.1.Ints.length p_6.2, .slice p_7.1 t120.1.Ratios.length p_7.2, .slice p_8.1 css_3.length p_8.2]]).length) p_12.2) rfl) ?_
             refine Jg ?_
             try dsimp only [z1, z2, z5, z6, z7, z8]
             refine Jb ?_
             obtain ⟨t131, h_t131, H99⟩ := Jh H98; clear H98
             refine Ja rfl rfl rfl (Qe rfl rfl h_t131) ?_
             refine Ja rfl rfl rfl (Je (v := .int .i64 t131) rfl) ?_
             refine Jg ?_
             try dsimp only [z1, z2, z5, z6, z7, z8]
             refine Jn (x1_2, x2_2, x5_2, x13_3, x84_2, t131, t120.2.2.s_, t120.2.2.big_, t120.2.2.starts_, t120.2.2.parts_, t120.2.2.places_, l130) (hp_7, p_9, p_10, p_11, (css_2 ++ [[.int .i64 t95, .int .i64 t120.1.Kind, Jv t120.1.Text, .slice p_6.1 t120.1.Ints.length p_6.2, .slice p_7.1 t120.1.Ratios.length p_7.2, .slice p_8.1 css_3.length p_8.2]]), p_12) m3 [0, 1, 2, 3, 4, 5] (by exact ⟨rfl, rfl, rfl, rfl, rfl, rfl, rfl, rfl, trivial⟩) (by decide) (by kernel_rfl) (by exact ⟨(by subst hn3; exact H99), pf_5⟩) (Nat.lt_succ_self _)
          ·have H106 := Jq hb H85; clear H85
           refine X3 ?_
           refine Jn (x13_3, m_5, m_6, mp_5, l_5, mp_6, l_6) (hp_2, b_3, p_4, b_4, css_2, p_5) 0 [0, 1, 2, 3, 4, 5] (by exact ⟨rfl, rfl, trivial⟩) (by decide) (by kernel_rfl) (by exact ⟨H106, pf_3⟩) (Nat.lt_succ_self _)
         ·rintro ⟨x13, m, m_2, mp, l, mp_2, l_2⟩ ⟨hp, b, p_2, b_2, css, p_3⟩ gg H84 pf
          replace H84 : Jak x13 m m_2 mp l mp_2 l_2 = some r := H84
          try dsimp only
          refine Jf ?_
          refine Jb ?_
          refine Ja rfl rfl rfl (Je (v := .slice p_3.1 css.length p_3.2) rfl) ?_
          refine Ja rfl rfl rfl (Je (v := .int .i64 x13) rfl) ?_
          refine Ja rfl rfl rfl (Jc (v := .slice p_3.1 css.length p_3.2) rfl) ?_
          refine Ja rfl rfl rfl (Jc (v := .int .i64 x13) rfl) ?_
          refine Ja rfl rfl rfl (Jc (v := .int .i64 0) rfl) ?_
          refine Jg ?_
          try dsimp only [z1, z2, z5, z6, z7, z8]
          refine Jx ?_
          obtain rfl := Option.some.inj H84
          refine Jl 4 5 rfl rfl (by decide) ?_
          refine Y0 4 rfl (Xn (p := p_3) rfl pf) ?_
          refine Jl 3 4 rfl rfl (by decide) ?_
          refine Jl 2 3 rfl rfl (by decide) ?_
          refine Jl 1 2 rfl rfl (by decide) ?_
          refine Jl 0 1 rfl rfl (by decide) ?_
          refine ret3 (v1 := .slice p_3.1 css.length p_3.2) (v2 := .int .i64 x13) (v3 := .int .i64 0) rfl rfl rfl rfl (V6 (p_3, b, p_2, b_2) (i := 0) rfl (by first | rfl | rw [(show css.length = l_2.length from pf.len)]) (by first | exact Imp.refl _ | exact Imp.of (by rw [(show css.length = l_2.length from pf.len)] <;> rfl)))
theorem k133 {a0 : T_tintref2_reader} {pb0 : Nat} {m0_2 : Nat} {p0_3 : Option Addr × Nat} {n0_3 : Nat} {m0_4 : Nat} {a1 : Int} {a2 : Int} {a3 : Int} {a4 : Bool} {a5 : (List UInt8)} {r : (List T_tag_Entry) × Int × Int × T_tintref2_reader} {w : World} {h : Qj} {S : Nat → Prop} (hcs : (J1 (Jo pb0 [Jv a0.s_, .bool a0.big_, .map (some m0_2), .slice p0_3.1 n0_3 p0_3.2, .map (some m0_4)] 119) (J1 (Q1 (fun x_ : Int => .int .i64 x_) (fun x_ : Bool => .bool x_) m0_2 a0.starts_) (J1 (Qa 56 2 (.slice p0_3.1 n0_3 p0_3.2) n0_3 (a0.parts_.map Jj)) (Q1 (fun x_ : (List UInt8) => Jv x_) (fun x_ : T_tintref2_place => .agg #[.int .i64 x_.entry_, .int .i64 x_.from_, .int .i64 x_.to_]) m0_4 a0.places_)))).P S w) (hlt : ∀ b, S b → b < w.heap.size) (hw : Know h w S) (hn0_3 : n0_3 = a0.parts_.length) (tb_pow10 : TabH Tryz.prog h "internal/strconv.uint64pow10" .u64 Lib.pow10Tab) (H : Jab a0 a1 a2 a3 a4 a5 = some r) : Does Tryz.prog 133 (List.toArray [.pointer (some ⟨pb0, 0, none⟩), .int .i64 a1, .int .i64 a2, .int .i64 a3, .bool a4, Jv a5]) w (fun v w' => ∃ x : (Option Addr × Nat) × Nat × (Option Addr × Nat) × Nat, v = (.tuple #[.slice x.1.1 r.1.length x.1.2, .int .i64 r.2.1, .int .i64 r.2.2.1]) ∧ Turn w w' S (J1 (Jo pb0 [Jv r.2.2.2.s_, .bool r.2.2.2.big_, .map (some x.2.1), .slice x.2.2.1.1 r.2.2.2.parts_.length x.2.2.1.2, .map (some x.2.2.2)] 119) (J1 (Q1 (fun x_ : Int => .int .i64 x_) (fun x_ : Bool => .bool x_) x.2.1 r.2.2.2.starts_) (J1 (Qa 56 2 (.slice x.2.2.1.1 r.2.2.2.parts_.length x.2.2.1.2) r.2.2.2.parts_.length (r.2.2.2.parts_.map Jj)) (J1 (Q1 (fun x_ : (List UInt8) => Jv x_) (fun x_ : T_tintref2_place => .agg #[.int .i64 x_.entry_, .int .i64 x_.from_, .int .i64 x_.to_]) x.2.2.2 r.2.2.2.places_) (W3 83 6 g_tag_Entry (.slice x.1.1 r.1.length x.1.2) r.1.length r.1)))))) := by
 obtain ⟨mm, hm⟩ := fix_it (show Z3 (fun (self : (T_tintref2_reader × Int × Int × Int × Bool × (List UInt8)) → Option ((List T_tag_Entry) × Int × Int × T_tintref2_reader)) (s : T_tintref2_reader × Int × Int × Int × Bool × (List UInt8)) => Qx self s.1 s.2.1 s.2.2.1 s.2.2.2.1 s.2.2.2.2.1 s.2.2.2.2.2) (a0, a1, a2, a3, a4, a5) = some r from H)
 exact k133_it mm hcs hlt hw hn0_3 tb_pow10 hm
theorem k65 {a0 : T_tintref2_reader} {pb0 : Nat} {p0_3 : Option Addr × Nat} {n0_3 : Nat} {Rq : Type} {kq : (T_tag_File × Int × T_tintref2_reader) → Option Rq} {r : Rq} {w : World} {h : Qj} {S : Nat → Prop} (hcs : (J1 (Jo pb0 [Jv a0.s_, .bool a0.big_, .map none, .slice p0_3.1 n0_3 p0_3.2, .map none] 119) (Qa 56 2 (.slice p0_3.1 n0_3 p0_3.2) n0_3 (a0.parts_.map Jj))).P S w) (hlt : ∀ b, S b → b < w.heap.size) (hw : Know h w S) (hn0_3 : n0_3 = a0.parts_.length) (tb_pow10 : TabH Tryz.prog h "internal/strconv.uint64pow10" .u64 Lib.pow10Tab) (H : Yx a0 kq = some r) : Does Tryz.prog 65 (List.toArray [.pointer (some ⟨pb0, 0, none⟩)]) w (fun v w' => ∃ (r_ : T_tag_File × Int × T_tintref2_reader) (x : (Option Addr × Nat) × Nat × (Option Addr × Nat) × Nat), kq r_ = some r ∧ v = (.tuple #[.agg #[.bool r_.1.Big, .slice x.1.1 r_.1.Dirs.length x.1.2], .int .i64 r_.2.1]) ∧ Turn w w' S (J1 (Jo pb0 [Jv r_.2.2.s_, .bool r_.2.2.big_, .map (some x.2.1), .slice x.2.2.1.1 r_.2.2.parts_.length x.2.2.1.2, .map (some x.2.2.2)] 119) (J1 (Q1 (fun x_ : Int => .int .i64 x_) (fun x_ : Bool => .bool x_) x.2.1 r_.2.2.starts_) (J1 (Qa 56 2 (.slice x.2.2.1.1 r_.2.2.parts_.length x.2.2.1.2) r_.2.2.parts_.length (r_.2.2.parts_.map Jj)) (J1 (Q1 (fun x_ : (List UInt8) => Jv x_) (fun x_ : T_tintref2_place => .agg #[.int .i64 x_.entry_, .int .i64 x_.from_, .int .i64 x_.to_]) x.2.2.2 r_.2.2.places_) (W3 36 1 gs_tag_Entry (.slice x.1.1 r_.1.Dirs.length x.1.2) r_.1.Dirs.length r_.1.Dirs)))))) := by
 refine enter (n := 136) Tryz.func65 rfl rfl rfl S [J1 (Jo pb0 [Jv a0.s_, .bool a0.big_, .map none, .slice p0_3.1 n0_3 p0_3.2, .map none] 119) (Qa 56 2 (.slice p0_3.1 n0_3 p0_3.2) n0_3 (a0.parts_.map Jj))] (Sat.one hcs hlt) ?_
 refine Q2 0 rfl ?_
 refine Zs X6 ?_
 refine Jf ?_
 refine Jb ?_
 refine Yo (cs := [.bool false, .slice none 0 0]) Tryz.zeroValue24 rfl rfl rfl (fun b5 => ?_)
 refine Ja rfl rfl rfl (Jc (v := .int .i64 0) rfl) ?_
 refine Jg ?_
 refine Jf ?_
 refine Jb ?_
 refine Ja rfl rfl rfl (Je (v := .pointer (some ⟨pb0, 0, none⟩)) rfl) ?_
 refine Ja rfl rfl rfl (Je (v := .pointer (some ⟨pb0, 0, none⟩)) rfl) ?_
 refine l_make (rds := []) (makes_map (fk := (fun x_ : Int => .int .i64 x_)) (fv := (fun x_ : Bool => .bool x_))) rfl rfl rfl (fun b6 => ?_)
 refine l_make (rds := []) (makes_map (fk := (fun x_ : (List UInt8) => Jv x_)) (fv := (fun x_ : T_tintref2_place => .agg #[.int .i64 x_.entry_, .int .i64 x_.from_, .int .i64 x_.to_]))) rfl rfl rfl (fun b7 => ?_)
 refine Ja rfl rfl rfl (Ju rfl) ?_
 refine Ja rfl rfl rfl (Jk Tryz.runUnderlying119 rfl Tryz.sizeOf116 rfl rfl) ?_
 refine Qc (i := 0) (vs := [.map (some b6)]) (cs' := [Jv a0.s_, .bool a0.big_, .map (some b6), .slice p0_3.1 n0_3 p0_3.2, .map none]) Tryz.sizeOf116 rfl rfl rfl rfl rfl rfl rfl rfl rfl ?_
 refine Ja rfl rfl rfl (Ju rfl) ?_
 refine Ja rfl rfl rfl (Jk Tryz.runUnderlying119 rfl Tryz.sizeOf117 rfl rfl) ?_
 refine Qc (i := 0) (vs := [.map (some b7)]) (cs' := [Jv a0.s_, .bool a0.big_, .map (some b6), .slice p0_3.1 n0_3 p0_3.2, .map (some b7)]) Tryz.sizeOf117 rfl rfl rfl rfl rfl rfl rfl rfl rfl ?_
 refine Jg ?_
 refine Jf ?_
 refine Jf ?_
 try dsimp only [z1, z2, z5, z6, z7, z8]
 refine Jb ?_
 refine Ja rfl rfl rfl (Je (v := .pointer (some ⟨pb0, 0, none⟩)) rfl) ?_
 refine Ja rfl rfl rfl (Ju rfl) ?_
 refine Ja rfl rfl rfl (Jk Tryz.runUnderlying119 rfl Tryz.sizeOf9 rfl rfl) ?_
 refine Js (i := 0) (v := Jv a0.s_) Tryz.isAgg9 rfl rfl rfl rfl rfl ?_
 refine Ja rfl rfl rfl (Z0 Tryz.underlying9 rfl) ?_
 refine Ja rfl rfl rfl (Zm rfl rfl) ?_
 refine Jg ?_
 refine Qd (b := (decide (65000 < (a0.s_.length : Int)))) rfl (fun hb => ?_) (fun hb => ?_)
 ·have H37 := Jp hb H; clear H
  refine Jf ?_
  refine Jb ?_
  refine Xr (i := 3) (vs := [.bool false, .slice none 0 0]) Tryz.isAgg24 Tryz.sizeOf24 rfl rfl rfl rfl rfl ?_
  refine Qc (i := 3) (vs := [.bool false, .slice none 0 0]) (cs' := [.bool false, .slice none 0 0]) Tryz.sizeOf24 rfl rfl rfl rfl rfl rfl rfl rfl rfl ?_
  refine Ja rfl rfl rfl (Jc (v := .int .i64 4) rfl) ?_
  refine Jg ?_
  refine Jx ?_
  refine J0 36 1 ?_
  refine Jl 2 6 rfl rfl (by decide) ?_
  refine Y0 2 rfl (Xn (p := ((none, 0) : Option Addr × Nat)) rfl (AllC.nil (G := gs_tag_Entry) (h := X6) (sz := 1))) ?_
  refine Jl 5 2 rfl rfl (by decide) ?_
  refine Jl 1 5 rfl rfl (by decide) ?_
  refine Jl 4 1 rfl rfl (by decide) ?_
  refine Jl 0 4 rfl rfl (by decide) ?_
  refine retCt (i := 3) (vs := [.bool false, .slice ((none, 0) : Option Addr × Nat).1 (([] : List (List Value)).length) ((none, 0) : Option Addr × Nat).2]) (v2 := .int .i64 4) Tryz.isAgg24 Tryz.sizeOf24 rfl rfl rfl rfl rfl (finXK ((⟨false, ([] : List (List T_tag_Entry))⟩ : T_tag_File), 4, (⟨a0.s_, a0.big_, ([] : (List (Int × Bool))), a0.parts_, ([] : (List ((List UInt8) × T_tintref2_place)))⟩ : T_tintref2_reader)) (((none, 0) : Option Addr × Nat), b6, p0_3, b7) H37 (i := 0) rfl (by first | rfl | rw [(show (([] : List (List Value)).length) = ([] : List (List T_tag_Entry)).length from (AllC.nil (G := gs_tag_Entry) (h := X6) (sz := 1)).len), (show n0_3 = a0.parts_.length from hn0_3)]) (by first | exact Imp.refl _ | exact Imp.of (by rw [(show (([] : List (List Value)).length) = ([] : List (List T_tag_Entry)).length from (AllC.nil (G := gs_tag_Entry) (h := X6) (sz := 1)).len), (show n0_3 = a0.parts_.length from hn0_3)] <;> rfl)))
 ·have H38 := Jq hb H; clear H
  refine Jt ?_
  refine Qz (r := r) (σ := Unit) (τ := Unit) (fun s => Wk a0 kq) (fun s t => [(0, .pointer (some ⟨pb0, 0, none⟩)), (2, .pointer (some ⟨b5, 0, none⟩))]) (fun s t => [Jo pb0 [Jv a0.s_, .bool a0.big_, .map (some b6), .slice p0_3.1 n0_3 p0_3.2, .map (some b7)] 119, Qa 56 2 (.slice p0_3.1 n0_3 p0_3.2) n0_3 (a0.parts_.map Jj), Yv X6 X6, Jo b5 [.bool false, .slice none 0 0] 24, Q1 (fun x_ : Int => .int .i64 x_) (fun x_ : Bool => .bool x_) b6 ([] : (List (Int × Bool))), Q1 (fun x_ : (List UInt8) => Jv x_) (fun x_ : T_tintref2_place => .agg #[.int .i64 x_.entry_, .int .i64 x_.from_, .int .i64 x_.to_]) b7 ([] : (List ((List UInt8) × T_tintref2_place)))]) (fun s t => True) ?_ ?_
  ·refine Jf ?_
   refine Jb ?_
   refine Ja rfl rfl rfl (Je (v := .pointer (some ⟨pb0, 0, none⟩)) rfl) ?_
   refine Ja rfl rfl rfl (Ju rfl) ?_
   refine Ja rfl rfl rfl (Jk Tryz.runUnderlying119 rfl Tryz.sizeOf9 rfl rfl) ?_
   refine Js (i := 0) (v := Jv a0.s_) Tryz.isAgg9 rfl rfl rfl rfl rfl ?_
   refine Ja rfl rfl rfl (Z0 Tryz.underlying9 rfl) ?_
   refine Ja rfl rfl rfl (Zc rfl rfl) ?_
   refine Ja rfl rfl rfl (Je (v := .bool (decide ((a0.s_.length : Int) < 8))) rfl) ?_
   refine split (fun hb => ?_) (fun hb => ?_)
   ·have H65 := Jp hb H38; clear H38
    refine Ji rfl rfl rfl ?_
    refine Ji rfl rfl rfl ?_
    refine Ji rfl rfl rfl ?_
    refine Ji rfl rfl rfl ?_
    refine Ji rfl rfl rfl ?_
    refine Ji rfl rfl rfl ?_
    refine Ji rfl rfl rfl ?_
    refine Ji rfl rfl rfl ?_
    refine Ji rfl rfl rfl ?_
    refine Ji rfl rfl rfl ?_
    refine Ji rfl rfl rfl ?_
    refine Ji rfl rfl rfl ?_
    refine Ji rfl rfl rfl ?_
    refine Ji rfl rfl rfl ?_
    refine Ja rfl rfl rfl (J9 (v := .bool true) rfl rfl) ?_
    refine Jg ?_
    refine Uw rfl ?_
    refine Jf ?_
    refine Jb ?_
    refine Xr (i := 3) (vs := [.bool false, .slice none 0 0]) Tryz.isAgg24 Tryz.sizeOf24 rfl rfl rfl rfl rfl ?_
    refine Qc (i := 3) (vs := [.bool false, .slice none 0 0]) (cs' := [.bool false, .slice none 0 0]) Tryz.sizeOf24 rfl rfl rfl rfl rfl rfl rfl rfl rfl ?_
    refine Ja rfl rfl rfl (Jc (v := .int .i64 8) rfl) ?_
    refine Jg ?_
    refine Jx ?_
    refine J0 36 1 ?_
    refine Jl 2 6 rfl rfl (by decide) ?_
    refine Y0 2 rfl (Xn (p := ((none, 0) : Option Addr × Nat)) rfl (AllC.nil (G := gs_tag_Entry) (h := X6) (sz := 1))) ?_
    refine Jl 5 2 rfl rfl (by decide) ?_
    refine Jl 1 5 rfl rfl (by decide) ?_
    refine Jl 4 1 rfl rfl (by decide) ?_
    refine Jl 0 4 rfl rfl (by decide) ?_
    refine retCt (i := 3) (vs := [.bool false, .slice ((none, 0) : Option Addr × Nat).1 (([] : List (List Value)).length) ((none, 0) : Option Addr × Nat).2]) (v2 := .int .i64 8) Tryz.isAgg24 Tryz.sizeOf24 rfl rfl rfl rfl rfl (finXK ((⟨false, ([] : List (List T_tag_Entry))⟩ : T_tag_File), 8, (⟨a0.s_, a0.big_, ([] : (List (Int × Bool))), a0.parts_, ([] : (List ((List UInt8) × T_tintref2_place)))⟩ : T_tintref2_reader)) (((none, 0) : Option Addr × Nat), b6, p0_3, b7) H65 (i := 0) rfl (by first | rfl | rw [(show (([] : List (List Value)).length) = ([] : List (List T_tag_Entry)).length from (AllC.nil (G := gs_tag_Entry) (h := X6) (sz := 1)).len), (show n0_3 = a0.parts_.length from hn0_3)]) (by first | exact Imp.refl _ | exact Imp.of (by rw [(show (([] : List (List Value)).length) = ([] : List (List T_tag_Entry)).length from (AllC.nil (G := gs_tag_Entry) (h := X6) (sz := 1)).len), (show n0_3 = a0.parts_.length from hn0_3)] <;> rfl)))
   ·have H66 := Jq hb H38; clear H38
    refine Ja rfl rfl rfl (Je (v := .pointer (some ⟨pb0, 0, none⟩)) rfl) ?_
    refine Ja rfl rfl rfl (Ju rfl) ?_
    refine Ja rfl rfl rfl (Jk Tryz.runUnderlying119 rfl Tryz.sizeOf9 rfl rfl) ?_
    refine Js (i := 0) (v := Jv a0.s_) Tryz.isAgg9 rfl rfl rfl rfl rfl ?_
    obtain ⟨t37, h_t37, H67⟩ := Jh H66; clear H66
    refine Ja rfl rfl rfl (Jaj Tryz.underlying9 rfl rfl h_t37) ?_
    refine Ja rfl rfl rfl (r_neqT rfl rfl) ?_
    refine Ja rfl rfl rfl (Je (v := .bool (decide (t37 ≠ [73, 73, 42, 0]))) rfl) ?_
    refine split (fun hb => ?_) (fun hb => ?_)
    ·have H68 := Jp hb H67; clear H67
     refine Ja rfl rfl rfl (Je (v := .pointer (some ⟨pb0, 0, none⟩)) rfl) ?_
     refine Ja rfl rfl rfl (Ju rfl) ?_
     refine Ja rfl rfl rfl (Jk Tryz.runUnderlying119 rfl Tryz.sizeOf9 rfl rfl) ?_
     refine Js (i := 0) (v := Jv a0.s_) Tryz.isAgg9 rfl rfl rfl rfl rfl ?_
     obtain ⟨t44, h_t44, H69⟩ := Jh H68; clear H68
     refine Ja rfl rfl rfl (Jaj Tryz.underlying9 rfl rfl h_t44) ?_
     refine Ja rfl rfl rfl (r_neqT rfl rfl) ?_
     refine Ja rfl rfl rfl (J9 (v := .bool (decide (t44 ≠ [77, 77, 0, 42]))) rfl rfl) ?_
     refine Ja rfl rfl rfl (Qf (v := .bool (decide (t44 ≠ [77, 77, 0, 42]))) rfl rfl) ?_
     refine Jg ?_
     refine Qd (b := (decide (t44 ≠ [77, 77, 0, 42]))) rfl (fun hb => ?_) (fun hb => ?_)
     ·have H70 := Jp hb H69; clear H69
      refine Jf ?_
      try dsimp only [z1, z2, z5, z6, z7, z8]
      refine Jb ?_
      refine Xr (i := 3) (vs := [.bool false, .slice none 0 0]) Tryz.isAgg24 Tryz.sizeOf24 rfl rfl rfl rfl rfl ?_
      refine Qc (i := 3) (vs := [.bool false, .slice none 0 0]) (cs' := [.bool false, .slice none 0 0]) Tryz.sizeOf24 rfl rfl rfl rfl rfl rfl rfl rfl rfl ?_
      refine Ja rfl rfl rfl (Jc (v := .int .i64 8) rfl) ?_
      refine Jg ?_
      refine Jx ?_
      refine J0 36 1 ?_
      refine Jl 2 6 rfl rfl (by decide) ?_
      refine Y0 2 rfl (Xn (p := ((none, 0) : Option Addr × Nat)) rfl (AllC.nil (G := gs_tag_Entry) (h := X6) (sz := 1))) ?_
      refine Jl 5 2 rfl rfl (by decide) ?_
      refine Jl 1 5 rfl rfl (by decide) ?_
      refine Jl 4 1 rfl rfl (by decide) ?_
      refine Jl 0 4 rfl rfl (by decide) ?_
      refine retCt (i := 3) (vs := [.bool false, .slice ((none, 0) : Option Addr × Nat).1 (([] : List (List Value)).length) ((none, 0) : Option Addr × Nat).2]) (v2 := .int .i64 8) Tryz.isAgg24 Tryz.sizeOf24 rfl rfl rfl rfl rfl (finXK ((⟨false, ([] : List (List T_tag_Entry))⟩ : T_tag_File), 8, (⟨a0.s_, a0.big_, ([] : (List (Int × Bool))), a0.parts_, ([] : (List ((List UInt8) × T_tintref2_place)))⟩ : T_tintref2_reader)) (((none, 0) : Option Addr × Nat), b6, p0_3, b7) H70 (i := 0) rfl (by first | rfl | rw [(show (([] : List (List Value)).length) = ([] : List (List T_tag_Entry)).length from (AllC.nil (G := gs_tag_Entry) (h := X6) (sz := 1)).len), (show n0_3 = a0.parts_.length from hn0_3)]) (by first | exact Imp.refl _ | exact Imp.of (by rw [(show (([] : List (List Value)).length) = ([] : List (List T_tag_Entry)).length from (AllC.nil (G := gs_tag_Entry) (h := X6) (sz := 1)).len), (show n0_3 = a0.parts_.length from hn0_3)] <;> rfl)))
     ·have H71 := Jq hb H69; clear H69
      refine Jt ?_
      refine Jn () () 0 [0, 1, 2, 3, 4, 5] (by exact ⟨rfl, rfl, trivial⟩) (by decide) (by kernel_rfl) (by exact ⟨H71, trivial⟩) (Nat.lt_succ_self _)
    ·have H72 := Jq hb H67; clear H67
     refine Ji rfl rfl rfl ?_
     refine Ji rfl rfl rfl ?_
     refine Ji rfl rfl rfl ?_
     refine Ji rfl rfl rfl ?_
     refine Ji rfl rfl rfl ?_
     refine Ji rfl rfl rfl ?_
     refine Ja rfl rfl rfl (Qf (v := .bool false) rfl rfl) ?_
     refine Ja rfl rfl rfl (Qf (v := .bool false) rfl rfl) ?_
     refine Jg ?_
     refine Ug rfl ?_
     refine Jt ?_
     refine Jn () () 0 [0, 1, 2, 3, 4, 5] (by exact ⟨rfl, rfl, trivial⟩) (by decide) (by kernel_rfl) (by exact ⟨H72, trivial⟩) (Nat.lt_succ_self _)
  ·rintro _ _ gg H39 _
   replace H39 : Wk a0 kq = some r := H39
   try dsimp only
   refine Jf ?_
   try dsimp only [z1, z2, z5, z6, z7, z8]
   refine Jb ?_
   refine Ja rfl rfl rfl (Je (v := .pointer (some ⟨pb0, 0, none⟩)) rfl) ?_
   refine Ja rfl rfl rfl (Je (v := .pointer (some ⟨pb0, 0, none⟩)) rfl) ?_
   refine Ja rfl rfl rfl (Ju rfl) ?_
   refine Ja rfl rfl rfl (Jk Tryz.runUnderlying119 rfl Tryz.sizeOf9 rfl rfl) ?_
   refine Js (i := 0) (v := Jv a0.s_) Tryz.isAgg9 rfl rfl rfl rfl rfl ?_
   obtain ⟨t54, h_t54, H40⟩ := Jh H39; clear H39
   refine Ja rfl rfl rfl (r_octG Tryz.underlying9 rfl rfl h_t54) ?_
   refine Ja rfl rfl rfl (Q0 rfl rfl) ?_
   refine Ja rfl rfl rfl (Ju rfl) ?_
   refine Ja rfl rfl rfl (Jk Tryz.runUnderlying119 rfl Tryz.sizeOf4 rfl rfl) ?_
   refine Qc (i := 0) (vs := [.bool (decide (t54 = 77))]) (cs' := [Jv a0.s_, .bool (decide (t54 = 77)), .map (some b6), .slice p0_3.1 n0_3 p0_3.2, .map (some b7)]) Tryz.sizeOf4 rfl rfl rfl rfl rfl rfl rfl rfl rfl ?_
   refine Jg ?_
   refine Jf ?_
   refine Jb ?_
   refine Ja rfl rfl rfl (Je (v := .pointer (some ⟨pb0, 0, none⟩)) rfl) ?_
   refine Ja rfl rfl rfl (Ju rfl) ?_
   refine Ja rfl rfl rfl (Jk Tryz.runUnderlying119 rfl Tryz.sizeOf4 rfl rfl) ?_
   refine Js (i := 0) (v := .bool (decide (t54 = 77))) Tryz.isAgg4 rfl rfl rfl rfl rfl ?_
   refine Ja rfl rfl rfl (Jk Tryz.runUnderlying24 rfl Tryz.sizeOf4 rfl rfl) ?_
   refine Qc (i := 3) (vs := [.bool (decide (t54 = 77))]) (cs' := [.bool (decide (t54 = 77)), .slice none 0 0]) Tryz.sizeOf4 rfl rfl rfl rfl rfl rfl rfl rfl rfl ?_
   refine Jg ?_
   refine Jf ?_
   refine Jb ?_
   refine Ja rfl rfl rfl (Je (v := .pointer (some ⟨pb0, 0, none⟩)) rfl) ?_
   refine Ja rfl rfl rfl (Yi (pl := #[(0, 1), (1, 1)]) (ps := [(0, .int .i64 0), (1, .int .i64 8)]) (cells := #[.int .i64 0, .int .i64 8]) Tryz.zeroValue56 Tryz.runUnderlying56 (fun w => by kernel_rfl) rfl rfl) ?_
   refine Q9 (vs := [.agg #[.int .i64 0, .int .i64 8]]) (cs := [.int .i64 0, .int .i64 8]) Tryz.underlying48 Tryz.sizeOf56 Tryz.zeroValue56 rfl rfl rfl rfl rfl rfl rfl (fun b8 => ?_)
   refine Ja rfl rfl rfl (Ju rfl) ?_
   refine Ja rfl rfl rfl (Jk Tryz.runUnderlying119 rfl Tryz.sizeOf48 rfl rfl) ?_
   refine Qc (i := 0) (vs := [.slice (some ⟨b8, 0, none⟩) 1 1]) (cs' := [Jv a0.s_, .bool (decide (t54 = 77)), .map (some b6), .slice (some ⟨b8, 0, none⟩) 1 1, .map (some b7)]) Tryz.sizeOf48 rfl rfl rfl rfl rfl rfl rfl rfl rfl ?_
   refine Jg ?_
   refine c_dr 1 ?_
   try dsimp only [z1, z2, z3, z4, z5, z6, z7, z8]
   refine Qz (r := r) (σ := (List UInt8) × Bool × (List (Int × Bool)) × (List ((List UInt8) × T_tintref2_place)) × (List T_tag_Span) × (List (List T_tag_Entry))) (τ := Nat × Nat × (Option Addr × Nat) × Nat × (Option Addr × Nat)) (fun s => Wn kq t54 s.1 s.2.1 s.2.2.1 s.2.2.2.1 s.2.2.2.2.1 s.2.2.2.2.2) (fun s t => [(0, .pointer (some ⟨pb0, 0, none⟩)), (2, .pointer (some ⟨b5, 0, none⟩))]) (fun s t => [Jo pb0 [Jv s.1, .bool s.2.1, .map (some t.1), .slice t.2.2.1.1 t.2.2.2.1 t.2.2.1.2, .map (some t.2.1)] 119, Yv X6 X6, Jo b5 [.bool (decide (t54 = 77)), .slice t.2.2.2.2.1 s.2.2.2.2.2.length t.2.2.2.2.2] 24, Q1 (fun x_ : Int => .int .i64 x_) (fun x_ : Bool => .bool x_) t.1 s.2.2.1, Q1 (fun x_ : (List UInt8) => Jv x_) (fun x_ : T_tintref2_place => .agg #[.int .i64 x_.entry_, .int .i64 x_.from_, .int .i64 x_.to_]) t.2.1 s.2.2.2.1, Qa 56 2 (.slice t.2.2.1.1 t.2.2.2.1 t.2.2.1.2) t.2.2.2.1 (s.2.2.2.2.1.map Jj), W3 36 1 gs_tag_Entry (.slice t.2.2.2.2.1 s.2.2.2.2.2.length t.2.2.2.2.2) s.2.2.2.2.2.length s.2.2.2.2.2]) (fun s t => t.2.2.2.1 = s.2.2.2.2.1.length) ?_ ?_
   ·refine Jf ?_
    refine Jb ?_
    refine Ja rfl rfl rfl (Je (v := .pointer (some ⟨pb0, 0, none⟩)) rfl) ?_
    obtain ⟨t69, h_t69, H56⟩ := Jh H40; clear H40
    refine Qw (fun w hF hS => k132 (a0 := (⟨a0.s_, (decide (t54 = 77)), ([] : (List (Int × Bool))), ([(⟨0, 8⟩ : T_tag_Span)] : List T_tag_Span), ([] : (List ((List UInt8) × T_tintref2_place)))⟩ : T_tintref2_reader)) (J7 w) (Xz (fk := (fun x_ : Int => .int .i64 x_)) (fv := (fun x_ : Bool => .bool x_)) (i := 3) hS rfl) (frs_box (i := 5) (xs := ([(⟨0, 8⟩ : T_tag_Span)] : List T_tag_Span)) (f := Jj) hS rfl rfl rfl rfl rfl) (Xz (fk := (fun x_ : (List UInt8) => Jv x_)) (fv := (fun x_ : T_tintref2_place => .agg #[.int .i64 x_.entry_, .int .i64 x_.from_, .int .i64 x_.to_])) (i := 4) hS rfl) (Xb (i := 0) hS rfl) h_t69) Tryz.call132 rfl rfl rfl ?_
    refine Ja rfl rfl rfl (Jc (v := .int .i64 t69) rfl) ?_
    refine Jg ?_
    refine J8 ?_
    refine Y0 5 rfl (imp_box (m := 1) (E := 56) (sz := 2) (xs := (([(⟨0, 8⟩ : T_tag_Span)] : List T_tag_Span)).map Jj) rfl rfl rfl ⟨rfl, by decide⟩) ?_
    refine J0 36 1 ?_
    refine Zs X6 ?_
    try dsimp only [z1, z2, z5, z6, z7, z8]
    refine Jl 7 6 rfl rfl (by decide) ?_
    try dsimp only [z1, z2, z5, z6, z7, z8]
    refine Y0 7 rfl (imp_rowDx (css := []) (xs := ([] : List (List T_tag_Entry))) (p := ((none, 0) : Option Addr × Nat)) rfl (AllC.nil (G := gs_tag_Entry) (h := X6) (sz := 1))) ?_
    refine Z2 (σ := Int × (List UInt8) × Bool × (List (Int × Bool)) × (List ((List UInt8) × T_tintref2_place)) × (List T_tag_Span) × (List (List T_tag_Entry))) (τ := Nat × Nat × (Option Addr × Nat) × Nat × (Option Addr × Nat)) (fun next5 s => X8 kq t54 next5 s.1 s.2.1 s.2.2.1 s.2.2.2.1 s.2.2.2.2.1 s.2.2.2.2.2.1 s.2.2.2.2.2.2) (fun s t => [(0, .pointer (some ⟨pb0, 0, none⟩)), (2, .pointer (some ⟨b5, 0, none⟩)), (4, .int .i64 s.1)]) (fun s t => [Jo pb0 [Jv s.2.1, .bool s.2.2.1, .map (some t.1), .slice t.2.2.1.1 t.2.2.2.1 t.2.2.1.2, .map (some t.2.1)] 119, Yv X6 X6, Jo b5 [.bool (decide (t54 = 77)), .slice t.2.2.2.2.1 s.2.2.2.2.2.2.length t.2.2.2.2.2] 24, Q1 (fun x_ : Int => .int .i64 x_) (fun x_ : Bool => .bool x_) t.1 s.2.2.2.1, Q1 (fun x_ : (List UInt8) => Jv x_) (fun x_ : T_tintref2_place => .agg #[.int .i64 x_.entry_, .int .i64 x_.from_, .int .i64 x_.to_]) t.2.1 s.2.2.2.2.1, Qa 56 2 (.slice t.2.2.1.1 t.2.2.2.1 t.2.2.1.2) t.2.2.2.1 (s.2.2.2.2.2.1.map Jj), W3 36 1 gs_tag_Entry (.slice t.2.2.2.2.1 s.2.2.2.2.2.2.length t.2.2.2.2.2) s.2.2.2.2.2.2.length s.2.2.2.2.2.2]) (fun s t => t.2.2.2.1 = s.2.2.2.2.2.1.length) (t69, a0.s_, (decide (t54 = 77)), ([] : (List (Int × Bool))), ([] : (List ((List UInt8) × T_tintref2_place))), ([(⟨0, 8⟩ : T_tag_Span)] : List T_tag_Span), ([] : List (List T_tag_Entry))) (b6, b7, ((some ⟨b8, 0, none⟩, 1) : Option Addr × Nat), 1, ((none, 0) : Option Addr × Nat)) [0, 1, 2, 3, 4, 5, 7] H56 (by exact rfl) (by exact ⟨rfl, rfl, rfl, trivial⟩) (by decide) rfl ?_
    rintro ⟨x4_2, m_5, m_6, mp_5, mp_6, l_5, l_6⟩ ⟨b_3, b_4, p_3, n_2, p_4⟩ m5 gg H57 hl_4
    clear H56
    replace H57 : X8 kq t54 (it (fun next5 s => X8 kq t54 next5 s.1 s.2.1 s.2.2.1 s.2.2.2.1 s.2.2.2.2.1 s.2.2.2.2.2.1 s.2.2.2.2.2.2) m5) x4_2 m_5 m_6 mp_5 mp_6 l_5 l_6 = some r := H57
    generalize hn5 : it (fun next5 s => X8 kq t54 next5 s.1 s.2.1 s.2.2.1 s.2.2.2.1 s.2.2.2.2.1 s.2.2.2.2.2.1 s.2.2.2.2.2.2) m5 = next5 at H57
    try dsimp only
    refine Jf ?_
    refine Jf ?_
    refine Jb ?_
    refine Ja rfl rfl rfl (Je (v := .int .i64 x4_2) rfl) ?_
    refine Ja rfl rfl rfl (Va rfl rfl) ?_
    refine Jg ?_
    refine Qd (b := (decide (x4_2 ≠ 0))) rfl (fun hb => ?_) (fun hb => ?_)
    ·have H58 := Jp hb H57; clear H57
     refine Jt ?_
     refine J8 ?_
     refine Jf ?_
     refine Jb ?_
     refine Ja rfl rfl rfl (Jk Tryz.runUnderlying24 rfl Tryz.sizeOf22 rfl rfl) ?_
     refine Js (i := 2) (v := .slice p_4.1 l_6.length p_4.2) Tryz.isAgg22 rfl rfl rfl rfl rfl ?_
     refine Ja rfl rfl rfl (r_len Tryz.underlying22 rfl) ?_
     refine Ja rfl rfl rfl (Jc (v := .int .i64 (l_6.length : Int)) rfl) ?_
     refine Jg ?_
     refine Jf ?_
     refine Jb ?_
     refine Ja rfl rfl rfl (Je (v := .pointer (some ⟨pb0, 0, none⟩)) rfl) ?_
     refine Ja rfl rfl rfl (Je (v := .int .i64 x4_2) rfl) ?_
     refine Ja rfl rfl rfl (Je (v := .int .i64 (l_6.length : Int)) rfl) ?_
     refine Ja rfl rfl rfl (Je (v := .int .i64 (l_6.length : Int)) rfl) ?_
     obtain ⟨t80, h_t80, H59⟩ := Jh H58; clear H58
     refine Qw (fun w hF hS => k134 (J7 w) (tb_pow10.mono (hw.now hF)) h_t80) Tryz.call134 rfl rfl rfl ?_
     obtain ⟨t81, h_t81, H60⟩ := Jh H59; clear H59
     refine Jl 5 4 rfl rfl (by decide) ?_
     refine Jl 3 5 rfl rfl (by decide) ?_
     refine Jl 0 3 rfl rfl (by decide) ?_
     refine Xg (Ql (i := 0) (rds := []) (G := fun x : (Option Addr × Nat) × Nat × (Option Addr × Nat) × Nat => .tuple #[.slice x.1.1 t81.1.length x.1.2, .int .i64 t81.2.1, .int .i64 t81.2.2.1]) (C := fun x : (Option Addr × Nat) × Nat × (Option Addr × Nat) × Nat => J1 (Jo pb0 [Jv t81.2.2.2.s_, .bool t81.2.2.2.big_, .map (some x.2.1), .slice x.2.2.1.1 t81.2.2.2.parts_.length x.2.2.1.2, .map (some x.2.2.2)] 119) (J1 (Q1 (fun x_ : Int => .int .i64 x_) (fun x_ : Bool => .bool x_) x.2.1 t81.2.2.2.starts_) (J1 (Qa 56 2 (.slice x.2.2.1.1 t81.2.2.2.parts_.length x.2.2.1.2) t81.2.2.2.parts_.length (t81.2.2.2.parts_.map Jj)) (J1 (Q1 (fun x_ : (List UInt8) => Jv x_) (fun x_ : T_tintref2_place => .agg #[.int .i64 x_.entry_, .int .i64 x_.from_, .int .i64 x_.to_]) x.2.2.2 t81.2.2.2.places_) (W3 83 6 g_tag_Entry (.slice x.1.1 t81.1.length x.1.2) t81.1.length t81.1))))) rfl (fun w L' S hF hS hi hp hlt ho hA => k133 (a0 := (⟨m_5, m_6, mp_5, l_5, mp_6⟩ : T_tintref2_reader)) hp hlt (Xa w S) hl_4 (tb_pow10.mono (hw.but hF ho)) h_t81) Tryz.call133 rfl) rfl rfl rfl (fun ⟨p_5, p_6, p_7, p_8⟩ => ?_)
     refine Qk 0 3 rfl rfl (by decide) ?_
     refine Qk 3 5 rfl rfl (by decide) ?_
     refine Qk 5 4 rfl rfl (by decide) ?_
     refine Q2 4 rfl ?_
     refine Ja rfl rfl rfl (Je (v := .tuple #[.slice p_5.1 t81.1.length p_5.2, .int .i64 t81.2.1, .int .i64 t81.2.2.1]) rfl) ?_
     refine Ja rfl rfl rfl (Qs (v := .slice p_5.1 t81.1.length p_5.2) rfl rfl) ?_
     refine Ja rfl rfl rfl (Qs (v := .int .i64 t81.2.1) rfl rfl) ?_
     refine Ja rfl rfl rfl (Qs (v := .int .i64 t81.2.2.1) rfl rfl) ?_
     refine Ja rfl rfl rfl (Jc (v := .slice p_5.1 t81.1.length p_5.2) rfl) ?_
     refine Ja rfl rfl rfl (Jc (v := .int .i64 t81.2.1) rfl) ?_
     refine Ja rfl rfl rfl (Jc (v := .int .i64 t81.2.2.1) rfl) ?_
     refine Jg ?_
     refine Jf ?_
     refine Jf ?_
     try dsimp only [z1, z2, z5, z6, z7, z8]
     refine Jb ?_
     refine Ja rfl rfl rfl (Je (v := .int .i64 t81.2.2.1) rfl) ?_
     refine Ja rfl rfl rfl (Va rfl rfl) ?_
     refine Jg ?_
     refine Qd (b := (decide (t81.2.2.1 ≠ 0))) rfl (fun hb => ?_) (fun hb => ?_)
     ·have H61 := Jp hb H60; clear H60
      refine Jf ?_
      refine Jb ?_
      refine Ja rfl rfl rfl (Yi (pl := #[(0, 1), (1, 1)]) (ps := []) (cells := #[.bool false, .slice none 0 0]) Tryz.zeroValue24 Tryz.runUnderlying24 (fun w => by kernel_rfl) rfl rfl) ?_
      refine Ja rfl rfl rfl (Je (v := .int .i64 t81.2.2.1) rfl) ?_
      refine Qc (i := 2) (vs := [.bool false, .slice none 0 0]) (cs' := [.bool false, .slice none 0 0]) Tryz.sizeOf24 rfl rfl rfl rfl rfl rfl rfl rfl rfl ?_
      refine Ja rfl rfl rfl (Jc (v := .int .i64 t81.2.2.1) rfl) ?_
      refine Jg ?_
      refine Jx ?_
      refine J0 36 1 ?_
      refine Jl 1 8 rfl rfl (by decide) ?_
      refine Y0 1 rfl (Xn (p := ((none, 0) : Option Addr × Nat)) rfl (AllC.nil (G := gs_tag_Entry) (h := X6) (sz := 1))) ?_
      refine Jl 4 1 rfl rfl (by decide) ?_
      refine Jl 5 4 rfl rfl (by decide) ?_
      refine Jl 3 5 rfl rfl (by decide) ?_
      refine Jl 0 3 rfl rfl (by decide) ?_
      refine retCt (i := 2) (vs := [.bool false, .slice ((none, 0) : Option Addr × Nat).1 (([] : List (List Value)).length) ((none, 0) : Option Addr × Nat).2]) (v2 := .int .i64 t81.2.2.1) Tryz.isAgg24 Tryz.sizeOf24 rfl rfl rfl rfl rfl (finXK ((⟨false, ([] : List (List T_tag_Entry))⟩ : T_tag_File), t81.2.2.1, t81.2.2.2) (((none, 0) : Option Addr × Nat), p_6, p_7, p_8) H61 (i := 0) rfl (by first | rfl | rw [(show (([] : List (List Value)).length) = ([] : List (List T_tag_Entry)).length from (AllC.nil (G := gs_tag_Entry) (h := X6) (sz := 1)).len)]) (by first | exact Imp.refl _ | exact Imp.of (by rw [(show (([] : List (List Value)).length) = ([] : List (List T_tag_Entry)).length from (AllC.nil (G := gs_tag_Entry) (h := X6) (sz := 1)).len)] <;> rfl)))
     ·have H62 := Jq hb H60; clear H60
      refine Jt ?_
      refine Jf ?_
      refine c_rowD 6 rfl (fun hp css hn pf => ?_)
      rw [hn]
      try dsimp only [z1, z2, z5, z6, z7, z8]
      refine Q2 6 rfl ?_
      try dsimp only [z1, z2, z5, z6, z7, z8]
      refine Wy 1 6 rfl rfl (by decide) (fun _ _ => W7) (fun hp_2 hle hle_2 => ?_)
      try dsimp only [z1, z2, z5, z6, z7, z8]
      refine Jb ?_
      refine Ja rfl rfl rfl (Jk Tryz.runUnderlying24 rfl Tryz.sizeOf22 rfl rfl) ?_
      refine Js (i := 2) (v := .slice p_4.1 css.length p_4.2) Tryz.isAgg22 rfl rfl rfl rfl rfl ?_
      refine Ja rfl rfl rfl (Je (v := .slice p_5.1 t81.1.length p_5.2) rfl) ?_
      refine Q9 (vs := [.slice p_5.1 t81.1.length p_5.2]) (cs := [.slice p_5.1 t81.1.length p_5.2]) Tryz.underlying22 Tryz.sizeOf36 Tryz.zeroValue36 rfl rfl rfl rfl rfl rfl rfl (fun b9 => ?_)
      refine c_rowD 7 rfl (fun hp_3 css_2 hn_2 pf_2 => ?_)
      rw [hn_2]
      try dsimp only [z1, z2, z5, z6, z7, z8]
      refine Q2 7 rfl ?_
      try dsimp only [z1, z2, z5, z6, z7, z8]
      refine Wy 1 7 rfl rfl (by decide) (fun _ _ => W7) (fun hp_4 hle_3 hle_4 => ?_)
      try dsimp only [z1, z2, z5, z6, z7, z8]
      refine Jaz (Φ := fun H_ => FrS H_ 6 (.slice p_5.1 css_2.length p_5.2) (css_2.map idC)) 1 10 rfl rfl (by decide) (fun _ _ => W7) (fz_own _) (fun hp_5 hle_5 hf => ?_)
      obtain ⟨l93, h_l93, H63⟩ := Jh H62; clear H62
      refine Xg (Ja6 (i := 8) (k := 9) (p := p_4) (f := idC) (ys := css) (ls := [[.slice p_5.1 css_2.length p_5.2]]) Tryz.underlying22 (Z1 Tryz.typeInfo36) rfl rfl rfl rfl rfl rfl rfl rfl rfl rfl rfl rfl rfl rfl (by simp only [idC, List.map_cons, List.map_nil, List.all_cons, List.all_nil, (frn_of (xs := t81.1) hf ((pf_2.mono hle_4).mono hle_5)).one] <;> rfl) (app63 ((((pf.mono hle_2).mono hle_3).mono hle_5).app h_l93 (nc := [[.slice p_5.1 css_2.length p_5.2]]) rfl)) rfl) rfl rfl rfl (fun p_9 => ?_)
      have pf_3 : AllC gs_tag_Entry hp_5 1 (css ++ [[Value.slice p_5.1 css_2.length p_5.2]]) l93 := AllC.snocG (((pf.mono hle_2).mono hle_3).mono hle_5) h_l93 rfl ((frn_of (xs := t81.1) hf ((pf_2.mono hle_4).mono hle_5)))
      refine Ja rfl rfl rfl (Jk Tryz.runUnderlying24 rfl Tryz.sizeOf22 rfl rfl) ?_
      refine Qc (i := 2) (vs := [.slice p_9.1 ((css ++ [[Value.slice p_5.1 css_2.length p_5.2]]).length) p_9.2]) (cs' := [.bool (decide (t54 = 77)), .slice p_9.1 ((css ++ [[Value.slice p_5.1 css_2.length p_5.2]]).length) p_9.2]) Tryz.sizeOf22 rfl rfl rfl rfl rfl rfl rfl rfl rfl ?_
      refine Jg ?_
      try dsimp only [z1, z2, z5, z6, z7, z8]
      refine Jl 1 8 rfl rfl (by decide) ?_
      try dsimp only [z1, z2, z5, z6, z7, z8]
      refine Y0 1 rfl (imp_rowDx (p := p_9) rfl pf_3) ?_
      (try rw [show ((css ++ [[Value.slice p_5.1 css_2.length p_5.2]]).length) = l93.length from pf_3.len])
      refine Zs X6 ?_
      refine c_sel [0, 11, 2, 3, 4, 5, 6, 7, 1, 9, 10] [Jo pb0 [Jv t81.2.2.2.s_, .bool t81.2.2.2.big_, .map (some p_6), .slice p_7.1 t81.2.2.2.parts_.length p_7.2, .map (some p_8)] 119, Yv X6 X6, Jo b5 [.bool (decide (t54 = 77)), .slice p_9.1 l93.length p_9.2] 24, Q1 (fun x_ : Int => .int .i64 x_) (fun x_ : Bool => .bool x_) p_6 t81.2.2.2.starts_, Q1 (fun x_ : (List UInt8) => Jv x_) (fun x_ : T_tintref2_place => .agg #[.int .i64 x_.entry_, .int .i64 x_.from_, .int .i64 x_.to_]) p_8 t81.2.2.2.places_, Qa 56 2 (.slice p_7.1 t81.2.2.2.parts_.length p_7.2) t81.2.2.2.parts_.length (t81.2.2.2.parts_.map Jj), _, _, W3 36 1 gs_tag_Entry (.slice p_9.1 l93.length p_9.2) l93.length l93, Jo b9 [.slice p_5.1 css_2.length p_5.2] 36, _] rfl (by decide) ?_
      try dsimp only [z1, z2, z5, z6, z7, z8]
      refine Jb ?_
      refine Ja rfl rfl rfl (Je (v := .int .i64 t81.2.1) rfl) ?_
      refine Ja rfl rfl rfl (Jc (v := .int .i64 t81.2.1) rfl) ?_
      refine Jg ?_
      refine Jn (t81.2.1, t81.2.2.2.s_, t81.2.2.2.big_, t81.2.2.2.starts_, t81.2.2.2.places_, t81.2.2.2.parts_, l93) (p_6, p_8, p_7, t81.2.2.2.parts_.length, p_9) m5 [0, 1, 2, 3, 4, 5, 8] (by exact ⟨rfl, rfl, rfl, trivial⟩) (by decide) (by kernel_rfl) (by exact ⟨(by subst hn5; exact H63), rfl⟩) (Nat.lt_succ_self _)
    ·have H64 := Jq hb H57; clear H57
     refine X3 ?_
     refine Jn (m_5, m_6, mp_5, mp_6, l_5, l_6) (b_3, b_4, p_3, n_2, p_4) 0 [0, 1, 2, 3, 4, 5, 6] (by exact ⟨rfl, rfl, trivial⟩) (by decide) (by kernel_rfl) (by exact ⟨H64, hl_4⟩) (Nat.lt_succ_self _)
   ·rintro ⟨m, m_2, mp, mp_2, l, l_2⟩ ⟨b, b_2, p, n, p_2⟩ gg H41 hl
    replace H41 : Wn kq t54 m m_2 mp mp_2 l l_2 = some r := H41
    try dsimp only
    refine Jf ?_
    refine Jb ?_
    refine Ja rfl rfl rfl (Je (v := .pointer (some ⟨pb0, 0, none⟩)) rfl) ?_
    refine Ja rfl rfl rfl (Ju rfl) ?_
    refine Ja rfl rfl rfl (Jk Tryz.runUnderlying119 rfl Tryz.sizeOf48 rfl rfl) ?_
    refine Js (i := 0) (v := .slice p.1 n p.2) Tryz.isAgg48 rfl rfl rfl rfl rfl ?_
    refine l_turnK (i := 5) (rds := []) (G := fun (t100 : (List T_tag_Span)) (x : Unit) => .tuple #[]) (C := fun (t100 : (List T_tag_Span)) (x : Unit) => Qa 56 2 (.slice p.1 n p.2) n (t100.map Jj)) rfl (fun w L' S hF hS hi hp hlt ho hA => k129_135 hp hlt (Xa w S) hl H41) Tryz.call129 rfl rfl rfl (fun t100 _ H42 => ?_)
    clear H41
    refine c_know (fun w hF hS => lenOf (i := 5) hS rfl) (fun hl_2_ => ?_)
    have hl_2 : n = t100.length := by simpa using hl_2_.symm
    refine Jg ?_
    refine Qz (r := r) (σ := Unit) (τ := Unit) (fun s => Zz kq t54 m m_2 mp mp_2 l_2 t100) (fun s t => [(2, .pointer (some ⟨b5, 0, none⟩))]) (fun s t => [Jo pb0 [Jv m, .bool m_2, .map (some b), .slice p.1 n p.2, .map (some b_2)] 119, Yv X6 X6, Jo b5 [.bool (decide (t54 = 77)), .slice p_2.1 l_2.length p_2.2] 24, Q1 (fun x_ : Int => .int .i64 x_) (fun x_ : Bool => .bool x_) b mp, Q1 (fun x_ : (List UInt8) => Jv x_) (fun x_ : T_tintref2_place => .agg #[.int .i64 x_.entry_, .int .i64 x_.from_, .int .i64 x_.to_]) b_2 mp_2, Qa 56 2 (.slice p.1 n p.2) n (t100.map Jj), W3 36 1 gs_tag_Entry (.slice p_2.1 l_2.length p_2.2) l_2.length l_2]) (fun s t => True) ?_ ?_
    ·refine Jf ?_
     refine Jb ?_
     refine Ja rfl rfl rfl (Jc (v := .int .i64 1) rfl) ?_
     refine Jg ?_
     refine J8 ?_
     refine Z2 (σ := Int) (τ := Unit) (fun next4 s => Ym kq t54 m m_2 mp mp_2 l_2 t100 next4 s) (fun s t => [(0, .pointer (some ⟨pb0, 0, none⟩)), (2, .pointer (some ⟨b5, 0, none⟩)), (9, .int .i64 s)]) (fun s t => [Jo pb0 [Jv m, .bool m_2, .map (some b), .slice p.1 n p.2, .map (some b_2)] 119, Yv X6 X6, Jo b5 [.bool (decide (t54 = 77)), .slice p_2.1 l_2.length p_2.2] 24, Q1 (fun x_ : Int => .int .i64 x_) (fun x_ : Bool => .bool x_) b mp, Q1 (fun x_ : (List UInt8) => Jv x_) (fun x_ : T_tintref2_place => .agg #[.int .i64 x_.entry_, .int .i64 x_.from_, .int .i64 x_.to_]) b_2 mp_2, Qa 56 2 (.slice p.1 n p.2) n (t100.map Jj), W3 36 1 gs_tag_Entry (.slice p_2.1 l_2.length p_2.2) l_2.length l_2]) (fun s t => True) 1 () [0, 1, 2, 3, 4, 5, 6] H42 (by exact trivial) (by exact ⟨rfl, rfl, rfl, trivial⟩) (by decide) rfl ?_
     rintro x9_2 _ m4 gg H47 _
     clear H42
     replace H47 : Ym kq t54 m m_2 mp mp_2 l_2 t100 (it (fun next4 s => Ym kq t54 m m_2 mp mp_2 l_2 t100 next4 s) m4) x9_2 = some r := H47
     generalize hn4 : it (fun next4 s => Ym kq t54 m m_2 mp mp_2 l_2 t100 next4 s) m4 = next4 at H47
     try dsimp only
     refine Jf ?_
     refine Jf ?_
     refine Jb ?_
     refine Ja rfl rfl rfl (Je (v := .int .i64 x9_2) rfl) ?_
     refine Ja rfl rfl rfl (Je (v := .pointer (some ⟨pb0, 0, none⟩)) rfl) ?_
     refine Ja rfl rfl rfl (Ju rfl) ?_
     refine Ja rfl rfl rfl (Jk Tryz.runUnderlying119 rfl Tryz.sizeOf48 rfl rfl) ?_
     refine Js (i := 0) (v := .slice p.1 n p.2) Tryz.isAgg48 rfl rfl rfl rfl rfl ?_
     refine Ja rfl rfl rfl (r_lenN Tryz.underlying48 rfl hl_2) ?_
     refine Ja rfl rfl rfl (Zc rfl rfl) ?_
     refine Jg ?_
     refine Qd (b := (decide (x9_2 < (t100.length : Int)))) rfl (fun hb => ?_) (fun hb => ?_)
     ·have H48 := Jp hb H47; clear H47
      refine Jt ?_
      refine Jf ?_
      refine J8 ?_
      refine Jf ?_
      exact Xp (Kd.p :: Kd.p :: Kd.p :: Kd.d [0] _ :: Kd.p :: Kd.d [5] _ :: Kd.d [5] _ :: Kd.d [5] _ :: Kd.p :: Kd.p :: Kd.p :: Kd.d [0] _ :: Kd.p :: Kd.p :: Kd.d [5] _ :: Kd.d [5] _ :: Kd.d [5] _ :: Kd.p :: []) 0 mixed (by
       refine Jm rfl rfl (Je (v := .pointer (some ⟨pb0, 0, none⟩)) rfl) ?_
       refine Jm rfl rfl (Ju rfl) ?_
       refine Jm rfl rfl (Jk Tryz.runUnderlying119 rfl Tryz.sizeOf48 rfl rfl) ?_
       refine Xq (i := 0) (v := .slice p.1 n p.2) Tryz.isAgg48 rfl rfl rfl rfl ?_
       refine Jm rfl rfl (Je (v := .int .i64 x9_2) rfl) ?_
       have h_t115 := Qg H48
       have H49 := J6 H48
       refine Jam (fun w L' hF hS hi => V7 Tryz.underlying48 Tryz.sizeOf56 rfl rfl (W4 (i := 5) (E := 56) (sz := 2) (n := n) (a := p.1) (c := p.2) hS ((hi 5 (by simp)).trans rfl)) hl_2 h_t115) rfl rfl ?_
       refine d_readE rfl rfl (fun w L' hF hS hi => run_fieldG Tryz.runUnderlying56 rfl Tryz.sizeOf3 rfl rfl (W4 (i := 5) (E := 56) (sz := 2) (n := n) (a := p.1) (c := p.2) hS ((hi 5 (by simp)).trans rfl)) h_t115) ?_
       refine Jam (fun w L' hF hS hi => X4 (f := Jj) (i := x9_2) (sz := 2) (j := 0) (v := .int .i64 (val (Y6 t100 x9_2)).From) Tryz.isAgg3 rfl rfl (W4 (i := 5) (E := 56) (sz := 2) (n := n) (a := p.1) (c := p.2) hS ((hi 5 (by simp)).trans rfl)) h_t115 rfl) rfl rfl ?_
       refine Jm rfl rfl (Je (v := .pointer (some ⟨pb0, 0, none⟩)) rfl) ?_
       refine Jm rfl rfl (Ju rfl) ?_
       refine Jm rfl rfl (Jk Tryz.runUnderlying119 rfl Tryz.sizeOf48 rfl rfl) ?_
       refine Xq (i := 0) (v := .slice p.1 n p.2) Tryz.isAgg48 rfl rfl rfl rfl ?_
       refine Jm rfl rfl (Je (v := .int .i64 x9_2) rfl) ?_
       have h_t123 := Qg H49
       have H50 := J6 H49
       refine Jm rfl rfl (Wv rfl rfl h_t123) ?_
       have h_t124 := Qg H50
       have H51 := J6 H50
       refine Jam (fun w L' hF hS hi => V7 Tryz.underlying48 Tryz.sizeOf56 rfl rfl (W4 (i := 5) (E := 56) (sz := 2) (n := n) (a := p.1) (c := p.2) hS ((hi 5 (by simp)).trans rfl)) hl_2 h_t124) rfl rfl ?_
       refine d_readE rfl rfl (fun w L' hF hS hi => run_fieldG Tryz.runUnderlying56 rfl Tryz.sizeOf3 rfl rfl (W4 (i := 5) (E := 56) (sz := 2) (n := n) (a := p.1) (c := p.2) hS ((hi 5 (by simp)).trans rfl)) h_t124) ?_
       refine Jam (fun w L' hF hS hi => X4 (f := Jj) (i := (val (gI (x9_2 - 1)))) (sz := 2) (j := 1) (v := .int .i64 (val (Y6 t100 (val (gI (x9_2 - 1))))).To) Tryz.isAgg3 rfl rfl (W4 (i := 5) (E := 56) (sz := 2) (n := n) (a := p.1) (c := p.2) hS ((hi 5 (by simp)).trans rfl)) h_t124 rfl) rfl rfl ?_
       refine Jm rfl rfl (Zc rfl rfl) ?_
       refine Zh ?_
       refine Qd (b := (decide ((val (Y6 t100 x9_2)).From < (val (Y6 t100 (val (gI (x9_2 - 1))))).To))) rfl (fun hb => ?_) (fun hb => ?_)
       ·have H52 := Jp hb H51; clear H51
        refine Jf ?_
        refine Jb ?_
        refine Ja rfl rfl rfl (Yi (pl := #[(0, 1), (1, 1)]) (ps := []) (cells := #[.bool false, .slice none 0 0]) Tryz.zeroValue24 Tryz.runUnderlying24 (fun w => by kernel_rfl) rfl rfl) ?_
        refine Qc (i := 2) (vs := [.bool false, .slice none 0 0]) (cs' := [.bool false, .slice none 0 0]) Tryz.sizeOf24 rfl rfl rfl rfl rfl rfl rfl rfl rfl ?_
        refine Ja rfl rfl rfl (Jc (v := .int .i64 6) rfl) ?_
        refine Jg ?_
        refine Jx ?_
        refine J0 36 1 ?_
        refine Jl 1 7 rfl rfl (by decide) ?_
        refine Y0 1 rfl (Xn (p := ((none, 0) : Option Addr × Nat)) rfl (AllC.nil (G := gs_tag_Entry) (h := X6) (sz := 1))) ?_
        refine Jl 4 1 rfl rfl (by decide) ?_
        refine Jl 5 4 rfl rfl (by decide) ?_
        refine Jl 3 5 rfl rfl (by decide) ?_
        refine Jl 0 3 rfl rfl (by decide) ?_
        refine retCt (i := 2) (vs := [.bool false, .slice ((none, 0) : Option Addr × Nat).1 (([] : List (List Value)).length) ((none, 0) : Option Addr × Nat).2]) (v2 := .int .i64 6) Tryz.isAgg24 Tryz.sizeOf24 rfl rfl rfl rfl rfl (finXK ((⟨false, ([] : List (List T_tag_Entry))⟩ : T_tag_File), 6, (⟨m, m_2, mp, t100, mp_2⟩ : T_tintref2_reader)) (((none, 0) : Option Addr × Nat), b, p, b_2) H52 (i := 0) rfl (by first | rfl | rw [(show (([] : List (List Value)).length) = ([] : List (List T_tag_Entry)).length from (AllC.nil (G := gs_tag_Entry) (h := X6) (sz := 1)).len), (show n = t100.length from hl_2)]) (by first | exact Imp.refl _ | exact Imp.of (by rw [(show (([] : List (List Value)).length) = ([] : List (List T_tag_Entry)).length from (AllC.nil (G := gs_tag_Entry) (h := X6) (sz := 1)).len), (show n = t100.length from hl_2)] <;> rfl)))
       ·have H53 := Jq hb H51; clear H51
        refine Jt ?_
        try dsimp only [z1, z2, z5, z6, z7, z8]
        refine Jb ?_
        refine Ja rfl rfl rfl (Je (v := .int .i64 x9_2) rfl) ?_
        obtain ⟨t109, h_t109, H54⟩ := Jh H53; clear H53
        refine Ja rfl rfl rfl (Qe rfl rfl h_t109) ?_
        refine Ja rfl rfl rfl (Jc (v := .int .i64 t109) rfl) ?_
        refine Jg ?_
        refine Jn t109 () m4 [0, 1, 2, 3, 4, 5, 6] (by exact ⟨rfl, rfl, rfl, trivial⟩) (by decide) (by kernel_rfl) (by exact ⟨(by subst hn4; exact H54), trivial⟩) (Nat.lt_succ_self _)
       ) (by kernel_rfl)
     ·have H55 := Jq hb H47; clear H47
      refine X3 ?_
      refine Jn () () 0 [0, 1, 2, 3, 4, 5, 6] (by exact ⟨rfl, trivial⟩) (by decide) (by kernel_rfl) (by exact ⟨H55, trivial⟩) (Nat.lt_succ_self _)
    ·rintro _ _ gg H43 _
     replace H43 : Zz kq t54 m m_2 mp mp_2 l_2 t100 = some r := H43
     try dsimp only
     refine Jf ?_
     refine Jf ?_
     refine Jb ?_
     refine Xr (i := 2) (vs := [.bool (decide (t54 = 77)), .slice p_2.1 l_2.length p_2.2]) Tryz.isAgg24 Tryz.sizeOf24 rfl rfl rfl rfl rfl ?_
     obtain ⟨t130, h_t130, H44⟩ := Jh H43; clear H43
     refine Qw (fun w hF hS => k30 (J7 w) (frn_rowD (i := 6) hS rfl) h_t130) Tryz.call30 rfl rfl rfl ?_
     refine Ja rfl rfl rfl (Jc (v := .int .i64 t130) rfl) ?_
     refine Jg ?_
     refine Jf ?_
     refine Jb ?_
     refine Ja rfl rfl rfl (Je (v := .int .i64 t130) rfl) ?_
     refine Ja rfl rfl rfl (Va rfl rfl) ?_
     refine Jg ?_
     refine Qd (b := (decide (t130 ≠ 0))) rfl (fun hb => ?_) (fun hb => ?_)
     ·have H45 := Jp hb H44; clear H44
      refine Jf ?_
      refine Jb ?_
      refine Ja rfl rfl rfl (Yi (pl := #[(0, 1), (1, 1)]) (ps := []) (cells := #[.bool false, .slice none 0 0]) Tryz.zeroValue24 Tryz.runUnderlying24 (fun w => by kernel_rfl) rfl rfl) ?_
      refine Ja rfl rfl rfl (Je (v := .int .i64 t130) rfl) ?_
      refine Qc (i := 2) (vs := [.bool false, .slice none 0 0]) (cs' := [.bool false, .slice none 0 0]) Tryz.sizeOf24 rfl rfl rfl rfl rfl rfl rfl rfl rfl ?_
      refine Ja rfl rfl rfl (Jc (v := .int .i64 t130) rfl) ?_
      refine Jg ?_
      refine Jx ?_
      refine J0 36 1 ?_
      refine Jl 1 7 rfl rfl (by decide) ?_
      refine Y0 1 rfl (Xn (p := ((none, 0) : Option Addr × Nat)) rfl (AllC.nil (G := gs_tag_Entry) (h := X6) (sz := 1))) ?_
      refine Jl 4 1 rfl rfl (by decide) ?_
      refine Jl 5 4 rfl rfl (by decide) ?_
      refine Jl 3 5 rfl rfl (by decide) ?_
      refine Jl 0 3 rfl rfl (by decide) ?_
      refine retCt (i := 2) (vs := [.bool false, .slice ((none, 0) : Option Addr × Nat).1 (([] : List (List Value)).length) ((none, 0) : Option Addr × Nat).2]) (v2 := .int .i64 t130) Tryz.isAgg24 Tryz.sizeOf24 rfl rfl rfl rfl rfl (finXK ((⟨false, ([] : List (List T_tag_Entry))⟩ : T_tag_File), t130, (⟨m, m_2, mp, t100, mp_2⟩ : T_tintref2_reader)) (((none, 0) : Option Addr × Nat), b, p, b_2) H45 (i := 0) rfl (by first | rfl | rw [(show (([] : List (List Value)).length) = ([] : List (List T_tag_Entry)).length from (AllC.nil (G := gs_tag_Entry) (h := X6) (sz := 1)).len), (show n = t100.length from hl_2)]) (by first | exact Imp.refl _ | exact Imp.of (by rw [(show (([] : List (List Value)).length) = ([] : List (List T_tag_Entry)).length from (AllC.nil (G := gs_tag_Entry) (h := X6) (sz := 1)).len), (show n = t100.length from hl_2)] <;> rfl)))
     ·have H46 := Jq hb H44; clear H44
      refine Jt ?_
      refine Jf ?_
      try dsimp only [z1, z2, z5, z6, z7, z8]
      refine Jb ?_
      refine Xr (i := 2) (vs := [.bool (decide (t54 = 77)), .slice p_2.1 l_2.length p_2.2]) Tryz.isAgg24 Tryz.sizeOf24 rfl rfl rfl rfl rfl ?_
      refine Qc (i := 2) (vs := [.bool (decide (t54 = 77)), .slice p_2.1 l_2.length p_2.2]) (cs' := [.bool (decide (t54 = 77)), .slice p_2.1 l_2.length p_2.2]) Tryz.sizeOf24 rfl rfl rfl rfl rfl rfl rfl rfl rfl ?_
      refine Ja rfl rfl rfl (Jc (v := .int .i64 0) rfl) ?_
      refine Jg ?_
      refine Jx ?_
      refine Jl 4 6 rfl rfl (by decide) ?_
      refine Jl 5 4 rfl rfl (by decide) ?_
      refine Jl 3 5 rfl rfl (by decide) ?_
      refine Jl 0 3 rfl rfl (by decide) ?_
      refine retCt (i := 2) (vs := [.bool (decide (t54 = 77)), .slice p_2.1 l_2.length p_2.2]) (v2 := .int .i64 0) Tryz.isAgg24 Tryz.sizeOf24 rfl rfl rfl rfl rfl (finXK ((⟨(decide (t54 = 77)), l_2⟩ : T_tag_File), 0, (⟨m, m_2, mp, t100, mp_2⟩ : T_tintref2_reader)) (p_2, b, p, b_2) H46 (i := 0) rfl (by first | rfl | rw [(show n = t100.length from hl_2)]) (by first | exact Imp.refl _ | exact Imp.of (by rw [(show n = t100.length from hl_2)] <;> rfl)))
end Go.Proofs.YtgjpnjncfilgnaaGreatDoor

/- TagReads, the law: the walks, printed by our generator; each follows its model. Conditions: the model yields a value. -/
namespace Go.Proofs.YtgjpnjncfilgnaaGreatDoor
open Go Go.Vc Go.Md Go.M Go.Lx
set_option maxRecDepth 100000
set_option maxHeartbeats 4000000
set_option linter.unusedVariables false
theorem k18 {a0 : (List UInt8)} {r : T_tag_File × Int} {w : World} {h : Qj} (hw : Know h w Vi) (H : tag_Read a0 = some r) : Does Tryz.prog 18 (List.toArray [Jv a0]) w (fun v w' => ∃ x : (Option Addr × Nat), v = (.tuple #[.agg #[.bool r.1.Big, .slice x.1 r.1.Dirs.length x.2], .int .i64 r.2]) ∧ Turn w w' Vi (W3 36 1 gs_tag_Entry (.slice x.1 r.1.Dirs.length x.2) r.1.Dirs.length r.1.Dirs)) := by
 refine enter (n := 15) Tryz.func18 rfl rfl rfl Vi [] (Sat.nil _ _) ?_
 refine Zs X6 ?_
 refine Jf ?_
 refine Jb ?_
 refine Yo (cs := [.bool false, .slice none 0 0]) Tryz.zeroValue24 rfl rfl rfl (fun b2 => ?_)
 refine Ja rfl rfl rfl (Jc (v := .int .i64 0) rfl) ?_
 refine Jg ?_
 refine Jf ?_
 refine Jb ?_
 refine Ja rfl rfl rfl (Je (v := Jv a0) rfl) ?_
 obtain ⟨t9, h_t9, H2⟩ := Jh H; clear H
 refine l_make (Ue (rds := []) (G := fun x : (Option Addr × Nat) × (Option Addr × Nat) => .tuple #[.agg #[.bool t9.1.Big, .slice x.1.1 t9.1.Dirs.length x.1.2], .slice x.2.1 t9.2.1.length x.2.2, .int .i64 t9.2.2]) (C := fun x : (Option Addr × Nat) × (Option Addr × Nat) => J1 (W3 36 1 gs_tag_Entry (.slice x.1.1 t9.1.Dirs.length x.1.2) t9.1.Dirs.length t9.1.Dirs) (Qa 56 2 (.slice x.2.1 t9.2.1.length x.2.2) t9.2.1.length (t9.2.1.map Jj))) (fun w L' hF hS hi => k63 (J7 w)  h_t9) Tryz.call63 rfl) rfl rfl rfl (fun ⟨p, p_2⟩ => ?_)
 refine Q2 2 rfl ?_
 refine c_rowD 2 rfl (fun hp css hn pf => ?_)
 rw [hn]
 refine Q2 2 rfl ?_
 refine Wy 0 2 rfl rfl (by decide) (fun _ _ => W7) (fun hp_2 hle hle_2 => ?_)
 refine Ja rfl rfl rfl (Je (v := .tuple #[.agg #[.bool t9.1.Big, .slice p.1 css.length p.2], .slice p_2.1 t9.2.1.length p_2.2, .int .i64 t9.2.2]) rfl) ?_
 refine Ja rfl rfl rfl (Qs (v := .agg #[.bool t9.1.Big, .slice p.1 css.length p.2]) rfl rfl) ?_
 refine Ja rfl rfl rfl (Qs (v := .slice p_2.1 t9.2.1.length p_2.2) rfl rfl) ?_
 refine Ja rfl rfl rfl (Qs (v := .int .i64 t9.2.2) rfl rfl) ?_
 refine Yo (cs := [.bool false, .slice none 0 0]) Tryz.zeroValue24 rfl rfl rfl (fun b3 => ?_)
 refine Qc (i := 5) (vs := [.bool t9.1.Big, .slice p.1 css.length p.2]) (cs' := [.bool t9.1.Big, .slice p.1 css.length p.2]) Tryz.sizeOf24 rfl rfl rfl rfl rfl rfl rfl rfl rfl ?_
 refine Ja rfl rfl rfl (Jc (v := .slice p_2.1 t9.2.1.length p_2.2) rfl) ?_
 refine Ja rfl rfl rfl (Jc (v := .int .i64 t9.2.2) rfl) ?_
 refine Jg ?_
 try dsimp only [z1, z2, z5, z6, z7, z8]
 refine Jf ?_
 refine Jb ?_
 refine Xr (i := 5) (vs := [.bool t9.1.Big, .slice p.1 css.length p.2]) Tryz.isAgg24 Tryz.sizeOf24 rfl rfl rfl rfl rfl ?_
 refine Ja rfl rfl rfl (Je (v := .int .i64 t9.2.2) rfl) ?_
 refine Qc (i := 1) (vs := [.bool t9.1.Big, .slice p.1 css.length p.2]) (cs' := [.bool t9.1.Big, .slice p.1 css.length p.2]) Tryz.sizeOf24 rfl rfl rfl rfl rfl rfl rfl rfl rfl ?_
 refine Ja rfl rfl rfl (Jc (v := .int .i64 t9.2.2) rfl) ?_
 refine Jg ?_
 try dsimp only [z1, z2, z5, z6, z7, z8]
 refine Jx ?_
 obtain rfl := Option.some.inj H2
 refine Jl 0 4 rfl rfl (by decide) ?_
 refine Y0 0 rfl (Xn (p := p) rfl (pf.mono hle_2)) ?_
 refine retCt (i := 1) (vs := [.bool t9.1.Big, .slice p.1 css.length p.2]) (v2 := .int .i64 t9.2.2) Tryz.isAgg24 Tryz.sizeOf24 rfl rfl rfl rfl rfl (V6 p (i := 0) rfl (by first | rfl | rw [(show css.length = t9.1.Dirs.length from hn.symm)]) (by first | exact Imp.refl _ | exact Imp.of (by rw [(show css.length = t9.1.Dirs.length from hn.symm)] <;> rfl)))
theorem k19 {a0 : (List UInt8)} {r : T_tag_File × Int} {w : World} {h : Qj} (hw : Know h w Vi) (tb_pow10 : TabH Tryz.prog h "internal/strconv.uint64pow10" .u64 Lib.pow10Tab) (H : R_FileRead a0 = some r) : Does Tryz.prog 19 (List.toArray [Jv a0]) w (fun v w' => ∃ x : (Option Addr × Nat), v = (.tuple #[.agg #[.bool r.1.Big, .slice x.1 r.1.Dirs.length x.2], .int .i64 r.2]) ∧ Turn w w' Vi (W3 36 1 gs_tag_Entry (.slice x.1 r.1.Dirs.length x.2) r.1.Dirs.length r.1.Dirs)) := by
 refine enter (n := 12) Tryz.func19 rfl rfl rfl Vi [] (Sat.nil _ _) ?_
 refine Jf ?_
 refine Jb ?_
 refine Yo (cs := [.bool false, .slice none 0 0]) Tryz.zeroValue24 rfl rfl rfl (fun b2 => ?_)
 refine Ja rfl rfl rfl (Jc (v := .int .i64 0) rfl) ?_
 refine Jg ?_
 refine Jf ?_
 refine Jb ?_
 refine Ja rfl rfl rfl (Je (v := Jv a0) rfl) ?_
 refine Ja rfl rfl rfl (Yi (pl := #[(0, 1), (1, 1), (2, 1), (3, 1), (4, 1)]) (ps := [(0, Jv a0)]) (cells := #[Jv a0, .bool false, .map none, .slice none 0 0, .map none]) Tryz.zeroValue119 Tryz.runUnderlying119 (fun w => by kernel_rfl) rfl rfl) ?_
 refine U4 (cs := [Jv a0, .bool false, .map none, .slice none 0 0, .map none]) rfl rfl rfl rfl (fun b3 => ?_)
 refine Ja rfl rfl rfl (Jc (v := .pointer (some ⟨b3, 0, none⟩)) rfl) ?_
 refine Jg ?_
 refine Jf ?_
 refine Jb ?_
 refine Ja rfl rfl rfl (Je (v := .pointer (some ⟨b3, 0, none⟩)) rfl) ?_
 refine J0 56 2 ?_
 refine Jl 1 2 rfl rfl (by decide) ?_
 refine l_turnK (i := 1) (rds := []) (G := fun (t9 : T_tag_File × Int × T_tintref2_reader) (x : (Option Addr × Nat) × Nat × (Option Addr × Nat) × Nat) => .tuple #[.agg #[.bool t9.1.Big, .slice x.1.1 t9.1.Dirs.length x.1.2], .int .i64 t9.2.1]) (C := fun (t9 : T_tag_File × Int × T_tintref2_reader) (x : (Option Addr × Nat) × Nat × (Option Addr × Nat) × Nat) => J1 (Jo b3 [Jv t9.2.2.s_, .bool t9.2.2.big_, .map (some x.2.1), .slice x.2.2.1.1 t9.2.2.parts_.length x.2.2.1.2, .map (some x.2.2.2)] 119) (J1 (Q1 (fun x_ : Int => .int .i64 x_) (fun x_ : Bool => .bool x_) x.2.1 t9.2.2.starts_) (J1 (Qa 56 2 (.slice x.2.2.1.1 t9.2.2.parts_.length x.2.2.1.2) t9.2.2.parts_.length (t9.2.2.parts_.map Jj)) (J1 (Q1 (fun x_ : (List UInt8) => Jv x_) (fun x_ : T_tintref2_place => .agg #[.int .i64 x_.entry_, .int .i64 x_.from_, .int .i64 x_.to_]) x.2.2.2 t9.2.2.places_) (W3 36 1 gs_tag_Entry (.slice x.1.1 t9.1.Dirs.length x.1.2) t9.1.Dirs.length t9.1.Dirs))))) rfl (fun w L' S hF hS hi hp hlt ho hA => k65 (a0 := (⟨a0, false, ([] : (List (Int × Bool))), ([] : List T_tag_Span), ([] : (List ((List UInt8) × T_tintref2_place)))⟩ : T_tintref2_reader)) (p0_3 := ((none, 0) : Option Addr × Nat)) hp hlt (Xa w S) rfl (tb_pow10.mono (hw.but hF ho)) H) Tryz.call65 rfl rfl rfl (fun t9 ⟨p, p_2, p_3, p_4⟩ H2 => ?_)
 clear H
 refine Qk 1 2 rfl rfl (by decide) ?_
 refine Q2 2 rfl ?_
 refine Q2 3 rfl ?_
 refine Q2 4 rfl ?_
 refine Ja rfl rfl rfl (Qs (v := .agg #[.bool t9.1.Big, .slice p.1 t9.1.Dirs.length p.2]) rfl rfl) ?_
 refine Ja rfl rfl rfl (Qs (v := .int .i64 t9.2.1) rfl rfl) ?_
 refine Qc (i := 0) (vs := [.bool t9.1.Big, .slice p.1 t9.1.Dirs.length p.2]) (cs' := [.bool t9.1.Big, .slice p.1 t9.1.Dirs.length p.2]) Tryz.sizeOf24 rfl rfl rfl rfl rfl rfl rfl rfl rfl ?_
 refine Ja rfl rfl rfl (Jc (v := .int .i64 t9.2.1) rfl) ?_
 refine Jg ?_
 refine Jx ?_
 obtain rfl := Option.some.inj H2
 refine retCt (i := 0) (vs := [.bool t9.1.Big, .slice p.1 t9.1.Dirs.length p.2]) (v2 := .int .i64 t9.2.1) Tryz.isAgg24 Tryz.sizeOf24 rfl rfl rfl rfl rfl (V6 p (i := 5) rfl rfl (Imp.refl _))
theorem k67 {a : Option Addr} {n c : Nat} (hc : n ≤ c) : Ret Tryz.prog 67 [.slice a n c] (.slice (cutA a 0 n 2) n n) := by
  refine Wa (n := 9) Tryz.func67 rfl rfl rfl (fun wd => ?_)
  refine Jf ?_
  refine Jb ?_
  refine Ja rfl rfl rfl (Jc (v := .slice none 0 0) rfl) ?_
  refine Jg ?_
  refine Jf ?_
  refine Jb ?_
  refine Ja rfl rfl rfl (Je (v := .slice a n c) rfl) ?_
  refine Ja rfl rfl rfl (Je (v := .slice a n c) rfl) ?_
  refine Ja rfl rfl rfl (r_len Tryz.underlying48 rfl) ?_
  refine Ja rfl rfl rfl (Je (v := .slice a n c) rfl) ?_
  refine Ja rfl rfl rfl (r_len Tryz.underlying48 rfl) ?_
  refine Ja rfl rfl rfl (r_sliceHM (a := a) (m := n) (c := c) (h := (n : Int)) (q := (n : Int)) Tryz.underlying48 Tryz.sizeOf56 rfl rfl rfl (Int.natCast_nonneg n) (Int.le_refl _) (Int.ofNat_le.2 hc)) ?_
  refine Ja rfl rfl rfl (Jc (v := .slice (cutA a 0 n 2) n n) rfl) ?_
  refine Jg ?_
  refine Jx ?_
  exact Qn (v := .slice (cutA a 0 n 2) n n) rfl rfl (Yh rfl)
theorem k20 {a0 : (List UInt8)} {r : (List T_tag_Span) × Int} {w : World} {h : Qj} (hw : Know h w Vi) (H : tag_Used a0 = some r) : Does Tryz.prog 20 (List.toArray [Jv a0]) w (fun v w' => ∃ x : (Option Addr × Nat), v = (.tuple #[.slice x.1 r.1.length x.2, .int .i64 r.2]) ∧ Turn w w' Vi (rowO 56 2 (.slice x.1 r.1.length x.2) r.1.length (r.1.map Jj))) := by
 refine enter (n := 52) Tryz.func20 rfl rfl rfl Vi [] (Sat.nil _ _) ?_
 refine Zs X6 ?_
 refine Jf ?_
 refine Jb ?_
 refine Ja rfl rfl rfl (Jc (v := .slice none 0 0) rfl) ?_
 refine Ja rfl rfl rfl (Jc (v := .int .i64 0) rfl) ?_
 refine Jg ?_
 refine Jf ?_
 refine Jb ?_
 refine Ja rfl rfl rfl (Je (v := Jv a0) rfl) ?_
 obtain ⟨t13, h_t13, H33⟩ := Jh H; clear H
 refine l_make (Ue (rds := []) (G := fun x : (Option Addr × Nat) × (Option Addr × Nat) => .tuple #[.agg #[.bool t13.1.Big, .slice x.1.1 t13.1.Dirs.length x.1.2], .slice x.2.1 t13.2.1.length x.2.2, .int .i64 t13.2.2]) (C := fun x : (Option Addr × Nat) × (Option Addr × Nat) => J1 (W3 36 1 gs_tag_Entry (.slice x.1.1 t13.1.Dirs.length x.1.2) t13.1.Dirs.length t13.1.Dirs) (Qa 56 2 (.slice x.2.1 t13.2.1.length x.2.2) t13.2.1.length (t13.2.1.map Jj))) (fun w L' hF hS hi => k63 (J7 w)  h_t13) Tryz.call63 rfl) rfl rfl rfl (fun ⟨p, p_2⟩ => ?_)
 refine Q2 1 rfl ?_
 refine c_rowD 1 rfl (fun hp css hn pf => ?_)
 rw [hn]
 refine Q2 1 rfl ?_
 refine Wy 0 1 rfl rfl (by decide) (fun _ _ => W7) (fun hp_2 hle hle_2 => ?_)
 refine Ja rfl rfl rfl (Je (v := .tuple #[.agg #[.bool t13.1.Big, .slice p.1 css.length p.2], .slice p_2.1 t13.2.1.length p_2.2, .int .i64 t13.2.2]) rfl) ?_
 refine Ja rfl rfl rfl (Qs (v := .agg #[.bool t13.1.Big, .slice p.1 css.length p.2]) rfl rfl) ?_
 refine Ja rfl rfl rfl (Qs (v := .slice p_2.1 t13.2.1.length p_2.2) rfl rfl) ?_
 refine Ja rfl rfl rfl (Qs (v := .int .i64 t13.2.2) rfl rfl) ?_
 refine Yo (cs := [.bool false, .slice none 0 0]) Tryz.zeroValue24 rfl rfl rfl (fun b8 => ?_)
 refine Qc (i := 4) (vs := [.bool t13.1.Big, .slice p.1 css.length p.2]) (cs' := [.bool t13.1.Big, .slice p.1 css.length p.2]) Tryz.sizeOf24 rfl rfl rfl rfl rfl rfl rfl rfl rfl ?_
 refine Ja rfl rfl rfl (Jc (v := .slice p_2.1 t13.2.1.length p_2.2) rfl) ?_
 refine Ja rfl rfl rfl (Jc (v := .int .i64 t13.2.2) rfl) ?_
 refine Jg ?_
 try dsimp only [z1, z2, z5, z6, z7, z8]
 refine Jf ?_
 refine Jf ?_
 refine Jb ?_
 refine Ja rfl rfl rfl (Je (v := .int .i64 t13.2.2) rfl) ?_
 refine Ja rfl rfl rfl (Va rfl rfl) ?_
 refine Jg ?_
 try dsimp only [z1, z2, z5, z6, z7, z8]
 refine Qd (b := (decide (t13.2.2 ≠ 0))) rfl (fun hb => ?_) (fun hb => ?_)
 ·have H34 := Jp hb H33; clear H33
  refine Jf ?_
  refine Jb ?_
  refine Ja rfl rfl rfl (Je (v := .int .i64 t13.2.2) rfl) ?_
  refine Ja rfl rfl rfl (Jc (v := .slice none 0 0) rfl) ?_
  refine Ja rfl rfl rfl (Jc (v := .int .i64 t13.2.2) rfl) ?_
  refine Jg ?_
  try dsimp only [z1, z2, z5, z6, z7, z8]
  refine Jx ?_
  refine J0 56 2 ?_
  obtain rfl := Option.some.inj H34
  refine Y0 5 rfl (imp_rowO _ _ _ _ _) ?_
  refine ret2 (v1 := .slice ((none, 0) : Option Addr × Nat).1 ([] : List T_tag_Span).length ((none, 0) : Option Addr × Nat).2) (v2 := .int .i64 t13.2.2) rfl rfl rfl (V6 ((none, 0) : Option Addr × Nat) (i := 5) rfl rfl (Imp.refl _))
 ·have H35 := Jq hb H33; clear H33
  refine Jt ?_
  refine Jf ?_
  refine Jb ?_
  refine Ja rfl rfl rfl (Yi (pl := #[(0, 1), (1, 1)]) (ps := [(0, .int .i64 0), (1, .int .i64 8)]) (cells := #[.int .i64 0, .int .i64 8]) Tryz.zeroValue56 Tryz.runUnderlying56 (fun w => by kernel_rfl) rfl rfl) ?_
  refine Q9 (vs := [.agg #[.int .i64 0, .int .i64 8]]) (cs := [.int .i64 0, .int .i64 8]) Tryz.underlying48 Tryz.sizeOf56 Tryz.zeroValue56 rfl rfl rfl rfl rfl rfl rfl (fun b9 => ?_)
  refine Ja rfl rfl rfl (Jc (v := .slice (some ⟨b9, 0, none⟩) 1 1) rfl) ?_
  refine Jg ?_
  try dsimp only [z1, z2, z5, z6, z7, z8]
  refine Qz (r := r) (σ := (List T_tag_Span)) (τ := (Option Addr × Nat) × Nat) (fun s => tag_Used_j1 s) (fun s t => [(7, .slice t.1.1 t.2 t.1.2)]) (fun s t => [Yv X6 hp_2, Qa 56 2 (.slice t.1.1 t.2 t.1.2) t.2 (s.map Jj)]) (fun s t => t.2 = s.length) ?_ ?_
  ·refine Jf ?_
   refine Jb ?_
   refine Ja rfl rfl rfl (Je (v := .slice p_2.1 t13.2.1.length p_2.2) rfl) ?_
   refine Ja rfl rfl rfl (r_len Tryz.underlying48 rfl) ?_
   refine Ja rfl rfl rfl (Je (v := .int .i64 0) rfl) ?_
   refine Jg ?_
   try dsimp only [z1, z2, z5, z6, z7, z8]
   refine J8 ?_
   refine c_dr 4 <| c_dr 3 <| c_dr 1 ?_
   try dsimp only [z1, z2, z3, z4, z5, z6, z7, z8]
   refine Y0 2 rfl (imp_box (m := 1) (E := 56) (sz := 2) (xs := (([(⟨0, 8⟩ : T_tag_Span)] : List T_tag_Span)).map Jj) rfl rfl rfl ⟨rfl, by decide⟩) ?_
   refine Z2 (σ := Int × (List T_tag_Span)) (τ := (Option Addr × Nat) × Nat) (fun next2 s => Zw t13 next2 s.1 s.2) (fun s t => [(7, .slice t.1.1 t.2 t.1.2), (22, .slice p_2.1 t13.2.1.length p_2.2), (23, .int .i64 (t13.2.1.length : Int)), (24, .int .i64 s.1)]) (fun s t => [Yv X6 hp_2, Qa 56 2 (.slice p_2.1 t13.2.1.length p_2.2) t13.2.1.length (t13.2.1.map Jj), Qa 56 2 (.slice t.1.1 t.2 t.1.2) t.2 (s.2.map Jj)]) (fun s t => t.2 = s.2.length) (0, ([(⟨0, 8⟩ : T_tag_Span)] : List T_tag_Span)) (((some ⟨b9, 0, none⟩, 1) : Option Addr × Nat), 1) [0, 1, 2] H35 (by exact rfl) (by exact ⟨rfl, rfl, rfl, rfl, trivial⟩) (by decide) rfl ?_
   rintro ⟨x24_2, l_3⟩ ⟨p_4, n_2⟩ m2 gg H37 hl_3
   clear H35
   replace H37 : Zw t13 (it (fun next2 s => Zw t13 next2 s.1 s.2) m2) x24_2 l_3 = some r := H37
   generalize hn2 : it (fun next2 s => Zw t13 next2 s.1 s.2) m2 = next2 at H37
   try dsimp only
   refine Jf ?_
   refine Jb ?_
   refine Ja rfl rfl rfl (Zc rfl rfl) ?_
   refine Jg ?_
   refine Jf ?_
   refine Qd (b := (decide (x24_2 < (t13.2.1.length : Int)))) rfl (fun hb => ?_) (fun hb => ?_)
   ·have H38 := Jp hb H37; clear H37
    refine Jt ?_
    refine Qz (r := r) (σ := (List T_tag_Span)) (τ := (Option Addr × Nat) × Nat) (fun s => Jas x24_2 next2 s) (fun s t => [(7, .slice t.1.1 t.2 t.1.2), (22, .slice p_2.1 t13.2.1.length p_2.2), (23, .int .i64 (t13.2.1.length : Int)), (24, .int .i64 x24_2)]) (fun s t => [Yv X6 hp_2, Qa 56 2 (.slice p_2.1 t13.2.1.length p_2.2) t13.2.1.length (t13.2.1.map Jj), Qa 56 2 (.slice t.1.1 t.2 t.1.2) t.2 (s.map Jj)]) (fun s t => t.2 = s.length) ?_ ?_
    ·refine J8 ?_
     refine Jf ?_
     refine Jb ?_
     obtain ⟨t26, h_t26, H41⟩ := Jh H38; clear H38
     refine Yu (fun w hF hS => V7 Tryz.underlying48 Tryz.sizeOf56 rfl rfl (W4 (i := 1) hS rfl) rfl h_t26) rfl rfl rfl ?_
     refine Yu (fun w hF hS => Y4 (f := Jj) (i := x24_2) (sz := 2) (j := 0) (vs := [.int .i64 t26.From, .int .i64 t26.To]) Tryz.isAgg56 Tryz.sizeOf56 rfl rfl (W4 (i := 1) hS rfl) h_t26 rfl) rfl rfl rfl ?_
     refine Yo (cs := [.int .i64 0, .int .i64 0]) Tryz.zeroValue56 rfl rfl rfl (fun b10 => ?_)
     refine Qc (i := 3) (vs := [.int .i64 t26.From, .int .i64 t26.To]) (cs' := [.int .i64 t26.From, .int .i64 t26.To]) Tryz.sizeOf56 rfl rfl rfl rfl rfl rfl rfl rfl rfl ?_
     refine Jg ?_
     refine Jf ?_
     refine Jb ?_
     refine Ja rfl rfl rfl (Je (v := .slice p_4.1 n_2 p_4.2) rfl) ?_
     refine Ja rfl rfl rfl (Je (v := .slice p_4.1 n_2 p_4.2) rfl) ?_
     refine Ja rfl rfl rfl (r_lenN Tryz.underlying48 rfl hl_3) ?_
     obtain ⟨t31, h_t31, H42⟩ := Jh H41; clear H41
     refine Ja rfl rfl rfl (Wv rfl rfl h_t31) ?_
     obtain ⟨t32, h_t32, H43⟩ := Jh H42; clear H42
     refine Yu (fun w hF hS => V7 Tryz.underlying48 Tryz.sizeOf56 rfl rfl (W4 (i := 2) hS rfl) hl_3 h_t32) rfl rfl rfl ?_
     refine Ja rfl rfl rfl (Jc (v := _) rfl) ?_
     refine Jg ?_
     refine Jf ?_
     exact Xp (Kd.p :: Kd.d [2] _ :: Kd.d [2] _ :: Kd.d [2] _ :: Kd.p :: Kd.d [3] _ :: Kd.p :: []) 0 mixed (by
      refine Jm rfl rfl (Je (v := _) rfl) ?_
      refine d_readE rfl rfl (fun w L' hF hS hi => run_nilG rfl (W4 (i := 2) (E := 56) (sz := 2) (n := n_2) (a := p_4.1) (c := p_4.2) hS ((hi 2 (by simp)).trans rfl)) h_t32) ?_
      refine d_readE rfl rfl (fun w L' hF hS hi => run_fieldG Tryz.runUnderlying56 rfl Tryz.sizeOf3 rfl rfl (W4 (i := 2) (E := 56) (sz := 2) (n := n_2) (a := p_4.1) (c := p_4.2) hS ((hi 2 (by simp)).trans rfl)) h_t32) ?_
      refine Jam (fun w L' hF hS hi => X4 (f := Jj) (i := t31) (sz := 2) (j := 1) (v := .int .i64 t32.To) Tryz.isAgg3 rfl rfl (W4 (i := 2) (E := 56) (sz := 2) (n := n_2) (a := p_4.1) (c := p_4.2) hS ((hi 2 (by simp)).trans rfl)) h_t32 rfl) rfl rfl ?_
      refine Jm rfl rfl (Jk Tryz.runUnderlying56 rfl Tryz.sizeOf3 rfl rfl) ?_
      refine Xq (i := 3) (v := .int .i64 t26.From) Tryz.isAgg3 rfl rfl rfl rfl ?_
      refine Jm rfl rfl (Q0 rfl rfl) ?_
      refine Zh ?_
      refine Qd (b := (decide (t32.To = t26.From))) rfl (fun hb => ?_) (fun hb => ?_)
      ·have H44 := Jp hb H43; clear H43
       refine Jb ?_
       refine Ja rfl rfl rfl (Je (v := _) rfl) ?_
       refine Ja rfl rfl rfl (Jk Tryz.runUnderlying56 rfl Tryz.sizeOf3 rfl rfl) ?_
       refine Js (i := 3) (v := .int .i64 t26.To) Tryz.isAgg3 rfl rfl rfl rfl rfl ?_
       refine Yu (fun w hF hS => run_nilG rfl (W4 (i := 2) hS rfl) h_t32) rfl rfl rfl ?_
       refine c_know (fun w hF hS => someOf (i := 2) hS rfl h_t32) (fun hs => ?_)
       refine Ja rfl rfl rfl (r_fieldP Tryz.runUnderlying56 rfl Tryz.sizeOf3 rfl rfl hs) ?_
       obtain ⟨l2, h_l2, H45⟩ := Jh H44; clear H44
       refine l_storeG (q := 2) (j := 1) (i := t31) (sz := 2) (hm := hl_3) (f := Jj) (vs := [.int .i64 t26.To]) Tryz.sizeOf3 rfl rfl rfl rfl rfl rfl rfl rfl rfl (fun y_ hy_ => by first | rfl | (cases hy_.symm.trans h_t32; rfl)) h_l2 ?_
       refine Jg ?_
       refine Jn l2 (p_4, n_2) 0 [0, 1, 2] (by exact ⟨rfl, rfl, rfl, rfl, trivial⟩) (by decide) (by kernel_rfl) (by exact ⟨H45, (gSet_n hl_3 h_l2)⟩) (Nat.lt_succ_self _)
      ·have H46 := Jq hb H43; clear H43
       refine Jb ?_
       refine Ja rfl rfl rfl (Je (v := .slice p_4.1 n_2 p_4.2) rfl) ?_
       refine Xr (i := 3) (vs := [.int .i64 t26.From, .int .i64 t26.To]) Tryz.isAgg56 Tryz.sizeOf56 rfl rfl rfl rfl rfl ?_
       refine Q9 (vs := [.agg #[.int .i64 t26.From, .int .i64 t26.To]]) (cs := [.int .i64 t26.From, .int .i64 t26.To]) Tryz.underlying48 Tryz.sizeOf56 Tryz.zeroValue56 rfl rfl rfl rfl rfl rfl rfl (fun b11 => ?_)
       obtain ⟨l48, h_l48, H47⟩ := Jh H46; clear H46
       refine Xg (Y3 (i := 2) (hn := hl_3) (rds := [4]) (p := p_4) (sz := 2) (by_ := 16) (f := Jj) (ys := l_3) (ls := ([t26] : List T_tag_Span)) (V := .slice (some ⟨b11, 0, none⟩) 1 1) Tryz.underlying48 (Z1 Tryz.typeInfo56) rfl rfl rfl rfl rfl rfl rfl rfl rfl rfl (fun w L' hF hS hi => Wo (i := 4) hS ((hi 4 (by simp)).trans rfl) rfl rfl) (fun _ => rfl) (fun _ => rfl) h_l48) rfl rfl rfl (fun p_6 => ?_)
       refine Ja rfl rfl rfl (Jc (v := .slice p_6.1 l48.length p_6.2) rfl) ?_
       refine Jg ?_
       refine Jn l48 (p_6, l48.length) 0 [0, 1, 2] (by exact ⟨rfl, rfl, rfl, rfl, trivial⟩) (by decide) (by kernel_rfl) (by exact ⟨H47, rfl⟩) (Nat.lt_succ_self _)
      ) (by kernel_rfl)
    ·rintro l_4 ⟨p_5, n_3⟩ gg H39 hl_4
     replace H39 : Jas x24_2 next2 l_4 = some r := H39
     try dsimp only
     refine Jb ?_
     obtain ⟨t49, h_t49, H40⟩ := Jh H39; clear H39
     refine Ja rfl rfl rfl (Qe rfl rfl h_t49) ?_
     refine Ja rfl rfl rfl (Je (v := .int .i64 t49) rfl) ?_
     refine Jg ?_
     refine Jn (t49, l_4) (p_5, n_3) m2 [0, 1, 2] (by exact ⟨rfl, rfl, rfl, rfl, trivial⟩) (by decide) (by kernel_rfl) (by exact ⟨(by subst hn2; exact H40), hl_4⟩) (Nat.lt_succ_self _)
   ·have H48 := Jq hb H37; clear H37
    refine X3 ?_
    refine Jn l_3 (p_4, n_2) 0 [0, 2] (by exact ⟨rfl, trivial⟩) (by decide) (by kernel_rfl) (by exact ⟨H48, hl_3⟩) (Nat.lt_succ_self _)
  ·rintro l ⟨p_3, n⟩ gg H36 hl
   replace H36 : tag_Used_j1 l = some r := H36
   try dsimp only
   refine Jf ?_
   refine Jb ?_
   refine Ja rfl rfl rfl (Je (v := .slice p_3.1 n p_3.2) rfl) ?_
   refine Qw (fun w hF hS => k67 (capOf (i := 1) hS rfl) w) Tryz.call67 rfl rfl rfl ?_
   refine Ja rfl rfl rfl (Jc (v := .slice (cutA p_3.1 0 n 2) n n) rfl) ?_
   refine Ja rfl rfl rfl (Jc (v := .int .i64 0) rfl) ?_
   refine Jg ?_
   refine Jx ?_
   obtain rfl := Option.some.inj H36
   refine Y0 1 rfl (imp_clipR _ _ _ _ _ _) ?_
   refine ret2 (v1 := .slice (cutA p_3.1 0 n 2) n n) (v2 := .int .i64 0) rfl rfl rfl (V6 (cutA p_3.1 0 n 2, n) (i := 1) rfl (by first | rfl | rw [(show n = l.length from hl)]) (by first | exact Imp.refl _ | exact Imp.of (by rw [(show n = l.length from hl)] <;> rfl)))
theorem k21 {a0 : (List UInt8)} {r : (List T_tag_Span) × Int} {w : World} {h : Qj} (hw : Know h w Vi) (H : tag_Holes a0 = some r) : Does Tryz.prog 21 (List.toArray [Jv a0]) w (fun v w' => ∃ x : (Option Addr × Nat), v = (.tuple #[.slice x.1 r.1.length x.2, .int .i64 r.2]) ∧ Turn w w' Vi (roV 2 (.slice x.1 r.1.length x.2) r.1.length (r.1.map Jj))) := by
 refine enter (n := 47) Tryz.func21 rfl rfl rfl Vi [] (Sat.nil _ _) ?_
 refine Jf ?_
 refine Jb ?_
 refine Ja rfl rfl rfl (Jc (v := .slice none 0 0) rfl) ?_
 refine Ja rfl rfl rfl (Jc (v := .int .i64 0) rfl) ?_
 refine Jg ?_
 refine Jf ?_
 refine Jb ?_
 refine Ja rfl rfl rfl (Je (v := Jv a0) rfl) ?_
 obtain ⟨t12, h_t12, H29⟩ := Jh H; clear H
 refine l_make (Ue (rds := []) (G := fun x : (Option Addr × Nat) => .tuple #[.slice x.1 t12.1.length x.2, .int .i64 t12.2]) (C := fun x : (Option Addr × Nat) => rowO 56 2 (.slice x.1 t12.1.length x.2) t12.1.length (t12.1.map Jj)) (fun w L' hF hS hi => k20 (J7 w)  h_t12) Tryz.call20 rfl) rfl rfl rfl (fun p => ?_)
 refine Ja rfl rfl rfl (Je (v := .tuple #[.slice p.1 t12.1.length p.2, .int .i64 t12.2]) rfl) ?_
 refine Ja rfl rfl rfl (Qs (v := .slice p.1 t12.1.length p.2) rfl rfl) ?_
 refine Ja rfl rfl rfl (Qs (v := .int .i64 t12.2) rfl rfl) ?_
 refine Ja rfl rfl rfl (Jc (v := .slice p.1 t12.1.length p.2) rfl) ?_
 refine Ja rfl rfl rfl (Jc (v := .int .i64 t12.2) rfl) ?_
 refine Jg ?_
 refine Jf ?_
 refine Jf ?_
 refine Jb ?_
 refine Ja rfl rfl rfl (Je (v := .int .i64 t12.2) rfl) ?_
 refine Ja rfl rfl rfl (Va rfl rfl) ?_
 refine Jg ?_
 refine Qd (b := (decide (t12.2 ≠ 0))) rfl (fun hb => ?_) (fun hb => ?_)
 ·have H30 := Jp hb H29; clear H29
  refine Jf ?_
  refine Jb ?_
  refine Ja rfl rfl rfl (Je (v := .int .i64 t12.2) rfl) ?_
  refine Ja rfl rfl rfl (Jc (v := .slice none 0 0) rfl) ?_
  refine Ja rfl rfl rfl (Jc (v := .int .i64 t12.2) rfl) ?_
  refine Jg ?_
  refine Jx ?_
  refine J0 56 2 ?_
  obtain rfl := Option.some.inj H30
  refine Y0 1 rfl (row_ro _ _ _ _ _) ?_
  refine ret2 (v1 := .slice ((none, 0) : Option Addr × Nat).1 ([] : List T_tag_Span).length ((none, 0) : Option Addr × Nat).2) (v2 := .int .i64 t12.2) rfl rfl rfl (V6 ((none, 0) : Option Addr × Nat) (i := 1) rfl rfl (Imp.refl _))
 ·have H31 := Jq hb H29; clear H29
  refine Jt ?_
  refine Jf ?_
  refine Jb ?_
  refine Ja rfl rfl rfl (Jc (v := .slice none 0 0) rfl) ?_
  refine Jg ?_
  refine Jf ?_
  refine Jb ?_
  refine Ja rfl rfl rfl (Jc (v := .int .i64 0) rfl) ?_
  refine Jg ?_
  refine Qz (r := r) (σ := (List T_tag_Span)) (τ := (Option Addr × Nat)) (fun s => tag_Holes_j1 s) (fun s t => [(6, .slice t.1 s.length t.2)]) (fun s t => [Qa 56 2 (.slice t.1 s.length t.2) s.length (s.map Jj)]) (fun s t => True) ?_ ?_
  ·refine Jf ?_
   refine Jb ?_
   refine Ja rfl rfl rfl (Je (v := .slice p.1 t12.1.length p.2) rfl) ?_
   refine Ja rfl rfl rfl (Je (v := Jv a0) rfl) ?_
   refine Ja rfl rfl rfl (Z0 Tryz.underlying9 rfl) ?_
   refine Ja rfl rfl rfl (Je (v := Jv a0) rfl) ?_
   refine Ja rfl rfl rfl (Z0 Tryz.underlying9 rfl) ?_
   refine Ja rfl rfl rfl (Yi (pl := #[(0, 1), (1, 1)]) (ps := [(0, .int .i64 (a0.length : Int)), (1, .int .i64 (a0.length : Int))]) (cells := #[.int .i64 (a0.length : Int), .int .i64 (a0.length : Int)]) Tryz.zeroValue56 Tryz.runUnderlying56 (fun w => by kernel_rfl) rfl rfl) ?_
   refine Q9 (vs := [.agg #[.int .i64 (a0.length : Int), .int .i64 (a0.length : Int)]]) (cs := [.int .i64 (a0.length : Int), .int .i64 (a0.length : Int)]) Tryz.underlying48 Tryz.sizeOf56 Tryz.zeroValue56 rfl rfl rfl rfl rfl rfl rfl (fun b6 => ?_)
   obtain ⟨l25, h_l25, H33⟩ := Jh H31; clear H31
   refine Xg (turns_appF (i := 0) (hn := rfl) (rds := [1]) (p := p) (sz := 2) (by_ := 16) (f := Jj) (ys := t12.1) (ls := ([(⟨(a0.length : Int), (a0.length : Int)⟩ : T_tag_Span)] : List T_tag_Span)) (V := .slice (some ⟨b6, 0, none⟩) 1 1) Tryz.underlying48 (Z1 Tryz.typeInfo56) rfl rfl rfl rfl rfl rfl rfl rfl rfl rfl (fun w L' hF hS hi => Wo (i := 1) hS ((hi 1 (by simp)).trans rfl) rfl rfl) (fun _ => rfl) (fun _ => rfl) h_l25) rfl rfl rfl (fun p_3 => ?_)
   refine Ja rfl rfl rfl (r_len Tryz.underlying48 rfl) ?_
   refine Ja rfl rfl rfl (Je (v := .int .i64 0) rfl) ?_
   refine Jg ?_
   refine J8 ?_
   refine c_dr 1 ?_
   try dsimp only [z1, z2, z3, z4, z5, z6, z7, z8]
   refine J0 56 2 ?_
   refine Z2 (σ := Int × Int × (List T_tag_Span)) (τ := (Option Addr × Nat)) (fun next2 s => Ve l25 next2 s.1 s.2.1 s.2.2) (fun s t => [(6, .slice t.1 s.2.2.length t.2), (7, .int .i64 s.1), (25, .slice p_3.1 l25.length p_3.2), (26, .int .i64 (l25.length : Int)), (27, .int .i64 s.2.1)]) (fun s t => [rowO 56 2 (.slice p_3.1 l25.length p_3.2) l25.length (l25.map Jj), Qa 56 2 (.slice t.1 s.2.2.length t.2) s.2.2.length (s.2.2.map Jj)]) (fun s t => True) (0, 0, ([] : List T_tag_Span)) ((none, 0) : Option Addr × Nat) [0, 1] H33 (by exact trivial) (by exact ⟨rfl, rfl, rfl, rfl, rfl, trivial⟩) (by decide) rfl ?_
   rintro ⟨x7_2, x27_2, l_3⟩ p_4 m2 gg H34 _
   clear H33
   replace H34 : Ve l25 (it (fun next2 s => Ve l25 next2 s.1 s.2.1 s.2.2) m2) x7_2 x27_2 l_3 = some r := H34
   generalize hn2 : it (fun next2 s => Ve l25 next2 s.1 s.2.1 s.2.2) m2 = next2 at H34
   try dsimp only
   refine Jf ?_
   refine Jb ?_
   refine Ja rfl rfl rfl (Zc rfl rfl) ?_
   refine Jg ?_
   refine Jf ?_
   refine Qd (b := (decide (x27_2 < (l25.length : Int)))) rfl (fun hb => ?_) (fun hb => ?_)
   ·have H35 := Jp hb H34; clear H34
    refine Jt ?_
    refine Jf ?_
    refine J8 ?_
    refine Jf ?_
    refine Jb ?_
    obtain ⟨t29, h_t29, H36⟩ := Jh H35; clear H35
    refine Yu (fun w hF hS => V7 Tryz.underlying48 Tryz.sizeOf56 rfl rfl (offOf (i := 0) hS rfl) rfl h_t29) rfl rfl rfl ?_
    refine Yu (fun w hF hS => Y4 (f := Jj) (i := x27_2) (sz := 2) (j := 0) (vs := [.int .i64 t29.From, .int .i64 t29.To]) Tryz.isAgg56 Tryz.sizeOf56 rfl rfl (offOf (i := 0) hS rfl) h_t29 rfl) rfl rfl rfl ?_
    refine Yo (cs := [.int .i64 0, .int .i64 0]) Tryz.zeroValue56 rfl rfl rfl (fun b7 => ?_)
    refine Qc (i := 2) (vs := [.int .i64 t29.From, .int .i64 t29.To]) (cs' := [.int .i64 t29.From, .int .i64 t29.To]) Tryz.sizeOf56 rfl rfl rfl rfl rfl rfl rfl rfl rfl ?_
    refine Jg ?_
    refine Qz (r := r) (σ := (List T_tag_Span)) (τ := (Option Addr × Nat)) (fun s => Ja0 x27_2 next2 t29 s) (fun s t => [(6, .slice t.1 s.length t.2), (9, .pointer (some ⟨b7, 0, none⟩)), (25, .slice p_3.1 l25.length p_3.2), (26, .int .i64 (l25.length : Int)), (27, .int .i64 x27_2)]) (fun s t => [rowO 56 2 (.slice p_3.1 l25.length p_3.2) l25.length (l25.map Jj), Qa 56 2 (.slice t.1 s.length t.2) s.length (s.map Jj), Jo b7 [.int .i64 t29.From, .int .i64 t29.To] 56]) (fun s t => True) ?_ ?_
    ·refine Jf ?_
     refine Jb ?_
     refine Ja rfl rfl rfl (Jk Tryz.runUnderlying56 rfl Tryz.sizeOf3 rfl rfl) ?_
     refine Js (i := 2) (v := .int .i64 t29.From) Tryz.isAgg3 rfl rfl rfl rfl rfl ?_
     refine Ja rfl rfl rfl (Je (v := .int .i64 x7_2) rfl) ?_
     refine Ja rfl rfl rfl (Zm rfl rfl) ?_
     refine Jg ?_
     refine Qd (b := (decide (x7_2 < t29.From))) rfl (fun hb => ?_) (fun hb => ?_)
     ·have H39 := Jp hb H36; clear H36
      refine Jb ?_
      refine Ja rfl rfl rfl (Je (v := .slice p_4.1 l_3.length p_4.2) rfl) ?_
      refine Ja rfl rfl rfl (Je (v := .int .i64 x7_2) rfl) ?_
      refine Ja rfl rfl rfl (Jk Tryz.runUnderlying56 rfl Tryz.sizeOf3 rfl rfl) ?_
      refine Js (i := 2) (v := .int .i64 t29.From) Tryz.isAgg3 rfl rfl rfl rfl rfl ?_
      refine Ja rfl rfl rfl (Yi (pl := #[(0, 1), (1, 1)]) (ps := [(0, .int .i64 x7_2), (1, .int .i64 t29.From)]) (cells := #[.int .i64 x7_2, .int .i64 t29.From]) Tryz.zeroValue56 Tryz.runUnderlying56 (fun w => by kernel_rfl) rfl rfl) ?_
      refine Q9 (vs := [.agg #[.int .i64 x7_2, .int .i64 t29.From]]) (cs := [.int .i64 x7_2, .int .i64 t29.From]) Tryz.underlying48 Tryz.sizeOf56 Tryz.zeroValue56 rfl rfl rfl rfl rfl rfl rfl (fun b8 => ?_)
      obtain ⟨l41, h_l41, H40⟩ := Jh H39; clear H39
      refine Xg (Y3 (i := 1) (hn := rfl) (rds := [3]) (p := p_4) (sz := 2) (by_ := 16) (f := Jj) (ys := l_3) (ls := ([(⟨x7_2, t29.From⟩ : T_tag_Span)] : List T_tag_Span)) (V := .slice (some ⟨b8, 0, none⟩) 1 1) Tryz.underlying48 (Z1 Tryz.typeInfo56) rfl rfl rfl rfl rfl rfl rfl rfl rfl rfl (fun w L' hF hS hi => Wo (i := 3) hS ((hi 3 (by simp)).trans rfl) rfl rfl) (fun _ => rfl) (fun _ => rfl) h_l41) rfl rfl rfl (fun p_6 => ?_)
      refine Ja rfl rfl rfl (Jc (v := .slice p_6.1 l41.length p_6.2) rfl) ?_
      refine Jg ?_
      refine Jn l41 p_6 0 [0, 1, 2] (by exact ⟨rfl, rfl, rfl, rfl, rfl, trivial⟩) (by decide) (by kernel_rfl) (by exact ⟨H40, trivial⟩) (Nat.lt_succ_self _)
     ·have H41 := Jq hb H36; clear H36
      refine Jt ?_
      refine Jn l_3 p_4 0 [0, 1, 2] (by exact ⟨rfl, rfl, rfl, rfl, rfl, trivial⟩) (by decide) (by kernel_rfl) (by exact ⟨H41, trivial⟩) (Nat.lt_succ_self _)
    ·rintro l_4 p_5 gg H37 _
     replace H37 : Ja0 x27_2 next2 t29 l_4 = some r := H37
     try dsimp only
     refine Jb ?_
     refine Ja rfl rfl rfl (Jk Tryz.runUnderlying56 rfl Tryz.sizeOf3 rfl rfl) ?_
     refine Js (i := 2) (v := .int .i64 t29.To) Tryz.isAgg3 rfl rfl rfl rfl rfl ?_
     refine Ja rfl rfl rfl (Jc (v := .int .i64 t29.To) rfl) ?_
     refine Jg ?_
     refine Jb ?_
     obtain ⟨t44, h_t44, H38⟩ := Jh H37; clear H37
     refine Ja rfl rfl rfl (Qe rfl rfl h_t44) ?_
     refine Ja rfl rfl rfl (Je (v := .int .i64 t44) rfl) ?_
     refine Jg ?_
     refine Jn (t29.To, t44, l_4) p_5 m2 [0, 1] (by exact ⟨rfl, rfl, rfl, rfl, rfl, trivial⟩) (by decide) (by kernel_rfl) (by exact ⟨(by subst hn2; exact H38), trivial⟩) (Nat.lt_succ_self _)
   ·have H42 := Jq hb H34; clear H34
    refine X3 ?_
    refine Jn l_3 p_4 0 [1] (by exact ⟨rfl, trivial⟩) (by decide) (by kernel_rfl) (by exact ⟨H42, trivial⟩) (Nat.lt_succ_self _)
  ·rintro l p_2 gg H32 _
   replace H32 : tag_Holes_j1 l = some r := H32
   try dsimp only
   refine Jf ?_
   refine Jb ?_
   refine Ja rfl rfl rfl (Je (v := .slice p_2.1 l.length p_2.2) rfl) ?_
   refine Qw (fun w hF hS => k67 (capOf (i := 0) hS rfl) w) Tryz.call67 rfl rfl rfl ?_
   refine Ja rfl rfl rfl (Jc (v := .slice (cutA p_2.1 0 l.length 2) l.length l.length) rfl) ?_
   refine Ja rfl rfl rfl (Jc (v := .int .i64 0) rfl) ?_
   refine Jg ?_
   refine Jx ?_
   obtain rfl := Option.some.inj H32
   refine Y0 0 rfl (imp_clipO _ _ _ _ _ _) ?_
   refine ret2 (v1 := .slice (cutA p_2.1 0 l.length 2) l.length l.length) (v2 := .int .i64 0) rfl rfl rfl (V6 (cutA p_2.1 0 l.length 2, l.length) (i := 0) rfl rfl (Imp.refl _))
theorem k22 {a0 : (List UInt8)} {r : (List T_tag_Span) × (List T_tag_Span) × Int} {w : World} {h : Qj} (hw : Know h w Vi) (tb_pow10 : TabH Tryz.prog h "internal/strconv.uint64pow10" .u64 Lib.pow10Tab) (H : R_UsedOf a0 = some r) : Does Tryz.prog 22 (List.toArray [Jv a0]) w (fun v w' => ∃ x : (Option Addr × Nat) × (Option Addr × Nat), v = (.tuple #[.slice x.1.1 r.1.length x.1.2, .slice x.2.1 r.2.1.length x.2.2, .int .i64 r.2.2]) ∧ Turn w w' Vi (J1 (Qa 56 2 (.slice x.1.1 r.1.length x.1.2) r.1.length (r.1.map Jj)) (Qa 56 2 (.slice x.2.1 r.2.1.length x.2.2) r.2.1.length (r.2.1.map Jj)))) := by
 refine enter (n := 84) Tryz.func22 rfl rfl rfl Vi [] (Sat.nil _ _) ?_
 refine Jf ?_
 refine Jb ?_
 refine Ja rfl rfl rfl (Jc (v := .slice none 0 0) rfl) ?_
 refine Ja rfl rfl rfl (Jc (v := .slice none 0 0) rfl) ?_
 refine Ja rfl rfl rfl (Jc (v := .int .i64 0) rfl) ?_
 refine Jg ?_
 refine Jf ?_
 refine Jb ?_
 refine Ja rfl rfl rfl (Je (v := Jv a0) rfl) ?_
 refine Ja rfl rfl rfl (Yi (pl := #[(0, 1), (1, 1), (2, 1), (3, 1), (4, 1)]) (ps := [(0, Jv a0)]) (cells := #[Jv a0, .bool false, .map none, .slice none 0 0, .map none]) Tryz.zeroValue119 Tryz.runUnderlying119 (fun w => by kernel_rfl) rfl rfl) ?_
 refine U4 (cs := [Jv a0, .bool false, .map none, .slice none 0 0, .map none]) rfl rfl rfl rfl (fun b7 => ?_)
 refine Ja rfl rfl rfl (Jc (v := .pointer (some ⟨b7, 0, none⟩)) rfl) ?_
 refine Jg ?_
 refine Jf ?_
 refine Jf ?_
 refine Jb ?_
 refine Ja rfl rfl rfl (Je (v := .pointer (some ⟨b7, 0, none⟩)) rfl) ?_
 refine J0 56 2 ?_
 refine Jl 0 1 rfl rfl (by decide) ?_
 refine l_turnK (i := 0) (rds := []) (G := fun (t17 : T_tag_File × Int × T_tintref2_reader) (x : (Option Addr × Nat) × Nat × (Option Addr × Nat) × Nat) => .tuple #[.agg #[.bool t17.1.Big, .slice x.1.1 t17.1.Dirs.length x.1.2], .int .i64 t17.2.1]) (C := fun (t17 : T_tag_File × Int × T_tintref2_reader) (x : (Option Addr × Nat) × Nat × (Option Addr × Nat) × Nat) => J1 (Jo b7 [Jv t17.2.2.s_, .bool t17.2.2.big_, .map (some x.2.1), .slice x.2.2.1.1 t17.2.2.parts_.length x.2.2.1.2, .map (some x.2.2.2)] 119) (J1 (Q1 (fun x_ : Int => .int .i64 x_) (fun x_ : Bool => .bool x_) x.2.1 t17.2.2.starts_) (J1 (Qa 56 2 (.slice x.2.2.1.1 t17.2.2.parts_.length x.2.2.1.2) t17.2.2.parts_.length (t17.2.2.parts_.map Jj)) (J1 (Q1 (fun x_ : (List UInt8) => Jv x_) (fun x_ : T_tintref2_place => .agg #[.int .i64 x_.entry_, .int .i64 x_.from_, .int .i64 x_.to_]) x.2.2.2 t17.2.2.places_) (W3 36 1 gs_tag_Entry (.slice x.1.1 t17.1.Dirs.length x.1.2) t17.1.Dirs.length t17.1.Dirs))))) rfl (fun w L' S hF hS hi hp hlt ho hA => k65 (a0 := (⟨a0, false, ([] : (List (Int × Bool))), ([] : List T_tag_Span), ([] : (List ((List UInt8) × T_tintref2_place)))⟩ : T_tintref2_reader)) (p0_3 := ((none, 0) : Option Addr × Nat)) hp hlt (Xa w S) rfl (tb_pow10.mono (hw.but hF ho)) H) Tryz.call65 rfl rfl rfl (fun t17 ⟨p, p_2, p_3, p_4⟩ H29 => ?_)
 clear H
 refine Qk 0 1 rfl rfl (by decide) ?_
 refine Q2 1 rfl ?_
 refine Q2 2 rfl ?_
 refine Q2 3 rfl ?_
 refine Ja rfl rfl rfl (Je (v := .tuple #[.agg #[.bool t17.1.Big, .slice p.1 t17.1.Dirs.length p.2], .int .i64 t17.2.1]) rfl) ?_
 refine Ja rfl rfl rfl (Qs (v := .agg #[.bool t17.1.Big, .slice p.1 t17.1.Dirs.length p.2]) rfl rfl) ?_
 refine Ja rfl rfl rfl (Qs (v := .int .i64 t17.2.1) rfl rfl) ?_
 refine Yo (cs := [.bool false, .slice none 0 0]) Tryz.zeroValue24 rfl rfl rfl (fun b8 => ?_)
 refine Qc (i := 5) (vs := [.bool t17.1.Big, .slice p.1 t17.1.Dirs.length p.2]) (cs' := [.bool t17.1.Big, .slice p.1 t17.1.Dirs.length p.2]) Tryz.sizeOf24 rfl rfl rfl rfl rfl rfl rfl rfl rfl ?_
 refine Ja rfl rfl rfl (Jc (v := .int .i64 t17.2.1) rfl) ?_
 refine Jg ?_
 refine Jf ?_
 try dsimp only [z1, z2, z5, z6, z7, z8]
 refine Jb ?_
 refine Ja rfl rfl rfl (Je (v := .int .i64 t17.2.1) rfl) ?_
 refine Ja rfl rfl rfl (Va rfl rfl) ?_
 refine Jg ?_
 refine Qd (b := (decide (t17.2.1 ≠ 0))) rfl (fun hb => ?_) (fun hb => ?_)
 ·have H30 := Jp hb H29; clear H29
  refine Jf ?_
  refine Jb ?_
  refine Ja rfl rfl rfl (Je (v := .int .i64 t17.2.1) rfl) ?_
  refine Ja rfl rfl rfl (Jc (v := .slice none 0 0) rfl) ?_
  refine Ja rfl rfl rfl (Jc (v := .slice none 0 0) rfl) ?_
  refine Ja rfl rfl rfl (Jc (v := .int .i64 t17.2.1) rfl) ?_
  refine Jg ?_
  refine Jx ?_
  refine J0 56 2 ?_
  refine J0 56 2 ?_
  obtain rfl := Option.some.inj H30
  refine Jl 6 7 rfl rfl (by decide) ?_
  refine ret3 (v1 := .slice ((none, 0) : Option Addr × Nat).1 ([] : List T_tag_Span).length ((none, 0) : Option Addr × Nat).2) (v2 := .slice ((none, 0) : Option Addr × Nat).1 ([] : List T_tag_Span).length ((none, 0) : Option Addr × Nat).2) (v3 := .int .i64 t17.2.1) rfl rfl rfl rfl (V6 (((none, 0) : Option Addr × Nat), ((none, 0) : Option Addr × Nat)) (i := 6) rfl rfl (Imp.refl _))
 ·have H31 := Jq hb H29; clear H29
  refine Jt ?_
  refine Jf ?_
  refine Jb ?_
  refine Ja rfl rfl rfl (Jc (v := .int .i64 0) rfl) ?_
  refine Jg ?_
  refine Qz (r := r) (σ := Int × (List T_tag_Span) × (List T_tag_Span)) (τ := (Option Addr × Nat) × Nat × (Option Addr × Nat)) (fun s => R_UsedOf_j1 a0 s.1 s.2.1 s.2.2) (fun s t => [(0, Jv a0), (2, .slice t.1.1 t.2.1 t.1.2), (3, .slice t.2.2.1 s.2.2.length t.2.2.2), (8, .int .i64 s.1)]) (fun s t => [Qa 56 2 (.slice t.1.1 t.2.1 t.1.2) t.2.1 (s.2.1.map Jj), Qa 56 2 (.slice t.2.2.1 s.2.2.length t.2.2.2) s.2.2.length (s.2.2.map Jj)]) (fun s t => t.2.1 = s.2.1.length) ?_ ?_
  ·refine Jf ?_
   refine Jb ?_
   refine Ja rfl rfl rfl (Je (v := .pointer (some ⟨b7, 0, none⟩)) rfl) ?_
   refine Ja rfl rfl rfl (Ju rfl) ?_
   refine Ja rfl rfl rfl (Jk Tryz.runUnderlying119 rfl Tryz.sizeOf48 rfl rfl) ?_
   refine Js (i := 0) (v := .slice p_3.1 t17.2.2.parts_.length p_3.2) Tryz.isAgg48 rfl rfl rfl rfl rfl ?_
   refine Ja rfl rfl rfl (r_len Tryz.underlying48 rfl) ?_
   refine Ja rfl rfl rfl (Je (v := .int .i64 0) rfl) ?_
   refine Jg ?_
   refine J8 ?_
   refine c_dr 5 <| c_dr 4 <| c_dr 3 <| c_dr 1 <| c_dr 0 ?_
   try dsimp only [z1, z2, z3, z4, z5, z6, z7, z8]
   refine J0 56 2 ?_
   refine J0 56 2 ?_
   refine Z2 (σ := Int × Int × (List T_tag_Span) × (List T_tag_Span)) (τ := (Option Addr × Nat) × Nat × (Option Addr × Nat)) (fun next3 s => Zf a0 t17 next3 s.1 s.2.1 s.2.2.1 s.2.2.2) (fun s t => [(0, Jv a0), (2, .slice t.1.1 t.2.1 t.1.2), (3, .slice t.2.2.1 s.2.2.2.length t.2.2.2), (8, .int .i64 s.1), (26, .slice p_3.1 t17.2.2.parts_.length p_3.2), (27, .int .i64 (t17.2.2.parts_.length : Int)), (28, .int .i64 s.2.1)]) (fun s t => [Qa 56 2 (.slice p_3.1 t17.2.2.parts_.length p_3.2) t17.2.2.parts_.length (t17.2.2.parts_.map Jj), Qa 56 2 (.slice t.1.1 t.2.1 t.1.2) t.2.1 (s.2.2.1.map Jj), Qa 56 2 (.slice t.2.2.1 s.2.2.2.length t.2.2.2) s.2.2.2.length (s.2.2.2.map Jj)]) (fun s t => t.2.1 = s.2.2.1.length) (0, 0, ([] : List T_tag_Span), ([] : List T_tag_Span)) (((none, 0) : Option Addr × Nat), ([] : List T_tag_Span).length, ((none, 0) : Option Addr × Nat)) [0, 1, 2] H31 (by exact rfl) (by exact ⟨rfl, rfl, rfl, rfl, rfl, rfl, rfl, trivial⟩) (by decide) rfl ?_
   rintro ⟨x8_3, x28_2, l_6, l_7⟩ ⟨p_9, n_2, p_10⟩ m3 gg H37 hl_3
   clear H31
   replace H37 : Zf a0 t17 (it (fun next3 s => Zf a0 t17 next3 s.1 s.2.1 s.2.2.1 s.2.2.2) m3) x8_3 x28_2 l_6 l_7 = some r := H37
   generalize hn3 : it (fun next3 s => Zf a0 t17 next3 s.1 s.2.1 s.2.2.1 s.2.2.2) m3 = next3 at H37
   try dsimp only
   refine Jf ?_
   refine Jb ?_
   refine Ja rfl rfl rfl (Zc rfl rfl) ?_
   refine Jg ?_
   refine Jf ?_
   refine Qd (b := (decide (x28_2 < (t17.2.2.parts_.length : Int)))) rfl (fun hb => ?_) (fun hb => ?_)
   ·have H38 := Jp hb H37; clear H37
    refine Jt ?_
    refine Jf ?_
    refine J8 ?_
    refine Jf ?_
    refine Jb ?_
    obtain ⟨t30, h_t30, H39⟩ := Jh H38; clear H38
    refine Yu (fun w hF hS => V7 Tryz.underlying48 Tryz.sizeOf56 rfl rfl (W4 (i := 0) hS rfl) rfl h_t30) rfl rfl rfl ?_
    refine Yu (fun w hF hS => Y4 (f := Jj) (i := x28_2) (sz := 2) (j := 0) (vs := [.int .i64 t30.From, .int .i64 t30.To]) Tryz.isAgg56 Tryz.sizeOf56 rfl rfl (W4 (i := 0) hS rfl) h_t30 rfl) rfl rfl rfl ?_
    refine Yo (cs := [.int .i64 0, .int .i64 0]) Tryz.zeroValue56 rfl rfl rfl (fun b10 => ?_)
    refine Qc (i := 3) (vs := [.int .i64 t30.From, .int .i64 t30.To]) (cs' := [.int .i64 t30.From, .int .i64 t30.To]) Tryz.sizeOf56 rfl rfl rfl rfl rfl rfl rfl rfl rfl ?_
    refine Jg ?_
    refine Qz (r := r) (σ := (List T_tag_Span)) (τ := (Option Addr × Nat) × Nat) (fun s => Ub x8_3 x28_2 l_7 next3 t30 s) (fun s t => [(0, Jv a0), (2, .slice t.1.1 t.2 t.1.2), (3, .slice p_10.1 l_7.length p_10.2), (8, .int .i64 x8_3), (10, .pointer (some ⟨b10, 0, none⟩)), (26, .slice p_3.1 t17.2.2.parts_.length p_3.2), (27, .int .i64 (t17.2.2.parts_.length : Int)), (28, .int .i64 x28_2)]) (fun s t => [Qa 56 2 (.slice p_3.1 t17.2.2.parts_.length p_3.2) t17.2.2.parts_.length (t17.2.2.parts_.map Jj), Qa 56 2 (.slice t.1.1 t.2 t.1.2) t.2 (s.map Jj), Qa 56 2 (.slice p_10.1 l_7.length p_10.2) l_7.length (l_7.map Jj), Jo b10 [.int .i64 t30.From, .int .i64 t30.To] 56]) (fun s t => t.2 = s.length) ?_ ?_
    ·refine Jf ?_
     try dsimp only [z1, z2, z5, z6, z7, z8]
     refine Jb ?_
     refine Ja rfl rfl rfl (Je (v := .slice p_9.1 n_2 p_9.2) rfl) ?_
     refine Ja rfl rfl rfl (r_lenN Tryz.underlying48 rfl hl_3) ?_
     obtain ⟨t34, h_t34, H46⟩ := Jh H39; clear H39
     refine Ja rfl rfl rfl (Wv rfl rfl h_t34) ?_
     refine Ja rfl rfl rfl (Jc (v := .int .i64 t34) rfl) ?_
     refine Jg ?_
     refine Jf ?_
     exact Xp (Kd.p :: Kd.p :: Kd.p :: Kd.p :: Kd.p :: Kd.d [1] _ :: Kd.d [1] _ :: Kd.d [1] _ :: Kd.p :: Kd.d [3] _ :: Kd.p :: Kd.p :: []) 0 mixed (by
      refine Jm rfl rfl (Je (v := .int .i64 t34) rfl) ?_
      refine Jm rfl rfl (r_geq rfl rfl) ?_
      refine Jm rfl rfl (Je (v := .bool (decide (0 ≤ t34))) rfl) ?_
      refine splitS (fun hb => ?_) (fun hb => ?_)
      ·have H47 := Jp hb H46
       refine Jm rfl rfl (Je (v := .slice p_9.1 n_2 p_9.2) rfl) ?_
       refine Jm rfl rfl (Je (v := .int .i64 t34) rfl) ?_
       have h_t40 := Qg H47
       have H48 := J6 H47
       refine Jam (fun w L' hF hS hi => V7 Tryz.underlying48 Tryz.sizeOf56 rfl rfl (W4 (i := 1) (E := 56) (sz := 2) (n := n_2) (a := p_9.1) (c := p_9.2) hS ((hi 1 (by simp)).trans rfl)) hl_3 h_t40) rfl rfl ?_
       refine d_readE rfl rfl (fun w L' hF hS hi => run_fieldG Tryz.runUnderlying56 rfl Tryz.sizeOf3 rfl rfl (W4 (i := 1) (E := 56) (sz := 2) (n := n_2) (a := p_9.1) (c := p_9.2) hS ((hi 1 (by simp)).trans rfl)) h_t40) ?_
       refine Jam (fun w L' hF hS hi => X4 (f := Jj) (i := t34) (sz := 2) (j := 1) (v := .int .i64 (val (Y6 l_6 t34)).To) Tryz.isAgg3 rfl rfl (W4 (i := 1) (E := 56) (sz := 2) (n := n_2) (a := p_9.1) (c := p_9.2) hS ((hi 1 (by simp)).trans rfl)) h_t40 rfl) rfl rfl ?_
       refine Jm rfl rfl (Jk Tryz.runUnderlying56 rfl Tryz.sizeOf3 rfl rfl) ?_
       refine Xq (i := 3) (v := .int .i64 t30.From) Tryz.isAgg3 rfl rfl rfl rfl ?_
       refine Jm rfl rfl (Q0 rfl rfl) ?_
       refine Jm rfl rfl (J9 (v := .bool (decide ((val (Y6 l_6 t34)).To = t30.From))) rfl rfl) ?_
       refine Zh ?_
       refine Qd (b := (decide ((val (Y6 l_6 t34)).To = t30.From))) rfl (fun hb => ?_) (fun hb => ?_)
       ·have H49 := Jp hb H48; clear H48
        refine Jb ?_
        refine Ja rfl rfl rfl (Je (v := .slice p_9.1 n_2 p_9.2) rfl) ?_
        refine Ja rfl rfl rfl (Je (v := .int .i64 t34) rfl) ?_
        refine Ja rfl rfl rfl (Jk Tryz.runUnderlying56 rfl Tryz.sizeOf3 rfl rfl) ?_
        refine Js (i := 3) (v := .int .i64 t30.To) Tryz.isAgg3 rfl rfl rfl rfl rfl ?_
        obtain ⟨t51, h_t51, H50⟩ := Jh H49; clear H49
        refine Yu (fun w hF hS => V7 Tryz.underlying48 Tryz.sizeOf56 rfl rfl (W4 (i := 1) hS rfl) hl_3 h_t51) rfl rfl rfl ?_
        refine c_know (fun w hF hS => someOf (i := 1) hS rfl h_t51) (fun hs => ?_)
        refine Ja rfl rfl rfl (r_fieldP Tryz.runUnderlying56 rfl Tryz.sizeOf3 rfl rfl hs) ?_
        obtain ⟨l1, h_l1, H51⟩ := Jh H50; clear H50
        refine l_storeG (q := 1) (j := 1) (i := t34) (sz := 2) (hm := hl_3) (f := Jj) (vs := [.int .i64 t30.To]) Tryz.sizeOf3 rfl rfl rfl rfl rfl rfl rfl rfl rfl (fun y_ hy_ => by first | rfl | (cases hy_.symm.trans h_t51; rfl)) h_l1 ?_
        refine Jg ?_
        refine Jn l1 (p_9, n_2) 0 [0, 1, 2, 3] (by exact ⟨rfl, rfl, rfl, rfl, rfl, rfl, rfl, rfl, trivial⟩) (by decide) (by kernel_rfl) (by exact ⟨H51, (gSet_n hl_3 h_l1)⟩) (Nat.lt_succ_self _)
       ·have H52 := Jq hb H48; clear H48
        refine Jb ?_
        refine Ja rfl rfl rfl (Je (v := .slice p_9.1 n_2 p_9.2) rfl) ?_
        refine Xr (i := 3) (vs := [.int .i64 t30.From, .int .i64 t30.To]) Tryz.isAgg56 Tryz.sizeOf56 rfl rfl rfl rfl rfl ?_
        refine Q9 (vs := [.agg #[.int .i64 t30.From, .int .i64 t30.To]]) (cs := [.int .i64 t30.From, .int .i64 t30.To]) Tryz.underlying48 Tryz.sizeOf56 Tryz.zeroValue56 rfl rfl rfl rfl rfl rfl rfl (fun b12 => ?_)
        obtain ⟨l56, h_l56, H53⟩ := Jh H52; clear H52
        refine Xg (Y3 (i := 1) (hn := hl_3) (rds := [4]) (p := p_9) (sz := 2) (by_ := 16) (f := Jj) (ys := l_6) (ls := ([t30] : List T_tag_Span)) (V := .slice (some ⟨b12, 0, none⟩) 1 1) Tryz.underlying48 (Z1 Tryz.typeInfo56) rfl rfl rfl rfl rfl rfl rfl rfl rfl rfl (fun w L' hF hS hi => Wo (i := 4) hS ((hi 4 (by simp)).trans rfl) rfl rfl) (fun _ => rfl) (fun _ => rfl) h_l56) rfl rfl rfl (fun p_14 => ?_)
        refine Ja rfl rfl rfl (Jc (v := .slice p_14.1 l56.length p_14.2) rfl) ?_
        refine Jg ?_
        refine Jn l56 (p_14, l56.length) 0 [0, 1, 2, 3] (by exact ⟨rfl, rfl, rfl, rfl, rfl, rfl, rfl, rfl, trivial⟩) (by decide) (by kernel_rfl) (by exact ⟨H53, rfl⟩) (Nat.lt_succ_self _)
      ·have H54 := Jq hb H46
       refine Qi rfl rfl ?_
       refine Qi rfl rfl ?_
       refine Qi rfl rfl ?_
       refine Qi rfl rfl ?_
       refine Qi rfl rfl ?_
       refine Qi rfl rfl ?_
       refine Qi rfl rfl ?_
       refine Qi rfl rfl ?_
       refine Jm rfl rfl (Qf (v := .bool false) rfl rfl) ?_
       refine Zh ?_
       refine Ug rfl ?_
       refine Jb ?_
       refine Ja rfl rfl rfl (Je (v := .slice p_9.1 n_2 p_9.2) rfl) ?_
       refine Xr (i := 3) (vs := [.int .i64 t30.From, .int .i64 t30.To]) Tryz.isAgg56 Tryz.sizeOf56 rfl rfl rfl rfl rfl ?_
       refine Q9 (vs := [.agg #[.int .i64 t30.From, .int .i64 t30.To]]) (cs := [.int .i64 t30.From, .int .i64 t30.To]) Tryz.underlying48 Tryz.sizeOf56 Tryz.zeroValue56 rfl rfl rfl rfl rfl rfl rfl (fun b13 => ?_)
       obtain ⟨l56_2, h_l56_2, H55⟩ := Jh H54; clear H54
       refine Xg (Y3 (i := 1) (hn := hl_3) (rds := [4]) (p := p_9) (sz := 2) (by_ := 16) (f := Jj) (ys := l_6) (ls := ([t30] : List T_tag_Span)) (V := .slice (some ⟨b13, 0, none⟩) 1 1) Tryz.underlying48 (Z1 Tryz.typeInfo56) rfl rfl rfl rfl rfl rfl rfl rfl rfl rfl (fun w L' hF hS hi => Wo (i := 4) hS ((hi 4 (by simp)).trans rfl) rfl rfl) (fun _ => rfl) (fun _ => rfl) h_l56_2) rfl rfl rfl (fun p_15 => ?_)
       refine Ja rfl rfl rfl (Jc (v := .slice p_15.1 l56_2.length p_15.2) rfl) ?_
       refine Jg ?_
       refine Jn l56_2 (p_15, l56_2.length) 0 [0, 1, 2, 3] (by exact ⟨rfl, rfl, rfl, rfl, rfl, rfl, rfl, rfl, trivial⟩) (by decide) (by kernel_rfl) (by exact ⟨H55, rfl⟩) (Nat.lt_succ_self _)
      ) (by kernel_rfl)
    ·rintro l_8 ⟨p_11, n_3⟩ gg H40 hl_4
     replace H40 : Ub x8_3 x28_2 l_7 next3 t30 l_8 = some r := H40
     try dsimp only
     refine Qz (r := r) (σ := (List T_tag_Span)) (τ := (Option Addr × Nat)) (fun s => U3 x28_2 next3 t30 l_8 s) (fun s t => [(0, Jv a0), (2, .slice p_11.1 n_3 p_11.2), (3, .slice t.1 s.length t.2), (10, .pointer (some ⟨b10, 0, none⟩)), (26, .slice p_3.1 t17.2.2.parts_.length p_3.2), (27, .int .i64 (t17.2.2.parts_.length : Int)), (28, .int .i64 x28_2)]) (fun s t => [Qa 56 2 (.slice p_3.1 t17.2.2.parts_.length p_3.2) t17.2.2.parts_.length (t17.2.2.parts_.map Jj), Qa 56 2 (.slice p_11.1 n_3 p_11.2) n_3 (l_8.map Jj), Qa 56 2 (.slice t.1 s.length t.2) s.length (s.map Jj), Jo b10 [.int .i64 t30.From, .int .i64 t30.To] 56]) (fun s t => True) ?_ ?_
     ·refine Jf ?_
      refine Jb ?_
      refine Ja rfl rfl rfl (Jk Tryz.runUnderlying56 rfl Tryz.sizeOf3 rfl rfl) ?_
      refine Js (i := 3) (v := .int .i64 t30.From) Tryz.isAgg3 rfl rfl rfl rfl rfl ?_
      refine Ja rfl rfl rfl (Je (v := .int .i64 x8_3) rfl) ?_
      refine Ja rfl rfl rfl (Zm rfl rfl) ?_
      refine Jg ?_
      refine Qd (b := (decide (x8_3 < t30.From))) rfl (fun hb => ?_) (fun hb => ?_)
      ·have H43 := Jp hb H40; clear H40
       refine Jb ?_
       refine Ja rfl rfl rfl (Je (v := .slice p_10.1 l_7.length p_10.2) rfl) ?_
       refine Ja rfl rfl rfl (Je (v := .int .i64 x8_3) rfl) ?_
       refine Ja rfl rfl rfl (Jk Tryz.runUnderlying56 rfl Tryz.sizeOf3 rfl rfl) ?_
       refine Js (i := 3) (v := .int .i64 t30.From) Tryz.isAgg3 rfl rfl rfl rfl rfl ?_
       refine Ja rfl rfl rfl (Yi (pl := #[(0, 1), (1, 1)]) (ps := [(0, .int .i64 x8_3), (1, .int .i64 t30.From)]) (cells := #[.int .i64 x8_3, .int .i64 t30.From]) Tryz.zeroValue56 Tryz.runUnderlying56 (fun w => by kernel_rfl) rfl rfl) ?_
       refine Q9 (vs := [.agg #[.int .i64 x8_3, .int .i64 t30.From]]) (cs := [.int .i64 x8_3, .int .i64 t30.From]) Tryz.underlying48 Tryz.sizeOf56 Tryz.zeroValue56 rfl rfl rfl rfl rfl rfl rfl (fun b11 => ?_)
       obtain ⟨l67, h_l67, H44⟩ := Jh H43; clear H43
       refine Xg (Y3 (i := 2) (hn := rfl) (rds := [4]) (p := p_10) (sz := 2) (by_ := 16) (f := Jj) (ys := l_7) (ls := ([(⟨x8_3, t30.From⟩ : T_tag_Span)] : List T_tag_Span)) (V := .slice (some ⟨b11, 0, none⟩) 1 1) Tryz.underlying48 (Z1 Tryz.typeInfo56) rfl rfl rfl rfl rfl rfl rfl rfl rfl rfl (fun w L' hF hS hi => Wo (i := 4) hS ((hi 4 (by simp)).trans rfl) rfl rfl) (fun _ => rfl) (fun _ => rfl) h_l67) rfl rfl rfl (fun p_13 => ?_)
       refine Ja rfl rfl rfl (Jc (v := .slice p_13.1 l67.length p_13.2) rfl) ?_
       refine Jg ?_
       refine Jn l67 p_13 0 [0, 1, 2, 3] (by exact ⟨rfl, rfl, rfl, rfl, rfl, rfl, rfl, trivial⟩) (by decide) (by kernel_rfl) (by exact ⟨H44, trivial⟩) (Nat.lt_succ_self _)
      ·have H45 := Jq hb H40; clear H40
       refine Jt ?_
       refine Jn l_7 p_10 0 [0, 1, 2, 3] (by exact ⟨rfl, rfl, rfl, rfl, rfl, rfl, rfl, trivial⟩) (by decide) (by kernel_rfl) (by exact ⟨H45, trivial⟩) (Nat.lt_succ_self _)
     ·rintro l_9 p_12 gg H41 _
      replace H41 : U3 x28_2 next3 t30 l_8 l_9 = some r := H41
      try dsimp only
      refine Jb ?_
      refine Ja rfl rfl rfl (Jk Tryz.runUnderlying56 rfl Tryz.sizeOf3 rfl rfl) ?_
      refine Js (i := 3) (v := .int .i64 t30.To) Tryz.isAgg3 rfl rfl rfl rfl rfl ?_
      refine Ja rfl rfl rfl (Jc (v := .int .i64 t30.To) rfl) ?_
      refine Jg ?_
      refine Jb ?_
      obtain ⟨t70, h_t70, H42⟩ := Jh H41; clear H41
      refine Ja rfl rfl rfl (Qe rfl rfl h_t70) ?_
      refine Ja rfl rfl rfl (Je (v := .int .i64 t70) rfl) ?_
      refine Jg ?_
      refine Jn (t30.To, t70, l_8, l_9) (p_11, n_3, p_12) m3 [0, 1, 2] (by exact ⟨rfl, rfl, rfl, rfl, rfl, rfl, rfl, trivial⟩) (by decide) (by kernel_rfl) (by exact ⟨(by subst hn3; exact H42), hl_4⟩) (Nat.lt_succ_self _)
   ·have H56 := Jq hb H37; clear H37
    refine X3 ?_
    refine Jn (x8_3, l_6, l_7) (p_9, n_2, p_10) 0 [1, 2] (by exact ⟨rfl, rfl, rfl, rfl, trivial⟩) (by decide) (by kernel_rfl) (by exact ⟨H56, hl_3⟩) (Nat.lt_succ_self _)
  ·rintro ⟨x8, l, l_2⟩ ⟨p_5, n, p_6⟩ gg H32 hl
   replace H32 : R_UsedOf_j1 a0 x8 l l_2 = some r := H32
   try dsimp only
   refine Qz (r := r) (σ := (List T_tag_Span)) (τ := (Option Addr × Nat)) (fun s => R_UsedOf_j2 l s) (fun s t => [(2, .slice p_5.1 n p_5.2), (3, .slice t.1 s.length t.2)]) (fun s t => [Qa 56 2 (.slice p_5.1 n p_5.2) n (l.map Jj), Qa 56 2 (.slice t.1 s.length t.2) s.length (s.map Jj)]) (fun s t => True) ?_ ?_
   ·refine Jf ?_
    refine Jb ?_
    refine Ja rfl rfl rfl (Je (v := .int .i64 x8) rfl) ?_
    refine Ja rfl rfl rfl (Je (v := Jv a0) rfl) ?_
    refine Ja rfl rfl rfl (Z0 Tryz.underlying9 rfl) ?_
    refine Ja rfl rfl rfl (Zc rfl rfl) ?_
    refine Jg ?_
    refine Qd (b := (decide (x8 < (a0.length : Int)))) rfl (fun hb => ?_) (fun hb => ?_)
    ·have H34 := Jp hb H32; clear H32
     refine Jb ?_
     refine Ja rfl rfl rfl (Je (v := .slice p_6.1 l_2.length p_6.2) rfl) ?_
     refine Ja rfl rfl rfl (Je (v := .int .i64 x8) rfl) ?_
     refine Ja rfl rfl rfl (Je (v := Jv a0) rfl) ?_
     refine Ja rfl rfl rfl (Z0 Tryz.underlying9 rfl) ?_
     refine Ja rfl rfl rfl (Yi (pl := #[(0, 1), (1, 1)]) (ps := [(0, .int .i64 x8), (1, .int .i64 (a0.length : Int))]) (cells := #[.int .i64 x8, .int .i64 (a0.length : Int)]) Tryz.zeroValue56 Tryz.runUnderlying56 (fun w => by kernel_rfl) rfl rfl) ?_
     refine Q9 (vs := [.agg #[.int .i64 x8, .int .i64 (a0.length : Int)]]) (cs := [.int .i64 x8, .int .i64 (a0.length : Int)]) Tryz.underlying48 Tryz.sizeOf56 Tryz.zeroValue56 rfl rfl rfl rfl rfl rfl rfl (fun b9 => ?_)
     obtain ⟨l81, h_l81, H35⟩ := Jh H34; clear H34
     refine Xg (Y3 (i := 1) (hn := rfl) (rds := [2]) (p := p_6) (sz := 2) (by_ := 16) (f := Jj) (ys := l_2) (ls := ([(⟨x8, (a0.length : Int)⟩ : T_tag_Span)] : List T_tag_Span)) (V := .slice (some ⟨b9, 0, none⟩) 1 1) Tryz.underlying48 (Z1 Tryz.typeInfo56) rfl rfl rfl rfl rfl rfl rfl rfl rfl rfl (fun w L' hF hS hi => Wo (i := 2) hS ((hi 2 (by simp)).trans rfl) rfl rfl) (fun _ => rfl) (fun _ => rfl) h_l81) rfl rfl rfl (fun p_8 => ?_)
     refine Ja rfl rfl rfl (Jc (v := .slice p_8.1 l81.length p_8.2) rfl) ?_
     refine Jg ?_
     refine Jn l81 p_8 0 [0, 1] (by exact ⟨rfl, rfl, trivial⟩) (by decide) (by kernel_rfl) (by exact ⟨H35, trivial⟩) (Nat.lt_succ_self _)
    ·have H36 := Jq hb H32; clear H32
     refine Jt ?_
     refine Jn l_2 p_6 0 [0, 1] (by exact ⟨rfl, rfl, trivial⟩) (by decide) (by kernel_rfl) (by exact ⟨H36, trivial⟩) (Nat.lt_succ_self _)
   ·rintro l_3 p_7 gg H33 _
    replace H33 : R_UsedOf_j2 l l_3 = some r := H33
    try dsimp only
    refine Jf ?_
    refine Jb ?_
    refine Ja rfl rfl rfl (Je (v := .slice p_5.1 n p_5.2) rfl) ?_
    refine Ja rfl rfl rfl (Je (v := .slice p_7.1 l_3.length p_7.2) rfl) ?_
    refine Ja rfl rfl rfl (Jc (v := .slice p_5.1 n p_5.2) rfl) ?_
    refine Ja rfl rfl rfl (Jc (v := .slice p_7.1 l_3.length p_7.2) rfl) ?_
    refine Ja rfl rfl rfl (Jc (v := .int .i64 0) rfl) ?_
    refine Jg ?_
    refine Jx ?_
    obtain rfl := Option.some.inj H33
    refine Jl 0 1 rfl rfl (by decide) ?_
    refine ret3 (v1 := .slice p_5.1 n p_5.2) (v2 := .slice p_7.1 l_3.length p_7.2) (v3 := .int .i64 0) rfl rfl rfl rfl (V6 (p_5, p_7) (i := 0) rfl (by first | rfl | rw [(show n = l.length from hl)]) (by first | exact Imp.refl _ | exact Imp.of (by rw [(show n = l.length from hl)] <;> rfl)))
theorem k137 {a0 : (List (List T_tag_Entry))} {v0 : Value} {a1 : (List (List T_tag_Entry))} {v1 : Value} {a2 : ((List T_tag_Entry) → (List T_tag_Entry) → Option (Bool))} {v2 : Value} {r : Bool} {w : World} {h : Qj} (hw : Know h w Vi) (f0 : FrN h 1 v0 gs_tag_Entry a0) (f1 : FrN h 1 v1 gs_tag_Entry a1) (f2 : FnH Tryz.prog h v2 (Wd a2)) (H : Xj a0 a1 a2 = some r) : Does Tryz.prog 137 (List.toArray [v0, v1, v2]) w (fun v w' => v = (.bool r) ∧ Grow w w') := by
 refine enter (n := 32) Tryz.func137 rfl rfl rfl Vi [] (Sat.nil _ _) ?_
 refine Jf ?_
 refine Jb ?_
 refine Ja rfl rfl rfl (Jc (v := .bool false) rfl) ?_
 refine Jg ?_
 refine Jf ?_
 refine Jf ?_
 refine Jb ?_
 refine Ja rfl rfl rfl (Je (v := v0) rfl) ?_
 refine Ja rfl rfl rfl (Zg Tryz.underlying22 rfl f0) ?_
 refine Ja rfl rfl rfl (Je (v := v1) rfl) ?_
 refine Ja rfl rfl rfl (Zg Tryz.underlying22 rfl f1) ?_
 refine Ja rfl rfl rfl (Va rfl rfl) ?_
 refine Jg ?_
 refine Qd (b := (decide ((a0.length : Int) ≠ (a1.length : Int)))) rfl (fun hb => ?_) (fun hb => ?_)
 ·have H12 := Jp hb H; clear H
  refine Jf ?_
  refine Jb ?_
  refine Ja rfl rfl rfl (Jc (v := .bool false) rfl) ?_
  refine Jg ?_
  refine Jx ?_
  obtain rfl := Option.some.inj H12
  refine Qn (v := .bool false) rfl rfl (Yh rfl)
 ·have H13 := Jq hb H; clear H
  refine Jt ?_
  refine Jf ?_
  refine Jf ?_
  refine Jb ?_
  refine Ja rfl rfl rfl (Je (v := v0) rfl) ?_
  refine Ja rfl rfl rfl (Zg Tryz.underlying22 rfl f0) ?_
  refine Ja rfl rfl rfl (Je (v := .int .i64 0) rfl) ?_
  refine Jg ?_
  refine J8 ?_
  refine Z2 (σ := Int) (τ := Unit) (fun next1 s => Jw a0 a1 a2 next1 s) (fun s t => [(1, v1), (2, v2), (15, v0), (16, .int .i64 (a0.length : Int)), (17, .int .i64 s)]) (fun s t => []) (fun s t => True) 0 () [] H13 (by exact trivial) (by exact ⟨rfl, rfl, rfl, rfl, rfl, trivial⟩) (by decide) rfl ?_
  rintro x17_2 _ m1 gg H14 _
  clear H13
  replace H14 : Jw a0 a1 a2 (it (fun next1 s => Jw a0 a1 a2 next1 s) m1) x17_2 = some r := H14
  generalize hn1 : it (fun next1 s => Jw a0 a1 a2 next1 s) m1 = next1 at H14
  try dsimp only
  refine Jf ?_
  refine Jb ?_
  refine Ja rfl rfl rfl (Zc rfl rfl) ?_
  refine Jg ?_
  refine Jf ?_
  refine Qd (b := (decide (x17_2 < (a0.length : Int)))) rfl (fun hb => ?_) (fun hb => ?_)
  ·have H15 := Jp hb H14; clear H14
   refine Jt ?_
   refine Jf ?_
   refine J8 ?_
   refine Jf ?_
   refine Jb ?_
   refine Ja rfl rfl rfl (Je (v := .int .i64 x17_2) rfl) ?_
   obtain ⟨t20, h_t20, H16⟩ := Jh H15; clear H15
   refine Ja rfl rfl rfl (X5 Tryz.underlying22 Tryz.sizeOf36 rfl rfl f0.frs (f0.ix h_t20)) ?_
   refine Yu (fun w hF hS => X4 (f := (elC h v0 1)) (i := x17_2) (sz := 1) (j := 0) (v := (Xk h v0 1 (Int.toNat x17_2) 0)) Tryz.isAgg36 rfl rfl (f0.frs.row (hw.now hF)) (f0.ix h_t20) (rg_of (Ur (f0.at h_t20)) rfl)) rfl rfl rfl ?_
   refine Ja rfl rfl rfl (Jc (v := .int .i64 x17_2) rfl) ?_
   refine Ja rfl rfl rfl (Jc (v := (Xk h v0 1 (Int.toNat x17_2) 0)) rfl) ?_
   refine Jg ?_
   refine Jf ?_
   refine Jb ?_
   refine Ja rfl rfl rfl (Je (v := v1) rfl) ?_
   refine Ja rfl rfl rfl (Je (v := .int .i64 x17_2) rfl) ?_
   obtain ⟨t24, h_t24, H17⟩ := Jh H16; clear H16
   refine Ja rfl rfl rfl (X5 Tryz.underlying22 Tryz.sizeOf36 rfl rfl f1.frs (f1.ix h_t24)) ?_
   refine Yu (fun w hF hS => X4 (f := (elC h v1 1)) (i := x17_2) (sz := 1) (j := 0) (v := (Xk h v1 1 (Int.toNat x17_2) 0)) Tryz.isAgg36 rfl rfl (f1.frs.row (hw.now hF)) (f1.ix h_t24) (rg_of (Ur (f1.at h_t24)) rfl)) rfl rfl rfl ?_
   refine Ja rfl rfl rfl (Jc (v := (Xk h v1 1 (Int.toNat x17_2) 0)) rfl) ?_
   refine Jg ?_
   refine Jf ?_
   refine Jb ?_
   refine Ja rfl rfl rfl (Je (v := v2) rfl) ?_
   refine Ja rfl rfl rfl (Je (v := (Xk h v0 1 (Int.toNat x17_2) 0)) rfl) ?_
   refine Ja rfl rfl rfl (Je (v := (Xk h v1 1 (Int.toNat x17_2) 0)) rfl) ?_
   obtain ⟨t29, h_t29, H18⟩ := Jh H17; clear H17
   refine l_callV (R := Wd a2) (r := .bool t29) (v := v2) (fun w hF hS => ⟨(f2.mono (hw.now hF)), ⟨t20, _, t24, _, _, ((show FrN h 6 (Xk h v0 1 (Int.toNat x17_2) 0) g_tag_Entry t20 from (f0.at h_t20)).mono (hw.now hF)), ((show FrN h 6 (Xk h v1 1 (Int.toNat x17_2) 0) g_tag_Entry t24 from (f1.at h_t24)).mono (hw.now hF)), rfl, h_t29, rfl⟩⟩) rfl rfl rfl rfl ?_
   refine Ja rfl rfl rfl (r_not rfl) ?_
   refine Jg ?_
   refine Qd (b := (!t29)) rfl (fun hb => ?_) (fun hb => ?_)
   ·have H19 := Jp hb H18; clear H18
    refine Jf ?_
    refine Jb ?_
    refine Ja rfl rfl rfl (Jc (v := .bool false) rfl) ?_
    refine Jg ?_
    refine Jx ?_
    obtain rfl := Option.some.inj H19
    refine Qn (v := .bool false) rfl rfl (Yh rfl)
   ·have H20 := Jq hb H18; clear H18
    refine Jt ?_
    refine Jb ?_
    obtain ⟨t31, h_t31, H21⟩ := Jh H20; clear H20
    refine Ja rfl rfl rfl (Qe rfl rfl h_t31) ?_
    refine Ja rfl rfl rfl (Je (v := .int .i64 t31) rfl) ?_
    refine Jg ?_
    refine Jn t31 () m1 [] (by exact ⟨rfl, rfl, rfl, rfl, rfl, trivial⟩) (by decide) (by kernel_rfl) (by exact ⟨(by subst hn1; exact H21), trivial⟩) (Nat.lt_succ_self _)
  ·have H22 := Jq hb H14; clear H14
   refine X3 ?_
   refine Jf ?_
   refine Jb ?_
   refine Ja rfl rfl rfl (Jc (v := .bool true) rfl) ?_
   refine Jg ?_
   refine Jx ?_
   obtain rfl := Option.some.inj H22
   refine Qn (v := .bool true) rfl rfl (Yh rfl)
theorem k180 {a0 : (List T_tag_Entry)} {v0 : Value} {a1 : (List T_tag_Entry)} {v1 : Value} {a2 : (T_tag_Entry → T_tag_Entry → Option (Bool))} {v2 : Value} {r : Bool} {w : World} {h : Qj} (hw : Know h w Vi) (f0 : FrN h 6 v0 g_tag_Entry a0) (f1 : FrN h 6 v1 g_tag_Entry a1) (f2 : FnH Tryz.prog h v2 (Vn a2)) (H : Xh a0 a1 a2 = some r) : Does Tryz.prog 180 (List.toArray [v0, v1, v2]) w (fun v w' => v = (.bool r) ∧ Grow w w') := by
 refine enter (n := 32) Tryz.func180 rfl rfl rfl Vi [] (Sat.nil _ _) ?_
 refine Jf ?_
 refine Jb ?_
 refine Ja rfl rfl rfl (Jc (v := .bool false) rfl) ?_
 refine Jg ?_
 refine Jf ?_
 refine Jf ?_
 refine Jb ?_
 refine Ja rfl rfl rfl (Je (v := v0) rfl) ?_
 refine Ja rfl rfl rfl (Zg Tryz.underlying36 rfl f0) ?_
 refine Ja rfl rfl rfl (Je (v := v1) rfl) ?_
 refine Ja rfl rfl rfl (Zg Tryz.underlying36 rfl f1) ?_
 refine Ja rfl rfl rfl (Va rfl rfl) ?_
 refine Jg ?_
 refine Qd (b := (decide ((a0.length : Int) ≠ (a1.length : Int)))) rfl (fun hb => ?_) (fun hb => ?_)
 ·have H12 := Jp hb H; clear H
  refine Jf ?_
  refine Jb ?_
  refine Ja rfl rfl rfl (Jc (v := .bool false) rfl) ?_
  refine Jg ?_
  refine Jx ?_
  obtain rfl := Option.some.inj H12
  refine Qn (v := .bool false) rfl rfl (Yh rfl)
 ·have H13 := Jq hb H; clear H
  refine Jt ?_
  refine Jf ?_
  refine Jf ?_
  refine Jb ?_
  refine Ja rfl rfl rfl (Je (v := v0) rfl) ?_
  refine Ja rfl rfl rfl (Zg Tryz.underlying36 rfl f0) ?_
  refine Ja rfl rfl rfl (Je (v := .int .i64 0) rfl) ?_
  refine Jg ?_
  refine J8 ?_
  refine Z2 (σ := Int) (τ := Unit) (fun next1 s => J4 a0 a1 a2 next1 s) (fun s t => [(1, v1), (2, v2), (15, v0), (16, .int .i64 (a0.length : Int)), (17, .int .i64 s)]) (fun s t => []) (fun s t => True) 0 () [] H13 (by exact trivial) (by exact ⟨rfl, rfl, rfl, rfl, rfl, trivial⟩) (by decide) rfl ?_
  rintro x17_2 _ m1 gg H14 _
  clear H13
  replace H14 : J4 a0 a1 a2 (it (fun next1 s => J4 a0 a1 a2 next1 s) m1) x17_2 = some r := H14
  generalize hn1 : it (fun next1 s => J4 a0 a1 a2 next1 s) m1 = next1 at H14
  try dsimp only
  refine Jf ?_
  refine Jb ?_
  refine Ja rfl rfl rfl (Zc rfl rfl) ?_
  refine Jg ?_
  refine Jf ?_
  refine Qd (b := (decide (x17_2 < (a0.length : Int)))) rfl (fun hb => ?_) (fun hb => ?_)
  ·have H15 := Jp hb H14; clear H14
   refine Jt ?_
   refine Jf ?_
   refine J8 ?_
   refine Jf ?_
   refine Jb ?_
   refine Ja rfl rfl rfl (Je (v := .int .i64 x17_2) rfl) ?_
   obtain ⟨t20, h_t20, H16⟩ := Jh H15; clear H15
   refine Ja rfl rfl rfl (X5 Tryz.underlying36 Tryz.sizeOf83 rfl rfl f0.frs (f0.ix h_t20)) ?_
   refine Yu (fun w hF hS => Y4 (f := (elC h v0 6)) (i := x17_2) (sz := 6) (j := 0) (vs := [.int .i64 t20.Tag, .int .i64 t20.Value.Kind, Jv t20.Value.Text, (Xk h v0 6 (Int.toNat x17_2) 3), (Xk h v0 6 (Int.toNat x17_2) 4), (Xk h v0 6 (Int.toNat x17_2) 5)]) Tryz.isAgg83 Tryz.sizeOf83 rfl rfl (f0.frs.row (hw.now hF)) (f0.ix h_t20) (rd_of (Vd (f0.at h_t20)) rfl)) rfl rfl rfl ?_
   refine Yo (cs := [.int .i64 0, .int .i64 0, Jv [], .slice none 0 0, .slice none 0 0, .slice none 0 0]) Tryz.zeroValue83 rfl rfl rfl (fun b2 => ?_)
   refine Ja rfl rfl rfl (Jc (v := .int .i64 x17_2) rfl) ?_
   refine Qc (i := 0) (vs := [.int .i64 t20.Tag, .int .i64 t20.Value.Kind, Jv t20.Value.Text, (Xk h v0 6 (Int.toNat x17_2) 3), (Xk h v0 6 (Int.toNat x17_2) 4), (Xk h v0 6 (Int.toNat x17_2) 5)]) (cs' := [.int .i64 t20.Tag, .int .i64 t20.Value.Kind, Jv t20.Value.Text, (Xk h v0 6 (Int.toNat x17_2) 3), (Xk h v0 6 (Int.toNat x17_2) 4), (Xk h v0 6 (Int.toNat x17_2) 5)]) Tryz.sizeOf83 rfl rfl rfl rfl rfl rfl (by simp only [List.all_cons, List.all_nil, (show FrN h 6 (Xk h v0 6 (Int.toNat x17_2) 5) g_tag_Entry t20.Value.Entries from (Qv (Jr (f0.at h_t20)))).one, (show FrS h 1 (Xk h v0 6 (Int.toNat x17_2) 3) (t20.Value.Ints.map Xc) from (Q5 (Jr (f0.at h_t20)))).one, (show FrS h 2 (Xk h v0 6 (Int.toNat x17_2) 4) (t20.Value.Ratios.map Jz) from (Q4 (Jr (f0.at h_t20)))).one] <;> rfl) rfl rfl ?_
   refine Jg ?_
   refine Jf ?_
   refine Jb ?_
   refine Ja rfl rfl rfl (Je (v := v1) rfl) ?_
   refine Ja rfl rfl rfl (Je (v := .int .i64 x17_2) rfl) ?_
   obtain ⟨t24, h_t24, H17⟩ := Jh H16; clear H16
   refine Ja rfl rfl rfl (X5 Tryz.underlying36 Tryz.sizeOf83 rfl rfl f1.frs (f1.ix h_t24)) ?_
   refine Yu (fun w hF hS => Y4 (f := (elC h v1 6)) (i := x17_2) (sz := 6) (j := 0) (vs := [.int .i64 t24.Tag, .int .i64 t24.Value.Kind, Jv t24.Value.Text, (Xk h v1 6 (Int.toNat x17_2) 3), (Xk h v1 6 (Int.toNat x17_2) 4), (Xk h v1 6 (Int.toNat x17_2) 5)]) Tryz.isAgg83 Tryz.sizeOf83 rfl rfl (f1.frs.row (hw.now hF)) (f1.ix h_t24) (rd_of (Vd (f1.at h_t24)) rfl)) rfl rfl rfl ?_
   refine Yo (cs := [.int .i64 0, .int .i64 0, Jv [], .slice none 0 0, .slice none 0 0, .slice none 0 0]) Tryz.zeroValue83 rfl rfl rfl (fun b3 => ?_)
   refine Qc (i := 1) (vs := [.int .i64 t24.Tag, .int .i64 t24.Value.Kind, Jv t24.Value.Text, (Xk h v1 6 (Int.toNat x17_2) 3), (Xk h v1 6 (Int.toNat x17_2) 4), (Xk h v1 6 (Int.toNat x17_2) 5)]) (cs' := [.int .i64 t24.Tag, .int .i64 t24.Value.Kind, Jv t24.Value.Text, (Xk h v1 6 (Int.toNat x17_2) 3), (Xk h v1 6 (Int.toNat x17_2) 4), (Xk h v1 6 (Int.toNat x17_2) 5)]) Tryz.sizeOf83 rfl rfl rfl rfl rfl rfl (by simp only [List.all_cons, List.all_nil, (show FrN h 6 (Xk h v1 6 (Int.toNat x17_2) 5) g_tag_Entry t24.Value.Entries from (Qv (Jr (f1.at h_t24)))).one, (show FrS h 1 (Xk h v1 6 (Int.toNat x17_2) 3) (t24.Value.Ints.map Xc) from (Q5 (Jr (f1.at h_t24)))).one, (show FrS h 2 (Xk h v1 6 (Int.toNat x17_2) 4) (t24.Value.Ratios.map Jz) from (Q4 (Jr (f1.at h_t24)))).one] <;> rfl) rfl rfl ?_
   refine Jg ?_
   refine Jf ?_
   refine Jb ?_
   refine Ja rfl rfl rfl (Je (v := v2) rfl) ?_
   refine Xr (i := 0) (vs := [.int .i64 t20.Tag, .int .i64 t20.Value.Kind, Jv t20.Value.Text, (Xk h v0 6 (Int.toNat x17_2) 3), (Xk h v0 6 (Int.toNat x17_2) 4), (Xk h v0 6 (Int.toNat x17_2) 5)]) Tryz.isAgg83 Tryz.sizeOf83 rfl rfl rfl rfl rfl ?_
   refine Xr (i := 1) (vs := [.int .i64 t24.Tag, .int .i64 t24.Value.Kind, Jv t24.Value.Text, (Xk h v1 6 (Int.toNat x17_2) 3), (Xk h v1 6 (Int.toNat x17_2) 4), (Xk h v1 6 (Int.toNat x17_2) 5)]) Tryz.isAgg83 Tryz.sizeOf83 rfl rfl rfl rfl rfl ?_
   obtain ⟨t29, h_t29, H18⟩ := Jh H17; clear H17
   refine l_callV (R := Vn a2) (r := .bool t29) (v := v2) (fun w hF hS => ⟨(f2.mono (hw.now hF)), ⟨t20, _, _, _, t24, _, _, _, _, ((show FrS h 1 (Xk h v0 6 (Int.toNat x17_2) 3) (t20.Value.Ints.map Xc) from (Q5 (Jr (f0.at h_t20)))).mono (hw.now hF)), ((show FrS h 2 (Xk h v0 6 (Int.toNat x17_2) 4) (t20.Value.Ratios.map Jz) from (Q4 (Jr (f0.at h_t20)))).mono (hw.now hF)), ((show FrN h 6 (Xk h v0 6 (Int.toNat x17_2) 5) g_tag_Entry t20.Value.Entries from (Qv (Jr (f0.at h_t20)))).mono (hw.now hF)), ((show FrS h 1 (Xk h v1 6 (Int.toNat x17_2) 3) (t24.Value.Ints.map Xc) from (Q5 (Jr (f1.at h_t24)))).mono (hw.now hF)), ((show FrS h 2 (Xk h v1 6 (Int.toNat x17_2) 4) (t24.Value.Ratios.map Jz) from (Q4 (Jr (f1.at h_t24)))).mono (hw.now hF)), ((show FrN h 6 (Xk h v1 6 (Int.toNat x17_2) 5) g_tag_Entry t24.Value.Entries from (Qv (Jr (f1.at h_t24)))).mono (hw.now hF)), rfl, h_t29, rfl⟩⟩) rfl rfl rfl rfl ?_
   refine Ja rfl rfl rfl (r_not rfl) ?_
   refine Jg ?_
   refine Qd (b := (!t29)) rfl (fun hb => ?_) (fun hb => ?_)
   ·have H19 := Jp hb H18; clear H18
    refine Jf ?_
    refine Jb ?_
    refine Ja rfl rfl rfl (Jc (v := .bool false) rfl) ?_
    refine Jg ?_
    refine Jx ?_
    obtain rfl := Option.some.inj H19
    refine Qn (v := .bool false) rfl rfl (Yh rfl)
   ·have H20 := Jq hb H18; clear H18
    refine Jt ?_
    refine Jb ?_
    obtain ⟨t31, h_t31, H21⟩ := Jh H20; clear H20
    refine Ja rfl rfl rfl (Qe rfl rfl h_t31) ?_
    refine Ja rfl rfl rfl (Je (v := .int .i64 t31) rfl) ?_
    refine Jg ?_
    refine Jn t31 () m1 [] (by exact ⟨rfl, rfl, rfl, rfl, rfl, trivial⟩) (by decide) (by kernel_rfl) (by exact ⟨(by subst hn1; exact H21), trivial⟩) (Nat.lt_succ_self _)
  ·have H22 := Jq hb H14; clear H14
   refine X3 ?_
   refine Jf ?_
   refine Jb ?_
   refine Ja rfl rfl rfl (Jc (v := .bool true) rfl) ?_
   refine Jg ?_
   refine Jx ?_
   obtain rfl := Option.some.inj H22
   refine Qn (v := .bool true) rfl rfl (Yh rfl)
theorem k71 {a0 : (List Int)} {v0 : Value} {a1 : (List Int)} {v1 : Value} {r : Bool} {w : World} {h : Qj} (hw : Know h w Vi) (f0 : FrS h 1 v0 (a0.map Xc)) (f1 : FrS h 1 v1 (a1.map Xc)) (H : Jaa a0 a1 = some r) : Does Tryz.prog 71 (List.toArray [v0, v1]) w (fun v w' => v = (.bool r) ∧ Grow w w') := by
 refine enter (n := 26) Tryz.func71 rfl rfl rfl Vi [] (Sat.nil _ _) ?_
 refine Jf ?_
 refine Jb ?_
 refine Ja rfl rfl rfl (Jc (v := .bool false) rfl) ?_
 refine Jg ?_
 refine Jf ?_
 refine Jf ?_
 refine Jb ?_
 refine Ja rfl rfl rfl (Je (v := v0) rfl) ?_
 refine Ja rfl rfl rfl (Vs Tryz.underlying30 rfl f0 rfl) ?_
 refine Ja rfl rfl rfl (Je (v := v1) rfl) ?_
 refine Ja rfl rfl rfl (Vs Tryz.underlying30 rfl f1 rfl) ?_
 refine Ja rfl rfl rfl (Va rfl rfl) ?_
 refine Jg ?_
 refine Qd (b := (decide ((a0.length : Int) ≠ (a1.length : Int)))) rfl (fun hb => ?_) (fun hb => ?_)
 ·have H11 := Jp hb H; clear H
  refine Jf ?_
  refine Jb ?_
  refine Ja rfl rfl rfl (Jc (v := .bool false) rfl) ?_
  refine Jg ?_
  refine Jx ?_
  obtain rfl := Option.some.inj H11
  refine Qn (v := .bool false) rfl rfl (Yh rfl)
 ·have H12 := Jq hb H; clear H
  refine Jt ?_
  refine Jf ?_
  refine Jf ?_
  refine Jb ?_
  refine Ja rfl rfl rfl (Je (v := v0) rfl) ?_
  refine Ja rfl rfl rfl (Vs Tryz.underlying30 rfl f0 rfl) ?_
  refine Ja rfl rfl rfl (Je (v := .int .i64 0) rfl) ?_
  refine Jg ?_
  refine J8 ?_
  refine Z2 (σ := Int) (τ := Unit) (fun next1 s => X7 a0 a1 next1 s) (fun s t => [(0, v0), (1, v1), (12, .int .i64 (a0.length : Int)), (13, .int .i64 s)]) (fun s t => []) (fun s t => True) 0 () [] H12 (by exact trivial) (by exact ⟨rfl, rfl, rfl, rfl, trivial⟩) (by decide) rfl ?_
  rintro x13_2 _ m1 gg H13 _
  clear H12
  replace H13 : X7 a0 a1 (it (fun next1 s => X7 a0 a1 next1 s) m1) x13_2 = some r := H13
  generalize hn1 : it (fun next1 s => X7 a0 a1 next1 s) m1 = next1 at H13
  try dsimp only
  refine Jf ?_
  refine Jb ?_
  refine Ja rfl rfl rfl (Zc rfl rfl) ?_
  refine Jg ?_
  refine Jf ?_
  refine Qd (b := (decide (x13_2 < (a0.length : Int)))) rfl (fun hb => ?_) (fun hb => ?_)
  ·have H14 := Jp hb H13; clear H13
   refine Jt ?_
   refine Jf ?_
   refine J8 ?_
   refine Jf ?_
   refine Jb ?_
   refine Ja rfl rfl rfl (Je (v := .int .i64 x13_2) rfl) ?_
   refine Ja rfl rfl rfl (Jc (v := .int .i64 x13_2) rfl) ?_
   refine Jg ?_
   refine Jf ?_
   exact Xp (Kd.p :: Kd.p :: Kd.p :: Kd.d [] _ :: Kd.p :: Kd.p :: Kd.p :: Kd.d [] _ :: Kd.p :: []) 0 mixed (by
    refine Jm rfl rfl (Je (v := v0) rfl) ?_
    refine Jm rfl rfl (Je (v := .int .i64 x13_2) rfl) ?_
    have h_t18 := Qg H14
    have H15 := J6 H14
    refine Jm rfl rfl (X5 Tryz.underlying30 Tryz.sizeOf3 rfl rfl f0 h_t18) ?_
    refine d_read (fun w hF => X4 (f := Xc) (i := x13_2) (sz := 1) (j := 0) (v := .int .i64 (val (Y6 a0 x13_2))) Tryz.isAgg3 rfl rfl (f0.row (hw.now hF)) h_t18 rfl) rfl rfl ?_
    refine Jm rfl rfl (Je (v := v1) rfl) ?_
    refine Jm rfl rfl (Je (v := .int .i64 x13_2) rfl) ?_
    have h_t22 := Qg H15
    have H16 := J6 H15
    refine Jm rfl rfl (X5 Tryz.underlying30 Tryz.sizeOf3 rfl rfl f1 h_t22) ?_
    refine d_read (fun w hF => X4 (f := Xc) (i := x13_2) (sz := 1) (j := 0) (v := .int .i64 (val (Y6 a1 x13_2))) Tryz.isAgg3 rfl rfl (f1.row (hw.now hF)) h_t22 rfl) rfl rfl ?_
    refine Jm rfl rfl (Va rfl rfl) ?_
    refine Zh ?_
    refine Qd (b := (decide ((val (Y6 a0 x13_2)) ≠ (val (Y6 a1 x13_2))))) rfl (fun hb => ?_) (fun hb => ?_)
    ·have H17 := Jp hb H16; clear H16
     refine Jf ?_
     refine Jb ?_
     refine Ja rfl rfl rfl (Jc (v := .bool false) rfl) ?_
     refine Jg ?_
     refine Jx ?_
     obtain rfl := Option.some.inj H17
     refine Qn (v := .bool false) rfl rfl (Yh rfl)
    ·have H18 := Jq hb H16; clear H16
     refine Jt ?_
     refine Jb ?_
     obtain ⟨t25, h_t25, H19⟩ := Jh H18; clear H18
     refine Ja rfl rfl rfl (Qe rfl rfl h_t25) ?_
     refine Ja rfl rfl rfl (Je (v := .int .i64 t25) rfl) ?_
     refine Jg ?_
     refine Jn t25 () m1 [] (by exact ⟨rfl, rfl, rfl, rfl, trivial⟩) (by decide) (by kernel_rfl) (by exact ⟨(by subst hn1; exact H19), trivial⟩) (Nat.lt_succ_self _)
    ) (by kernel_rfl)
  ·have H20 := Jq hb H13; clear H13
   refine X3 ?_
   refine Jf ?_
   refine Jb ?_
   refine Ja rfl rfl rfl (Jc (v := .bool true) rfl) ?_
   refine Jg ?_
   refine Jx ?_
   obtain rfl := Option.some.inj H20
   refine Qn (v := .bool true) rfl rfl (Yh rfl)
theorem k219 {a0 : (List T_tag_Ratio)} {v0 : Value} {a1 : (List T_tag_Ratio)} {v1 : Value} {r : Bool} {w : World} {h : Qj} (hw : Know h w Vi) (f0 : FrS h 2 v0 (a0.map Jz)) (f1 : FrS h 2 v1 (a1.map Jz)) (H : Vv a0 a1 = some r) : Does Tryz.prog 219 (List.toArray [v0, v1]) w (fun v w' => v = (.bool r) ∧ Grow w w') := by
 refine enter (n := 26) Tryz.func219 rfl rfl rfl Vi [] (Sat.nil _ _) ?_
 refine Jf ?_
 refine Jb ?_
 refine Ja rfl rfl rfl (Jc (v := .bool false) rfl) ?_
 refine Jg ?_
 refine Jf ?_
 refine Jf ?_
 refine Jb ?_
 refine Ja rfl rfl rfl (Je (v := v0) rfl) ?_
 refine Ja rfl rfl rfl (Vs Tryz.underlying31 rfl f0 rfl) ?_
 refine Ja rfl rfl rfl (Je (v := v1) rfl) ?_
 refine Ja rfl rfl rfl (Vs Tryz.underlying31 rfl f1 rfl) ?_
 refine Ja rfl rfl rfl (Va rfl rfl) ?_
 refine Jg ?_
 refine Qd (b := (decide ((a0.length : Int) ≠ (a1.length : Int)))) rfl (fun hb => ?_) (fun hb => ?_)
 ·have H11 := Jp hb H; clear H
  refine Jf ?_
  refine Jb ?_
  refine Ja rfl rfl rfl (Jc (v := .bool false) rfl) ?_
  refine Jg ?_
  refine Jx ?_
  obtain rfl := Option.some.inj H11
  refine Qn (v := .bool false) rfl rfl (Yh rfl)
 ·have H12 := Jq hb H; clear H
  refine Jt ?_
  refine Jf ?_
  refine Jf ?_
  refine Jb ?_
  refine Ja rfl rfl rfl (Je (v := v0) rfl) ?_
  refine Ja rfl rfl rfl (Vs Tryz.underlying31 rfl f0 rfl) ?_
  refine Ja rfl rfl rfl (Je (v := .int .i64 0) rfl) ?_
  refine Jg ?_
  refine J8 ?_
  refine Z2 (σ := Int) (τ := Unit) (fun next1 s => Q8 a0 a1 next1 s) (fun s t => [(0, v0), (1, v1), (12, .int .i64 (a0.length : Int)), (13, .int .i64 s)]) (fun s t => []) (fun s t => True) 0 () [] H12 (by exact trivial) (by exact ⟨rfl, rfl, rfl, rfl, trivial⟩) (by decide) rfl ?_
  rintro x13_2 _ m1 gg H13 _
  clear H12
  replace H13 : Q8 a0 a1 (it (fun next1 s => Q8 a0 a1 next1 s) m1) x13_2 = some r := H13
  generalize hn1 : it (fun next1 s => Q8 a0 a1 next1 s) m1 = next1 at H13
  try dsimp only
  refine Jf ?_
  refine Jb ?_
  refine Ja rfl rfl rfl (Zc rfl rfl) ?_
  refine Jg ?_
  refine Jf ?_
  refine Qd (b := (decide (x13_2 < (a0.length : Int)))) rfl (fun hb => ?_) (fun hb => ?_)
  ·have H14 := Jp hb H13; clear H13
   refine Jt ?_
   refine Jf ?_
   refine J8 ?_
   refine Jf ?_
   refine Jb ?_
   refine Ja rfl rfl rfl (Je (v := .int .i64 x13_2) rfl) ?_
   refine Ja rfl rfl rfl (Jc (v := .int .i64 x13_2) rfl) ?_
   refine Jg ?_
   refine Jf ?_
   exact Xp (Kd.p :: Kd.p :: Kd.p :: Kd.d [] _ :: Kd.p :: Kd.p :: Kd.p :: Kd.d [] _ :: Kd.p :: []) 0 mixed (by
    refine Jm rfl rfl (Je (v := v0) rfl) ?_
    refine Jm rfl rfl (Je (v := .int .i64 x13_2) rfl) ?_
    have h_t18 := Qg H14
    have H15 := J6 H14
    refine Jm rfl rfl (X5 Tryz.underlying31 Tryz.sizeOf74 rfl rfl f0 h_t18) ?_
    refine d_read (fun w hF => Y4 (f := Jz) (i := x13_2) (sz := 2) (j := 0) (vs := [.int .i64 (val (Y6 a0 x13_2)).Num, .int .i64 (val (Y6 a0 x13_2)).Den]) Tryz.isAgg74 Tryz.sizeOf74 rfl rfl (f0.row (hw.now hF)) h_t18 rfl) rfl rfl ?_
    refine Jm rfl rfl (Je (v := v1) rfl) ?_
    refine Jm rfl rfl (Je (v := .int .i64 x13_2) rfl) ?_
    have h_t22 := Qg H15
    have H16 := J6 H15
    refine Jm rfl rfl (X5 Tryz.underlying31 Tryz.sizeOf74 rfl rfl f1 h_t22) ?_
    refine d_read (fun w hF => Y4 (f := Jz) (i := x13_2) (sz := 2) (j := 0) (vs := [.int .i64 (val (Y6 a1 x13_2)).Num, .int .i64 (val (Y6 a1 x13_2)).Den]) Tryz.isAgg74 Tryz.sizeOf74 rfl rfl (f1.row (hw.now hF)) h_t22 rfl) rfl rfl ?_
    refine Jm rfl rfl (r_neqA (xs := #[.int .i64 (val (Y6 a0 x13_2)).Num, .int .i64 (val (Y6 a0 x13_2)).Den]) (ys := #[.int .i64 (val (Y6 a1 x13_2)).Num, .int .i64 (val (Y6 a1 x13_2)).Den]) Tryz.eqGuardType74 (fun w => run_eq_tag_Ratio w (val (Y6 a0 x13_2)) (val (Y6 a1 x13_2))) rfl rfl) ?_
    refine Zh ?_
    refine Qd (b := (!(Ja1 (val (Y6 a0 x13_2)) (val (Y6 a1 x13_2))))) rfl (fun hb => ?_) (fun hb => ?_)
    ·have H17 := Jp hb H16; clear H16
     refine Jf ?_
     refine Jb ?_
     refine Ja rfl rfl rfl (Jc (v := .bool false) rfl) ?_
     refine Jg ?_
     refine Jx ?_
     obtain rfl := Option.some.inj H17
     refine Qn (v := .bool false) rfl rfl (Yh rfl)
    ·have H18 := Jq hb H16; clear H16
     refine Jt ?_
     refine Jb ?_
     obtain ⟨t25, h_t25, H19⟩ := Jh H18; clear H18
     refine Ja rfl rfl rfl (Qe rfl rfl h_t25) ?_
     refine Ja rfl rfl rfl (Je (v := .int .i64 t25) rfl) ?_
     refine Jg ?_
     refine Jn t25 () m1 [] (by exact ⟨rfl, rfl, rfl, rfl, trivial⟩) (by decide) (by kernel_rfl) (by exact ⟨(by subst hn1; exact H19), trivial⟩) (Nat.lt_succ_self _)
    ) (by kernel_rfl)
  ·have H20 := Jq hb H13; clear H13
   refine X3 ?_
   refine Jf ?_
   refine Jb ?_
   refine Ja rfl rfl rfl (Jc (v := .bool true) rfl) ?_
   refine Jg ?_
   refine Jx ?_
   obtain rfl := Option.some.inj H20
   refine Qn (v := .bool true) rfl rfl (Yh rfl)
theorem k182_b {self : ((List T_tag_Entry) × (List T_tag_Entry)) → Option (Bool)} (ih : ∀ {a0 : (List T_tag_Entry)} {v0 : Value} {a1 : (List T_tag_Entry)} {v1 : Value} {r : Bool} {w : World} {h : Qj} (hw : Know h w Vi) (f0 : FrN h 6 v0 g_tag_Entry a0) (f1 : FrN h 6 v1 g_tag_Entry a1) (_ : self (a0, a1) = some r), Does Tryz.prog 138 (List.toArray [v0, v1]) w (fun v w' => v = (.bool r) ∧ Grow w w')) {a0 : T_tag_Value} {v0_2 : Value} {v0_3 : Value} {v0_4 : Value} {a1 : T_tag_Value} {v1_2 : Value} {v1_3 : Value} {v1_4 : Value} {r : Bool} {w : World} {h : Qj} (hw : Know h w Vi) (f0_2 : FrS h 1 v0_2 (a0.Ints.map Xc)) (f0_3 : FrS h 2 v0_3 (a0.Ratios.map Jz)) (f0_4 : FrN h 6 v0_4 g_tag_Entry a0.Entries) (f1_2 : FrS h 1 v1_2 (a1.Ints.map Xc)) (f1_3 : FrS h 2 v1_3 (a1.Ratios.map Jz)) (f1_4 : FrN h 6 v1_4 g_tag_Entry a1.Entries) (H : Ja3 self a0 a1 = some r) : Does Tryz.prog 182 (List.toArray [.agg #[.int .i64 a0.Kind, Jv a0.Text, v0_2, v0_3, v0_4], .agg #[.int .i64 a1.Kind, Jv a1.Text, v1_2, v1_3, v1_4]]) w (fun v w' => v = (.bool r) ∧ Grow w w') := by
 refine enter (n := 38) Tryz.func182 rfl rfl rfl Vi [] (Sat.nil _ _) ?_
 refine Jf ?_
 refine Jb ?_
 refine U4 (cs := [.int .i64 a0.Kind, Jv a0.Text, v0_2, v0_3, v0_4]) rfl rfl rfl rfl (fun b2 => ?_)
 refine U4 (cs := [.int .i64 a1.Kind, Jv a1.Text, v1_2, v1_3, v1_4]) rfl rfl rfl rfl (fun b3 => ?_)
 refine Ja rfl rfl rfl (Jc (v := .bool false) rfl) ?_
 refine Jg ?_
 refine Jf ?_
 refine Jb ?_
 refine Ja rfl rfl rfl (Jk Tryz.runUnderlying38 rfl Tryz.sizeOf3 rfl rfl) ?_
 refine Js (i := 0) (v := .int .i64 a0.Kind) Tryz.isAgg3 rfl rfl rfl rfl rfl ?_
 refine Ja rfl rfl rfl (Jk Tryz.runUnderlying38 rfl Tryz.sizeOf3 rfl rfl) ?_
 refine Js (i := 1) (v := .int .i64 a1.Kind) Tryz.isAgg3 rfl rfl rfl rfl rfl ?_
 refine Ja rfl rfl rfl (Q0 rfl rfl) ?_
 refine Ja rfl rfl rfl (Je (v := .bool (decide (a0.Kind = a1.Kind))) rfl) ?_
 refine split (fun hb => ?_) (fun hb => ?_)
 ·have H12 := Jp hb H; clear H
  refine Ja rfl rfl rfl (Jk Tryz.runUnderlying38 rfl Tryz.sizeOf9 rfl rfl) ?_
  refine Js (i := 0) (v := Jv a0.Text) Tryz.isAgg9 rfl rfl rfl rfl rfl ?_
  refine Ja rfl rfl rfl (Jk Tryz.runUnderlying38 rfl Tryz.sizeOf9 rfl rfl) ?_
  refine Js (i := 1) (v := Jv a1.Text) Tryz.isAgg9 rfl rfl rfl rfl rfl ?_
  refine Ja rfl rfl rfl (r_eqlT rfl rfl) ?_
  refine Ja rfl rfl rfl (J9 (v := .bool (decide (a0.Text = a1.Text))) rfl rfl) ?_
  refine Ja rfl rfl rfl (Je (v := .bool (decide (a0.Text = a1.Text))) rfl) ?_
  refine split (fun hb => ?_) (fun hb => ?_)
  ·have H13 := Jp hb H12; clear H12
   refine Ja rfl rfl rfl (Jk Tryz.runUnderlying38 rfl Tryz.sizeOf30 rfl rfl) ?_
   refine Js (i := 0) (v := v0_2) Tryz.isAgg30 rfl rfl rfl rfl rfl ?_
   refine Ja rfl rfl rfl (Jk Tryz.runUnderlying38 rfl Tryz.sizeOf30 rfl rfl) ?_
   refine Js (i := 1) (v := v1_2) Tryz.isAgg30 rfl rfl rfl rfl rfl ?_
   obtain ⟨t22, h_t22, H14⟩ := Jh H13; clear H13
   refine Qw (fun w hF hS => k71 (J7 w) (f0_2.mono (hw.now hF)) (f1_2.mono (hw.now hF)) h_t22) Tryz.call71 rfl rfl rfl ?_
   refine Ja rfl rfl rfl (J9 (v := .bool t22) rfl rfl) ?_
   refine Ja rfl rfl rfl (Je (v := .bool t22) rfl) ?_
   refine split (fun hb => ?_) (fun hb => ?_)
   ·have H15 := Jp hb H14; clear H14
    refine Ja rfl rfl rfl (Jk Tryz.runUnderlying38 rfl Tryz.sizeOf31 rfl rfl) ?_
    refine Js (i := 0) (v := v0_3) Tryz.isAgg31 rfl rfl rfl rfl rfl ?_
    refine Ja rfl rfl rfl (Jk Tryz.runUnderlying38 rfl Tryz.sizeOf31 rfl rfl) ?_
    refine Js (i := 1) (v := v1_3) Tryz.isAgg31 rfl rfl rfl rfl rfl ?_
    obtain ⟨t29, h_t29, H16⟩ := Jh H15; clear H15
    refine Qw (fun w hF hS => k219 (J7 w) (f0_3.mono (hw.now hF)) (f1_3.mono (hw.now hF)) h_t29) Tryz.call219 rfl rfl rfl ?_
    refine Ja rfl rfl rfl (J9 (v := .bool t29) rfl rfl) ?_
    refine Ja rfl rfl rfl (Je (v := .bool t29) rfl) ?_
    refine split (fun hb => ?_) (fun hb => ?_)
    ·have H17 := Jp hb H16; clear H16
     refine Ja rfl rfl rfl (Jk Tryz.runUnderlying38 rfl Tryz.sizeOf36 rfl rfl) ?_
     refine Js (i := 0) (v := v0_4) Tryz.isAgg36 rfl rfl rfl rfl rfl ?_
     refine Ja rfl rfl rfl (Jk Tryz.runUnderlying38 rfl Tryz.sizeOf36 rfl rfl) ?_
     refine Js (i := 1) (v := v1_4) Tryz.isAgg36 rfl rfl rfl rfl rfl ?_
     obtain ⟨t36, h_t36, H18⟩ := Jh H17; clear H17
     refine Qw (fun w hF hS => ih (J7 w) (f0_4.mono (hw.now hF)) (f1_4.mono (hw.now hF)) h_t36) Tryz.call138 rfl rfl rfl ?_
     refine Ja rfl rfl rfl (J9 (v := .bool t36) rfl rfl) ?_
     refine Ja rfl rfl rfl (Jc (v := .bool t36) rfl) ?_
     refine Jg ?_
     refine Jx ?_
     obtain rfl := Option.some.inj H18
     refine Qn (v := .bool t36) rfl rfl (Yh rfl)
    ·have H19 := Jq hb H16; clear H16
     refine Ji rfl rfl rfl ?_
     refine Ji rfl rfl rfl ?_
     refine Ji rfl rfl rfl ?_
     refine Ji rfl rfl rfl ?_
     refine Ji rfl rfl rfl ?_
     refine Ja rfl rfl rfl (Qf (v := .bool false) rfl rfl) ?_
     refine Ja rfl rfl rfl (Jc (v := .bool false) rfl) ?_
     refine Jg ?_
     refine Jx ?_
     obtain rfl := Option.some.inj H19
     refine Qn (v := .bool false) rfl rfl (Yh rfl)
   ·have H20 := Jq hb H14; clear H14
    refine Ji rfl rfl rfl ?_
    refine Ji rfl rfl rfl ?_
    refine Ji rfl rfl rfl ?_
    refine Ji rfl rfl rfl ?_
    refine Ji rfl rfl rfl ?_
    refine Ja rfl rfl rfl (Qf (v := .bool false) rfl rfl) ?_
    refine Ja rfl rfl rfl (Je (v := .bool false) rfl) ?_
    refine Ji rfl rfl rfl ?_
    refine Ji rfl rfl rfl ?_
    refine Ji rfl rfl rfl ?_
    refine Ji rfl rfl rfl ?_
    refine Ji rfl rfl rfl ?_
    refine Ja rfl rfl rfl (Qf (v := .bool false) rfl rfl) ?_
    refine Ja rfl rfl rfl (Jc (v := .bool false) rfl) ?_
    refine Jg ?_
    refine Jx ?_
    obtain rfl := Option.some.inj H20
    refine Qn (v := .bool false) rfl rfl (Yh rfl)
  ·have H21 := Jq hb H12; clear H12
   refine Ji rfl rfl rfl ?_
   refine Ji rfl rfl rfl ?_
   refine Ji rfl rfl rfl ?_
   refine Ji rfl rfl rfl ?_
   refine Ji rfl rfl rfl ?_
   refine Ja rfl rfl rfl (Qf (v := .bool false) rfl rfl) ?_
   refine Ja rfl rfl rfl (Je (v := .bool false) rfl) ?_
   refine Ji rfl rfl rfl ?_
   refine Ji rfl rfl rfl ?_
   refine Ji rfl rfl rfl ?_
   refine Ji rfl rfl rfl ?_
   refine Ji rfl rfl rfl ?_
   refine Ja rfl rfl rfl (Qf (v := .bool false) rfl rfl) ?_
   refine Ja rfl rfl rfl (Je (v := .bool false) rfl) ?_
   refine Ji rfl rfl rfl ?_
   refine Ji rfl rfl rfl ?_
   refine Ji rfl rfl rfl ?_
   refine Ji rfl rfl rfl ?_
   refine Ji rfl rfl rfl ?_
   refine Ja rfl rfl rfl (Qf (v := .bool false) rfl rfl) ?_
   refine Ja rfl rfl rfl (Jc (v := .bool false) rfl) ?_
   refine Jg ?_
   refine Jx ?_
   obtain rfl := Option.some.inj H21
   refine Qn (v := .bool false) rfl rfl (Yh rfl)
 ·have H22 := Jq hb H; clear H
  refine Ji rfl rfl rfl ?_
  refine Ji rfl rfl rfl ?_
  refine Ji rfl rfl rfl ?_
  refine Ji rfl rfl rfl ?_
  refine Ji rfl rfl rfl ?_
  refine Ja rfl rfl rfl (Qf (v := .bool false) rfl rfl) ?_
  refine Ja rfl rfl rfl (Je (v := .bool false) rfl) ?_
  refine Ji rfl rfl rfl ?_
  refine Ji rfl rfl rfl ?_
  refine Ji rfl rfl rfl ?_
  refine Ji rfl rfl rfl ?_
  refine Ji rfl rfl rfl ?_
  refine Ja rfl rfl rfl (Qf (v := .bool false) rfl rfl) ?_
  refine Ja rfl rfl rfl (Je (v := .bool false) rfl) ?_
  refine Ji rfl rfl rfl ?_
  refine Ji rfl rfl rfl ?_
  refine Ji rfl rfl rfl ?_
  refine Ji rfl rfl rfl ?_
  refine Ji rfl rfl rfl ?_
  refine Ja rfl rfl rfl (Qf (v := .bool false) rfl rfl) ?_
  refine Ja rfl rfl rfl (Je (v := .bool false) rfl) ?_
  refine Ji rfl rfl rfl ?_
  refine Ji rfl rfl rfl ?_
  refine Ji rfl rfl rfl ?_
  refine Ji rfl rfl rfl ?_
  refine Ji rfl rfl rfl ?_
  refine Ja rfl rfl rfl (Qf (v := .bool false) rfl rfl) ?_
  refine Ja rfl rfl rfl (Jc (v := .bool false) rfl) ?_
  refine Jg ?_
  refine Jx ?_
  obtain rfl := Option.some.inj H22
  refine Qn (v := .bool false) rfl rfl (Yh rfl)
theorem k181_b {self : ((List T_tag_Entry) × (List T_tag_Entry)) → Option (Bool)} (ih : ∀ {a0 : (List T_tag_Entry)} {v0 : Value} {a1 : (List T_tag_Entry)} {v1 : Value} {r : Bool} {w : World} {h : Qj} (hw : Know h w Vi) (f0 : FrN h 6 v0 g_tag_Entry a0) (f1 : FrN h 6 v1 g_tag_Entry a1) (_ : self (a0, a1) = some r), Does Tryz.prog 138 (List.toArray [v0, v1]) w (fun v w' => v = (.bool r) ∧ Grow w w')) {a0 : T_tag_Entry} {v0_1_2 : Value} {v0_1_3 : Value} {v0_1_4 : Value} {a1 : T_tag_Entry} {v1_1_2 : Value} {v1_1_3 : Value} {v1_1_4 : Value} {r : Bool} {w : World} {h : Qj} (hw : Know h w Vi) (f0_1_2 : FrS h 1 v0_1_2 (a0.Value.Ints.map Xc)) (f0_1_3 : FrS h 2 v0_1_3 (a0.Value.Ratios.map Jz)) (f0_1_4 : FrN h 6 v0_1_4 g_tag_Entry a0.Value.Entries) (f1_1_2 : FrS h 1 v1_1_2 (a1.Value.Ints.map Xc)) (f1_1_3 : FrS h 2 v1_1_3 (a1.Value.Ratios.map Jz)) (f1_1_4 : FrN h 6 v1_1_4 g_tag_Entry a1.Value.Entries) (H : Ja4 self a0 a1 = some r) : Does Tryz.prog 181 (List.toArray [.agg #[.int .i64 a0.Tag, .int .i64 a0.Value.Kind, Jv a0.Value.Text, v0_1_2, v0_1_3, v0_1_4], .agg #[.int .i64 a1.Tag, .int .i64 a1.Value.Kind, Jv a1.Value.Text, v1_1_2, v1_1_3, v1_1_4]]) w (fun v w' => v = (.bool r) ∧ Grow w w') := by
 refine enter (n := 17) Tryz.func181 rfl rfl rfl Vi [] (Sat.nil _ _) ?_
 refine Jf ?_
 refine Jb ?_
 refine U4 (cs := [.int .i64 a0.Tag, .int .i64 a0.Value.Kind, Jv a0.Value.Text, v0_1_2, v0_1_3, v0_1_4]) rfl rfl rfl rfl (fun b2 => ?_)
 refine U4 (cs := [.int .i64 a1.Tag, .int .i64 a1.Value.Kind, Jv a1.Value.Text, v1_1_2, v1_1_3, v1_1_4]) rfl rfl rfl rfl (fun b3 => ?_)
 refine Ja rfl rfl rfl (Jc (v := .bool false) rfl) ?_
 refine Jg ?_
 refine Jf ?_
 refine Jb ?_
 refine Ja rfl rfl rfl (Jk Tryz.runUnderlying83 rfl Tryz.sizeOf3 rfl rfl) ?_
 refine Js (i := 0) (v := .int .i64 a0.Tag) Tryz.isAgg3 rfl rfl rfl rfl rfl ?_
 refine Ja rfl rfl rfl (Jk Tryz.runUnderlying83 rfl Tryz.sizeOf3 rfl rfl) ?_
 refine Js (i := 1) (v := .int .i64 a1.Tag) Tryz.isAgg3 rfl rfl rfl rfl rfl ?_
 refine Ja rfl rfl rfl (Q0 rfl rfl) ?_
 refine Ja rfl rfl rfl (Je (v := .bool (decide (a0.Tag = a1.Tag))) rfl) ?_
 refine split (fun hb => ?_) (fun hb => ?_)
 ·have H4 := Jp hb H; clear H
  refine Ja rfl rfl rfl (Jk Tryz.runUnderlying83 rfl Tryz.sizeOf38 rfl rfl) ?_
  refine Xr (i := 0) (vs := [.int .i64 a0.Value.Kind, Jv a0.Value.Text, v0_1_2, v0_1_3, v0_1_4]) Tryz.isAgg38 Tryz.sizeOf38 rfl rfl rfl rfl rfl ?_
  refine Ja rfl rfl rfl (Jk Tryz.runUnderlying83 rfl Tryz.sizeOf38 rfl rfl) ?_
  refine Xr (i := 1) (vs := [.int .i64 a1.Value.Kind, Jv a1.Value.Text, v1_1_2, v1_1_3, v1_1_4]) Tryz.isAgg38 Tryz.sizeOf38 rfl rfl rfl rfl rfl ?_
  obtain ⟨t15, h_t15, H5⟩ := Jh H4; clear H4
  refine Qw (fun w hF hS => k182_b ih (J7 w) (f0_1_2.mono (hw.now hF)) (f0_1_3.mono (hw.now hF)) (f0_1_4.mono (hw.now hF)) (f1_1_2.mono (hw.now hF)) (f1_1_3.mono (hw.now hF)) (f1_1_4.mono (hw.now hF)) h_t15) Tryz.call182 rfl rfl rfl ?_
  refine Ja rfl rfl rfl (J9 (v := .bool t15) rfl rfl) ?_
  refine Ja rfl rfl rfl (Jc (v := .bool t15) rfl) ?_
  refine Jg ?_
  refine Jx ?_
  obtain rfl := Option.some.inj H5
  refine Qn (v := .bool t15) rfl rfl (Yh rfl)
 ·have H6 := Jq hb H; clear H
  refine Ji rfl rfl rfl ?_
  refine Ji rfl rfl rfl ?_
  refine Ji rfl rfl rfl ?_
  refine Ji rfl rfl rfl ?_
  refine Ji rfl rfl rfl ?_
  refine Ja rfl rfl rfl (Qf (v := .bool false) rfl rfl) ?_
  refine Ja rfl rfl rfl (Jc (v := .bool false) rfl) ?_
  refine Jg ?_
  refine Jx ?_
  obtain rfl := Option.some.inj H6
  refine Qn (v := .bool false) rfl rfl (Yh rfl)
theorem k138_it (mm : Nat) : ∀ {a0 : (List T_tag_Entry)} {v0 : Value} {a1 : (List T_tag_Entry)} {v1 : Value} {r : Bool} {w : World} {h : Qj} (hw : Know h w Vi) (f0 : FrN h 6 v0 g_tag_Entry a0) (f1 : FrN h 6 v1 g_tag_Entry a1) (H : it (fun (self : ((List T_tag_Entry) × (List T_tag_Entry)) → Option (Bool)) (s : (List T_tag_Entry) × (List T_tag_Entry)) => Yb self s.1 s.2) mm (a0, a1) = some r), Does Tryz.prog 138 (List.toArray [v0, v1]) w (fun v w' => v = (.bool r) ∧ Grow w w') := by
 induction mm with
 | zero => intros; rename_i H; exact absurd H (by simp [it])
 | succ mm ih =>
  intro a0 v0 a1 v1 r w h hw f0 f1 H
  replace H : Yb (it (fun (self : ((List T_tag_Entry) × (List T_tag_Entry)) → Option (Bool)) (s : (List T_tag_Entry) × (List T_tag_Entry)) => Yb self s.1 s.2) mm) a0 a1 = some r := H
  generalize it (fun (self : ((List T_tag_Entry) × (List T_tag_Entry)) → Option (Bool)) (s : (List T_tag_Entry) × (List T_tag_Entry)) => Yb self s.1 s.2) mm = self at H ih
  refine enter (n := 8) Tryz.func138 rfl rfl rfl Vi [] (Sat.nil _ _) ?_
  refine Jf ?_
  refine Jb ?_
  refine Ja rfl rfl rfl (Jc (v := .bool false) rfl) ?_
  refine Jg ?_
  refine Jf ?_
  refine Jb ?_
  refine Ja rfl rfl rfl (Je (v := v0) rfl) ?_
  refine Ja rfl rfl rfl (Je (v := v1) rfl) ?_
  obtain ⟨t7, h_t7, H2⟩ := Jh H; clear H
  refine Qw (fun w hF hS => k180 (J7 w) (f0.mono (hw.now hF)) (f1.mono (hw.now hF)) (FnH.mk ⟨181, #[], #[], rfl, Tryz.call181, fun args2 post2 w2 hk2 hR2 => by obtain ⟨a0_, v0_1_2_, v0_1_3_, v0_1_4_, a1_, v1_1_2_, v1_1_3_, v1_1_4_, r_, fa0_1_2_, fa0_1_3_, fa0_1_4_, fa1_1_2_, fa1_1_3_, fa1_1_4_, rfl, H_, rfl⟩ := hR2; exact k181_b ih (J7 w2) fa0_1_2_ fa0_1_3_ fa0_1_4_ fa1_1_2_ fa1_1_3_ fa1_1_4_ H_⟩) h_t7) Tryz.call180 rfl rfl rfl ?_
  refine Ja rfl rfl rfl (Jc (v := .bool t7) rfl) ?_
  refine Jg ?_
  refine Jx ?_
  obtain rfl := Option.some.inj H2
  refine Qn (v := .bool t7) rfl rfl (Yh rfl)
theorem k138 {a0 : (List T_tag_Entry)} {v0 : Value} {a1 : (List T_tag_Entry)} {v1 : Value} {r : Bool} {w : World} {h : Qj} (hw : Know h w Vi) (f0 : FrN h 6 v0 g_tag_Entry a0) (f1 : FrN h 6 v1 g_tag_Entry a1) (H : R_SameDir a0 a1 = some r) : Does Tryz.prog 138 (List.toArray [v0, v1]) w (fun v w' => v = (.bool r) ∧ Grow w w') := by
 obtain ⟨mm, hm⟩ := fix_it (show Z3 (fun (self : ((List T_tag_Entry) × (List T_tag_Entry)) → Option (Bool)) (s : (List T_tag_Entry) × (List T_tag_Entry)) => Yb self s.1 s.2) (a0, a1) = some r from H)
 exact k138_it mm hw f0 f1 hm
theorem k68 {a0 : T_tag_File} {v0_1 : Value} {a1 : T_tag_File} {v1_1 : Value} {r : Bool} {w : World} {h : Qj} (hw : Know h w Vi) (f0_1 : FrN h 1 v0_1 gs_tag_Entry a0.Dirs) (f1_1 : FrN h 1 v1_1 gs_tag_Entry a1.Dirs) (H : Uy a0 a1 = some r) : Does Tryz.prog 68 (List.toArray [.agg #[.bool a0.Big, v0_1], .agg #[.bool a1.Big, v1_1]]) w (fun v w' => v = (.bool r) ∧ Grow w w') := by
 refine enter (n := 17) Tryz.func68 rfl rfl rfl Vi [] (Sat.nil _ _) ?_
 refine Jf ?_
 refine Jb ?_
 refine U4 (cs := [.bool a0.Big, v0_1]) rfl rfl rfl rfl (fun b2 => ?_)
 refine U4 (cs := [.bool a1.Big, v1_1]) rfl rfl rfl rfl (fun b3 => ?_)
 refine Ja rfl rfl rfl (Jc (v := .bool false) rfl) ?_
 refine Jg ?_
 refine Jf ?_
 refine Jb ?_
 refine Ja rfl rfl rfl (Jk Tryz.runUnderlying24 rfl Tryz.sizeOf4 rfl rfl) ?_
 refine Js (i := 0) (v := .bool a0.Big) Tryz.isAgg4 rfl rfl rfl rfl rfl ?_
 refine Ja rfl rfl rfl (Jk Tryz.runUnderlying24 rfl Tryz.sizeOf4 rfl rfl) ?_
 refine Js (i := 1) (v := .bool a1.Big) Tryz.isAgg4 rfl rfl rfl rfl rfl ?_
 refine Ja rfl rfl rfl (r_eqlB Tryz.underlying4 rfl rfl) ?_
 refine Ja rfl rfl rfl (Je (v := .bool (decide (a0.Big = a1.Big))) rfl) ?_
 refine split (fun hb => ?_) (fun hb => ?_)
 ·have H4 := Jp hb H; clear H
  refine Ja rfl rfl rfl (Jk Tryz.runUnderlying24 rfl Tryz.sizeOf22 rfl rfl) ?_
  refine Js (i := 0) (v := v0_1) Tryz.isAgg22 rfl rfl rfl rfl rfl ?_
  refine Ja rfl rfl rfl (Jk Tryz.runUnderlying24 rfl Tryz.sizeOf22 rfl rfl) ?_
  refine Js (i := 1) (v := v1_1) Tryz.isAgg22 rfl rfl rfl rfl rfl ?_
  obtain ⟨t15, h_t15, H5⟩ := Jh H4; clear H4
  refine Qw (fun w hF hS => k137 (J7 w) (f0_1.mono (hw.now hF)) (f1_1.mono (hw.now hF)) (FnH.mk ⟨138, #[], #[], rfl, Tryz.call138, fun args2 post2 w2 hk2 hR2 => by obtain ⟨a0_, v0_, a1_, v1_, r_, fa0_, fa1_, rfl, H_, rfl⟩ := hR2; exact k138 (J7 w2) fa0_ fa1_ H_⟩) h_t15) Tryz.call137 rfl rfl rfl ?_
  refine Ja rfl rfl rfl (J9 (v := .bool t15) rfl rfl) ?_
  refine Ja rfl rfl rfl (Jc (v := .bool t15) rfl) ?_
  refine Jg ?_
  refine Jx ?_
  obtain rfl := Option.some.inj H5
  refine Qn (v := .bool t15) rfl rfl (Yh rfl)
 ·have H6 := Jq hb H; clear H
  refine Ji rfl rfl rfl ?_
  refine Ji rfl rfl rfl ?_
  refine Ji rfl rfl rfl ?_
  refine Ji rfl rfl rfl ?_
  refine Ji rfl rfl rfl ?_
  refine Ja rfl rfl rfl (Qf (v := .bool false) rfl rfl) ?_
  refine Ja rfl rfl rfl (Jc (v := .bool false) rfl) ?_
  refine Jg ?_
  refine Jx ?_
  obtain rfl := Option.some.inj H6
  refine Qn (v := .bool false) rfl rfl (Yh rfl)
theorem k23 {a0 : T_tag_File} {v0_1 : Value} {a1 : Int} {a2 : T_tag_File} {v2_1 : Value} {a3 : Int} {r : Bool} {w : World} {h : Qj} (hw : Know h w Vi) (f0_1 : FrN h 1 v0_1 gs_tag_Entry a0.Dirs) (f2_1 : FrN h 1 v2_1 gs_tag_Entry a2.Dirs) (H : Law_file a0 a1 a2 a3 = some r) : Does Tryz.prog 23 (List.toArray [.agg #[.bool a0.Big, v0_1], .int .i64 a1, .agg #[.bool a2.Big, v2_1], .int .i64 a3]) w (fun v w' => v = (.bool r) ∧ Grow w w') := by
 refine enter (n := 20) Tryz.func23 rfl rfl rfl Vi [] (Sat.nil _ _) ?_
 refine Jf ?_
 refine Jb ?_
 refine U4 (cs := [.bool a0.Big, v0_1]) rfl rfl rfl rfl (fun b2 => ?_)
 refine U4 (cs := [.bool a2.Big, v2_1]) rfl rfl rfl rfl (fun b3 => ?_)
 refine Ja rfl rfl rfl (Jc (v := .bool false) rfl) ?_
 refine Jg ?_
 refine Qz (r := r) (σ := Bool × (List (List T_tag_Entry))) (τ := Value) (fun s => Jaw a0 a1 a3 s.1 s.2) (fun s t => [(1, .int .i64 a1), (3, .int .i64 a3), (4, .pointer (some ⟨b2, 0, none⟩)), (6, .pointer (some ⟨b3, 0, none⟩))]) (fun s t => [Jo b2 [.bool a0.Big, v0_1] 24, Jo b3 [.bool s.1, t] 24]) (fun s t => FrN h 1 t gs_tag_Entry s.2) ?_ ?_
 ·refine Jf ?_
  refine Jb ?_
  refine Ja rfl rfl rfl (Je (v := .int .i64 a3) rfl) ?_
  refine Ja rfl rfl rfl (Va rfl rfl) ?_
  refine Jg ?_
  refine Qd (b := (decide (a3 ≠ 0))) rfl (fun hb => ?_) (fun hb => ?_)
  ·have H11 := Jp hb H; clear H
   refine Jb ?_
   refine Ja rfl rfl rfl (Yi (pl := #[(0, 1), (1, 1)]) (ps := []) (cells := #[.bool false, .slice none 0 0]) Tryz.zeroValue24 Tryz.runUnderlying24 (fun w => by kernel_rfl) rfl rfl) ?_
   refine Qc (i := 1) (vs := [.bool false, .slice none 0 0]) (cs' := [.bool false, .slice none 0 0]) Tryz.sizeOf24 rfl rfl rfl rfl rfl rfl rfl rfl rfl ?_
   refine Jg ?_
   refine Jn (false, ([] : (List (List T_tag_Entry)))) (.slice none 0 0) 0 [0, 1] (by exact ⟨rfl, rfl, rfl, rfl, trivial⟩) (by decide) (by kernel_rfl) (by exact ⟨H11, (FrN.nil _ _ _)⟩) (Nat.lt_succ_self _)
  ·have H12 := Jq hb H; clear H
   refine Jt ?_
   refine Jn (a2.Big, a2.Dirs) v2_1 0 [0, 1] (by exact ⟨rfl, rfl, rfl, rfl, trivial⟩) (by decide) (by kernel_rfl) (by exact ⟨H12, f2_1⟩) (Nat.lt_succ_self _)
 ·rintro ⟨m, m_2⟩ gv gg H7 gf
  replace H7 : Jaw a0 a1 a3 m m_2 = some r := H7
  try dsimp only
  refine Jf ?_
  refine Jb ?_
  refine Xr (i := 0) (vs := [.bool a0.Big, v0_1]) Tryz.isAgg24 Tryz.sizeOf24 rfl rfl rfl rfl rfl ?_
  refine Xr (i := 1) (vs := [.bool m, gv]) Tryz.isAgg24 Tryz.sizeOf24 rfl rfl rfl rfl rfl ?_
  obtain ⟨t14, h_t14, H8⟩ := Jh H7; clear H7
  refine Qw (fun w hF hS => k68 (J7 w) (f0_1.mono (hw.now hF)) (gf.mono (hw.now hF)) h_t14) Tryz.call68 rfl rfl rfl ?_
  refine Ja rfl rfl rfl (Je (v := .bool t14) rfl) ?_
  refine split (fun hb => ?_) (fun hb => ?_)
  ·have H9 := Jp hb H8; clear H8
   refine Ja rfl rfl rfl (Je (v := .int .i64 a1) rfl) ?_
   refine Ja rfl rfl rfl (Je (v := .int .i64 a3) rfl) ?_
   refine Ja rfl rfl rfl (Q0 rfl rfl) ?_
   refine Ja rfl rfl rfl (J9 (v := .bool (decide (a1 = a3))) rfl rfl) ?_
   refine Ja rfl rfl rfl (Jc (v := .bool (decide (a1 = a3))) rfl) ?_
   refine Jg ?_
   refine Jx ?_
   obtain rfl := Option.some.inj H9
   refine Qn (v := .bool (decide (a1 = a3))) rfl rfl (Yh rfl)
  ·have H10 := Jq hb H8; clear H8
   refine Ji rfl rfl rfl ?_
   refine Ji rfl rfl rfl ?_
   refine Ji rfl rfl rfl ?_
   refine Ja rfl rfl rfl (Qf (v := .bool false) rfl rfl) ?_
   refine Ja rfl rfl rfl (Jc (v := .bool false) rfl) ?_
   refine Jg ?_
   refine Jx ?_
   obtain rfl := Option.some.inj H10
   refine Qn (v := .bool false) rfl rfl (Yh rfl)
theorem k69 {a0 : (List T_tag_Span)} {v0 : Value} {a1 : (List T_tag_Span)} {v1 : Value} {r : Bool} {w : World} {h : Qj} (hw : Know h w Vi) (f0 : FrS h 2 v0 (a0.map Jj)) (f1 : FrS h 2 v1 (a1.map Jj)) (H : Wc a0 a1 = some r) : Does Tryz.prog 69 (List.toArray [v0, v1]) w (fun v w' => v = (.bool r) ∧ Grow w w') := by
 refine enter (n := 26) Tryz.func69 rfl rfl rfl Vi [] (Sat.nil _ _) ?_
 refine Jf ?_
 refine Jb ?_
 refine Ja rfl rfl rfl (Jc (v := .bool false) rfl) ?_
 refine Jg ?_
 refine Jf ?_
 refine Jf ?_
 refine Jb ?_
 refine Ja rfl rfl rfl (Je (v := v0) rfl) ?_
 refine Ja rfl rfl rfl (Vs Tryz.underlying48 rfl f0 rfl) ?_
 refine Ja rfl rfl rfl (Je (v := v1) rfl) ?_
 refine Ja rfl rfl rfl (Vs Tryz.underlying48 rfl f1 rfl) ?_
 refine Ja rfl rfl rfl (Va rfl rfl) ?_
 refine Jg ?_
 refine Qd (b := (decide ((a0.length : Int) ≠ (a1.length : Int)))) rfl (fun hb => ?_) (fun hb => ?_)
 ·have H11 := Jp hb H; clear H
  refine Jf ?_
  refine Jb ?_
  refine Ja rfl rfl rfl (Jc (v := .bool false) rfl) ?_
  refine Jg ?_
  refine Jx ?_
  obtain rfl := Option.some.inj H11
  refine Qn (v := .bool false) rfl rfl (Yh rfl)
 ·have H12 := Jq hb H; clear H
  refine Jt ?_
  refine Jf ?_
  refine Jf ?_
  refine Jb ?_
  refine Ja rfl rfl rfl (Je (v := v0) rfl) ?_
  refine Ja rfl rfl rfl (Vs Tryz.underlying48 rfl f0 rfl) ?_
  refine Ja rfl rfl rfl (Je (v := .int .i64 0) rfl) ?_
  refine Jg ?_
  refine J8 ?_
  refine Z2 (σ := Int) (τ := Unit) (fun next1 s => Xf a0 a1 next1 s) (fun s t => [(0, v0), (1, v1), (12, .int .i64 (a0.length : Int)), (13, .int .i64 s)]) (fun s t => []) (fun s t => True) 0 () [] H12 (by exact trivial) (by exact ⟨rfl, rfl, rfl, rfl, trivial⟩) (by decide) rfl ?_
  rintro x13_2 _ m1 gg H13 _
  clear H12
  replace H13 : Xf a0 a1 (it (fun next1 s => Xf a0 a1 next1 s) m1) x13_2 = some r := H13
  generalize hn1 : it (fun next1 s => Xf a0 a1 next1 s) m1 = next1 at H13
  try dsimp only
  refine Jf ?_
  refine Jb ?_
  refine Ja rfl rfl rfl (Zc rfl rfl) ?_
  refine Jg ?_
  refine Jf ?_
  refine Qd (b := (decide (x13_2 < (a0.length : Int)))) rfl (fun hb => ?_) (fun hb => ?_)
  ·have H14 := Jp hb H13; clear H13
   refine Jt ?_
   refine Jf ?_
   refine J8 ?_
   refine Jf ?_
   refine Jb ?_
   refine Ja rfl rfl rfl (Je (v := .int .i64 x13_2) rfl) ?_
   refine Ja rfl rfl rfl (Jc (v := .int .i64 x13_2) rfl) ?_
   refine Jg ?_
   refine Jf ?_
   exact Xp (Kd.p :: Kd.p :: Kd.p :: Kd.d [] _ :: Kd.p :: Kd.p :: Kd.p :: Kd.d [] _ :: Kd.p :: []) 0 mixed (by
    refine Jm rfl rfl (Je (v := v0) rfl) ?_
    refine Jm rfl rfl (Je (v := .int .i64 x13_2) rfl) ?_
    have h_t18 := Qg H14
    have H15 := J6 H14
    refine Jm rfl rfl (X5 Tryz.underlying48 Tryz.sizeOf56 rfl rfl f0 h_t18) ?_
    refine d_read (fun w hF => Y4 (f := Jj) (i := x13_2) (sz := 2) (j := 0) (vs := [.int .i64 (val (Y6 a0 x13_2)).From, .int .i64 (val (Y6 a0 x13_2)).To]) Tryz.isAgg56 Tryz.sizeOf56 rfl rfl (f0.row (hw.now hF)) h_t18 rfl) rfl rfl ?_
    refine Jm rfl rfl (Je (v := v1) rfl) ?_
    refine Jm rfl rfl (Je (v := .int .i64 x13_2) rfl) ?_
    have h_t22 := Qg H15
    have H16 := J6 H15
    refine Jm rfl rfl (X5 Tryz.underlying48 Tryz.sizeOf56 rfl rfl f1 h_t22) ?_
    refine d_read (fun w hF => Y4 (f := Jj) (i := x13_2) (sz := 2) (j := 0) (vs := [.int .i64 (val (Y6 a1 x13_2)).From, .int .i64 (val (Y6 a1 x13_2)).To]) Tryz.isAgg56 Tryz.sizeOf56 rfl rfl (f1.row (hw.now hF)) h_t22 rfl) rfl rfl ?_
    refine Jm rfl rfl (r_neqA (xs := #[.int .i64 (val (Y6 a0 x13_2)).From, .int .i64 (val (Y6 a0 x13_2)).To]) (ys := #[.int .i64 (val (Y6 a1 x13_2)).From, .int .i64 (val (Y6 a1 x13_2)).To]) Tryz.eqGuardType56 (fun w => run_eq_tag_Span w (val (Y6 a0 x13_2)) (val (Y6 a1 x13_2))) rfl rfl) ?_
    refine Zh ?_
    refine Qd (b := (!(eq_tag_Span (val (Y6 a0 x13_2)) (val (Y6 a1 x13_2))))) rfl (fun hb => ?_) (fun hb => ?_)
    ·have H17 := Jp hb H16; clear H16
     refine Jf ?_
     refine Jb ?_
     refine Ja rfl rfl rfl (Jc (v := .bool false) rfl) ?_
     refine Jg ?_
     refine Jx ?_
     obtain rfl := Option.some.inj H17
     refine Qn (v := .bool false) rfl rfl (Yh rfl)
    ·have H18 := Jq hb H16; clear H16
     refine Jt ?_
     refine Jb ?_
     obtain ⟨t25, h_t25, H19⟩ := Jh H18; clear H18
     refine Ja rfl rfl rfl (Qe rfl rfl h_t25) ?_
     refine Ja rfl rfl rfl (Je (v := .int .i64 t25) rfl) ?_
     refine Jg ?_
     refine Jn t25 () m1 [] (by exact ⟨rfl, rfl, rfl, rfl, trivial⟩) (by decide) (by kernel_rfl) (by exact ⟨(by subst hn1; exact H19), trivial⟩) (Nat.lt_succ_self _)
    ) (by kernel_rfl)
  ·have H20 := Jq hb H13; clear H13
   refine X3 ?_
   refine Jf ?_
   refine Jb ?_
   refine Ja rfl rfl rfl (Jc (v := .bool true) rfl) ?_
   refine Jg ?_
   refine Jx ?_
   obtain rfl := Option.some.inj H20
   refine Qn (v := .bool true) rfl rfl (Yh rfl)
theorem k24 {a0 : (List T_tag_Span)} {v0 : Value} {a1 : Int} {a2 : (List T_tag_Span)} {v2 : Value} {a3 : Int} {r : Bool} {w : World} {h : Qj} (hw : Know h w Vi) (f0 : FrS h 2 v0 (a0.map Jj)) (f2 : FrS h 2 v2 (a2.map Jj)) (H : Vt a0 a1 a2 a3 = some r) : Does Tryz.prog 24 (List.toArray [v0, .int .i64 a1, v2, .int .i64 a3]) w (fun v w' => v = (.bool r) ∧ Grow w w') := by
 refine enter (n := 19) Tryz.func24 rfl rfl rfl Vi [] (Sat.nil _ _) ?_
 refine Jf ?_
 refine Jb ?_
 refine Ja rfl rfl rfl (Jc (v := .bool false) rfl) ?_
 refine Jg ?_
 refine Qz (r := r) (σ := (List T_tag_Span)) (τ := Value) (fun s => Yy a0 a1 a3 s) (fun s t => [(0, v0), (1, .int .i64 a1), (2, t), (3, .int .i64 a3)]) (fun s t => []) (fun s t => FrS h 2 t (s.map Jj)) ?_ ?_
 ·refine Jf ?_
  refine Jb ?_
  refine Ja rfl rfl rfl (Je (v := .int .i64 a3) rfl) ?_
  refine Ja rfl rfl rfl (Va rfl rfl) ?_
  refine Jg ?_
  refine Qd (b := (decide (a3 ≠ 0))) rfl (fun hb => ?_) (fun hb => ?_)
  ·have H11 := Jp hb H; clear H
   refine Jb ?_
   refine Ja rfl rfl rfl (Jc (v := .slice none 0 0) rfl) ?_
   refine Jg ?_
   refine Jn ([] : (List T_tag_Span)) (.slice none 0 0) 0 [] (by exact ⟨rfl, rfl, rfl, rfl, trivial⟩) (by decide) (by kernel_rfl) (by exact ⟨H11, (FrS.nil _ _)⟩) (Nat.lt_succ_self _)
  ·have H12 := Jq hb H; clear H
   refine Jt ?_
   refine Jn a2 v2 0 [] (by exact ⟨rfl, rfl, rfl, rfl, trivial⟩) (by decide) (by kernel_rfl) (by exact ⟨H12, f2⟩) (Nat.lt_succ_self _)
 ·rintro x2 gv gg H7 gf
  replace H7 : Yy a0 a1 a3 x2 = some r := H7
  try dsimp only
  refine Jf ?_
  refine Jb ?_
  refine Ja rfl rfl rfl (Je (v := v0) rfl) ?_
  refine Ja rfl rfl rfl (Je (v := gv) rfl) ?_
  obtain ⟨t13, h_t13, H8⟩ := Jh H7; clear H7
  refine Qw (fun w hF hS => k69 (J7 w) (f0.mono (hw.now hF)) (gf.mono (hw.now hF)) h_t13) Tryz.call69 rfl rfl rfl ?_
  refine Ja rfl rfl rfl (Je (v := .bool t13) rfl) ?_
  refine split (fun hb => ?_) (fun hb => ?_)
  ·have H9 := Jp hb H8; clear H8
   refine Ja rfl rfl rfl (Je (v := .int .i64 a1) rfl) ?_
   refine Ja rfl rfl rfl (Je (v := .int .i64 a3) rfl) ?_
   refine Ja rfl rfl rfl (Q0 rfl rfl) ?_
   refine Ja rfl rfl rfl (J9 (v := .bool (decide (a1 = a3))) rfl rfl) ?_
   refine Ja rfl rfl rfl (Jc (v := .bool (decide (a1 = a3))) rfl) ?_
   refine Jg ?_
   refine Jx ?_
   obtain rfl := Option.some.inj H9
   refine Qn (v := .bool (decide (a1 = a3))) rfl rfl (Yh rfl)
  ·have H10 := Jq hb H8; clear H8
   refine Ji rfl rfl rfl ?_
   refine Ji rfl rfl rfl ?_
   refine Ji rfl rfl rfl ?_
   refine Ja rfl rfl rfl (Qf (v := .bool false) rfl rfl) ?_
   refine Ja rfl rfl rfl (Jc (v := .bool false) rfl) ?_
   refine Jg ?_
   refine Jx ?_
   obtain rfl := Option.some.inj H10
   refine Qn (v := .bool false) rfl rfl (Yh rfl)
theorem k4 {a0 : (List UInt8)} {r : Bool} {w : World} {h : Qj} (hw : Know h w Vi) (tb_pow10 : TabH Tryz.prog h "internal/strconv.uint64pow10" .u64 Lib.pow10Tab) (H : Law_TagReads a0 = some r) : Does Tryz.prog 4 (List.toArray [Jv a0]) w (fun v w' => v = (.bool r) ∧ Grow w w') := by
 refine enter (n := 59) Tryz.func4 rfl rfl rfl Vi [] (Sat.nil _ _) ?_
 refine Zs X6 ?_
 refine Jf ?_
 refine Jb ?_
 refine Ja rfl rfl rfl (Jc (v := .bool false) rfl) ?_
 refine Jg ?_
 refine Jf ?_
 refine Jb ?_
 refine Ja rfl rfl rfl (Je (v := Jv a0) rfl) ?_
 obtain ⟨t16, h_t16, H13⟩ := Jh H; clear H
 refine l_make (Ue (rds := []) (G := fun x : (Option Addr × Nat) => .tuple #[.agg #[.bool t16.1.Big, .slice x.1 t16.1.Dirs.length x.2], .int .i64 t16.2]) (C := fun x : (Option Addr × Nat) => W3 36 1 gs_tag_Entry (.slice x.1 t16.1.Dirs.length x.2) t16.1.Dirs.length t16.1.Dirs) (fun w L' hF hS hi => k18 (J7 w)  h_t16) Tryz.call18 rfl) rfl rfl rfl (fun p => ?_)
 refine c_rowD 1 rfl (fun hp css hn pf => ?_)
 rw [hn]
 refine Q2 1 rfl ?_
 refine Wy 0 1 rfl rfl (by decide) (fun _ _ => W7) (fun hp_2 hle hle_2 => ?_)
 refine Ja rfl rfl rfl (Je (v := .tuple #[.agg #[.bool t16.1.Big, .slice p.1 css.length p.2], .int .i64 t16.2]) rfl) ?_
 refine Ja rfl rfl rfl (Qs (v := .agg #[.bool t16.1.Big, .slice p.1 css.length p.2]) rfl rfl) ?_
 refine Ja rfl rfl rfl (Qs (v := .int .i64 t16.2) rfl rfl) ?_
 refine Yo (cs := [.bool false, .slice none 0 0]) Tryz.zeroValue24 rfl rfl rfl (fun b2 => ?_)
 refine Qc (i := 3) (vs := [.bool t16.1.Big, .slice p.1 css.length p.2]) (cs' := [.bool t16.1.Big, .slice p.1 css.length p.2]) Tryz.sizeOf24 rfl rfl rfl rfl rfl rfl rfl rfl rfl ?_
 refine Ja rfl rfl rfl (Jc (v := .int .i64 t16.2) rfl) ?_
 refine Jg ?_
 try dsimp only [z1, z2, z5, z6, z7, z8]
 refine Jf ?_
 refine Jb ?_
 refine Ja rfl rfl rfl (Je (v := Jv a0) rfl) ?_
 obtain ⟨t21, h_t21, H14⟩ := Jh H13; clear H13
 refine l_make (Ue (rds := []) (G := fun x : (Option Addr × Nat) => .tuple #[.agg #[.bool t21.1.Big, .slice x.1 t21.1.Dirs.length x.2], .int .i64 t21.2]) (C := fun x : (Option Addr × Nat) => W3 36 1 gs_tag_Entry (.slice x.1 t21.1.Dirs.length x.2) t21.1.Dirs.length t21.1.Dirs) (fun w L' hF hS hi => k19 (J7 w) (tb_pow10.mono (hw.now hF)) h_t21) Tryz.call19 rfl) rfl rfl rfl (fun p_2 => ?_)
 refine c_rowD 4 rfl (fun hp_3 css_2 hn_2 pf_2 => ?_)
 rw [hn_2]
 refine Q2 4 rfl ?_
 refine Wy 0 4 rfl rfl (by decide) (fun _ _ => W7) (fun hp_4 hle_3 hle_4 => ?_)
 refine Ja rfl rfl rfl (Je (v := .tuple #[.agg #[.bool t21.1.Big, .slice p_2.1 css_2.length p_2.2], .int .i64 t21.2]) rfl) ?_
 refine Ja rfl rfl rfl (Qs (v := .agg #[.bool t21.1.Big, .slice p_2.1 css_2.length p_2.2]) rfl rfl) ?_
 refine Ja rfl rfl rfl (Qs (v := .int .i64 t21.2) rfl rfl) ?_
 refine Yo (cs := [.bool false, .slice none 0 0]) Tryz.zeroValue24 rfl rfl rfl (fun b3 => ?_)
 refine Qc (i := 6) (vs := [.bool t21.1.Big, .slice p_2.1 css_2.length p_2.2]) (cs' := [.bool t21.1.Big, .slice p_2.1 css_2.length p_2.2]) Tryz.sizeOf24 rfl rfl rfl rfl rfl rfl rfl rfl rfl ?_
 refine Ja rfl rfl rfl (Jc (v := .int .i64 t21.2) rfl) ?_
 refine Jg ?_
 try dsimp only [z1, z2, z5, z6, z7, z8]
 refine Jf ?_
 refine Jb ?_
 refine Ja rfl rfl rfl (Je (v := Jv a0) rfl) ?_
 obtain ⟨t26, h_t26, H15⟩ := Jh H14; clear H14
 refine l_make (Ue (rds := []) (G := fun x : (Option Addr × Nat) => .tuple #[.slice x.1 t26.1.length x.2, .int .i64 t26.2]) (C := fun x : (Option Addr × Nat) => rowO 56 2 (.slice x.1 t26.1.length x.2) t26.1.length (t26.1.map Jj)) (fun w L' hF hS hi => k20 (J7 w)  h_t26) Tryz.call20 rfl) rfl rfl rfl (fun p_3 => ?_)
 refine Ja rfl rfl rfl (Je (v := .tuple #[.slice p_3.1 t26.1.length p_3.2, .int .i64 t26.2]) rfl) ?_
 refine Ja rfl rfl rfl (Qs (v := .slice p_3.1 t26.1.length p_3.2) rfl rfl) ?_
 refine Ja rfl rfl rfl (Qs (v := .int .i64 t26.2) rfl rfl) ?_
 refine Ja rfl rfl rfl (Jc (v := .slice p_3.1 t26.1.length p_3.2) rfl) ?_
 refine Ja rfl rfl rfl (Jc (v := .int .i64 t26.2) rfl) ?_
 refine Jg ?_
 try dsimp only [z1, z2, z5, z6, z7, z8]
 refine Jf ?_
 refine Jb ?_
 refine Ja rfl rfl rfl (Je (v := Jv a0) rfl) ?_
 obtain ⟨t31, h_t31, H16⟩ := Jh H15; clear H15
 refine l_make (Ue (rds := []) (G := fun x : (Option Addr × Nat) => .tuple #[.slice x.1 t31.1.length x.2, .int .i64 t31.2]) (C := fun x : (Option Addr × Nat) => roV 2 (.slice x.1 t31.1.length x.2) t31.1.length (t31.1.map Jj)) (fun w L' hF hS hi => k21 (J7 w)  h_t31) Tryz.call21 rfl) rfl rfl rfl (fun p_4 => ?_)
 refine Ja rfl rfl rfl (Je (v := .tuple #[.slice p_4.1 t31.1.length p_4.2, .int .i64 t31.2]) rfl) ?_
 refine Ja rfl rfl rfl (Qs (v := .slice p_4.1 t31.1.length p_4.2) rfl rfl) ?_
 refine Ja rfl rfl rfl (Qs (v := .int .i64 t31.2) rfl rfl) ?_
 refine Ja rfl rfl rfl (Jc (v := .slice p_4.1 t31.1.length p_4.2) rfl) ?_
 refine Ja rfl rfl rfl (Jc (v := .int .i64 t31.2) rfl) ?_
 refine Jg ?_
 try dsimp only [z1, z2, z5, z6, z7, z8]
 refine Jf ?_
 refine Jb ?_
 refine Ja rfl rfl rfl (Je (v := Jv a0) rfl) ?_
 obtain ⟨t36, h_t36, H17⟩ := Jh H16; clear H16
 refine l_make (Ue (rds := []) (G := fun x : (Option Addr × Nat) × (Option Addr × Nat) => .tuple #[.slice x.1.1 t36.1.length x.1.2, .slice x.2.1 t36.2.1.length x.2.2, .int .i64 t36.2.2]) (C := fun x : (Option Addr × Nat) × (Option Addr × Nat) => J1 (Qa 56 2 (.slice x.1.1 t36.1.length x.1.2) t36.1.length (t36.1.map Jj)) (Qa 56 2 (.slice x.2.1 t36.2.1.length x.2.2) t36.2.1.length (t36.2.1.map Jj))) (fun w L' hF hS hi => k22 (J7 w) (tb_pow10.mono (hw.now hF)) h_t36) Tryz.call22 rfl) rfl rfl rfl (fun ⟨p_5, p_6⟩ => ?_)
 refine Q2 9 rfl ?_
 refine Ja rfl rfl rfl (Je (v := .tuple #[.slice p_5.1 t36.1.length p_5.2, .slice p_6.1 t36.2.1.length p_6.2, .int .i64 t36.2.2]) rfl) ?_
 refine Ja rfl rfl rfl (Qs (v := .slice p_5.1 t36.1.length p_5.2) rfl rfl) ?_
 refine Ja rfl rfl rfl (Qs (v := .slice p_6.1 t36.2.1.length p_6.2) rfl rfl) ?_
 refine Ja rfl rfl rfl (Qs (v := .int .i64 t36.2.2) rfl rfl) ?_
 refine Ja rfl rfl rfl (Jc (v := .slice p_5.1 t36.1.length p_5.2) rfl) ?_
 refine Ja rfl rfl rfl (Jc (v := .slice p_6.1 t36.2.1.length p_6.2) rfl) ?_
 refine Ja rfl rfl rfl (Jc (v := .int .i64 t36.2.2) rfl) ?_
 refine Jg ?_
 try dsimp only [z1, z2, z5, z6, z7, z8]
 refine Jf ?_
 refine Jb ?_
 refine Xr (i := 3) (vs := [.bool t16.1.Big, .slice p.1 css.length p.2]) Tryz.isAgg24 Tryz.sizeOf24 rfl rfl rfl rfl rfl ?_
 refine Ja rfl rfl rfl (Je (v := .int .i64 t16.2) rfl) ?_
 refine Xr (i := 6) (vs := [.bool t21.1.Big, .slice p_2.1 css_2.length p_2.2]) Tryz.isAgg24 Tryz.sizeOf24 rfl rfl rfl rfl rfl ?_
 refine Ja rfl rfl rfl (Je (v := .int .i64 t21.2) rfl) ?_
 obtain ⟨t44, h_t44, H18⟩ := Jh H17; clear H17
 refine Qw (fun w hF hS => k23 (J7 w) (frn_of (xs := t16.1.Dirs) (Yn (i := 2) rfl hS rfl) (((pf.mono hle_2).mono hle_3).mono (pool_now (i := 0) hS rfl W7))) (frn_of (xs := t21.1.Dirs) (Yn (i := 5) rfl hS rfl) ((pf_2.mono hle_4).mono (pool_now (i := 0) hS rfl W7))) h_t44) Tryz.call23 rfl rfl rfl ?_
 refine Ja rfl rfl rfl (Je (v := .bool t44) rfl) ?_
 refine split (fun hb => ?_) (fun hb => ?_)
 ·have H19 := Jp hb H18; clear H18
  refine Ja rfl rfl rfl (Je (v := .slice p_3.1 t26.1.length p_3.2) rfl) ?_
  refine Ja rfl rfl rfl (Je (v := .int .i64 t26.2) rfl) ?_
  refine Ja rfl rfl rfl (Je (v := .slice p_5.1 t36.1.length p_5.2) rfl) ?_
  refine Ja rfl rfl rfl (Je (v := .int .i64 t21.2) rfl) ?_
  obtain ⟨t50, h_t50, H20⟩ := Jh H19; clear H19
  refine Qw (fun w hF hS => k24 (J7 w) (frs_off (i := 7) rfl hS rfl) (Yn (i := 9) rfl hS rfl) h_t50) Tryz.call24 rfl rfl rfl ?_
  refine Ja rfl rfl rfl (J9 (v := .bool t50) rfl rfl) ?_
  refine Ja rfl rfl rfl (Je (v := .bool t50) rfl) ?_
  refine split (fun hb => ?_) (fun hb => ?_)
  ·have H21 := Jp hb H20; clear H20
   refine Ja rfl rfl rfl (Je (v := .slice p_4.1 t31.1.length p_4.2) rfl) ?_
   refine Ja rfl rfl rfl (Je (v := .int .i64 t31.2) rfl) ?_
   refine Ja rfl rfl rfl (Je (v := .slice p_6.1 t36.2.1.length p_6.2) rfl) ?_
   refine Ja rfl rfl rfl (Je (v := .int .i64 t21.2) rfl) ?_
   obtain ⟨t57, h_t57, H22⟩ := Jh H21; clear H21
   refine Qw (fun w hF hS => k24 (J7 w) (frs_rd (i := 8) hS rfl) (Yn (i := 10) rfl hS rfl) h_t57) Tryz.call24 rfl rfl rfl ?_
   refine Ja rfl rfl rfl (J9 (v := .bool t57) rfl rfl) ?_
   refine Ja rfl rfl rfl (Jc (v := .bool t57) rfl) ?_
   refine Jg ?_
   try dsimp only [z1, z2, z5, z6, z7, z8]
   refine Jx ?_
   obtain rfl := Option.some.inj H22
   refine Qn (v := .bool t57) rfl rfl (Yh rfl)
  ·have H23 := Jq hb H20; clear H20
   refine Ji rfl rfl rfl ?_
   refine Ji rfl rfl rfl ?_
   refine Ji rfl rfl rfl ?_
   refine Ji rfl rfl rfl ?_
   refine Ji rfl rfl rfl ?_
   refine Ja rfl rfl rfl (Qf (v := .bool false) rfl rfl) ?_
   refine Ja rfl rfl rfl (Jc (v := .bool false) rfl) ?_
   refine Jg ?_
   try dsimp only [z1, z2, z5, z6, z7, z8]
   refine Jx ?_
   obtain rfl := Option.some.inj H23
   refine Qn (v := .bool false) rfl rfl (Yh rfl)
 ·have H24 := Jq hb H18; clear H18
  refine Ji rfl rfl rfl ?_
  refine Ji rfl rfl rfl ?_
  refine Ji rfl rfl rfl ?_
  refine Ji rfl rfl rfl ?_
  refine Ji rfl rfl rfl ?_
  refine Ja rfl rfl rfl (Qf (v := .bool false) rfl rfl) ?_
  refine Ja rfl rfl rfl (Je (v := .bool false) rfl) ?_
  refine Ji rfl rfl rfl ?_
  refine Ji rfl rfl rfl ?_
  refine Ji rfl rfl rfl ?_
  refine Ji rfl rfl rfl ?_
  refine Ji rfl rfl rfl ?_
  refine Ja rfl rfl rfl (Qf (v := .bool false) rfl rfl) ?_
  refine Ja rfl rfl rfl (Jc (v := .bool false) rfl) ?_
  refine Jg ?_
  try dsimp only [z1, z2, z5, z6, z7, z8]
  refine Jx ?_
  obtain rfl := Option.some.inj H24
  refine Qn (v := .bool false) rfl rfl (Yh rfl)
end Go.Proofs.YtgjpnjncfilgnaaGreatDoor

/- Plain lemmas about models: loops that count, scans for a first error. Conditions: none. -/
namespace Go.Pl
open Go.Md
end Go.Pl

/- More plain lemmas about models: loops that run or go on, two loops that do the same, loops that collect. Conditions: none. -/
namespace Go.Pl
open Go.Md
theorem Xu {α β : Type} {m : Option α} {k k' : α → Option β} (h : ∀ a, m = some a → k a = k' a) : J3 m k = J3 m k' := by
 cases m with
 | none => rfl
 | some a => exact h a rfl
theorem Uo {α : Type} {b : Bool} {x y x' y' : Option α} (h1 : b = true → x = x') (h2 : b = false → y = y') : Qp b x y = Qp b x' y' := by
 cases b
 ·exact h2 rfl
 ·exact h1 rfl
theorem fix_upto {ρ : Type} {F : (Int → Option ρ) → Int → Option ρ} {o : Option ρ} (i e : Nat) (hie : i ≤ e) (more : ∀ (next : Int → Option ρ) (k : Nat), i ≤ k → k < e → F next (k : Int) = next ((k : Int) + 1)) (stop : ∀ next, F next (e : Int) = o) : Z3 F (i : Int) = o := by
 have key : ∀ n k, i ≤ k → k ≤ e → e - k < n → Z3 F (k : Int) = o := by
  intro n
  induction n with
  | zero => intro k _ _ h; omega
  | succ n ih =>
   intro k h1 h2 h3
   rcases Nat.lt_or_ge k e with h | h
   ·rw [Xi ((k : Int) + 1) (fun next => more next k h1 h)]; exact ih (k + 1) (by omega) (by omega) (by omega)
   ·have : k = e := by omega
    subst this; exact Qq stop
 exact key (e - i + 1) i (Nat.le_refl _) hie (by omega)
theorem fix_list {α ρ σ : Type} {F : (Int × σ → Option ρ) → Int × σ → Option ρ} (xs : List α) (f : σ → α → σ) (J : σ → Option ρ) (I : Nat → σ → Prop)
  (more : ∀ (next : Int × σ → Option ρ) (k : Nat) (s : σ) (hk : k < xs.length), I k s → F next ((k : Int), s) = next ((k : Int) + 1, f s xs[k]) ∧ I (k + 1) (f s xs[k]))
  (stop : ∀ (next : Int × σ → Option ρ) (s : σ), I xs.length s → F next ((xs.length : Int), s) = J s) (s : σ) (hs : I 0 s) : Z3 F (0, s) = J (xs.foldl f s) := by
 have key : ∀ n k s, k ≤ xs.length → xs.length - k < n → I k s → Z3 F ((k : Int), s) = J ((xs.drop k).foldl f s) := by
  intro n
  induction n with
  | zero => intro k s _ h; omega
  | succ n ih =>
   intro k s hk h hI
   rcases Nat.lt_or_ge k xs.length with h1 | h1
   ·rw [Xi ((k : Int) + 1, f s xs[k]) (fun next => (more next k s h1 hI).1), List.drop_eq_getElem_cons h1, List.foldl_cons]
    exact ih (k + 1) _ (by omega) (by omega) (more (fun _ => none) k s h1 hI).2
   ·have : k = xs.length := by omega
    subst this
    rw [List.drop_length]
    exact Qq fun next => stop next s hI
 have := key (xs.length + 1) 0 s (Nat.zero_le _) (by omega) hs
 simpa using this
theorem foldl_app {α β : Type} (f : α → β) : ∀ (xs : List α) (s : List β), xs.foldl (fun s x => s ++ [f x]) s = s ++ xs.map f
 | [], s => by simp
 | x :: xs, s => by rw [List.foldl_cons, foldl_app f xs]; simp
end Go.Pl
