/- SyncStays, what the others share: the walks, printed by our generator; each follows its model. Conditions: the model yields a value. -/
import Derived.Test.YtajcmignhnbmiaaGreatDoorMd
import Derived.Test.YtajcmignhnbmiaaGreatDoorProg
import Derived.Test.YtajcmignhnbmiaaGreatDoorLx5
namespace Go.Proofs.YtajcmignhnbmiaaGreatDoor
open Go Go.Vc Go.Md Go.M Go.Lx
set_option maxRecDepth 100000
set_option maxHeartbeats 4000000
set_option linter.unusedVariables false
theorem mixed : Tryz.prog.follows .mixedOrders = true := by kernel_rfl
abbrev e_u8 (x : Int) : List Value := [.int .u8 x]
def U4 (m : (Int → Option (Bool))) (w : World) (args : List Value) (post : Value → World → Prop) : Prop :=
  ∃ (a0 : Int) (r : Bool), args = [.int .u8 a0] ∧ m a0 = some r ∧ post = fun v' w' => v' = (.bool r) ∧ Grow w w'
abbrev Jd (x : T_sync_Fact) : List Value := [.int .i64 x.Dot.Device, .int .i64 x.Dot.N, .int .i64 x.Time, .int .i64 x.Kind, .int .i64 x.Id, str x.Name, .int .i64 x.Num, str x.Text]
def Q8 (m : (T_sync_Fact → Option (Bool))) (w : World) (args : List Value) (post : Value → World → Prop) : Prop :=
  ∃ (a0 : T_sync_Fact) (r : Bool), args = [.agg #[.int .i64 a0.Dot.Device, .int .i64 a0.Dot.N, .int .i64 a0.Time, .int .i64 a0.Kind, .int .i64 a0.Id, str a0.Name, .int .i64 a0.Num, str a0.Text]] ∧ m a0 = some r ∧ post = fun v' w' => v' = (.bool r) ∧ Grow w w'
abbrev Z5 (x : Int) : List Value := [.int .i64 x]
def V5 (m : (T_sync_Fact → T_sync_Fact → Option (Int))) (w : World) (args : List Value) (post : Value → World → Prop) : Prop :=
  ∃ (a0 : T_sync_Fact) (a1 : T_sync_Fact) (r : Int), args = [.agg #[.int .i64 a0.Dot.Device, .int .i64 a0.Dot.N, .int .i64 a0.Time, .int .i64 a0.Kind, .int .i64 a0.Id, str a0.Name, .int .i64 a0.Num, str a0.Text], .agg #[.int .i64 a1.Dot.Device, .int .i64 a1.Dot.N, .int .i64 a1.Time, .int .i64 a1.Kind, .int .i64 a1.Id, str a1.Name, .int .i64 a1.Num, str a1.Text]] ∧ m a0 a1 = some r ∧ post = fun v' w' => v' = (.int .i64 r) ∧ Grow w w'
abbrev J4 (x : T_sync_spot) : List Value := [.int .i64 x.id_, .int .i64 x.at_]
def Zb (m : (T_sync_spot → Option (Bool))) (w : World) (args : List Value) (post : Value → World → Prop) : Prop :=
  ∃ (a0 : T_sync_spot) (r : Bool), args = [.agg #[.int .i64 a0.id_, .int .i64 a0.at_]] ∧ m a0 = some r ∧ post = fun v' w' => v' = (.bool r) ∧ Grow w w'
abbrev Vr (x : T_tintkeep2_Deed) : List Value := [.int .i64 x.Kind, .int .i64 x.Who, .int .i64 x.Id, .int .i64 x.N, str x.Word]
abbrev Zh (x : (List UInt8)) : List Value := [str x]
def We (m : (T_sync_Shown → Option (Bool))) (w : World) (args : List Value) (post : Value → World → Prop) : Prop :=
  ∃ (a0 : T_sync_Shown) (v0_5 : Value) (r : Bool), FrS (fun b => w.heap[b]?) 1 v0_5 (a0.Tags.map Zh) ∧ args = [.agg #[.int .i64 a0.Id, str a0.File, .int .i64 a0.Stars, str a0.Caption, .bool a0.Hidden, v0_5]] ∧ m a0 = some r ∧ post = fun v' w' => v' = (.bool r) ∧ Grow w w'
def gs_string (h : Qd) (c : Nat → Value) (x : (List (List UInt8))) : Prop := FrS h 1 (c 0) (x.map Zh)
instance : Mon gs_string := ⟨fun k _ _ f => FrS.mono f k⟩
def g_sync_Shown (h : Qd) (c : Nat → Value) (x : T_sync_Shown) : Prop := c 0 = .int .i64 x.Id ∧ c 1 = str x.File ∧ c 2 = .int .i64 x.Stars ∧ c 3 = str x.Caption ∧ c 4 = .bool x.Hidden ∧ gs_string h (fun j => c (5 + j)) x.Tags
instance : Mon g_sync_Shown := ⟨fun k _ _ f => by obtain ⟨h0, h1, h2, h3, h4, h5⟩ := f; exact ⟨h0, h1, h2, h3, h4, Mon.mono k _ _ h5⟩⟩
theorem cg_sync_Shown {h : Qd} {c : Nat → Value} {x : T_sync_Shown} (f : g_sync_Shown h c x) : (List.range 6).map c = [.int .i64 x.Id, str x.File, .int .i64 x.Stars, str x.Caption, .bool x.Hidden, c 5] := by
  obtain ⟨h0, h1, h2, h3, h4, h5⟩ := f
  show [c 0, c 1, c 2, c 3, c 4, c 5] = _
  simp only [h0, h1, h2, h3, h4]
theorem g_sync_Shown_p5 {h : Qd} {c : Nat → Value} {x : T_sync_Shown} (f : g_sync_Shown h c x) : gs_string h (fun j => c (5 + j)) x.Tags := by
  obtain ⟨h0, h1, h2, h3, h4, h5⟩ := f; exact h5
theorem run_eqT43 (d : Nat) (w : World) (a0 b0 : Int) (a1 b1 : Int) : (Op.equalIn (d + 2) 43 (.agg #[.int .i64 a0, .int .i64 a1]) (.agg #[.int .i64 b0, .int .i64 b1])).run Tryz.prog w = .ok (decide (a0 = b0 ∧ a1 = b1)) w := by
  rw [run_equalIn_struct w (d + 1) 43 _ _ (by simp only [Program.fieldsOf, Tryz.underlying43]) Tryz.stoodInHeld43]
  simp only [Program.fieldsOf, Tryz.underlying43, Op.eqFields]
  simp [part, run_equalIn_int, run_equalIn_strL, run_equalIn_bool', Tryz.underlying3]
  repeat' split
  all_goals simp_all
theorem run_eqT45 (d : Nat) (w : World) (a0 b0 : Int) (a1 b1 : Int) (a2 b2 : Int) (a3 b3 : Int) (a4 b4 : Int) (a5 b5 : (List UInt8)) (a6 b6 : Int) (a7 b7 : (List UInt8)) : (Op.equalIn (d + 3) 45 (.agg #[.int .i64 a0, .int .i64 a1, .int .i64 a2, .int .i64 a3, .int .i64 a4, str a5, .int .i64 a6, str a7]) (.agg #[.int .i64 b0, .int .i64 b1, .int .i64 b2, .int .i64 b3, .int .i64 b4, str b5, .int .i64 b6, str b7])).run Tryz.prog w = .ok (decide ((a0 = b0 ∧ a1 = b1) ∧ a2 = b2 ∧ a3 = b3 ∧ a4 = b4 ∧ a5 = b5 ∧ a6 = b6 ∧ a7 = b7)) w := by
  rw [run_equalIn_struct w (d + 2) 45 _ _ (by simp only [Program.fieldsOf, Tryz.underlying45]) Tryz.stoodInHeld45]
  simp only [Program.fieldsOf, Tryz.underlying45, Op.eqFields]
  simp [part, run_equalIn_int, run_equalIn_strL, run_equalIn_bool', Tryz.underlying3, Tryz.underlying9, Tryz.isAgg43, Tryz.sizeOf43, run_eqT43 _ w]
  repeat' split
  all_goals simp_all
theorem run_eq_sync_Fact (w : World) (x y : T_sync_Fact) : (Op.equalIn Op.maxDepth 45 (.agg #[.int .i64 x.Dot.Device, .int .i64 x.Dot.N, .int .i64 x.Time, .int .i64 x.Kind, .int .i64 x.Id, str x.Name, .int .i64 x.Num, str x.Text]) (.agg #[.int .i64 y.Dot.Device, .int .i64 y.Dot.N, .int .i64 y.Time, .int .i64 y.Kind, .int .i64 y.Id, str y.Name, .int .i64 y.Num, str y.Text])).run Tryz.prog w = .ok (Us x y) w :=
  run_eqT45 9997 w _ _ _ _ _ _ _ _ _ _ _ _ _ _ _ _
theorem run_eq_sync_Knows (w : World) (x y : (Nat → Int)) : (Op.equalIn Op.maxDepth 57 (.agg #[.int .i64 (x 0), .int .i64 (x 1), .int .i64 (x 2), .int .i64 (x 3), .int .i64 (x 4), .int .i64 (x 5), .int .i64 (x 6), .int .i64 (x 7), .int .i64 (x 8), .int .i64 (x 9), .int .i64 (x 10), .int .i64 (x 11), .int .i64 (x 12), .int .i64 (x 13), .int .i64 (x 14), .int .i64 (x 15)]) (.agg #[.int .i64 (y 0), .int .i64 (y 1), .int .i64 (y 2), .int .i64 (y 3), .int .i64 (y 4), .int .i64 (y 5), .int .i64 (y 6), .int .i64 (y 7), .int .i64 (y 8), .int .i64 (y 9), .int .i64 (y 10), .int .i64 (y 11), .int .i64 (y 12), .int .i64 (y 13), .int .i64 (y 14), .int .i64 (y 15)])).run Tryz.prog w = .ok (U8 x y) w :=
  run_eqInts (d := 9998) (len := 16) (k := .i64) (k' := .i64) ((List.range 16).map x) ((List.range 16).map y) (by simp) (by simp) Tryz.underlying57 Tryz.underlying3 Tryz.isAgg3 Tryz.sizeOf3 w
open Go.MapKept (IsKey) in
theorem keyG_T45 : KeyG Tryz.prog 45 (fun x_ : T_sync_Fact => .agg #[.int .i64 x_.Dot.Device, .int .i64 x_.Dot.N, .int .i64 x_.Time, .int .i64 x_.Kind, .int .i64 x_.Id, str x_.Name, .int .i64 x_.Num, str x_.Text]) where
  inj a b h := by
    obtain ⟨⟨a1, a2⟩, a3, a4, a5, a6, a7, a8⟩ := a; obtain ⟨⟨b1, b2⟩, b3, b4, b5, b6, b7, b8⟩ := b
    simp [str] at h
    simp_all
  chk k em w := by
    exact chk_struct Tryz.underlying45 (List.forall_mem_cons.2 ⟨⟨.agg #[.int .i64 k.Dot.Device, .int .i64 k.Dot.N], by simp [part, Tryz.isAgg43, Tryz.sizeOf43, str], chk_struct Tryz.underlying43 (List.forall_mem_cons.2 ⟨⟨.int .i64 k.Dot.Device, by simp [part, Tryz.isAgg3, str], Go.MapKept.run_checkKey Tryz.underlying3 (by simp [IsKey, str]) em _⟩, List.forall_mem_cons.2 ⟨⟨.int .i64 k.Dot.N, by simp [part, Tryz.isAgg3, str], Go.MapKept.run_checkKey Tryz.underlying3 (by simp [IsKey, str]) em _⟩, fun _ h => nomatch h⟩⟩)⟩, List.forall_mem_cons.2 ⟨⟨.int .i64 k.Time, by simp [part, Tryz.isAgg3, str], Go.MapKept.run_checkKey Tryz.underlying3 (by simp [IsKey, str]) em _⟩, List.forall_mem_cons.2 ⟨⟨.int .i64 k.Kind, by simp [part, Tryz.isAgg3, str], Go.MapKept.run_checkKey Tryz.underlying3 (by simp [IsKey, str]) em _⟩, List.forall_mem_cons.2 ⟨⟨.int .i64 k.Id, by simp [part, Tryz.isAgg3, str], Go.MapKept.run_checkKey Tryz.underlying3 (by simp [IsKey, str]) em _⟩, List.forall_mem_cons.2 ⟨⟨str k.Name, by simp [part, Tryz.isAgg9, str], Go.MapKept.run_checkKey Tryz.underlying9 (by simp [IsKey, str]) em _⟩, List.forall_mem_cons.2 ⟨⟨.int .i64 k.Num, by simp [part, Tryz.isAgg3, str], Go.MapKept.run_checkKey Tryz.underlying3 (by simp [IsKey, str]) em _⟩, List.forall_mem_cons.2 ⟨⟨str k.Text, by simp [part, Tryz.isAgg9, str], Go.MapKept.run_checkKey Tryz.underlying9 (by simp [IsKey, str]) em _⟩, fun _ h => nomatch h⟩⟩⟩⟩⟩⟩⟩)
  now := ⟨_, Tryz.underlying45, fun _ _ => rfl⟩
  eql a b w := by
    refine (run_eq_sync_Fact w a b).trans ?_
    congr 1
    unfold Us
    rw [decide_eq_decide]
    obtain ⟨⟨a1, a2⟩, a3, a4, a5, a6, a7, a8⟩ := a; obtain ⟨⟨b1, b2⟩, b3, b4, b5, b6, b7, b8⟩ := b
    simp [and_assoc]
  bits k := by
    show Instr.sameBits (9999 + 1) _ _ = true
    simp [Instr.sameBits, str, Go.MapKept.bytes_beq]
theorem k31 {a0 : Int} {a1 : Int} {a2 : Int} {r : Bool} (H : Xm a0 a1 a2 = some r) : Ret Tryz.prog 31 [.int .i64 a0, .int .i64 a1, .int .i64 a2] (.bool r) := by
 refine Qx (n := 15) Tryz.func31 rfl rfl rfl (fun wd => ?_)
 refine Jf ?_
 refine Jb ?_
 refine Ja rfl rfl rfl (Jc (v := .bool false) rfl) ?_
 refine Jg ?_
 refine Jf ?_
 refine Jb ?_
 refine Ja rfl rfl rfl (Je (v := .int .i64 a0) rfl) ?_
 refine Ja rfl rfl rfl (Je (v := .int .i64 a1) rfl) ?_
 refine Ja rfl rfl rfl (Zd rfl rfl) ?_
 refine Ja rfl rfl rfl (Je (v := .bool (decide (a0 < a1))) rfl) ?_
 refine split (fun hb => ?_) (fun hb => ?_)
 ·have H3 := Jr hb H; clear H
  refine Jk rfl rfl rfl ?_
  refine Jk rfl rfl rfl ?_
  refine Jk rfl rfl rfl ?_
  refine Ja rfl rfl rfl (J7 (v := .bool true) rfl rfl) ?_
  refine Ja rfl rfl rfl (Jc (v := .bool true) rfl) ?_
  refine Jg ?_
  refine Jp ?_
  obtain rfl := Option.some.inj H3
  refine J3 (v := .bool true) rfl rfl (Yd rfl)
 ·have H4 := Jq hb H; clear H
  refine Ja rfl rfl rfl (Je (v := .int .i64 a0) rfl) ?_
  refine Ja rfl rfl rfl (Je (v := .int .i64 a2) rfl) ?_
  refine Ja rfl rfl rfl (r_gtr rfl rfl) ?_
  refine Ja rfl rfl rfl (J1 (v := .bool (decide (a2 < a0))) rfl rfl) ?_
  refine Ja rfl rfl rfl (Jc (v := .bool (decide (a2 < a0))) rfl) ?_
  refine Jg ?_
  refine Jp ?_
  obtain rfl := Option.some.inj H4
  refine J3 (v := .bool (decide (a2 < a0))) rfl rfl (Yd rfl)
theorem k101 {a0 : (List UInt8)} {a1 : Int} {r : (List UInt8)} (H : Wa a0 a1 = some r) : Ret Tryz.prog 101 [str a0, .int .u8 a1] (str r) := by
 refine Qx (n := 17) Tryz.func101 rfl rfl rfl (fun wd => ?_)
 refine Jf ?_
 refine Jb ?_
 refine Ja rfl rfl rfl (Jc (v := str []) rfl) ?_
 refine Jg ?_
 refine Jf ?_
 refine J5 ?_
 refine Vn (σ := (List UInt8)) (τ := Unit) (fun next1 s => Ze a1 next1 s) (fun s t => [(0, str s), (1, .int .u8 a1)]) (fun s t => []) (fun s t => True) a0 () [] H (by exact trivial) (by exact ⟨rfl, rfl, trivial⟩) (by decide) rfl ?_
 rintro x0_2 _ m1 gg H8 _
 clear H
 replace H8 : Ze a1 (it (fun next1 s => Ze a1 next1 s) m1) x0_2 = some r := H8
 generalize hn1 : it (fun next1 s => Ze a1 next1 s) m1 = next1 at H8
 refine J8 [(0, str x0_2), (1, .int .u8 a1)] [] rfl rfl ?_
 refine Jf ?_
 refine Jf ?_
 refine Jb ?_
 refine Ja rfl rfl rfl (Je (v := str x0_2) rfl) ?_
 refine Ja rfl rfl rfl (Wu Tryz.underlying9 rfl) ?_
 refine Ja rfl rfl rfl (r_gtr rfl rfl) ?_
 refine Ja rfl rfl rfl (Je (v := .bool (decide (0 < (x0_2.length : Int)))) rfl) ?_
 refine split (fun hb => ?_) (fun hb => ?_)
 ·have H9 := Jr hb H8; clear H8
  refine Ja rfl rfl rfl (Je (v := str x0_2) rfl) ?_
  obtain ⟨t10, h_t10, H10⟩ := Ji H9; clear H9
  refine Ja rfl rfl rfl (U1 Tryz.underlying9 rfl rfl h_t10) ?_
  refine Ja rfl rfl rfl (Je (v := .int .u8 a1) rfl) ?_
  refine Ja rfl rfl rfl (Xd rfl rfl) ?_
  refine Ja rfl rfl rfl (J7 (v := .bool (decide (t10 = a1))) rfl rfl) ?_
  refine Jg ?_
  refine Qg (b := (decide (t10 = a1))) rfl (fun hb => ?_) (fun hb => ?_)
  ·have H11 := Jr hb H10; clear H10
   refine Jw ?_
   refine J5 ?_
   refine Jb ?_
   refine Ja rfl rfl rfl (Je (v := str x0_2) rfl) ?_
   obtain ⟨t15, h_t15, H12⟩ := Ji H11; clear H11
   refine Ja rfl rfl rfl (r_cutFromG Tryz.underlying9 rfl rfl h_t15) ?_
   refine Ja rfl rfl rfl (Jc (v := str t15) rfl) ?_
   refine Jg ?_
   refine Js t15 () m1 [] (by exact ⟨rfl, rfl, trivial⟩) (by decide) rfl (by exact ⟨(by subst hn1; exact H12), trivial⟩) (Nat.lt_succ_self _)
  ·have H13 := Jq hb H10; clear H10
   refine Xi ?_
   refine Jf ?_
   refine Jb ?_
   refine Ja rfl rfl rfl (Je (v := str x0_2) rfl) ?_
   refine Ja rfl rfl rfl (Jc (v := str x0_2) rfl) ?_
   refine Jg ?_
   refine Jp ?_
   obtain rfl := Option.some.inj H13
   refine J3 (v := str x0_2) rfl rfl (Yd rfl)
 ·have H14 := Jq hb H8; clear H8
  refine Jk rfl rfl rfl ?_
  refine Jk rfl rfl rfl ?_
  refine Jk rfl rfl rfl ?_
  refine Jk rfl rfl rfl ?_
  refine Ja rfl rfl rfl (J1 (v := .bool false) rfl rfl) ?_
  refine Jg ?_
  refine Jab rfl ?_
  refine Xi ?_
  refine Jf ?_
  refine Jb ?_
  refine Ja rfl rfl rfl (Je (v := str x0_2) rfl) ?_
  refine Ja rfl rfl rfl (Jc (v := str x0_2) rfl) ?_
  refine Jg ?_
  refine Jp ?_
  obtain rfl := Option.some.inj H14
  refine J3 (v := str x0_2) rfl rfl (Yd rfl)
theorem k102 {a0 : (List UInt8)} {a1 : Int} {r : (List UInt8)} (H : Vz a0 a1 = some r) : Ret Tryz.prog 102 [str a0, .int .u8 a1] (str r) := by
 refine Qx (n := 23) Tryz.func102 rfl rfl rfl (fun wd => ?_)
 refine Jf ?_
 refine Jb ?_
 refine Ja rfl rfl rfl (Jc (v := str []) rfl) ?_
 refine Jg ?_
 refine Jf ?_
 refine J5 ?_
 refine Vn (σ := (List UInt8)) (τ := Unit) (fun next1 s => Y6 a1 next1 s) (fun s t => [(0, str s), (1, .int .u8 a1)]) (fun s t => []) (fun s t => True) a0 () [] H (by exact trivial) (by exact ⟨rfl, rfl, trivial⟩) (by decide) rfl ?_
 rintro x0_2 _ m1 gg H10 _
 clear H
 replace H10 : Y6 a1 (it (fun next1 s => Y6 a1 next1 s) m1) x0_2 = some r := H10
 generalize hn1 : it (fun next1 s => Y6 a1 next1 s) m1 = next1 at H10
 refine J8 [(0, str x0_2), (1, .int .u8 a1)] [] rfl rfl ?_
 refine Jf ?_
 refine Jf ?_
 refine Jb ?_
 refine Ja rfl rfl rfl (Je (v := str x0_2) rfl) ?_
 refine Ja rfl rfl rfl (Wu Tryz.underlying9 rfl) ?_
 refine Ja rfl rfl rfl (r_gtr rfl rfl) ?_
 refine Ja rfl rfl rfl (Je (v := .bool (decide (0 < (x0_2.length : Int)))) rfl) ?_
 refine split (fun hb => ?_) (fun hb => ?_)
 ·have H11 := Jr hb H10; clear H10
  refine Ja rfl rfl rfl (Je (v := str x0_2) rfl) ?_
  refine Ja rfl rfl rfl (Je (v := str x0_2) rfl) ?_
  refine Ja rfl rfl rfl (Wu Tryz.underlying9 rfl) ?_
  obtain ⟨t12, h_t12, H12⟩ := Ji H11; clear H11
  refine Ja rfl rfl rfl (r_subG rfl rfl h_t12) ?_
  obtain ⟨t13, h_t13, H13⟩ := Ji H12; clear H12
  refine Ja rfl rfl rfl (U1 Tryz.underlying9 rfl rfl h_t13) ?_
  refine Ja rfl rfl rfl (Je (v := .int .u8 a1) rfl) ?_
  refine Ja rfl rfl rfl (Xd rfl rfl) ?_
  refine Ja rfl rfl rfl (J7 (v := .bool (decide (t13 = a1))) rfl rfl) ?_
  refine Jg ?_
  refine Qg (b := (decide (t13 = a1))) rfl (fun hb => ?_) (fun hb => ?_)
  ·have H14 := Jr hb H13; clear H13
   refine Jw ?_
   refine J5 ?_
   refine Jb ?_
   refine Ja rfl rfl rfl (Je (v := str x0_2) rfl) ?_
   refine Ja rfl rfl rfl (Je (v := str x0_2) rfl) ?_
   refine Ja rfl rfl rfl (Wu Tryz.underlying9 rfl) ?_
   obtain ⟨t20, h_t20, H15⟩ := Ji H14; clear H14
   refine Ja rfl rfl rfl (r_subG rfl rfl h_t20) ?_
   obtain ⟨t21, h_t21, H16⟩ := Ji H15; clear H15
   refine Ja rfl rfl rfl (r_cutToG Tryz.underlying9 rfl rfl h_t21) ?_
   refine Ja rfl rfl rfl (Jc (v := str t21) rfl) ?_
   refine Jg ?_
   refine Js t21 () m1 [] (by exact ⟨rfl, rfl, trivial⟩) (by decide) rfl (by exact ⟨(by subst hn1; exact H16), trivial⟩) (Nat.lt_succ_self _)
  ·have H17 := Jq hb H13; clear H13
   refine Xi ?_
   refine Jf ?_
   refine Jb ?_
   refine Ja rfl rfl rfl (Je (v := str x0_2) rfl) ?_
   refine Ja rfl rfl rfl (Jc (v := str x0_2) rfl) ?_
   refine Jg ?_
   refine Jp ?_
   obtain rfl := Option.some.inj H17
   refine J3 (v := str x0_2) rfl rfl (Yd rfl)
 ·have H18 := Jq hb H10; clear H10
  refine Jk rfl rfl rfl ?_
  refine Jk rfl rfl rfl ?_
  refine Jk rfl rfl rfl ?_
  refine Jk rfl rfl rfl ?_
  refine Jk rfl rfl rfl ?_
  refine Jk rfl rfl rfl ?_
  refine Jk rfl rfl rfl ?_
  refine Ja rfl rfl rfl (J1 (v := .bool false) rfl rfl) ?_
  refine Jg ?_
  refine Jab rfl ?_
  refine Xi ?_
  refine Jf ?_
  refine Jb ?_
  refine Ja rfl rfl rfl (Je (v := str x0_2) rfl) ?_
  refine Ja rfl rfl rfl (Jc (v := str x0_2) rfl) ?_
  refine Jg ?_
  refine Jp ?_
  obtain rfl := Option.some.inj H18
  refine J3 (v := str x0_2) rfl rfl (Yd rfl)
theorem k103 {a0 : (List UInt8)} {r : (Nat → Bool) × Bool} (H : V8 a0 = some r) : Ret Tryz.prog 103 [str a0] (.tuple #[.agg (List.toArray (Wl 256 (fun j_ => [.bool (r.1 j_)]))), .bool r.2]) := by
 refine Qx (n := 21) Tryz.func103 rfl rfl rfl (fun wd => ?_)
 refine Jf ?_
 refine Jb ?_
 refine Zv (cs := (Wl 256 (fun j_ => [.bool ((fun _ => false) j_)]))) Tryz.zeroValue128 (by kernel_rfl) rfl rfl (fun b1 => ?_)
 refine Ja rfl rfl rfl (Jc (v := .bool false) rfl) ?_
 refine Jg ?_
 refine Xu (r := r) (σ := (Nat → Bool)) (τ := Unit) (fun s => Wo s) (fun s t => [(2, .pointer (some ⟨b1, 0, none⟩))]) (fun s t => [Jl b1 (Wl 256 (fun j_ => [.bool (s j_)])) 128]) (fun s t => True) ?_ ?_
 ·refine Jf ?_
  refine Jb ?_
  refine Ja rfl rfl rfl (Jc (v := .int .i64 0) rfl) ?_
  refine Jg ?_
  refine J5 ?_
  refine Vn (σ := Int × (Nat → Bool)) (τ := Unit) (fun next2 s => Qp a0 next2 s.1 s.2) (fun s t => [(0, str a0), (2, .pointer (some ⟨b1, 0, none⟩)), (4, .int .i64 s.1)]) (fun s t => [Jl b1 (Wl 256 (fun j_ => [.bool (s.2 j_)])) 128]) (fun s t => True) (0, (fun _ => false)) () [0] H (by exact trivial) (by exact ⟨rfl, rfl, rfl, trivial⟩) (by decide) rfl ?_
  rintro ⟨x4_2, m_3⟩ _ m2 gg H11 _
  clear H
  replace H11 : Qp a0 (it (fun next2 s => Qp a0 next2 s.1 s.2) m2) x4_2 m_3 = some r := H11
  generalize hn2 : it (fun next2 s => Qp a0 next2 s.1 s.2) m2 = next2 at H11
  refine J8 [(0, str a0), (2, .pointer (some ⟨b1, 0, none⟩)), (4, .int .i64 x4_2)] [Jl b1 (Wl 256 (fun j_ => [.bool (m_3 j_)])) 128] rfl rfl ?_
  refine Jf ?_
  refine Jf ?_
  refine Jb ?_
  refine Ja rfl rfl rfl (Je (v := .int .i64 x4_2) rfl) ?_
  refine Ja rfl rfl rfl (Je (v := str a0) rfl) ?_
  refine Ja rfl rfl rfl (Wu Tryz.underlying9 rfl) ?_
  refine Ja rfl rfl rfl (Zd rfl rfl) ?_
  refine Jg ?_
  refine Qg (b := (decide (x4_2 < (a0.length : Int)))) rfl (fun hb => ?_) (fun hb => ?_)
  ·have H12 := Jr hb H11; clear H11
   refine Jw ?_
   refine Jf ?_
   refine J5 ?_
   refine Jf ?_
   refine Jb ?_
   refine Ja rfl rfl rfl (Je (v := str a0) rfl) ?_
   refine Ja rfl rfl rfl (Je (v := .int .i64 x4_2) rfl) ?_
   obtain ⟨t14, h_t14, H13⟩ := Ji H12; clear H12
   refine Ja rfl rfl rfl (U1 Tryz.underlying9 rfl rfl h_t14) ?_
   refine Ja rfl rfl rfl (Jc (v := .int .u8 t14) rfl) ?_
   refine Jg ?_
   refine Jf ?_
   refine Jf ?_
   refine Jb ?_
   refine Ja rfl rfl rfl (Je (v := .int .u8 t14) rfl) ?_
   refine Ja rfl rfl rfl (r_geq rfl rfl) ?_
   refine Jg ?_
   refine Qg (b := (decide (128 ≤ t14))) rfl (fun hb => ?_) (fun hb => ?_)
   ·have H14 := Jr hb H13; clear H13
    refine Jf ?_
    refine Jb ?_
    refine Ym (i := 0) (vs := (Wl 256 (fun j_ => [.bool (m_3 j_)]))) Tryz.isAgg128 Tryz.sizeOf128 rfl rfl rfl rfl (rd_whole (Ws (fun _ => rfl))) ?_
    refine Xt (i := 0) (vs := (Wl 256 (fun j_ => [.bool (m_3 j_)]))) (cs' := (Wl 256 (fun j_ => [.bool (m_3 j_)]))) Tryz.sizeOf128 rfl rfl rfl rfl (Ws (fun _ => rfl)) rfl (arrC_one (fun _ => rfl)) rfl (wr_whole ((Ws (fun _ => rfl)).trans (Ws (fun _ => rfl)).symm)) ?_
    refine Ja rfl rfl rfl (Jc (v := .bool false) rfl) ?_
    refine Jg ?_
    refine Jp ?_
    obtain rfl := Option.some.inj H14
    refine retCt (i := 0) (vs := (Wl 256 (fun j_ => [.bool (m_3 j_)]))) (v2 := .bool false) Tryz.isAgg128 Tryz.sizeOf128 rfl rfl rfl (rd_whole (Ws (fun _ => rfl))) rfl (Yd rfl)
   ·have H15 := Jq hb H13; clear H13
    refine Jw ?_
    refine Jb ?_
    refine Ja rfl rfl rfl (Je (v := .int .u8 t14) rfl) ?_
    obtain ⟨k19, h_k19, H16⟩ := Ji H15; clear H15
    refine Ja rfl rfl rfl (Jaj Tryz.runUnderlying128 Tryz.sizeOf4 rfl rfl h_k19) ?_
    refine Xt (i := 0) (vs := [.bool true]) (cs' := (Wl 256 (fun j_ => [.bool ((Q7 m_3 k19 true) j_)]))) Tryz.sizeOf4 rfl rfl rfl rfl rfl rfl rfl rfl (wr_arr (pre := []) (post := []) (f := fun (j_ : Bool) => [.bool j_]) (n := 256) (sz := 1) (a := m_3) (x := true) (arr_whole _ _) rfl (fun _ => rfl) (gIx_lt h_k19) rfl (arr_whole _ _)) ?_
    refine Jg ?_
    refine Jb ?_
    refine Ja rfl rfl rfl (Je (v := .int .i64 x4_2) rfl) ?_
    obtain ⟨t11, h_t11, H17⟩ := Ji H16; clear H16
    refine Ja rfl rfl rfl (Yj rfl rfl h_t11) ?_
    refine Ja rfl rfl rfl (Jc (v := .int .i64 t11) rfl) ?_
    refine Jg ?_
    refine Js (t11, (Q7 m_3 k19 true)) () m2 [0] (by exact ⟨rfl, rfl, rfl, trivial⟩) (by decide) rfl (by exact ⟨(by subst hn2; exact H17), trivial⟩) (Nat.lt_succ_self _)
  ·have H18 := Jq hb H11; clear H11
   refine Xi ?_
   refine Js m_3 () 0 [0] (by exact ⟨rfl, trivial⟩) (by decide) rfl (by exact ⟨H18, trivial⟩) (Nat.lt_succ_self _)
 ·rintro m _ gg H10 _
  replace H10 : Wo m = some r := H10
  refine J8 [(2, .pointer (some ⟨b1, 0, none⟩))] [Jl b1 (Wl 256 (fun j_ => [.bool (m j_)])) 128] rfl rfl ?_
  refine Jf ?_
  refine Jb ?_
  refine Ym (i := 0) (vs := (Wl 256 (fun j_ => [.bool (m j_)]))) Tryz.isAgg128 Tryz.sizeOf128 rfl rfl rfl rfl (rd_whole (Ws (fun _ => rfl))) ?_
  refine Xt (i := 0) (vs := (Wl 256 (fun j_ => [.bool (m j_)]))) (cs' := (Wl 256 (fun j_ => [.bool (m j_)]))) Tryz.sizeOf128 rfl rfl rfl rfl (Ws (fun _ => rfl)) rfl (arrC_one (fun _ => rfl)) rfl (wr_whole ((Ws (fun _ => rfl)).trans (Ws (fun _ => rfl)).symm)) ?_
  refine Ja rfl rfl rfl (Jc (v := .bool true) rfl) ?_
  refine Jg ?_
  refine Jp ?_
  obtain rfl := Option.some.inj H10
  refine retCt (i := 0) (vs := (Wl 256 (fun j_ => [.bool (m j_)]))) (v2 := .bool true) Tryz.isAgg128 Tryz.sizeOf128 rfl rfl rfl (rd_whole (Ws (fun _ => rfl))) rfl (Yd rfl)
theorem k115 {a0 : (Nat → Bool)} {pb0 : Nat} {a1 : Int} {r : Bool × (Nat → Bool)} {w : World} {h : Qd} {S : Nat → Prop} (hcs : (Jl pb0 (Wl 256 (fun j_ => [.bool (a0 j_)])) 128).P S w) (hlt : ∀ b, S b → b < w.heap.size) (hw : Know h w S) (H : Yz a0 a1 = some r) : Does Tryz.prog 115 (List.toArray [.pointer (some ⟨pb0, 0, none⟩), .int .u8 a1]) w (fun v w' => ∃ x : Unit, v = (.bool r.1) ∧ Turn w w' S (Jl pb0 (Wl 256 (fun j_ => [.bool (r.2 j_)])) 128)) := by
 refine enter (n := 10) Tryz.func115 rfl rfl rfl S [Jl pb0 (Wl 256 (fun j_ => [.bool (a0 j_)])) 128] (Sat.one hcs hlt) ?_
 refine Jf ?_
 refine Jb ?_
 refine Ja rfl rfl rfl (Jc (v := .bool false) rfl) ?_
 refine Jg ?_
 refine Jf ?_
 refine Jb ?_
 refine Ja rfl rfl rfl (Je (v := .pointer (some ⟨pb0, 0, none⟩)) rfl) ?_
 refine Ja rfl rfl rfl (Je (v := .int .u8 a1) rfl) ?_
 refine Ja rfl rfl rfl (Qm rfl) ?_
 obtain ⟨k8, h_k8, H2⟩ := Ji H; clear H
 refine Ja rfl rfl rfl (Jaj Tryz.runUnderlying128 Tryz.sizeOf4 rfl rfl h_k8) ?_
 refine Jv (i := 0) (v := .bool (a0 k8)) Tryz.isAgg4 rfl rfl rfl rfl (rg_arr (pre := []) (post := []) (f := fun j_ => [.bool (a0 j_)]) (n := 256) (sz := 1) (q := 0) (arr_whole _ _) rfl (fun _ => rfl) (gIx_lt h_k8) rfl) ?_
 refine Ja rfl rfl rfl (Jc (v := .bool (a0 k8)) rfl) ?_
 refine Jg ?_
 refine Jp ?_
 obtain rfl := Option.some.inj H2
 refine J3 (v := .bool (a0 k8)) rfl rfl (Yk () (i := 0) rfl rfl (Imp.refl _))
theorem k104 {a0 : (List UInt8)} {a1 : (Nat → Bool)} {pb1 : Nat} {r : (List UInt8) × (Nat → Bool)} {w : World} {h : Qd} {S : Nat → Prop} (hcs : (Jl pb1 (Wl 256 (fun j_ => [.bool (a1 j_)])) 128).P S w) (hlt : ∀ b, S b → b < w.heap.size) (hw : Know h w S) (H : V0 a0 a1 = some r) : Does Tryz.prog 104 (List.toArray [str a0, .pointer (some ⟨pb1, 0, none⟩)]) w (fun v w' => ∃ x : Unit, v = (str r.1) ∧ Turn w w' S (Jl pb1 (Wl 256 (fun j_ => [.bool (r.2 j_)])) 128)) := by
 refine enter (n := 16) Tryz.func104 rfl rfl rfl S [Jl pb1 (Wl 256 (fun j_ => [.bool (a1 j_)])) 128] (Sat.one hcs hlt) ?_
 refine Jf ?_
 refine Jb ?_
 refine Ja rfl rfl rfl (Jc (v := str []) rfl) ?_
 refine Jg ?_
 refine Jf ?_
 refine J5 ?_
 refine Vn (σ := (List UInt8) × (Nat → Bool)) (τ := Unit) (fun next1 s => Xe next1 s.1 s.2) (fun s t => [(0, str s.1), (1, .pointer (some ⟨pb1, 0, none⟩))]) (fun s t => [Jl pb1 (Wl 256 (fun j_ => [.bool (s.2 j_)])) 128]) (fun s t => True) (a0, a1) () [0] H (by exact trivial) (by exact ⟨rfl, rfl, trivial⟩) (by decide) rfl ?_
 rintro ⟨x0_2, m_2⟩ _ m1 gg H9 _
 clear H
 replace H9 : Xe (it (fun next1 s => Xe next1 s.1 s.2) m1) x0_2 m_2 = some r := H9
 generalize hn1 : it (fun next1 s => Xe next1 s.1 s.2) m1 = next1 at H9
 refine J8 [(0, str x0_2), (1, .pointer (some ⟨pb1, 0, none⟩))] [Jl pb1 (Wl 256 (fun j_ => [.bool (m_2 j_)])) 128] rfl rfl ?_
 refine Jf ?_
 refine Jf ?_
 refine Jb ?_
 refine Ja rfl rfl rfl (Je (v := str x0_2) rfl) ?_
 refine Ja rfl rfl rfl (Wu Tryz.underlying9 rfl) ?_
 refine Ja rfl rfl rfl (r_gtr rfl rfl) ?_
 refine Jg ?_
 refine Qg (b := (decide (0 < (x0_2.length : Int)))) rfl (fun hb => ?_) (fun hb => ?_)
 ·have H10 := Jr hb H9; clear H9
  refine Jw ?_
  refine J5 ?_
  refine Jf ?_
  refine Jf ?_
  refine Jb ?_
  refine Ja rfl rfl rfl (Je (v := .pointer (some ⟨pb1, 0, none⟩)) rfl) ?_
  refine Ja rfl rfl rfl (Je (v := str x0_2) rfl) ?_
  obtain ⟨t10, h_t10, H11⟩ := Ji H10; clear H10
  refine Ja rfl rfl rfl (U1 Tryz.underlying9 rfl rfl h_t10) ?_
  obtain ⟨t11, h_t11, H12⟩ := Ji H11; clear H11
  refine Q4 (J6 (i := 0) (rds := []) (G := fun x : Unit => .bool t11.1) (C := fun x : Unit => Jl pb1 (Wl 256 (fun j_ => [.bool (t11.2 j_)])) 128) rfl (fun w L' S hF hS hi hp hlt ho hA => k115 hp hlt (Qn w S)  h_t11) Tryz.call115 rfl) rfl rfl rfl (fun _ => ?_)
  refine Ja rfl rfl rfl (Zm rfl) ?_
  refine Jg ?_
  refine Qg (b := (!t11.1)) rfl (fun hb => ?_) (fun hb => ?_)
  ·have H13 := Jr hb H12; clear H12
   refine Xi ?_
   refine Jf ?_
   refine Jb ?_
   refine Ja rfl rfl rfl (Je (v := str x0_2) rfl) ?_
   refine Ja rfl rfl rfl (Jc (v := str x0_2) rfl) ?_
   refine Jg ?_
   refine Jp ?_
   obtain rfl := Option.some.inj H13
   refine J3 (v := str x0_2) rfl rfl (Yk () (i := 0) rfl rfl (Imp.refl _))
  ·have H14 := Jq hb H12; clear H12
   refine Jw ?_
   refine Jb ?_
   refine Ja rfl rfl rfl (Je (v := str x0_2) rfl) ?_
   obtain ⟨t14, h_t14, H15⟩ := Ji H14; clear H14
   refine Ja rfl rfl rfl (r_cutFromG Tryz.underlying9 rfl rfl h_t14) ?_
   refine Ja rfl rfl rfl (Jc (v := str t14) rfl) ?_
   refine Jg ?_
   refine Js (t14, t11.2) () m1 [0] (by exact ⟨rfl, rfl, trivial⟩) (by decide) rfl (by exact ⟨(by subst hn1; exact H15), trivial⟩) (Nat.lt_succ_self _)
 ·have H16 := Jq hb H9; clear H9
  refine Xi ?_
  refine Jf ?_
  refine Jb ?_
  refine Ja rfl rfl rfl (Je (v := str x0_2) rfl) ?_
  refine Ja rfl rfl rfl (Jc (v := str x0_2) rfl) ?_
  refine Jg ?_
  refine Jp ?_
  obtain rfl := Option.some.inj H16
  refine J3 (v := str x0_2) rfl rfl (Yk () (i := 0) rfl rfl (Imp.refl _))
theorem k105 {a0 : (List UInt8)} {a1 : (Nat → Bool)} {pb1 : Nat} {r : (List UInt8) × (Nat → Bool)} {w : World} {h : Qd} {S : Nat → Prop} (hcs : (Jl pb1 (Wl 256 (fun j_ => [.bool (a1 j_)])) 128).P S w) (hlt : ∀ b, S b → b < w.heap.size) (hw : Know h w S) (H : Vl a0 a1 = some r) : Does Tryz.prog 105 (List.toArray [str a0, .pointer (some ⟨pb1, 0, none⟩)]) w (fun v w' => ∃ x : Unit, v = (str r.1) ∧ Turn w w' S (Jl pb1 (Wl 256 (fun j_ => [.bool (r.2 j_)])) 128)) := by
 refine enter (n := 22) Tryz.func105 rfl rfl rfl S [Jl pb1 (Wl 256 (fun j_ => [.bool (a1 j_)])) 128] (Sat.one hcs hlt) ?_
 refine Jf ?_
 refine Jb ?_
 refine Ja rfl rfl rfl (Jc (v := str []) rfl) ?_
 refine Jg ?_
 refine Jf ?_
 refine J5 ?_
 refine Vn (σ := (List UInt8) × (Nat → Bool)) (τ := Unit) (fun next1 s => Q9 next1 s.1 s.2) (fun s t => [(0, str s.1), (1, .pointer (some ⟨pb1, 0, none⟩))]) (fun s t => [Jl pb1 (Wl 256 (fun j_ => [.bool (s.2 j_)])) 128]) (fun s t => True) (a0, a1) () [0] H (by exact trivial) (by exact ⟨rfl, rfl, trivial⟩) (by decide) rfl ?_
 rintro ⟨x0_2, m_2⟩ _ m1 gg H11 _
 clear H
 replace H11 : Q9 (it (fun next1 s => Q9 next1 s.1 s.2) m1) x0_2 m_2 = some r := H11
 generalize hn1 : it (fun next1 s => Q9 next1 s.1 s.2) m1 = next1 at H11
 refine J8 [(0, str x0_2), (1, .pointer (some ⟨pb1, 0, none⟩))] [Jl pb1 (Wl 256 (fun j_ => [.bool (m_2 j_)])) 128] rfl rfl ?_
 refine Jf ?_
 refine Jf ?_
 refine Jb ?_
 refine Ja rfl rfl rfl (Je (v := str x0_2) rfl) ?_
 refine Ja rfl rfl rfl (Wu Tryz.underlying9 rfl) ?_
 refine Ja rfl rfl rfl (r_gtr rfl rfl) ?_
 refine Jg ?_
 refine Qg (b := (decide (0 < (x0_2.length : Int)))) rfl (fun hb => ?_) (fun hb => ?_)
 ·have H12 := Jr hb H11; clear H11
  refine Jw ?_
  refine J5 ?_
  refine Jf ?_
  refine Jf ?_
  refine Jb ?_
  refine Ja rfl rfl rfl (Je (v := .pointer (some ⟨pb1, 0, none⟩)) rfl) ?_
  refine Ja rfl rfl rfl (Je (v := str x0_2) rfl) ?_
  refine Ja rfl rfl rfl (Je (v := str x0_2) rfl) ?_
  refine Ja rfl rfl rfl (Wu Tryz.underlying9 rfl) ?_
  obtain ⟨t12, h_t12, H13⟩ := Ji H12; clear H12
  refine Ja rfl rfl rfl (r_subG rfl rfl h_t12) ?_
  obtain ⟨t13, h_t13, H14⟩ := Ji H13; clear H13
  refine Ja rfl rfl rfl (U1 Tryz.underlying9 rfl rfl h_t13) ?_
  obtain ⟨t14, h_t14, H15⟩ := Ji H14; clear H14
  refine Q4 (J6 (i := 0) (rds := []) (G := fun x : Unit => .bool t14.1) (C := fun x : Unit => Jl pb1 (Wl 256 (fun j_ => [.bool (t14.2 j_)])) 128) rfl (fun w L' S hF hS hi hp hlt ho hA => k115 hp hlt (Qn w S)  h_t14) Tryz.call115 rfl) rfl rfl rfl (fun _ => ?_)
  refine Ja rfl rfl rfl (Zm rfl) ?_
  refine Jg ?_
  refine Qg (b := (!t14.1)) rfl (fun hb => ?_) (fun hb => ?_)
  ·have H16 := Jr hb H15; clear H15
   refine Xi ?_
   refine Jf ?_
   refine Jb ?_
   refine Ja rfl rfl rfl (Je (v := str x0_2) rfl) ?_
   refine Ja rfl rfl rfl (Jc (v := str x0_2) rfl) ?_
   refine Jg ?_
   refine Jp ?_
   obtain rfl := Option.some.inj H16
   refine J3 (v := str x0_2) rfl rfl (Yk () (i := 0) rfl rfl (Imp.refl _))
  ·have H17 := Jq hb H15; clear H15
   refine Jw ?_
   refine Jb ?_
   refine Ja rfl rfl rfl (Je (v := str x0_2) rfl) ?_
   refine Ja rfl rfl rfl (Je (v := str x0_2) rfl) ?_
   refine Ja rfl rfl rfl (Wu Tryz.underlying9 rfl) ?_
   obtain ⟨t19, h_t19, H18⟩ := Ji H17; clear H17
   refine Ja rfl rfl rfl (r_subG rfl rfl h_t19) ?_
   obtain ⟨t20, h_t20, H19⟩ := Ji H18; clear H18
   refine Ja rfl rfl rfl (r_cutToG Tryz.underlying9 rfl rfl h_t20) ?_
   refine Ja rfl rfl rfl (Jc (v := str t20) rfl) ?_
   refine Jg ?_
   refine Js (t20, t14.2) () m1 [0] (by exact ⟨rfl, rfl, trivial⟩) (by decide) rfl (by exact ⟨(by subst hn1; exact H19), trivial⟩) (Nat.lt_succ_self _)
 ·have H20 := Jq hb H11; clear H11
  refine Xi ?_
  refine Jf ?_
  refine Jb ?_
  refine Ja rfl rfl rfl (Je (v := str x0_2) rfl) ?_
  refine Ja rfl rfl rfl (Jc (v := str x0_2) rfl) ?_
  refine Jg ?_
  refine Jp ?_
  obtain rfl := Option.some.inj H20
  refine J3 (v := str x0_2) rfl rfl (Yk () (i := 0) rfl rfl (Imp.refl _))
theorem k128 {a0 : (List UInt8)} {r : Int × Int} (H : Vo a0 = some r) : Ret Tryz.prog 128 [str a0] (.tuple #[.int .i32 r.1, .int .i64 r.2]) := by
 refine Qx (n := 117) Tryz.func128 rfl rfl rfl (fun wd => ?_)
 refine Jf ?_
 refine Jb ?_
 refine Ja rfl rfl rfl (Jc (v := .int .i32 0) rfl) ?_
 refine Ja rfl rfl rfl (Jc (v := .int .i64 0) rfl) ?_
 refine Jg ?_
 refine Jf ?_
 refine Jb ?_
 refine Ja rfl rfl rfl (Je (v := str a0) rfl) ?_
 refine Ja rfl rfl rfl (Wu Tryz.underlying9 rfl) ?_
 refine Ja rfl rfl rfl (Jc (v := .int .i64 (a0.length : Int)) rfl) ?_
 refine Jg ?_
 refine Jf ?_
 refine Jf ?_
 refine Jb ?_
 refine Ja rfl rfl rfl (Je (v := .int .i64 (a0.length : Int)) rfl) ?_
 refine Ja rfl rfl rfl (Zd rfl rfl) ?_
 refine Jg ?_
 refine Qg (b := (decide ((a0.length : Int) < 1))) rfl (fun hb => ?_) (fun hb => ?_)
 ·have H3 := Jr hb H; clear H
  refine Jf ?_
  refine Jb ?_
  refine Ja rfl rfl rfl (Jc (v := .int .i32 65533) rfl) ?_
  refine Ja rfl rfl rfl (Jc (v := .int .i64 0) rfl) ?_
  refine Jg ?_
  refine Jp ?_
  obtain rfl := Option.some.inj H3
  refine ret2 (v1 := .int .i32 65533) (v2 := .int .i64 0) rfl rfl rfl (Yd rfl)
 ·have H4 := Jq hb H; clear H
  exact absurd (show (none : Option (Int × Int)) = some r from H4) (fun h => by cases h)
theorem k116 {a0 : (List UInt8)} {r : Int × Int} (H : Zu a0 = some r) : Ret Tryz.prog 116 [str a0] (.tuple #[.int .i32 r.1, .int .i64 r.2]) := by
 refine Qx (n := 19) Tryz.func116 rfl rfl rfl (fun wd => ?_)
 refine Jf ?_
 refine Jb ?_
 refine Ja rfl rfl rfl (Jc (v := .int .i32 0) rfl) ?_
 refine Ja rfl rfl rfl (Jc (v := .int .i64 0) rfl) ?_
 refine Jg ?_
 refine Jf ?_
 refine Xu (r := r) (σ := Bool) (τ := Unit) (fun s => Xz a0 s) (fun s t => [(0, str a0), (10, .bool s)]) (fun s t => []) (fun s t => True) ?_ ?_
 ·refine Jb ?_
  refine Ja rfl rfl rfl (Je (v := str a0) rfl) ?_
  refine Ja rfl rfl rfl (r_neqT rfl rfl) ?_
  refine Ja rfl rfl rfl (Je (v := .bool (decide (a0 ≠ []))) rfl) ?_
  refine split (fun hb => ?_) (fun hb => ?_)
  ·have H16 := Jr hb H; clear H
   refine Ja rfl rfl rfl (Je (v := str a0) rfl) ?_
   obtain ⟨t8, h_t8, H17⟩ := Ji H16; clear H16
   refine Ja rfl rfl rfl (U1 Tryz.underlying9 rfl rfl h_t8) ?_
   refine Ja rfl rfl rfl (Zd rfl rfl) ?_
   refine Ja rfl rfl rfl (J7 (v := .bool (decide (t8 < 128))) rfl rfl) ?_
   refine Jg ?_
   refine Js (decide (t8 < 128)) () 0 [] (by exact ⟨rfl, rfl, trivial⟩) (by decide) rfl (by exact ⟨H17, trivial⟩) (Nat.lt_succ_self _)
  ·have H18 := Jq hb H; clear H
   refine Jk rfl rfl rfl ?_
   refine Jk rfl rfl rfl ?_
   refine Jk rfl rfl rfl ?_
   refine Ja rfl rfl rfl (J1 (v := .bool false) rfl rfl) ?_
   refine Jg ?_
   refine Js false () 0 [] (by exact ⟨rfl, rfl, trivial⟩) (by decide) rfl (by exact ⟨H18, trivial⟩) (Nat.lt_succ_self _)
 ·rintro x10 _ gg H10 _
  replace H10 : Xz a0 x10 = some r := H10
  refine J8 [(0, str a0), (10, .bool x10)] [] rfl rfl ?_
  refine Qg (b := x10) rfl (fun hb => ?_) (fun hb => ?_)
  ·have H11 := Jr hb H10; clear H10
   refine Jf ?_
   refine Jb ?_
   refine Ja rfl rfl rfl (Je (v := str a0) rfl) ?_
   obtain ⟨t12, h_t12, H12⟩ := Ji H11; clear H11
   refine Ja rfl rfl rfl (U1 Tryz.underlying9 rfl rfl h_t12) ?_
   obtain ⟨t13, h_t13, H13⟩ := Ji H12; clear H12
   refine Ja rfl rfl rfl (r_convG Tryz.runUnderlying5 Tryz.runUnderlying21 rfl (gK_i32 h_t13)) ?_
   refine Ja rfl rfl rfl (Jc (v := .int .i32 t13) rfl) ?_
   refine Ja rfl rfl rfl (Jc (v := .int .i64 1) rfl) ?_
   refine Jg ?_
   refine Jp ?_
   obtain rfl := Option.some.inj H13
   refine ret2 (v1 := .int .i32 t13) (v2 := .int .i64 1) rfl rfl rfl (Yd rfl)
  ·have H14 := Jq hb H10; clear H10
   refine Jb ?_
   refine Ja rfl rfl rfl (Je (v := str a0) rfl) ?_
   obtain ⟨t16, h_t16, H15⟩ := Ji H14; clear H14
   refine Q5 (k128 h_t16) Tryz.call128 rfl rfl rfl ?_
   refine Ja rfl rfl rfl (Je (v := .tuple #[.int .i32 t16.1, .int .i64 t16.2]) rfl) ?_
   refine Ja rfl rfl rfl (Xh (v := .int .i32 t16.1) rfl rfl) ?_
   refine Ja rfl rfl rfl (Xh (v := .int .i64 t16.2) rfl rfl) ?_
   refine Ja rfl rfl rfl (Jc (v := .int .i32 t16.1) rfl) ?_
   refine Ja rfl rfl rfl (Jc (v := .int .i64 t16.2) rfl) ?_
   refine Jg ?_
   refine Jp ?_
   obtain rfl := Option.some.inj H15
   refine ret2 (v1 := .int .i32 t16.1) (v2 := .int .i64 t16.2) rfl rfl rfl (Yd rfl)
theorem ext140 (s : List UInt8) (c r : Int) (h : gIxB s c = some r) (w : World) : (callFunc 140 (List.toArray [str s, .int .u8 c])).run Tryz.prog w = .ok (.value (.int .i64 r)) w := by
  have h0 : (callFunc 140 #[str s, .int .u8 c]).run Tryz.prog w = (do pure (.value (← Extern.BytealgIndexByte.indexByte #[str s, .int .u8 c])) : Sem Next).run Tryz.prog w := by kernel_rfl
  rw [h0]
  simp only [Sem.run_bind, Go.Lx.run_ixB h, Result.andThen_ok, Sem.run_pure]
theorem k139 {a0 : (List UInt8)} {a1 : Int} {r : Int} (H : Wq a0 a1 = some r) : Ret Tryz.prog 139 [str a0, .int .u8 a1] (.int .i64 r) := by
 refine Qx (n := 8) Tryz.func139 rfl rfl rfl (fun wd => ?_)
 refine Jf ?_
 refine Jb ?_
 refine Ja rfl rfl rfl (Jc (v := .int .i64 0) rfl) ?_
 refine Jg ?_
 refine Jf ?_
 refine Jb ?_
 refine Ja rfl rfl rfl (Je (v := str a0) rfl) ?_
 refine Ja rfl rfl rfl (Je (v := .int .u8 a1) rfl) ?_
 obtain ⟨t7, h_t7, H2⟩ := Ji H; clear H
 refine Ja rfl rfl rfl (r_ext (args := [str a0, .int .u8 a1]) (ext140 _ _ _ h_t7) rfl) ?_
 refine Ja rfl rfl rfl (Jc (v := .int .i64 t7) rfl) ?_
 refine Jg ?_
 refine Jp ?_
 obtain rfl := Option.some.inj H2
 refine J3 (v := .int .i64 t7) rfl rfl (Yd rfl)
theorem k134 {a0 : (List UInt8)} {a1 : Int} {r : Int} (H : strings_IndexByte a0 a1 = some r) : Ret Tryz.prog 134 [str a0, .int .u8 a1] (.int .i64 r) := by
 refine Qx (n := 8) Tryz.func134 rfl rfl rfl (fun wd => ?_)
 refine Jf ?_
 refine Jb ?_
 refine Ja rfl rfl rfl (Jc (v := .int .i64 0) rfl) ?_
 refine Jg ?_
 refine Jf ?_
 refine Jb ?_
 refine Ja rfl rfl rfl (Je (v := str a0) rfl) ?_
 refine Ja rfl rfl rfl (Je (v := .int .u8 a1) rfl) ?_
 obtain ⟨t7, h_t7, H2⟩ := Ji H; clear H
 refine Q5 (k139 h_t7) Tryz.call139 rfl rfl rfl ?_
 refine Ja rfl rfl rfl (Jc (v := .int .i64 t7) rfl) ?_
 refine Jg ?_
 refine Jp ?_
 obtain rfl := Option.some.inj H2
 refine J3 (v := .int .i64 t7) rfl rfl (Yd rfl)
theorem k135 {a0 : Int} {r : Bool} (H : Jar a0 = some r) : Ret Tryz.prog 135 [.int .i32 a0] (.bool r) := by
 refine Qx (n := 17) Tryz.func135 rfl rfl rfl (fun wd => ?_)
 refine Jf ?_
 refine Jb ?_
 refine Ja rfl rfl rfl (Jc (v := .bool false) rfl) ?_
 refine Jg ?_
 refine Jf ?_
 refine J5 ?_
 refine Xu (r := r) (σ := Bool) (τ := Unit) (fun s => Zw a0 s) (fun s t => [(0, .int .i32 a0), (3, .bool s)]) (fun s t => []) (fun s t => True) ?_ ?_
 ·refine Jb ?_
  refine Ja rfl rfl rfl (Je (v := .int .i32 a0) rfl) ?_
  refine Ja rfl rfl rfl (r_leq rfl rfl) ?_
  refine Ja rfl rfl rfl (Je (v := .bool (decide (0 ≤ a0))) rfl) ?_
  refine split (fun hb => ?_) (fun hb => ?_)
  ·have H17 := Jr hb H; clear H
   refine Ja rfl rfl rfl (Je (v := .int .i32 a0) rfl) ?_
   refine Ja rfl rfl rfl (Zd rfl rfl) ?_
   refine Ja rfl rfl rfl (J7 (v := .bool (decide (a0 < 55296))) rfl rfl) ?_
   refine Ja rfl rfl rfl (Jc (v := .bool (decide (a0 < 55296))) rfl) ?_
   refine Jg ?_
   refine Js (decide (a0 < 55296)) () 0 [] (by exact ⟨rfl, rfl, trivial⟩) (by decide) rfl (by exact ⟨H17, trivial⟩) (Nat.lt_succ_self _)
  ·have H18 := Jq hb H; clear H
   refine Jk rfl rfl rfl ?_
   refine Jk rfl rfl rfl ?_
   refine Ja rfl rfl rfl (J1 (v := .bool false) rfl rfl) ?_
   refine Ja rfl rfl rfl (Jc (v := .bool false) rfl) ?_
   refine Jg ?_
   refine Js false () 0 [] (by exact ⟨rfl, rfl, trivial⟩) (by decide) rfl (by exact ⟨H18, trivial⟩) (Nat.lt_succ_self _)
 ·rintro x3 _ gg H10 _
  replace H10 : Zw a0 x3 = some r := H10
  refine J8 [(0, .int .i32 a0), (3, .bool x3)] [] rfl rfl ?_
  refine Qg (b := x3) rfl (fun hb => ?_) (fun hb => ?_)
  ·have H11 := Jr hb H10; clear H10
   refine Jf ?_
   refine Jb ?_
   refine Ja rfl rfl rfl (Jc (v := .bool true) rfl) ?_
   refine Jg ?_
   refine Jp ?_
   obtain rfl := Option.some.inj H11
   refine J3 (v := .bool true) rfl rfl (Yd rfl)
  ·have H12 := Jq hb H10; clear H10
   refine Jf ?_
   refine Jb ?_
   refine Ja rfl rfl rfl (Je (v := .int .i32 a0) rfl) ?_
   refine Ja rfl rfl rfl (Zd rfl rfl) ?_
   refine Ja rfl rfl rfl (Je (v := .bool (decide (57343 < a0))) rfl) ?_
   refine split (fun hb => ?_) (fun hb => ?_)
   ·have H13 := Jr hb H12; clear H12
    refine Ja rfl rfl rfl (Je (v := .int .i32 a0) rfl) ?_
    refine Ja rfl rfl rfl (r_leq rfl rfl) ?_
    refine Ja rfl rfl rfl (J7 (v := .bool (decide (a0 ≤ 1114111))) rfl rfl) ?_
    refine Ja rfl rfl rfl (Jc (v := .bool (decide (a0 ≤ 1114111))) rfl) ?_
    refine Jg ?_
    refine Qg (b := (decide (a0 ≤ 1114111))) rfl (fun hb => ?_) (fun hb => ?_)
    ·have H14 := Jr hb H13; clear H13
     refine Jf ?_
     refine Jb ?_
     refine Ja rfl rfl rfl (Jc (v := .bool true) rfl) ?_
     refine Jg ?_
     refine Jp ?_
     obtain rfl := Option.some.inj H14
     refine J3 (v := .bool true) rfl rfl (Yd rfl)
    ·have H15 := Jq hb H13; clear H13
     refine Jw ?_
     refine Jf ?_
     refine Jb ?_
     refine Ja rfl rfl rfl (Jc (v := .bool false) rfl) ?_
     refine Jg ?_
     refine Jp ?_
     obtain rfl := Option.some.inj H15
     refine J3 (v := .bool false) rfl rfl (Yd rfl)
   ·have H16 := Jq hb H12; clear H12
    refine Jk rfl rfl rfl ?_
    refine Jk rfl rfl rfl ?_
    refine Ja rfl rfl rfl (J1 (v := .bool false) rfl rfl) ?_
    refine Ja rfl rfl rfl (Jc (v := .bool false) rfl) ?_
    refine Jg ?_
    refine Jab rfl ?_
    refine Jw ?_
    refine Jf ?_
    refine Jb ?_
    refine Ja rfl rfl rfl (Jc (v := .bool false) rfl) ?_
    refine Jg ?_
    refine Jp ?_
    obtain rfl := Option.some.inj H16
    refine J3 (v := .bool false) rfl rfl (Yd rfl)
theorem k129 {a0 : (List UInt8)} {a1 : Int} {r : Int} (H : strings_IndexRune a0 a1 = some r) : Ret Tryz.prog 129 [str a0, .int .i32 a1] (.int .i64 r) := by
 refine Qx (n := 187) Tryz.func129 rfl rfl rfl (fun wd => ?_)
 refine Jf ?_
 refine Jb ?_
 refine Ja rfl rfl rfl (Jc (v := .int .i64 0) rfl) ?_
 refine Jg ?_
 refine J5 ?_
 refine Xu (r := r) (σ := Bool) (τ := Unit) (fun s => V7 a0 a1 s) (fun s t => [(0, str a0), (1, .int .i32 a1), (160, .bool s)]) (fun s t => []) (fun s t => True) ?_ ?_
 ·refine Jb ?_
  refine Ja rfl rfl rfl (Je (v := .int .i32 a1) rfl) ?_
  refine Ja rfl rfl rfl (r_leq rfl rfl) ?_
  refine Ja rfl rfl rfl (Je (v := .bool (decide (0 ≤ a1))) rfl) ?_
  refine split (fun hb => ?_) (fun hb => ?_)
  ·have H33 := Jr hb H; clear H
   refine Ja rfl rfl rfl (Je (v := .int .i32 a1) rfl) ?_
   refine Ja rfl rfl rfl (Zd rfl rfl) ?_
   refine Ja rfl rfl rfl (J7 (v := .bool (decide (a1 < 128))) rfl rfl) ?_
   refine Ja rfl rfl rfl (Jc (v := .bool (decide (a1 < 128))) rfl) ?_
   refine Jg ?_
   refine Js (decide (a1 < 128)) () 0 [] (by exact ⟨rfl, rfl, rfl, trivial⟩) (by decide) rfl (by exact ⟨H33, trivial⟩) (Nat.lt_succ_self _)
  ·have H34 := Jq hb H; clear H
   refine Jk rfl rfl rfl ?_
   refine Jk rfl rfl rfl ?_
   refine Ja rfl rfl rfl (J1 (v := .bool false) rfl rfl) ?_
   refine Ja rfl rfl rfl (Jc (v := .bool false) rfl) ?_
   refine Jg ?_
   refine Js false () 0 [] (by exact ⟨rfl, rfl, rfl, trivial⟩) (by decide) rfl (by exact ⟨H34, trivial⟩) (Nat.lt_succ_self _)
 ·rintro x160 _ gg H18 _
  replace H18 : V7 a0 a1 x160 = some r := H18
  refine J8 [(0, str a0), (1, .int .i32 a1), (160, .bool x160)] [] rfl rfl ?_
  refine Qg (b := x160) rfl (fun hb => ?_) (fun hb => ?_)
  ·have H19 := Jr hb H18; clear H18
   refine Jf ?_
   refine Jb ?_
   refine Ja rfl rfl rfl (Je (v := str a0) rfl) ?_
   refine Ja rfl rfl rfl (Je (v := .int .i32 a1) rfl) ?_
   refine Ja rfl rfl rfl (r_convG Tryz.runUnderlying21 Tryz.runUnderlying5 rfl (wr_u8 _)) ?_
   obtain ⟨t170, h_t170, H20⟩ := Ji H19; clear H19
   refine Q5 (k134 h_t170) Tryz.call134 rfl rfl rfl ?_
   refine Ja rfl rfl rfl (Jc (v := .int .i64 t170) rfl) ?_
   refine Jg ?_
   refine Jp ?_
   obtain rfl := Option.some.inj H20
   refine J3 (v := .int .i64 t170) rfl rfl (Yd rfl)
  ·have H21 := Jq hb H18; clear H18
   refine Jf ?_
   refine Jb ?_
   refine Ja rfl rfl rfl (Je (v := .int .i32 a1) rfl) ?_
   refine Ja rfl rfl rfl (Xd rfl rfl) ?_
   refine Ja rfl rfl rfl (Jc (v := .bool (decide (a1 = 65533))) rfl) ?_
   refine Jg ?_
   refine Qg (b := (decide (a1 = 65533))) rfl (fun hb => ?_) (fun hb => ?_)
   ·have H22 := Jr hb H21; clear H21
    refine Jf ?_
    refine Jf ?_
    refine Jb ?_
    refine Ja rfl rfl rfl (Je (v := str a0) rfl) ?_
    refine Zq (rds := []) (makes_range (s := a0) Tryz.underlying9 rfl) rfl rfl rfl (fun b1 => ?_)
    refine Jg ?_
    refine J5 ?_
    refine Vn (σ := Nat) (τ := Unit) (fun next2 s => Z9 a0 next2 s) (fun s t => [(175, .pointer (some ⟨b1, 0, none⟩))]) (fun s t => [iterC b1 a0 s]) (fun s t => True) 0 () [0] H22 (by exact trivial) (by exact ⟨rfl, trivial⟩) (by decide) rfl ?_
    rintro k_2 _ m2 gg H23 _
    clear H22
    replace H23 : Z9 a0 (it (fun next2 s => Z9 a0 next2 s) m2) k_2 = some r := H23
    generalize hn2 : it (fun next2 s => Z9 a0 next2 s) m2 = next2 at H23
    refine J8 [(175, .pointer (some ⟨b1, 0, none⟩))] [iterC b1 a0 k_2] rfl rfl ?_
    refine Jf ?_
    refine Jb ?_
    refine caseB (decide (k_2 < a0.length)) (fun hb => ?_) (fun hb => ?_)
    ·have H24 := Jr hb H23; clear H23
     obtain ⟨t176, h_t176, H25⟩ := Ji H24; clear H24
     refine Q4 (turns_next (i := 0) (rds := []) rfl rfl h_t176) rfl rfl rfl (fun _ => ?_)
     refine Ja rfl rfl rfl (Xh (v := .bool true) rfl rfl) ?_
     refine Jg ?_
     refine Jf ?_
     refine U3 rfl ?_
     refine Jw ?_
     refine J5 ?_
     refine Jf ?_
     refine Jb ?_
     refine Ja rfl rfl rfl (Xh (v := .int .i64 ((k_2 : Nat) : Int)) rfl rfl) ?_
     refine Ja rfl rfl rfl (Xh (v := .int .i32 t176) rfl rfl) ?_
     refine Ja rfl rfl rfl (Jc (v := .int .i64 ((k_2 : Nat) : Int)) rfl) ?_
     refine Ja rfl rfl rfl (Jc (v := .int .i32 t176) rfl) ?_
     refine Jg ?_
     refine Jf ?_
     refine Jb ?_
     refine Ja rfl rfl rfl (Je (v := .int .i32 t176) rfl) ?_
     refine Ja rfl rfl rfl (Xd rfl rfl) ?_
     refine Jg ?_
     refine Qg (b := (decide (t176 = 65533))) rfl (fun hb => ?_) (fun hb => ?_)
     ·have H26 := Jr hb H25; clear H25
      refine Jf ?_
      refine Jb ?_
      refine Ja rfl rfl rfl (Je (v := .int .i64 ((k_2 : Nat) : Int)) rfl) ?_
      refine Ja rfl rfl rfl (Jc (v := .int .i64 ((k_2 : Nat) : Int)) rfl) ?_
      refine Jg ?_
      refine Jp ?_
      obtain rfl := Option.some.inj H26
      refine J3 (v := .int .i64 ((k_2 : Nat) : Int)) rfl rfl (Yd rfl)
     ·have H27 := Jq hb H25; clear H25
      refine Jw ?_
      refine Js (k_2 + 1) () m2 [0] (by exact ⟨rfl, trivial⟩) (by decide) rfl (by exact ⟨(by subst hn2; exact H27), trivial⟩) (Nat.lt_succ_self _)
    ·have H28 := Jq hb H23; clear H23
     refine Qo (fun w hF hS => r_nextOver (i := 0) hS rfl rfl hb) rfl rfl rfl ?_
     refine Ja rfl rfl rfl (Xh (v := .bool false) rfl rfl) ?_
     refine Jg ?_
     refine Jf ?_
     refine Jab rfl ?_
     refine Xi ?_
     refine Jf ?_
     refine Jb ?_
     refine Ja rfl rfl rfl (Jc (v := .int .i64 (-1)) rfl) ?_
     refine Jg ?_
     refine Jp ?_
     obtain rfl := Option.some.inj H28
     refine J3 (v := .int .i64 (-1)) rfl rfl (Yd rfl)
   ·have H29 := Jq hb H21; clear H21
    refine Jf ?_
    refine Jb ?_
    refine Ja rfl rfl rfl (Je (v := .int .i32 a1) rfl) ?_
    obtain ⟨t185, h_t185, H30⟩ := Ji H29; clear H29
    refine Q5 (k135 h_t185) Tryz.call135 rfl rfl rfl ?_
    refine Ja rfl rfl rfl (Zm rfl) ?_
    refine Ja rfl rfl rfl (Jc (v := .bool (!t185)) rfl) ?_
    refine Jg ?_
    refine Qg (b := (!t185)) rfl (fun hb => ?_) (fun hb => ?_)
    ·have H31 := Jr hb H30; clear H30
     refine Jf ?_
     refine Jb ?_
     refine Ja rfl rfl rfl (Jc (v := .int .i64 (-1)) rfl) ?_
     refine Jg ?_
     refine Jp ?_
     obtain rfl := Option.some.inj H31
     refine J3 (v := .int .i64 (-1)) rfl rfl (Yd rfl)
    ·have H32 := Jq hb H30; clear H30
     exact absurd (show (none : Option (Int)) = some r from H32) (fun h => by cases h)
theorem k117 {a0 : (List UInt8)} {a1 : Int} {r : Bool} (H : Uj a0 a1 = some r) : Ret Tryz.prog 117 [str a0, .int .i32 a1] (.bool r) := by
 refine Qx (n := 9) Tryz.func117 rfl rfl rfl (fun wd => ?_)
 refine Jf ?_
 refine Jb ?_
 refine Ja rfl rfl rfl (Jc (v := .bool false) rfl) ?_
 refine Jg ?_
 refine Jf ?_
 refine Jb ?_
 refine Ja rfl rfl rfl (Je (v := str a0) rfl) ?_
 refine Ja rfl rfl rfl (Je (v := .int .i32 a1) rfl) ?_
 obtain ⟨t7, h_t7, H2⟩ := Ji H; clear H
 refine Q5 (k129 h_t7) Tryz.call129 rfl rfl rfl ?_
 refine Ja rfl rfl rfl (r_geq rfl rfl) ?_
 refine Ja rfl rfl rfl (Jc (v := .bool (decide (0 ≤ t7))) rfl) ?_
 refine Jg ?_
 refine Jp ?_
 obtain rfl := Option.some.inj H2
 refine J3 (v := .bool (decide (0 ≤ t7))) rfl rfl (Yd rfl)
theorem k106 {a0 : (List UInt8)} {a1 : (List UInt8)} {r : (List UInt8)} (H : Jal a0 a1 = some r) : Ret Tryz.prog 106 [str a0, str a1] (str r) := by
 refine Qx (n := 23) Tryz.func106 rfl rfl rfl (fun wd => ?_)
 refine Jf ?_
 refine Jb ?_
 refine Ja rfl rfl rfl (Jc (v := str []) rfl) ?_
 refine Jg ?_
 refine Jf ?_
 refine J5 ?_
 refine Vn (σ := (List UInt8)) (τ := Unit) (fun next1 s => Yr a1 next1 s) (fun s t => [(0, str s), (1, str a1)]) (fun s t => []) (fun s t => True) a0 () [] H (by exact trivial) (by exact ⟨rfl, rfl, trivial⟩) (by decide) rfl ?_
 rintro x0_2 _ m1 gg H9 _
 clear H
 replace H9 : Yr a1 (it (fun next1 s => Yr a1 next1 s) m1) x0_2 = some r := H9
 generalize hn1 : it (fun next1 s => Yr a1 next1 s) m1 = next1 at H9
 refine J8 [(0, str x0_2), (1, str a1)] [] rfl rfl ?_
 refine Jf ?_
 refine Jf ?_
 refine Jb ?_
 refine Ja rfl rfl rfl (Je (v := str x0_2) rfl) ?_
 refine Ja rfl rfl rfl (Wu Tryz.underlying9 rfl) ?_
 refine Ja rfl rfl rfl (r_gtr rfl rfl) ?_
 refine Jg ?_
 refine Qg (b := (decide (0 < (x0_2.length : Int)))) rfl (fun hb => ?_) (fun hb => ?_)
 ·have H10 := Jr hb H9; clear H9
  refine Jw ?_
  refine J5 ?_
  refine Jf ?_
  refine Jb ?_
  refine Ja rfl rfl rfl (Je (v := str x0_2) rfl) ?_
  obtain ⟨t12, h_t12, H11⟩ := Ji H10; clear H10
  refine Q5 (k116 h_t12) Tryz.call116 rfl rfl rfl ?_
  refine Ja rfl rfl rfl (Je (v := .tuple #[.int .i32 t12.1, .int .i64 t12.2]) rfl) ?_
  refine Ja rfl rfl rfl (Xh (v := .int .i32 t12.1) rfl rfl) ?_
  refine Ja rfl rfl rfl (Xh (v := .int .i64 t12.2) rfl rfl) ?_
  refine Ja rfl rfl rfl (Jc (v := .int .i32 t12.1) rfl) ?_
  refine Ja rfl rfl rfl (Jc (v := .int .i64 t12.2) rfl) ?_
  refine Jg ?_
  refine Jf ?_
  refine Jf ?_
  refine Jb ?_
  refine Ja rfl rfl rfl (Je (v := str a1) rfl) ?_
  refine Ja rfl rfl rfl (Je (v := .int .i32 t12.1) rfl) ?_
  obtain ⟨t17, h_t17, H12⟩ := Ji H11; clear H11
  refine Q5 (k117 h_t17) Tryz.call117 rfl rfl rfl ?_
  refine Ja rfl rfl rfl (Zm rfl) ?_
  refine Jg ?_
  refine Qg (b := (!t17)) rfl (fun hb => ?_) (fun hb => ?_)
  ·have H13 := Jr hb H12; clear H12
   refine Xi ?_
   refine Jf ?_
   refine Jb ?_
   refine Ja rfl rfl rfl (Je (v := str x0_2) rfl) ?_
   refine Ja rfl rfl rfl (Jc (v := str x0_2) rfl) ?_
   refine Jg ?_
   refine Jp ?_
   obtain rfl := Option.some.inj H13
   refine J3 (v := str x0_2) rfl rfl (Yd rfl)
  ·have H14 := Jq hb H12; clear H12
   refine Jw ?_
   refine Jb ?_
   refine Ja rfl rfl rfl (Je (v := str x0_2) rfl) ?_
   refine Ja rfl rfl rfl (Je (v := .int .i64 t12.2) rfl) ?_
   obtain ⟨t21, h_t21, H15⟩ := Ji H14; clear H14
   refine Ja rfl rfl rfl (r_cutFromG Tryz.underlying9 rfl rfl h_t21) ?_
   refine Ja rfl rfl rfl (Jc (v := str t21) rfl) ?_
   refine Jg ?_
   refine Js t21 () m1 [] (by exact ⟨rfl, rfl, trivial⟩) (by decide) rfl (by exact ⟨(by subst hn1; exact H15), trivial⟩) (Nat.lt_succ_self _)
 ·have H16 := Jq hb H9; clear H9
  refine Xi ?_
  refine Jf ?_
  refine Jb ?_
  refine Ja rfl rfl rfl (Je (v := str x0_2) rfl) ?_
  refine Ja rfl rfl rfl (Jc (v := str x0_2) rfl) ?_
  refine Jg ?_
  refine Jp ?_
  obtain rfl := Option.some.inj H16
  refine J3 (v := str x0_2) rfl rfl (Yd rfl)
theorem k130 {a0 : Int} {r : Bool} (H : Jat a0 = some r) : Ret Tryz.prog 130 [.int .u8 a0] (.bool r) := by
 refine Qx (n := 6) Tryz.func130 rfl rfl rfl (fun wd => ?_)
 refine Jf ?_
 refine Jb ?_
 refine Ja rfl rfl rfl (Jc (v := .bool false) rfl) ?_
 refine Jg ?_
 refine Jf ?_
 refine Jb ?_
 refine Ja rfl rfl rfl (Je (v := .int .u8 a0) rfl) ?_
 refine Ja rfl rfl rfl (r_bitsAnd (bits := 8) rfl rfl rfl (wr_u8 _)) ?_
 refine Ja rfl rfl rfl (r_neq rfl rfl) ?_
 refine Ja rfl rfl rfl (Jc (v := .bool (decide ((wU8 (bAnd 8 a0 192)) ≠ 128))) rfl) ?_
 refine Jg ?_
 refine Jp ?_
 obtain rfl := Option.some.inj H
 refine J3 (v := .bool (decide ((wU8 (bAnd 8 a0 192)) ≠ 128))) rfl rfl (Yd rfl)
theorem k118 {a0 : (List UInt8)} {r : Int × Int} (H : Vm a0 = some r) : Ret Tryz.prog 118 [str a0] (.tuple #[.int .i32 r.1, .int .i64 r.2]) := by
 refine Qx (n := 51) Tryz.func118 rfl rfl rfl (fun wd => ?_)
 refine Jf ?_
 refine Jb ?_
 refine Ja rfl rfl rfl (Jc (v := .int .i32 0) rfl) ?_
 refine Ja rfl rfl rfl (Jc (v := .int .i64 0) rfl) ?_
 refine Jg ?_
 refine Jf ?_
 refine Jb ?_
 refine Ja rfl rfl rfl (Je (v := str a0) rfl) ?_
 refine Ja rfl rfl rfl (Wu Tryz.underlying9 rfl) ?_
 refine Ja rfl rfl rfl (Jc (v := .int .i64 (a0.length : Int)) rfl) ?_
 refine Jg ?_
 refine Jf ?_
 refine Jf ?_
 refine Jb ?_
 refine Ja rfl rfl rfl (Je (v := .int .i64 (a0.length : Int)) rfl) ?_
 refine Ja rfl rfl rfl (Xd rfl rfl) ?_
 refine Jg ?_
 refine Qg (b := (decide ((a0.length : Int) = 0))) rfl (fun hb => ?_) (fun hb => ?_)
 ·have H27 := Jr hb H; clear H
  refine Jf ?_
  refine Jb ?_
  refine Ja rfl rfl rfl (Jc (v := .int .i32 65533) rfl) ?_
  refine Ja rfl rfl rfl (Jc (v := .int .i64 0) rfl) ?_
  refine Jg ?_
  refine Jp ?_
  obtain rfl := Option.some.inj H27
  refine ret2 (v1 := .int .i32 65533) (v2 := .int .i64 0) rfl rfl rfl (Yd rfl)
 ·have H28 := Jq hb H; clear H
  refine Jw ?_
  refine Jf ?_
  refine Jb ?_
  refine Ja rfl rfl rfl (Je (v := .int .i64 (a0.length : Int)) rfl) ?_
  obtain ⟨t12, h_t12, H29⟩ := Ji H28; clear H28
  refine Ja rfl rfl rfl (r_subG rfl rfl h_t12) ?_
  refine Ja rfl rfl rfl (Jc (v := .int .i64 t12) rfl) ?_
  refine Jg ?_
  refine Jf ?_
  refine Jb ?_
  refine Ja rfl rfl rfl (Je (v := str a0) rfl) ?_
  refine Ja rfl rfl rfl (Je (v := .int .i64 t12) rfl) ?_
  obtain ⟨t15, h_t15, H30⟩ := Ji H29; clear H29
  refine Ja rfl rfl rfl (U1 Tryz.underlying9 rfl rfl h_t15) ?_
  obtain ⟨t16, h_t16, H31⟩ := Ji H30; clear H30
  refine Ja rfl rfl rfl (r_convG Tryz.runUnderlying5 Tryz.runUnderlying21 rfl (gK_i32 h_t16)) ?_
  refine Ja rfl rfl rfl (Jc (v := .int .i32 t16) rfl) ?_
  refine Jg ?_
  refine Jf ?_
  refine Jf ?_
  refine Jb ?_
  refine Ja rfl rfl rfl (Je (v := .int .i32 t16) rfl) ?_
  refine Ja rfl rfl rfl (Zd rfl rfl) ?_
  refine Jg ?_
  refine Qg (b := (decide (t16 < 128))) rfl (fun hb => ?_) (fun hb => ?_)
  ·have H32 := Jr hb H31; clear H31
   refine Jf ?_
   refine Jb ?_
   refine Ja rfl rfl rfl (Je (v := .int .i32 t16) rfl) ?_
   refine Ja rfl rfl rfl (Jc (v := .int .i32 t16) rfl) ?_
   refine Ja rfl rfl rfl (Jc (v := .int .i64 1) rfl) ?_
   refine Jg ?_
   refine Jp ?_
   obtain rfl := Option.some.inj H32
   refine ret2 (v1 := .int .i32 t16) (v2 := .int .i64 1) rfl rfl rfl (Yd rfl)
  ·have H33 := Jq hb H31; clear H31
   refine Jw ?_
   refine Jf ?_
   refine Jb ?_
   refine Ja rfl rfl rfl (Je (v := .int .i64 (a0.length : Int)) rfl) ?_
   obtain ⟨t21, h_t21, H34⟩ := Ji H33; clear H33
   refine Ja rfl rfl rfl (r_subG rfl rfl h_t21) ?_
   refine Ja rfl rfl rfl (r_max rfl rfl) ?_
   refine Ja rfl rfl rfl (Jc (v := .int .i64 (max t21 0)) rfl) ?_
   refine Jg ?_
   refine Xu (r := r) (σ := Int) (τ := Unit) (fun s => Xc a0 s) (fun s t => [(0, str a0), (4, .int .i64 (a0.length : Int)), (5, .int .i64 s)]) (fun s t => []) (fun s t => True) ?_ ?_
   ·refine Jf ?_
    refine Jb ?_
    refine Ja rfl rfl rfl (Je (v := .int .i64 t12) rfl) ?_
    obtain ⟨t24, h_t24, H44⟩ := Ji H34; clear H34
    refine Ja rfl rfl rfl (r_subG rfl rfl h_t24) ?_
    refine Ja rfl rfl rfl (Jc (v := .int .i64 t24) rfl) ?_
    refine Jg ?_
    refine J5 ?_
    refine Vn (σ := Int) (τ := Unit) (fun next3 s => Qv a0 t21 next3 s) (fun s t => [(0, str a0), (4, .int .i64 (a0.length : Int)), (5, .int .i64 s), (6, .int .i64 (max t21 0))]) (fun s t => []) (fun s t => True) t24 () [] H44 (by exact trivial) (by exact ⟨rfl, rfl, rfl, rfl, trivial⟩) (by decide) rfl ?_
    rintro x5_4 _ m3 gg H45 _
    clear H44
    replace H45 : Qv a0 t21 (it (fun next3 s => Qv a0 t21 next3 s) m3) x5_4 = some r := H45
    generalize hn3 : it (fun next3 s => Qv a0 t21 next3 s) m3 = next3 at H45
    refine J8 [(0, str a0), (4, .int .i64 (a0.length : Int)), (5, .int .i64 x5_4), (6, .int .i64 (max t21 0))] [] rfl rfl ?_
    refine Jf ?_
    refine Jf ?_
    refine Jb ?_
    refine Ja rfl rfl rfl (Je (v := .int .i64 x5_4) rfl) ?_
    refine Ja rfl rfl rfl (Je (v := .int .i64 (max t21 0)) rfl) ?_
    refine Ja rfl rfl rfl (r_geq rfl rfl) ?_
    refine Jg ?_
    refine Qg (b := (decide ((max t21 0) ≤ x5_4))) rfl (fun hb => ?_) (fun hb => ?_)
    ·have H46 := Jr hb H45; clear H45
     refine Jw ?_
     refine Jf ?_
     refine J5 ?_
     refine Jf ?_
     refine Jb ?_
     refine Ja rfl rfl rfl (Je (v := str a0) rfl) ?_
     refine Ja rfl rfl rfl (Je (v := .int .i64 x5_4) rfl) ?_
     obtain ⟨t32, h_t32, H47⟩ := Ji H46; clear H46
     refine Ja rfl rfl rfl (U1 Tryz.underlying9 rfl rfl h_t32) ?_
     obtain ⟨t33, h_t33, H48⟩ := Ji H47; clear H47
     refine Q5 (k130 h_t33) Tryz.call130 rfl rfl rfl ?_
     refine Jg ?_
     refine Qg (b := t33) rfl (fun hb => ?_) (fun hb => ?_)
     ·have H49 := Jr hb H48; clear H48
      refine Xi ?_
      refine Js x5_4 () 0 [] (by exact ⟨rfl, rfl, rfl, trivial⟩) (by decide) rfl (by exact ⟨H49, trivial⟩) (Nat.lt_succ_self _)
     ·have H50 := Jq hb H48; clear H48
      refine Jw ?_
      refine Jb ?_
      refine Ja rfl rfl rfl (Je (v := .int .i64 x5_4) rfl) ?_
      obtain ⟨t29, h_t29, H51⟩ := Ji H50; clear H50
      refine Ja rfl rfl rfl (r_subG rfl rfl h_t29) ?_
      refine Ja rfl rfl rfl (Jc (v := .int .i64 t29) rfl) ?_
      refine Jg ?_
      refine Js t29 () m3 [] (by exact ⟨rfl, rfl, rfl, rfl, trivial⟩) (by decide) rfl (by exact ⟨(by subst hn3; exact H51), trivial⟩) (Nat.lt_succ_self _)
    ·have H52 := Jq hb H45; clear H45
     refine Xi ?_
     refine Js x5_4 () 0 [] (by exact ⟨rfl, rfl, rfl, trivial⟩) (by decide) rfl (by exact ⟨H52, trivial⟩) (Nat.lt_succ_self _)
   ·rintro x5 _ gg H35 _
    replace H35 : Xc a0 x5 = some r := H35
    refine J8 [(0, str a0), (4, .int .i64 (a0.length : Int)), (5, .int .i64 x5)] [] rfl rfl ?_
    refine Xu (r := r) (σ := Int) (τ := Unit) (fun s => Xb a0 s) (fun s t => [(0, str a0), (4, .int .i64 (a0.length : Int)), (5, .int .i64 s)]) (fun s t => []) (fun s t => True) ?_ ?_
    ·refine Jf ?_
     refine Jb ?_
     refine Ja rfl rfl rfl (Je (v := .int .i64 x5) rfl) ?_
     refine Ja rfl rfl rfl (Zd rfl rfl) ?_
     refine Jg ?_
     refine Qg (b := (decide (x5 < 0))) rfl (fun hb => ?_) (fun hb => ?_)
     ·have H42 := Jr hb H35; clear H35
      refine Jb ?_
      refine Ja rfl rfl rfl (Jc (v := .int .i64 0) rfl) ?_
      refine Jg ?_
      refine Js 0 () 0 [] (by exact ⟨rfl, rfl, rfl, trivial⟩) (by decide) rfl (by exact ⟨H42, trivial⟩) (Nat.lt_succ_self _)
     ·have H43 := Jq hb H35; clear H35
      refine Jw ?_
      refine Js x5 () 0 [] (by exact ⟨rfl, rfl, rfl, trivial⟩) (by decide) rfl (by exact ⟨H43, trivial⟩) (Nat.lt_succ_self _)
    ·rintro x5_2 _ gg H36 _
     replace H36 : Xb a0 x5_2 = some r := H36
     refine J8 [(0, str a0), (4, .int .i64 (a0.length : Int)), (5, .int .i64 x5_2)] [] rfl rfl ?_
     refine Jf ?_
     refine Jb ?_
     refine Ja rfl rfl rfl (Je (v := str a0) rfl) ?_
     refine Ja rfl rfl rfl (Je (v := .int .i64 x5_2) rfl) ?_
     refine Ja rfl rfl rfl (Je (v := .int .i64 (a0.length : Int)) rfl) ?_
     obtain ⟨t40, h_t40, H37⟩ := Ji H36; clear H36
     refine Ja rfl rfl rfl (r_cutTG Tryz.underlying9 rfl rfl rfl h_t40) ?_
     obtain ⟨t41, h_t41, H38⟩ := Ji H37; clear H37
     refine Q5 (k116 h_t41) Tryz.call116 rfl rfl rfl ?_
     refine Ja rfl rfl rfl (Je (v := .tuple #[.int .i32 t41.1, .int .i64 t41.2]) rfl) ?_
     refine Ja rfl rfl rfl (Xh (v := .int .i32 t41.1) rfl rfl) ?_
     refine Ja rfl rfl rfl (Xh (v := .int .i64 t41.2) rfl rfl) ?_
     refine Ja rfl rfl rfl (Jc (v := .int .i32 t41.1) rfl) ?_
     refine Ja rfl rfl rfl (Jc (v := .int .i64 t41.2) rfl) ?_
     refine Jg ?_
     refine Jf ?_
     refine Jf ?_
     refine Jb ?_
     refine Ja rfl rfl rfl (Je (v := .int .i64 x5_2) rfl) ?_
     refine Ja rfl rfl rfl (Je (v := .int .i64 t41.2) rfl) ?_
     obtain ⟨t46, h_t46, H39⟩ := Ji H38; clear H38
     refine Ja rfl rfl rfl (Yj rfl rfl h_t46) ?_
     refine Ja rfl rfl rfl (Je (v := .int .i64 (a0.length : Int)) rfl) ?_
     refine Ja rfl rfl rfl (r_neq rfl rfl) ?_
     refine Jg ?_
     refine Qg (b := (decide (t46 ≠ (a0.length : Int)))) rfl (fun hb => ?_) (fun hb => ?_)
     ·have H40 := Jr hb H39; clear H39
      refine Jf ?_
      refine Jb ?_
      refine Ja rfl rfl rfl (Jc (v := .int .i32 65533) rfl) ?_
      refine Ja rfl rfl rfl (Jc (v := .int .i64 1) rfl) ?_
      refine Jg ?_
      refine Jp ?_
      obtain rfl := Option.some.inj H40
      refine ret2 (v1 := .int .i32 65533) (v2 := .int .i64 1) rfl rfl rfl (Yd rfl)
     ·have H41 := Jq hb H39; clear H39
      refine Jw ?_
      refine Jf ?_
      refine Jb ?_
      refine Ja rfl rfl rfl (Je (v := .int .i32 t41.1) rfl) ?_
      refine Ja rfl rfl rfl (Je (v := .int .i64 t41.2) rfl) ?_
      refine Ja rfl rfl rfl (Jc (v := .int .i32 t41.1) rfl) ?_
      refine Ja rfl rfl rfl (Jc (v := .int .i64 t41.2) rfl) ?_
      refine Jg ?_
      refine Jp ?_
      obtain rfl := Option.some.inj H41
      refine ret2 (v1 := .int .i32 t41.1) (v2 := .int .i64 t41.2) rfl rfl rfl (Yd rfl)
theorem k107 {a0 : (List UInt8)} {a1 : (List UInt8)} {r : (List UInt8)} (H : U7 a0 a1 = some r) : Ret Tryz.prog 107 [str a0, str a1] (str r) := by
 refine Qx (n := 34) Tryz.func107 rfl rfl rfl (fun wd => ?_)
 refine Jf ?_
 refine Jb ?_
 refine Ja rfl rfl rfl (Jc (v := str []) rfl) ?_
 refine Jg ?_
 refine Jf ?_
 refine J5 ?_
 refine Vn (σ := (List UInt8)) (τ := Unit) (fun next1 s => Yg a1 next1 s) (fun s t => [(0, str s), (1, str a1)]) (fun s t => []) (fun s t => True) a0 () [] H (by exact trivial) (by exact ⟨rfl, rfl, trivial⟩) (by decide) rfl ?_
 rintro x0_2 _ m1 gg H16 _
 clear H
 replace H16 : Yg a1 (it (fun next1 s => Yg a1 next1 s) m1) x0_2 = some r := H16
 generalize hn1 : it (fun next1 s => Yg a1 next1 s) m1 = next1 at H16
 refine J8 [(0, str x0_2), (1, str a1)] [] rfl rfl ?_
 refine Jf ?_
 refine Jf ?_
 refine Jb ?_
 refine Ja rfl rfl rfl (Je (v := str x0_2) rfl) ?_
 refine Ja rfl rfl rfl (Wu Tryz.underlying9 rfl) ?_
 refine Ja rfl rfl rfl (r_gtr rfl rfl) ?_
 refine Jg ?_
 refine Qg (b := (decide (0 < (x0_2.length : Int)))) rfl (fun hb => ?_) (fun hb => ?_)
 ·have H17 := Jr hb H16; clear H16
  refine Jw ?_
  refine J5 ?_
  refine Jf ?_
  refine Jb ?_
  refine Ja rfl rfl rfl (Je (v := str x0_2) rfl) ?_
  refine Ja rfl rfl rfl (Je (v := str x0_2) rfl) ?_
  refine Ja rfl rfl rfl (Wu Tryz.underlying9 rfl) ?_
  obtain ⟨t13, h_t13, H18⟩ := Ji H17; clear H17
  refine Ja rfl rfl rfl (r_subG rfl rfl h_t13) ?_
  obtain ⟨t14, h_t14, H19⟩ := Ji H18; clear H18
  refine Ja rfl rfl rfl (U1 Tryz.underlying9 rfl rfl h_t14) ?_
  obtain ⟨t15, h_t15, H20⟩ := Ji H19; clear H19
  refine Ja rfl rfl rfl (r_convG Tryz.runUnderlying5 Tryz.runUnderlying21 rfl (gK_i32 h_t15)) ?_
  refine Ja rfl rfl rfl (Jc (v := .int .i32 t15) rfl) ?_
  refine Ja rfl rfl rfl (Jc (v := .int .i64 1) rfl) ?_
  refine Jg ?_
  refine Xu (r := r) (σ := Int × Int) (τ := Unit) (fun s => Zj a1 x0_2 next1 s.1 s.2) (fun s t => [(0, str x0_2), (1, str a1), (5, .int .i32 s.1), (6, .int .i64 s.2)]) (fun s t => []) (fun s t => True) ?_ ?_
  ·refine Jf ?_
   refine Jb ?_
   refine Ja rfl rfl rfl (Je (v := .int .i32 t15) rfl) ?_
   refine Ja rfl rfl rfl (r_geq rfl rfl) ?_
   refine Jg ?_
   refine Qg (b := (decide (128 ≤ t15))) rfl (fun hb => ?_) (fun hb => ?_)
   ·have H27 := Jr hb H20; clear H20
    refine Jb ?_
    refine Ja rfl rfl rfl (Je (v := str x0_2) rfl) ?_
    obtain ⟨t20, h_t20, H28⟩ := Ji H27; clear H27
    refine Q5 (k118 h_t20) Tryz.call118 rfl rfl rfl ?_
    refine Ja rfl rfl rfl (Je (v := .tuple #[.int .i32 t20.1, .int .i64 t20.2]) rfl) ?_
    refine Ja rfl rfl rfl (Xh (v := .int .i32 t20.1) rfl rfl) ?_
    refine Ja rfl rfl rfl (Xh (v := .int .i64 t20.2) rfl rfl) ?_
    refine Ja rfl rfl rfl (Jc (v := .int .i32 t20.1) rfl) ?_
    refine Ja rfl rfl rfl (Jc (v := .int .i64 t20.2) rfl) ?_
    refine Jg ?_
    refine Js (t20.1, t20.2) () 0 [] (by exact ⟨rfl, rfl, rfl, rfl, trivial⟩) (by decide) rfl (by exact ⟨H28, trivial⟩) (Nat.lt_succ_self _)
   ·have H29 := Jq hb H20; clear H20
    refine Jw ?_
    refine Js (t15, 1) () 0 [] (by exact ⟨rfl, rfl, rfl, rfl, trivial⟩) (by decide) rfl (by exact ⟨H29, trivial⟩) (Nat.lt_succ_self _)
  ·rintro ⟨x5, x6⟩ _ gg H21 _
   replace H21 : Zj a1 x0_2 next1 x5 x6 = some r := H21
   refine J8 [(0, str x0_2), (1, str a1), (5, .int .i32 x5), (6, .int .i64 x6)] [] rfl rfl ?_
   refine Jf ?_
   refine Jf ?_
   refine Jb ?_
   refine Ja rfl rfl rfl (Je (v := str a1) rfl) ?_
   refine Ja rfl rfl rfl (Je (v := .int .i32 x5) rfl) ?_
   obtain ⟨t25, h_t25, H22⟩ := Ji H21; clear H21
   refine Q5 (k117 h_t25) Tryz.call117 rfl rfl rfl ?_
   refine Ja rfl rfl rfl (Zm rfl) ?_
   refine Jg ?_
   refine Qg (b := (!t25)) rfl (fun hb => ?_) (fun hb => ?_)
   ·have H23 := Jr hb H22; clear H22
    refine Xi ?_
    refine Jf ?_
    refine Jb ?_
    refine Ja rfl rfl rfl (Je (v := str x0_2) rfl) ?_
    refine Ja rfl rfl rfl (Jc (v := str x0_2) rfl) ?_
    refine Jg ?_
    refine Jp ?_
    obtain rfl := Option.some.inj H23
    refine J3 (v := str x0_2) rfl rfl (Yd rfl)
   ·have H24 := Jq hb H22; clear H22
    refine Jw ?_
    refine Jb ?_
    refine Ja rfl rfl rfl (Je (v := str x0_2) rfl) ?_
    refine Ja rfl rfl rfl (Je (v := str x0_2) rfl) ?_
    refine Ja rfl rfl rfl (Wu Tryz.underlying9 rfl) ?_
    refine Ja rfl rfl rfl (Je (v := .int .i64 x6) rfl) ?_
    obtain ⟨t31, h_t31, H25⟩ := Ji H24; clear H24
    refine Ja rfl rfl rfl (r_subG rfl rfl h_t31) ?_
    obtain ⟨t32, h_t32, H26⟩ := Ji H25; clear H25
    refine Ja rfl rfl rfl (r_cutToG Tryz.underlying9 rfl rfl h_t32) ?_
    refine Ja rfl rfl rfl (Jc (v := str t32) rfl) ?_
    refine Jg ?_
    refine Js t32 () m1 [] (by exact ⟨rfl, rfl, trivial⟩) (by decide) rfl (by exact ⟨(by subst hn1; exact H26), trivial⟩) (Nat.lt_succ_self _)
 ·have H30 := Jq hb H16; clear H16
  refine Xi ?_
  refine Jf ?_
  refine Jb ?_
  refine Ja rfl rfl rfl (Je (v := str x0_2) rfl) ?_
  refine Ja rfl rfl rfl (Jc (v := str x0_2) rfl) ?_
  refine Jg ?_
  refine Jp ?_
  obtain rfl := Option.some.inj H30
  refine J3 (v := str x0_2) rfl rfl (Yd rfl)
theorem k81 {a0 : (List UInt8)} {a1 : (List UInt8)} {r : (List UInt8)} (H : Jap a0 a1 = some r) : Ret Tryz.prog 81 [str a0, str a1] (str r) := by
 refine Qx (n := 43) Tryz.func81 rfl rfl rfl (fun wd => ?_)
 refine Jf ?_
 refine Jb ?_
 refine Ja rfl rfl rfl (Jc (v := str []) rfl) ?_
 refine Jg ?_
 refine Jf ?_
 refine Jf ?_
 refine Jb ?_
 refine Ja rfl rfl rfl (Je (v := str a0) rfl) ?_
 refine Ja rfl rfl rfl (r_eqlT rfl rfl) ?_
 refine Ja rfl rfl rfl (Je (v := .bool (decide (a0 = []))) rfl) ?_
 refine split (fun hb => ?_) (fun hb => ?_)
 ·have H22 := Jr hb H; clear H
  refine Jk rfl rfl rfl ?_
  refine Jk rfl rfl rfl ?_
  refine Ja rfl rfl rfl (J7 (v := .bool true) rfl rfl) ?_
  refine Jg ?_
  refine U3 rfl ?_
  refine Jf ?_
  refine Jb ?_
  refine Ja rfl rfl rfl (Je (v := str a0) rfl) ?_
  refine Ja rfl rfl rfl (Jc (v := str a0) rfl) ?_
  refine Jg ?_
  refine Jp ?_
  obtain rfl := Option.some.inj H22
  refine J3 (v := str a0) rfl rfl (Yd rfl)
 ·have H23 := Jq hb H; clear H
  refine Ja rfl rfl rfl (Je (v := str a1) rfl) ?_
  refine Ja rfl rfl rfl (r_eqlT rfl rfl) ?_
  refine Ja rfl rfl rfl (J1 (v := .bool (decide (a1 = []))) rfl rfl) ?_
  refine Jg ?_
  refine Qg (b := (decide (a1 = []))) rfl (fun hb => ?_) (fun hb => ?_)
  ·have H24 := Jr hb H23; clear H23
   refine Jf ?_
   refine Jb ?_
   refine Ja rfl rfl rfl (Je (v := str a0) rfl) ?_
   refine Ja rfl rfl rfl (Jc (v := str a0) rfl) ?_
   refine Jg ?_
   refine Jp ?_
   obtain rfl := Option.some.inj H24
   refine J3 (v := str a0) rfl rfl (Yd rfl)
  ·have H25 := Jq hb H23; clear H23
   refine Jw ?_
   refine Xu (r := r) (σ := Unit) (τ := Unit) (fun s => W5 a0 a1) (fun s t => [(0, str a0), (1, str a1)]) (fun s t => []) (fun s t => True) ?_ ?_
   ·refine Jf ?_
    refine Jb ?_
    refine Ja rfl rfl rfl (Je (v := str a1) rfl) ?_
    refine Ja rfl rfl rfl (Wu Tryz.underlying9 rfl) ?_
    refine Ja rfl rfl rfl (Xd rfl rfl) ?_
    refine Ja rfl rfl rfl (Je (v := .bool (decide ((a1.length : Int) = 1))) rfl) ?_
    refine split (fun hb => ?_) (fun hb => ?_)
    ·have H34 := Jr hb H25; clear H25
     refine Ja rfl rfl rfl (Je (v := str a1) rfl) ?_
     obtain ⟨t19, h_t19, H35⟩ := Ji H34; clear H34
     refine Ja rfl rfl rfl (U1 Tryz.underlying9 rfl rfl h_t19) ?_
     refine Ja rfl rfl rfl (Zd rfl rfl) ?_
     refine Ja rfl rfl rfl (J7 (v := .bool (decide (t19 < 128))) rfl rfl) ?_
     refine Jg ?_
     refine Qg (b := (decide (t19 < 128))) rfl (fun hb => ?_) (fun hb => ?_)
     ·have H36 := Jr hb H35; clear H35
      refine Jf ?_
      exact Yl (Kd.p :: Kd.p :: Kd.p :: Kd.d [] _ :: Kd.p :: Kd.p :: Kd.d [] _ :: Kd.p :: []) 0 mixed (by
       refine Jt rfl rfl (Je (v := str a0) rfl) ?_
       refine Jt rfl rfl (Je (v := str a1) rfl) ?_
       have h_t24 := Qq H36
       have H37 := Qi H36
       refine Jt rfl rfl (U1 Tryz.underlying9 rfl rfl h_t24) ?_
       have h_t25 := Qq H37
       have H38 := Qi H37
       refine d_call (k102 h_t25) Tryz.call102 rfl rfl ?_
       refine Jt rfl rfl (Je (v := str a1) rfl) ?_
       have h_t27 := Qq H38
       have H39 := Qi H38
       refine Jt rfl rfl (U1 Tryz.underlying9 rfl rfl h_t27) ?_
       have h_t28 := Qq H39
       have H40 := Qi H39
       refine d_call (k101 h_t28) Tryz.call101 rfl rfl ?_
       refine Jt rfl rfl (Jc (v := str (val (Wa (val (Vz a0 (val (gOct a1 0)))) (val (gOct a1 0))))) rfl) ?_
       refine Wr ?_
       refine Jp ?_
       obtain rfl := Option.some.inj H40
       refine J3 (v := str (val (Wa (val (Vz a0 (val (gOct a1 0)))) (val (gOct a1 0))))) rfl rfl (Yd rfl)
       ) (by kernel_rfl)
     ·have H41 := Jq hb H35; clear H35
      refine Jw ?_
      refine Js () () 0 [] (by exact ⟨rfl, rfl, trivial⟩) (by decide) rfl (by exact ⟨H41, trivial⟩) (Nat.lt_succ_self _)
    ·have H42 := Jq hb H25; clear H25
     refine Jk rfl rfl rfl ?_
     refine Jk rfl rfl rfl ?_
     refine Jk rfl rfl rfl ?_
     refine Ja rfl rfl rfl (J1 (v := .bool false) rfl rfl) ?_
     refine Jg ?_
     refine Jab rfl ?_
     refine Jw ?_
     refine Js () () 0 [] (by exact ⟨rfl, rfl, trivial⟩) (by decide) rfl (by exact ⟨H42, trivial⟩) (Nat.lt_succ_self _)
   ·rintro _ _ gg H26 _
    replace H26 : W5 a0 a1 = some r := H26
    refine J8 [(0, str a0), (1, str a1)] [] rfl rfl ?_
    refine Jf ?_
    refine Jf ?_
    refine Jb ?_
    refine Ja rfl rfl rfl (Je (v := str a1) rfl) ?_
    obtain ⟨t31, h_t31, H27⟩ := Ji H26; clear H26
    refine Q5 (k103 h_t31) Tryz.call103 rfl rfl rfl ?_
    refine Ja rfl rfl rfl (Je (v := .tuple #[.agg (List.toArray (Wl 256 (fun j_ => [.bool (t31.1 j_)]))), .bool t31.2]) rfl) ?_
    refine Ja rfl rfl rfl (Xh (v := .agg (List.toArray (Wl 256 (fun j_ => [.bool (t31.1 j_)])))) rfl rfl) ?_
    refine Ja rfl rfl rfl (Xh (v := .bool t31.2) rfl rfl) ?_
    refine Zv (cs := (Wl 256 (fun j_ => [.bool ((fun _ => false) j_)]))) Tryz.zeroValue128 (by kernel_rfl) rfl rfl (fun b1 => ?_)
    refine Xt (i := 0) (vs := (Wl 256 (fun j_ => [.bool (t31.1 j_)]))) (cs' := (Wl 256 (fun j_ => [.bool (t31.1 j_)]))) Tryz.sizeOf128 rfl rfl rfl rfl (Ws (fun _ => rfl)) rfl (arrC_one (fun _ => rfl)) rfl (wr_whole ((Ws (fun _ => rfl)).trans (Ws (fun _ => rfl)).symm)) ?_
    refine Ja rfl rfl rfl (Jc (v := .bool t31.2) rfl) ?_
    refine Jg ?_
    refine Jf ?_
    refine Jb ?_
    refine Ja rfl rfl rfl (Je (v := .bool t31.2) rfl) ?_
    refine Jg ?_
    refine Qg (b := t31.2) rfl (fun hb => ?_) (fun hb => ?_)
    ·have H28 := Jr hb H27; clear H27
     refine Jf ?_
     refine Jb ?_
     refine Ja rfl rfl rfl (Je (v := str a0) rfl) ?_
     obtain ⟨t36, h_t36, H29⟩ := Ji H28; clear H28
     refine Q4 (J6 (i := 0) (rds := []) (G := fun x : Unit => str t36.1) (C := fun x : Unit => Jl b1 (Wl 256 (fun j_ => [.bool (t36.2 j_)])) 128) rfl (fun w L' S hF hS hi hp hlt ho hA => k105 hp hlt (Qn w S)  h_t36) Tryz.call105 rfl) rfl rfl rfl (fun _ => ?_)
     obtain ⟨t37, h_t37, H30⟩ := Ji H29; clear H29
     refine Q4 (J6 (i := 0) (rds := []) (G := fun x : Unit => str t37.1) (C := fun x : Unit => Jl b1 (Wl 256 (fun j_ => [.bool (t37.2 j_)])) 128) rfl (fun w L' S hF hS hi hp hlt ho hA => k104 hp hlt (Qn w S)  h_t37) Tryz.call104 rfl) rfl rfl rfl (fun _ => ?_)
     refine Ja rfl rfl rfl (Jc (v := str t37.1) rfl) ?_
     refine Jg ?_
     refine Jp ?_
     obtain rfl := Option.some.inj H30
     refine J3 (v := str t37.1) rfl rfl (Yd rfl)
    ·have H31 := Jq hb H27; clear H27
     refine Jw ?_
     refine Jf ?_
     refine Jb ?_
     refine Ja rfl rfl rfl (Je (v := str a0) rfl) ?_
     refine Ja rfl rfl rfl (Je (v := str a1) rfl) ?_
     obtain ⟨t40, h_t40, H32⟩ := Ji H31; clear H31
     refine Q5 (k107 h_t40) Tryz.call107 rfl rfl rfl ?_
     refine Ja rfl rfl rfl (Je (v := str a1) rfl) ?_
     obtain ⟨t42, h_t42, H33⟩ := Ji H32; clear H32
     refine Q5 (k106 h_t42) Tryz.call106 rfl rfl rfl ?_
     refine Ja rfl rfl rfl (Jc (v := str t42) rfl) ?_
     refine Jg ?_
     refine Jp ?_
     obtain rfl := Option.some.inj H33
     refine J3 (v := str t42) rfl rfl (Yd rfl)
theorem k57 {a0 : (List UInt8)} {r : Bool} (H : sync_isFile a0 = some r) : Ret Tryz.prog 57 [str a0] (.bool r) := by
 refine Qx (n := 11) Tryz.func57 rfl rfl rfl (fun wd => ?_)
 refine Jf ?_
 refine Jb ?_
 refine Ja rfl rfl rfl (Jc (v := .bool false) rfl) ?_
 refine Jg ?_
 refine Jf ?_
 refine Jb ?_
 refine Ja rfl rfl rfl (Je (v := str a0) rfl) ?_
 refine Ja rfl rfl rfl (Wu Tryz.underlying9 rfl) ?_
 refine Ja rfl rfl rfl (Xd rfl rfl) ?_
 refine Ja rfl rfl rfl (Je (v := .bool (decide ((a0.length : Int) = 16))) rfl) ?_
 refine split (fun hb => ?_) (fun hb => ?_)
 ·have H4 := Jr hb H; clear H
  refine Ja rfl rfl rfl (Je (v := str a0) rfl) ?_
  obtain ⟨t8, h_t8, H5⟩ := Ji H4; clear H4
  refine Q5 (k81 h_t8) Tryz.call81 rfl rfl rfl ?_
  refine Ja rfl rfl rfl (r_eqlT rfl rfl) ?_
  refine Ja rfl rfl rfl (J7 (v := .bool (decide (t8 = []))) rfl rfl) ?_
  refine Ja rfl rfl rfl (Jc (v := .bool (decide (t8 = []))) rfl) ?_
  refine Jg ?_
  refine Jp ?_
  obtain rfl := Option.some.inj H5
  refine J3 (v := .bool (decide (t8 = []))) rfl rfl (Yd rfl)
 ·have H6 := Jq hb H; clear H
  refine Jk rfl rfl rfl ?_
  refine Jk rfl rfl rfl ?_
  refine Jk rfl rfl rfl ?_
  refine Ja rfl rfl rfl (J1 (v := .bool false) rfl rfl) ?_
  refine Ja rfl rfl rfl (Jc (v := .bool false) rfl) ?_
  refine Jg ?_
  refine Jp ?_
  obtain rfl := Option.some.inj H6
  refine J3 (v := .bool false) rfl rfl (Yd rfl)
theorem k108 {a0 : (List Int)} {v0 : Value} {a1 : (Int → Option (Bool))} {v1 : Value} {r : Int} {w : World} {h : Qd} (hw : Know h w Vd) (f0 : FrS h 1 v0 (a0.map e_u8)) (f1 : FnH Tryz.prog h v1 (U4 a1)) (H : Uc a0 a1 = some r) : Does Tryz.prog 108 (List.toArray [v0, v1]) w (fun v w' => v = (.int .i64 r) ∧ Grow w w') := by
 refine enter (n := 19) Tryz.func108 rfl rfl rfl Vd [] (Sat.nil _ _) ?_
 refine Jf ?_
 refine Jb ?_
 refine Ja rfl rfl rfl (Jc (v := .int .i64 0) rfl) ?_
 refine Jg ?_
 refine Jf ?_
 refine Jf ?_
 refine Jb ?_
 refine Ja rfl rfl rfl (Je (v := v0) rfl) ?_
 refine Ja rfl rfl rfl (Uh Tryz.underlying110 rfl f0 rfl) ?_
 refine Ja rfl rfl rfl (Je (v := .int .i64 0) rfl) ?_
 refine Jg ?_
 refine J5 ?_
 refine Vn (σ := Int) (τ := Unit) (fun next1 s => Qf a0 a1 next1 s) (fun s t => [(0, v0), (1, v1), (7, .int .i64 (a0.length : Int)), (8, .int .i64 s)]) (fun s t => []) (fun s t => True) 0 () [] H (by exact trivial) (by exact ⟨rfl, rfl, rfl, rfl, trivial⟩) (by decide) rfl ?_
 rintro x8_2 _ m1 gg H9 _
 clear H
 replace H9 : Qf a0 a1 (it (fun next1 s => Qf a0 a1 next1 s) m1) x8_2 = some r := H9
 generalize hn1 : it (fun next1 s => Qf a0 a1 next1 s) m1 = next1 at H9
 refine J8 [(0, v0), (1, v1), (7, .int .i64 (a0.length : Int)), (8, .int .i64 x8_2)] [] rfl rfl ?_
 refine Jf ?_
 refine Jb ?_
 refine Ja rfl rfl rfl (Zd rfl rfl) ?_
 refine Jg ?_
 refine Jf ?_
 refine Qg (b := (decide (x8_2 < (a0.length : Int)))) rfl (fun hb => ?_) (fun hb => ?_)
 ·have H10 := Jr hb H9; clear H9
  refine Jw ?_
  refine Jf ?_
  refine J5 ?_
  refine Jf ?_
  refine Jb ?_
  refine Ja rfl rfl rfl (Je (v := .int .i64 x8_2) rfl) ?_
  refine Ja rfl rfl rfl (Jc (v := .int .i64 x8_2) rfl) ?_
  refine Jg ?_
  refine Jf ?_
  refine Jb ?_
  refine Ja rfl rfl rfl (Je (v := v1) rfl) ?_
  refine Ja rfl rfl rfl (Je (v := v0) rfl) ?_
  refine Ja rfl rfl rfl (Je (v := .int .i64 x8_2) rfl) ?_
  obtain ⟨t14, h_t14, H11⟩ := Ji H10; clear H10
  refine Ja rfl rfl rfl (Z6 Tryz.underlying110 Tryz.sizeOf5 rfl rfl f0 h_t14) ?_
  refine Qo (fun w hF hS => Wh (f := e_u8) (i := x8_2) (sz := 1) (j := 0) (v := .int .u8 t14) Tryz.isAgg5 rfl rfl (f0.row (hw.now hF)) h_t14 rfl) rfl rfl rfl ?_
  obtain ⟨t16, h_t16, H12⟩ := Ji H11; clear H11
  refine l_callV (R := U4 a1) (r := .bool t16) (v := v1) (fun w hF hS => ⟨(f1.mono (hw.now hF)), ⟨t14, _, rfl, h_t16, rfl⟩⟩) rfl rfl rfl rfl ?_
  refine Jg ?_
  refine Qg (b := t16) rfl (fun hb => ?_) (fun hb => ?_)
  ·have H13 := Jr hb H12; clear H12
   refine Jf ?_
   refine Jb ?_
   refine Ja rfl rfl rfl (Je (v := .int .i64 x8_2) rfl) ?_
   refine Ja rfl rfl rfl (Jc (v := .int .i64 x8_2) rfl) ?_
   refine Jg ?_
   refine Jp ?_
   obtain rfl := Option.some.inj H13
   refine J3 (v := .int .i64 x8_2) rfl rfl (Yd rfl)
  ·have H14 := Jq hb H12; clear H12
   refine Jw ?_
   refine Jb ?_
   obtain ⟨t18, h_t18, H15⟩ := Ji H14; clear H14
   refine Ja rfl rfl rfl (Yj rfl rfl h_t18) ?_
   refine Ja rfl rfl rfl (Je (v := .int .i64 t18) rfl) ?_
   refine Jg ?_
   refine Js t18 () m1 [] (by exact ⟨rfl, rfl, rfl, rfl, trivial⟩) (by decide) rfl (by exact ⟨(by subst hn1; exact H15), trivial⟩) (Nat.lt_succ_self _)
 ·have H16 := Jq hb H9; clear H9
  refine Xi ?_
  refine Jf ?_
  refine Jb ?_
  refine Ja rfl rfl rfl (Jc (v := .int .i64 (-1)) rfl) ?_
  refine Jg ?_
  refine Jp ?_
  obtain rfl := Option.some.inj H16
  refine J3 (v := .int .i64 (-1)) rfl rfl (Yd rfl)
theorem k82 {a0 : (List Int)} {v0 : Value} {a1 : (Int → Option (Bool))} {v1 : Value} {r : Bool} {w : World} {h : Qd} (hw : Know h w Vd) (f0 : FrS h 1 v0 (a0.map e_u8)) (f1 : FnH Tryz.prog h v1 (U4 a1)) (H : Wj a0 a1 = some r) : Does Tryz.prog 82 (List.toArray [v0, v1]) w (fun v w' => v = (.bool r) ∧ Grow w w') := by
 refine enter (n := 9) Tryz.func82 rfl rfl rfl Vd [] (Sat.nil _ _) ?_
 refine Jf ?_
 refine Jb ?_
 refine Ja rfl rfl rfl (Jc (v := .bool false) rfl) ?_
 refine Jg ?_
 refine Jf ?_
 refine Jb ?_
 refine Ja rfl rfl rfl (Je (v := v0) rfl) ?_
 refine Ja rfl rfl rfl (Je (v := v1) rfl) ?_
 obtain ⟨t7, h_t7, H2⟩ := Ji H; clear H
 refine Yv (fun w hF hS => k108 (Jx w) (f0.mono (hw.now hF)) (f1.mono (hw.now hF)) h_t7) Tryz.call108 rfl rfl rfl ?_
 refine Ja rfl rfl rfl (r_geq rfl rfl) ?_
 refine Ja rfl rfl rfl (Jc (v := .bool (decide (0 ≤ t7))) rfl) ?_
 refine Jg ?_
 refine Jp ?_
 obtain rfl := Option.some.inj H2
 refine J3 (v := .bool (decide (0 ≤ t7))) rfl rfl (Yd rfl)
theorem k83 {a0 : Int} {r : Bool} (H : Vg a0 = some r) : Ret Tryz.prog 83 [.int .u8 a0] (.bool r) := by
 refine Qx (n := 5) Tryz.func83 rfl rfl rfl (fun wd => ?_)
 refine Jf ?_
 refine Jb ?_
 refine Ja rfl rfl rfl (Jc (v := .bool false) rfl) ?_
 refine Jg ?_
 refine Jf ?_
 refine Jb ?_
 refine Ja rfl rfl rfl (Je (v := .int .u8 a0) rfl) ?_
 refine Ja rfl rfl rfl (Zd rfl rfl) ?_
 refine Ja rfl rfl rfl (Jc (v := .bool (decide (a0 < 32))) rfl) ?_
 refine Jg ?_
 refine Jp ?_
 obtain rfl := Option.some.inj H
 refine J3 (v := .bool (decide (a0 < 32))) rfl rfl (Yd rfl)
theorem k58 {a0 : (List UInt8)} {r : Int} (H : Uf a0 = some r) : Ret Tryz.prog 58 [str a0] (.int .i64 r) := by
 refine Qx (n := 11) Tryz.func58 rfl rfl rfl (fun wd => ?_)
 refine Jf ?_
 refine Jb ?_
 refine Ja rfl rfl rfl (Jc (v := .int .i64 0) rfl) ?_
 refine Jg ?_
 refine Jf ?_
 refine J5 ?_
 refine Jf ?_
 refine Jb ?_
 refine Ja rfl rfl rfl (Je (v := str a0) rfl) ?_
 refine Ja rfl rfl rfl (Wu Tryz.underlying9 rfl) ?_
 refine Ja rfl rfl rfl (r_gtr rfl rfl) ?_
 refine Ja rfl rfl rfl (Jc (v := .bool (decide (200 < (a0.length : Int)))) rfl) ?_
 refine Jg ?_
 refine Qg (b := (decide (200 < (a0.length : Int)))) rfl (fun hb => ?_) (fun hb => ?_)
 ·have H7 := Jr hb H; clear H
  refine Jf ?_
  refine Jb ?_
  refine Ja rfl rfl rfl (Jc (v := .int .i64 4) rfl) ?_
  refine Jg ?_
  refine Jp ?_
  obtain rfl := Option.some.inj H7
  refine J3 (v := .int .i64 4) rfl rfl (Yd rfl)
 ·have H8 := Jq hb H; clear H
  refine Jf ?_
  refine Jb ?_
  refine Ja rfl rfl rfl (Je (v := str a0) rfl) ?_
  obtain ⟨t9, h_t9, H9⟩ := Ji H8; clear H8
  refine Zq (rds := []) (makes_byt (f := e_u8) (s := a0) Tryz.underlying9 Tryz.underlying110 Tryz.underlying5 rfl (fun _ => rfl) h_t9) rfl rfl rfl (fun p => ?_)
  obtain ⟨t10, h_t10, H10⟩ := Ji H9; clear H9
  refine Yv (fun w hF hS => k82 (Jx w) (frs_mk (i := 0) hS rfl) (FnH.mk ⟨83, #[], #[], rfl, Tryz.call83, fun args2 post2 w2 hk2 hR2 => by obtain ⟨a0_, r_, rfl, H_, rfl⟩ := hR2; exact k83 H_ w2⟩) h_t10) Tryz.call82 rfl rfl rfl ?_
  refine Ja rfl rfl rfl (Jc (v := .bool t10) rfl) ?_
  refine Jg ?_
  refine Qg (b := t10) rfl (fun hb => ?_) (fun hb => ?_)
  ·have H11 := Jr hb H10; clear H10
   refine Jf ?_
   refine Jb ?_
   refine Ja rfl rfl rfl (Jc (v := .int .i64 9) rfl) ?_
   refine Jg ?_
   refine Jp ?_
   obtain rfl := Option.some.inj H11
   refine J3 (v := .int .i64 9) rfl rfl (Yd rfl)
  ·have H12 := Jq hb H10; clear H10
   refine Jw ?_
   refine Jf ?_
   refine Jb ?_
   refine Ja rfl rfl rfl (Jc (v := .int .i64 0) rfl) ?_
   refine Jg ?_
   refine Jp ?_
   obtain rfl := Option.some.inj H12
   refine J3 (v := .int .i64 0) rfl rfl (Yd rfl)
theorem k59 {a0 : (List UInt8)} {r : Bool} (H : V6 a0 = some r) : Ret Tryz.prog 59 [str a0] (.bool r) := by
 refine Qx (n := 50) Tryz.func59 rfl rfl rfl (fun wd => ?_)
 refine Jf ?_
 refine Jb ?_
 refine Ja rfl rfl rfl (Jc (v := .bool false) rfl) ?_
 refine Jg ?_
 refine Jf ?_
 refine Jf ?_
 refine Jb ?_
 refine Ja rfl rfl rfl (Je (v := str a0) rfl) ?_
 refine Ja rfl rfl rfl (r_eqlT rfl rfl) ?_
 refine Ja rfl rfl rfl (Je (v := .bool (decide (a0 = []))) rfl) ?_
 refine split (fun hb => ?_) (fun hb => ?_)
 ·have H37 := Jr hb H; clear H
  refine Jk rfl rfl rfl ?_
  refine Jk rfl rfl rfl ?_
  refine Jk rfl rfl rfl ?_
  refine Ja rfl rfl rfl (J7 (v := .bool true) rfl rfl) ?_
  refine Ja rfl rfl rfl (Je (v := .bool true) rfl) ?_
  refine Jk rfl rfl rfl ?_
  refine Jk rfl rfl rfl ?_
  refine Jk rfl rfl rfl ?_
  refine Ja rfl rfl rfl (J7 (v := .bool true) rfl rfl) ?_
  refine Ja rfl rfl rfl (Je (v := .bool true) rfl) ?_
  refine Jk rfl rfl rfl ?_
  refine Jk rfl rfl rfl ?_
  refine Jk rfl rfl rfl ?_
  refine Ja rfl rfl rfl (J7 (v := .bool true) rfl rfl) ?_
  refine Jg ?_
  refine U3 rfl ?_
  refine Jf ?_
  refine Jb ?_
  refine Ja rfl rfl rfl (Jc (v := .bool false) rfl) ?_
  refine Jg ?_
  refine Jp ?_
  obtain rfl := Option.some.inj H37
  refine J3 (v := .bool false) rfl rfl (Yd rfl)
 ·have H38 := Jq hb H; clear H
  refine Ja rfl rfl rfl (Je (v := str a0) rfl) ?_
  refine Ja rfl rfl rfl (Wu Tryz.underlying9 rfl) ?_
  refine Ja rfl rfl rfl (r_gtr rfl rfl) ?_
  refine Ja rfl rfl rfl (J1 (v := .bool (decide (40 < (a0.length : Int)))) rfl rfl) ?_
  refine Ja rfl rfl rfl (Je (v := .bool (decide (40 < (a0.length : Int)))) rfl) ?_
  refine split (fun hb => ?_) (fun hb => ?_)
  ·have H39 := Jr hb H38; clear H38
   refine Jk rfl rfl rfl ?_
   refine Jk rfl rfl rfl ?_
   refine Jk rfl rfl rfl ?_
   refine Ja rfl rfl rfl (J7 (v := .bool true) rfl rfl) ?_
   refine Ja rfl rfl rfl (Je (v := .bool true) rfl) ?_
   refine Jk rfl rfl rfl ?_
   refine Jk rfl rfl rfl ?_
   refine Jk rfl rfl rfl ?_
   refine Ja rfl rfl rfl (J7 (v := .bool true) rfl rfl) ?_
   refine Jg ?_
   refine U3 rfl ?_
   refine Jf ?_
   refine Jb ?_
   refine Ja rfl rfl rfl (Jc (v := .bool false) rfl) ?_
   refine Jg ?_
   refine Jp ?_
   obtain rfl := Option.some.inj H39
   refine J3 (v := .bool false) rfl rfl (Yd rfl)
  ·have H40 := Jq hb H38; clear H38
   refine Ja rfl rfl rfl (Je (v := str a0) rfl) ?_
   obtain ⟨t14, h_t14, H41⟩ := Ji H40; clear H40
   refine Ja rfl rfl rfl (U1 Tryz.underlying9 rfl rfl h_t14) ?_
   refine Ja rfl rfl rfl (Zd rfl rfl) ?_
   refine Ja rfl rfl rfl (J1 (v := .bool (decide (t14 < 97))) rfl rfl) ?_
   refine Ja rfl rfl rfl (Je (v := .bool (decide (t14 < 97))) rfl) ?_
   refine split (fun hb => ?_) (fun hb => ?_)
   ·have H42 := Jr hb H41; clear H41
    refine Jk rfl rfl rfl ?_
    refine Jk rfl rfl rfl ?_
    refine Jk rfl rfl rfl ?_
    refine Ja rfl rfl rfl (J7 (v := .bool true) rfl rfl) ?_
    refine Jg ?_
    refine U3 rfl ?_
    refine Jf ?_
    refine Jb ?_
    refine Ja rfl rfl rfl (Jc (v := .bool false) rfl) ?_
    refine Jg ?_
    refine Jp ?_
    obtain rfl := Option.some.inj H42
    refine J3 (v := .bool false) rfl rfl (Yd rfl)
   ·have H43 := Jq hb H41; clear H41
    refine Ja rfl rfl rfl (Je (v := str a0) rfl) ?_
    obtain ⟨t19, h_t19, H44⟩ := Ji H43; clear H43
    refine Ja rfl rfl rfl (U1 Tryz.underlying9 rfl rfl h_t19) ?_
    refine Ja rfl rfl rfl (r_gtr rfl rfl) ?_
    refine Ja rfl rfl rfl (J1 (v := .bool (decide (122 < t19))) rfl rfl) ?_
    refine Jg ?_
    refine Qg (b := (decide (122 < t19))) rfl (fun hb => ?_) (fun hb => ?_)
    ·have H45 := Jr hb H44; clear H44
     refine Jf ?_
     refine Jb ?_
     refine Ja rfl rfl rfl (Jc (v := .bool false) rfl) ?_
     refine Jg ?_
     refine Jp ?_
     obtain rfl := Option.some.inj H45
     refine J3 (v := .bool false) rfl rfl (Yd rfl)
    ·have H46 := Jq hb H44; clear H44
     refine Jw ?_
     refine Jf ?_
     refine Jf ?_
     refine Jb ?_
     refine Ja rfl rfl rfl (Je (v := str a0) rfl) ?_
     refine Ja rfl rfl rfl (Wu Tryz.underlying9 rfl) ?_
     refine Ja rfl rfl rfl (Je (v := .int .i64 0) rfl) ?_
     refine Jg ?_
     refine J5 ?_
     refine Vn (σ := Int) (τ := Unit) (fun next1 s => Xn a0 next1 s) (fun s t => [(0, str a0), (23, .int .i64 (a0.length : Int)), (24, .int .i64 s)]) (fun s t => []) (fun s t => True) 0 () [] H46 (by exact trivial) (by exact ⟨rfl, rfl, rfl, trivial⟩) (by decide) rfl ?_
     rintro x24_2 _ m1 gg H47 _
     clear H46
     replace H47 : Xn a0 (it (fun next1 s => Xn a0 next1 s) m1) x24_2 = some r := H47
     generalize hn1 : it (fun next1 s => Xn a0 next1 s) m1 = next1 at H47
     refine J8 [(0, str a0), (23, .int .i64 (a0.length : Int)), (24, .int .i64 x24_2)] [] rfl rfl ?_
     refine Jf ?_
     refine Jb ?_
     refine Ja rfl rfl rfl (Zd rfl rfl) ?_
     refine Jg ?_
     refine Jf ?_
     refine Qg (b := (decide (x24_2 < (a0.length : Int)))) rfl (fun hb => ?_) (fun hb => ?_)
     ·have H48 := Jr hb H47; clear H47
      refine Jw ?_
      refine Xu (r := r) (σ := Unit) (τ := Unit) (fun s => X6 x24_2 next1) (fun s t => [(0, str a0), (23, .int .i64 (a0.length : Int)), (24, .int .i64 x24_2)]) (fun s t => []) (fun s t => True) ?_ ?_
      ·refine J5 ?_
       refine Jf ?_
       refine Jb ?_
       refine Ja rfl rfl rfl (Je (v := .int .i64 x24_2) rfl) ?_
       refine Ja rfl rfl rfl (Jc (v := .int .i64 x24_2) rfl) ?_
       refine Jg ?_
       refine Jf ?_
       refine Jb ?_
       refine Ja rfl rfl rfl (Je (v := str a0) rfl) ?_
       refine Ja rfl rfl rfl (Je (v := .int .i64 x24_2) rfl) ?_
       obtain ⟨t29, h_t29, H51⟩ := Ji H48; clear H48
       refine Ja rfl rfl rfl (U1 Tryz.underlying9 rfl rfl h_t29) ?_
       refine Ja rfl rfl rfl (Jc (v := .int .u8 t29) rfl) ?_
       refine Jg ?_
       refine Jf ?_
       refine Jb ?_
       refine Ja rfl rfl rfl (Je (v := .int .u8 t29) rfl) ?_
       refine Ja rfl rfl rfl (r_geq rfl rfl) ?_
       refine Ja rfl rfl rfl (Je (v := .bool (decide (97 ≤ t29))) rfl) ?_
       refine split (fun hb => ?_) (fun hb => ?_)
       ·have H52 := Jr hb H51; clear H51
        refine Ja rfl rfl rfl (Je (v := .int .u8 t29) rfl) ?_
        refine Ja rfl rfl rfl (r_leq rfl rfl) ?_
        refine Ja rfl rfl rfl (J7 (v := .bool (decide (t29 ≤ 122))) rfl rfl) ?_
        refine Ja rfl rfl rfl (Je (v := .bool (decide (t29 ≤ 122))) rfl) ?_
        refine split (fun hb => ?_) (fun hb => ?_)
        ·have H53 := Jr hb H52; clear H52
         refine Jk rfl rfl rfl ?_
         refine Jk rfl rfl rfl ?_
         refine Jk rfl rfl rfl ?_
         refine Jk rfl rfl rfl ?_
         refine Jk rfl rfl rfl ?_
         refine Jk rfl rfl rfl ?_
         refine Ja rfl rfl rfl (J7 (v := .bool true) rfl rfl) ?_
         refine Ja rfl rfl rfl (Je (v := .bool true) rfl) ?_
         refine Jk rfl rfl rfl ?_
         refine Jk rfl rfl rfl ?_
         refine Ja rfl rfl rfl (J7 (v := .bool true) rfl rfl) ?_
         refine Ja rfl rfl rfl (r_notT rfl) ?_
         refine Jg ?_
         refine Jab rfl ?_
         refine Jw ?_
         refine Js () () 0 [] (by exact ⟨rfl, rfl, rfl, trivial⟩) (by decide) rfl (by exact ⟨H53, trivial⟩) (Nat.lt_succ_self _)
        ·have H54 := Jq hb H52; clear H52
         refine Ja rfl rfl rfl (Je (v := .int .u8 t29) rfl) ?_
         refine Ja rfl rfl rfl (r_geq rfl rfl) ?_
         refine Ja rfl rfl rfl (Je (v := .bool (decide (48 ≤ t29))) rfl) ?_
         refine split (fun hb => ?_) (fun hb => ?_)
         ·have H55 := Jr hb H54; clear H54
          refine Ja rfl rfl rfl (Je (v := .int .u8 t29) rfl) ?_
          refine Ja rfl rfl rfl (r_leq rfl rfl) ?_
          refine Ja rfl rfl rfl (J7 (v := .bool (decide (t29 ≤ 57))) rfl rfl) ?_
          refine Ja rfl rfl rfl (J1 (v := .bool (decide (t29 ≤ 57))) rfl rfl) ?_
          refine Ja rfl rfl rfl (Je (v := .bool (decide (t29 ≤ 57))) rfl) ?_
          refine split (fun hb => ?_) (fun hb => ?_)
          ·have H56 := Jr hb H55; clear H55
           refine Jk rfl rfl rfl ?_
           refine Jk rfl rfl rfl ?_
           refine Ja rfl rfl rfl (J7 (v := .bool true) rfl rfl) ?_
           refine Ja rfl rfl rfl (r_notT rfl) ?_
           refine Jg ?_
           refine Jab rfl ?_
           refine Jw ?_
           refine Js () () 0 [] (by exact ⟨rfl, rfl, rfl, trivial⟩) (by decide) rfl (by exact ⟨H56, trivial⟩) (Nat.lt_succ_self _)
          ·have H57 := Jq hb H55; clear H55
           refine Ja rfl rfl rfl (Je (v := .int .u8 t29) rfl) ?_
           refine Ja rfl rfl rfl (Xd rfl rfl) ?_
           refine Ja rfl rfl rfl (J1 (v := .bool (decide (t29 = 45))) rfl rfl) ?_
           refine Ja rfl rfl rfl (Zm rfl) ?_
           refine Jg ?_
           refine Qg (b := (!(decide (t29 = 45)))) rfl (fun hb => ?_) (fun hb => ?_)
           ·have H58 := Jr hb H57; clear H57
            refine Jf ?_
            refine Jb ?_
            refine Ja rfl rfl rfl (Jc (v := .bool false) rfl) ?_
            refine Jg ?_
            refine Jp ?_
            obtain rfl := Option.some.inj H58
            refine J3 (v := .bool false) rfl rfl (Yd rfl)
           ·have H59 := Jq hb H57; clear H57
            refine Jw ?_
            refine Js () () 0 [] (by exact ⟨rfl, rfl, rfl, trivial⟩) (by decide) rfl (by exact ⟨H59, trivial⟩) (Nat.lt_succ_self _)
         ·have H60 := Jq hb H54; clear H54
          refine Jk rfl rfl rfl ?_
          refine Jk rfl rfl rfl ?_
          refine Ja rfl rfl rfl (J1 (v := .bool false) rfl rfl) ?_
          refine Ja rfl rfl rfl (J1 (v := .bool false) rfl rfl) ?_
          refine Ja rfl rfl rfl (Je (v := .bool false) rfl) ?_
          refine Ja rfl rfl rfl (Je (v := .int .u8 t29) rfl) ?_
          refine Ja rfl rfl rfl (Xd rfl rfl) ?_
          refine Ja rfl rfl rfl (J1 (v := .bool (decide (t29 = 45))) rfl rfl) ?_
          refine Ja rfl rfl rfl (Zm rfl) ?_
          refine Jg ?_
          refine Qg (b := (!(decide (t29 = 45)))) rfl (fun hb => ?_) (fun hb => ?_)
          ·have H61 := Jr hb H60; clear H60
           refine Jf ?_
           refine Jb ?_
           refine Ja rfl rfl rfl (Jc (v := .bool false) rfl) ?_
           refine Jg ?_
           refine Jp ?_
           obtain rfl := Option.some.inj H61
           refine J3 (v := .bool false) rfl rfl (Yd rfl)
          ·have H62 := Jq hb H60; clear H60
           refine Jw ?_
           refine Js () () 0 [] (by exact ⟨rfl, rfl, rfl, trivial⟩) (by decide) rfl (by exact ⟨H62, trivial⟩) (Nat.lt_succ_self _)
       ·have H63 := Jq hb H51; clear H51
        refine Jk rfl rfl rfl ?_
        refine Jk rfl rfl rfl ?_
        refine Ja rfl rfl rfl (J1 (v := .bool false) rfl rfl) ?_
        refine Ja rfl rfl rfl (Je (v := .bool false) rfl) ?_
        refine Ja rfl rfl rfl (Je (v := .int .u8 t29) rfl) ?_
        refine Ja rfl rfl rfl (r_geq rfl rfl) ?_
        refine Ja rfl rfl rfl (Je (v := .bool (decide (48 ≤ t29))) rfl) ?_
        refine split (fun hb => ?_) (fun hb => ?_)
        ·have H64 := Jr hb H63; clear H63
         refine Ja rfl rfl rfl (Je (v := .int .u8 t29) rfl) ?_
         refine Ja rfl rfl rfl (r_leq rfl rfl) ?_
         refine Ja rfl rfl rfl (J7 (v := .bool (decide (t29 ≤ 57))) rfl rfl) ?_
         refine Ja rfl rfl rfl (J1 (v := .bool (decide (t29 ≤ 57))) rfl rfl) ?_
         refine Ja rfl rfl rfl (Je (v := .bool (decide (t29 ≤ 57))) rfl) ?_
         refine split (fun hb => ?_) (fun hb => ?_)
         ·have H65 := Jr hb H64; clear H64
          refine Jk rfl rfl rfl ?_
          refine Jk rfl rfl rfl ?_
          refine Ja rfl rfl rfl (J7 (v := .bool true) rfl rfl) ?_
          refine Ja rfl rfl rfl (r_notT rfl) ?_
          refine Jg ?_
          refine Jab rfl ?_
          refine Jw ?_
          refine Js () () 0 [] (by exact ⟨rfl, rfl, rfl, trivial⟩) (by decide) rfl (by exact ⟨H65, trivial⟩) (Nat.lt_succ_self _)
         ·have H66 := Jq hb H64; clear H64
          refine Ja rfl rfl rfl (Je (v := .int .u8 t29) rfl) ?_
          refine Ja rfl rfl rfl (Xd rfl rfl) ?_
          refine Ja rfl rfl rfl (J1 (v := .bool (decide (t29 = 45))) rfl rfl) ?_
          refine Ja rfl rfl rfl (Zm rfl) ?_
          refine Jg ?_
          refine Qg (b := (!(decide (t29 = 45)))) rfl (fun hb => ?_) (fun hb => ?_)
          ·have H67 := Jr hb H66; clear H66
           refine Jf ?_
           refine Jb ?_
           refine Ja rfl rfl rfl (Jc (v := .bool false) rfl) ?_
           refine Jg ?_
           refine Jp ?_
           obtain rfl := Option.some.inj H67
           refine J3 (v := .bool false) rfl rfl (Yd rfl)
          ·have H68 := Jq hb H66; clear H66
           refine Jw ?_
           refine Js () () 0 [] (by exact ⟨rfl, rfl, rfl, trivial⟩) (by decide) rfl (by exact ⟨H68, trivial⟩) (Nat.lt_succ_self _)
        ·have H69 := Jq hb H63; clear H63
         refine Jk rfl rfl rfl ?_
         refine Jk rfl rfl rfl ?_
         refine Ja rfl rfl rfl (J1 (v := .bool false) rfl rfl) ?_
         refine Ja rfl rfl rfl (J1 (v := .bool false) rfl rfl) ?_
         refine Ja rfl rfl rfl (Je (v := .bool false) rfl) ?_
         refine Ja rfl rfl rfl (Je (v := .int .u8 t29) rfl) ?_
         refine Ja rfl rfl rfl (Xd rfl rfl) ?_
         refine Ja rfl rfl rfl (J1 (v := .bool (decide (t29 = 45))) rfl rfl) ?_
         refine Ja rfl rfl rfl (Zm rfl) ?_
         refine Jg ?_
         refine Qg (b := (!(decide (t29 = 45)))) rfl (fun hb => ?_) (fun hb => ?_)
         ·have H70 := Jr hb H69; clear H69
          refine Jf ?_
          refine Jb ?_
          refine Ja rfl rfl rfl (Jc (v := .bool false) rfl) ?_
          refine Jg ?_
          refine Jp ?_
          obtain rfl := Option.some.inj H70
          refine J3 (v := .bool false) rfl rfl (Yd rfl)
         ·have H71 := Jq hb H69; clear H69
          refine Jw ?_
          refine Js () () 0 [] (by exact ⟨rfl, rfl, rfl, trivial⟩) (by decide) rfl (by exact ⟨H71, trivial⟩) (Nat.lt_succ_self _)
      ·rintro _ _ gg H49 _
       replace H49 : X6 x24_2 next1 = some r := H49
       refine J8 [(0, str a0), (23, .int .i64 (a0.length : Int)), (24, .int .i64 x24_2)] [] rfl rfl ?_
       refine Jb ?_
       obtain ⟨t49, h_t49, H50⟩ := Ji H49; clear H49
       refine Ja rfl rfl rfl (Yj rfl rfl h_t49) ?_
       refine Ja rfl rfl rfl (Je (v := .int .i64 t49) rfl) ?_
       refine Jg ?_
       refine Js t49 () m1 [] (by exact ⟨rfl, rfl, rfl, trivial⟩) (by decide) rfl (by exact ⟨(by subst hn1; exact H50), trivial⟩) (Nat.lt_succ_self _)
     ·have H72 := Jq hb H47; clear H47
      refine Xi ?_
      refine Jf ?_
      refine Jb ?_
      refine Ja rfl rfl rfl (Jc (v := .bool true) rfl) ?_
      refine Jg ?_
      refine Jp ?_
      obtain rfl := Option.some.inj H72
      refine J3 (v := .bool true) rfl rfl (Yd rfl)
theorem k32 {a0 : T_sync_Fact} {r : Int} (H : Ve a0 = some r) : Ret Tryz.prog 32 [.agg #[.int .i64 a0.Dot.Device, .int .i64 a0.Dot.N, .int .i64 a0.Time, .int .i64 a0.Kind, .int .i64 a0.Id, str a0.Name, .int .i64 a0.Num, str a0.Text]] (.int .i64 r) := by
 refine Qx (n := 121) Tryz.func32 rfl rfl rfl (fun wd => ?_)
 refine Jf ?_
 refine Jb ?_
 refine Zo (cs := [.int .i64 a0.Dot.Device, .int .i64 a0.Dot.N, .int .i64 a0.Time, .int .i64 a0.Kind, .int .i64 a0.Id, str a0.Name, .int .i64 a0.Num, str a0.Text]) rfl rfl rfl rfl (fun b1 => ?_)
 refine Ja rfl rfl rfl (Jc (v := .int .i64 0) rfl) ?_
 refine Jg ?_
 refine Xu (r := r) (σ := Bool) (τ := Unit) (fun s => Z2 a0 s) (fun s t => [(1, .pointer (some ⟨b1, 0, none⟩)), (3, .bool s)]) (fun s t => [Jl b1 [.int .i64 a0.Dot.Device, .int .i64 a0.Dot.N, .int .i64 a0.Time, .int .i64 a0.Kind, .int .i64 a0.Id, str a0.Name, .int .i64 a0.Num, str a0.Text] 45]) (fun s t => True) ?_ ?_
 ·refine Jb ?_
  refine Ja rfl rfl rfl (Jo Tryz.runUnderlying45 rfl Tryz.sizeOf3 rfl rfl) ?_
  refine Jv (i := 0) (v := .int .i64 a0.Kind) Tryz.isAgg3 rfl rfl rfl rfl rfl ?_
  refine Ja rfl rfl rfl (Xd rfl rfl) ?_
  refine Ja rfl rfl rfl (Je (v := .bool (decide (a0.Kind = 2))) rfl) ?_
  refine split (fun hb => ?_) (fun hb => ?_)
  ·have H141 := Jr hb H; clear H
   refine Jk rfl rfl rfl ?_
   refine Jk rfl rfl rfl ?_
   refine Jk rfl rfl rfl ?_
   refine Ja rfl rfl rfl (J7 (v := .bool true) rfl rfl) ?_
   refine Ja rfl rfl rfl (Je (v := .bool true) rfl) ?_
   refine Jk rfl rfl rfl ?_
   refine Jk rfl rfl rfl ?_
   refine Jk rfl rfl rfl ?_
   refine Ja rfl rfl rfl (J7 (v := .bool true) rfl rfl) ?_
   refine Ja rfl rfl rfl (Jc (v := .bool true) rfl) ?_
   refine Jg ?_
   refine Js true () 0 [0] (by exact ⟨rfl, rfl, trivial⟩) (by decide) rfl (by exact ⟨H141, trivial⟩) (Nat.lt_succ_self _)
  ·have H142 := Jq hb H; clear H
   refine Ja rfl rfl rfl (Jo Tryz.runUnderlying45 rfl Tryz.sizeOf3 rfl rfl) ?_
   refine Jv (i := 0) (v := .int .i64 a0.Kind) Tryz.isAgg3 rfl rfl rfl rfl rfl ?_
   refine Ja rfl rfl rfl (Xd rfl rfl) ?_
   refine Ja rfl rfl rfl (J1 (v := .bool (decide (a0.Kind = 4))) rfl rfl) ?_
   refine Ja rfl rfl rfl (Je (v := .bool (decide (a0.Kind = 4))) rfl) ?_
   refine split (fun hb => ?_) (fun hb => ?_)
   ·have H143 := Jr hb H142; clear H142
    refine Jk rfl rfl rfl ?_
    refine Jk rfl rfl rfl ?_
    refine Jk rfl rfl rfl ?_
    refine Ja rfl rfl rfl (J7 (v := .bool true) rfl rfl) ?_
    refine Ja rfl rfl rfl (Jc (v := .bool true) rfl) ?_
    refine Jg ?_
    refine Js true () 0 [0] (by exact ⟨rfl, rfl, trivial⟩) (by decide) rfl (by exact ⟨H143, trivial⟩) (Nat.lt_succ_self _)
   ·have H144 := Jq hb H142; clear H142
    refine Ja rfl rfl rfl (Jo Tryz.runUnderlying45 rfl Tryz.sizeOf3 rfl rfl) ?_
    refine Jv (i := 0) (v := .int .i64 a0.Kind) Tryz.isAgg3 rfl rfl rfl rfl rfl ?_
    refine Ja rfl rfl rfl (Xd rfl rfl) ?_
    refine Ja rfl rfl rfl (J1 (v := .bool (decide (a0.Kind = 6))) rfl rfl) ?_
    refine Ja rfl rfl rfl (Jc (v := .bool (decide (a0.Kind = 6))) rfl) ?_
    refine Jg ?_
    refine Js (decide (a0.Kind = 6)) () 0 [0] (by exact ⟨rfl, rfl, trivial⟩) (by decide) rfl (by exact ⟨H144, trivial⟩) (Nat.lt_succ_self _)
 ·rintro x3 _ gg H73 _
  replace H73 : Z2 a0 x3 = some r := H73
  refine J8 [(1, .pointer (some ⟨b1, 0, none⟩)), (3, .bool x3)] [Jl b1 [.int .i64 a0.Dot.Device, .int .i64 a0.Dot.N, .int .i64 a0.Time, .int .i64 a0.Kind, .int .i64 a0.Id, str a0.Name, .int .i64 a0.Num, str a0.Text] 45] rfl rfl ?_
  refine Xu (r := r) (σ := Bool) (τ := Unit) (fun s => Vu a0 x3 s) (fun s t => [(1, .pointer (some ⟨b1, 0, none⟩)), (3, .bool x3), (4, .bool s)]) (fun s t => [Jl b1 [.int .i64 a0.Dot.Device, .int .i64 a0.Dot.N, .int .i64 a0.Time, .int .i64 a0.Kind, .int .i64 a0.Id, str a0.Name, .int .i64 a0.Num, str a0.Text] 45]) (fun s t => True) ?_ ?_
  ·refine Jb ?_
   refine Ja rfl rfl rfl (Jo Tryz.runUnderlying45 rfl Tryz.sizeOf3 rfl rfl) ?_
   refine Jv (i := 0) (v := .int .i64 a0.Kind) Tryz.isAgg3 rfl rfl rfl rfl rfl ?_
   refine Ja rfl rfl rfl (Xd rfl rfl) ?_
   refine Ja rfl rfl rfl (Je (v := .bool (decide (a0.Kind = 5))) rfl) ?_
   refine split (fun hb => ?_) (fun hb => ?_)
   ·have H139 := Jr hb H73; clear H73
    refine Jk rfl rfl rfl ?_
    refine Jk rfl rfl rfl ?_
    refine Jk rfl rfl rfl ?_
    refine Ja rfl rfl rfl (J7 (v := .bool true) rfl rfl) ?_
    refine Ja rfl rfl rfl (Jc (v := .bool true) rfl) ?_
    refine Jg ?_
    refine Js true () 0 [0] (by exact ⟨rfl, rfl, rfl, trivial⟩) (by decide) rfl (by exact ⟨H139, trivial⟩) (Nat.lt_succ_self _)
   ·have H140 := Jq hb H73; clear H73
    refine Ja rfl rfl rfl (Jo Tryz.runUnderlying45 rfl Tryz.sizeOf3 rfl rfl) ?_
    refine Jv (i := 0) (v := .int .i64 a0.Kind) Tryz.isAgg3 rfl rfl rfl rfl rfl ?_
    refine Ja rfl rfl rfl (Xd rfl rfl) ?_
    refine Ja rfl rfl rfl (J1 (v := .bool (decide (a0.Kind = 6))) rfl rfl) ?_
    refine Ja rfl rfl rfl (Jc (v := .bool (decide (a0.Kind = 6))) rfl) ?_
    refine Jg ?_
    refine Js (decide (a0.Kind = 6)) () 0 [0] (by exact ⟨rfl, rfl, rfl, trivial⟩) (by decide) rfl (by exact ⟨H140, trivial⟩) (Nat.lt_succ_self _)
  ·rintro x4 _ gg H74 _
   replace H74 : Vu a0 x3 x4 = some r := H74
   refine J8 [(1, .pointer (some ⟨b1, 0, none⟩)), (3, .bool x3), (4, .bool x4)] [Jl b1 [.int .i64 a0.Dot.Device, .int .i64 a0.Dot.N, .int .i64 a0.Time, .int .i64 a0.Kind, .int .i64 a0.Id, str a0.Name, .int .i64 a0.Num, str a0.Text] 45] rfl rfl ?_
   refine Xu (r := r) (σ := Bool) (τ := Unit) (fun s => Za a0 x3 x4 s) (fun s t => [(1, .pointer (some ⟨b1, 0, none⟩)), (3, .bool x3), (4, .bool x4), (5, .bool s)]) (fun s t => [Jl b1 [.int .i64 a0.Dot.Device, .int .i64 a0.Dot.N, .int .i64 a0.Time, .int .i64 a0.Kind, .int .i64 a0.Id, str a0.Name, .int .i64 a0.Num, str a0.Text] 45]) (fun s t => True) ?_ ?_
   ·refine Jb ?_
    refine Ja rfl rfl rfl (Jo Tryz.runUnderlying45 rfl Tryz.sizeOf3 rfl rfl) ?_
    refine Jv (i := 0) (v := .int .i64 a0.Kind) Tryz.isAgg3 rfl rfl rfl rfl rfl ?_
    refine Ja rfl rfl rfl (Xd rfl rfl) ?_
    refine Ja rfl rfl rfl (Je (v := .bool (decide (a0.Kind = 1))) rfl) ?_
    refine split (fun hb => ?_) (fun hb => ?_)
    ·have H137 := Jr hb H74; clear H74
     refine Jk rfl rfl rfl ?_
     refine Jk rfl rfl rfl ?_
     refine Jk rfl rfl rfl ?_
     refine Ja rfl rfl rfl (J7 (v := .bool true) rfl rfl) ?_
     refine Ja rfl rfl rfl (Jc (v := .bool true) rfl) ?_
     refine Jg ?_
     refine Js true () 0 [0] (by exact ⟨rfl, rfl, rfl, rfl, trivial⟩) (by decide) rfl (by exact ⟨H137, trivial⟩) (Nat.lt_succ_self _)
    ·have H138 := Jq hb H74; clear H74
     refine Ja rfl rfl rfl (Jo Tryz.runUnderlying45 rfl Tryz.sizeOf3 rfl rfl) ?_
     refine Jv (i := 0) (v := .int .i64 a0.Kind) Tryz.isAgg3 rfl rfl rfl rfl rfl ?_
     refine Ja rfl rfl rfl (Xd rfl rfl) ?_
     refine Ja rfl rfl rfl (J1 (v := .bool (decide (a0.Kind = 3))) rfl rfl) ?_
     refine Ja rfl rfl rfl (Jc (v := .bool (decide (a0.Kind = 3))) rfl) ?_
     refine Jg ?_
     refine Js (decide (a0.Kind = 3)) () 0 [0] (by exact ⟨rfl, rfl, rfl, rfl, trivial⟩) (by decide) rfl (by exact ⟨H138, trivial⟩) (Nat.lt_succ_self _)
   ·rintro x5 _ gg H75 _
    replace H75 : Za a0 x3 x4 x5 = some r := H75
    refine J8 [(1, .pointer (some ⟨b1, 0, none⟩)), (3, .bool x3), (4, .bool x4), (5, .bool x5)] [Jl b1 [.int .i64 a0.Dot.Device, .int .i64 a0.Dot.N, .int .i64 a0.Time, .int .i64 a0.Kind, .int .i64 a0.Id, str a0.Name, .int .i64 a0.Num, str a0.Text] 45] rfl rfl ?_
    refine Jf ?_
    refine J5 ?_
    refine Jf ?_
    refine Jb ?_
    refine Ja rfl rfl rfl (Jo Tryz.runUnderlying45 rfl Tryz.sizeOf3 rfl rfl) ?_
    refine Jv (i := 0) (v := .int .i64 a0.Kind) Tryz.isAgg3 rfl rfl rfl rfl rfl ?_
    obtain ⟨t38, h_t38, H76⟩ := Ji H75; clear H75
    refine Q5 (k31 h_t38) Tryz.call31 rfl rfl rfl ?_
    refine Ja rfl rfl rfl (Jc (v := .bool t38) rfl) ?_
    refine Jg ?_
    refine Qg (b := t38) rfl (fun hb => ?_) (fun hb => ?_)
    ·have H77 := Jr hb H76; clear H76
     refine Jf ?_
     refine Jb ?_
     refine Ja rfl rfl rfl (Jc (v := .int .i64 10) rfl) ?_
     refine Jg ?_
     refine Jp ?_
     obtain rfl := Option.some.inj H77
     refine J3 (v := .int .i64 10) rfl rfl (Yd rfl)
    ·have H78 := Jq hb H76; clear H76
     refine Xu (r := r) (σ := Bool) (τ := Unit) (fun s => Qh a0 x4 s) (fun s t => [(1, .pointer (some ⟨b1, 0, none⟩)), (4, .bool x4), (39, .bool s)]) (fun s t => [Jl b1 [.int .i64 a0.Dot.Device, .int .i64 a0.Dot.N, .int .i64 a0.Time, .int .i64 a0.Kind, .int .i64 a0.Id, str a0.Name, .int .i64 a0.Num, str a0.Text] 45]) (fun s t => True) ?_ ?_
     ·refine Jb ?_
      refine Ja rfl rfl rfl (Je (v := .bool x3) rfl) ?_
      refine Ja rfl rfl rfl (Zm rfl) ?_
      refine Ja rfl rfl rfl (Je (v := .bool (!x3)) rfl) ?_
      refine split (fun hb => ?_) (fun hb => ?_)
      ·have H117 := Jr hb H78; clear H78
       refine Ja rfl rfl rfl (Jo Tryz.runUnderlying45 rfl Tryz.sizeOf3 rfl rfl) ?_
       refine Jv (i := 0) (v := .int .i64 a0.Num) Tryz.isAgg3 rfl rfl rfl rfl rfl ?_
       refine Ja rfl rfl rfl (r_neq rfl rfl) ?_
       refine Ja rfl rfl rfl (J7 (v := .bool (decide (a0.Num ≠ 0))) rfl rfl) ?_
       refine Ja rfl rfl rfl (Je (v := .bool (decide (a0.Num ≠ 0))) rfl) ?_
       refine split (fun hb => ?_) (fun hb => ?_)
       ·have H118 := Jr hb H117; clear H117
        refine Jk rfl rfl rfl ?_
        refine Jk rfl rfl rfl ?_
        refine Jk rfl rfl rfl ?_
        refine Jk rfl rfl rfl ?_
        refine Jk rfl rfl rfl ?_
        refine Jk rfl rfl rfl ?_
        refine Jk rfl rfl rfl ?_
        refine Ja rfl rfl rfl (J7 (v := .bool true) rfl rfl) ?_
        refine Ja rfl rfl rfl (Je (v := .bool true) rfl) ?_
        refine Jk rfl rfl rfl ?_
        refine Jk rfl rfl rfl ?_
        refine Jk rfl rfl rfl ?_
        refine Jk rfl rfl rfl ?_
        refine Jk rfl rfl rfl ?_
        refine Jk rfl rfl rfl ?_
        refine Jk rfl rfl rfl ?_
        refine Ja rfl rfl rfl (J7 (v := .bool true) rfl rfl) ?_
        refine Ja rfl rfl rfl (Jc (v := .bool true) rfl) ?_
        refine Jg ?_
        refine Js true () 0 [0] (by exact ⟨rfl, rfl, rfl, trivial⟩) (by decide) rfl (by exact ⟨H118, trivial⟩) (Nat.lt_succ_self _)
       ·have H119 := Jq hb H117; clear H117
        refine Ja rfl rfl rfl (Je (v := .bool x4) rfl) ?_
        refine Ja rfl rfl rfl (Zm rfl) ?_
        refine Ja rfl rfl rfl (Je (v := .bool (!x4)) rfl) ?_
        refine split (fun hb => ?_) (fun hb => ?_)
        ·have H120 := Jr hb H119; clear H119
         refine Ja rfl rfl rfl (Jo Tryz.runUnderlying45 rfl Tryz.sizeOf9 rfl rfl) ?_
         refine Jv (i := 0) (v := str a0.Name) Tryz.isAgg9 rfl rfl rfl rfl rfl ?_
         refine Ja rfl rfl rfl (r_neqT rfl rfl) ?_
         refine Ja rfl rfl rfl (J7 (v := .bool (decide (a0.Name ≠ []))) rfl rfl) ?_
         refine Ja rfl rfl rfl (J1 (v := .bool (decide (a0.Name ≠ []))) rfl rfl) ?_
         refine Ja rfl rfl rfl (Je (v := .bool (decide (a0.Name ≠ []))) rfl) ?_
         refine split (fun hb => ?_) (fun hb => ?_)
         ·have H121 := Jr hb H120; clear H120
          refine Jk rfl rfl rfl ?_
          refine Jk rfl rfl rfl ?_
          refine Jk rfl rfl rfl ?_
          refine Jk rfl rfl rfl ?_
          refine Jk rfl rfl rfl ?_
          refine Jk rfl rfl rfl ?_
          refine Jk rfl rfl rfl ?_
          refine Ja rfl rfl rfl (J7 (v := .bool true) rfl rfl) ?_
          refine Ja rfl rfl rfl (Jc (v := .bool true) rfl) ?_
          refine Jg ?_
          refine Js true () 0 [0] (by exact ⟨rfl, rfl, rfl, trivial⟩) (by decide) rfl (by exact ⟨H121, trivial⟩) (Nat.lt_succ_self _)
         ·have H122 := Jq hb H120; clear H120
          refine Ja rfl rfl rfl (Je (v := .bool x5) rfl) ?_
          refine Ja rfl rfl rfl (Zm rfl) ?_
          refine Ja rfl rfl rfl (Je (v := .bool (!x5)) rfl) ?_
          refine split (fun hb => ?_) (fun hb => ?_)
          ·have H123 := Jr hb H122; clear H122
           refine Ja rfl rfl rfl (Jo Tryz.runUnderlying45 rfl Tryz.sizeOf9 rfl rfl) ?_
           refine Jv (i := 0) (v := str a0.Text) Tryz.isAgg9 rfl rfl rfl rfl rfl ?_
           refine Ja rfl rfl rfl (r_neqT rfl rfl) ?_
           refine Ja rfl rfl rfl (J7 (v := .bool (decide (a0.Text ≠ []))) rfl rfl) ?_
           refine Ja rfl rfl rfl (J1 (v := .bool (decide (a0.Text ≠ []))) rfl rfl) ?_
           refine Ja rfl rfl rfl (Jc (v := .bool (decide (a0.Text ≠ []))) rfl) ?_
           refine Jg ?_
           refine Js (decide (a0.Text ≠ [])) () 0 [0] (by exact ⟨rfl, rfl, rfl, trivial⟩) (by decide) rfl (by exact ⟨H123, trivial⟩) (Nat.lt_succ_self _)
          ·have H124 := Jq hb H122; clear H122
           refine Jk rfl rfl rfl ?_
           refine Jk rfl rfl rfl ?_
           refine Jk rfl rfl rfl ?_
           refine Ja rfl rfl rfl (J1 (v := .bool false) rfl rfl) ?_
           refine Ja rfl rfl rfl (J1 (v := .bool false) rfl rfl) ?_
           refine Ja rfl rfl rfl (Jc (v := .bool false) rfl) ?_
           refine Jg ?_
           refine Js false () 0 [0] (by exact ⟨rfl, rfl, rfl, trivial⟩) (by decide) rfl (by exact ⟨H124, trivial⟩) (Nat.lt_succ_self _)
        ·have H125 := Jq hb H119; clear H119
         refine Jk rfl rfl rfl ?_
         refine Jk rfl rfl rfl ?_
         refine Jk rfl rfl rfl ?_
         refine Ja rfl rfl rfl (J1 (v := .bool false) rfl rfl) ?_
         refine Ja rfl rfl rfl (J1 (v := .bool false) rfl rfl) ?_
         refine Ja rfl rfl rfl (Je (v := .bool false) rfl) ?_
         refine Ja rfl rfl rfl (Je (v := .bool x5) rfl) ?_
         refine Ja rfl rfl rfl (Zm rfl) ?_
         refine Ja rfl rfl rfl (Je (v := .bool (!x5)) rfl) ?_
         refine split (fun hb => ?_) (fun hb => ?_)
         ·have H126 := Jr hb H125; clear H125
          refine Ja rfl rfl rfl (Jo Tryz.runUnderlying45 rfl Tryz.sizeOf9 rfl rfl) ?_
          refine Jv (i := 0) (v := str a0.Text) Tryz.isAgg9 rfl rfl rfl rfl rfl ?_
          refine Ja rfl rfl rfl (r_neqT rfl rfl) ?_
          refine Ja rfl rfl rfl (J7 (v := .bool (decide (a0.Text ≠ []))) rfl rfl) ?_
          refine Ja rfl rfl rfl (J1 (v := .bool (decide (a0.Text ≠ []))) rfl rfl) ?_
          refine Ja rfl rfl rfl (Jc (v := .bool (decide (a0.Text ≠ []))) rfl) ?_
          refine Jg ?_
          refine Js (decide (a0.Text ≠ [])) () 0 [0] (by exact ⟨rfl, rfl, rfl, trivial⟩) (by decide) rfl (by exact ⟨H126, trivial⟩) (Nat.lt_succ_self _)
         ·have H127 := Jq hb H125; clear H125
          refine Jk rfl rfl rfl ?_
          refine Jk rfl rfl rfl ?_
          refine Jk rfl rfl rfl ?_
          refine Ja rfl rfl rfl (J1 (v := .bool false) rfl rfl) ?_
          refine Ja rfl rfl rfl (J1 (v := .bool false) rfl rfl) ?_
          refine Ja rfl rfl rfl (Jc (v := .bool false) rfl) ?_
          refine Jg ?_
          refine Js false () 0 [0] (by exact ⟨rfl, rfl, rfl, trivial⟩) (by decide) rfl (by exact ⟨H127, trivial⟩) (Nat.lt_succ_self _)
      ·have H128 := Jq hb H78; clear H78
       refine Jk rfl rfl rfl ?_
       refine Jk rfl rfl rfl ?_
       refine Jk rfl rfl rfl ?_
       refine Ja rfl rfl rfl (J1 (v := .bool false) rfl rfl) ?_
       refine Ja rfl rfl rfl (Je (v := .bool false) rfl) ?_
       refine Ja rfl rfl rfl (Je (v := .bool x4) rfl) ?_
       refine Ja rfl rfl rfl (Zm rfl) ?_
       refine Ja rfl rfl rfl (Je (v := .bool (!x4)) rfl) ?_
       refine split (fun hb => ?_) (fun hb => ?_)
       ·have H129 := Jr hb H128; clear H128
        refine Ja rfl rfl rfl (Jo Tryz.runUnderlying45 rfl Tryz.sizeOf9 rfl rfl) ?_
        refine Jv (i := 0) (v := str a0.Name) Tryz.isAgg9 rfl rfl rfl rfl rfl ?_
        refine Ja rfl rfl rfl (r_neqT rfl rfl) ?_
        refine Ja rfl rfl rfl (J7 (v := .bool (decide (a0.Name ≠ []))) rfl rfl) ?_
        refine Ja rfl rfl rfl (J1 (v := .bool (decide (a0.Name ≠ []))) rfl rfl) ?_
        refine Ja rfl rfl rfl (Je (v := .bool (decide (a0.Name ≠ []))) rfl) ?_
        refine split (fun hb => ?_) (fun hb => ?_)
        ·have H130 := Jr hb H129; clear H129
         refine Jk rfl rfl rfl ?_
         refine Jk rfl rfl rfl ?_
         refine Jk rfl rfl rfl ?_
         refine Jk rfl rfl rfl ?_
         refine Jk rfl rfl rfl ?_
         refine Jk rfl rfl rfl ?_
         refine Jk rfl rfl rfl ?_
         refine Ja rfl rfl rfl (J7 (v := .bool true) rfl rfl) ?_
         refine Ja rfl rfl rfl (Jc (v := .bool true) rfl) ?_
         refine Jg ?_
         refine Js true () 0 [0] (by exact ⟨rfl, rfl, rfl, trivial⟩) (by decide) rfl (by exact ⟨H130, trivial⟩) (Nat.lt_succ_self _)
        ·have H131 := Jq hb H129; clear H129
         refine Ja rfl rfl rfl (Je (v := .bool x5) rfl) ?_
         refine Ja rfl rfl rfl (Zm rfl) ?_
         refine Ja rfl rfl rfl (Je (v := .bool (!x5)) rfl) ?_
         refine split (fun hb => ?_) (fun hb => ?_)
         ·have H132 := Jr hb H131; clear H131
          refine Ja rfl rfl rfl (Jo Tryz.runUnderlying45 rfl Tryz.sizeOf9 rfl rfl) ?_
          refine Jv (i := 0) (v := str a0.Text) Tryz.isAgg9 rfl rfl rfl rfl rfl ?_
          refine Ja rfl rfl rfl (r_neqT rfl rfl) ?_
          refine Ja rfl rfl rfl (J7 (v := .bool (decide (a0.Text ≠ []))) rfl rfl) ?_
          refine Ja rfl rfl rfl (J1 (v := .bool (decide (a0.Text ≠ []))) rfl rfl) ?_
          refine Ja rfl rfl rfl (Jc (v := .bool (decide (a0.Text ≠ []))) rfl) ?_
          refine Jg ?_
          refine Js (decide (a0.Text ≠ [])) () 0 [0] (by exact ⟨rfl, rfl, rfl, trivial⟩) (by decide) rfl (by exact ⟨H132, trivial⟩) (Nat.lt_succ_self _)
         ·have H133 := Jq hb H131; clear H131
          refine Jk rfl rfl rfl ?_
          refine Jk rfl rfl rfl ?_
          refine Jk rfl rfl rfl ?_
          refine Ja rfl rfl rfl (J1 (v := .bool false) rfl rfl) ?_
          refine Ja rfl rfl rfl (J1 (v := .bool false) rfl rfl) ?_
          refine Ja rfl rfl rfl (Jc (v := .bool false) rfl) ?_
          refine Jg ?_
          refine Js false () 0 [0] (by exact ⟨rfl, rfl, rfl, trivial⟩) (by decide) rfl (by exact ⟨H133, trivial⟩) (Nat.lt_succ_self _)
       ·have H134 := Jq hb H128; clear H128
        refine Jk rfl rfl rfl ?_
        refine Jk rfl rfl rfl ?_
        refine Jk rfl rfl rfl ?_
        refine Ja rfl rfl rfl (J1 (v := .bool false) rfl rfl) ?_
        refine Ja rfl rfl rfl (J1 (v := .bool false) rfl rfl) ?_
        refine Ja rfl rfl rfl (Je (v := .bool false) rfl) ?_
        refine Ja rfl rfl rfl (Je (v := .bool x5) rfl) ?_
        refine Ja rfl rfl rfl (Zm rfl) ?_
        refine Ja rfl rfl rfl (Je (v := .bool (!x5)) rfl) ?_
        refine split (fun hb => ?_) (fun hb => ?_)
        ·have H135 := Jr hb H134; clear H134
         refine Ja rfl rfl rfl (Jo Tryz.runUnderlying45 rfl Tryz.sizeOf9 rfl rfl) ?_
         refine Jv (i := 0) (v := str a0.Text) Tryz.isAgg9 rfl rfl rfl rfl rfl ?_
         refine Ja rfl rfl rfl (r_neqT rfl rfl) ?_
         refine Ja rfl rfl rfl (J7 (v := .bool (decide (a0.Text ≠ []))) rfl rfl) ?_
         refine Ja rfl rfl rfl (J1 (v := .bool (decide (a0.Text ≠ []))) rfl rfl) ?_
         refine Ja rfl rfl rfl (Jc (v := .bool (decide (a0.Text ≠ []))) rfl) ?_
         refine Jg ?_
         refine Js (decide (a0.Text ≠ [])) () 0 [0] (by exact ⟨rfl, rfl, rfl, trivial⟩) (by decide) rfl (by exact ⟨H135, trivial⟩) (Nat.lt_succ_self _)
        ·have H136 := Jq hb H134; clear H134
         refine Jk rfl rfl rfl ?_
         refine Jk rfl rfl rfl ?_
         refine Jk rfl rfl rfl ?_
         refine Ja rfl rfl rfl (J1 (v := .bool false) rfl rfl) ?_
         refine Ja rfl rfl rfl (J1 (v := .bool false) rfl rfl) ?_
         refine Ja rfl rfl rfl (Jc (v := .bool false) rfl) ?_
         refine Jg ?_
         refine Js false () 0 [0] (by exact ⟨rfl, rfl, rfl, trivial⟩) (by decide) rfl (by exact ⟨H136, trivial⟩) (Nat.lt_succ_self _)
     ·rintro x39 _ gg H79 _
      replace H79 : Qh a0 x4 x39 = some r := H79
      refine J8 [(1, .pointer (some ⟨b1, 0, none⟩)), (4, .bool x4), (39, .bool x39)] [Jl b1 [.int .i64 a0.Dot.Device, .int .i64 a0.Dot.N, .int .i64 a0.Time, .int .i64 a0.Kind, .int .i64 a0.Id, str a0.Name, .int .i64 a0.Num, str a0.Text] 45] rfl rfl ?_
      refine Qg (b := x39) rfl (fun hb => ?_) (fun hb => ?_)
      ·have H80 := Jr hb H79; clear H79
       refine Jf ?_
       refine Jb ?_
       refine Ja rfl rfl rfl (Jc (v := .int .i64 1) rfl) ?_
       refine Jg ?_
       refine Jp ?_
       obtain rfl := Option.some.inj H80
       refine J3 (v := .int .i64 1) rfl rfl (Yd rfl)
      ·have H81 := Jq hb H79; clear H79
       refine Jf ?_
       refine Jb ?_
       refine Ja rfl rfl rfl (Jo Tryz.runUnderlying45 rfl Tryz.sizeOf3 rfl rfl) ?_
       refine Jv (i := 0) (v := .int .i64 a0.Id) Tryz.isAgg3 rfl rfl rfl rfl rfl ?_
       obtain ⟨t68, h_t68, H82⟩ := Ji H81; clear H81
       refine Q5 (k31 h_t68) Tryz.call31 rfl rfl rfl ?_
       refine Ja rfl rfl rfl (Jc (v := .bool t68) rfl) ?_
       refine Jg ?_
       refine Qg (b := t68) rfl (fun hb => ?_) (fun hb => ?_)
       ·have H83 := Jr hb H82; clear H82
        refine Jf ?_
        refine Jb ?_
        refine Ja rfl rfl rfl (Jc (v := .int .i64 2) rfl) ?_
        refine Jg ?_
        refine Jp ?_
        obtain rfl := Option.some.inj H83
        refine J3 (v := .int .i64 2) rfl rfl (Yd rfl)
       ·have H84 := Jq hb H82; clear H82
        refine Xu (r := r) (σ := Bool) (τ := Unit) (fun s => Xg a0 x4 s) (fun s t => [(1, .pointer (some ⟨b1, 0, none⟩)), (4, .bool x4), (69, .bool s)]) (fun s t => [Jl b1 [.int .i64 a0.Dot.Device, .int .i64 a0.Dot.N, .int .i64 a0.Time, .int .i64 a0.Kind, .int .i64 a0.Id, str a0.Name, .int .i64 a0.Num, str a0.Text] 45]) (fun s t => True) ?_ ?_
        ·refine Jb ?_
         refine Ja rfl rfl rfl (Jo Tryz.runUnderlying45 rfl Tryz.sizeOf3 rfl rfl) ?_
         refine Jv (i := 0) (v := .int .i64 a0.Kind) Tryz.isAgg3 rfl rfl rfl rfl rfl ?_
         refine Ja rfl rfl rfl (Xd rfl rfl) ?_
         refine Ja rfl rfl rfl (Je (v := .bool (decide (a0.Kind = 1))) rfl) ?_
         refine split (fun hb => ?_) (fun hb => ?_)
         ·have H114 := Jr hb H84; clear H84
          refine Ja rfl rfl rfl (Jo Tryz.runUnderlying45 rfl Tryz.sizeOf9 rfl rfl) ?_
          refine Jv (i := 0) (v := str a0.Text) Tryz.isAgg9 rfl rfl rfl rfl rfl ?_
          obtain ⟨t76, h_t76, H115⟩ := Ji H114; clear H114
          refine Q5 (k57 h_t76) Tryz.call57 rfl rfl rfl ?_
          refine Ja rfl rfl rfl (Zm rfl) ?_
          refine Ja rfl rfl rfl (J7 (v := .bool (!t76)) rfl rfl) ?_
          refine Ja rfl rfl rfl (Jc (v := .bool (!t76)) rfl) ?_
          refine Jg ?_
          refine Js (!t76) () 0 [0] (by exact ⟨rfl, rfl, rfl, trivial⟩) (by decide) rfl (by exact ⟨H115, trivial⟩) (Nat.lt_succ_self _)
         ·have H116 := Jq hb H84; clear H84
          refine Jk rfl rfl rfl ?_
          refine Jk rfl rfl rfl ?_
          refine Jk rfl rfl rfl ?_
          refine Jk rfl rfl rfl ?_
          refine Ja rfl rfl rfl (J1 (v := .bool false) rfl rfl) ?_
          refine Ja rfl rfl rfl (Jc (v := .bool false) rfl) ?_
          refine Jg ?_
          refine Js false () 0 [0] (by exact ⟨rfl, rfl, rfl, trivial⟩) (by decide) rfl (by exact ⟨H116, trivial⟩) (Nat.lt_succ_self _)
        ·rintro x69 _ gg H85 _
         replace H85 : Xg a0 x4 x69 = some r := H85
         refine J8 [(1, .pointer (some ⟨b1, 0, none⟩)), (4, .bool x4), (69, .bool x69)] [Jl b1 [.int .i64 a0.Dot.Device, .int .i64 a0.Dot.N, .int .i64 a0.Time, .int .i64 a0.Kind, .int .i64 a0.Id, str a0.Name, .int .i64 a0.Num, str a0.Text] 45] rfl rfl ?_
         refine Qg (b := x69) rfl (fun hb => ?_) (fun hb => ?_)
         ·have H86 := Jr hb H85; clear H85
          refine Jf ?_
          refine Jb ?_
          refine Ja rfl rfl rfl (Jc (v := .int .i64 1) rfl) ?_
          refine Jg ?_
          refine Jp ?_
          obtain rfl := Option.some.inj H86
          refine J3 (v := .int .i64 1) rfl rfl (Yd rfl)
         ·have H87 := Jq hb H85; clear H85
          refine Xu (r := r) (σ := Bool) (τ := Unit) (fun s => Xf a0 x4 s) (fun s t => [(1, .pointer (some ⟨b1, 0, none⟩)), (4, .bool x4), (79, .bool s)]) (fun s t => [Jl b1 [.int .i64 a0.Dot.Device, .int .i64 a0.Dot.N, .int .i64 a0.Time, .int .i64 a0.Kind, .int .i64 a0.Id, str a0.Name, .int .i64 a0.Num, str a0.Text] 45]) (fun s t => True) ?_ ?_
          ·refine Jb ?_
           refine Ja rfl rfl rfl (Jo Tryz.runUnderlying45 rfl Tryz.sizeOf3 rfl rfl) ?_
           refine Jv (i := 0) (v := .int .i64 a0.Kind) Tryz.isAgg3 rfl rfl rfl rfl rfl ?_
           refine Ja rfl rfl rfl (Xd rfl rfl) ?_
           refine Ja rfl rfl rfl (Je (v := .bool (decide (a0.Kind = 2))) rfl) ?_
           refine split (fun hb => ?_) (fun hb => ?_)
           ·have H111 := Jr hb H87; clear H87
            refine Ja rfl rfl rfl (Jo Tryz.runUnderlying45 rfl Tryz.sizeOf3 rfl rfl) ?_
            refine Jv (i := 0) (v := .int .i64 a0.Num) Tryz.isAgg3 rfl rfl rfl rfl rfl ?_
            obtain ⟨t86, h_t86, H112⟩ := Ji H111; clear H111
            refine Q5 (k31 h_t86) Tryz.call31 rfl rfl rfl ?_
            refine Ja rfl rfl rfl (J7 (v := .bool t86) rfl rfl) ?_
            refine Ja rfl rfl rfl (Jc (v := .bool t86) rfl) ?_
            refine Jg ?_
            refine Js t86 () 0 [0] (by exact ⟨rfl, rfl, rfl, trivial⟩) (by decide) rfl (by exact ⟨H112, trivial⟩) (Nat.lt_succ_self _)
           ·have H113 := Jq hb H87; clear H87
            refine Jk rfl rfl rfl ?_
            refine Jk rfl rfl rfl ?_
            refine Jk rfl rfl rfl ?_
            refine Ja rfl rfl rfl (J1 (v := .bool false) rfl rfl) ?_
            refine Ja rfl rfl rfl (Jc (v := .bool false) rfl) ?_
            refine Jg ?_
            refine Js false () 0 [0] (by exact ⟨rfl, rfl, rfl, trivial⟩) (by decide) rfl (by exact ⟨H113, trivial⟩) (Nat.lt_succ_self _)
          ·rintro x79 _ gg H88 _
           replace H88 : Xf a0 x4 x79 = some r := H88
           refine J8 [(1, .pointer (some ⟨b1, 0, none⟩)), (4, .bool x4), (79, .bool x79)] [Jl b1 [.int .i64 a0.Dot.Device, .int .i64 a0.Dot.N, .int .i64 a0.Time, .int .i64 a0.Kind, .int .i64 a0.Id, str a0.Name, .int .i64 a0.Num, str a0.Text] 45] rfl rfl ?_
           refine Qg (b := x79) rfl (fun hb => ?_) (fun hb => ?_)
           ·have H89 := Jr hb H88; clear H88
            refine Jf ?_
            refine Jb ?_
            refine Ja rfl rfl rfl (Jc (v := .int .i64 2) rfl) ?_
            refine Jg ?_
            refine Jp ?_
            obtain rfl := Option.some.inj H89
            refine J3 (v := .int .i64 2) rfl rfl (Yd rfl)
           ·have H90 := Jq hb H88; clear H88
            refine Jf ?_
            refine Jb ?_
            refine Ja rfl rfl rfl (Jo Tryz.runUnderlying45 rfl Tryz.sizeOf3 rfl rfl) ?_
            refine Jv (i := 0) (v := .int .i64 a0.Kind) Tryz.isAgg3 rfl rfl rfl rfl rfl ?_
            refine Ja rfl rfl rfl (Xd rfl rfl) ?_
            refine Ja rfl rfl rfl (Jc (v := .bool (decide (a0.Kind = 3))) rfl) ?_
            refine Jg ?_
            refine Qg (b := (decide (a0.Kind = 3))) rfl (fun hb => ?_) (fun hb => ?_)
            ·have H91 := Jr hb H90; clear H90
             refine Jf ?_
             refine Jb ?_
             refine Ja rfl rfl rfl (Jo Tryz.runUnderlying45 rfl Tryz.sizeOf9 rfl rfl) ?_
             refine Jv (i := 0) (v := str a0.Text) Tryz.isAgg9 rfl rfl rfl rfl rfl ?_
             obtain ⟨t94, h_t94, H92⟩ := Ji H91; clear H91
             refine Q5 (k58 h_t94) Tryz.call58 rfl rfl rfl ?_
             refine Ja rfl rfl rfl (Jc (v := .int .i64 t94) rfl) ?_
             refine Jg ?_
             refine Jp ?_
             obtain rfl := Option.some.inj H92
             refine J3 (v := .int .i64 t94) rfl rfl (Yd rfl)
            ·have H93 := Jq hb H90; clear H90
             refine Xu (r := r) (σ := Bool) (τ := Unit) (fun s => X5 a0 x4 s) (fun s t => [(1, .pointer (some ⟨b1, 0, none⟩)), (4, .bool x4), (95, .bool s)]) (fun s t => [Jl b1 [.int .i64 a0.Dot.Device, .int .i64 a0.Dot.N, .int .i64 a0.Time, .int .i64 a0.Kind, .int .i64 a0.Id, str a0.Name, .int .i64 a0.Num, str a0.Text] 45]) (fun s t => True) ?_ ?_
             ·refine Jb ?_
              refine Ja rfl rfl rfl (Jo Tryz.runUnderlying45 rfl Tryz.sizeOf3 rfl rfl) ?_
              refine Jv (i := 0) (v := .int .i64 a0.Kind) Tryz.isAgg3 rfl rfl rfl rfl rfl ?_
              refine Ja rfl rfl rfl (Xd rfl rfl) ?_
              refine Ja rfl rfl rfl (Je (v := .bool (decide (a0.Kind = 4))) rfl) ?_
              refine split (fun hb => ?_) (fun hb => ?_)
              ·have H108 := Jr hb H93; clear H93
               refine Ja rfl rfl rfl (Jo Tryz.runUnderlying45 rfl Tryz.sizeOf3 rfl rfl) ?_
               refine Jv (i := 0) (v := .int .i64 a0.Num) Tryz.isAgg3 rfl rfl rfl rfl rfl ?_
               obtain ⟨t102, h_t102, H109⟩ := Ji H108; clear H108
               refine Q5 (k31 h_t102) Tryz.call31 rfl rfl rfl ?_
               refine Ja rfl rfl rfl (J7 (v := .bool t102) rfl rfl) ?_
               refine Ja rfl rfl rfl (Jc (v := .bool t102) rfl) ?_
               refine Jg ?_
               refine Js t102 () 0 [0] (by exact ⟨rfl, rfl, rfl, trivial⟩) (by decide) rfl (by exact ⟨H109, trivial⟩) (Nat.lt_succ_self _)
              ·have H110 := Jq hb H93; clear H93
               refine Jk rfl rfl rfl ?_
               refine Jk rfl rfl rfl ?_
               refine Jk rfl rfl rfl ?_
               refine Ja rfl rfl rfl (J1 (v := .bool false) rfl rfl) ?_
               refine Ja rfl rfl rfl (Jc (v := .bool false) rfl) ?_
               refine Jg ?_
               refine Js false () 0 [0] (by exact ⟨rfl, rfl, rfl, trivial⟩) (by decide) rfl (by exact ⟨H110, trivial⟩) (Nat.lt_succ_self _)
             ·rintro x95 _ gg H94 _
              replace H94 : X5 a0 x4 x95 = some r := H94
              refine J8 [(1, .pointer (some ⟨b1, 0, none⟩)), (4, .bool x4), (95, .bool x95)] [Jl b1 [.int .i64 a0.Dot.Device, .int .i64 a0.Dot.N, .int .i64 a0.Time, .int .i64 a0.Kind, .int .i64 a0.Id, str a0.Name, .int .i64 a0.Num, str a0.Text] 45] rfl rfl ?_
              refine Qg (b := x95) rfl (fun hb => ?_) (fun hb => ?_)
              ·have H95 := Jr hb H94; clear H94
               refine Jf ?_
               refine Jb ?_
               refine Ja rfl rfl rfl (Jc (v := .int .i64 2) rfl) ?_
               refine Jg ?_
               refine Jp ?_
               obtain rfl := Option.some.inj H95
               refine J3 (v := .int .i64 2) rfl rfl (Yd rfl)
              ·have H96 := Jq hb H94; clear H94
               refine Xu (r := r) (σ := Bool) (τ := Unit) (fun s => Z3 a0 s) (fun s t => [(1, .pointer (some ⟨b1, 0, none⟩)), (104, .bool s)]) (fun s t => [Jl b1 [.int .i64 a0.Dot.Device, .int .i64 a0.Dot.N, .int .i64 a0.Time, .int .i64 a0.Kind, .int .i64 a0.Id, str a0.Name, .int .i64 a0.Num, str a0.Text] 45]) (fun s t => True) ?_ ?_
               ·refine Jb ?_
                refine Ja rfl rfl rfl (Je (v := .bool x4) rfl) ?_
                refine Ja rfl rfl rfl (Je (v := .bool x4) rfl) ?_
                refine split (fun hb => ?_) (fun hb => ?_)
                ·have H105 := Jr hb H96; clear H96
                 refine Ja rfl rfl rfl (Jo Tryz.runUnderlying45 rfl Tryz.sizeOf9 rfl rfl) ?_
                 refine Jv (i := 0) (v := str a0.Name) Tryz.isAgg9 rfl rfl rfl rfl rfl ?_
                 obtain ⟨t109, h_t109, H106⟩ := Ji H105; clear H105
                 refine Q5 (k59 h_t109) Tryz.call59 rfl rfl rfl ?_
                 refine Ja rfl rfl rfl (Zm rfl) ?_
                 refine Ja rfl rfl rfl (J7 (v := .bool (!t109)) rfl rfl) ?_
                 refine Ja rfl rfl rfl (Jc (v := .bool (!t109)) rfl) ?_
                 refine Jg ?_
                 refine Js (!t109) () 0 [0] (by exact ⟨rfl, rfl, trivial⟩) (by decide) rfl (by exact ⟨H106, trivial⟩) (Nat.lt_succ_self _)
                ·have H107 := Jq hb H96; clear H96
                 refine Jk rfl rfl rfl ?_
                 refine Jk rfl rfl rfl ?_
                 refine Jk rfl rfl rfl ?_
                 refine Jk rfl rfl rfl ?_
                 refine Ja rfl rfl rfl (J1 (v := .bool false) rfl rfl) ?_
                 refine Ja rfl rfl rfl (Jc (v := .bool false) rfl) ?_
                 refine Jg ?_
                 refine Js false () 0 [0] (by exact ⟨rfl, rfl, trivial⟩) (by decide) rfl (by exact ⟨H107, trivial⟩) (Nat.lt_succ_self _)
               ·rintro x104 _ gg H97 _
                replace H97 : Z3 a0 x104 = some r := H97
                refine J8 [(1, .pointer (some ⟨b1, 0, none⟩)), (104, .bool x104)] [Jl b1 [.int .i64 a0.Dot.Device, .int .i64 a0.Dot.N, .int .i64 a0.Time, .int .i64 a0.Kind, .int .i64 a0.Id, str a0.Name, .int .i64 a0.Num, str a0.Text] 45] rfl rfl ?_
                refine Qg (b := x104) rfl (fun hb => ?_) (fun hb => ?_)
                ·have H98 := Jr hb H97; clear H97
                 refine Jf ?_
                 refine Jb ?_
                 refine Ja rfl rfl rfl (Jc (v := .int .i64 3) rfl) ?_
                 refine Jg ?_
                 refine Jp ?_
                 obtain rfl := Option.some.inj H98
                 refine J3 (v := .int .i64 3) rfl rfl (Yd rfl)
                ·have H99 := Jq hb H97; clear H97
                 refine Jf ?_
                 refine Jb ?_
                 refine Ja rfl rfl rfl (Jo Tryz.runUnderlying45 rfl Tryz.sizeOf3 rfl rfl) ?_
                 refine Jv (i := 0) (v := .int .i64 a0.Kind) Tryz.isAgg3 rfl rfl rfl rfl rfl ?_
                 refine Ja rfl rfl rfl (Xd rfl rfl) ?_
                 refine Ja rfl rfl rfl (Je (v := .bool (decide (a0.Kind = 6))) rfl) ?_
                 refine split (fun hb => ?_) (fun hb => ?_)
                 ·have H100 := Jr hb H99; clear H99
                  refine Ja rfl rfl rfl (Jo Tryz.runUnderlying45 rfl Tryz.sizeOf3 rfl rfl) ?_
                  refine Jv (i := 0) (v := .int .i64 a0.Num) Tryz.isAgg3 rfl rfl rfl rfl rfl ?_
                  obtain ⟨t119, h_t119, H101⟩ := Ji H100; clear H100
                  refine Q5 (k31 h_t119) Tryz.call31 rfl rfl rfl ?_
                  refine Ja rfl rfl rfl (J7 (v := .bool t119) rfl rfl) ?_
                  refine Ja rfl rfl rfl (Jc (v := .bool t119) rfl) ?_
                  refine Jg ?_
                  refine Qg (b := t119) rfl (fun hb => ?_) (fun hb => ?_)
                  ·have H102 := Jr hb H101; clear H101
                   refine Jf ?_
                   refine Jb ?_
                   refine Ja rfl rfl rfl (Jc (v := .int .i64 2) rfl) ?_
                   refine Jg ?_
                   refine Jp ?_
                   obtain rfl := Option.some.inj H102
                   refine J3 (v := .int .i64 2) rfl rfl (Yd rfl)
                  ·have H103 := Jq hb H101; clear H101
                   refine Jw ?_
                   refine Jf ?_
                   refine Jb ?_
                   refine Ja rfl rfl rfl (Jc (v := .int .i64 0) rfl) ?_
                   refine Jg ?_
                   refine Jp ?_
                   obtain rfl := Option.some.inj H103
                   refine J3 (v := .int .i64 0) rfl rfl (Yd rfl)
                 ·have H104 := Jq hb H99; clear H99
                  refine Jk rfl rfl rfl ?_
                  refine Jk rfl rfl rfl ?_
                  refine Jk rfl rfl rfl ?_
                  refine Ja rfl rfl rfl (J1 (v := .bool false) rfl rfl) ?_
                  refine Ja rfl rfl rfl (Jc (v := .bool false) rfl) ?_
                  refine Jg ?_
                  refine Jab rfl ?_
                  refine Jw ?_
                  refine Jf ?_
                  refine Jb ?_
                  refine Ja rfl rfl rfl (Jc (v := .int .i64 0) rfl) ?_
                  refine Jg ?_
                  refine Jp ?_
                  obtain rfl := Option.some.inj H104
                  refine J3 (v := .int .i64 0) rfl rfl (Yd rfl)
theorem k49 {a0 : T_sync_Replica} {v0_2 : Value} {pb0 : Nat} {a1 : (T_sync_Fact → Option (Bool))} {v1 : Value} {r : (List T_sync_Fact)} {w : World} {h : Qd} (hw : Know h w Vd) (f0_2 : FrS h 8 v0_2 (a0.facts_.map Jd)) (hb0 : h pb0 = some (.cells (List.toArray [.int .i64 a0.device_, .int .i64 (a0.knows_ 0), .int .i64 (a0.knows_ 1), .int .i64 (a0.knows_ 2), .int .i64 (a0.knows_ 3), .int .i64 (a0.knows_ 4), .int .i64 (a0.knows_ 5), .int .i64 (a0.knows_ 6), .int .i64 (a0.knows_ 7), .int .i64 (a0.knows_ 8), .int .i64 (a0.knows_ 9), .int .i64 (a0.knows_ 10), .int .i64 (a0.knows_ 11), .int .i64 (a0.knows_ 12), .int .i64 (a0.knows_ 13), .int .i64 (a0.knows_ 14), .int .i64 (a0.knows_ 15), v0_2]) 60 (0, 0))) (f1 : FnH Tryz.prog h v1 (Q8 a1)) (H : Qb a0 a1 = some r) : Does Tryz.prog 49 (List.toArray [.pointer (some ⟨pb0, 0, none⟩), v1]) w (fun v w' => ∃ x : (Option Addr × Nat), v = (.slice x.1 r.length x.2) ∧ Turn w w' Vd (Jz 45 8 (.slice x.1 r.length x.2) r.length (r.map Jd))) := by
 refine enter (n := 26) Tryz.func49 rfl rfl rfl Vd [] (Sat.nil _ _) ?_
 refine Jf ?_
 refine Jb ?_
 refine Ja rfl rfl rfl (Jc (v := .slice none 0 0) rfl) ?_
 refine Jg ?_
 refine Jf ?_
 refine Jb ?_
 refine Ja rfl rfl rfl (Jc (v := .slice none 0 0) rfl) ?_
 refine Jg ?_
 refine Jf ?_
 refine Jf ?_
 refine Jb ?_
 refine Ja rfl rfl rfl (Je (v := .pointer (some ⟨pb0, 0, none⟩)) rfl) ?_
 refine Ja rfl rfl rfl (Qm rfl) ?_
 refine Ja rfl rfl rfl (Jo Tryz.runUnderlying60 rfl Tryz.sizeOf58 rfl rfl) ?_
 refine Qo (fun w hF hS => Xo (v := v0_2) Tryz.isAgg58 rfl (hw.now hF _ _ hb0) rfl) rfl rfl rfl ?_
 refine Ja rfl rfl rfl (Uh Tryz.underlying58 rfl f0_2 rfl) ?_
 refine Ja rfl rfl rfl (Je (v := .int .i64 0) rfl) ?_
 refine Jg ?_
 refine J5 ?_
 refine c_nilRow 45 8 ?_
 refine Vn (σ := Int × (List T_sync_Fact)) (τ := (Option Addr × Nat)) (fun next1 s => Yc a0 a1 next1 s.1 s.2) (fun s t => [(1, v1), (5, .slice t.1 s.2.length t.2), (11, v0_2), (12, .int .i64 (a0.facts_.length : Int)), (13, .int .i64 s.1)]) (fun s t => [Jz 45 8 (.slice t.1 s.2.length t.2) s.2.length (s.2.map Jd)]) (fun s t => True) (0, ([] : List T_sync_Fact)) ((none, 0) : Option Addr × Nat) [0] H (by exact trivial) (by exact ⟨rfl, rfl, rfl, rfl, rfl, trivial⟩) (by decide) rfl ?_
 rintro ⟨x13_2, l_2⟩ p m1 gg H11 _
 clear H
 replace H11 : Yc a0 a1 (it (fun next1 s => Yc a0 a1 next1 s.1 s.2) m1) x13_2 l_2 = some r := H11
 generalize hn1 : it (fun next1 s => Yc a0 a1 next1 s.1 s.2) m1 = next1 at H11
 refine J8 [(1, v1), (5, .slice p.1 l_2.length p.2), (11, v0_2), (12, .int .i64 (a0.facts_.length : Int)), (13, .int .i64 x13_2)] [Jz 45 8 (.slice p.1 l_2.length p.2) l_2.length (l_2.map Jd)] rfl rfl ?_
 refine Jf ?_
 refine Jb ?_
 refine Ja rfl rfl rfl (Zd rfl rfl) ?_
 refine Jg ?_
 refine Jf ?_
 refine Qg (b := (decide (x13_2 < (a0.facts_.length : Int)))) rfl (fun hb => ?_) (fun hb => ?_)
 ·have H12 := Jr hb H11; clear H11
  refine Jw ?_
  refine Xu (r := r) (σ := (List T_sync_Fact)) (τ := (Option Addr × Nat)) (fun s => Zx x13_2 next1 s) (fun s t => [(1, v1), (5, .slice t.1 s.length t.2), (11, v0_2), (12, .int .i64 (a0.facts_.length : Int)), (13, .int .i64 x13_2)]) (fun s t => [Jz 45 8 (.slice t.1 s.length t.2) s.length (s.map Jd)]) (fun s t => True) ?_ ?_
  ·refine J5 ?_
   refine Jf ?_
   refine Jb ?_
   obtain ⟨t15, h_t15, H15⟩ := Ji H12; clear H12
   refine Ja rfl rfl rfl (Z6 Tryz.underlying58 Tryz.sizeOf45 rfl rfl f0_2 h_t15) ?_
   refine Qo (fun w hF hS => X4 (f := Jd) (i := x13_2) (sz := 8) (j := 0) (vs := [.int .i64 t15.Dot.Device, .int .i64 t15.Dot.N, .int .i64 t15.Time, .int .i64 t15.Kind, .int .i64 t15.Id, str t15.Name, .int .i64 t15.Num, str t15.Text]) Tryz.isAgg45 Tryz.sizeOf45 rfl rfl (f0_2.row (hw.now hF)) h_t15 rfl) rfl rfl rfl ?_
   refine Zv (cs := [.int .i64 0, .int .i64 0, .int .i64 0, .int .i64 0, .int .i64 0, str [], .int .i64 0, str []]) Tryz.zeroValue45 rfl rfl rfl (fun b2 => ?_)
   refine Xt (i := 1) (vs := [.int .i64 t15.Dot.Device, .int .i64 t15.Dot.N, .int .i64 t15.Time, .int .i64 t15.Kind, .int .i64 t15.Id, str t15.Name, .int .i64 t15.Num, str t15.Text]) (cs' := [.int .i64 t15.Dot.Device, .int .i64 t15.Dot.N, .int .i64 t15.Time, .int .i64 t15.Kind, .int .i64 t15.Id, str t15.Name, .int .i64 t15.Num, str t15.Text]) Tryz.sizeOf45 rfl rfl rfl rfl rfl rfl rfl rfl rfl ?_
   refine Jg ?_
   refine Jf ?_
   refine Jb ?_
   refine Ja rfl rfl rfl (Je (v := v1) rfl) ?_
   refine Ym (i := 1) (vs := [.int .i64 t15.Dot.Device, .int .i64 t15.Dot.N, .int .i64 t15.Time, .int .i64 t15.Kind, .int .i64 t15.Id, str t15.Name, .int .i64 t15.Num, str t15.Text]) Tryz.isAgg45 Tryz.sizeOf45 rfl rfl rfl rfl rfl ?_
   obtain ⟨t19, h_t19, H16⟩ := Ji H15; clear H15
   refine l_callV (R := Q8 a1) (r := .bool t19) (v := v1) (fun w hF hS => ⟨(f1.mono (hw.now hF)), ⟨t15, _, rfl, h_t19, rfl⟩⟩) rfl rfl rfl rfl ?_
   refine Jg ?_
   refine Qg (b := t19) rfl (fun hb => ?_) (fun hb => ?_)
   ·have H17 := Jr hb H16; clear H16
    refine Jb ?_
    refine Ja rfl rfl rfl (Je (v := .slice p.1 l_2.length p.2) rfl) ?_
    refine Ym (i := 1) (vs := [.int .i64 t15.Dot.Device, .int .i64 t15.Dot.N, .int .i64 t15.Time, .int .i64 t15.Kind, .int .i64 t15.Id, str t15.Name, .int .i64 t15.Num, str t15.Text]) Tryz.isAgg45 Tryz.sizeOf45 rfl rfl rfl rfl rfl ?_
    refine Y8 (vs := [.agg #[.int .i64 t15.Dot.Device, .int .i64 t15.Dot.N, .int .i64 t15.Time, .int .i64 t15.Kind, .int .i64 t15.Id, str t15.Name, .int .i64 t15.Num, str t15.Text]]) (cs := [.int .i64 t15.Dot.Device, .int .i64 t15.Dot.N, .int .i64 t15.Time, .int .i64 t15.Kind, .int .i64 t15.Id, str t15.Name, .int .i64 t15.Num, str t15.Text]) Tryz.underlying58 Tryz.sizeOf45 Tryz.zeroValue45 rfl rfl rfl rfl rfl rfl rfl (fun b3 => ?_)
    obtain ⟨l23, h_l23, H18⟩ := Ji H17; clear H17
    refine Q4 (Wi (i := 0) (hn := rfl) (rds := [2]) (p := p) (sz := 8) (by_ := 80) (f := Jd) (ys := l_2) (ls := ([t15] : List T_sync_Fact)) (V := .slice (some ⟨b3, 0, none⟩) 1 1) Tryz.underlying58 (Jae Tryz.typeInfo45) rfl rfl rfl rfl rfl rfl rfl rfl rfl rfl (fun w L' hF hS hi => row_box (i := 2) hS ((hi 2 (by simp)).trans rfl) rfl rfl) (fun _ => rfl) (fun _ => rfl) h_l23) rfl rfl rfl (fun p_3 => ?_)
    refine Ja rfl rfl rfl (Jc (v := .slice p_3.1 l23.length p_3.2) rfl) ?_
    refine Jg ?_
    refine Js l23 p_3 0 [0] (by exact ⟨rfl, rfl, rfl, rfl, rfl, trivial⟩) (by decide) rfl (by exact ⟨H18, trivial⟩) (Nat.lt_succ_self _)
   ·have H19 := Jq hb H16; clear H16
    refine Jw ?_
    refine Js l_2 p 0 [0] (by exact ⟨rfl, rfl, rfl, rfl, rfl, trivial⟩) (by decide) rfl (by exact ⟨H19, trivial⟩) (Nat.lt_succ_self _)
  ·rintro l_3 p_2 gg H13 _
   replace H13 : Zx x13_2 next1 l_3 = some r := H13
   refine J8 [(1, v1), (5, .slice p_2.1 l_3.length p_2.2), (11, v0_2), (12, .int .i64 (a0.facts_.length : Int)), (13, .int .i64 x13_2)] [Jz 45 8 (.slice p_2.1 l_3.length p_2.2) l_3.length (l_3.map Jd)] rfl rfl ?_
   refine Jb ?_
   obtain ⟨t24, h_t24, H14⟩ := Ji H13; clear H13
   refine Ja rfl rfl rfl (Yj rfl rfl h_t24) ?_
   refine Ja rfl rfl rfl (Je (v := .int .i64 t24) rfl) ?_
   refine Jg ?_
   refine Js (t24, l_3) p_2 m1 [0] (by exact ⟨rfl, rfl, rfl, rfl, rfl, trivial⟩) (by decide) rfl (by exact ⟨(by subst hn1; exact H14), trivial⟩) (Nat.lt_succ_self _)
 ·have H20 := Jq hb H11; clear H11
  refine Xi ?_
  refine Jf ?_
  refine Jb ?_
  refine Ja rfl rfl rfl (Je (v := .slice p.1 l_2.length p.2) rfl) ?_
  refine Ja rfl rfl rfl (Jc (v := .slice p.1 l_2.length p.2) rfl) ?_
  refine Jg ?_
  refine Jp ?_
  obtain rfl := Option.some.inj H20
  refine J3 (v := .slice p.1 l_2.length p.2) rfl rfl (Yk p (i := 0) rfl rfl (Imp.refl _))
theorem k54 {q0 : Int} {c0 : Nat} {q1 : Int} {c1 : Nat} {a0 : T_sync_Fact} {r : Bool} {w : World} {h : Qd} (hw : Know h w Vd) (hc0 : h c0 = some (.cells (List.toArray [.int .i64 q0]) 3 (0, 0))) (hc1 : h c1 = some (.cells (List.toArray [.int .i64 q1]) 3 (0, 0))) (H : Jam q0 q1 a0 = some r) : Does Tryz.prog 54 (List.toArray [.agg #[.int .i64 a0.Dot.Device, .int .i64 a0.Dot.N, .int .i64 a0.Time, .int .i64 a0.Kind, .int .i64 a0.Id, str a0.Name, .int .i64 a0.Num, str a0.Text], .pointer (some ⟨c0, 0, none⟩), .pointer (some ⟨c1, 0, none⟩)]) w (fun v w' => v = (.bool r) ∧ Grow w w') := by
 refine enter (n := 15) Tryz.func54 rfl rfl rfl Vd [] (Sat.nil _ _) ?_
 refine Jf ?_
 refine Jb ?_
 refine Zo (cs := [.int .i64 a0.Dot.Device, .int .i64 a0.Dot.N, .int .i64 a0.Time, .int .i64 a0.Kind, .int .i64 a0.Id, str a0.Name, .int .i64 a0.Num, str a0.Text]) rfl rfl rfl rfl (fun b1 => ?_)
 refine Ja rfl rfl rfl (Jc (v := .bool false) rfl) ?_
 refine Jg ?_
 refine Jf ?_
 refine Jb ?_
 refine Ja rfl rfl rfl (Jo Tryz.runUnderlying45 rfl Tryz.sizeOf3 rfl rfl) ?_
 refine Jv (i := 0) (v := .int .i64 a0.Kind) Tryz.isAgg3 rfl rfl rfl rfl rfl ?_
 refine Qo (fun w hF hS => Xo (v := .int .i64 q0) Tryz.isAgg3 rfl (hw.now hF _ _ hc0) rfl) rfl rfl rfl ?_
 refine Ja rfl rfl rfl (Xd rfl rfl) ?_
 refine Ja rfl rfl rfl (Je (v := .bool (decide (a0.Kind = q0))) rfl) ?_
 refine split (fun hb => ?_) (fun hb => ?_)
 ·have H3 := Jr hb H; clear H
  refine Ja rfl rfl rfl (Jo Tryz.runUnderlying45 rfl Tryz.sizeOf3 rfl rfl) ?_
  refine Jv (i := 0) (v := .int .i64 a0.Id) Tryz.isAgg3 rfl rfl rfl rfl rfl ?_
  refine Qo (fun w hF hS => Xo (v := .int .i64 q1) Tryz.isAgg3 rfl (hw.now hF _ _ hc1) rfl) rfl rfl rfl ?_
  refine Ja rfl rfl rfl (Xd rfl rfl) ?_
  refine Ja rfl rfl rfl (J7 (v := .bool (decide (a0.Id = q1))) rfl rfl) ?_
  refine Ja rfl rfl rfl (Jc (v := .bool (decide (a0.Id = q1))) rfl) ?_
  refine Jg ?_
  refine Jp ?_
  obtain rfl := Option.some.inj H3
  refine J3 (v := .bool (decide (a0.Id = q1))) rfl rfl (Yd rfl)
 ·have H4 := Jq hb H; clear H
  refine Jk rfl rfl rfl ?_
  refine Jk rfl rfl rfl ?_
  refine Jk rfl rfl rfl ?_
  refine Jk rfl rfl rfl ?_
  refine Ja rfl rfl rfl (J1 (v := .bool false) rfl rfl) ?_
  refine Ja rfl rfl rfl (Jc (v := .bool false) rfl) ?_
  refine Jg ?_
  refine Jp ?_
  obtain rfl := Option.some.inj H4
  refine J3 (v := .bool false) rfl rfl (Yd rfl)
theorem k26 {a0 : T_sync_Replica} {v0_2 : Value} {pb0 : Nat} {a1 : Int} {a2 : Int} {r : (List T_sync_Fact)} {w : World} {h : Qd} (hw : Know h w Vd) (f0_2 : FrS h 8 v0_2 (a0.facts_.map Jd)) (hb0 : h pb0 = some (.cells (List.toArray [.int .i64 a0.device_, .int .i64 (a0.knows_ 0), .int .i64 (a0.knows_ 1), .int .i64 (a0.knows_ 2), .int .i64 (a0.knows_ 3), .int .i64 (a0.knows_ 4), .int .i64 (a0.knows_ 5), .int .i64 (a0.knows_ 6), .int .i64 (a0.knows_ 7), .int .i64 (a0.knows_ 8), .int .i64 (a0.knows_ 9), .int .i64 (a0.knows_ 10), .int .i64 (a0.knows_ 11), .int .i64 (a0.knows_ 12), .int .i64 (a0.knows_ 13), .int .i64 (a0.knows_ 14), .int .i64 (a0.knows_ 15), v0_2]) 60 (0, 0))) (H : Ys a0 a1 a2 = some r) : Does Tryz.prog 26 (List.toArray [.pointer (some ⟨pb0, 0, none⟩), .int .i64 a1, .int .i64 a2]) w (fun v w' => ∃ x : (Option Addr × Nat), v = (.slice x.1 r.length x.2) ∧ Turn w w' Vd (Jz 45 8 (.slice x.1 r.length x.2) r.length (r.map Jd))) := by
 refine enter (n := 10) Tryz.func26 rfl rfl rfl Vd [] (Sat.nil _ _) ?_
 refine Jf ?_
 refine Jb ?_
 refine Zo (cs := [.int .i64 a1]) rfl rfl rfl rfl (fun b2 => ?_)
 refine Zo (cs := [.int .i64 a2]) rfl rfl rfl rfl (fun b3 => ?_)
 refine Ja rfl rfl rfl (Jc (v := .slice none 0 0) rfl) ?_
 refine Jg ?_
 refine Jf ?_
 refine Jb ?_
 refine Ja rfl rfl rfl (Je (v := .pointer (some ⟨pb0, 0, none⟩)) rfl) ?_
 refine Ja rfl rfl rfl (Wp (caps := #[.pointer (some ⟨b2, 0, none⟩), .pointer (some ⟨b3, 0, none⟩)]) rfl) ?_
 obtain ⟨t9, h_t9, H2⟩ := Ji H; clear H
 refine Zq (Ql (rds := [0, 1]) (G := fun x : (Option Addr × Nat) => .slice x.1 t9.length x.2) (C := fun x : (Option Addr × Nat) => Jz 45 8 (.slice x.1 t9.length x.2) t9.length (t9.map Jd)) (fun w L' hF hS hi => k49 (Jx w) (f0_2.mono (hw.now hF)) (hw.now hF _ _ hb0) (FnH.mk ⟨54, #[], #[.pointer (some ⟨b2, 0, none⟩), .pointer (some ⟨b3, 0, none⟩)], rfl, Tryz.call54, fun args2 post2 w2 hk2 hR2 => by obtain ⟨a0_, r_, rfl, H_, rfl⟩ := hR2; exact k54 (Jx w2) (hk2.up _ _ (Qj (i := 0) hS ((hi 0 (by simp)).trans rfl))) (hk2.up _ _ (Qj (i := 1) hS ((hi 1 (by simp)).trans rfl))) H_⟩) h_t9) Tryz.call49 rfl) rfl rfl rfl (fun p => ?_)
 refine Ja rfl rfl rfl (Jc (v := .slice p.1 t9.length p.2) rfl) ?_
 refine Jg ?_
 refine Jp ?_
 obtain rfl := Option.some.inj H2
 refine J3 (v := .slice p.1 t9.length p.2) rfl rfl (Yk p (i := 2) rfl rfl (Imp.refl _))
theorem k19 {a0 : T_sync_Replica} {v0_2 : Value} {pb0 : Nat} {a1 : Int} {r : Bool} {w : World} {h : Qd} (hw : Know h w Vd) (f0_2 : FrS h 8 v0_2 (a0.facts_.map Jd)) (hb0 : h pb0 = some (.cells (List.toArray [.int .i64 a0.device_, .int .i64 (a0.knows_ 0), .int .i64 (a0.knows_ 1), .int .i64 (a0.knows_ 2), .int .i64 (a0.knows_ 3), .int .i64 (a0.knows_ 4), .int .i64 (a0.knows_ 5), .int .i64 (a0.knows_ 6), .int .i64 (a0.knows_ 7), .int .i64 (a0.knows_ 8), .int .i64 (a0.knows_ 9), .int .i64 (a0.knows_ 10), .int .i64 (a0.knows_ 11), .int .i64 (a0.knows_ 12), .int .i64 (a0.knows_ 13), .int .i64 (a0.knows_ 14), .int .i64 (a0.knows_ 15), v0_2]) 60 (0, 0))) (H : X0 a0 a1 = some r) : Does Tryz.prog 19 (List.toArray [.pointer (some ⟨pb0, 0, none⟩), .int .i64 a1]) w (fun v w' => v = (.bool r) ∧ Grow w w') := by
 refine enter (n := 10) Tryz.func19 rfl rfl rfl Vd [] (Sat.nil _ _) ?_
 refine Jf ?_
 refine Jb ?_
 refine Ja rfl rfl rfl (Jc (v := .bool false) rfl) ?_
 refine Jg ?_
 refine Jf ?_
 refine Jb ?_
 refine Ja rfl rfl rfl (Je (v := .pointer (some ⟨pb0, 0, none⟩)) rfl) ?_
 refine Ja rfl rfl rfl (Je (v := .int .i64 a1) rfl) ?_
 obtain ⟨t7, h_t7, H2⟩ := Ji H; clear H
 refine Zq (Ql (rds := []) (G := fun x : (Option Addr × Nat) => .slice x.1 t7.length x.2) (C := fun x : (Option Addr × Nat) => Jz 45 8 (.slice x.1 t7.length x.2) t7.length (t7.map Jd)) (fun w L' hF hS hi => k26 (Jx w) (f0_2.mono (hw.now hF)) (hw.now hF _ _ hb0) h_t7) Tryz.call26 rfl) rfl rfl rfl (fun p => ?_)
 refine Ja rfl rfl rfl (U5 Tryz.underlying58 rfl) ?_
 refine Ja rfl rfl rfl (r_gtr rfl rfl) ?_
 refine Ja rfl rfl rfl (Jc (v := .bool (decide (0 < (t7.length : Int)))) rfl) ?_
 refine Jg ?_
 refine Jp ?_
 obtain rfl := Option.some.inj H2
 refine J3 (v := .bool (decide (0 < (t7.length : Int)))) rfl rfl (Yd rfl)
theorem k71 {a0 : (List T_sync_Fact)} {v0 : Value} {a1 : (T_sync_Fact → Option (Bool))} {v1 : Value} {r : Int} {w : World} {h : Qd} (hw : Know h w Vd) (f0 : FrS h 8 v0 (a0.map Jd)) (f1 : FnH Tryz.prog h v1 (Q8 a1)) (H : Zr a0 a1 = some r) : Does Tryz.prog 71 (List.toArray [v0, v1]) w (fun v w' => v = (.int .i64 r) ∧ Grow w w') := by
 refine enter (n := 19) Tryz.func71 rfl rfl rfl Vd [] (Sat.nil _ _) ?_
 refine Jf ?_
 refine Jb ?_
 refine Ja rfl rfl rfl (Jc (v := .int .i64 0) rfl) ?_
 refine Jg ?_
 refine Jf ?_
 refine Jf ?_
 refine Jb ?_
 refine Ja rfl rfl rfl (Je (v := v0) rfl) ?_
 refine Ja rfl rfl rfl (Uh Tryz.underlying58 rfl f0 rfl) ?_
 refine Ja rfl rfl rfl (Je (v := .int .i64 0) rfl) ?_
 refine Jg ?_
 refine J5 ?_
 refine Vn (σ := Int) (τ := Unit) (fun next1 s => Xx a0 a1 next1 s) (fun s t => [(0, v0), (1, v1), (7, .int .i64 (a0.length : Int)), (8, .int .i64 s)]) (fun s t => []) (fun s t => True) 0 () [] H (by exact trivial) (by exact ⟨rfl, rfl, rfl, rfl, trivial⟩) (by decide) rfl ?_
 rintro x8_2 _ m1 gg H9 _
 clear H
 replace H9 : Xx a0 a1 (it (fun next1 s => Xx a0 a1 next1 s) m1) x8_2 = some r := H9
 generalize hn1 : it (fun next1 s => Xx a0 a1 next1 s) m1 = next1 at H9
 refine J8 [(0, v0), (1, v1), (7, .int .i64 (a0.length : Int)), (8, .int .i64 x8_2)] [] rfl rfl ?_
 refine Jf ?_
 refine Jb ?_
 refine Ja rfl rfl rfl (Zd rfl rfl) ?_
 refine Jg ?_
 refine Jf ?_
 refine Qg (b := (decide (x8_2 < (a0.length : Int)))) rfl (fun hb => ?_) (fun hb => ?_)
 ·have H10 := Jr hb H9; clear H9
  refine Jw ?_
  refine Jf ?_
  refine J5 ?_
  refine Jf ?_
  refine Jb ?_
  refine Ja rfl rfl rfl (Je (v := .int .i64 x8_2) rfl) ?_
  refine Ja rfl rfl rfl (Jc (v := .int .i64 x8_2) rfl) ?_
  refine Jg ?_
  refine Jf ?_
  refine Jb ?_
  refine Ja rfl rfl rfl (Je (v := v1) rfl) ?_
  refine Ja rfl rfl rfl (Je (v := v0) rfl) ?_
  refine Ja rfl rfl rfl (Je (v := .int .i64 x8_2) rfl) ?_
  obtain ⟨t14, h_t14, H11⟩ := Ji H10; clear H10
  refine Ja rfl rfl rfl (Z6 Tryz.underlying58 Tryz.sizeOf45 rfl rfl f0 h_t14) ?_
  refine Qo (fun w hF hS => X4 (f := Jd) (i := x8_2) (sz := 8) (j := 0) (vs := [.int .i64 t14.Dot.Device, .int .i64 t14.Dot.N, .int .i64 t14.Time, .int .i64 t14.Kind, .int .i64 t14.Id, str t14.Name, .int .i64 t14.Num, str t14.Text]) Tryz.isAgg45 Tryz.sizeOf45 rfl rfl (f0.row (hw.now hF)) h_t14 rfl) rfl rfl rfl ?_
  obtain ⟨t16, h_t16, H12⟩ := Ji H11; clear H11
  refine l_callV (R := Q8 a1) (r := .bool t16) (v := v1) (fun w hF hS => ⟨(f1.mono (hw.now hF)), ⟨t14, _, rfl, h_t16, rfl⟩⟩) rfl rfl rfl rfl ?_
  refine Jg ?_
  refine Qg (b := t16) rfl (fun hb => ?_) (fun hb => ?_)
  ·have H13 := Jr hb H12; clear H12
   refine Jf ?_
   refine Jb ?_
   refine Ja rfl rfl rfl (Je (v := .int .i64 x8_2) rfl) ?_
   refine Ja rfl rfl rfl (Jc (v := .int .i64 x8_2) rfl) ?_
   refine Jg ?_
   refine Jp ?_
   obtain rfl := Option.some.inj H13
   refine J3 (v := .int .i64 x8_2) rfl rfl (Yd rfl)
  ·have H14 := Jq hb H12; clear H12
   refine Jw ?_
   refine Jb ?_
   obtain ⟨t18, h_t18, H15⟩ := Ji H14; clear H14
   refine Ja rfl rfl rfl (Yj rfl rfl h_t18) ?_
   refine Ja rfl rfl rfl (Je (v := .int .i64 t18) rfl) ?_
   refine Jg ?_
   refine Js t18 () m1 [] (by exact ⟨rfl, rfl, rfl, rfl, trivial⟩) (by decide) rfl (by exact ⟨(by subst hn1; exact H15), trivial⟩) (Nat.lt_succ_self _)
 ·have H16 := Jq hb H9; clear H9
  refine Xi ?_
  refine Jf ?_
  refine Jb ?_
  refine Ja rfl rfl rfl (Jc (v := .int .i64 (-1)) rfl) ?_
  refine Jg ?_
  refine Jp ?_
  obtain rfl := Option.some.inj H16
  refine J3 (v := .int .i64 (-1)) rfl rfl (Yd rfl)
theorem k43 {a0 : (List T_sync_Fact)} {p0 : Option Addr × Nat} {n0 : Nat} {a1 : (T_sync_Fact → Option (Bool))} {v1 : Value} {r : (List T_sync_Fact)} {w : World} {h : Qd} {S : Nat → Prop} (hcs : (J2 45 8 (.slice p0.1 n0 p0.2) n0 (a0.map Jd)).P S w) (hlt : ∀ b, S b → b < w.heap.size) (hw : Know h w S) (hn0 : n0 = a0.length) (f1 : FnH Tryz.prog h v1 (Q8 a1)) (H : Zi a0 a1 = some r) : Does Tryz.prog 43 (List.toArray [.slice p0.1 n0 p0.2, v1]) w (fun v w' => ∃ x : (Option Addr × Nat), v = (.slice x.1 r.length x.2) ∧ Turn w w' S (J2 45 8 (.slice x.1 r.length x.2) r.length (r.map Jd))) := by
 refine enter (n := 42) Tryz.func43 rfl rfl rfl S [J2 45 8 (.slice p0.1 n0 p0.2) n0 (a0.map Jd)] (Sat.one hcs hlt) ?_
 refine Jf ?_
 refine Jb ?_
 refine Ja rfl rfl rfl (Jc (v := .slice none 0 0) rfl) ?_
 refine Jg ?_
 refine Jf ?_
 refine Jb ?_
 refine Ja rfl rfl rfl (Je (v := .slice p0.1 n0 p0.2) rfl) ?_
 refine Ja rfl rfl rfl (Je (v := v1) rfl) ?_
 obtain ⟨t10, h_t10, H39⟩ := Ji H; clear H
 refine Yv (fun w hF hS => k71 (Jx w) (Zp (i := 0) hn0 hS rfl) (f1.mono (hw.now hF)) h_t10) Tryz.call71 rfl rfl rfl ?_
 refine Ja rfl rfl rfl (Jc (v := .int .i64 t10) rfl) ?_
 refine Jg ?_
 refine Jf ?_
 refine Jf ?_
 refine Jb ?_
 refine Ja rfl rfl rfl (Je (v := .int .i64 t10) rfl) ?_
 refine Ja rfl rfl rfl (Xd rfl rfl) ?_
 refine Jg ?_
 refine Qg (b := (decide (t10 = (-1)))) rfl (fun hb => ?_) (fun hb => ?_)
 ·have H40 := Jr hb H39; clear H39
  refine Jf ?_
  refine Jb ?_
  refine Ja rfl rfl rfl (Je (v := .slice p0.1 n0 p0.2) rfl) ?_
  refine Ja rfl rfl rfl (Jc (v := .slice p0.1 n0 p0.2) rfl) ?_
  refine Jg ?_
  refine Jp ?_
  obtain rfl := Option.some.inj H40
  refine J3 (v := .slice p0.1 n0 p0.2) rfl rfl (Yk p0 (i := 0) rfl (by first | rfl | rw [(show n0 = a0.length from hn0)]) (by first | exact Imp.refl _ | exact Imp.of (by rw [(show n0 = a0.length from hn0)])))
 ·have H41 := Jq hb H39; clear H39
  refine Jw ?_
  refine Xu (r := r) (σ := Int × (List T_sync_Fact)) (τ := Unit) (fun s => Yt s.1 s.2) (fun s t => [(0, .slice p0.1 n0 p0.2), (5, .int .i64 s.1)]) (fun s t => [J2 45 8 (.slice p0.1 n0 p0.2) n0 (s.2.map Jd)]) (fun s t => n0 = s.2.length) ?_ ?_
  ·refine Jf ?_
   refine Jb ?_
   refine Ja rfl rfl rfl (Je (v := .int .i64 t10) rfl) ?_
   obtain ⟨t15, h_t15, H45⟩ := Ji H41; clear H41
   refine Ja rfl rfl rfl (Yj rfl rfl h_t15) ?_
   refine Ja rfl rfl rfl (Jc (v := .int .i64 t15) rfl) ?_
   refine Jg ?_
   refine J5 ?_
   refine Vn (σ := Int × Int × (List T_sync_Fact)) (τ := Unit) (fun next2 s => Qs a1 next2 s.1 s.2.1 s.2.2) (fun s t => [(0, .slice p0.1 n0 p0.2), (1, v1), (5, .int .i64 s.1), (6, .int .i64 s.2.1)]) (fun s t => [J2 45 8 (.slice p0.1 n0 p0.2) n0 (s.2.2.map Jd)]) (fun s t => n0 = s.2.2.length) (t10, t15, a0) () [0] H45 (by exact hn0) (by exact ⟨rfl, rfl, rfl, rfl, trivial⟩) (by decide) rfl ?_
   rintro ⟨x5_3, x6_2, l_3⟩ _ m2 gg H46 hl_3
   clear H45
   replace H46 : Qs a1 (it (fun next2 s => Qs a1 next2 s.1 s.2.1 s.2.2) m2) x5_3 x6_2 l_3 = some r := H46
   generalize hn2 : it (fun next2 s => Qs a1 next2 s.1 s.2.1 s.2.2) m2 = next2 at H46
   refine J8 [(0, .slice p0.1 n0 p0.2), (1, v1), (5, .int .i64 x5_3), (6, .int .i64 x6_2)] [J2 45 8 (.slice p0.1 n0 p0.2) n0 (l_3.map Jd)] rfl rfl ?_
   refine Jf ?_
   refine Jf ?_
   refine Jb ?_
   refine Ja rfl rfl rfl (Je (v := .int .i64 x6_2) rfl) ?_
   refine Ja rfl rfl rfl (Je (v := .slice p0.1 n0 p0.2) rfl) ?_
   refine Ja rfl rfl rfl (r_lenN Tryz.underlying58 rfl hl_3) ?_
   refine Ja rfl rfl rfl (Zd rfl rfl) ?_
   refine Jg ?_
   refine Qg (b := (decide (x6_2 < (l_3.length : Int)))) rfl (fun hb => ?_) (fun hb => ?_)
   ·have H47 := Jr hb H46; clear H46
    refine Jw ?_
    refine Xu (r := r) (σ := Int × (List T_sync_Fact)) (τ := Unit) (fun s => Xp x6_2 next2 s.1 s.2) (fun s t => [(0, .slice p0.1 n0 p0.2), (1, v1), (5, .int .i64 s.1), (6, .int .i64 x6_2)]) (fun s t => [J2 45 8 (.slice p0.1 n0 p0.2) n0 (s.2.map Jd)]) (fun s t => n0 = s.2.length) ?_ ?_
    ·refine J5 ?_
     refine Jf ?_
     refine Jb ?_
     refine Ja rfl rfl rfl (Je (v := .slice p0.1 n0 p0.2) rfl) ?_
     refine Ja rfl rfl rfl (Je (v := .int .i64 x6_2) rfl) ?_
     obtain ⟨t24, h_t24, H50⟩ := Ji H47; clear H47
     refine Qo (fun w hF hS => Y2 Tryz.underlying58 Tryz.sizeOf45 rfl rfl (offOf (i := 0) hS rfl) hl_3 h_t24) rfl rfl rfl ?_
     refine Qo (fun w hF hS => X4 (f := Jd) (i := x6_2) (sz := 8) (j := 0) (vs := [.int .i64 t24.Dot.Device, .int .i64 t24.Dot.N, .int .i64 t24.Time, .int .i64 t24.Kind, .int .i64 t24.Id, str t24.Name, .int .i64 t24.Num, str t24.Text]) Tryz.isAgg45 Tryz.sizeOf45 rfl rfl (offOf (i := 0) hS rfl) h_t24 rfl) rfl rfl rfl ?_
     refine Zv (cs := [.int .i64 0, .int .i64 0, .int .i64 0, .int .i64 0, .int .i64 0, str [], .int .i64 0, str []]) Tryz.zeroValue45 rfl rfl rfl (fun b2 => ?_)
     refine Xt (i := 1) (vs := [.int .i64 t24.Dot.Device, .int .i64 t24.Dot.N, .int .i64 t24.Time, .int .i64 t24.Kind, .int .i64 t24.Id, str t24.Name, .int .i64 t24.Num, str t24.Text]) (cs' := [.int .i64 t24.Dot.Device, .int .i64 t24.Dot.N, .int .i64 t24.Time, .int .i64 t24.Kind, .int .i64 t24.Id, str t24.Name, .int .i64 t24.Num, str t24.Text]) Tryz.sizeOf45 rfl rfl rfl rfl rfl rfl rfl rfl rfl ?_
     refine Jg ?_
     refine Jf ?_
     refine Jb ?_
     refine Ja rfl rfl rfl (Je (v := v1) rfl) ?_
     refine Ym (i := 1) (vs := [.int .i64 t24.Dot.Device, .int .i64 t24.Dot.N, .int .i64 t24.Time, .int .i64 t24.Kind, .int .i64 t24.Id, str t24.Name, .int .i64 t24.Num, str t24.Text]) Tryz.isAgg45 Tryz.sizeOf45 rfl rfl rfl rfl rfl ?_
     obtain ⟨t28, h_t28, H51⟩ := Ji H50; clear H50
     refine l_callV (R := Q8 a1) (r := .bool t28) (v := v1) (fun w hF hS => ⟨(f1.mono (hw.now hF)), ⟨t24, _, rfl, h_t28, rfl⟩⟩) rfl rfl rfl rfl ?_
     refine Ja rfl rfl rfl (Zm rfl) ?_
     refine Jg ?_
     refine Qg (b := (!t28)) rfl (fun hb => ?_) (fun hb => ?_)
     ·have H52 := Jr hb H51; clear H51
      refine Jf ?_
      refine Jb ?_
      refine Ja rfl rfl rfl (Je (v := .slice p0.1 n0 p0.2) rfl) ?_
      refine Ja rfl rfl rfl (Je (v := .int .i64 x5_3) rfl) ?_
      refine Ym (i := 1) (vs := [.int .i64 t24.Dot.Device, .int .i64 t24.Dot.N, .int .i64 t24.Time, .int .i64 t24.Kind, .int .i64 t24.Id, str t24.Name, .int .i64 t24.Num, str t24.Text]) Tryz.isAgg45 Tryz.sizeOf45 rfl rfl rfl rfl rfl ?_
      obtain ⟨t33, h_t33, H53⟩ := Ji H52; clear H52
      refine Qo (fun w hF hS => Y2 Tryz.underlying58 Tryz.sizeOf45 rfl rfl (offOf (i := 0) hS rfl) hl_3 h_t33) rfl rfl rfl ?_
      obtain ⟨l0, h_l0, H54⟩ := Ji H53; clear H53
      refine l_turn0 (turns_storeGO (rds := []) (q := 0) (j := 0) (i := x5_3) (sz := 8) (hm := hl_3) (f := Jd) (vs := [.int .i64 t24.Dot.Device, .int .i64 t24.Dot.N, .int .i64 t24.Time, .int .i64 t24.Kind, .int .i64 t24.Id, str t24.Name, .int .i64 t24.Num, str t24.Text]) Tryz.sizeOf45 rfl rfl rfl rfl rfl rfl rfl rfl (fun y_ hy_ => by first | rfl | (cases hy_.symm.trans h_t33; rfl)) h_l0) rfl rfl (fun _ => ?_)
      refine Jg ?_
      refine Jb ?_
      refine Ja rfl rfl rfl (Je (v := .int .i64 x5_3) rfl) ?_
      obtain ⟨t35, h_t35, H55⟩ := Ji H54; clear H54
      refine Ja rfl rfl rfl (Yj rfl rfl h_t35) ?_
      refine Ja rfl rfl rfl (Jc (v := .int .i64 t35) rfl) ?_
      refine Jg ?_
      refine Js (t35, l0) () 0 [0] (by exact ⟨rfl, rfl, rfl, rfl, trivial⟩) (by decide) rfl (by exact ⟨H55, (gSet_n hl_3 h_l0)⟩) (Nat.lt_succ_self _)
     ·have H56 := Jq hb H51; clear H51
      refine Jw ?_
      refine Js (x5_3, l_3) () 0 [0] (by exact ⟨rfl, rfl, rfl, rfl, trivial⟩) (by decide) rfl (by exact ⟨H56, hl_3⟩) (Nat.lt_succ_self _)
    ·rintro ⟨x5_4, l_4⟩ _ gg H48 hl_4
     replace H48 : Xp x6_2 next2 x5_4 l_4 = some r := H48
     refine J8 [(0, .slice p0.1 n0 p0.2), (1, v1), (5, .int .i64 x5_4), (6, .int .i64 x6_2)] [J2 45 8 (.slice p0.1 n0 p0.2) n0 (l_4.map Jd)] rfl rfl ?_
     refine Jb ?_
     refine Ja rfl rfl rfl (Je (v := .int .i64 x6_2) rfl) ?_
     obtain ⟨t21, h_t21, H49⟩ := Ji H48; clear H48
     refine Ja rfl rfl rfl (Yj rfl rfl h_t21) ?_
     refine Ja rfl rfl rfl (Jc (v := .int .i64 t21) rfl) ?_
     refine Jg ?_
     refine Js (x5_4, t21, l_4) () m2 [0] (by exact ⟨rfl, rfl, rfl, rfl, trivial⟩) (by decide) rfl (by exact ⟨(by subst hn2; exact H49), hl_4⟩) (Nat.lt_succ_self _)
   ·have H57 := Jq hb H46; clear H46
    refine Xi ?_
    refine Js (x5_3, l_3) () 0 [0] (by exact ⟨rfl, rfl, trivial⟩) (by decide) rfl (by exact ⟨H57, hl_3⟩) (Nat.lt_succ_self _)
  ·rintro ⟨x5, l⟩ _ gg H42 hl
   replace H42 : Yt x5 l = some r := H42
   refine J8 [(0, .slice p0.1 n0 p0.2), (5, .int .i64 x5)] [J2 45 8 (.slice p0.1 n0 p0.2) n0 (l.map Jd)] rfl rfl ?_
   refine Jf ?_
   refine Jb ?_
   refine Ja rfl rfl rfl (Je (v := .slice p0.1 n0 p0.2) rfl) ?_
   refine Ja rfl rfl rfl (Je (v := .int .i64 x5) rfl) ?_
   obtain ⟨t38, h_t38, H43⟩ := Ji H42; clear H42
   refine Qo (v := .slice (Yq p0.1 (Int.toNat x5) p0.2 8) t38.length (p0.2 - Int.toNat x5)) (fun w hF hS => run_sliceLO (xs := l) Tryz.underlying58 Tryz.sizeOf45 rfl rfl hl (capOfO (i := 0) hS rfl) h_t38) rfl rfl rfl ?_
   refine l_turn0 (turns_clearVO (i := 0) (rds := []) (f := Jd) (z0 := (⟨(⟨0, 0⟩ : T_sync_Dot), 0, 0, 0, [], 0, []⟩ : T_sync_Fact)) (ys := l) (a := x5) (q := l.length) hl Tryz.underlying58 Tryz.zeroValue45 rfl (fun _ => rfl) (fun _ => rfl) rfl h_t38 rfl) rfl rfl (fun _ => ?_)
   refine Jg ?_
   refine Jf ?_
   refine Jb ?_
   refine Ja rfl rfl rfl (Je (v := .slice p0.1 n0 p0.2) rfl) ?_
   refine Ja rfl rfl rfl (Je (v := .int .i64 x5) rfl) ?_
   obtain ⟨t41, h_t41, H44⟩ := Ji H43; clear H43
   refine Qo (v := .slice p0.1 t41.length p0.2) (fun w hF hS => run_sliceHO0 (xs := (clrL l x5 l.length (⟨(⟨0, 0⟩ : T_sync_Dot), 0, 0, 0, [], 0, []⟩ : T_sync_Fact))) Tryz.underlying58 Tryz.sizeOf45 rfl rfl (clrL_n hl h_t38) (capOfO (i := 0) hS rfl) h_t41) rfl rfl rfl ?_
   refine Ja rfl rfl rfl (Jc (v := .slice p0.1 t41.length p0.2) rfl) ?_
   refine Jg ?_
   refine Jp ?_
   refine Ww 0 rfl (imp_shrinkO (clrL_n hl h_t38) h_t41) ?_
   obtain rfl := Option.some.inj H44
   refine J3 (v := .slice p0.1 t41.length p0.2) rfl rfl (Yk p0 (i := 0) rfl rfl (Imp.refl _))
theorem k44 {a0 : (List T_sync_Fact)} {p0 : Option Addr × Nat} {n0 : Nat} {r : (List T_sync_Fact)} {w : World} {h : Qd} {S : Nat → Prop} (hcs : (J2 45 8 (.slice p0.1 n0 p0.2) n0 (a0.map Jd)).P S w) (hlt : ∀ b, S b → b < w.heap.size) (_ : Know h w S) (hn0 : n0 = a0.length) (H : gSortU a0 Xs = some r) : Does Tryz.prog 44 (List.toArray [.slice p0.1 n0 p0.2, .func (.func 45) #[] #[]]) w (fun v w' => ∃ x : Unit, v = (.tuple #[]) ∧ Turn w w' S (J2 45 8 (.slice p0.1 n0 p0.2) n0 (r.map Jd))) :=
  sort_funcO (ρ := Go.Proofs.Tryz.sortFF_ren) Go.Proofs.Tryz.sortFF (k := 8) (fun w => Tryz.isAgg45 w) (fun w => Tryz.sizeOf45 w) Jd (fun _ => rfl) (fun x v hv => by simp [Jd] at hv; rcases hv with rfl | rfl | rfl | rfl | rfl | rfl | rfl | rfl <;> rfl) Go.Proofs.Tryz.entersF (fun x y v W hv => Go.Proofs.Tryz.cmpF x y v W hv) hcs hlt hn0 H
theorem k74 {a0 : (List Int)} {v0 : Value} {r : Int} {w : World} {h : Qd} (hw : Know h w Vd) (f0 : FrS h 1 v0 (a0.map Z5)) (H : Vf a0 = some r) : Does Tryz.prog 74 (List.toArray [v0]) w (fun v w' => v = (.int .i64 r) ∧ Grow w w') := by
 refine enter (n := 18) Tryz.func74 rfl rfl rfl Vd [] (Sat.nil _ _) ?_
 refine Jf ?_
 refine Jb ?_
 refine Ja rfl rfl rfl (Jc (v := .int .i64 0) rfl) ?_
 refine Jg ?_
 refine Jf ?_
 refine Jb ?_
 refine Ja rfl rfl rfl (Jc (v := .int .i64 0) rfl) ?_
 refine Jg ?_
 refine Jf ?_
 refine Jf ?_
 refine Jb ?_
 refine Ja rfl rfl rfl (Je (v := v0) rfl) ?_
 refine Ja rfl rfl rfl (Uh Tryz.underlying63 rfl f0 rfl) ?_
 refine Ja rfl rfl rfl (Je (v := .int .i64 0) rfl) ?_
 refine Jg ?_
 refine J5 ?_
 refine Vn (σ := Int) (τ := Unit) (fun next1 s => Qc a0 next1 s) (fun s t => [(3, .int .i64 0), (6, v0), (7, .int .i64 (a0.length : Int)), (8, .int .i64 s)]) (fun s t => []) (fun s t => True) 0 () [] H (by exact trivial) (by exact ⟨rfl, rfl, rfl, rfl, trivial⟩) (by decide) rfl ?_
 rintro x8_2 _ m1 gg H8 _
 clear H
 replace H8 : Qc a0 (it (fun next1 s => Qc a0 next1 s) m1) x8_2 = some r := H8
 generalize hn1 : it (fun next1 s => Qc a0 next1 s) m1 = next1 at H8
 refine J8 [(3, .int .i64 0), (6, v0), (7, .int .i64 (a0.length : Int)), (8, .int .i64 x8_2)] [] rfl rfl ?_
 refine Jf ?_
 refine Jb ?_
 refine Ja rfl rfl rfl (Zd rfl rfl) ?_
 refine Jg ?_
 refine Jf ?_
 refine Qg (b := (decide (x8_2 < (a0.length : Int)))) rfl (fun hb => ?_) (fun hb => ?_)
 ·have H9 := Jr hb H8; clear H8
  refine Jw ?_
  refine Jf ?_
  refine J5 ?_
  refine Jf ?_
  refine Jb ?_
  obtain ⟨t10, h_t10, H10⟩ := Ji H9; clear H9
  refine Ja rfl rfl rfl (Z6 Tryz.underlying63 Tryz.sizeOf3 rfl rfl f0 h_t10) ?_
  refine Qo (fun w hF hS => Wh (f := Z5) (i := x8_2) (sz := 1) (j := 0) (v := .int .i64 t10) Tryz.isAgg3 rfl rfl (f0.row (hw.now hF)) h_t10 rfl) rfl rfl rfl ?_
  refine Ja rfl rfl rfl (Jc (v := .int .i64 t10) rfl) ?_
  refine Jg ?_
  refine Jf ?_
  refine Jb ?_
  refine Ja rfl rfl rfl (Je (v := .int .i64 t10) rfl) ?_
  refine Ja rfl rfl rfl (Je (v := .int .i64 0) rfl) ?_
  refine Ja rfl rfl rfl (r_neq rfl rfl) ?_
  refine Jg ?_
  refine Qg (b := (decide (t10 ≠ 0))) rfl (fun hb => ?_) (fun hb => ?_)
  ·have H11 := Jr hb H10; clear H10
   refine Jf ?_
   refine Jb ?_
   refine Ja rfl rfl rfl (Je (v := .int .i64 t10) rfl) ?_
   refine Ja rfl rfl rfl (Jc (v := .int .i64 t10) rfl) ?_
   refine Jg ?_
   refine Jp ?_
   obtain rfl := Option.some.inj H11
   refine J3 (v := .int .i64 t10) rfl rfl (Yd rfl)
  ·have H12 := Jq hb H10; clear H10
   refine Jw ?_
   refine Jb ?_
   obtain ⟨t16, h_t16, H13⟩ := Ji H12; clear H12
   refine Ja rfl rfl rfl (Yj rfl rfl h_t16) ?_
   refine Ja rfl rfl rfl (Je (v := .int .i64 t16) rfl) ?_
   refine Jg ?_
   refine Js t16 () m1 [] (by exact ⟨rfl, rfl, rfl, rfl, trivial⟩) (by decide) rfl (by exact ⟨(by subst hn1; exact H13), trivial⟩) (Nat.lt_succ_self _)
 ·have H14 := Jq hb H8; clear H8
  refine Xi ?_
  refine Jf ?_
  refine Jb ?_
  refine Ja rfl rfl rfl (Je (v := .int .i64 0) rfl) ?_
  refine Ja rfl rfl rfl (Jc (v := .int .i64 0) rfl) ?_
  refine Jg ?_
  refine Jp ?_
  obtain rfl := Option.some.inj H14
  refine J3 (v := .int .i64 0) rfl rfl (Yd rfl)
theorem k99 {a0 : Int} {r : Bool} (H : Jax a0 = some r) : Ret Tryz.prog 99 [.int .i64 a0] (.bool r) := by
 refine Qx (n := 6) Tryz.func99 rfl rfl rfl (fun wd => ?_)
 refine Jf ?_
 refine Jb ?_
 refine Ja rfl rfl rfl (Jc (v := .bool false) rfl) ?_
 refine Jg ?_
 refine Jf ?_
 refine Jb ?_
 refine Ja rfl rfl rfl (Je (v := .int .i64 a0) rfl) ?_
 refine Ja rfl rfl rfl (Je (v := .int .i64 a0) rfl) ?_
 refine Ja rfl rfl rfl (r_neq rfl rfl) ?_
 refine Ja rfl rfl rfl (Jc (v := .bool (decide (a0 ≠ a0))) rfl) ?_
 refine Jg ?_
 refine Jp ?_
 obtain rfl := Option.some.inj H
 refine J3 (v := .bool (decide (a0 ≠ a0))) rfl rfl (Yd rfl)
theorem k75 {a0 : Int} {a1 : Int} {r : Int} (H : cmp_Compare_int a0 a1 = some r) : Ret Tryz.prog 75 [.int .i64 a0, .int .i64 a1] (.int .i64 r) := by
 refine Qx (n := 20) Tryz.func75 rfl rfl rfl (fun wd => ?_)
 refine Jf ?_
 refine Jb ?_
 refine Ja rfl rfl rfl (Jc (v := .int .i64 0) rfl) ?_
 refine Jg ?_
 refine Jf ?_
 refine Jb ?_
 refine Ja rfl rfl rfl (Je (v := .int .i64 a0) rfl) ?_
 obtain ⟨t8, h_t8, H13⟩ := Ji H; clear H
 refine Q5 (k99 h_t8) Tryz.call99 rfl rfl rfl ?_
 refine Ja rfl rfl rfl (Jc (v := .bool t8) rfl) ?_
 refine Jg ?_
 refine Jf ?_
 refine Jb ?_
 refine Ja rfl rfl rfl (Je (v := .int .i64 a1) rfl) ?_
 obtain ⟨t10, h_t10, H14⟩ := Ji H13; clear H13
 refine Q5 (k99 h_t10) Tryz.call99 rfl rfl rfl ?_
 refine Ja rfl rfl rfl (Jc (v := .bool t10) rfl) ?_
 refine Jg ?_
 refine Jf ?_
 refine Jf ?_
 refine Jb ?_
 refine Ja rfl rfl rfl (Je (v := .bool t8) rfl) ?_
 refine Jg ?_
 refine Qg (b := t8) rfl (fun hb => ?_) (fun hb => ?_)
 ·have H15 := Jr hb H14; clear H14
  refine Jf ?_
  refine Jf ?_
  refine Jb ?_
  refine Ja rfl rfl rfl (Je (v := .bool t10) rfl) ?_
  refine Jg ?_
  refine Qg (b := t10) rfl (fun hb => ?_) (fun hb => ?_)
  ·have H16 := Jr hb H15; clear H15
   refine Jf ?_
   refine Jb ?_
   refine Ja rfl rfl rfl (Jc (v := .int .i64 0) rfl) ?_
   refine Jg ?_
   refine Jp ?_
   obtain rfl := Option.some.inj H16
   refine J3 (v := .int .i64 0) rfl rfl (Yd rfl)
  ·have H17 := Jq hb H15; clear H15
   refine Jw ?_
   refine Jf ?_
   refine Jb ?_
   refine Ja rfl rfl rfl (Jc (v := .int .i64 (-1)) rfl) ?_
   refine Jg ?_
   refine Jp ?_
   obtain rfl := Option.some.inj H17
   refine J3 (v := .int .i64 (-1)) rfl rfl (Yd rfl)
 ·have H18 := Jq hb H14; clear H14
  refine Jw ?_
  refine Jf ?_
  refine Jf ?_
  refine Jb ?_
  refine Ja rfl rfl rfl (Je (v := .bool t10) rfl) ?_
  refine Jg ?_
  refine Qg (b := t10) rfl (fun hb => ?_) (fun hb => ?_)
  ·have H19 := Jr hb H18; clear H18
   refine Jf ?_
   refine Jb ?_
   refine Ja rfl rfl rfl (Jc (v := .int .i64 1) rfl) ?_
   refine Jg ?_
   refine Jp ?_
   obtain rfl := Option.some.inj H19
   refine J3 (v := .int .i64 1) rfl rfl (Yd rfl)
  ·have H20 := Jq hb H18; clear H18
   refine Jw ?_
   refine Jf ?_
   refine Jf ?_
   refine Jb ?_
   refine Ja rfl rfl rfl (Je (v := .int .i64 a0) rfl) ?_
   refine Ja rfl rfl rfl (Je (v := .int .i64 a1) rfl) ?_
   refine Ja rfl rfl rfl (Zd rfl rfl) ?_
   refine Jg ?_
   refine Qg (b := (decide (a0 < a1))) rfl (fun hb => ?_) (fun hb => ?_)
   ·have H21 := Jr hb H20; clear H20
    refine Jf ?_
    refine Jb ?_
    refine Ja rfl rfl rfl (Jc (v := .int .i64 (-1)) rfl) ?_
    refine Jg ?_
    refine Jp ?_
    obtain rfl := Option.some.inj H21
    refine J3 (v := .int .i64 (-1)) rfl rfl (Yd rfl)
   ·have H22 := Jq hb H20; clear H20
    refine Jw ?_
    refine Jf ?_
    refine Jf ?_
    refine Jb ?_
    refine Ja rfl rfl rfl (Je (v := .int .i64 a0) rfl) ?_
    refine Ja rfl rfl rfl (Je (v := .int .i64 a1) rfl) ?_
    refine Ja rfl rfl rfl (r_gtr rfl rfl) ?_
    refine Jg ?_
    refine Qg (b := (decide (a1 < a0))) rfl (fun hb => ?_) (fun hb => ?_)
    ·have H23 := Jr hb H22; clear H22
     refine Jf ?_
     refine Jb ?_
     refine Ja rfl rfl rfl (Jc (v := .int .i64 1) rfl) ?_
     refine Jg ?_
     refine Jp ?_
     obtain rfl := Option.some.inj H23
     refine J3 (v := .int .i64 1) rfl rfl (Yd rfl)
    ·have H24 := Jq hb H22; clear H22
     refine Jw ?_
     refine Jf ?_
     refine Jb ?_
     refine Ja rfl rfl rfl (Jc (v := .int .i64 0) rfl) ?_
     refine Jg ?_
     refine Jp ?_
     obtain rfl := Option.some.inj H24
     refine J3 (v := .int .i64 0) rfl rfl (Yd rfl)
theorem k100 {a0 : (List UInt8)} {r : Bool} (H : Ut a0 = some r) : Ret Tryz.prog 100 [str a0] (.bool r) := by
 refine Qx (n := 6) Tryz.func100 rfl rfl rfl (fun wd => ?_)
 refine Jf ?_
 refine Jb ?_
 refine Ja rfl rfl rfl (Jc (v := .bool false) rfl) ?_
 refine Jg ?_
 refine Jf ?_
 refine Jb ?_
 refine Ja rfl rfl rfl (Je (v := str a0) rfl) ?_
 refine Ja rfl rfl rfl (Je (v := str a0) rfl) ?_
 refine Ja rfl rfl rfl (r_neqT rfl rfl) ?_
 refine Ja rfl rfl rfl (Jc (v := .bool (decide (a0 ≠ a0))) rfl) ?_
 refine Jg ?_
 refine Jp ?_
 obtain rfl := Option.some.inj H
 refine J3 (v := .bool (decide (a0 ≠ a0))) rfl rfl (Yd rfl)
theorem k76 {a0 : (List UInt8)} {a1 : (List UInt8)} {r : Int} (H : W3 a0 a1 = some r) : Ret Tryz.prog 76 [str a0, str a1] (.int .i64 r) := by
 refine Qx (n := 20) Tryz.func76 rfl rfl rfl (fun wd => ?_)
 refine Jf ?_
 refine Jb ?_
 refine Ja rfl rfl rfl (Jc (v := .int .i64 0) rfl) ?_
 refine Jg ?_
 refine Jf ?_
 refine Jb ?_
 refine Ja rfl rfl rfl (Je (v := str a0) rfl) ?_
 obtain ⟨t8, h_t8, H13⟩ := Ji H; clear H
 refine Q5 (k100 h_t8) Tryz.call100 rfl rfl rfl ?_
 refine Ja rfl rfl rfl (Jc (v := .bool t8) rfl) ?_
 refine Jg ?_
 refine Jf ?_
 refine Jb ?_
 refine Ja rfl rfl rfl (Je (v := str a1) rfl) ?_
 obtain ⟨t10, h_t10, H14⟩ := Ji H13; clear H13
 refine Q5 (k100 h_t10) Tryz.call100 rfl rfl rfl ?_
 refine Ja rfl rfl rfl (Jc (v := .bool t10) rfl) ?_
 refine Jg ?_
 refine Jf ?_
 refine Jf ?_
 refine Jb ?_
 refine Ja rfl rfl rfl (Je (v := .bool t8) rfl) ?_
 refine Jg ?_
 refine Qg (b := t8) rfl (fun hb => ?_) (fun hb => ?_)
 ·have H15 := Jr hb H14; clear H14
  refine Jf ?_
  refine Jf ?_
  refine Jb ?_
  refine Ja rfl rfl rfl (Je (v := .bool t10) rfl) ?_
  refine Jg ?_
  refine Qg (b := t10) rfl (fun hb => ?_) (fun hb => ?_)
  ·have H16 := Jr hb H15; clear H15
   refine Jf ?_
   refine Jb ?_
   refine Ja rfl rfl rfl (Jc (v := .int .i64 0) rfl) ?_
   refine Jg ?_
   refine Jp ?_
   obtain rfl := Option.some.inj H16
   refine J3 (v := .int .i64 0) rfl rfl (Yd rfl)
  ·have H17 := Jq hb H15; clear H15
   refine Jw ?_
   refine Jf ?_
   refine Jb ?_
   refine Ja rfl rfl rfl (Jc (v := .int .i64 (-1)) rfl) ?_
   refine Jg ?_
   refine Jp ?_
   obtain rfl := Option.some.inj H17
   refine J3 (v := .int .i64 (-1)) rfl rfl (Yd rfl)
 ·have H18 := Jq hb H14; clear H14
  refine Jw ?_
  refine Jf ?_
  refine Jf ?_
  refine Jb ?_
  refine Ja rfl rfl rfl (Je (v := .bool t10) rfl) ?_
  refine Jg ?_
  refine Qg (b := t10) rfl (fun hb => ?_) (fun hb => ?_)
  ·have H19 := Jr hb H18; clear H18
   refine Jf ?_
   refine Jb ?_
   refine Ja rfl rfl rfl (Jc (v := .int .i64 1) rfl) ?_
   refine Jg ?_
   refine Jp ?_
   obtain rfl := Option.some.inj H19
   refine J3 (v := .int .i64 1) rfl rfl (Yd rfl)
  ·have H20 := Jq hb H18; clear H18
   refine Jw ?_
   refine Jf ?_
   refine Jf ?_
   refine Jb ?_
   refine Ja rfl rfl rfl (Je (v := str a0) rfl) ?_
   refine Ja rfl rfl rfl (Je (v := str a1) rfl) ?_
   refine Ja rfl rfl rfl (r_lssT rfl rfl) ?_
   refine Jg ?_
   refine Qg (b := (ltB a0 a1)) rfl (fun hb => ?_) (fun hb => ?_)
   ·have H21 := Jr hb H20; clear H20
    refine Jf ?_
    refine Jb ?_
    refine Ja rfl rfl rfl (Jc (v := .int .i64 (-1)) rfl) ?_
    refine Jg ?_
    refine Jp ?_
    obtain rfl := Option.some.inj H21
    refine J3 (v := .int .i64 (-1)) rfl rfl (Yd rfl)
   ·have H22 := Jq hb H20; clear H20
    refine Jw ?_
    refine Jf ?_
    refine Jf ?_
    refine Jb ?_
    refine Ja rfl rfl rfl (Je (v := str a0) rfl) ?_
    refine Ja rfl rfl rfl (Je (v := str a1) rfl) ?_
    refine Ja rfl rfl rfl (r_gtrT rfl rfl) ?_
    refine Jg ?_
    refine Qg (b := (ltB a1 a0)) rfl (fun hb => ?_) (fun hb => ?_)
    ·have H23 := Jr hb H22; clear H22
     refine Jf ?_
     refine Jb ?_
     refine Ja rfl rfl rfl (Jc (v := .int .i64 1) rfl) ?_
     refine Jg ?_
     refine Jp ?_
     obtain rfl := Option.some.inj H23
     refine J3 (v := .int .i64 1) rfl rfl (Yd rfl)
    ·have H24 := Jq hb H22; clear H22
     refine Jw ?_
     refine Jf ?_
     refine Jb ?_
     refine Ja rfl rfl rfl (Jc (v := .int .i64 0) rfl) ?_
     refine Jg ?_
     refine Jp ?_
     obtain rfl := Option.some.inj H24
     refine J3 (v := .int .i64 0) rfl rfl (Yd rfl)
theorem k20 {a0 : T_sync_Replica} {pb0 : Nat} {p0_2 : Option Addr × Nat} {n0_2 : Nat} {a1 : (T_sync_Fact → Option (Bool))} {v1 : Value} {a2 : (List T_sync_Fact)} {v2 : Value} {r : T_sync_Replica} {w : World} {h : Qd} {S : Nat → Prop} (hcs : (J0 (Jl pb0 [.int .i64 a0.device_, .int .i64 (a0.knows_ 0), .int .i64 (a0.knows_ 1), .int .i64 (a0.knows_ 2), .int .i64 (a0.knows_ 3), .int .i64 (a0.knows_ 4), .int .i64 (a0.knows_ 5), .int .i64 (a0.knows_ 6), .int .i64 (a0.knows_ 7), .int .i64 (a0.knows_ 8), .int .i64 (a0.knows_ 9), .int .i64 (a0.knows_ 10), .int .i64 (a0.knows_ 11), .int .i64 (a0.knows_ 12), .int .i64 (a0.knows_ 13), .int .i64 (a0.knows_ 14), .int .i64 (a0.knows_ 15), .slice p0_2.1 n0_2 p0_2.2] 60) (J2 45 8 (.slice p0_2.1 n0_2 p0_2.2) n0_2 (a0.facts_.map Jd))).P S w) (hlt : ∀ b, S b → b < w.heap.size) (hw : Know h w S) (hn0_2 : n0_2 = a0.facts_.length) (f1 : FnH Tryz.prog h v1 (Q8 a1)) (f2 : FrS h 8 v2 (a2.map Jd)) (H : Xy a0 a1 a2 = some r) : Does Tryz.prog 20 (List.toArray [.pointer (some ⟨pb0, 0, none⟩), v1, v2]) w (fun v w' => ∃ x : (Option Addr × Nat), v = (.tuple #[]) ∧ Turn w w' S (J0 (Jl pb0 [.int .i64 r.device_, .int .i64 (r.knows_ 0), .int .i64 (r.knows_ 1), .int .i64 (r.knows_ 2), .int .i64 (r.knows_ 3), .int .i64 (r.knows_ 4), .int .i64 (r.knows_ 5), .int .i64 (r.knows_ 6), .int .i64 (r.knows_ 7), .int .i64 (r.knows_ 8), .int .i64 (r.knows_ 9), .int .i64 (r.knows_ 10), .int .i64 (r.knows_ 11), .int .i64 (r.knows_ 12), .int .i64 (r.knows_ 13), .int .i64 (r.knows_ 14), .int .i64 (r.knows_ 15), .slice x.1 r.facts_.length x.2] 60) (J2 45 8 (.slice x.1 r.facts_.length x.2) r.facts_.length (r.facts_.map Jd)))) := by
 refine enter (n := 42) Tryz.func20 rfl rfl rfl S [J0 (Jl pb0 [.int .i64 a0.device_, .int .i64 (a0.knows_ 0), .int .i64 (a0.knows_ 1), .int .i64 (a0.knows_ 2), .int .i64 (a0.knows_ 3), .int .i64 (a0.knows_ 4), .int .i64 (a0.knows_ 5), .int .i64 (a0.knows_ 6), .int .i64 (a0.knows_ 7), .int .i64 (a0.knows_ 8), .int .i64 (a0.knows_ 9), .int .i64 (a0.knows_ 10), .int .i64 (a0.knows_ 11), .int .i64 (a0.knows_ 12), .int .i64 (a0.knows_ 13), .int .i64 (a0.knows_ 14), .int .i64 (a0.knows_ 15), .slice p0_2.1 n0_2 p0_2.2] 60) (J2 45 8 (.slice p0_2.1 n0_2 p0_2.2) n0_2 (a0.facts_.map Jd))] (Sat.one hcs hlt) ?_
 refine Yo 0 rfl ?_
 refine Jf ?_
 exact Yl (Kd.p :: Kd.p :: Kd.p :: Kd.p :: Kd.d [0] _ :: Kd.p :: Kd.p :: Kd.p :: Kd.d [0] _ :: Kd.p :: Kd.p :: Kd.p :: Kd.p :: Kd.st 18 0 [_, _, _, _, _, _, _, _, _, _, _, _, _, _, _, _, _, _] 60 :: []) 0 mixed (by
  refine Jt rfl rfl (Je (v := .pointer (some ⟨pb0, 0, none⟩)) rfl) ?_
  refine Jt rfl rfl (Je (v := .pointer (some ⟨pb0, 0, none⟩)) rfl) ?_
  refine Jt rfl rfl (Qm rfl) ?_
  refine Jt rfl rfl (Jo Tryz.runUnderlying60 rfl Tryz.sizeOf3 rfl rfl) ?_
  refine Yn (i := 0) (v := .int .i64 a0.device_) Tryz.isAgg3 rfl rfl rfl rfl ?_
  refine Jt rfl rfl (Qm rfl) ?_
  refine Jt rfl rfl (Jo Tryz.runUnderlying60 rfl Tryz.sizeOf57 rfl rfl) ?_
  have h_k13 := Qq H
  have H7 := Qi H
  refine Jt rfl rfl (Jaj Tryz.runUnderlying57 Tryz.sizeOf3 rfl rfl h_k13) ?_
  refine Yn (i := 0) (v := .int .i64 (a0.knows_ (val (Q3 16 a0.device_)))) Tryz.isAgg3 rfl rfl rfl (rg_arr (pre := [.int .i64 a0.device_]) (post := [.slice p0_2.1 n0_2 p0_2.2]) (f := fun j_ => [.int .i64 (a0.knows_ j_)]) (n := 16) (sz := 1) (q := 0) rfl rfl (fun _ => rfl) (gIx_lt h_k13) rfl) ?_
  have h_t15 := Qq H7
  have H8 := Qi H7
  refine Jt rfl rfl (Yj rfl rfl h_t15) ?_
  refine Jt rfl rfl (Qm rfl) ?_
  refine Jt rfl rfl (Jo Tryz.runUnderlying60 rfl Tryz.sizeOf57 rfl rfl) ?_
  have h_k18 := Qq H8
  have H9 := Qi H8
  refine Jt rfl rfl (Jaj Tryz.runUnderlying57 Tryz.sizeOf3 rfl rfl h_k18) ?_
  refine d_store (i := 0) (vs := [.int .i64 (val (gI ((a0.knows_ (val (Q3 16 a0.device_))) + 1)))]) (cs' := [.int .i64 a0.device_, .int .i64 ((Q7 a0.knows_ (val (Q3 16 a0.device_)) (val (gI ((a0.knows_ (val (Q3 16 a0.device_))) + 1)))) 0), .int .i64 ((Q7 a0.knows_ (val (Q3 16 a0.device_)) (val (gI ((a0.knows_ (val (Q3 16 a0.device_))) + 1)))) 1), .int .i64 ((Q7 a0.knows_ (val (Q3 16 a0.device_)) (val (gI ((a0.knows_ (val (Q3 16 a0.device_))) + 1)))) 2), .int .i64 ((Q7 a0.knows_ (val (Q3 16 a0.device_)) (val (gI ((a0.knows_ (val (Q3 16 a0.device_))) + 1)))) 3), .int .i64 ((Q7 a0.knows_ (val (Q3 16 a0.device_)) (val (gI ((a0.knows_ (val (Q3 16 a0.device_))) + 1)))) 4), .int .i64 ((Q7 a0.knows_ (val (Q3 16 a0.device_)) (val (gI ((a0.knows_ (val (Q3 16 a0.device_))) + 1)))) 5), .int .i64 ((Q7 a0.knows_ (val (Q3 16 a0.device_)) (val (gI ((a0.knows_ (val (Q3 16 a0.device_))) + 1)))) 6), .int .i64 ((Q7 a0.knows_ (val (Q3 16 a0.device_)) (val (gI ((a0.knows_ (val (Q3 16 a0.device_))) + 1)))) 7), .int .i64 ((Q7 a0.knows_ (val (Q3 16 a0.device_)) (val (gI ((a0.knows_ (val (Q3 16 a0.device_))) + 1)))) 8), .int .i64 ((Q7 a0.knows_ (val (Q3 16 a0.device_)) (val (gI ((a0.knows_ (val (Q3 16 a0.device_))) + 1)))) 9), .int .i64 ((Q7 a0.knows_ (val (Q3 16 a0.device_)) (val (gI ((a0.knows_ (val (Q3 16 a0.device_))) + 1)))) 10), .int .i64 ((Q7 a0.knows_ (val (Q3 16 a0.device_)) (val (gI ((a0.knows_ (val (Q3 16 a0.device_))) + 1)))) 11), .int .i64 ((Q7 a0.knows_ (val (Q3 16 a0.device_)) (val (gI ((a0.knows_ (val (Q3 16 a0.device_))) + 1)))) 12), .int .i64 ((Q7 a0.knows_ (val (Q3 16 a0.device_)) (val (gI ((a0.knows_ (val (Q3 16 a0.device_))) + 1)))) 13), .int .i64 ((Q7 a0.knows_ (val (Q3 16 a0.device_)) (val (gI ((a0.knows_ (val (Q3 16 a0.device_))) + 1)))) 14), .int .i64 ((Q7 a0.knows_ (val (Q3 16 a0.device_)) (val (gI ((a0.knows_ (val (Q3 16 a0.device_))) + 1)))) 15), .slice p0_2.1 n0_2 p0_2.2]) Tryz.sizeOf3 rfl rfl rfl rfl rfl rfl rfl rfl (wr_arr (pre := [.int .i64 a0.device_]) (post := [.slice p0_2.1 n0_2 p0_2.2]) (f := fun (j_ : Int) => [.int .i64 j_]) (n := 16) (sz := 1) (a := a0.knows_) (x := (val (gI ((a0.knows_ (val (Q3 16 a0.device_))) + 1)))) rfl rfl (fun _ => rfl) (gIx_lt h_k18) rfl rfl) ?_
  refine Wr ?_
  refine Jf ?_
  refine Jb ?_
  refine Ja rfl rfl rfl (Je (v := .pointer (some ⟨pb0, 0, none⟩)) rfl) ?_
  refine Ja rfl rfl rfl (Je (v := .pointer (some ⟨pb0, 0, none⟩)) rfl) ?_
  refine Ja rfl rfl rfl (Qm rfl) ?_
  refine Ja rfl rfl rfl (Jo Tryz.runUnderlying60 rfl Tryz.sizeOf58 rfl rfl) ?_
  refine Jv (i := 0) (v := .slice p0_2.1 n0_2 p0_2.2) Tryz.isAgg58 rfl rfl rfl rfl rfl ?_
  refine Ja rfl rfl rfl (Je (v := v1) rfl) ?_
  obtain ⟨t25, h_t25, H10⟩ := Ji H9; clear H9
  refine Q4 (J6 (i := 1) (rds := []) (G := fun x : (Option Addr × Nat) => .slice x.1 t25.length x.2) (C := fun x : (Option Addr × Nat) => J2 45 8 (.slice x.1 t25.length x.2) t25.length (t25.map Jd)) rfl (fun w L' S hF hS hi hp hlt ho hA => k43 hp hlt (Qn w S) hn0_2 (f1.mono (hw.but hF ho)) h_t25) Tryz.call43 rfl) rfl rfl rfl (fun p => ?_)
  refine Ja rfl rfl rfl (Qm rfl) ?_
  refine Ja rfl rfl rfl (Jo Tryz.runUnderlying60 rfl Tryz.sizeOf58 rfl rfl) ?_
  refine Xt (i := 0) (vs := [.slice p.1 t25.length p.2]) (cs' := [.int .i64 a0.device_, .int .i64 ((Q7 a0.knows_ (val (Q3 16 a0.device_)) (val (gI ((a0.knows_ (val (Q3 16 a0.device_))) + 1)))) 0), .int .i64 ((Q7 a0.knows_ (val (Q3 16 a0.device_)) (val (gI ((a0.knows_ (val (Q3 16 a0.device_))) + 1)))) 1), .int .i64 ((Q7 a0.knows_ (val (Q3 16 a0.device_)) (val (gI ((a0.knows_ (val (Q3 16 a0.device_))) + 1)))) 2), .int .i64 ((Q7 a0.knows_ (val (Q3 16 a0.device_)) (val (gI ((a0.knows_ (val (Q3 16 a0.device_))) + 1)))) 3), .int .i64 ((Q7 a0.knows_ (val (Q3 16 a0.device_)) (val (gI ((a0.knows_ (val (Q3 16 a0.device_))) + 1)))) 4), .int .i64 ((Q7 a0.knows_ (val (Q3 16 a0.device_)) (val (gI ((a0.knows_ (val (Q3 16 a0.device_))) + 1)))) 5), .int .i64 ((Q7 a0.knows_ (val (Q3 16 a0.device_)) (val (gI ((a0.knows_ (val (Q3 16 a0.device_))) + 1)))) 6), .int .i64 ((Q7 a0.knows_ (val (Q3 16 a0.device_)) (val (gI ((a0.knows_ (val (Q3 16 a0.device_))) + 1)))) 7), .int .i64 ((Q7 a0.knows_ (val (Q3 16 a0.device_)) (val (gI ((a0.knows_ (val (Q3 16 a0.device_))) + 1)))) 8), .int .i64 ((Q7 a0.knows_ (val (Q3 16 a0.device_)) (val (gI ((a0.knows_ (val (Q3 16 a0.device_))) + 1)))) 9), .int .i64 ((Q7 a0.knows_ (val (Q3 16 a0.device_)) (val (gI ((a0.knows_ (val (Q3 16 a0.device_))) + 1)))) 10), .int .i64 ((Q7 a0.knows_ (val (Q3 16 a0.device_)) (val (gI ((a0.knows_ (val (Q3 16 a0.device_))) + 1)))) 11), .int .i64 ((Q7 a0.knows_ (val (Q3 16 a0.device_)) (val (gI ((a0.knows_ (val (Q3 16 a0.device_))) + 1)))) 12), .int .i64 ((Q7 a0.knows_ (val (Q3 16 a0.device_)) (val (gI ((a0.knows_ (val (Q3 16 a0.device_))) + 1)))) 13), .int .i64 ((Q7 a0.knows_ (val (Q3 16 a0.device_)) (val (gI ((a0.knows_ (val (Q3 16 a0.device_))) + 1)))) 14), .int .i64 ((Q7 a0.knows_ (val (Q3 16 a0.device_)) (val (gI ((a0.knows_ (val (Q3 16 a0.device_))) + 1)))) 15), .slice p.1 t25.length p.2]) Tryz.sizeOf58 rfl rfl rfl rfl rfl rfl rfl rfl rfl ?_
  refine Jg ?_
  refine Jf ?_
  refine Jb ?_
  refine Ja rfl rfl rfl (Je (v := .pointer (some ⟨pb0, 0, none⟩)) rfl) ?_
  refine Ja rfl rfl rfl (Je (v := .pointer (some ⟨pb0, 0, none⟩)) rfl) ?_
  refine Ja rfl rfl rfl (Qm rfl) ?_
  refine Ja rfl rfl rfl (Jo Tryz.runUnderlying60 rfl Tryz.sizeOf58 rfl rfl) ?_
  refine Jv (i := 0) (v := .slice p.1 t25.length p.2) Tryz.isAgg58 rfl rfl rfl rfl rfl ?_
  refine Ja rfl rfl rfl (Je (v := v2) rfl) ?_
  obtain ⟨l34, h_l34, H11⟩ := Ji H10; clear H10
  refine Q4 (turns_appFG (i := 1) (hn := rfl) (rds := []) (p := p) (sz := 8) (by_ := 80) (f := Jd) (ys := t25) (ls := a2) (V := v2) Tryz.underlying58 (Jae Tryz.typeInfo45) rfl rfl rfl rfl rfl rfl rfl rfl f2.eq (List.length_map _) (fun w L' hF hS hi => (f2).row (hw.now hF)) (fun _ => rfl) (fun _ => rfl) h_l34) rfl rfl rfl (fun p_2 => ?_)
  refine Ja rfl rfl rfl (Qm rfl) ?_
  refine Ja rfl rfl rfl (Jo Tryz.runUnderlying60 rfl Tryz.sizeOf58 rfl rfl) ?_
  refine Xt (i := 0) (vs := [.slice p_2.1 l34.length p_2.2]) (cs' := [.int .i64 a0.device_, .int .i64 ((Q7 a0.knows_ (val (Q3 16 a0.device_)) (val (gI ((a0.knows_ (val (Q3 16 a0.device_))) + 1)))) 0), .int .i64 ((Q7 a0.knows_ (val (Q3 16 a0.device_)) (val (gI ((a0.knows_ (val (Q3 16 a0.device_))) + 1)))) 1), .int .i64 ((Q7 a0.knows_ (val (Q3 16 a0.device_)) (val (gI ((a0.knows_ (val (Q3 16 a0.device_))) + 1)))) 2), .int .i64 ((Q7 a0.knows_ (val (Q3 16 a0.device_)) (val (gI ((a0.knows_ (val (Q3 16 a0.device_))) + 1)))) 3), .int .i64 ((Q7 a0.knows_ (val (Q3 16 a0.device_)) (val (gI ((a0.knows_ (val (Q3 16 a0.device_))) + 1)))) 4), .int .i64 ((Q7 a0.knows_ (val (Q3 16 a0.device_)) (val (gI ((a0.knows_ (val (Q3 16 a0.device_))) + 1)))) 5), .int .i64 ((Q7 a0.knows_ (val (Q3 16 a0.device_)) (val (gI ((a0.knows_ (val (Q3 16 a0.device_))) + 1)))) 6), .int .i64 ((Q7 a0.knows_ (val (Q3 16 a0.device_)) (val (gI ((a0.knows_ (val (Q3 16 a0.device_))) + 1)))) 7), .int .i64 ((Q7 a0.knows_ (val (Q3 16 a0.device_)) (val (gI ((a0.knows_ (val (Q3 16 a0.device_))) + 1)))) 8), .int .i64 ((Q7 a0.knows_ (val (Q3 16 a0.device_)) (val (gI ((a0.knows_ (val (Q3 16 a0.device_))) + 1)))) 9), .int .i64 ((Q7 a0.knows_ (val (Q3 16 a0.device_)) (val (gI ((a0.knows_ (val (Q3 16 a0.device_))) + 1)))) 10), .int .i64 ((Q7 a0.knows_ (val (Q3 16 a0.device_)) (val (gI ((a0.knows_ (val (Q3 16 a0.device_))) + 1)))) 11), .int .i64 ((Q7 a0.knows_ (val (Q3 16 a0.device_)) (val (gI ((a0.knows_ (val (Q3 16 a0.device_))) + 1)))) 12), .int .i64 ((Q7 a0.knows_ (val (Q3 16 a0.device_)) (val (gI ((a0.knows_ (val (Q3 16 a0.device_))) + 1)))) 13), .int .i64 ((Q7 a0.knows_ (val (Q3 16 a0.device_)) (val (gI ((a0.knows_ (val (Q3 16 a0.device_))) + 1)))) 14), .int .i64 ((Q7 a0.knows_ (val (Q3 16 a0.device_)) (val (gI ((a0.knows_ (val (Q3 16 a0.device_))) + 1)))) 15), .slice p_2.1 l34.length p_2.2]) Tryz.sizeOf58 rfl rfl rfl rfl rfl rfl rfl rfl rfl ?_
  refine Jg ?_
  refine Jb ?_
  refine Ja rfl rfl rfl (Je (v := .pointer (some ⟨pb0, 0, none⟩)) rfl) ?_
  refine Ja rfl rfl rfl (Qm rfl) ?_
  refine Ja rfl rfl rfl (Jo Tryz.runUnderlying60 rfl Tryz.sizeOf58 rfl rfl) ?_
  refine Jv (i := 0) (v := .slice p_2.1 l34.length p_2.2) Tryz.isAgg58 rfl rfl rfl rfl rfl ?_
  obtain ⟨t41, h_t41, H12⟩ := Ji H11; clear H11
  refine Q4 (J6 (i := 1) (rds := []) (G := fun x : Unit => .tuple #[]) (C := fun x : Unit => J2 45 8 (.slice p_2.1 l34.length p_2.2) l34.length (t41.map Jd)) rfl (fun w L' S hF hS hi hp hlt ho hA => k44 hp hlt (Qn w S) rfl h_t41) Tryz.call44 rfl) rfl rfl rfl (fun _ => ?_)
  refine c_know (fun w hF hS => lenOfO (i := 1) hS rfl) (fun hl_ => ?_)
  have hl : l34.length = t41.length := by simpa using hl_.symm
  refine Jg ?_
  obtain rfl := Option.some.inj H12
  refine Qa 0 1 rfl rfl (by decide) ?_
  refine ret0n rfl (Yk p_2 (i := 0) rfl (by first | rfl | rw [(show l34.length = t41.length from hl)]) (by first | exact Imp.refl _ | exact Imp.of (by rw [(show l34.length = t41.length from hl)])))
  ) (by kernel_rfl)
theorem k53 {a0 : T_sync_Fact} {a1 : T_sync_Fact} {r : Int} (H : sync_later a0 a1 = some r) : Ret Tryz.prog 53 [.agg #[.int .i64 a0.Dot.Device, .int .i64 a0.Dot.N, .int .i64 a0.Time, .int .i64 a0.Kind, .int .i64 a0.Id, str a0.Name, .int .i64 a0.Num, str a0.Text], .agg #[.int .i64 a1.Dot.Device, .int .i64 a1.Dot.N, .int .i64 a1.Time, .int .i64 a1.Kind, .int .i64 a1.Id, str a1.Name, .int .i64 a1.Num, str a1.Text]] (.int .i64 r) := by
 refine Qx (n := 26) Tryz.func53 rfl rfl rfl (fun wd => ?_)
 refine Jf ?_
 refine Jb ?_
 refine Zo (cs := [.int .i64 a0.Dot.Device, .int .i64 a0.Dot.N, .int .i64 a0.Time, .int .i64 a0.Kind, .int .i64 a0.Id, str a0.Name, .int .i64 a0.Num, str a0.Text]) rfl rfl rfl rfl (fun b3 => ?_)
 refine Zo (cs := [.int .i64 a1.Dot.Device, .int .i64 a1.Dot.N, .int .i64 a1.Time, .int .i64 a1.Kind, .int .i64 a1.Id, str a1.Name, .int .i64 a1.Num, str a1.Text]) rfl rfl rfl rfl (fun b4 => ?_)
 refine Ja rfl rfl rfl (Jc (v := .int .i64 0) rfl) ?_
 refine Jg ?_
 refine Jf ?_
 exact Yl (Kd.p :: Kd.d [0] _ :: Kd.p :: Kd.d [1] _ :: Kd.d [] _ :: Kd.p :: Kd.p :: Kd.d [0] _ :: Kd.p :: Kd.p :: Kd.d [1] _ :: Kd.d [] _ :: Kd.p :: Kd.p :: Kd.d [0] _ :: Kd.p :: Kd.p :: Kd.d [1] _ :: Kd.d [] _ :: Kd.ns 2 [_, _, _] 3 3 :: Kd.d [2] _ :: Kd.p :: []) 1 mixed (by
  refine Jt rfl rfl (Jo Tryz.runUnderlying45 rfl Tryz.sizeOf3 rfl rfl) ?_
  refine Yn (i := 0) (v := .int .i64 a0.Time) Tryz.isAgg3 rfl rfl rfl rfl ?_
  refine Jt rfl rfl (Jo Tryz.runUnderlying45 rfl Tryz.sizeOf3 rfl rfl) ?_
  refine Yn (i := 1) (v := .int .i64 a1.Time) Tryz.isAgg3 rfl rfl rfl rfl ?_
  have h_t9 := Qq H
  have H5 := Qi H
  refine d_call (k75 h_t9) Tryz.call75 rfl rfl ?_
  refine Jt rfl rfl (Jo Tryz.runUnderlying45 rfl Tryz.sizeOf43 rfl rfl) ?_
  refine Jt rfl rfl (Jo Tryz.runUnderlying43 rfl Tryz.sizeOf3 rfl rfl) ?_
  refine Yn (i := 0) (v := .int .i64 a0.Dot.Device) Tryz.isAgg3 rfl rfl rfl rfl ?_
  refine Jt rfl rfl (Jo Tryz.runUnderlying45 rfl Tryz.sizeOf43 rfl rfl) ?_
  refine Jt rfl rfl (Jo Tryz.runUnderlying43 rfl Tryz.sizeOf3 rfl rfl) ?_
  refine Yn (i := 1) (v := .int .i64 a1.Dot.Device) Tryz.isAgg3 rfl rfl rfl rfl ?_
  have h_t16 := Qq H5
  have H6 := Qi H5
  refine d_call (k75 h_t16) Tryz.call75 rfl rfl ?_
  refine Jt rfl rfl (Jo Tryz.runUnderlying45 rfl Tryz.sizeOf43 rfl rfl) ?_
  refine Jt rfl rfl (Jo Tryz.runUnderlying43 rfl Tryz.sizeOf3 rfl rfl) ?_
  refine Yn (i := 0) (v := .int .i64 a0.Dot.N) Tryz.isAgg3 rfl rfl rfl rfl ?_
  refine Jt rfl rfl (Jo Tryz.runUnderlying45 rfl Tryz.sizeOf43 rfl rfl) ?_
  refine Jt rfl rfl (Jo Tryz.runUnderlying43 rfl Tryz.sizeOf3 rfl rfl) ?_
  refine Yn (i := 1) (v := .int .i64 a1.Dot.N) Tryz.isAgg3 rfl rfl rfl rfl ?_
  have h_t23 := Qq H6
  have H7 := Qi H6
  refine d_call (k75 h_t23) Tryz.call75 rfl rfl ?_
  refine d_newS rfl rfl (Uo (vs := [.int .i64 (val (cmp_Compare_int a0.Time a1.Time)), .int .i64 (val (cmp_Compare_int a0.Dot.Device a1.Dot.Device)), .int .i64 (val (cmp_Compare_int a0.Dot.N a1.Dot.N))]) (cs := [.int .i64 (val (cmp_Compare_int a0.Time a1.Time)), .int .i64 (val (cmp_Compare_int a0.Dot.Device a1.Dot.Device)), .int .i64 (val (cmp_Compare_int a0.Dot.N a1.Dot.N))]) Tryz.underlying63 Tryz.sizeOf3 Tryz.zeroValue3 rfl rfl rfl rfl rfl) rfl (fun b5 => ?_)
  have h_t25 := Qq H7
  have H8 := Qi H7
  refine d_callD (fun w L' hF hS hi => k74 (Jx w) (frs_box (i := 2) (xs := ([(val (cmp_Compare_int a0.Time a1.Time)), (val (cmp_Compare_int a0.Dot.Device a1.Dot.Device)), (val (cmp_Compare_int a0.Dot.N a1.Dot.N))] : List Int)) (f := Z5) hS ((hi 2 (by simp)).trans rfl) rfl rfl rfl rfl) h_t25) Tryz.call74 rfl rfl ?_
  refine Jt rfl rfl (Jc (v := .int .i64 (val (Vf ([(val (cmp_Compare_int a0.Time a1.Time)), (val (cmp_Compare_int a0.Dot.Device a1.Dot.Device)), (val (cmp_Compare_int a0.Dot.N a1.Dot.N))] : List Int)))) rfl) ?_
  refine Wr ?_
  refine Jp ?_
  obtain rfl := Option.some.inj H8
  refine J3 (v := .int .i64 (val (Vf ([(val (cmp_Compare_int a0.Time a1.Time)), (val (cmp_Compare_int a0.Dot.Device a1.Dot.Device)), (val (cmp_Compare_int a0.Dot.N a1.Dot.N))] : List Int)))) rfl rfl (Yd rfl)
  ) (by kernel_rfl)
end Go.Proofs.YtajcmignhnbmiaaGreatDoor
