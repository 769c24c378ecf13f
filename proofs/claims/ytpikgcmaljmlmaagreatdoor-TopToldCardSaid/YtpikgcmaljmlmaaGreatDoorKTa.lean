/- TopTold, what the others share: the walks, printed by our generator; each follows its model. Conditions: the model yields a value. -/
import Derived.Test.YtpikgcmaljmlmaaGreatDoorMd
import Derived.Test.YtpikgcmaljmlmaaGreatDoorProg
import Derived.Test.YtpikgcmaljmlmaaGreatDoorLx4
namespace Go.Proofs.YtpikgcmaljmlmaaGreatDoor
open Go Go.Vc Go.Md Go.M Go.Lx
set_option maxRecDepth 100000
set_option maxHeartbeats 4000000
set_option linter.unusedVariables false
theorem mixed : Tryz.prog.follows .mixedOrders = true := by kernel_rfl
abbrev e_u8 (x : Int) : List Value := [.int .u8 x]
def U4 (m : (Int → Option (Bool))) (w : World) (args : List Value) (post : Value → World → Prop) : Prop :=
  ∃ (a0 : Int) (r : Bool), args = [.int .u8 a0] ∧ m a0 = some r ∧ post = fun v' w' => v' = (.bool r) ∧ Grow w w'
abbrev Qf (x : T_face_Likeness) : List Value := [.int .i64 x.Id, .int .i64 x.Photo, .int .i64 (x.Vec 0), .int .i64 (x.Vec 1), .int .i64 (x.Vec 2), .int .i64 (x.Vec 3), .int .i64 (x.Vec 4), .int .i64 (x.Vec 5), .int .i64 (x.Vec 6), .int .i64 (x.Vec 7), .int .i64 (x.Vec 8), .int .i64 (x.Vec 9), .int .i64 (x.Vec 10), .int .i64 (x.Vec 11)]
abbrev J4 (x : Int) : List Value := [.int .i64 x]
def Jan (m : (Int → Option (Bool))) (w : World) (args : List Value) (post : Value → World → Prop) : Prop :=
  ∃ (a0 : Int) (r : Bool), args = [.int .i64 a0] ∧ m a0 = some r ∧ post = fun v' w' => v' = (.bool r) ∧ Grow w w'
def Z0 (m : (T_face_Likeness → Int → Option (Int))) (w : World) (args : List Value) (post : Value → World → Prop) : Prop :=
  ∃ (a0 : T_face_Likeness) (a1 : Int) (r : Int), args = [.agg #[.int .i64 a0.Id, .int .i64 a0.Photo, .int .i64 (a0.Vec 0), .int .i64 (a0.Vec 1), .int .i64 (a0.Vec 2), .int .i64 (a0.Vec 3), .int .i64 (a0.Vec 4), .int .i64 (a0.Vec 5), .int .i64 (a0.Vec 6), .int .i64 (a0.Vec 7), .int .i64 (a0.Vec 8), .int .i64 (a0.Vec 9), .int .i64 (a0.Vec 10), .int .i64 (a0.Vec 11)], .int .i64 a1] ∧ m a0 a1 = some r ∧ post = fun v' w' => v' = (.int .i64 r) ∧ Grow w w'
abbrev Jj (x : T_sync_Fact) : List Value := [.int .i64 x.Dot.Device, .int .i64 x.Dot.N, .int .i64 x.Time, .int .i64 x.Kind, .int .i64 x.Id, str x.Name, .int .i64 x.Num, str x.Text]
def Xd (m : (T_sync_Fact → Option (Bool))) (w : World) (args : List Value) (post : Value → World → Prop) : Prop :=
  ∃ (a0 : T_sync_Fact) (r : Bool), args = [.agg #[.int .i64 a0.Dot.Device, .int .i64 a0.Dot.N, .int .i64 a0.Time, .int .i64 a0.Kind, .int .i64 a0.Id, str a0.Name, .int .i64 a0.Num, str a0.Text]] ∧ m a0 = some r ∧ post = fun v' w' => v' = (.bool r) ∧ Grow w w'
def V3 (m : (T_sync_Fact → T_sync_Fact → Option (Int))) (w : World) (args : List Value) (post : Value → World → Prop) : Prop :=
  ∃ (a0 : T_sync_Fact) (a1 : T_sync_Fact) (r : Int), args = [.agg #[.int .i64 a0.Dot.Device, .int .i64 a0.Dot.N, .int .i64 a0.Time, .int .i64 a0.Kind, .int .i64 a0.Id, str a0.Name, .int .i64 a0.Num, str a0.Text], .agg #[.int .i64 a1.Dot.Device, .int .i64 a1.Dot.N, .int .i64 a1.Time, .int .i64 a1.Kind, .int .i64 a1.Id, str a1.Name, .int .i64 a1.Num, str a1.Text]] ∧ m a0 a1 = some r ∧ post = fun v' w' => v' = (.int .i64 r) ∧ Grow w w'
abbrev U7 (x : (List UInt8)) : List Value := [str x]
def Jar (m : ((List Int) → (List Int) → Option (Bool))) (w : World) (args : List Value) (post : Value → World → Prop) : Prop :=
  ∃ (a0 : (List Int)) (v0 : Value) (a1 : (List Int)) (v1 : Value) (r : Bool), FrS (fun b => w.heap[b]?) 1 v0 (a0.map J4) ∧ FrS (fun b => w.heap[b]?) 1 v1 (a1.map J4) ∧ args = [v0, v1] ∧ m a0 a1 = some r ∧ post = fun v' w' => v' = (.bool r) ∧ Grow w w'
def gs_int (h : J3) (c : Nat → Value) (x : (List Int)) : Prop := FrS h 1 (c 0) (x.map J4)
instance : Mon gs_int := ⟨fun k _ _ f => FrS.mono f k⟩
theorem cgs_int {h : J3} {c : Nat → Value} {x : (List Int)} (_ : gs_int h c x) : (List.range 1).map c = [c 0] := rfl
def g_face_Person (h : J3) (c : Nat → Value) (x : T_face_Person) : Prop := c 0 = .int .i64 x.Id ∧ c 1 = str x.Name ∧ gs_int h (fun j => c (2 + j)) x.Likes ∧ gs_int h (fun j => c (3 + j)) x.Nots
instance : Mon g_face_Person := ⟨fun k _ _ f => by obtain ⟨h0, h1, h2, h3⟩ := f; exact ⟨h0, h1, Mon.mono k _ _ h2, Mon.mono k _ _ h3⟩⟩
theorem cg_face_Person {h : J3} {c : Nat → Value} {x : T_face_Person} (f : g_face_Person h c x) : (List.range 4).map c = [.int .i64 x.Id, str x.Name, c 2, c 3] := by
  obtain ⟨h0, h1, h2, h3⟩ := f
  show [c 0, c 1, c 2, c 3] = _
  simp only [h0, h1]
theorem Yr {h : J3} {c : Nat → Value} {x : T_face_Person} (f : g_face_Person h c x) : gs_int h (fun j => c (2 + j)) x.Likes := by
  obtain ⟨h0, h1, h2, h3⟩ := f; exact h2
theorem Jat {h : J3} {c : Nat → Value} {x : T_face_Person} (f : g_face_Person h c x) : gs_int h (fun j => c (3 + j)) x.Nots := by
  obtain ⟨h0, h1, h2, h3⟩ := f; exact h3
def gs_string (h : J3) (c : Nat → Value) (x : (List (List UInt8))) : Prop := FrS h 1 (c 0) (x.map U7)
instance : Mon gs_string := ⟨fun k _ _ f => FrS.mono f k⟩
def g_sync_Shown (h : J3) (c : Nat → Value) (x : T_sync_Shown) : Prop := c 0 = .int .i64 x.Id ∧ c 1 = str x.File ∧ c 2 = .int .i64 x.Stars ∧ c 3 = str x.Caption ∧ c 4 = .bool x.Hidden ∧ gs_string h (fun j => c (5 + j)) x.Tags
instance : Mon g_sync_Shown := ⟨fun k _ _ f => by obtain ⟨h0, h1, h2, h3, h4, h5⟩ := f; exact ⟨h0, h1, h2, h3, h4, Mon.mono k _ _ h5⟩⟩
theorem cg_sync_Shown {h : J3} {c : Nat → Value} {x : T_sync_Shown} (f : g_sync_Shown h c x) : (List.range 6).map c = [.int .i64 x.Id, str x.File, .int .i64 x.Stars, str x.Caption, .bool x.Hidden, c 5] := by
  obtain ⟨h0, h1, h2, h3, h4, h5⟩ := f
  show [c 0, c 1, c 2, c 3, c 4, c 5] = _
  simp only [h0, h1, h2, h3, h4]
theorem g_sync_Shown_p5 {h : J3} {c : Nat → Value} {x : T_sync_Shown} (f : g_sync_Shown h c x) : gs_string h (fun j => c (5 + j)) x.Tags := by
  obtain ⟨h0, h1, h2, h3, h4, h5⟩ := f; exact h5
theorem run_eqT50 (d : Nat) (w : World) (a0 b0 : Int) (a1 b1 : Int) : (Op.equalIn (d + 2) 50 (.agg #[.int .i64 a0, .int .i64 a1]) (.agg #[.int .i64 b0, .int .i64 b1])).run Tryz.prog w = .ok (decide (a0 = b0 ∧ a1 = b1)) w := by
  rw [run_equalIn_struct w (d + 1) 50 _ _ (by simp only [Program.fieldsOf, Tryz.underlying50]) Tryz.stoodInHeld50]
  simp only [Program.fieldsOf, Tryz.underlying50, Op.eqFields]
  simp [part, run_equalIn_int, run_equalIn_strL, run_equalIn_bool', Tryz.underlying3]
  repeat' split
  all_goals simp_all
theorem run_eqT52 (d : Nat) (w : World) (a0 b0 : Int) (a1 b1 : Int) (a2 b2 : Int) (a3 b3 : Int) (a4 b4 : Int) (a5 b5 : (List UInt8)) (a6 b6 : Int) (a7 b7 : (List UInt8)) : (Op.equalIn (d + 3) 52 (.agg #[.int .i64 a0, .int .i64 a1, .int .i64 a2, .int .i64 a3, .int .i64 a4, str a5, .int .i64 a6, str a7]) (.agg #[.int .i64 b0, .int .i64 b1, .int .i64 b2, .int .i64 b3, .int .i64 b4, str b5, .int .i64 b6, str b7])).run Tryz.prog w = .ok (decide ((a0 = b0 ∧ a1 = b1) ∧ a2 = b2 ∧ a3 = b3 ∧ a4 = b4 ∧ a5 = b5 ∧ a6 = b6 ∧ a7 = b7)) w := by
  rw [run_equalIn_struct w (d + 2) 52 _ _ (by simp only [Program.fieldsOf, Tryz.underlying52]) Tryz.stoodInHeld52]
  simp only [Program.fieldsOf, Tryz.underlying52, Op.eqFields]
  simp [part, run_equalIn_int, run_equalIn_strL, run_equalIn_bool', Tryz.underlying3, Tryz.underlying9, Tryz.isAgg50, Tryz.sizeOf50, run_eqT50 _ w]
  repeat' split
  all_goals simp_all
theorem run_eq_sync_Fact (w : World) (x y : T_sync_Fact) : (Op.equalIn Op.maxDepth 52 (.agg #[.int .i64 x.Dot.Device, .int .i64 x.Dot.N, .int .i64 x.Time, .int .i64 x.Kind, .int .i64 x.Id, str x.Name, .int .i64 x.Num, str x.Text]) (.agg #[.int .i64 y.Dot.Device, .int .i64 y.Dot.N, .int .i64 y.Time, .int .i64 y.Kind, .int .i64 y.Id, str y.Name, .int .i64 y.Num, str y.Text])).run Tryz.prog w = .ok (Uv x y) w :=
  run_eqT52 9997 w _ _ _ _ _ _ _ _ _ _ _ _ _ _ _ _
theorem run_eq_sync_Knows (w : World) (x y : (Nat → Int)) : (Op.equalIn Op.maxDepth 64 (.agg #[.int .i64 (x 0), .int .i64 (x 1), .int .i64 (x 2), .int .i64 (x 3), .int .i64 (x 4), .int .i64 (x 5), .int .i64 (x 6), .int .i64 (x 7), .int .i64 (x 8), .int .i64 (x 9), .int .i64 (x 10), .int .i64 (x 11), .int .i64 (x 12), .int .i64 (x 13), .int .i64 (x 14), .int .i64 (x 15)]) (.agg #[.int .i64 (y 0), .int .i64 (y 1), .int .i64 (y 2), .int .i64 (y 3), .int .i64 (y 4), .int .i64 (y 5), .int .i64 (y 6), .int .i64 (y 7), .int .i64 (y 8), .int .i64 (y 9), .int .i64 (y 10), .int .i64 (y 11), .int .i64 (y 12), .int .i64 (y 13), .int .i64 (y 14), .int .i64 (y 15)])).run Tryz.prog w = .ok (Jaa x y) w :=
  run_eqInts (d := 9998) (len := 16) (k := .i64) (k' := .i64) ((List.range 16).map x) ((List.range 16).map y) (by simp) (by simp) Tryz.underlying64 Tryz.underlying3 Tryz.isAgg3 Tryz.sizeOf3 w
open Go.MapKept (IsKey) in
theorem keyG_T52 : KeyG Tryz.prog 52 (fun x_ : T_sync_Fact => .agg #[.int .i64 x_.Dot.Device, .int .i64 x_.Dot.N, .int .i64 x_.Time, .int .i64 x_.Kind, .int .i64 x_.Id, str x_.Name, .int .i64 x_.Num, str x_.Text]) where
  inj a b h := by
    obtain ⟨⟨a1, a2⟩, a3, a4, a5, a6, a7, a8⟩ := a; obtain ⟨⟨b1, b2⟩, b3, b4, b5, b6, b7, b8⟩ := b
    simp [str] at h
    simp_all
  chk k em w := by
    exact chk_struct Tryz.underlying52 (List.forall_mem_cons.2 ⟨⟨.agg #[.int .i64 k.Dot.Device, .int .i64 k.Dot.N], by simp [part, Tryz.isAgg50, Tryz.sizeOf50, str], chk_struct Tryz.underlying50 (List.forall_mem_cons.2 ⟨⟨.int .i64 k.Dot.Device, by simp [part, Tryz.isAgg3, str], Go.MapKept.run_checkKey Tryz.underlying3 (by simp [IsKey, str]) em _⟩, List.forall_mem_cons.2 ⟨⟨.int .i64 k.Dot.N, by simp [part, Tryz.isAgg3, str], Go.MapKept.run_checkKey Tryz.underlying3 (by simp [IsKey, str]) em _⟩, fun _ h => nomatch h⟩⟩)⟩, List.forall_mem_cons.2 ⟨⟨.int .i64 k.Time, by simp [part, Tryz.isAgg3, str], Go.MapKept.run_checkKey Tryz.underlying3 (by simp [IsKey, str]) em _⟩, List.forall_mem_cons.2 ⟨⟨.int .i64 k.Kind, by simp [part, Tryz.isAgg3, str], Go.MapKept.run_checkKey Tryz.underlying3 (by simp [IsKey, str]) em _⟩, List.forall_mem_cons.2 ⟨⟨.int .i64 k.Id, by simp [part, Tryz.isAgg3, str], Go.MapKept.run_checkKey Tryz.underlying3 (by simp [IsKey, str]) em _⟩, List.forall_mem_cons.2 ⟨⟨str k.Name, by simp [part, Tryz.isAgg9, str], Go.MapKept.run_checkKey Tryz.underlying9 (by simp [IsKey, str]) em _⟩, List.forall_mem_cons.2 ⟨⟨.int .i64 k.Num, by simp [part, Tryz.isAgg3, str], Go.MapKept.run_checkKey Tryz.underlying3 (by simp [IsKey, str]) em _⟩, List.forall_mem_cons.2 ⟨⟨str k.Text, by simp [part, Tryz.isAgg9, str], Go.MapKept.run_checkKey Tryz.underlying9 (by simp [IsKey, str]) em _⟩, fun _ h => nomatch h⟩⟩⟩⟩⟩⟩⟩)
  now := ⟨_, Tryz.underlying52, fun _ _ => rfl⟩
  eql a b w := by
    refine (run_eq_sync_Fact w a b).trans ?_
    congr 1
    unfold Uv
    rw [decide_eq_decide]
    obtain ⟨⟨a1, a2⟩, a3, a4, a5, a6, a7, a8⟩ := a; obtain ⟨⟨b1, b2⟩, b3, b4, b5, b6, b7, b8⟩ := b
    simp [and_assoc]
  bits k := by
    show Instr.sameBits (9999 + 1) _ _ = true
    simp [Instr.sameBits, str, Go.MapKept.bytes_beq]
theorem k24 {a0 : Int} {a1 : Int} {a2 : Int} {r : Bool} (H : Yg a0 a1 a2 = some r) : Ret Tryz.prog 24 [.int .i64 a0, .int .i64 a1, .int .i64 a2] (.bool r) := by
 refine Qc (n := 15) Tryz.func24 rfl rfl rfl (fun wd => ?_)
 refine Je ?_
 refine Jb ?_
 refine Ja rfl rfl rfl (Jc (v := .bool false) rfl) ?_
 refine Jf ?_
 refine Je ?_
 refine Jb ?_
 refine Ja rfl rfl rfl (Jd (v := .int .i64 a0) rfl) ?_
 refine Ja rfl rfl rfl (Jd (v := .int .i64 a1) rfl) ?_
 refine Ja rfl rfl rfl (Q1 rfl rfl) ?_
 refine Ja rfl rfl rfl (Jd (v := .bool (decide (a0 < a1))) rfl) ?_
 refine split (fun hb => ?_) (fun hb => ?_)
 ·have H3 := Jn hb H; clear H
  refine Ji rfl rfl rfl ?_
  refine Ji rfl rfl rfl ?_
  refine Ji rfl rfl rfl ?_
  refine Ja rfl rfl rfl (Jz (v := .bool true) rfl rfl) ?_
  refine Ja rfl rfl rfl (Jc (v := .bool true) rfl) ?_
  refine Jf ?_
  refine Jm ?_
  obtain rfl := Option.some.inj H3
  refine Jy (v := .bool true) rfl rfl (Xh rfl)
 ·have H4 := Jo hb H; clear H
  refine Ja rfl rfl rfl (Jd (v := .int .i64 a0) rfl) ?_
  refine Ja rfl rfl rfl (Jd (v := .int .i64 a2) rfl) ?_
  refine Ja rfl rfl rfl (Wz rfl rfl) ?_
  refine Ja rfl rfl rfl (Jw (v := .bool (decide (a2 < a0))) rfl rfl) ?_
  refine Ja rfl rfl rfl (Jc (v := .bool (decide (a2 < a0))) rfl) ?_
  refine Jf ?_
  refine Jm ?_
  obtain rfl := Option.some.inj H4
  refine Jy (v := .bool (decide (a2 < a0))) rfl rfl (Xh rfl)
theorem k110 {a0 : (List UInt8)} {a1 : Int} {r : (List UInt8)} (H : Wa a0 a1 = some r) : Ret Tryz.prog 110 [str a0, .int .u8 a1] (str r) := by
 refine Qc (n := 17) Tryz.func110 rfl rfl rfl (fun wd => ?_)
 refine Je ?_
 refine Jb ?_
 refine Ja rfl rfl rfl (Jc (v := str []) rfl) ?_
 refine Jf ?_
 refine Je ?_
 refine Ju ?_
 refine Yv (σ := (List UInt8)) (τ := Unit) (fun next1 s => Y8 a1 next1 s) (fun s t => [(0, str s), (1, .int .u8 a1)]) (fun s t => []) (fun s t => True) a0 () [] H (by exact trivial) (by exact ⟨rfl, rfl, trivial⟩) (by decide) rfl ?_
 rintro x0_2 _ m1 gg H8 _
 clear H
 replace H8 : Y8 a1 (it (fun next1 s => Y8 a1 next1 s) m1) x0_2 = some r := H8
 generalize hn1 : it (fun next1 s => Y8 a1 next1 s) m1 = next1 at H8
 try dsimp only
 refine Je ?_
 refine Je ?_
 refine Jb ?_
 refine Ja rfl rfl rfl (Jd (v := str x0_2) rfl) ?_
 refine Ja rfl rfl rfl (Wb Tryz.underlying9 rfl) ?_
 refine Ja rfl rfl rfl (Wz rfl rfl) ?_
 refine Ja rfl rfl rfl (Jd (v := .bool (decide (0 < (x0_2.length : Int)))) rfl) ?_
 refine split (fun hb => ?_) (fun hb => ?_)
 ·have H9 := Jn hb H8; clear H8
  refine Ja rfl rfl rfl (Jd (v := str x0_2) rfl) ?_
  obtain ⟨t10, h_t10, H10⟩ := Jh H9; clear H9
  refine Ja rfl rfl rfl (U5 Tryz.underlying9 rfl rfl h_t10) ?_
  refine Ja rfl rfl rfl (Jd (v := .int .u8 a1) rfl) ?_
  refine Ja rfl rfl rfl (Zp rfl rfl) ?_
  refine Ja rfl rfl rfl (Jz (v := .bool (decide (t10 = a1))) rfl rfl) ?_
  refine Jf ?_
  refine J5 (b := (decide (t10 = a1))) rfl (fun hb => ?_) (fun hb => ?_)
  ·have H11 := Jn hb H10; clear H10
   refine Jr ?_
   refine Ju ?_
   refine Jb ?_
   refine Ja rfl rfl rfl (Jd (v := str x0_2) rfl) ?_
   obtain ⟨t15, h_t15, H12⟩ := Jh H11; clear H11
   refine Ja rfl rfl rfl (r_cutFromG Tryz.underlying9 rfl rfl h_t15) ?_
   refine Ja rfl rfl rfl (Jc (v := str t15) rfl) ?_
   refine Jf ?_
   refine Jl t15 () m1 [] (by exact ⟨rfl, rfl, trivial⟩) (by decide) rfl (by exact ⟨(by subst hn1; exact H12), trivial⟩) (Nat.lt_succ_self _)
  ·have H13 := Jo hb H10; clear H10
   refine Qr ?_
   refine Je ?_
   refine Jb ?_
   refine Ja rfl rfl rfl (Jd (v := str x0_2) rfl) ?_
   refine Ja rfl rfl rfl (Jc (v := str x0_2) rfl) ?_
   refine Jf ?_
   refine Jm ?_
   obtain rfl := Option.some.inj H13
   refine Jy (v := str x0_2) rfl rfl (Xh rfl)
 ·have H14 := Jo hb H8; clear H8
  refine Ji rfl rfl rfl ?_
  refine Ji rfl rfl rfl ?_
  refine Ji rfl rfl rfl ?_
  refine Ji rfl rfl rfl ?_
  refine Ja rfl rfl rfl (Jw (v := .bool false) rfl rfl) ?_
  refine Jf ?_
  refine Wi rfl ?_
  refine Qr ?_
  refine Je ?_
  refine Jb ?_
  refine Ja rfl rfl rfl (Jd (v := str x0_2) rfl) ?_
  refine Ja rfl rfl rfl (Jc (v := str x0_2) rfl) ?_
  refine Jf ?_
  refine Jm ?_
  obtain rfl := Option.some.inj H14
  refine Jy (v := str x0_2) rfl rfl (Xh rfl)
theorem k111 {a0 : (List UInt8)} {a1 : Int} {r : (List UInt8)} (H : Vv a0 a1 = some r) : Ret Tryz.prog 111 [str a0, .int .u8 a1] (str r) := by
 refine Qc (n := 23) Tryz.func111 rfl rfl rfl (fun wd => ?_)
 refine Je ?_
 refine Jb ?_
 refine Ja rfl rfl rfl (Jc (v := str []) rfl) ?_
 refine Jf ?_
 refine Je ?_
 refine Ju ?_
 refine Yv (σ := (List UInt8)) (τ := Unit) (fun next1 s => Yz a1 next1 s) (fun s t => [(0, str s), (1, .int .u8 a1)]) (fun s t => []) (fun s t => True) a0 () [] H (by exact trivial) (by exact ⟨rfl, rfl, trivial⟩) (by decide) rfl ?_
 rintro x0_2 _ m1 gg H10 _
 clear H
 replace H10 : Yz a1 (it (fun next1 s => Yz a1 next1 s) m1) x0_2 = some r := H10
 generalize hn1 : it (fun next1 s => Yz a1 next1 s) m1 = next1 at H10
 try dsimp only
 refine Je ?_
 refine Je ?_
 refine Jb ?_
 refine Ja rfl rfl rfl (Jd (v := str x0_2) rfl) ?_
 refine Ja rfl rfl rfl (Wb Tryz.underlying9 rfl) ?_
 refine Ja rfl rfl rfl (Wz rfl rfl) ?_
 refine Ja rfl rfl rfl (Jd (v := .bool (decide (0 < (x0_2.length : Int)))) rfl) ?_
 refine split (fun hb => ?_) (fun hb => ?_)
 ·have H11 := Jn hb H10; clear H10
  refine Ja rfl rfl rfl (Jd (v := str x0_2) rfl) ?_
  refine Ja rfl rfl rfl (Jd (v := str x0_2) rfl) ?_
  refine Ja rfl rfl rfl (Wb Tryz.underlying9 rfl) ?_
  obtain ⟨t12, h_t12, H12⟩ := Jh H11; clear H11
  refine Ja rfl rfl rfl (U6 rfl rfl h_t12) ?_
  obtain ⟨t13, h_t13, H13⟩ := Jh H12; clear H12
  refine Ja rfl rfl rfl (U5 Tryz.underlying9 rfl rfl h_t13) ?_
  refine Ja rfl rfl rfl (Jd (v := .int .u8 a1) rfl) ?_
  refine Ja rfl rfl rfl (Zp rfl rfl) ?_
  refine Ja rfl rfl rfl (Jz (v := .bool (decide (t13 = a1))) rfl rfl) ?_
  refine Jf ?_
  refine J5 (b := (decide (t13 = a1))) rfl (fun hb => ?_) (fun hb => ?_)
  ·have H14 := Jn hb H13; clear H13
   refine Jr ?_
   refine Ju ?_
   refine Jb ?_
   refine Ja rfl rfl rfl (Jd (v := str x0_2) rfl) ?_
   refine Ja rfl rfl rfl (Jd (v := str x0_2) rfl) ?_
   refine Ja rfl rfl rfl (Wb Tryz.underlying9 rfl) ?_
   obtain ⟨t20, h_t20, H15⟩ := Jh H14; clear H14
   refine Ja rfl rfl rfl (U6 rfl rfl h_t20) ?_
   obtain ⟨t21, h_t21, H16⟩ := Jh H15; clear H15
   refine Ja rfl rfl rfl (r_cutToG Tryz.underlying9 rfl rfl h_t21) ?_
   refine Ja rfl rfl rfl (Jc (v := str t21) rfl) ?_
   refine Jf ?_
   refine Jl t21 () m1 [] (by exact ⟨rfl, rfl, trivial⟩) (by decide) rfl (by exact ⟨(by subst hn1; exact H16), trivial⟩) (Nat.lt_succ_self _)
  ·have H17 := Jo hb H13; clear H13
   refine Qr ?_
   refine Je ?_
   refine Jb ?_
   refine Ja rfl rfl rfl (Jd (v := str x0_2) rfl) ?_
   refine Ja rfl rfl rfl (Jc (v := str x0_2) rfl) ?_
   refine Jf ?_
   refine Jm ?_
   obtain rfl := Option.some.inj H17
   refine Jy (v := str x0_2) rfl rfl (Xh rfl)
 ·have H18 := Jo hb H10; clear H10
  refine Ji rfl rfl rfl ?_
  refine Ji rfl rfl rfl ?_
  refine Ji rfl rfl rfl ?_
  refine Ji rfl rfl rfl ?_
  refine Ji rfl rfl rfl ?_
  refine Ji rfl rfl rfl ?_
  refine Ji rfl rfl rfl ?_
  refine Ja rfl rfl rfl (Jw (v := .bool false) rfl rfl) ?_
  refine Jf ?_
  refine Wi rfl ?_
  refine Qr ?_
  refine Je ?_
  refine Jb ?_
  refine Ja rfl rfl rfl (Jd (v := str x0_2) rfl) ?_
  refine Ja rfl rfl rfl (Jc (v := str x0_2) rfl) ?_
  refine Jf ?_
  refine Jm ?_
  obtain rfl := Option.some.inj H18
  refine Jy (v := str x0_2) rfl rfl (Xh rfl)
theorem k112 {a0 : (List UInt8)} {r : (Nat → Bool) × Bool} (H : V5 a0 = some r) : Ret Tryz.prog 112 [str a0] (.tuple #[.agg (List.toArray (W9 256 (fun j_ => [.bool (r.1 j_)]))), .bool r.2]) := by
 refine Qc (n := 21) Tryz.func112 rfl rfl rfl (fun wd => ?_)
 refine Je ?_
 refine Jb ?_
 refine Zo (cs := (W9 256 (fun j_ => [.bool ((fun _ => false) j_)]))) Tryz.zeroValue144 (by kernel_rfl) rfl rfl (fun b1 => ?_)
 refine Ja rfl rfl rfl (Jc (v := .bool false) rfl) ?_
 refine Jf ?_
 refine Xi (r := r) (σ := (Nat → Bool)) (τ := Unit) (fun s => Ws s) (fun s t => [(2, .pointer (some ⟨b1, 0, none⟩))]) (fun s t => [Jp b1 (W9 256 (fun j_ => [.bool (s j_)])) 144]) (fun s t => True) ?_ ?_
 ·refine Je ?_
  refine Jb ?_
  refine Ja rfl rfl rfl (Jc (v := .int .i64 0) rfl) ?_
  refine Jf ?_
  refine Ju ?_
  refine Yv (σ := Int × (Nat → Bool)) (τ := Unit) (fun next2 s => Ql a0 next2 s.1 s.2) (fun s t => [(0, str a0), (2, .pointer (some ⟨b1, 0, none⟩)), (4, .int .i64 s.1)]) (fun s t => [Jp b1 (W9 256 (fun j_ => [.bool (s.2 j_)])) 144]) (fun s t => True) (0, (fun _ => false)) () [0] H (by exact trivial) (by exact ⟨rfl, rfl, rfl, trivial⟩) (by decide) rfl ?_
  rintro ⟨x4_2, m_3⟩ _ m2 gg H11 _
  clear H
  replace H11 : Ql a0 (it (fun next2 s => Ql a0 next2 s.1 s.2) m2) x4_2 m_3 = some r := H11
  generalize hn2 : it (fun next2 s => Ql a0 next2 s.1 s.2) m2 = next2 at H11
  try dsimp only
  refine Je ?_
  refine Je ?_
  refine Jb ?_
  refine Ja rfl rfl rfl (Jd (v := .int .i64 x4_2) rfl) ?_
  refine Ja rfl rfl rfl (Jd (v := str a0) rfl) ?_
  refine Ja rfl rfl rfl (Wb Tryz.underlying9 rfl) ?_
  refine Ja rfl rfl rfl (Q1 rfl rfl) ?_
  refine Jf ?_
  refine J5 (b := (decide (x4_2 < (a0.length : Int)))) rfl (fun hb => ?_) (fun hb => ?_)
  ·have H12 := Jn hb H11; clear H11
   refine Jr ?_
   refine Je ?_
   refine Ju ?_
   refine Je ?_
   refine Jb ?_
   refine Ja rfl rfl rfl (Jd (v := str a0) rfl) ?_
   refine Ja rfl rfl rfl (Jd (v := .int .i64 x4_2) rfl) ?_
   obtain ⟨t14, h_t14, H13⟩ := Jh H12; clear H12
   refine Ja rfl rfl rfl (U5 Tryz.underlying9 rfl rfl h_t14) ?_
   refine Ja rfl rfl rfl (Jc (v := .int .u8 t14) rfl) ?_
   refine Jf ?_
   refine Je ?_
   refine Je ?_
   refine Jb ?_
   refine Ja rfl rfl rfl (Jd (v := .int .u8 t14) rfl) ?_
   refine Ja rfl rfl rfl (r_geq rfl rfl) ?_
   refine Jf ?_
   refine J5 (b := (decide (128 ≤ t14))) rfl (fun hb => ?_) (fun hb => ?_)
   ·have H14 := Jn hb H13; clear H13
    refine Je ?_
    refine Jb ?_
    refine Y2 (i := 0) (vs := (W9 256 (fun j_ => [.bool (m_3 j_)]))) Tryz.isAgg144 Tryz.sizeOf144 rfl rfl rfl rfl (rd_whole (Wm (fun _ => rfl))) ?_
    refine X3 (i := 0) (vs := (W9 256 (fun j_ => [.bool (m_3 j_)]))) (cs' := (W9 256 (fun j_ => [.bool (m_3 j_)]))) Tryz.sizeOf144 rfl rfl rfl rfl (Wm (fun _ => rfl)) rfl (arrC_one (fun _ => rfl)) rfl (wr_whole ((Wm (fun _ => rfl)).trans (Wm (fun _ => rfl)).symm)) ?_
    refine Ja rfl rfl rfl (Jc (v := .bool false) rfl) ?_
    refine Jf ?_
    refine Jm ?_
    obtain rfl := Option.some.inj H14
    refine retCt (i := 0) (vs := (W9 256 (fun j_ => [.bool (m_3 j_)]))) (v2 := .bool false) Tryz.isAgg144 Tryz.sizeOf144 rfl rfl rfl (rd_whole (Wm (fun _ => rfl))) rfl (Xh rfl)
   ·have H15 := Jo hb H13; clear H13
    refine Jr ?_
    refine Jb ?_
    refine Ja rfl rfl rfl (Jd (v := .int .u8 t14) rfl) ?_
    obtain ⟨k19, h_k19, H16⟩ := Jh H15; clear H15
    refine Ja rfl rfl rfl (Jaj Tryz.runUnderlying144 Tryz.sizeOf4 rfl rfl h_k19) ?_
    refine X3 (i := 0) (vs := [.bool true]) (cs' := (W9 256 (fun j_ => [.bool ((Xe m_3 k19 true) j_)]))) Tryz.sizeOf4 rfl rfl rfl rfl rfl rfl rfl rfl (wr_arr (pre := []) (post := []) (f := fun (j_ : Bool) => [.bool j_]) (n := 256) (sz := 1) (a := m_3) (x := true) (arr_whole _ _) rfl (fun _ => rfl) (gIx_lt h_k19) rfl (arr_whole _ _)) ?_
    refine Jf ?_
    refine Jb ?_
    refine Ja rfl rfl rfl (Jd (v := .int .i64 x4_2) rfl) ?_
    obtain ⟨t11, h_t11, H17⟩ := Jh H16; clear H16
    refine Ja rfl rfl rfl (Q2 rfl rfl h_t11) ?_
    refine Ja rfl rfl rfl (Jc (v := .int .i64 t11) rfl) ?_
    refine Jf ?_
    refine Jl (t11, (Xe m_3 k19 true)) () m2 [0] (by exact ⟨rfl, rfl, rfl, trivial⟩) (by decide) rfl (by exact ⟨(by subst hn2; exact H17), trivial⟩) (Nat.lt_succ_self _)
  ·have H18 := Jo hb H11; clear H11
   refine Qr ?_
   refine Jl m_3 () 0 [0] (by exact ⟨rfl, trivial⟩) (by decide) rfl (by exact ⟨H18, trivial⟩) (Nat.lt_succ_self _)
 ·rintro m _ gg H10 _
  replace H10 : Ws m = some r := H10
  try dsimp only
  refine Je ?_
  refine Jb ?_
  refine Y2 (i := 0) (vs := (W9 256 (fun j_ => [.bool (m j_)]))) Tryz.isAgg144 Tryz.sizeOf144 rfl rfl rfl rfl (rd_whole (Wm (fun _ => rfl))) ?_
  refine X3 (i := 0) (vs := (W9 256 (fun j_ => [.bool (m j_)]))) (cs' := (W9 256 (fun j_ => [.bool (m j_)]))) Tryz.sizeOf144 rfl rfl rfl rfl (Wm (fun _ => rfl)) rfl (arrC_one (fun _ => rfl)) rfl (wr_whole ((Wm (fun _ => rfl)).trans (Wm (fun _ => rfl)).symm)) ?_
  refine Ja rfl rfl rfl (Jc (v := .bool true) rfl) ?_
  refine Jf ?_
  refine Jm ?_
  obtain rfl := Option.some.inj H10
  refine retCt (i := 0) (vs := (W9 256 (fun j_ => [.bool (m j_)]))) (v2 := .bool true) Tryz.isAgg144 Tryz.sizeOf144 rfl rfl rfl (rd_whole (Wm (fun _ => rfl))) rfl (Xh rfl)
theorem k125 {a0 : (Nat → Bool)} {pb0 : Nat} {a1 : Int} {r : Bool × (Nat → Bool)} {w : World} {h : J3} {S : Nat → Prop} (hcs : (Jp pb0 (W9 256 (fun j_ => [.bool (a0 j_)])) 144).P S w) (hlt : ∀ b, S b → b < w.heap.size) (hw : Know h w S) (H : Yw a0 a1 = some r) : Does Tryz.prog 125 (List.toArray [.pointer (some ⟨pb0, 0, none⟩), .int .u8 a1]) w (fun v w' => ∃ x : Unit, v = (.bool r.1) ∧ Turn w w' S (Jp pb0 (W9 256 (fun j_ => [.bool (r.2 j_)])) 144)) := by
 refine enter (n := 10) Tryz.func125 rfl rfl rfl S [Jp pb0 (W9 256 (fun j_ => [.bool (a0 j_)])) 144] (Sat.one hcs hlt) ?_
 refine Je ?_
 refine Jb ?_
 refine Ja rfl rfl rfl (Jc (v := .bool false) rfl) ?_
 refine Jf ?_
 refine Je ?_
 refine Jb ?_
 refine Ja rfl rfl rfl (Jd (v := .pointer (some ⟨pb0, 0, none⟩)) rfl) ?_
 refine Ja rfl rfl rfl (Jd (v := .int .u8 a1) rfl) ?_
 refine Ja rfl rfl rfl (Qk rfl) ?_
 obtain ⟨k8, h_k8, H2⟩ := Jh H; clear H
 refine Ja rfl rfl rfl (Jaj Tryz.runUnderlying144 Tryz.sizeOf4 rfl rfl h_k8) ?_
 refine J0 (i := 0) (v := .bool (a0 k8)) Tryz.isAgg4 rfl rfl rfl rfl (rg_arr (pre := []) (post := []) (f := fun j_ => [.bool (a0 j_)]) (n := 256) (sz := 1) (q := 0) (arr_whole _ _) rfl (fun _ => rfl) (gIx_lt h_k8) rfl) ?_
 refine Ja rfl rfl rfl (Jc (v := .bool (a0 k8)) rfl) ?_
 refine Jf ?_
 refine Jm ?_
 obtain rfl := Option.some.inj H2
 refine Jy (v := .bool (a0 k8)) rfl rfl (W6 () (i := 0) rfl rfl (Imp.refl _))
theorem k113 {a0 : (List UInt8)} {a1 : (Nat → Bool)} {pb1 : Nat} {r : (List UInt8) × (Nat → Bool)} {w : World} {h : J3} {S : Nat → Prop} (hcs : (Jp pb1 (W9 256 (fun j_ => [.bool (a1 j_)])) 144).P S w) (hlt : ∀ b, S b → b < w.heap.size) (hw : Know h w S) (H : Vu a0 a1 = some r) : Does Tryz.prog 113 (List.toArray [str a0, .pointer (some ⟨pb1, 0, none⟩)]) w (fun v w' => ∃ x : Unit, v = (str r.1) ∧ Turn w w' S (Jp pb1 (W9 256 (fun j_ => [.bool (r.2 j_)])) 144)) := by
 refine enter (n := 16) Tryz.func113 rfl rfl rfl S [Jp pb1 (W9 256 (fun j_ => [.bool (a1 j_)])) 144] (Sat.one hcs hlt) ?_
 refine Je ?_
 refine Jb ?_
 refine Ja rfl rfl rfl (Jc (v := str []) rfl) ?_
 refine Jf ?_
 refine Je ?_
 refine Ju ?_
 refine Yv (σ := (List UInt8) × (Nat → Bool)) (τ := Unit) (fun next1 s => Xn next1 s.1 s.2) (fun s t => [(0, str s.1), (1, .pointer (some ⟨pb1, 0, none⟩))]) (fun s t => [Jp pb1 (W9 256 (fun j_ => [.bool (s.2 j_)])) 144]) (fun s t => True) (a0, a1) () [0] H (by exact trivial) (by exact ⟨rfl, rfl, trivial⟩) (by decide) rfl ?_
 rintro ⟨x0_2, m_2⟩ _ m1 gg H9 _
 clear H
 replace H9 : Xn (it (fun next1 s => Xn next1 s.1 s.2) m1) x0_2 m_2 = some r := H9
 generalize hn1 : it (fun next1 s => Xn next1 s.1 s.2) m1 = next1 at H9
 try dsimp only
 refine Je ?_
 refine Je ?_
 refine Jb ?_
 refine Ja rfl rfl rfl (Jd (v := str x0_2) rfl) ?_
 refine Ja rfl rfl rfl (Wb Tryz.underlying9 rfl) ?_
 refine Ja rfl rfl rfl (Wz rfl rfl) ?_
 refine Jf ?_
 refine J5 (b := (decide (0 < (x0_2.length : Int)))) rfl (fun hb => ?_) (fun hb => ?_)
 ·have H10 := Jn hb H9; clear H9
  refine Jr ?_
  refine Ju ?_
  refine Je ?_
  refine Je ?_
  refine Jb ?_
  refine Ja rfl rfl rfl (Jd (v := .pointer (some ⟨pb1, 0, none⟩)) rfl) ?_
  refine Ja rfl rfl rfl (Jd (v := str x0_2) rfl) ?_
  obtain ⟨t10, h_t10, H11⟩ := Jh H10; clear H10
  refine Ja rfl rfl rfl (U5 Tryz.underlying9 rfl rfl h_t10) ?_
  obtain ⟨t11, h_t11, H12⟩ := Jh H11; clear H11
  refine Yl (Q7 (i := 0) (rds := []) (G := fun x : Unit => .bool t11.1) (C := fun x : Unit => Jp pb1 (W9 256 (fun j_ => [.bool (t11.2 j_)])) 144) rfl (fun w L' S hF hS hi hp hlt ho hA => k125 hp hlt (Y0 w S)  h_t11) Tryz.call125 rfl) rfl rfl rfl (fun _ => ?_)
  refine Ja rfl rfl rfl (Vt rfl) ?_
  refine Jf ?_
  refine J5 (b := (!t11.1)) rfl (fun hb => ?_) (fun hb => ?_)
  ·have H13 := Jn hb H12; clear H12
   refine Qr ?_
   refine Je ?_
   refine Jb ?_
   refine Ja rfl rfl rfl (Jd (v := str x0_2) rfl) ?_
   refine Ja rfl rfl rfl (Jc (v := str x0_2) rfl) ?_
   refine Jf ?_
   refine Jm ?_
   obtain rfl := Option.some.inj H13
   refine Jy (v := str x0_2) rfl rfl (W6 () (i := 0) rfl rfl (Imp.refl _))
  ·have H14 := Jo hb H12; clear H12
   refine Jr ?_
   refine Jb ?_
   refine Ja rfl rfl rfl (Jd (v := str x0_2) rfl) ?_
   obtain ⟨t14, h_t14, H15⟩ := Jh H14; clear H14
   refine Ja rfl rfl rfl (r_cutFromG Tryz.underlying9 rfl rfl h_t14) ?_
   refine Ja rfl rfl rfl (Jc (v := str t14) rfl) ?_
   refine Jf ?_
   refine Jl (t14, t11.2) () m1 [0] (by exact ⟨rfl, rfl, trivial⟩) (by decide) rfl (by exact ⟨(by subst hn1; exact H15), trivial⟩) (Nat.lt_succ_self _)
 ·have H16 := Jo hb H9; clear H9
  refine Qr ?_
  refine Je ?_
  refine Jb ?_
  refine Ja rfl rfl rfl (Jd (v := str x0_2) rfl) ?_
  refine Ja rfl rfl rfl (Jc (v := str x0_2) rfl) ?_
  refine Jf ?_
  refine Jm ?_
  obtain rfl := Option.some.inj H16
  refine Jy (v := str x0_2) rfl rfl (W6 () (i := 0) rfl rfl (Imp.refl _))
theorem k114 {a0 : (List UInt8)} {a1 : (Nat → Bool)} {pb1 : Nat} {r : (List UInt8) × (Nat → Bool)} {w : World} {h : J3} {S : Nat → Prop} (hcs : (Jp pb1 (W9 256 (fun j_ => [.bool (a1 j_)])) 144).P S w) (hlt : ∀ b, S b → b < w.heap.size) (hw : Know h w S) (H : Vf a0 a1 = some r) : Does Tryz.prog 114 (List.toArray [str a0, .pointer (some ⟨pb1, 0, none⟩)]) w (fun v w' => ∃ x : Unit, v = (str r.1) ∧ Turn w w' S (Jp pb1 (W9 256 (fun j_ => [.bool (r.2 j_)])) 144)) := by
 refine enter (n := 22) Tryz.func114 rfl rfl rfl S [Jp pb1 (W9 256 (fun j_ => [.bool (a1 j_)])) 144] (Sat.one hcs hlt) ?_
 refine Je ?_
 refine Jb ?_
 refine Ja rfl rfl rfl (Jc (v := str []) rfl) ?_
 refine Jf ?_
 refine Je ?_
 refine Ju ?_
 refine Yv (σ := (List UInt8) × (Nat → Bool)) (τ := Unit) (fun next1 s => Xj next1 s.1 s.2) (fun s t => [(0, str s.1), (1, .pointer (some ⟨pb1, 0, none⟩))]) (fun s t => [Jp pb1 (W9 256 (fun j_ => [.bool (s.2 j_)])) 144]) (fun s t => True) (a0, a1) () [0] H (by exact trivial) (by exact ⟨rfl, rfl, trivial⟩) (by decide) rfl ?_
 rintro ⟨x0_2, m_2⟩ _ m1 gg H11 _
 clear H
 replace H11 : Xj (it (fun next1 s => Xj next1 s.1 s.2) m1) x0_2 m_2 = some r := H11
 generalize hn1 : it (fun next1 s => Xj next1 s.1 s.2) m1 = next1 at H11
 try dsimp only
 refine Je ?_
 refine Je ?_
 refine Jb ?_
 refine Ja rfl rfl rfl (Jd (v := str x0_2) rfl) ?_
 refine Ja rfl rfl rfl (Wb Tryz.underlying9 rfl) ?_
 refine Ja rfl rfl rfl (Wz rfl rfl) ?_
 refine Jf ?_
 refine J5 (b := (decide (0 < (x0_2.length : Int)))) rfl (fun hb => ?_) (fun hb => ?_)
 ·have H12 := Jn hb H11; clear H11
  refine Jr ?_
  refine Ju ?_
  refine Je ?_
  refine Je ?_
  refine Jb ?_
  refine Ja rfl rfl rfl (Jd (v := .pointer (some ⟨pb1, 0, none⟩)) rfl) ?_
  refine Ja rfl rfl rfl (Jd (v := str x0_2) rfl) ?_
  refine Ja rfl rfl rfl (Jd (v := str x0_2) rfl) ?_
  refine Ja rfl rfl rfl (Wb Tryz.underlying9 rfl) ?_
  obtain ⟨t12, h_t12, H13⟩ := Jh H12; clear H12
  refine Ja rfl rfl rfl (U6 rfl rfl h_t12) ?_
  obtain ⟨t13, h_t13, H14⟩ := Jh H13; clear H13
  refine Ja rfl rfl rfl (U5 Tryz.underlying9 rfl rfl h_t13) ?_
  obtain ⟨t14, h_t14, H15⟩ := Jh H14; clear H14
  refine Yl (Q7 (i := 0) (rds := []) (G := fun x : Unit => .bool t14.1) (C := fun x : Unit => Jp pb1 (W9 256 (fun j_ => [.bool (t14.2 j_)])) 144) rfl (fun w L' S hF hS hi hp hlt ho hA => k125 hp hlt (Y0 w S)  h_t14) Tryz.call125 rfl) rfl rfl rfl (fun _ => ?_)
  refine Ja rfl rfl rfl (Vt rfl) ?_
  refine Jf ?_
  refine J5 (b := (!t14.1)) rfl (fun hb => ?_) (fun hb => ?_)
  ·have H16 := Jn hb H15; clear H15
   refine Qr ?_
   refine Je ?_
   refine Jb ?_
   refine Ja rfl rfl rfl (Jd (v := str x0_2) rfl) ?_
   refine Ja rfl rfl rfl (Jc (v := str x0_2) rfl) ?_
   refine Jf ?_
   refine Jm ?_
   obtain rfl := Option.some.inj H16
   refine Jy (v := str x0_2) rfl rfl (W6 () (i := 0) rfl rfl (Imp.refl _))
  ·have H17 := Jo hb H15; clear H15
   refine Jr ?_
   refine Jb ?_
   refine Ja rfl rfl rfl (Jd (v := str x0_2) rfl) ?_
   refine Ja rfl rfl rfl (Jd (v := str x0_2) rfl) ?_
   refine Ja rfl rfl rfl (Wb Tryz.underlying9 rfl) ?_
   obtain ⟨t19, h_t19, H18⟩ := Jh H17; clear H17
   refine Ja rfl rfl rfl (U6 rfl rfl h_t19) ?_
   obtain ⟨t20, h_t20, H19⟩ := Jh H18; clear H18
   refine Ja rfl rfl rfl (r_cutToG Tryz.underlying9 rfl rfl h_t20) ?_
   refine Ja rfl rfl rfl (Jc (v := str t20) rfl) ?_
   refine Jf ?_
   refine Jl (t20, t14.2) () m1 [0] (by exact ⟨rfl, rfl, trivial⟩) (by decide) rfl (by exact ⟨(by subst hn1; exact H19), trivial⟩) (Nat.lt_succ_self _)
 ·have H20 := Jo hb H11; clear H11
  refine Qr ?_
  refine Je ?_
  refine Jb ?_
  refine Ja rfl rfl rfl (Jd (v := str x0_2) rfl) ?_
  refine Ja rfl rfl rfl (Jc (v := str x0_2) rfl) ?_
  refine Jf ?_
  refine Jm ?_
  obtain rfl := Option.some.inj H20
  refine Jy (v := str x0_2) rfl rfl (W6 () (i := 0) rfl rfl (Imp.refl _))
theorem k131 {a0 : (List UInt8)} {r : Int × Int} (H : Vl a0 = some r) : Ret Tryz.prog 131 [str a0] (.tuple #[.int .i32 r.1, .int .i64 r.2]) := by
 refine Qc (n := 117) Tryz.func131 rfl rfl rfl (fun wd => ?_)
 refine Je ?_
 refine Jb ?_
 refine Ja rfl rfl rfl (Jc (v := .int .i32 0) rfl) ?_
 refine Ja rfl rfl rfl (Jc (v := .int .i64 0) rfl) ?_
 refine Jf ?_
 refine Je ?_
 refine Jb ?_
 refine Ja rfl rfl rfl (Jd (v := str a0) rfl) ?_
 refine Ja rfl rfl rfl (Wb Tryz.underlying9 rfl) ?_
 refine Ja rfl rfl rfl (Jc (v := .int .i64 (a0.length : Int)) rfl) ?_
 refine Jf ?_
 refine Je ?_
 refine Je ?_
 refine Jb ?_
 refine Ja rfl rfl rfl (Jd (v := .int .i64 (a0.length : Int)) rfl) ?_
 refine Ja rfl rfl rfl (Q1 rfl rfl) ?_
 refine Jf ?_
 refine J5 (b := (decide ((a0.length : Int) < 1))) rfl (fun hb => ?_) (fun hb => ?_)
 ·have H3 := Jn hb H; clear H
  refine Je ?_
  refine Jb ?_
  refine Ja rfl rfl rfl (Jc (v := .int .i32 65533) rfl) ?_
  refine Ja rfl rfl rfl (Jc (v := .int .i64 0) rfl) ?_
  refine Jf ?_
  refine Jm ?_
  obtain rfl := Option.some.inj H3
  refine ret2 (v1 := .int .i32 65533) (v2 := .int .i64 0) rfl rfl rfl (Xh rfl)
 ·have H4 := Jo hb H; clear H
  exact absurd (show (none : Option (Int × Int)) = some r from H4) (fun h => by cases h)
theorem k126 {a0 : (List UInt8)} {r : Int × Int} (H : Zm a0 = some r) : Ret Tryz.prog 126 [str a0] (.tuple #[.int .i32 r.1, .int .i64 r.2]) := by
 refine Qc (n := 19) Tryz.func126 rfl rfl rfl (fun wd => ?_)
 refine Je ?_
 refine Jb ?_
 refine Ja rfl rfl rfl (Jc (v := .int .i32 0) rfl) ?_
 refine Ja rfl rfl rfl (Jc (v := .int .i64 0) rfl) ?_
 refine Jf ?_
 refine Je ?_
 refine Xi (r := r) (σ := Bool) (τ := Unit) (fun s => X2 a0 s) (fun s t => [(0, str a0), (10, .bool s)]) (fun s t => []) (fun s t => True) ?_ ?_
 ·refine Jb ?_
  refine Ja rfl rfl rfl (Jd (v := str a0) rfl) ?_
  refine Ja rfl rfl rfl (r_neqT rfl rfl) ?_
  refine Ja rfl rfl rfl (Jd (v := .bool (decide (a0 ≠ []))) rfl) ?_
  refine split (fun hb => ?_) (fun hb => ?_)
  ·have H16 := Jn hb H; clear H
   refine Ja rfl rfl rfl (Jd (v := str a0) rfl) ?_
   obtain ⟨t8, h_t8, H17⟩ := Jh H16; clear H16
   refine Ja rfl rfl rfl (U5 Tryz.underlying9 rfl rfl h_t8) ?_
   refine Ja rfl rfl rfl (Q1 rfl rfl) ?_
   refine Ja rfl rfl rfl (Jz (v := .bool (decide (t8 < 128))) rfl rfl) ?_
   refine Jf ?_
   refine Jl (decide (t8 < 128)) () 0 [] (by exact ⟨rfl, rfl, trivial⟩) (by decide) rfl (by exact ⟨H17, trivial⟩) (Nat.lt_succ_self _)
  ·have H18 := Jo hb H; clear H
   refine Ji rfl rfl rfl ?_
   refine Ji rfl rfl rfl ?_
   refine Ji rfl rfl rfl ?_
   refine Ja rfl rfl rfl (Jw (v := .bool false) rfl rfl) ?_
   refine Jf ?_
   refine Jl false () 0 [] (by exact ⟨rfl, rfl, trivial⟩) (by decide) rfl (by exact ⟨H18, trivial⟩) (Nat.lt_succ_self _)
 ·rintro x10 _ gg H10 _
  replace H10 : X2 a0 x10 = some r := H10
  try dsimp only
  refine J5 (b := x10) rfl (fun hb => ?_) (fun hb => ?_)
  ·have H11 := Jn hb H10; clear H10
   refine Je ?_
   refine Jb ?_
   refine Ja rfl rfl rfl (Jd (v := str a0) rfl) ?_
   obtain ⟨t12, h_t12, H12⟩ := Jh H11; clear H11
   refine Ja rfl rfl rfl (U5 Tryz.underlying9 rfl rfl h_t12) ?_
   obtain ⟨t13, h_t13, H13⟩ := Jh H12; clear H12
   refine Ja rfl rfl rfl (r_convG Tryz.runUnderlying5 Tryz.runUnderlying21 rfl (gK_i32 h_t13)) ?_
   refine Ja rfl rfl rfl (Jc (v := .int .i32 t13) rfl) ?_
   refine Ja rfl rfl rfl (Jc (v := .int .i64 1) rfl) ?_
   refine Jf ?_
   refine Jm ?_
   obtain rfl := Option.some.inj H13
   refine ret2 (v1 := .int .i32 t13) (v2 := .int .i64 1) rfl rfl rfl (Xh rfl)
  ·have H14 := Jo hb H10; clear H10
   refine Jb ?_
   refine Ja rfl rfl rfl (Jd (v := str a0) rfl) ?_
   obtain ⟨t16, h_t16, H15⟩ := Jh H14; clear H14
   refine Qu (k131 h_t16) Tryz.call131 rfl rfl rfl ?_
   refine Ja rfl rfl rfl (Jd (v := .tuple #[.int .i32 t16.1, .int .i64 t16.2]) rfl) ?_
   refine Ja rfl rfl rfl (Qz (v := .int .i32 t16.1) rfl rfl) ?_
   refine Ja rfl rfl rfl (Qz (v := .int .i64 t16.2) rfl rfl) ?_
   refine Ja rfl rfl rfl (Jc (v := .int .i32 t16.1) rfl) ?_
   refine Ja rfl rfl rfl (Jc (v := .int .i64 t16.2) rfl) ?_
   refine Jf ?_
   refine Jm ?_
   obtain rfl := Option.some.inj H15
   refine ret2 (v1 := .int .i32 t16.1) (v2 := .int .i64 t16.2) rfl rfl rfl (Xh rfl)
theorem ext139 (s : List UInt8) (c r : Int) (h : gIxB s c = some r) (w : World) : (callFunc 139 (List.toArray [str s, .int .u8 c])).run Tryz.prog w = .ok (.value (.int .i64 r)) w := by
  have h0 : (callFunc 139 #[str s, .int .u8 c]).run Tryz.prog w = (do pure (.value (← Extern.BytealgIndexByte.indexByte #[str s, .int .u8 c])) : Sem Next).run Tryz.prog w := by kernel_rfl
  rw [h0]
  simp only [Sem.run_bind, Go.Lx.run_ixB h, Result.andThen_ok, Sem.run_pure]
theorem k138 {a0 : (List UInt8)} {a1 : Int} {r : Int} (H : Wq a0 a1 = some r) : Ret Tryz.prog 138 [str a0, .int .u8 a1] (.int .i64 r) := by
 refine Qc (n := 8) Tryz.func138 rfl rfl rfl (fun wd => ?_)
 refine Je ?_
 refine Jb ?_
 refine Ja rfl rfl rfl (Jc (v := .int .i64 0) rfl) ?_
 refine Jf ?_
 refine Je ?_
 refine Jb ?_
 refine Ja rfl rfl rfl (Jd (v := str a0) rfl) ?_
 refine Ja rfl rfl rfl (Jd (v := .int .u8 a1) rfl) ?_
 obtain ⟨t7, h_t7, H2⟩ := Jh H; clear H
 refine Ja rfl rfl rfl (r_ext (args := [str a0, .int .u8 a1]) (ext139 _ _ _ h_t7) rfl) ?_
 refine Ja rfl rfl rfl (Jc (v := .int .i64 t7) rfl) ?_
 refine Jf ?_
 refine Jm ?_
 obtain rfl := Option.some.inj H2
 refine Jy (v := .int .i64 t7) rfl rfl (Xh rfl)
theorem k134 {a0 : (List UInt8)} {a1 : Int} {r : Int} (H : strings_IndexByte a0 a1 = some r) : Ret Tryz.prog 134 [str a0, .int .u8 a1] (.int .i64 r) := by
 refine Qc (n := 8) Tryz.func134 rfl rfl rfl (fun wd => ?_)
 refine Je ?_
 refine Jb ?_
 refine Ja rfl rfl rfl (Jc (v := .int .i64 0) rfl) ?_
 refine Jf ?_
 refine Je ?_
 refine Jb ?_
 refine Ja rfl rfl rfl (Jd (v := str a0) rfl) ?_
 refine Ja rfl rfl rfl (Jd (v := .int .u8 a1) rfl) ?_
 obtain ⟨t7, h_t7, H2⟩ := Jh H; clear H
 refine Qu (k138 h_t7) Tryz.call138 rfl rfl rfl ?_
 refine Ja rfl rfl rfl (Jc (v := .int .i64 t7) rfl) ?_
 refine Jf ?_
 refine Jm ?_
 obtain rfl := Option.some.inj H2
 refine Jy (v := .int .i64 t7) rfl rfl (Xh rfl)
theorem k135 {a0 : Int} {r : Bool} (H : Jak a0 = some r) : Ret Tryz.prog 135 [.int .i32 a0] (.bool r) := by
 refine Qc (n := 17) Tryz.func135 rfl rfl rfl (fun wd => ?_)
 refine Je ?_
 refine Jb ?_
 refine Ja rfl rfl rfl (Jc (v := .bool false) rfl) ?_
 refine Jf ?_
 refine Je ?_
 refine Ju ?_
 refine Xi (r := r) (σ := Bool) (τ := Unit) (fun s => Zn a0 s) (fun s t => [(0, .int .i32 a0), (3, .bool s)]) (fun s t => []) (fun s t => True) ?_ ?_
 ·refine Jb ?_
  refine Ja rfl rfl rfl (Jd (v := .int .i32 a0) rfl) ?_
  refine Ja rfl rfl rfl (r_leq rfl rfl) ?_
  refine Ja rfl rfl rfl (Jd (v := .bool (decide (0 ≤ a0))) rfl) ?_
  refine split (fun hb => ?_) (fun hb => ?_)
  ·have H17 := Jn hb H; clear H
   refine Ja rfl rfl rfl (Jd (v := .int .i32 a0) rfl) ?_
   refine Ja rfl rfl rfl (Q1 rfl rfl) ?_
   refine Ja rfl rfl rfl (Jz (v := .bool (decide (a0 < 55296))) rfl rfl) ?_
   refine Ja rfl rfl rfl (Jc (v := .bool (decide (a0 < 55296))) rfl) ?_
   refine Jf ?_
   refine Jl (decide (a0 < 55296)) () 0 [] (by exact ⟨rfl, rfl, trivial⟩) (by decide) rfl (by exact ⟨H17, trivial⟩) (Nat.lt_succ_self _)
  ·have H18 := Jo hb H; clear H
   refine Ji rfl rfl rfl ?_
   refine Ji rfl rfl rfl ?_
   refine Ja rfl rfl rfl (Jw (v := .bool false) rfl rfl) ?_
   refine Ja rfl rfl rfl (Jc (v := .bool false) rfl) ?_
   refine Jf ?_
   refine Jl false () 0 [] (by exact ⟨rfl, rfl, trivial⟩) (by decide) rfl (by exact ⟨H18, trivial⟩) (Nat.lt_succ_self _)
 ·rintro x3 _ gg H10 _
  replace H10 : Zn a0 x3 = some r := H10
  try dsimp only
  refine J5 (b := x3) rfl (fun hb => ?_) (fun hb => ?_)
  ·have H11 := Jn hb H10; clear H10
   refine Je ?_
   refine Jb ?_
   refine Ja rfl rfl rfl (Jc (v := .bool true) rfl) ?_
   refine Jf ?_
   refine Jm ?_
   obtain rfl := Option.some.inj H11
   refine Jy (v := .bool true) rfl rfl (Xh rfl)
  ·have H12 := Jo hb H10; clear H10
   refine Je ?_
   refine Jb ?_
   refine Ja rfl rfl rfl (Jd (v := .int .i32 a0) rfl) ?_
   refine Ja rfl rfl rfl (Q1 rfl rfl) ?_
   refine Ja rfl rfl rfl (Jd (v := .bool (decide (57343 < a0))) rfl) ?_
   refine split (fun hb => ?_) (fun hb => ?_)
   ·have H13 := Jn hb H12; clear H12
    refine Ja rfl rfl rfl (Jd (v := .int .i32 a0) rfl) ?_
    refine Ja rfl rfl rfl (r_leq rfl rfl) ?_
    refine Ja rfl rfl rfl (Jz (v := .bool (decide (a0 ≤ 1114111))) rfl rfl) ?_
    refine Ja rfl rfl rfl (Jc (v := .bool (decide (a0 ≤ 1114111))) rfl) ?_
    refine Jf ?_
    refine J5 (b := (decide (a0 ≤ 1114111))) rfl (fun hb => ?_) (fun hb => ?_)
    ·have H14 := Jn hb H13; clear H13
     refine Je ?_
     refine Jb ?_
     refine Ja rfl rfl rfl (Jc (v := .bool true) rfl) ?_
     refine Jf ?_
     refine Jm ?_
     obtain rfl := Option.some.inj H14
     refine Jy (v := .bool true) rfl rfl (Xh rfl)
    ·have H15 := Jo hb H13; clear H13
     refine Jr ?_
     refine Je ?_
     refine Jb ?_
     refine Ja rfl rfl rfl (Jc (v := .bool false) rfl) ?_
     refine Jf ?_
     refine Jm ?_
     obtain rfl := Option.some.inj H15
     refine Jy (v := .bool false) rfl rfl (Xh rfl)
   ·have H16 := Jo hb H12; clear H12
    refine Ji rfl rfl rfl ?_
    refine Ji rfl rfl rfl ?_
    refine Ja rfl rfl rfl (Jw (v := .bool false) rfl rfl) ?_
    refine Ja rfl rfl rfl (Jc (v := .bool false) rfl) ?_
    refine Jf ?_
    refine Wi rfl ?_
    refine Jr ?_
    refine Je ?_
    refine Jb ?_
    refine Ja rfl rfl rfl (Jc (v := .bool false) rfl) ?_
    refine Jf ?_
    refine Jm ?_
    obtain rfl := Option.some.inj H16
    refine Jy (v := .bool false) rfl rfl (Xh rfl)
theorem k132 {a0 : (List UInt8)} {a1 : Int} {r : Int} (H : strings_IndexRune a0 a1 = some r) : Ret Tryz.prog 132 [str a0, .int .i32 a1] (.int .i64 r) := by
 refine Qc (n := 187) Tryz.func132 rfl rfl rfl (fun wd => ?_)
 refine Je ?_
 refine Jb ?_
 refine Ja rfl rfl rfl (Jc (v := .int .i64 0) rfl) ?_
 refine Jf ?_
 refine Ju ?_
 refine Xi (r := r) (σ := Bool) (τ := Unit) (fun s => V8 a0 a1 s) (fun s t => [(0, str a0), (1, .int .i32 a1), (160, .bool s)]) (fun s t => []) (fun s t => True) ?_ ?_
 ·refine Jb ?_
  refine Ja rfl rfl rfl (Jd (v := .int .i32 a1) rfl) ?_
  refine Ja rfl rfl rfl (r_leq rfl rfl) ?_
  refine Ja rfl rfl rfl (Jd (v := .bool (decide (0 ≤ a1))) rfl) ?_
  refine split (fun hb => ?_) (fun hb => ?_)
  ·have H33 := Jn hb H; clear H
   refine Ja rfl rfl rfl (Jd (v := .int .i32 a1) rfl) ?_
   refine Ja rfl rfl rfl (Q1 rfl rfl) ?_
   refine Ja rfl rfl rfl (Jz (v := .bool (decide (a1 < 128))) rfl rfl) ?_
   refine Ja rfl rfl rfl (Jc (v := .bool (decide (a1 < 128))) rfl) ?_
   refine Jf ?_
   refine Jl (decide (a1 < 128)) () 0 [] (by exact ⟨rfl, rfl, rfl, trivial⟩) (by decide) rfl (by exact ⟨H33, trivial⟩) (Nat.lt_succ_self _)
  ·have H34 := Jo hb H; clear H
   refine Ji rfl rfl rfl ?_
   refine Ji rfl rfl rfl ?_
   refine Ja rfl rfl rfl (Jw (v := .bool false) rfl rfl) ?_
   refine Ja rfl rfl rfl (Jc (v := .bool false) rfl) ?_
   refine Jf ?_
   refine Jl false () 0 [] (by exact ⟨rfl, rfl, rfl, trivial⟩) (by decide) rfl (by exact ⟨H34, trivial⟩) (Nat.lt_succ_self _)
 ·rintro x160 _ gg H18 _
  replace H18 : V8 a0 a1 x160 = some r := H18
  try dsimp only
  refine J5 (b := x160) rfl (fun hb => ?_) (fun hb => ?_)
  ·have H19 := Jn hb H18; clear H18
   refine Je ?_
   refine Jb ?_
   refine Ja rfl rfl rfl (Jd (v := str a0) rfl) ?_
   refine Ja rfl rfl rfl (Jd (v := .int .i32 a1) rfl) ?_
   refine Ja rfl rfl rfl (r_convG Tryz.runUnderlying21 Tryz.runUnderlying5 rfl (wr_u8 _)) ?_
   obtain ⟨t170, h_t170, H20⟩ := Jh H19; clear H19
   refine Qu (k134 h_t170) Tryz.call134 rfl rfl rfl ?_
   refine Ja rfl rfl rfl (Jc (v := .int .i64 t170) rfl) ?_
   refine Jf ?_
   refine Jm ?_
   obtain rfl := Option.some.inj H20
   refine Jy (v := .int .i64 t170) rfl rfl (Xh rfl)
  ·have H21 := Jo hb H18; clear H18
   refine Je ?_
   refine Jb ?_
   refine Ja rfl rfl rfl (Jd (v := .int .i32 a1) rfl) ?_
   refine Ja rfl rfl rfl (Zp rfl rfl) ?_
   refine Ja rfl rfl rfl (Jc (v := .bool (decide (a1 = 65533))) rfl) ?_
   refine Jf ?_
   refine J5 (b := (decide (a1 = 65533))) rfl (fun hb => ?_) (fun hb => ?_)
   ·have H22 := Jn hb H21; clear H21
    refine Je ?_
    refine Je ?_
    refine Jb ?_
    refine Ja rfl rfl rfl (Jd (v := str a0) rfl) ?_
    refine Zf (rds := []) (makes_range (s := a0) Tryz.underlying9 rfl) rfl rfl rfl (fun b1 => ?_)
    refine Jf ?_
    refine Ju ?_
    refine Yv (σ := Nat) (τ := Unit) (fun next2 s => Z4 a0 next2 s) (fun s t => [(175, .pointer (some ⟨b1, 0, none⟩))]) (fun s t => [iterC b1 a0 s]) (fun s t => True) 0 () [0] H22 (by exact trivial) (by exact ⟨rfl, trivial⟩) (by decide) rfl ?_
    rintro k_2 _ m2 gg H23 _
    clear H22
    replace H23 : Z4 a0 (it (fun next2 s => Z4 a0 next2 s) m2) k_2 = some r := H23
    generalize hn2 : it (fun next2 s => Z4 a0 next2 s) m2 = next2 at H23
    try dsimp only
    refine Je ?_
    refine Jb ?_
    refine caseB (decide (k_2 < a0.length)) (fun hb => ?_) (fun hb => ?_)
    ·have H24 := Jn hb H23; clear H23
     obtain ⟨t176, h_t176, H25⟩ := Jh H24; clear H24
     refine Yl (turns_next (i := 0) (rds := []) rfl rfl h_t176) rfl rfl rfl (fun _ => ?_)
     refine Ja rfl rfl rfl (Qz (v := .bool true) rfl rfl) ?_
     refine Jf ?_
     refine Je ?_
     refine Ur rfl ?_
     refine Jr ?_
     refine Ju ?_
     refine Je ?_
     refine Jb ?_
     refine Ja rfl rfl rfl (Qz (v := .int .i64 ((k_2 : Nat) : Int)) rfl rfl) ?_
     refine Ja rfl rfl rfl (Qz (v := .int .i32 t176) rfl rfl) ?_
     refine Ja rfl rfl rfl (Jc (v := .int .i64 ((k_2 : Nat) : Int)) rfl) ?_
     refine Ja rfl rfl rfl (Jc (v := .int .i32 t176) rfl) ?_
     refine Jf ?_
     refine Je ?_
     refine Jb ?_
     refine Ja rfl rfl rfl (Jd (v := .int .i32 t176) rfl) ?_
     refine Ja rfl rfl rfl (Zp rfl rfl) ?_
     refine Jf ?_
     refine J5 (b := (decide (t176 = 65533))) rfl (fun hb => ?_) (fun hb => ?_)
     ·have H26 := Jn hb H25; clear H25
      refine Je ?_
      refine Jb ?_
      refine Ja rfl rfl rfl (Jd (v := .int .i64 ((k_2 : Nat) : Int)) rfl) ?_
      refine Ja rfl rfl rfl (Jc (v := .int .i64 ((k_2 : Nat) : Int)) rfl) ?_
      refine Jf ?_
      refine Jm ?_
      obtain rfl := Option.some.inj H26
      refine Jy (v := .int .i64 ((k_2 : Nat) : Int)) rfl rfl (Xh rfl)
     ·have H27 := Jo hb H25; clear H25
      refine Jr ?_
      refine Jl (k_2 + 1) () m2 [0] (by exact ⟨rfl, trivial⟩) (by decide) rfl (by exact ⟨(by subst hn2; exact H27), trivial⟩) (Nat.lt_succ_self _)
    ·have H28 := Jo hb H23; clear H23
     refine Qa (fun w hF hS => r_nextOver (i := 0) hS rfl rfl hb) rfl rfl rfl ?_
     refine Ja rfl rfl rfl (Qz (v := .bool false) rfl rfl) ?_
     refine Jf ?_
     refine Je ?_
     refine Wi rfl ?_
     refine Qr ?_
     refine Je ?_
     refine Jb ?_
     refine Ja rfl rfl rfl (Jc (v := .int .i64 (-1)) rfl) ?_
     refine Jf ?_
     refine Jm ?_
     obtain rfl := Option.some.inj H28
     refine Jy (v := .int .i64 (-1)) rfl rfl (Xh rfl)
   ·have H29 := Jo hb H21; clear H21
    refine Je ?_
    refine Jb ?_
    refine Ja rfl rfl rfl (Jd (v := .int .i32 a1) rfl) ?_
    obtain ⟨t185, h_t185, H30⟩ := Jh H29; clear H29
    refine Qu (k135 h_t185) Tryz.call135 rfl rfl rfl ?_
    refine Ja rfl rfl rfl (Vt rfl) ?_
    refine Ja rfl rfl rfl (Jc (v := .bool (!t185)) rfl) ?_
    refine Jf ?_
    refine J5 (b := (!t185)) rfl (fun hb => ?_) (fun hb => ?_)
    ·have H31 := Jn hb H30; clear H30
     refine Je ?_
     refine Jb ?_
     refine Ja rfl rfl rfl (Jc (v := .int .i64 (-1)) rfl) ?_
     refine Jf ?_
     refine Jm ?_
     obtain rfl := Option.some.inj H31
     refine Jy (v := .int .i64 (-1)) rfl rfl (Xh rfl)
    ·have H32 := Jo hb H30; clear H30
     exact absurd (show (none : Option (Int)) = some r from H32) (fun h => by cases h)
theorem k127 {a0 : (List UInt8)} {a1 : Int} {r : Bool} (H : Uo a0 a1 = some r) : Ret Tryz.prog 127 [str a0, .int .i32 a1] (.bool r) := by
 refine Qc (n := 9) Tryz.func127 rfl rfl rfl (fun wd => ?_)
 refine Je ?_
 refine Jb ?_
 refine Ja rfl rfl rfl (Jc (v := .bool false) rfl) ?_
 refine Jf ?_
 refine Je ?_
 refine Jb ?_
 refine Ja rfl rfl rfl (Jd (v := str a0) rfl) ?_
 refine Ja rfl rfl rfl (Jd (v := .int .i32 a1) rfl) ?_
 obtain ⟨t7, h_t7, H2⟩ := Jh H; clear H
 refine Qu (k132 h_t7) Tryz.call132 rfl rfl rfl ?_
 refine Ja rfl rfl rfl (r_geq rfl rfl) ?_
 refine Ja rfl rfl rfl (Jc (v := .bool (decide (0 ≤ t7))) rfl) ?_
 refine Jf ?_
 refine Jm ?_
 obtain rfl := Option.some.inj H2
 refine Jy (v := .bool (decide (0 ≤ t7))) rfl rfl (Xh rfl)
theorem k115 {a0 : (List UInt8)} {a1 : (List UInt8)} {r : (List UInt8)} (H : Jai a0 a1 = some r) : Ret Tryz.prog 115 [str a0, str a1] (str r) := by
 refine Qc (n := 23) Tryz.func115 rfl rfl rfl (fun wd => ?_)
 refine Je ?_
 refine Jb ?_
 refine Ja rfl rfl rfl (Jc (v := str []) rfl) ?_
 refine Jf ?_
 refine Je ?_
 refine Ju ?_
 refine Yv (σ := (List UInt8)) (τ := Unit) (fun next1 s => Ym a1 next1 s) (fun s t => [(0, str s), (1, str a1)]) (fun s t => []) (fun s t => True) a0 () [] H (by exact trivial) (by exact ⟨rfl, rfl, trivial⟩) (by decide) rfl ?_
 rintro x0_2 _ m1 gg H9 _
 clear H
 replace H9 : Ym a1 (it (fun next1 s => Ym a1 next1 s) m1) x0_2 = some r := H9
 generalize hn1 : it (fun next1 s => Ym a1 next1 s) m1 = next1 at H9
 try dsimp only
 refine Je ?_
 refine Je ?_
 refine Jb ?_
 refine Ja rfl rfl rfl (Jd (v := str x0_2) rfl) ?_
 refine Ja rfl rfl rfl (Wb Tryz.underlying9 rfl) ?_
 refine Ja rfl rfl rfl (Wz rfl rfl) ?_
 refine Jf ?_
 refine J5 (b := (decide (0 < (x0_2.length : Int)))) rfl (fun hb => ?_) (fun hb => ?_)
 ·have H10 := Jn hb H9; clear H9
  refine Jr ?_
  refine Ju ?_
  refine Je ?_
  refine Jb ?_
  refine Ja rfl rfl rfl (Jd (v := str x0_2) rfl) ?_
  obtain ⟨t12, h_t12, H11⟩ := Jh H10; clear H10
  refine Qu (k126 h_t12) Tryz.call126 rfl rfl rfl ?_
  refine Ja rfl rfl rfl (Jd (v := .tuple #[.int .i32 t12.1, .int .i64 t12.2]) rfl) ?_
  refine Ja rfl rfl rfl (Qz (v := .int .i32 t12.1) rfl rfl) ?_
  refine Ja rfl rfl rfl (Qz (v := .int .i64 t12.2) rfl rfl) ?_
  refine Ja rfl rfl rfl (Jc (v := .int .i32 t12.1) rfl) ?_
  refine Ja rfl rfl rfl (Jc (v := .int .i64 t12.2) rfl) ?_
  refine Jf ?_
  refine Je ?_
  refine Je ?_
  refine Jb ?_
  refine Ja rfl rfl rfl (Jd (v := str a1) rfl) ?_
  refine Ja rfl rfl rfl (Jd (v := .int .i32 t12.1) rfl) ?_
  obtain ⟨t17, h_t17, H12⟩ := Jh H11; clear H11
  refine Qu (k127 h_t17) Tryz.call127 rfl rfl rfl ?_
  refine Ja rfl rfl rfl (Vt rfl) ?_
  refine Jf ?_
  refine J5 (b := (!t17)) rfl (fun hb => ?_) (fun hb => ?_)
  ·have H13 := Jn hb H12; clear H12
   refine Qr ?_
   refine Je ?_
   refine Jb ?_
   refine Ja rfl rfl rfl (Jd (v := str x0_2) rfl) ?_
   refine Ja rfl rfl rfl (Jc (v := str x0_2) rfl) ?_
   refine Jf ?_
   refine Jm ?_
   obtain rfl := Option.some.inj H13
   refine Jy (v := str x0_2) rfl rfl (Xh rfl)
  ·have H14 := Jo hb H12; clear H12
   refine Jr ?_
   refine Jb ?_
   refine Ja rfl rfl rfl (Jd (v := str x0_2) rfl) ?_
   refine Ja rfl rfl rfl (Jd (v := .int .i64 t12.2) rfl) ?_
   obtain ⟨t21, h_t21, H15⟩ := Jh H14; clear H14
   refine Ja rfl rfl rfl (r_cutFromG Tryz.underlying9 rfl rfl h_t21) ?_
   refine Ja rfl rfl rfl (Jc (v := str t21) rfl) ?_
   refine Jf ?_
   refine Jl t21 () m1 [] (by exact ⟨rfl, rfl, trivial⟩) (by decide) rfl (by exact ⟨(by subst hn1; exact H15), trivial⟩) (Nat.lt_succ_self _)
 ·have H16 := Jo hb H9; clear H9
  refine Qr ?_
  refine Je ?_
  refine Jb ?_
  refine Ja rfl rfl rfl (Jd (v := str x0_2) rfl) ?_
  refine Ja rfl rfl rfl (Jc (v := str x0_2) rfl) ?_
  refine Jf ?_
  refine Jm ?_
  obtain rfl := Option.some.inj H16
  refine Jy (v := str x0_2) rfl rfl (Xh rfl)
theorem k133 {a0 : Int} {r : Bool} (H : Jam a0 = some r) : Ret Tryz.prog 133 [.int .u8 a0] (.bool r) := by
 refine Qc (n := 6) Tryz.func133 rfl rfl rfl (fun wd => ?_)
 refine Je ?_
 refine Jb ?_
 refine Ja rfl rfl rfl (Jc (v := .bool false) rfl) ?_
 refine Jf ?_
 refine Je ?_
 refine Jb ?_
 refine Ja rfl rfl rfl (Jd (v := .int .u8 a0) rfl) ?_
 refine Ja rfl rfl rfl (r_bitsAnd (bits := 8) rfl rfl rfl (wr_u8 _)) ?_
 refine Ja rfl rfl rfl (U0 rfl rfl) ?_
 refine Ja rfl rfl rfl (Jc (v := .bool (decide ((wU8 (bAnd 8 a0 192)) ≠ 128))) rfl) ?_
 refine Jf ?_
 refine Jm ?_
 obtain rfl := Option.some.inj H
 refine Jy (v := .bool (decide ((wU8 (bAnd 8 a0 192)) ≠ 128))) rfl rfl (Xh rfl)
theorem k128 {a0 : (List UInt8)} {r : Int × Int} (H : Vk a0 = some r) : Ret Tryz.prog 128 [str a0] (.tuple #[.int .i32 r.1, .int .i64 r.2]) := by
 refine Qc (n := 51) Tryz.func128 rfl rfl rfl (fun wd => ?_)
 refine Je ?_
 refine Jb ?_
 refine Ja rfl rfl rfl (Jc (v := .int .i32 0) rfl) ?_
 refine Ja rfl rfl rfl (Jc (v := .int .i64 0) rfl) ?_
 refine Jf ?_
 refine Je ?_
 refine Jb ?_
 refine Ja rfl rfl rfl (Jd (v := str a0) rfl) ?_
 refine Ja rfl rfl rfl (Wb Tryz.underlying9 rfl) ?_
 refine Ja rfl rfl rfl (Jc (v := .int .i64 (a0.length : Int)) rfl) ?_
 refine Jf ?_
 refine Je ?_
 refine Je ?_
 refine Jb ?_
 refine Ja rfl rfl rfl (Jd (v := .int .i64 (a0.length : Int)) rfl) ?_
 refine Ja rfl rfl rfl (Zp rfl rfl) ?_
 refine Jf ?_
 refine J5 (b := (decide ((a0.length : Int) = 0))) rfl (fun hb => ?_) (fun hb => ?_)
 ·have H27 := Jn hb H; clear H
  refine Je ?_
  refine Jb ?_
  refine Ja rfl rfl rfl (Jc (v := .int .i32 65533) rfl) ?_
  refine Ja rfl rfl rfl (Jc (v := .int .i64 0) rfl) ?_
  refine Jf ?_
  refine Jm ?_
  obtain rfl := Option.some.inj H27
  refine ret2 (v1 := .int .i32 65533) (v2 := .int .i64 0) rfl rfl rfl (Xh rfl)
 ·have H28 := Jo hb H; clear H
  refine Jr ?_
  refine Je ?_
  refine Jb ?_
  refine Ja rfl rfl rfl (Jd (v := .int .i64 (a0.length : Int)) rfl) ?_
  obtain ⟨t12, h_t12, H29⟩ := Jh H28; clear H28
  refine Ja rfl rfl rfl (U6 rfl rfl h_t12) ?_
  refine Ja rfl rfl rfl (Jc (v := .int .i64 t12) rfl) ?_
  refine Jf ?_
  refine Je ?_
  refine Jb ?_
  refine Ja rfl rfl rfl (Jd (v := str a0) rfl) ?_
  refine Ja rfl rfl rfl (Jd (v := .int .i64 t12) rfl) ?_
  obtain ⟨t15, h_t15, H30⟩ := Jh H29; clear H29
  refine Ja rfl rfl rfl (U5 Tryz.underlying9 rfl rfl h_t15) ?_
  obtain ⟨t16, h_t16, H31⟩ := Jh H30; clear H30
  refine Ja rfl rfl rfl (r_convG Tryz.runUnderlying5 Tryz.runUnderlying21 rfl (gK_i32 h_t16)) ?_
  refine Ja rfl rfl rfl (Jc (v := .int .i32 t16) rfl) ?_
  refine Jf ?_
  refine Je ?_
  refine Je ?_
  refine Jb ?_
  refine Ja rfl rfl rfl (Jd (v := .int .i32 t16) rfl) ?_
  refine Ja rfl rfl rfl (Q1 rfl rfl) ?_
  refine Jf ?_
  refine J5 (b := (decide (t16 < 128))) rfl (fun hb => ?_) (fun hb => ?_)
  ·have H32 := Jn hb H31; clear H31
   refine Je ?_
   refine Jb ?_
   refine Ja rfl rfl rfl (Jd (v := .int .i32 t16) rfl) ?_
   refine Ja rfl rfl rfl (Jc (v := .int .i32 t16) rfl) ?_
   refine Ja rfl rfl rfl (Jc (v := .int .i64 1) rfl) ?_
   refine Jf ?_
   refine Jm ?_
   obtain rfl := Option.some.inj H32
   refine ret2 (v1 := .int .i32 t16) (v2 := .int .i64 1) rfl rfl rfl (Xh rfl)
  ·have H33 := Jo hb H31; clear H31
   refine Jr ?_
   refine Je ?_
   refine Jb ?_
   refine Ja rfl rfl rfl (Jd (v := .int .i64 (a0.length : Int)) rfl) ?_
   obtain ⟨t21, h_t21, H34⟩ := Jh H33; clear H33
   refine Ja rfl rfl rfl (U6 rfl rfl h_t21) ?_
   refine Ja rfl rfl rfl (r_max rfl rfl) ?_
   refine Ja rfl rfl rfl (Jc (v := .int .i64 (max t21 0)) rfl) ?_
   refine Jf ?_
   refine Xi (r := r) (σ := Int) (τ := Unit) (fun s => Xm a0 s) (fun s t => [(0, str a0), (4, .int .i64 (a0.length : Int)), (5, .int .i64 s)]) (fun s t => []) (fun s t => True) ?_ ?_
   ·refine Je ?_
    refine Jb ?_
    refine Ja rfl rfl rfl (Jd (v := .int .i64 t12) rfl) ?_
    obtain ⟨t24, h_t24, H44⟩ := Jh H34; clear H34
    refine Ja rfl rfl rfl (U6 rfl rfl h_t24) ?_
    refine Ja rfl rfl rfl (Jc (v := .int .i64 t24) rfl) ?_
    refine Jf ?_
    refine Ju ?_
    refine Yv (σ := Int) (τ := Unit) (fun next3 s => Qt a0 t21 next3 s) (fun s t => [(0, str a0), (4, .int .i64 (a0.length : Int)), (5, .int .i64 s), (6, .int .i64 (max t21 0))]) (fun s t => []) (fun s t => True) t24 () [] H44 (by exact trivial) (by exact ⟨rfl, rfl, rfl, rfl, trivial⟩) (by decide) rfl ?_
    rintro x5_4 _ m3 gg H45 _
    clear H44
    replace H45 : Qt a0 t21 (it (fun next3 s => Qt a0 t21 next3 s) m3) x5_4 = some r := H45
    generalize hn3 : it (fun next3 s => Qt a0 t21 next3 s) m3 = next3 at H45
    try dsimp only
    refine Je ?_
    refine Je ?_
    refine Jb ?_
    refine Ja rfl rfl rfl (Jd (v := .int .i64 x5_4) rfl) ?_
    refine Ja rfl rfl rfl (Jd (v := .int .i64 (max t21 0)) rfl) ?_
    refine Ja rfl rfl rfl (r_geq rfl rfl) ?_
    refine Jf ?_
    refine J5 (b := (decide ((max t21 0) ≤ x5_4))) rfl (fun hb => ?_) (fun hb => ?_)
    ·have H46 := Jn hb H45; clear H45
     refine Jr ?_
     refine Je ?_
     refine Ju ?_
     refine Je ?_
     refine Jb ?_
     refine Ja rfl rfl rfl (Jd (v := str a0) rfl) ?_
     refine Ja rfl rfl rfl (Jd (v := .int .i64 x5_4) rfl) ?_
     obtain ⟨t32, h_t32, H47⟩ := Jh H46; clear H46
     refine Ja rfl rfl rfl (U5 Tryz.underlying9 rfl rfl h_t32) ?_
     obtain ⟨t33, h_t33, H48⟩ := Jh H47; clear H47
     refine Qu (k133 h_t33) Tryz.call133 rfl rfl rfl ?_
     refine Jf ?_
     refine J5 (b := t33) rfl (fun hb => ?_) (fun hb => ?_)
     ·have H49 := Jn hb H48; clear H48
      refine Qr ?_
      refine Jl x5_4 () 0 [] (by exact ⟨rfl, rfl, rfl, trivial⟩) (by decide) rfl (by exact ⟨H49, trivial⟩) (Nat.lt_succ_self _)
     ·have H50 := Jo hb H48; clear H48
      refine Jr ?_
      refine Jb ?_
      refine Ja rfl rfl rfl (Jd (v := .int .i64 x5_4) rfl) ?_
      obtain ⟨t29, h_t29, H51⟩ := Jh H50; clear H50
      refine Ja rfl rfl rfl (U6 rfl rfl h_t29) ?_
      refine Ja rfl rfl rfl (Jc (v := .int .i64 t29) rfl) ?_
      refine Jf ?_
      refine Jl t29 () m3 [] (by exact ⟨rfl, rfl, rfl, rfl, trivial⟩) (by decide) rfl (by exact ⟨(by subst hn3; exact H51), trivial⟩) (Nat.lt_succ_self _)
    ·have H52 := Jo hb H45; clear H45
     refine Qr ?_
     refine Jl x5_4 () 0 [] (by exact ⟨rfl, rfl, rfl, trivial⟩) (by decide) rfl (by exact ⟨H52, trivial⟩) (Nat.lt_succ_self _)
   ·rintro x5 _ gg H35 _
    replace H35 : Xm a0 x5 = some r := H35
    try dsimp only
    refine Xi (r := r) (σ := Int) (τ := Unit) (fun s => Xl a0 s) (fun s t => [(0, str a0), (4, .int .i64 (a0.length : Int)), (5, .int .i64 s)]) (fun s t => []) (fun s t => True) ?_ ?_
    ·refine Je ?_
     refine Jb ?_
     refine Ja rfl rfl rfl (Jd (v := .int .i64 x5) rfl) ?_
     refine Ja rfl rfl rfl (Q1 rfl rfl) ?_
     refine Jf ?_
     refine J5 (b := (decide (x5 < 0))) rfl (fun hb => ?_) (fun hb => ?_)
     ·have H42 := Jn hb H35; clear H35
      refine Jb ?_
      refine Ja rfl rfl rfl (Jc (v := .int .i64 0) rfl) ?_
      refine Jf ?_
      refine Jl 0 () 0 [] (by exact ⟨rfl, rfl, rfl, trivial⟩) (by decide) rfl (by exact ⟨H42, trivial⟩) (Nat.lt_succ_self _)
     ·have H43 := Jo hb H35; clear H35
      refine Jr ?_
      refine Jl x5 () 0 [] (by exact ⟨rfl, rfl, rfl, trivial⟩) (by decide) rfl (by exact ⟨H43, trivial⟩) (Nat.lt_succ_self _)
    ·rintro x5_2 _ gg H36 _
     replace H36 : Xl a0 x5_2 = some r := H36
     try dsimp only
     refine Je ?_
     refine Jb ?_
     refine Ja rfl rfl rfl (Jd (v := str a0) rfl) ?_
     refine Ja rfl rfl rfl (Jd (v := .int .i64 x5_2) rfl) ?_
     refine Ja rfl rfl rfl (Jd (v := .int .i64 (a0.length : Int)) rfl) ?_
     obtain ⟨t40, h_t40, H37⟩ := Jh H36; clear H36
     refine Ja rfl rfl rfl (r_cutTG Tryz.underlying9 rfl rfl rfl h_t40) ?_
     obtain ⟨t41, h_t41, H38⟩ := Jh H37; clear H37
     refine Qu (k126 h_t41) Tryz.call126 rfl rfl rfl ?_
     refine Ja rfl rfl rfl (Jd (v := .tuple #[.int .i32 t41.1, .int .i64 t41.2]) rfl) ?_
     refine Ja rfl rfl rfl (Qz (v := .int .i32 t41.1) rfl rfl) ?_
     refine Ja rfl rfl rfl (Qz (v := .int .i64 t41.2) rfl rfl) ?_
     refine Ja rfl rfl rfl (Jc (v := .int .i32 t41.1) rfl) ?_
     refine Ja rfl rfl rfl (Jc (v := .int .i64 t41.2) rfl) ?_
     refine Jf ?_
     refine Je ?_
     refine Je ?_
     refine Jb ?_
     refine Ja rfl rfl rfl (Jd (v := .int .i64 x5_2) rfl) ?_
     refine Ja rfl rfl rfl (Jd (v := .int .i64 t41.2) rfl) ?_
     obtain ⟨t46, h_t46, H39⟩ := Jh H38; clear H38
     refine Ja rfl rfl rfl (Q2 rfl rfl h_t46) ?_
     refine Ja rfl rfl rfl (Jd (v := .int .i64 (a0.length : Int)) rfl) ?_
     refine Ja rfl rfl rfl (U0 rfl rfl) ?_
     refine Jf ?_
     refine J5 (b := (decide (t46 ≠ (a0.length : Int)))) rfl (fun hb => ?_) (fun hb => ?_)
     ·have H40 := Jn hb H39; clear H39
      refine Je ?_
      refine Jb ?_
      refine Ja rfl rfl rfl (Jc (v := .int .i32 65533) rfl) ?_
      refine Ja rfl rfl rfl (Jc (v := .int .i64 1) rfl) ?_
      refine Jf ?_
      refine Jm ?_
      obtain rfl := Option.some.inj H40
      refine ret2 (v1 := .int .i32 65533) (v2 := .int .i64 1) rfl rfl rfl (Xh rfl)
     ·have H41 := Jo hb H39; clear H39
      refine Jr ?_
      refine Je ?_
      refine Jb ?_
      refine Ja rfl rfl rfl (Jd (v := .int .i32 t41.1) rfl) ?_
      refine Ja rfl rfl rfl (Jd (v := .int .i64 t41.2) rfl) ?_
      refine Ja rfl rfl rfl (Jc (v := .int .i32 t41.1) rfl) ?_
      refine Ja rfl rfl rfl (Jc (v := .int .i64 t41.2) rfl) ?_
      refine Jf ?_
      refine Jm ?_
      obtain rfl := Option.some.inj H41
      refine ret2 (v1 := .int .i32 t41.1) (v2 := .int .i64 t41.2) rfl rfl rfl (Xh rfl)
theorem k116 {a0 : (List UInt8)} {a1 : (List UInt8)} {r : (List UInt8)} (H : U8 a0 a1 = some r) : Ret Tryz.prog 116 [str a0, str a1] (str r) := by
 refine Qc (n := 34) Tryz.func116 rfl rfl rfl (fun wd => ?_)
 refine Je ?_
 refine Jb ?_
 refine Ja rfl rfl rfl (Jc (v := str []) rfl) ?_
 refine Jf ?_
 refine Je ?_
 refine Ju ?_
 refine Yv (σ := (List UInt8)) (τ := Unit) (fun next1 s => Yi a1 next1 s) (fun s t => [(0, str s), (1, str a1)]) (fun s t => []) (fun s t => True) a0 () [] H (by exact trivial) (by exact ⟨rfl, rfl, trivial⟩) (by decide) rfl ?_
 rintro x0_2 _ m1 gg H16 _
 clear H
 replace H16 : Yi a1 (it (fun next1 s => Yi a1 next1 s) m1) x0_2 = some r := H16
 generalize hn1 : it (fun next1 s => Yi a1 next1 s) m1 = next1 at H16
 try dsimp only
 refine Je ?_
 refine Je ?_
 refine Jb ?_
 refine Ja rfl rfl rfl (Jd (v := str x0_2) rfl) ?_
 refine Ja rfl rfl rfl (Wb Tryz.underlying9 rfl) ?_
 refine Ja rfl rfl rfl (Wz rfl rfl) ?_
 refine Jf ?_
 refine J5 (b := (decide (0 < (x0_2.length : Int)))) rfl (fun hb => ?_) (fun hb => ?_)
 ·have H17 := Jn hb H16; clear H16
  refine Jr ?_
  refine Ju ?_
  refine Je ?_
  refine Jb ?_
  refine Ja rfl rfl rfl (Jd (v := str x0_2) rfl) ?_
  refine Ja rfl rfl rfl (Jd (v := str x0_2) rfl) ?_
  refine Ja rfl rfl rfl (Wb Tryz.underlying9 rfl) ?_
  obtain ⟨t13, h_t13, H18⟩ := Jh H17; clear H17
  refine Ja rfl rfl rfl (U6 rfl rfl h_t13) ?_
  obtain ⟨t14, h_t14, H19⟩ := Jh H18; clear H18
  refine Ja rfl rfl rfl (U5 Tryz.underlying9 rfl rfl h_t14) ?_
  obtain ⟨t15, h_t15, H20⟩ := Jh H19; clear H19
  refine Ja rfl rfl rfl (r_convG Tryz.runUnderlying5 Tryz.runUnderlying21 rfl (gK_i32 h_t15)) ?_
  refine Ja rfl rfl rfl (Jc (v := .int .i32 t15) rfl) ?_
  refine Ja rfl rfl rfl (Jc (v := .int .i64 1) rfl) ?_
  refine Jf ?_
  refine Xi (r := r) (σ := Int × Int) (τ := Unit) (fun s => Zd a1 x0_2 next1 s.1 s.2) (fun s t => [(0, str x0_2), (1, str a1), (5, .int .i32 s.1), (6, .int .i64 s.2)]) (fun s t => []) (fun s t => True) ?_ ?_
  ·refine Je ?_
   refine Jb ?_
   refine Ja rfl rfl rfl (Jd (v := .int .i32 t15) rfl) ?_
   refine Ja rfl rfl rfl (r_geq rfl rfl) ?_
   refine Jf ?_
   refine J5 (b := (decide (128 ≤ t15))) rfl (fun hb => ?_) (fun hb => ?_)
   ·have H27 := Jn hb H20; clear H20
    refine Jb ?_
    refine Ja rfl rfl rfl (Jd (v := str x0_2) rfl) ?_
    obtain ⟨t20, h_t20, H28⟩ := Jh H27; clear H27
    refine Qu (k128 h_t20) Tryz.call128 rfl rfl rfl ?_
    refine Ja rfl rfl rfl (Jd (v := .tuple #[.int .i32 t20.1, .int .i64 t20.2]) rfl) ?_
    refine Ja rfl rfl rfl (Qz (v := .int .i32 t20.1) rfl rfl) ?_
    refine Ja rfl rfl rfl (Qz (v := .int .i64 t20.2) rfl rfl) ?_
    refine Ja rfl rfl rfl (Jc (v := .int .i32 t20.1) rfl) ?_
    refine Ja rfl rfl rfl (Jc (v := .int .i64 t20.2) rfl) ?_
    refine Jf ?_
    refine Jl (t20.1, t20.2) () 0 [] (by exact ⟨rfl, rfl, rfl, rfl, trivial⟩) (by decide) rfl (by exact ⟨H28, trivial⟩) (Nat.lt_succ_self _)
   ·have H29 := Jo hb H20; clear H20
    refine Jr ?_
    refine Jl (t15, 1) () 0 [] (by exact ⟨rfl, rfl, rfl, rfl, trivial⟩) (by decide) rfl (by exact ⟨H29, trivial⟩) (Nat.lt_succ_self _)
  ·rintro ⟨x5, x6⟩ _ gg H21 _
   replace H21 : Zd a1 x0_2 next1 x5 x6 = some r := H21
   try dsimp only
   refine Je ?_
   refine Je ?_
   refine Jb ?_
   refine Ja rfl rfl rfl (Jd (v := str a1) rfl) ?_
   refine Ja rfl rfl rfl (Jd (v := .int .i32 x5) rfl) ?_
   obtain ⟨t25, h_t25, H22⟩ := Jh H21; clear H21
   refine Qu (k127 h_t25) Tryz.call127 rfl rfl rfl ?_
   refine Ja rfl rfl rfl (Vt rfl) ?_
   refine Jf ?_
   refine J5 (b := (!t25)) rfl (fun hb => ?_) (fun hb => ?_)
   ·have H23 := Jn hb H22; clear H22
    refine Qr ?_
    refine Je ?_
    refine Jb ?_
    refine Ja rfl rfl rfl (Jd (v := str x0_2) rfl) ?_
    refine Ja rfl rfl rfl (Jc (v := str x0_2) rfl) ?_
    refine Jf ?_
    refine Jm ?_
    obtain rfl := Option.some.inj H23
    refine Jy (v := str x0_2) rfl rfl (Xh rfl)
   ·have H24 := Jo hb H22; clear H22
    refine Jr ?_
    refine Jb ?_
    refine Ja rfl rfl rfl (Jd (v := str x0_2) rfl) ?_
    refine Ja rfl rfl rfl (Jd (v := str x0_2) rfl) ?_
    refine Ja rfl rfl rfl (Wb Tryz.underlying9 rfl) ?_
    refine Ja rfl rfl rfl (Jd (v := .int .i64 x6) rfl) ?_
    obtain ⟨t31, h_t31, H25⟩ := Jh H24; clear H24
    refine Ja rfl rfl rfl (U6 rfl rfl h_t31) ?_
    obtain ⟨t32, h_t32, H26⟩ := Jh H25; clear H25
    refine Ja rfl rfl rfl (r_cutToG Tryz.underlying9 rfl rfl h_t32) ?_
    refine Ja rfl rfl rfl (Jc (v := str t32) rfl) ?_
    refine Jf ?_
    refine Jl t32 () m1 [] (by exact ⟨rfl, rfl, trivial⟩) (by decide) rfl (by exact ⟨(by subst hn1; exact H26), trivial⟩) (Nat.lt_succ_self _)
 ·have H30 := Jo hb H16; clear H16
  refine Qr ?_
  refine Je ?_
  refine Jb ?_
  refine Ja rfl rfl rfl (Jd (v := str x0_2) rfl) ?_
  refine Ja rfl rfl rfl (Jc (v := str x0_2) rfl) ?_
  refine Jf ?_
  refine Jm ?_
  obtain rfl := Option.some.inj H30
  refine Jy (v := str x0_2) rfl rfl (Xh rfl)
theorem k83 {a0 : (List UInt8)} {a1 : (List UInt8)} {r : (List UInt8)} (H : Jap a0 a1 = some r) : Ret Tryz.prog 83 [str a0, str a1] (str r) := by
 refine Qc (n := 43) Tryz.func83 rfl rfl rfl (fun wd => ?_)
 refine Je ?_
 refine Jb ?_
 refine Ja rfl rfl rfl (Jc (v := str []) rfl) ?_
 refine Jf ?_
 refine Je ?_
 refine Je ?_
 refine Jb ?_
 refine Ja rfl rfl rfl (Jd (v := str a0) rfl) ?_
 refine Ja rfl rfl rfl (r_eqlT rfl rfl) ?_
 refine Ja rfl rfl rfl (Jd (v := .bool (decide (a0 = []))) rfl) ?_
 refine split (fun hb => ?_) (fun hb => ?_)
 ·have H22 := Jn hb H; clear H
  refine Ji rfl rfl rfl ?_
  refine Ji rfl rfl rfl ?_
  refine Ja rfl rfl rfl (Jz (v := .bool true) rfl rfl) ?_
  refine Jf ?_
  refine Ur rfl ?_
  refine Je ?_
  refine Jb ?_
  refine Ja rfl rfl rfl (Jd (v := str a0) rfl) ?_
  refine Ja rfl rfl rfl (Jc (v := str a0) rfl) ?_
  refine Jf ?_
  refine Jm ?_
  obtain rfl := Option.some.inj H22
  refine Jy (v := str a0) rfl rfl (Xh rfl)
 ·have H23 := Jo hb H; clear H
  refine Ja rfl rfl rfl (Jd (v := str a1) rfl) ?_
  refine Ja rfl rfl rfl (r_eqlT rfl rfl) ?_
  refine Ja rfl rfl rfl (Jw (v := .bool (decide (a1 = []))) rfl rfl) ?_
  refine Jf ?_
  refine J5 (b := (decide (a1 = []))) rfl (fun hb => ?_) (fun hb => ?_)
  ·have H24 := Jn hb H23; clear H23
   refine Je ?_
   refine Jb ?_
   refine Ja rfl rfl rfl (Jd (v := str a0) rfl) ?_
   refine Ja rfl rfl rfl (Jc (v := str a0) rfl) ?_
   refine Jf ?_
   refine Jm ?_
   obtain rfl := Option.some.inj H24
   refine Jy (v := str a0) rfl rfl (Xh rfl)
  ·have H25 := Jo hb H23; clear H23
   refine Jr ?_
   refine Xi (r := r) (σ := Unit) (τ := Unit) (fun s => W7 a0 a1) (fun s t => [(0, str a0), (1, str a1)]) (fun s t => []) (fun s t => True) ?_ ?_
   ·refine Je ?_
    refine Jb ?_
    refine Ja rfl rfl rfl (Jd (v := str a1) rfl) ?_
    refine Ja rfl rfl rfl (Wb Tryz.underlying9 rfl) ?_
    refine Ja rfl rfl rfl (Zp rfl rfl) ?_
    refine Ja rfl rfl rfl (Jd (v := .bool (decide ((a1.length : Int) = 1))) rfl) ?_
    refine split (fun hb => ?_) (fun hb => ?_)
    ·have H34 := Jn hb H25; clear H25
     refine Ja rfl rfl rfl (Jd (v := str a1) rfl) ?_
     obtain ⟨t19, h_t19, H35⟩ := Jh H34; clear H34
     refine Ja rfl rfl rfl (U5 Tryz.underlying9 rfl rfl h_t19) ?_
     refine Ja rfl rfl rfl (Q1 rfl rfl) ?_
     refine Ja rfl rfl rfl (Jz (v := .bool (decide (t19 < 128))) rfl rfl) ?_
     refine Jf ?_
     refine J5 (b := (decide (t19 < 128))) rfl (fun hb => ?_) (fun hb => ?_)
     ·have H36 := Jn hb H35; clear H35
      refine Je ?_
      exact Za (Kd.p :: Kd.p :: Kd.p :: Kd.d [] _ :: Kd.p :: Kd.p :: Kd.d [] _ :: Kd.p :: []) 0 mixed (by
       refine Jt rfl rfl (Jd (v := str a0) rfl) ?_
       refine Jt rfl rfl (Jd (v := str a1) rfl) ?_
       have h_t24 := Qx H36
       have H37 := Qg H36
       refine Jt rfl rfl (U5 Tryz.underlying9 rfl rfl h_t24) ?_
       have h_t25 := Qx H37
       have H38 := Qg H37
       refine d_call (k111 h_t25) Tryz.call111 rfl rfl ?_
       refine Jt rfl rfl (Jd (v := str a1) rfl) ?_
       have h_t27 := Qx H38
       have H39 := Qg H38
       refine Jt rfl rfl (U5 Tryz.underlying9 rfl rfl h_t27) ?_
       have h_t28 := Qx H39
       have H40 := Qg H39
       refine d_call (k110 h_t28) Tryz.call110 rfl rfl ?_
       refine Jt rfl rfl (Jc (v := str (val (Wa (val (Vv a0 (val (gOct a1 0)))) (val (gOct a1 0))))) rfl) ?_
       refine Ui ?_
       refine Jm ?_
       obtain rfl := Option.some.inj H40
       refine Jy (v := str (val (Wa (val (Vv a0 (val (gOct a1 0)))) (val (gOct a1 0))))) rfl rfl (Xh rfl)
       ) (by kernel_rfl)
     ·have H41 := Jo hb H35; clear H35
      refine Jr ?_
      refine Jl () () 0 [] (by exact ⟨rfl, rfl, trivial⟩) (by decide) rfl (by exact ⟨H41, trivial⟩) (Nat.lt_succ_self _)
    ·have H42 := Jo hb H25; clear H25
     refine Ji rfl rfl rfl ?_
     refine Ji rfl rfl rfl ?_
     refine Ji rfl rfl rfl ?_
     refine Ja rfl rfl rfl (Jw (v := .bool false) rfl rfl) ?_
     refine Jf ?_
     refine Wi rfl ?_
     refine Jr ?_
     refine Jl () () 0 [] (by exact ⟨rfl, rfl, trivial⟩) (by decide) rfl (by exact ⟨H42, trivial⟩) (Nat.lt_succ_self _)
   ·rintro _ _ gg H26 _
    replace H26 : W7 a0 a1 = some r := H26
    try dsimp only
    refine Je ?_
    refine Je ?_
    refine Jb ?_
    refine Ja rfl rfl rfl (Jd (v := str a1) rfl) ?_
    obtain ⟨t31, h_t31, H27⟩ := Jh H26; clear H26
    refine Qu (k112 h_t31) Tryz.call112 rfl rfl rfl ?_
    refine Ja rfl rfl rfl (Jd (v := .tuple #[.agg (List.toArray (W9 256 (fun j_ => [.bool (t31.1 j_)]))), .bool t31.2]) rfl) ?_
    refine Ja rfl rfl rfl (Qz (v := .agg (List.toArray (W9 256 (fun j_ => [.bool (t31.1 j_)])))) rfl rfl) ?_
    refine Ja rfl rfl rfl (Qz (v := .bool t31.2) rfl rfl) ?_
    refine Zo (cs := (W9 256 (fun j_ => [.bool ((fun _ => false) j_)]))) Tryz.zeroValue144 (by kernel_rfl) rfl rfl (fun b1 => ?_)
    refine X3 (i := 0) (vs := (W9 256 (fun j_ => [.bool (t31.1 j_)]))) (cs' := (W9 256 (fun j_ => [.bool (t31.1 j_)]))) Tryz.sizeOf144 rfl rfl rfl rfl (Wm (fun _ => rfl)) rfl (arrC_one (fun _ => rfl)) rfl (wr_whole ((Wm (fun _ => rfl)).trans (Wm (fun _ => rfl)).symm)) ?_
    refine Ja rfl rfl rfl (Jc (v := .bool t31.2) rfl) ?_
    refine Jf ?_
    refine Je ?_
    refine Jb ?_
    refine Ja rfl rfl rfl (Jd (v := .bool t31.2) rfl) ?_
    refine Jf ?_
    refine J5 (b := t31.2) rfl (fun hb => ?_) (fun hb => ?_)
    ·have H28 := Jn hb H27; clear H27
     refine Je ?_
     refine Jb ?_
     refine Ja rfl rfl rfl (Jd (v := str a0) rfl) ?_
     obtain ⟨t36, h_t36, H29⟩ := Jh H28; clear H28
     refine Yl (Q7 (i := 0) (rds := []) (G := fun x : Unit => str t36.1) (C := fun x : Unit => Jp b1 (W9 256 (fun j_ => [.bool (t36.2 j_)])) 144) rfl (fun w L' S hF hS hi hp hlt ho hA => k114 hp hlt (Y0 w S)  h_t36) Tryz.call114 rfl) rfl rfl rfl (fun _ => ?_)
     obtain ⟨t37, h_t37, H30⟩ := Jh H29; clear H29
     refine Yl (Q7 (i := 0) (rds := []) (G := fun x : Unit => str t37.1) (C := fun x : Unit => Jp b1 (W9 256 (fun j_ => [.bool (t37.2 j_)])) 144) rfl (fun w L' S hF hS hi hp hlt ho hA => k113 hp hlt (Y0 w S)  h_t37) Tryz.call113 rfl) rfl rfl rfl (fun _ => ?_)
     refine Ja rfl rfl rfl (Jc (v := str t37.1) rfl) ?_
     refine Jf ?_
     refine Jm ?_
     obtain rfl := Option.some.inj H30
     refine Jy (v := str t37.1) rfl rfl (Xh rfl)
    ·have H31 := Jo hb H27; clear H27
     refine Jr ?_
     refine Je ?_
     refine Jb ?_
     refine Ja rfl rfl rfl (Jd (v := str a0) rfl) ?_
     refine Ja rfl rfl rfl (Jd (v := str a1) rfl) ?_
     obtain ⟨t40, h_t40, H32⟩ := Jh H31; clear H31
     refine Qu (k116 h_t40) Tryz.call116 rfl rfl rfl ?_
     refine Ja rfl rfl rfl (Jd (v := str a1) rfl) ?_
     obtain ⟨t42, h_t42, H33⟩ := Jh H32; clear H32
     refine Qu (k115 h_t42) Tryz.call115 rfl rfl rfl ?_
     refine Ja rfl rfl rfl (Jc (v := str t42) rfl) ?_
     refine Jf ?_
     refine Jm ?_
     obtain rfl := Option.some.inj H33
     refine Jy (v := str t42) rfl rfl (Xh rfl)
theorem k54 {a0 : (List UInt8)} {r : Bool} (H : sync_isFile a0 = some r) : Ret Tryz.prog 54 [str a0] (.bool r) := by
 refine Qc (n := 11) Tryz.func54 rfl rfl rfl (fun wd => ?_)
 refine Je ?_
 refine Jb ?_
 refine Ja rfl rfl rfl (Jc (v := .bool false) rfl) ?_
 refine Jf ?_
 refine Je ?_
 refine Jb ?_
 refine Ja rfl rfl rfl (Jd (v := str a0) rfl) ?_
 refine Ja rfl rfl rfl (Wb Tryz.underlying9 rfl) ?_
 refine Ja rfl rfl rfl (Zp rfl rfl) ?_
 refine Ja rfl rfl rfl (Jd (v := .bool (decide ((a0.length : Int) = 16))) rfl) ?_
 refine split (fun hb => ?_) (fun hb => ?_)
 ·have H4 := Jn hb H; clear H
  refine Ja rfl rfl rfl (Jd (v := str a0) rfl) ?_
  obtain ⟨t8, h_t8, H5⟩ := Jh H4; clear H4
  refine Qu (k83 h_t8) Tryz.call83 rfl rfl rfl ?_
  refine Ja rfl rfl rfl (r_eqlT rfl rfl) ?_
  refine Ja rfl rfl rfl (Jz (v := .bool (decide (t8 = []))) rfl rfl) ?_
  refine Ja rfl rfl rfl (Jc (v := .bool (decide (t8 = []))) rfl) ?_
  refine Jf ?_
  refine Jm ?_
  obtain rfl := Option.some.inj H5
  refine Jy (v := .bool (decide (t8 = []))) rfl rfl (Xh rfl)
 ·have H6 := Jo hb H; clear H
  refine Ji rfl rfl rfl ?_
  refine Ji rfl rfl rfl ?_
  refine Ji rfl rfl rfl ?_
  refine Ja rfl rfl rfl (Jw (v := .bool false) rfl rfl) ?_
  refine Ja rfl rfl rfl (Jc (v := .bool false) rfl) ?_
  refine Jf ?_
  refine Jm ?_
  obtain rfl := Option.some.inj H6
  refine Jy (v := .bool false) rfl rfl (Xh rfl)
theorem k85 {a0 : (List Int)} {v0 : Value} {a1 : (Int → Option (Bool))} {v1 : Value} {r : Int} {w : World} {h : J3} (hw : Know h w Zh) (f0 : FrS h 1 v0 (a0.map e_u8)) (f1 : FnH Tryz.prog h v1 (U4 a1)) (H : Vx a0 a1 = some r) : Does Tryz.prog 85 (List.toArray [v0, v1]) w (fun v w' => v = (.int .i64 r) ∧ Grow w w') := by
 refine enter (n := 19) Tryz.func85 rfl rfl rfl Zh [] (Sat.nil _ _) ?_
 refine Je ?_
 refine Jb ?_
 refine Ja rfl rfl rfl (Jc (v := .int .i64 0) rfl) ?_
 refine Jf ?_
 refine Je ?_
 refine Je ?_
 refine Jb ?_
 refine Ja rfl rfl rfl (Jd (v := v0) rfl) ?_
 refine Ja rfl rfl rfl (Zl Tryz.underlying107 rfl f0 rfl) ?_
 refine Ja rfl rfl rfl (Jd (v := .int .i64 0) rfl) ?_
 refine Jf ?_
 refine Ju ?_
 refine Yv (σ := Int) (τ := Unit) (fun next1 s => J8 a0 a1 next1 s) (fun s t => [(0, v0), (1, v1), (7, .int .i64 (a0.length : Int)), (8, .int .i64 s)]) (fun s t => []) (fun s t => True) 0 () [] H (by exact trivial) (by exact ⟨rfl, rfl, rfl, rfl, trivial⟩) (by decide) rfl ?_
 rintro x8_2 _ m1 gg H9 _
 clear H
 replace H9 : J8 a0 a1 (it (fun next1 s => J8 a0 a1 next1 s) m1) x8_2 = some r := H9
 generalize hn1 : it (fun next1 s => J8 a0 a1 next1 s) m1 = next1 at H9
 try dsimp only
 refine Je ?_
 refine Jb ?_
 refine Ja rfl rfl rfl (Q1 rfl rfl) ?_
 refine Jf ?_
 refine Je ?_
 refine J5 (b := (decide (x8_2 < (a0.length : Int)))) rfl (fun hb => ?_) (fun hb => ?_)
 ·have H10 := Jn hb H9; clear H9
  refine Jr ?_
  refine Je ?_
  refine Ju ?_
  refine Je ?_
  refine Jb ?_
  refine Ja rfl rfl rfl (Jd (v := .int .i64 x8_2) rfl) ?_
  refine Ja rfl rfl rfl (Jc (v := .int .i64 x8_2) rfl) ?_
  refine Jf ?_
  refine Je ?_
  refine Jb ?_
  refine Ja rfl rfl rfl (Jd (v := v1) rfl) ?_
  refine Ja rfl rfl rfl (Jd (v := v0) rfl) ?_
  refine Ja rfl rfl rfl (Jd (v := .int .i64 x8_2) rfl) ?_
  obtain ⟨t14, h_t14, H11⟩ := Jh H10; clear H10
  refine Ja rfl rfl rfl (Qm Tryz.underlying107 Tryz.sizeOf5 rfl rfl f0 h_t14) ?_
  refine Qa (fun w hF hS => Qj (f := e_u8) (i := x8_2) (sz := 1) (j := 0) (v := .int .u8 t14) Tryz.isAgg5 rfl rfl (f0.row (hw.now hF)) h_t14 rfl) rfl rfl rfl ?_
  obtain ⟨t16, h_t16, H12⟩ := Jh H11; clear H11
  refine l_callV (R := U4 a1) (r := .bool t16) (v := v1) (fun w hF hS => ⟨(f1.mono (hw.now hF)), ⟨t14, _, rfl, h_t16, rfl⟩⟩) rfl rfl rfl rfl ?_
  refine Jf ?_
  refine J5 (b := t16) rfl (fun hb => ?_) (fun hb => ?_)
  ·have H13 := Jn hb H12; clear H12
   refine Je ?_
   refine Jb ?_
   refine Ja rfl rfl rfl (Jd (v := .int .i64 x8_2) rfl) ?_
   refine Ja rfl rfl rfl (Jc (v := .int .i64 x8_2) rfl) ?_
   refine Jf ?_
   refine Jm ?_
   obtain rfl := Option.some.inj H13
   refine Jy (v := .int .i64 x8_2) rfl rfl (Xh rfl)
  ·have H14 := Jo hb H12; clear H12
   refine Jr ?_
   refine Jb ?_
   obtain ⟨t18, h_t18, H15⟩ := Jh H14; clear H14
   refine Ja rfl rfl rfl (Q2 rfl rfl h_t18) ?_
   refine Ja rfl rfl rfl (Jd (v := .int .i64 t18) rfl) ?_
   refine Jf ?_
   refine Jl t18 () m1 [] (by exact ⟨rfl, rfl, rfl, rfl, trivial⟩) (by decide) rfl (by exact ⟨(by subst hn1; exact H15), trivial⟩) (Nat.lt_succ_self _)
 ·have H16 := Jo hb H9; clear H9
  refine Qr ?_
  refine Je ?_
  refine Jb ?_
  refine Ja rfl rfl rfl (Jc (v := .int .i64 (-1)) rfl) ?_
  refine Jf ?_
  refine Jm ?_
  obtain rfl := Option.some.inj H16
  refine Jy (v := .int .i64 (-1)) rfl rfl (Xh rfl)
theorem k71 {a0 : (List Int)} {v0 : Value} {a1 : (Int → Option (Bool))} {v1 : Value} {r : Bool} {w : World} {h : J3} (hw : Know h w Zh) (f0 : FrS h 1 v0 (a0.map e_u8)) (f1 : FnH Tryz.prog h v1 (U4 a1)) (H : X8 a0 a1 = some r) : Does Tryz.prog 71 (List.toArray [v0, v1]) w (fun v w' => v = (.bool r) ∧ Grow w w') := by
 refine enter (n := 9) Tryz.func71 rfl rfl rfl Zh [] (Sat.nil _ _) ?_
 refine Je ?_
 refine Jb ?_
 refine Ja rfl rfl rfl (Jc (v := .bool false) rfl) ?_
 refine Jf ?_
 refine Je ?_
 refine Jb ?_
 refine Ja rfl rfl rfl (Jd (v := v0) rfl) ?_
 refine Ja rfl rfl rfl (Jd (v := v1) rfl) ?_
 obtain ⟨t7, h_t7, H2⟩ := Jh H; clear H
 refine Xq (fun w hF hS => k85 (Jx w) (f0.mono (hw.now hF)) (f1.mono (hw.now hF)) h_t7) Tryz.call85 rfl rfl rfl ?_
 refine Ja rfl rfl rfl (r_geq rfl rfl) ?_
 refine Ja rfl rfl rfl (Jc (v := .bool (decide (0 ≤ t7))) rfl) ?_
 refine Jf ?_
 refine Jm ?_
 obtain rfl := Option.some.inj H2
 refine Jy (v := .bool (decide (0 ≤ t7))) rfl rfl (Xh rfl)
theorem k84 {a0 : Int} {r : Bool} (H : Vb a0 = some r) : Ret Tryz.prog 84 [.int .u8 a0] (.bool r) := by
 refine Qc (n := 5) Tryz.func84 rfl rfl rfl (fun wd => ?_)
 refine Je ?_
 refine Jb ?_
 refine Ja rfl rfl rfl (Jc (v := .bool false) rfl) ?_
 refine Jf ?_
 refine Je ?_
 refine Jb ?_
 refine Ja rfl rfl rfl (Jd (v := .int .u8 a0) rfl) ?_
 refine Ja rfl rfl rfl (Q1 rfl rfl) ?_
 refine Ja rfl rfl rfl (Jc (v := .bool (decide (a0 < 32))) rfl) ?_
 refine Jf ?_
 refine Jm ?_
 obtain rfl := Option.some.inj H
 refine Jy (v := .bool (decide (a0 < 32))) rfl rfl (Xh rfl)
theorem k55 {a0 : (List UInt8)} {r : Int} (H : Uk a0 = some r) : Ret Tryz.prog 55 [str a0] (.int .i64 r) := by
 refine Qc (n := 11) Tryz.func55 rfl rfl rfl (fun wd => ?_)
 refine Je ?_
 refine Jb ?_
 refine Ja rfl rfl rfl (Jc (v := .int .i64 0) rfl) ?_
 refine Jf ?_
 refine Je ?_
 refine Ju ?_
 refine Je ?_
 refine Jb ?_
 refine Ja rfl rfl rfl (Jd (v := str a0) rfl) ?_
 refine Ja rfl rfl rfl (Wb Tryz.underlying9 rfl) ?_
 refine Ja rfl rfl rfl (Wz rfl rfl) ?_
 refine Ja rfl rfl rfl (Jc (v := .bool (decide (200 < (a0.length : Int)))) rfl) ?_
 refine Jf ?_
 refine J5 (b := (decide (200 < (a0.length : Int)))) rfl (fun hb => ?_) (fun hb => ?_)
 ·have H7 := Jn hb H; clear H
  refine Je ?_
  refine Jb ?_
  refine Ja rfl rfl rfl (Jc (v := .int .i64 4) rfl) ?_
  refine Jf ?_
  refine Jm ?_
  obtain rfl := Option.some.inj H7
  refine Jy (v := .int .i64 4) rfl rfl (Xh rfl)
 ·have H8 := Jo hb H; clear H
  refine Je ?_
  refine Jb ?_
  refine Ja rfl rfl rfl (Jd (v := str a0) rfl) ?_
  obtain ⟨t9, h_t9, H9⟩ := Jh H8; clear H8
  refine Zf (rds := []) (makes_byt (f := e_u8) (s := a0) Tryz.underlying9 Tryz.underlying107 Tryz.underlying5 rfl (fun _ => rfl) h_t9) rfl rfl rfl (fun p => ?_)
  obtain ⟨t10, h_t10, H10⟩ := Jh H9; clear H9
  refine Xq (fun w hF hS => k71 (Jx w) (frs_mk (i := 0) hS rfl) (FnH.mk ⟨84, #[], #[], rfl, Tryz.call84, fun args2 post2 w2 hk2 hR2 => by obtain ⟨a0_, r_, rfl, H_, rfl⟩ := hR2; exact k84 H_ w2⟩) h_t10) Tryz.call71 rfl rfl rfl ?_
  refine Ja rfl rfl rfl (Jc (v := .bool t10) rfl) ?_
  refine Jf ?_
  refine J5 (b := t10) rfl (fun hb => ?_) (fun hb => ?_)
  ·have H11 := Jn hb H10; clear H10
   refine Je ?_
   refine Jb ?_
   refine Ja rfl rfl rfl (Jc (v := .int .i64 9) rfl) ?_
   refine Jf ?_
   refine Jm ?_
   obtain rfl := Option.some.inj H11
   refine Jy (v := .int .i64 9) rfl rfl (Xh rfl)
  ·have H12 := Jo hb H10; clear H10
   refine Jr ?_
   refine Je ?_
   refine Jb ?_
   refine Ja rfl rfl rfl (Jc (v := .int .i64 0) rfl) ?_
   refine Jf ?_
   refine Jm ?_
   obtain rfl := Option.some.inj H12
   refine Jy (v := .int .i64 0) rfl rfl (Xh rfl)
theorem k56 {a0 : (List UInt8)} {r : Bool} (H : where_IsName a0 = some r) : Ret Tryz.prog 56 [str a0] (.bool r) := by
 refine Qc (n := 50) Tryz.func56 rfl rfl rfl (fun wd => ?_)
 refine Je ?_
 refine Jb ?_
 refine Ja rfl rfl rfl (Jc (v := .bool false) rfl) ?_
 refine Jf ?_
 refine Je ?_
 refine Je ?_
 refine Jb ?_
 refine Ja rfl rfl rfl (Jd (v := str a0) rfl) ?_
 refine Ja rfl rfl rfl (r_eqlT rfl rfl) ?_
 refine Ja rfl rfl rfl (Jd (v := .bool (decide (a0 = []))) rfl) ?_
 refine split (fun hb => ?_) (fun hb => ?_)
 ·have H37 := Jn hb H; clear H
  refine Ji rfl rfl rfl ?_
  refine Ji rfl rfl rfl ?_
  refine Ji rfl rfl rfl ?_
  refine Ja rfl rfl rfl (Jz (v := .bool true) rfl rfl) ?_
  refine Ja rfl rfl rfl (Jd (v := .bool true) rfl) ?_
  refine Ji rfl rfl rfl ?_
  refine Ji rfl rfl rfl ?_
  refine Ji rfl rfl rfl ?_
  refine Ja rfl rfl rfl (Jz (v := .bool true) rfl rfl) ?_
  refine Ja rfl rfl rfl (Jd (v := .bool true) rfl) ?_
  refine Ji rfl rfl rfl ?_
  refine Ji rfl rfl rfl ?_
  refine Ji rfl rfl rfl ?_
  refine Ja rfl rfl rfl (Jz (v := .bool true) rfl rfl) ?_
  refine Jf ?_
  refine Ur rfl ?_
  refine Je ?_
  refine Jb ?_
  refine Ja rfl rfl rfl (Jc (v := .bool false) rfl) ?_
  refine Jf ?_
  refine Jm ?_
  obtain rfl := Option.some.inj H37
  refine Jy (v := .bool false) rfl rfl (Xh rfl)
 ·have H38 := Jo hb H; clear H
  refine Ja rfl rfl rfl (Jd (v := str a0) rfl) ?_
  refine Ja rfl rfl rfl (Wb Tryz.underlying9 rfl) ?_
  refine Ja rfl rfl rfl (Wz rfl rfl) ?_
  refine Ja rfl rfl rfl (Jw (v := .bool (decide (40 < (a0.length : Int)))) rfl rfl) ?_
  refine Ja rfl rfl rfl (Jd (v := .bool (decide (40 < (a0.length : Int)))) rfl) ?_
  refine split (fun hb => ?_) (fun hb => ?_)
  ·have H39 := Jn hb H38; clear H38
   refine Ji rfl rfl rfl ?_
   refine Ji rfl rfl rfl ?_
   refine Ji rfl rfl rfl ?_
   refine Ja rfl rfl rfl (Jz (v := .bool true) rfl rfl) ?_
   refine Ja rfl rfl rfl (Jd (v := .bool true) rfl) ?_
   refine Ji rfl rfl rfl ?_
   refine Ji rfl rfl rfl ?_
   refine Ji rfl rfl rfl ?_
   refine Ja rfl rfl rfl (Jz (v := .bool true) rfl rfl) ?_
   refine Jf ?_
   refine Ur rfl ?_
   refine Je ?_
   refine Jb ?_
   refine Ja rfl rfl rfl (Jc (v := .bool false) rfl) ?_
   refine Jf ?_
   refine Jm ?_
   obtain rfl := Option.some.inj H39
   refine Jy (v := .bool false) rfl rfl (Xh rfl)
  ·have H40 := Jo hb H38; clear H38
   refine Ja rfl rfl rfl (Jd (v := str a0) rfl) ?_
   obtain ⟨t14, h_t14, H41⟩ := Jh H40; clear H40
   refine Ja rfl rfl rfl (U5 Tryz.underlying9 rfl rfl h_t14) ?_
   refine Ja rfl rfl rfl (Q1 rfl rfl) ?_
   refine Ja rfl rfl rfl (Jw (v := .bool (decide (t14 < 97))) rfl rfl) ?_
   refine Ja rfl rfl rfl (Jd (v := .bool (decide (t14 < 97))) rfl) ?_
   refine split (fun hb => ?_) (fun hb => ?_)
   ·have H42 := Jn hb H41; clear H41
    refine Ji rfl rfl rfl ?_
    refine Ji rfl rfl rfl ?_
    refine Ji rfl rfl rfl ?_
    refine Ja rfl rfl rfl (Jz (v := .bool true) rfl rfl) ?_
    refine Jf ?_
    refine Ur rfl ?_
    refine Je ?_
    refine Jb ?_
    refine Ja rfl rfl rfl (Jc (v := .bool false) rfl) ?_
    refine Jf ?_
    refine Jm ?_
    obtain rfl := Option.some.inj H42
    refine Jy (v := .bool false) rfl rfl (Xh rfl)
   ·have H43 := Jo hb H41; clear H41
    refine Ja rfl rfl rfl (Jd (v := str a0) rfl) ?_
    obtain ⟨t19, h_t19, H44⟩ := Jh H43; clear H43
    refine Ja rfl rfl rfl (U5 Tryz.underlying9 rfl rfl h_t19) ?_
    refine Ja rfl rfl rfl (Wz rfl rfl) ?_
    refine Ja rfl rfl rfl (Jw (v := .bool (decide (122 < t19))) rfl rfl) ?_
    refine Jf ?_
    refine J5 (b := (decide (122 < t19))) rfl (fun hb => ?_) (fun hb => ?_)
    ·have H45 := Jn hb H44; clear H44
     refine Je ?_
     refine Jb ?_
     refine Ja rfl rfl rfl (Jc (v := .bool false) rfl) ?_
     refine Jf ?_
     refine Jm ?_
     obtain rfl := Option.some.inj H45
     refine Jy (v := .bool false) rfl rfl (Xh rfl)
    ·have H46 := Jo hb H44; clear H44
     refine Jr ?_
     refine Je ?_
     refine Je ?_
     refine Jb ?_
     refine Ja rfl rfl rfl (Jd (v := str a0) rfl) ?_
     refine Ja rfl rfl rfl (Wb Tryz.underlying9 rfl) ?_
     refine Ja rfl rfl rfl (Jd (v := .int .i64 0) rfl) ?_
     refine Jf ?_
     refine Ju ?_
     refine Yv (σ := Int) (τ := Unit) (fun next1 s => Xt a0 next1 s) (fun s t => [(0, str a0), (23, .int .i64 (a0.length : Int)), (24, .int .i64 s)]) (fun s t => []) (fun s t => True) 0 () [] H46 (by exact trivial) (by exact ⟨rfl, rfl, rfl, trivial⟩) (by decide) rfl ?_
     rintro x24_2 _ m1 gg H47 _
     clear H46
     replace H47 : Xt a0 (it (fun next1 s => Xt a0 next1 s) m1) x24_2 = some r := H47
     generalize hn1 : it (fun next1 s => Xt a0 next1 s) m1 = next1 at H47
     try dsimp only
     refine Je ?_
     refine Jb ?_
     refine Ja rfl rfl rfl (Q1 rfl rfl) ?_
     refine Jf ?_
     refine Je ?_
     refine J5 (b := (decide (x24_2 < (a0.length : Int)))) rfl (fun hb => ?_) (fun hb => ?_)
     ·have H48 := Jn hb H47; clear H47
      refine Jr ?_
      refine Xi (r := r) (σ := Unit) (τ := Unit) (fun s => X6 x24_2 next1) (fun s t => [(0, str a0), (23, .int .i64 (a0.length : Int)), (24, .int .i64 x24_2)]) (fun s t => []) (fun s t => True) ?_ ?_
      ·refine Ju ?_
       refine Je ?_
       refine Jb ?_
       refine Ja rfl rfl rfl (Jd (v := .int .i64 x24_2) rfl) ?_
       refine Ja rfl rfl rfl (Jc (v := .int .i64 x24_2) rfl) ?_
       refine Jf ?_
       refine Je ?_
       refine Jb ?_
       refine Ja rfl rfl rfl (Jd (v := str a0) rfl) ?_
       refine Ja rfl rfl rfl (Jd (v := .int .i64 x24_2) rfl) ?_
       obtain ⟨t29, h_t29, H51⟩ := Jh H48; clear H48
       refine Ja rfl rfl rfl (U5 Tryz.underlying9 rfl rfl h_t29) ?_
       refine Ja rfl rfl rfl (Jc (v := .int .u8 t29) rfl) ?_
       refine Jf ?_
       refine Je ?_
       refine Jb ?_
       refine Ja rfl rfl rfl (Jd (v := .int .u8 t29) rfl) ?_
       refine Ja rfl rfl rfl (r_geq rfl rfl) ?_
       refine Ja rfl rfl rfl (Jd (v := .bool (decide (97 ≤ t29))) rfl) ?_
       refine split (fun hb => ?_) (fun hb => ?_)
       ·have H52 := Jn hb H51; clear H51
        refine Ja rfl rfl rfl (Jd (v := .int .u8 t29) rfl) ?_
        refine Ja rfl rfl rfl (r_leq rfl rfl) ?_
        refine Ja rfl rfl rfl (Jz (v := .bool (decide (t29 ≤ 122))) rfl rfl) ?_
        refine Ja rfl rfl rfl (Jd (v := .bool (decide (t29 ≤ 122))) rfl) ?_
        refine split (fun hb => ?_) (fun hb => ?_)
        ·have H53 := Jn hb H52; clear H52
         refine Ji rfl rfl rfl ?_
         refine Ji rfl rfl rfl ?_
         refine Ji rfl rfl rfl ?_
         refine Ji rfl rfl rfl ?_
         refine Ji rfl rfl rfl ?_
         refine Ji rfl rfl rfl ?_
         refine Ja rfl rfl rfl (Jz (v := .bool true) rfl rfl) ?_
         refine Ja rfl rfl rfl (Jd (v := .bool true) rfl) ?_
         refine Ji rfl rfl rfl ?_
         refine Ji rfl rfl rfl ?_
         refine Ja rfl rfl rfl (Jz (v := .bool true) rfl rfl) ?_
         refine Ja rfl rfl rfl (r_notT rfl) ?_
         refine Jf ?_
         refine Wi rfl ?_
         refine Jr ?_
         refine Jl () () 0 [] (by exact ⟨rfl, rfl, rfl, trivial⟩) (by decide) rfl (by exact ⟨H53, trivial⟩) (Nat.lt_succ_self _)
        ·have H54 := Jo hb H52; clear H52
         refine Ja rfl rfl rfl (Jd (v := .int .u8 t29) rfl) ?_
         refine Ja rfl rfl rfl (r_geq rfl rfl) ?_
         refine Ja rfl rfl rfl (Jd (v := .bool (decide (48 ≤ t29))) rfl) ?_
         refine split (fun hb => ?_) (fun hb => ?_)
         ·have H55 := Jn hb H54; clear H54
          refine Ja rfl rfl rfl (Jd (v := .int .u8 t29) rfl) ?_
          refine Ja rfl rfl rfl (r_leq rfl rfl) ?_
          refine Ja rfl rfl rfl (Jz (v := .bool (decide (t29 ≤ 57))) rfl rfl) ?_
          refine Ja rfl rfl rfl (Jw (v := .bool (decide (t29 ≤ 57))) rfl rfl) ?_
          refine Ja rfl rfl rfl (Jd (v := .bool (decide (t29 ≤ 57))) rfl) ?_
          refine split (fun hb => ?_) (fun hb => ?_)
          ·have H56 := Jn hb H55; clear H55
           refine Ji rfl rfl rfl ?_
           refine Ji rfl rfl rfl ?_
           refine Ja rfl rfl rfl (Jz (v := .bool true) rfl rfl) ?_
           refine Ja rfl rfl rfl (r_notT rfl) ?_
           refine Jf ?_
           refine Wi rfl ?_
           refine Jr ?_
           refine Jl () () 0 [] (by exact ⟨rfl, rfl, rfl, trivial⟩) (by decide) rfl (by exact ⟨H56, trivial⟩) (Nat.lt_succ_self _)
          ·have H57 := Jo hb H55; clear H55
           refine Ja rfl rfl rfl (Jd (v := .int .u8 t29) rfl) ?_
           refine Ja rfl rfl rfl (Zp rfl rfl) ?_
           refine Ja rfl rfl rfl (Jw (v := .bool (decide (t29 = 45))) rfl rfl) ?_
           refine Ja rfl rfl rfl (Vt rfl) ?_
           refine Jf ?_
           refine J5 (b := (!(decide (t29 = 45)))) rfl (fun hb => ?_) (fun hb => ?_)
           ·have H58 := Jn hb H57; clear H57
            refine Je ?_
            refine Jb ?_
            refine Ja rfl rfl rfl (Jc (v := .bool false) rfl) ?_
            refine Jf ?_
            refine Jm ?_
            obtain rfl := Option.some.inj H58
            refine Jy (v := .bool false) rfl rfl (Xh rfl)
           ·have H59 := Jo hb H57; clear H57
            refine Jr ?_
            refine Jl () () 0 [] (by exact ⟨rfl, rfl, rfl, trivial⟩) (by decide) rfl (by exact ⟨H59, trivial⟩) (Nat.lt_succ_self _)
         ·have H60 := Jo hb H54; clear H54
          refine Ji rfl rfl rfl ?_
          refine Ji rfl rfl rfl ?_
          refine Ja rfl rfl rfl (Jw (v := .bool false) rfl rfl) ?_
          refine Ja rfl rfl rfl (Jw (v := .bool false) rfl rfl) ?_
          refine Ja rfl rfl rfl (Jd (v := .bool false) rfl) ?_
          refine Ja rfl rfl rfl (Jd (v := .int .u8 t29) rfl) ?_
          refine Ja rfl rfl rfl (Zp rfl rfl) ?_
          refine Ja rfl rfl rfl (Jw (v := .bool (decide (t29 = 45))) rfl rfl) ?_
          refine Ja rfl rfl rfl (Vt rfl) ?_
          refine Jf ?_
          refine J5 (b := (!(decide (t29 = 45)))) rfl (fun hb => ?_) (fun hb => ?_)
          ·have H61 := Jn hb H60; clear H60
           refine Je ?_
           refine Jb ?_
           refine Ja rfl rfl rfl (Jc (v := .bool false) rfl) ?_
           refine Jf ?_
           refine Jm ?_
           obtain rfl := Option.some.inj H61
           refine Jy (v := .bool false) rfl rfl (Xh rfl)
          ·have H62 := Jo hb H60; clear H60
           refine Jr ?_
           refine Jl () () 0 [] (by exact ⟨rfl, rfl, rfl, trivial⟩) (by decide) rfl (by exact ⟨H62, trivial⟩) (Nat.lt_succ_self _)
       ·have H63 := Jo hb H51; clear H51
        refine Ji rfl rfl rfl ?_
        refine Ji rfl rfl rfl ?_
        refine Ja rfl rfl rfl (Jw (v := .bool false) rfl rfl) ?_
        refine Ja rfl rfl rfl (Jd (v := .bool false) rfl) ?_
        refine Ja rfl rfl rfl (Jd (v := .int .u8 t29) rfl) ?_
        refine Ja rfl rfl rfl (r_geq rfl rfl) ?_
        refine Ja rfl rfl rfl (Jd (v := .bool (decide (48 ≤ t29))) rfl) ?_
        refine split (fun hb => ?_) (fun hb => ?_)
        ·have H64 := Jn hb H63; clear H63
         refine Ja rfl rfl rfl (Jd (v := .int .u8 t29) rfl) ?_
         refine Ja rfl rfl rfl (r_leq rfl rfl) ?_
         refine Ja rfl rfl rfl (Jz (v := .bool (decide (t29 ≤ 57))) rfl rfl) ?_
         refine Ja rfl rfl rfl (Jw (v := .bool (decide (t29 ≤ 57))) rfl rfl) ?_
         refine Ja rfl rfl rfl (Jd (v := .bool (decide (t29 ≤ 57))) rfl) ?_
         refine split (fun hb => ?_) (fun hb => ?_)
         ·have H65 := Jn hb H64; clear H64
          refine Ji rfl rfl rfl ?_
          refine Ji rfl rfl rfl ?_
          refine Ja rfl rfl rfl (Jz (v := .bool true) rfl rfl) ?_
          refine Ja rfl rfl rfl (r_notT rfl) ?_
          refine Jf ?_
          refine Wi rfl ?_
          refine Jr ?_
          refine Jl () () 0 [] (by exact ⟨rfl, rfl, rfl, trivial⟩) (by decide) rfl (by exact ⟨H65, trivial⟩) (Nat.lt_succ_self _)
         ·have H66 := Jo hb H64; clear H64
          refine Ja rfl rfl rfl (Jd (v := .int .u8 t29) rfl) ?_
          refine Ja rfl rfl rfl (Zp rfl rfl) ?_
          refine Ja rfl rfl rfl (Jw (v := .bool (decide (t29 = 45))) rfl rfl) ?_
          refine Ja rfl rfl rfl (Vt rfl) ?_
          refine Jf ?_
          refine J5 (b := (!(decide (t29 = 45)))) rfl (fun hb => ?_) (fun hb => ?_)
          ·have H67 := Jn hb H66; clear H66
           refine Je ?_
           refine Jb ?_
           refine Ja rfl rfl rfl (Jc (v := .bool false) rfl) ?_
           refine Jf ?_
           refine Jm ?_
           obtain rfl := Option.some.inj H67
           refine Jy (v := .bool false) rfl rfl (Xh rfl)
          ·have H68 := Jo hb H66; clear H66
           refine Jr ?_
           refine Jl () () 0 [] (by exact ⟨rfl, rfl, rfl, trivial⟩) (by decide) rfl (by exact ⟨H68, trivial⟩) (Nat.lt_succ_self _)
        ·have H69 := Jo hb H63; clear H63
         refine Ji rfl rfl rfl ?_
         refine Ji rfl rfl rfl ?_
         refine Ja rfl rfl rfl (Jw (v := .bool false) rfl rfl) ?_
         refine Ja rfl rfl rfl (Jw (v := .bool false) rfl rfl) ?_
         refine Ja rfl rfl rfl (Jd (v := .bool false) rfl) ?_
         refine Ja rfl rfl rfl (Jd (v := .int .u8 t29) rfl) ?_
         refine Ja rfl rfl rfl (Zp rfl rfl) ?_
         refine Ja rfl rfl rfl (Jw (v := .bool (decide (t29 = 45))) rfl rfl) ?_
         refine Ja rfl rfl rfl (Vt rfl) ?_
         refine Jf ?_
         refine J5 (b := (!(decide (t29 = 45)))) rfl (fun hb => ?_) (fun hb => ?_)
         ·have H70 := Jn hb H69; clear H69
          refine Je ?_
          refine Jb ?_
          refine Ja rfl rfl rfl (Jc (v := .bool false) rfl) ?_
          refine Jf ?_
          refine Jm ?_
          obtain rfl := Option.some.inj H70
          refine Jy (v := .bool false) rfl rfl (Xh rfl)
         ·have H71 := Jo hb H69; clear H69
          refine Jr ?_
          refine Jl () () 0 [] (by exact ⟨rfl, rfl, rfl, trivial⟩) (by decide) rfl (by exact ⟨H71, trivial⟩) (Nat.lt_succ_self _)
      ·rintro _ _ gg H49 _
       replace H49 : X6 x24_2 next1 = some r := H49
       try dsimp only
       refine Jb ?_
       obtain ⟨t49, h_t49, H50⟩ := Jh H49; clear H49
       refine Ja rfl rfl rfl (Q2 rfl rfl h_t49) ?_
       refine Ja rfl rfl rfl (Jd (v := .int .i64 t49) rfl) ?_
       refine Jf ?_
       refine Jl t49 () m1 [] (by exact ⟨rfl, rfl, rfl, trivial⟩) (by decide) rfl (by exact ⟨(by subst hn1; exact H50), trivial⟩) (Nat.lt_succ_self _)
     ·have H72 := Jo hb H47; clear H47
      refine Qr ?_
      refine Je ?_
      refine Jb ?_
      refine Ja rfl rfl rfl (Jc (v := .bool true) rfl) ?_
      refine Jf ?_
      refine Jm ?_
      obtain rfl := Option.some.inj H72
      refine Jy (v := .bool true) rfl rfl (Xh rfl)
theorem k28 {a0 : T_sync_Fact} {r : Int} (H : V0 a0 = some r) : Ret Tryz.prog 28 [.agg #[.int .i64 a0.Dot.Device, .int .i64 a0.Dot.N, .int .i64 a0.Time, .int .i64 a0.Kind, .int .i64 a0.Id, str a0.Name, .int .i64 a0.Num, str a0.Text]] (.int .i64 r) := by
 refine Qc (n := 121) Tryz.func28 rfl rfl rfl (fun wd => ?_)
 refine Je ?_
 refine Jb ?_
 refine W8 (cs := [.int .i64 a0.Dot.Device, .int .i64 a0.Dot.N, .int .i64 a0.Time, .int .i64 a0.Kind, .int .i64 a0.Id, str a0.Name, .int .i64 a0.Num, str a0.Text]) rfl rfl rfl rfl (fun b1 => ?_)
 refine Ja rfl rfl rfl (Jc (v := .int .i64 0) rfl) ?_
 refine Jf ?_
 refine Xi (r := r) (σ := Bool) (τ := Unit) (fun s => Zw a0 s) (fun s t => [(1, .pointer (some ⟨b1, 0, none⟩)), (3, .bool s)]) (fun s t => [Jp b1 [.int .i64 a0.Dot.Device, .int .i64 a0.Dot.N, .int .i64 a0.Time, .int .i64 a0.Kind, .int .i64 a0.Id, str a0.Name, .int .i64 a0.Num, str a0.Text] 52]) (fun s t => True) ?_ ?_
 ·refine Jb ?_
  refine Ja rfl rfl rfl (Jq Tryz.runUnderlying52 rfl Tryz.sizeOf3 rfl rfl) ?_
  refine J0 (i := 0) (v := .int .i64 a0.Kind) Tryz.isAgg3 rfl rfl rfl rfl rfl ?_
  refine Ja rfl rfl rfl (Zp rfl rfl) ?_
  refine Ja rfl rfl rfl (Jd (v := .bool (decide (a0.Kind = 2))) rfl) ?_
  refine split (fun hb => ?_) (fun hb => ?_)
  ·have H141 := Jn hb H; clear H
   refine Ji rfl rfl rfl ?_
   refine Ji rfl rfl rfl ?_
   refine Ji rfl rfl rfl ?_
   refine Ja rfl rfl rfl (Jz (v := .bool true) rfl rfl) ?_
   refine Ja rfl rfl rfl (Jd (v := .bool true) rfl) ?_
   refine Ji rfl rfl rfl ?_
   refine Ji rfl rfl rfl ?_
   refine Ji rfl rfl rfl ?_
   refine Ja rfl rfl rfl (Jz (v := .bool true) rfl rfl) ?_
   refine Ja rfl rfl rfl (Jc (v := .bool true) rfl) ?_
   refine Jf ?_
   refine Jl true () 0 [0] (by exact ⟨rfl, rfl, trivial⟩) (by decide) rfl (by exact ⟨H141, trivial⟩) (Nat.lt_succ_self _)
  ·have H142 := Jo hb H; clear H
   refine Ja rfl rfl rfl (Jq Tryz.runUnderlying52 rfl Tryz.sizeOf3 rfl rfl) ?_
   refine J0 (i := 0) (v := .int .i64 a0.Kind) Tryz.isAgg3 rfl rfl rfl rfl rfl ?_
   refine Ja rfl rfl rfl (Zp rfl rfl) ?_
   refine Ja rfl rfl rfl (Jw (v := .bool (decide (a0.Kind = 4))) rfl rfl) ?_
   refine Ja rfl rfl rfl (Jd (v := .bool (decide (a0.Kind = 4))) rfl) ?_
   refine split (fun hb => ?_) (fun hb => ?_)
   ·have H143 := Jn hb H142; clear H142
    refine Ji rfl rfl rfl ?_
    refine Ji rfl rfl rfl ?_
    refine Ji rfl rfl rfl ?_
    refine Ja rfl rfl rfl (Jz (v := .bool true) rfl rfl) ?_
    refine Ja rfl rfl rfl (Jc (v := .bool true) rfl) ?_
    refine Jf ?_
    refine Jl true () 0 [0] (by exact ⟨rfl, rfl, trivial⟩) (by decide) rfl (by exact ⟨H143, trivial⟩) (Nat.lt_succ_self _)
   ·have H144 := Jo hb H142; clear H142
    refine Ja rfl rfl rfl (Jq Tryz.runUnderlying52 rfl Tryz.sizeOf3 rfl rfl) ?_
    refine J0 (i := 0) (v := .int .i64 a0.Kind) Tryz.isAgg3 rfl rfl rfl rfl rfl ?_
    refine Ja rfl rfl rfl (Zp rfl rfl) ?_
    refine Ja rfl rfl rfl (Jw (v := .bool (decide (a0.Kind = 6))) rfl rfl) ?_
    refine Ja rfl rfl rfl (Jc (v := .bool (decide (a0.Kind = 6))) rfl) ?_
    refine Jf ?_
    refine Jl (decide (a0.Kind = 6)) () 0 [0] (by exact ⟨rfl, rfl, trivial⟩) (by decide) rfl (by exact ⟨H144, trivial⟩) (Nat.lt_succ_self _)
 ·rintro x3 _ gg H73 _
  replace H73 : Zw a0 x3 = some r := H73
  try dsimp only
  refine Xi (r := r) (σ := Bool) (τ := Unit) (fun s => Vq a0 x3 s) (fun s t => [(1, .pointer (some ⟨b1, 0, none⟩)), (3, .bool x3), (4, .bool s)]) (fun s t => [Jp b1 [.int .i64 a0.Dot.Device, .int .i64 a0.Dot.N, .int .i64 a0.Time, .int .i64 a0.Kind, .int .i64 a0.Id, str a0.Name, .int .i64 a0.Num, str a0.Text] 52]) (fun s t => True) ?_ ?_
  ·refine Jb ?_
   refine Ja rfl rfl rfl (Jq Tryz.runUnderlying52 rfl Tryz.sizeOf3 rfl rfl) ?_
   refine J0 (i := 0) (v := .int .i64 a0.Kind) Tryz.isAgg3 rfl rfl rfl rfl rfl ?_
   refine Ja rfl rfl rfl (Zp rfl rfl) ?_
   refine Ja rfl rfl rfl (Jd (v := .bool (decide (a0.Kind = 5))) rfl) ?_
   refine split (fun hb => ?_) (fun hb => ?_)
   ·have H139 := Jn hb H73; clear H73
    refine Ji rfl rfl rfl ?_
    refine Ji rfl rfl rfl ?_
    refine Ji rfl rfl rfl ?_
    refine Ja rfl rfl rfl (Jz (v := .bool true) rfl rfl) ?_
    refine Ja rfl rfl rfl (Jc (v := .bool true) rfl) ?_
    refine Jf ?_
    refine Jl true () 0 [0] (by exact ⟨rfl, rfl, rfl, trivial⟩) (by decide) rfl (by exact ⟨H139, trivial⟩) (Nat.lt_succ_self _)
   ·have H140 := Jo hb H73; clear H73
    refine Ja rfl rfl rfl (Jq Tryz.runUnderlying52 rfl Tryz.sizeOf3 rfl rfl) ?_
    refine J0 (i := 0) (v := .int .i64 a0.Kind) Tryz.isAgg3 rfl rfl rfl rfl rfl ?_
    refine Ja rfl rfl rfl (Zp rfl rfl) ?_
    refine Ja rfl rfl rfl (Jw (v := .bool (decide (a0.Kind = 6))) rfl rfl) ?_
    refine Ja rfl rfl rfl (Jc (v := .bool (decide (a0.Kind = 6))) rfl) ?_
    refine Jf ?_
    refine Jl (decide (a0.Kind = 6)) () 0 [0] (by exact ⟨rfl, rfl, rfl, trivial⟩) (by decide) rfl (by exact ⟨H140, trivial⟩) (Nat.lt_succ_self _)
  ·rintro x4 _ gg H74 _
   replace H74 : Vq a0 x3 x4 = some r := H74
   try dsimp only
   refine Xi (r := r) (σ := Bool) (τ := Unit) (fun s => Y5 a0 x3 x4 s) (fun s t => [(1, .pointer (some ⟨b1, 0, none⟩)), (3, .bool x3), (4, .bool x4), (5, .bool s)]) (fun s t => [Jp b1 [.int .i64 a0.Dot.Device, .int .i64 a0.Dot.N, .int .i64 a0.Time, .int .i64 a0.Kind, .int .i64 a0.Id, str a0.Name, .int .i64 a0.Num, str a0.Text] 52]) (fun s t => True) ?_ ?_
   ·refine Jb ?_
    refine Ja rfl rfl rfl (Jq Tryz.runUnderlying52 rfl Tryz.sizeOf3 rfl rfl) ?_
    refine J0 (i := 0) (v := .int .i64 a0.Kind) Tryz.isAgg3 rfl rfl rfl rfl rfl ?_
    refine Ja rfl rfl rfl (Zp rfl rfl) ?_
    refine Ja rfl rfl rfl (Jd (v := .bool (decide (a0.Kind = 1))) rfl) ?_
    refine split (fun hb => ?_) (fun hb => ?_)
    ·have H137 := Jn hb H74; clear H74
     refine Ji rfl rfl rfl ?_
     refine Ji rfl rfl rfl ?_
     refine Ji rfl rfl rfl ?_
     refine Ja rfl rfl rfl (Jz (v := .bool true) rfl rfl) ?_
     refine Ja rfl rfl rfl (Jc (v := .bool true) rfl) ?_
     refine Jf ?_
     refine Jl true () 0 [0] (by exact ⟨rfl, rfl, rfl, rfl, trivial⟩) (by decide) rfl (by exact ⟨H137, trivial⟩) (Nat.lt_succ_self _)
    ·have H138 := Jo hb H74; clear H74
     refine Ja rfl rfl rfl (Jq Tryz.runUnderlying52 rfl Tryz.sizeOf3 rfl rfl) ?_
     refine J0 (i := 0) (v := .int .i64 a0.Kind) Tryz.isAgg3 rfl rfl rfl rfl rfl ?_
     refine Ja rfl rfl rfl (Zp rfl rfl) ?_
     refine Ja rfl rfl rfl (Jw (v := .bool (decide (a0.Kind = 3))) rfl rfl) ?_
     refine Ja rfl rfl rfl (Jc (v := .bool (decide (a0.Kind = 3))) rfl) ?_
     refine Jf ?_
     refine Jl (decide (a0.Kind = 3)) () 0 [0] (by exact ⟨rfl, rfl, rfl, rfl, trivial⟩) (by decide) rfl (by exact ⟨H138, trivial⟩) (Nat.lt_succ_self _)
   ·rintro x5 _ gg H75 _
    replace H75 : Y5 a0 x3 x4 x5 = some r := H75
    try dsimp only
    refine Je ?_
    refine Ju ?_
    refine Je ?_
    refine Jb ?_
    refine Ja rfl rfl rfl (Jq Tryz.runUnderlying52 rfl Tryz.sizeOf3 rfl rfl) ?_
    refine J0 (i := 0) (v := .int .i64 a0.Kind) Tryz.isAgg3 rfl rfl rfl rfl rfl ?_
    obtain ⟨t38, h_t38, H76⟩ := Jh H75; clear H75
    refine Qu (k24 h_t38) Tryz.call24 rfl rfl rfl ?_
    refine Ja rfl rfl rfl (Jc (v := .bool t38) rfl) ?_
    refine Jf ?_
    refine J5 (b := t38) rfl (fun hb => ?_) (fun hb => ?_)
    ·have H77 := Jn hb H76; clear H76
     refine Je ?_
     refine Jb ?_
     refine Ja rfl rfl rfl (Jc (v := .int .i64 10) rfl) ?_
     refine Jf ?_
     refine Jm ?_
     obtain rfl := Option.some.inj H77
     refine Jy (v := .int .i64 10) rfl rfl (Xh rfl)
    ·have H78 := Jo hb H76; clear H76
     refine Xi (r := r) (σ := Bool) (τ := Unit) (fun s => J9 a0 x4 s) (fun s t => [(1, .pointer (some ⟨b1, 0, none⟩)), (4, .bool x4), (39, .bool s)]) (fun s t => [Jp b1 [.int .i64 a0.Dot.Device, .int .i64 a0.Dot.N, .int .i64 a0.Time, .int .i64 a0.Kind, .int .i64 a0.Id, str a0.Name, .int .i64 a0.Num, str a0.Text] 52]) (fun s t => True) ?_ ?_
     ·refine Jb ?_
      refine Ja rfl rfl rfl (Jd (v := .bool x3) rfl) ?_
      refine Ja rfl rfl rfl (Vt rfl) ?_
      refine Ja rfl rfl rfl (Jd (v := .bool (!x3)) rfl) ?_
      refine split (fun hb => ?_) (fun hb => ?_)
      ·have H117 := Jn hb H78; clear H78
       refine Ja rfl rfl rfl (Jq Tryz.runUnderlying52 rfl Tryz.sizeOf3 rfl rfl) ?_
       refine J0 (i := 0) (v := .int .i64 a0.Num) Tryz.isAgg3 rfl rfl rfl rfl rfl ?_
       refine Ja rfl rfl rfl (U0 rfl rfl) ?_
       refine Ja rfl rfl rfl (Jz (v := .bool (decide (a0.Num ≠ 0))) rfl rfl) ?_
       refine Ja rfl rfl rfl (Jd (v := .bool (decide (a0.Num ≠ 0))) rfl) ?_
       refine split (fun hb => ?_) (fun hb => ?_)
       ·have H118 := Jn hb H117; clear H117
        refine Ji rfl rfl rfl ?_
        refine Ji rfl rfl rfl ?_
        refine Ji rfl rfl rfl ?_
        refine Ji rfl rfl rfl ?_
        refine Ji rfl rfl rfl ?_
        refine Ji rfl rfl rfl ?_
        refine Ji rfl rfl rfl ?_
        refine Ja rfl rfl rfl (Jz (v := .bool true) rfl rfl) ?_
        refine Ja rfl rfl rfl (Jd (v := .bool true) rfl) ?_
        refine Ji rfl rfl rfl ?_
        refine Ji rfl rfl rfl ?_
        refine Ji rfl rfl rfl ?_
        refine Ji rfl rfl rfl ?_
        refine Ji rfl rfl rfl ?_
        refine Ji rfl rfl rfl ?_
        refine Ji rfl rfl rfl ?_
        refine Ja rfl rfl rfl (Jz (v := .bool true) rfl rfl) ?_
        refine Ja rfl rfl rfl (Jc (v := .bool true) rfl) ?_
        refine Jf ?_
        refine Jl true () 0 [0] (by exact ⟨rfl, rfl, rfl, trivial⟩) (by decide) rfl (by exact ⟨H118, trivial⟩) (Nat.lt_succ_self _)
       ·have H119 := Jo hb H117; clear H117
        refine Ja rfl rfl rfl (Jd (v := .bool x4) rfl) ?_
        refine Ja rfl rfl rfl (Vt rfl) ?_
        refine Ja rfl rfl rfl (Jd (v := .bool (!x4)) rfl) ?_
        refine split (fun hb => ?_) (fun hb => ?_)
        ·have H120 := Jn hb H119; clear H119
         refine Ja rfl rfl rfl (Jq Tryz.runUnderlying52 rfl Tryz.sizeOf9 rfl rfl) ?_
         refine J0 (i := 0) (v := str a0.Name) Tryz.isAgg9 rfl rfl rfl rfl rfl ?_
         refine Ja rfl rfl rfl (r_neqT rfl rfl) ?_
         refine Ja rfl rfl rfl (Jz (v := .bool (decide (a0.Name ≠ []))) rfl rfl) ?_
         refine Ja rfl rfl rfl (Jw (v := .bool (decide (a0.Name ≠ []))) rfl rfl) ?_
         refine Ja rfl rfl rfl (Jd (v := .bool (decide (a0.Name ≠ []))) rfl) ?_
         refine split (fun hb => ?_) (fun hb => ?_)
         ·have H121 := Jn hb H120; clear H120
          refine Ji rfl rfl rfl ?_
          refine Ji rfl rfl rfl ?_
          refine Ji rfl rfl rfl ?_
          refine Ji rfl rfl rfl ?_
          refine Ji rfl rfl rfl ?_
          refine Ji rfl rfl rfl ?_
          refine Ji rfl rfl rfl ?_
          refine Ja rfl rfl rfl (Jz (v := .bool true) rfl rfl) ?_
          refine Ja rfl rfl rfl (Jc (v := .bool true) rfl) ?_
          refine Jf ?_
          refine Jl true () 0 [0] (by exact ⟨rfl, rfl, rfl, trivial⟩) (by decide) rfl (by exact ⟨H121, trivial⟩) (Nat.lt_succ_self _)
         ·have H122 := Jo hb H120; clear H120
          refine Ja rfl rfl rfl (Jd (v := .bool x5) rfl) ?_
          refine Ja rfl rfl rfl (Vt rfl) ?_
          refine Ja rfl rfl rfl (Jd (v := .bool (!x5)) rfl) ?_
          refine split (fun hb => ?_) (fun hb => ?_)
          ·have H123 := Jn hb H122; clear H122
           refine Ja rfl rfl rfl (Jq Tryz.runUnderlying52 rfl Tryz.sizeOf9 rfl rfl) ?_
           refine J0 (i := 0) (v := str a0.Text) Tryz.isAgg9 rfl rfl rfl rfl rfl ?_
           refine Ja rfl rfl rfl (r_neqT rfl rfl) ?_
           refine Ja rfl rfl rfl (Jz (v := .bool (decide (a0.Text ≠ []))) rfl rfl) ?_
           refine Ja rfl rfl rfl (Jw (v := .bool (decide (a0.Text ≠ []))) rfl rfl) ?_
           refine Ja rfl rfl rfl (Jc (v := .bool (decide (a0.Text ≠ []))) rfl) ?_
           refine Jf ?_
           refine Jl (decide (a0.Text ≠ [])) () 0 [0] (by exact ⟨rfl, rfl, rfl, trivial⟩) (by decide) rfl (by exact ⟨H123, trivial⟩) (Nat.lt_succ_self _)
          ·have H124 := Jo hb H122; clear H122
           refine Ji rfl rfl rfl ?_
           refine Ji rfl rfl rfl ?_
           refine Ji rfl rfl rfl ?_
           refine Ja rfl rfl rfl (Jw (v := .bool false) rfl rfl) ?_
           refine Ja rfl rfl rfl (Jw (v := .bool false) rfl rfl) ?_
           refine Ja rfl rfl rfl (Jc (v := .bool false) rfl) ?_
           refine Jf ?_
           refine Jl false () 0 [0] (by exact ⟨rfl, rfl, rfl, trivial⟩) (by decide) rfl (by exact ⟨H124, trivial⟩) (Nat.lt_succ_self _)
        ·have H125 := Jo hb H119; clear H119
         refine Ji rfl rfl rfl ?_
         refine Ji rfl rfl rfl ?_
         refine Ji rfl rfl rfl ?_
         refine Ja rfl rfl rfl (Jw (v := .bool false) rfl rfl) ?_
         refine Ja rfl rfl rfl (Jw (v := .bool false) rfl rfl) ?_
         refine Ja rfl rfl rfl (Jd (v := .bool false) rfl) ?_
         refine Ja rfl rfl rfl (Jd (v := .bool x5) rfl) ?_
         refine Ja rfl rfl rfl (Vt rfl) ?_
         refine Ja rfl rfl rfl (Jd (v := .bool (!x5)) rfl) ?_
         refine split (fun hb => ?_) (fun hb => ?_)
         ·have H126 := Jn hb H125; clear H125
          refine Ja rfl rfl rfl (Jq Tryz.runUnderlying52 rfl Tryz.sizeOf9 rfl rfl) ?_
          refine J0 (i := 0) (v := str a0.Text) Tryz.isAgg9 rfl rfl rfl rfl rfl ?_
          refine Ja rfl rfl rfl (r_neqT rfl rfl) ?_
          refine Ja rfl rfl rfl (Jz (v := .bool (decide (a0.Text ≠ []))) rfl rfl) ?_
          refine Ja rfl rfl rfl (Jw (v := .bool (decide (a0.Text ≠ []))) rfl rfl) ?_
          refine Ja rfl rfl rfl (Jc (v := .bool (decide (a0.Text ≠ []))) rfl) ?_
          refine Jf ?_
          refine Jl (decide (a0.Text ≠ [])) () 0 [0] (by exact ⟨rfl, rfl, rfl, trivial⟩) (by decide) rfl (by exact ⟨H126, trivial⟩) (Nat.lt_succ_self _)
         ·have H127 := Jo hb H125; clear H125
          refine Ji rfl rfl rfl ?_
          refine Ji rfl rfl rfl ?_
          refine Ji rfl rfl rfl ?_
          refine Ja rfl rfl rfl (Jw (v := .bool false) rfl rfl) ?_
          refine Ja rfl rfl rfl (Jw (v := .bool false) rfl rfl) ?_
          refine Ja rfl rfl rfl (Jc (v := .bool false) rfl) ?_
          refine Jf ?_
          refine Jl false () 0 [0] (by exact ⟨rfl, rfl, rfl, trivial⟩) (by decide) rfl (by exact ⟨H127, trivial⟩) (Nat.lt_succ_self _)
      ·have H128 := Jo hb H78; clear H78
       refine Ji rfl rfl rfl ?_
       refine Ji rfl rfl rfl ?_
       refine Ji rfl rfl rfl ?_
       refine Ja rfl rfl rfl (Jw (v := .bool false) rfl rfl) ?_
       refine Ja rfl rfl rfl (Jd (v := .bool false) rfl) ?_
       refine Ja rfl rfl rfl (Jd (v := .bool x4) rfl) ?_
       refine Ja rfl rfl rfl (Vt rfl) ?_
       refine Ja rfl rfl rfl (Jd (v := .bool (!x4)) rfl) ?_
       refine split (fun hb => ?_) (fun hb => ?_)
       ·have H129 := Jn hb H128; clear H128
        refine Ja rfl rfl rfl (Jq Tryz.runUnderlying52 rfl Tryz.sizeOf9 rfl rfl) ?_
        refine J0 (i := 0) (v := str a0.Name) Tryz.isAgg9 rfl rfl rfl rfl rfl ?_
        refine Ja rfl rfl rfl (r_neqT rfl rfl) ?_
        refine Ja rfl rfl rfl (Jz (v := .bool (decide (a0.Name ≠ []))) rfl rfl) ?_
        refine Ja rfl rfl rfl (Jw (v := .bool (decide (a0.Name ≠ []))) rfl rfl) ?_
        refine Ja rfl rfl rfl (Jd (v := .bool (decide (a0.Name ≠ []))) rfl) ?_
        refine split (fun hb => ?_) (fun hb => ?_)
        ·have H130 := Jn hb H129; clear H129
         refine Ji rfl rfl rfl ?_
         refine Ji rfl rfl rfl ?_
         refine Ji rfl rfl rfl ?_
         refine Ji rfl rfl rfl ?_
         refine Ji rfl rfl rfl ?_
         refine Ji rfl rfl rfl ?_
         refine Ji rfl rfl rfl ?_
         refine Ja rfl rfl rfl (Jz (v := .bool true) rfl rfl) ?_
         refine Ja rfl rfl rfl (Jc (v := .bool true) rfl) ?_
         refine Jf ?_
         refine Jl true () 0 [0] (by exact ⟨rfl, rfl, rfl, trivial⟩) (by decide) rfl (by exact ⟨H130, trivial⟩) (Nat.lt_succ_self _)
        ·have H131 := Jo hb H129; clear H129
         refine Ja rfl rfl rfl (Jd (v := .bool x5) rfl) ?_
         refine Ja rfl rfl rfl (Vt rfl) ?_
         refine Ja rfl rfl rfl (Jd (v := .bool (!x5)) rfl) ?_
         refine split (fun hb => ?_) (fun hb => ?_)
         ·have H132 := Jn hb H131; clear H131
          refine Ja rfl rfl rfl (Jq Tryz.runUnderlying52 rfl Tryz.sizeOf9 rfl rfl) ?_
          refine J0 (i := 0) (v := str a0.Text) Tryz.isAgg9 rfl rfl rfl rfl rfl ?_
          refine Ja rfl rfl rfl (r_neqT rfl rfl) ?_
          refine Ja rfl rfl rfl (Jz (v := .bool (decide (a0.Text ≠ []))) rfl rfl) ?_
          refine Ja rfl rfl rfl (Jw (v := .bool (decide (a0.Text ≠ []))) rfl rfl) ?_
          refine Ja rfl rfl rfl (Jc (v := .bool (decide (a0.Text ≠ []))) rfl) ?_
          refine Jf ?_
          refine Jl (decide (a0.Text ≠ [])) () 0 [0] (by exact ⟨rfl, rfl, rfl, trivial⟩) (by decide) rfl (by exact ⟨H132, trivial⟩) (Nat.lt_succ_self _)
         ·have H133 := Jo hb H131; clear H131
          refine Ji rfl rfl rfl ?_
          refine Ji rfl rfl rfl ?_
          refine Ji rfl rfl rfl ?_
          refine Ja rfl rfl rfl (Jw (v := .bool false) rfl rfl) ?_
          refine Ja rfl rfl rfl (Jw (v := .bool false) rfl rfl) ?_
          refine Ja rfl rfl rfl (Jc (v := .bool false) rfl) ?_
          refine Jf ?_
          refine Jl false () 0 [0] (by exact ⟨rfl, rfl, rfl, trivial⟩) (by decide) rfl (by exact ⟨H133, trivial⟩) (Nat.lt_succ_self _)
       ·have H134 := Jo hb H128; clear H128
        refine Ji rfl rfl rfl ?_
        refine Ji rfl rfl rfl ?_
        refine Ji rfl rfl rfl ?_
        refine Ja rfl rfl rfl (Jw (v := .bool false) rfl rfl) ?_
        refine Ja rfl rfl rfl (Jw (v := .bool false) rfl rfl) ?_
        refine Ja rfl rfl rfl (Jd (v := .bool false) rfl) ?_
        refine Ja rfl rfl rfl (Jd (v := .bool x5) rfl) ?_
        refine Ja rfl rfl rfl (Vt rfl) ?_
        refine Ja rfl rfl rfl (Jd (v := .bool (!x5)) rfl) ?_
        refine split (fun hb => ?_) (fun hb => ?_)
        ·have H135 := Jn hb H134; clear H134
         refine Ja rfl rfl rfl (Jq Tryz.runUnderlying52 rfl Tryz.sizeOf9 rfl rfl) ?_
         refine J0 (i := 0) (v := str a0.Text) Tryz.isAgg9 rfl rfl rfl rfl rfl ?_
         refine Ja rfl rfl rfl (r_neqT rfl rfl) ?_
         refine Ja rfl rfl rfl (Jz (v := .bool (decide (a0.Text ≠ []))) rfl rfl) ?_
         refine Ja rfl rfl rfl (Jw (v := .bool (decide (a0.Text ≠ []))) rfl rfl) ?_
         refine Ja rfl rfl rfl (Jc (v := .bool (decide (a0.Text ≠ []))) rfl) ?_
         refine Jf ?_
         refine Jl (decide (a0.Text ≠ [])) () 0 [0] (by exact ⟨rfl, rfl, rfl, trivial⟩) (by decide) rfl (by exact ⟨H135, trivial⟩) (Nat.lt_succ_self _)
        ·have H136 := Jo hb H134; clear H134
         refine Ji rfl rfl rfl ?_
         refine Ji rfl rfl rfl ?_
         refine Ji rfl rfl rfl ?_
         refine Ja rfl rfl rfl (Jw (v := .bool false) rfl rfl) ?_
         refine Ja rfl rfl rfl (Jw (v := .bool false) rfl rfl) ?_
         refine Ja rfl rfl rfl (Jc (v := .bool false) rfl) ?_
         refine Jf ?_
         refine Jl false () 0 [0] (by exact ⟨rfl, rfl, rfl, trivial⟩) (by decide) rfl (by exact ⟨H136, trivial⟩) (Nat.lt_succ_self _)
     ·rintro x39 _ gg H79 _
      replace H79 : J9 a0 x4 x39 = some r := H79
      try dsimp only
      refine J5 (b := x39) rfl (fun hb => ?_) (fun hb => ?_)
      ·have H80 := Jn hb H79; clear H79
       refine Je ?_
       refine Jb ?_
       refine Ja rfl rfl rfl (Jc (v := .int .i64 1) rfl) ?_
       refine Jf ?_
       refine Jm ?_
       obtain rfl := Option.some.inj H80
       refine Jy (v := .int .i64 1) rfl rfl (Xh rfl)
      ·have H81 := Jo hb H79; clear H79
       refine Je ?_
       refine Jb ?_
       refine Ja rfl rfl rfl (Jq Tryz.runUnderlying52 rfl Tryz.sizeOf3 rfl rfl) ?_
       refine J0 (i := 0) (v := .int .i64 a0.Id) Tryz.isAgg3 rfl rfl rfl rfl rfl ?_
       obtain ⟨t68, h_t68, H82⟩ := Jh H81; clear H81
       refine Qu (k24 h_t68) Tryz.call24 rfl rfl rfl ?_
       refine Ja rfl rfl rfl (Jc (v := .bool t68) rfl) ?_
       refine Jf ?_
       refine J5 (b := t68) rfl (fun hb => ?_) (fun hb => ?_)
       ·have H83 := Jn hb H82; clear H82
        refine Je ?_
        refine Jb ?_
        refine Ja rfl rfl rfl (Jc (v := .int .i64 2) rfl) ?_
        refine Jf ?_
        refine Jm ?_
        obtain rfl := Option.some.inj H83
        refine Jy (v := .int .i64 2) rfl rfl (Xh rfl)
       ·have H84 := Jo hb H82; clear H82
        refine Xi (r := r) (σ := Bool) (τ := Unit) (fun s => Xp a0 x4 s) (fun s t => [(1, .pointer (some ⟨b1, 0, none⟩)), (4, .bool x4), (69, .bool s)]) (fun s t => [Jp b1 [.int .i64 a0.Dot.Device, .int .i64 a0.Dot.N, .int .i64 a0.Time, .int .i64 a0.Kind, .int .i64 a0.Id, str a0.Name, .int .i64 a0.Num, str a0.Text] 52]) (fun s t => True) ?_ ?_
        ·refine Jb ?_
         refine Ja rfl rfl rfl (Jq Tryz.runUnderlying52 rfl Tryz.sizeOf3 rfl rfl) ?_
         refine J0 (i := 0) (v := .int .i64 a0.Kind) Tryz.isAgg3 rfl rfl rfl rfl rfl ?_
         refine Ja rfl rfl rfl (Zp rfl rfl) ?_
         refine Ja rfl rfl rfl (Jd (v := .bool (decide (a0.Kind = 1))) rfl) ?_
         refine split (fun hb => ?_) (fun hb => ?_)
         ·have H114 := Jn hb H84; clear H84
          refine Ja rfl rfl rfl (Jq Tryz.runUnderlying52 rfl Tryz.sizeOf9 rfl rfl) ?_
          refine J0 (i := 0) (v := str a0.Text) Tryz.isAgg9 rfl rfl rfl rfl rfl ?_
          obtain ⟨t76, h_t76, H115⟩ := Jh H114; clear H114
          refine Qu (k54 h_t76) Tryz.call54 rfl rfl rfl ?_
          refine Ja rfl rfl rfl (Vt rfl) ?_
          refine Ja rfl rfl rfl (Jz (v := .bool (!t76)) rfl rfl) ?_
          refine Ja rfl rfl rfl (Jc (v := .bool (!t76)) rfl) ?_
          refine Jf ?_
          refine Jl (!t76) () 0 [0] (by exact ⟨rfl, rfl, rfl, trivial⟩) (by decide) rfl (by exact ⟨H115, trivial⟩) (Nat.lt_succ_self _)
         ·have H116 := Jo hb H84; clear H84
          refine Ji rfl rfl rfl ?_
          refine Ji rfl rfl rfl ?_
          refine Ji rfl rfl rfl ?_
          refine Ji rfl rfl rfl ?_
          refine Ja rfl rfl rfl (Jw (v := .bool false) rfl rfl) ?_
          refine Ja rfl rfl rfl (Jc (v := .bool false) rfl) ?_
          refine Jf ?_
          refine Jl false () 0 [0] (by exact ⟨rfl, rfl, rfl, trivial⟩) (by decide) rfl (by exact ⟨H116, trivial⟩) (Nat.lt_succ_self _)
        ·rintro x69 _ gg H85 _
         replace H85 : Xp a0 x4 x69 = some r := H85
         try dsimp only
         refine J5 (b := x69) rfl (fun hb => ?_) (fun hb => ?_)
         ·have H86 := Jn hb H85; clear H85
          refine Je ?_
          refine Jb ?_
          refine Ja rfl rfl rfl (Jc (v := .int .i64 1) rfl) ?_
          refine Jf ?_
          refine Jm ?_
          obtain rfl := Option.some.inj H86
          refine Jy (v := .int .i64 1) rfl rfl (Xh rfl)
         ·have H87 := Jo hb H85; clear H85
          refine Xi (r := r) (σ := Bool) (τ := Unit) (fun s => Xo a0 x4 s) (fun s t => [(1, .pointer (some ⟨b1, 0, none⟩)), (4, .bool x4), (79, .bool s)]) (fun s t => [Jp b1 [.int .i64 a0.Dot.Device, .int .i64 a0.Dot.N, .int .i64 a0.Time, .int .i64 a0.Kind, .int .i64 a0.Id, str a0.Name, .int .i64 a0.Num, str a0.Text] 52]) (fun s t => True) ?_ ?_
          ·refine Jb ?_
           refine Ja rfl rfl rfl (Jq Tryz.runUnderlying52 rfl Tryz.sizeOf3 rfl rfl) ?_
           refine J0 (i := 0) (v := .int .i64 a0.Kind) Tryz.isAgg3 rfl rfl rfl rfl rfl ?_
           refine Ja rfl rfl rfl (Zp rfl rfl) ?_
           refine Ja rfl rfl rfl (Jd (v := .bool (decide (a0.Kind = 2))) rfl) ?_
           refine split (fun hb => ?_) (fun hb => ?_)
           ·have H111 := Jn hb H87; clear H87
            refine Ja rfl rfl rfl (Jq Tryz.runUnderlying52 rfl Tryz.sizeOf3 rfl rfl) ?_
            refine J0 (i := 0) (v := .int .i64 a0.Num) Tryz.isAgg3 rfl rfl rfl rfl rfl ?_
            obtain ⟨t86, h_t86, H112⟩ := Jh H111; clear H111
            refine Qu (k24 h_t86) Tryz.call24 rfl rfl rfl ?_
            refine Ja rfl rfl rfl (Jz (v := .bool t86) rfl rfl) ?_
            refine Ja rfl rfl rfl (Jc (v := .bool t86) rfl) ?_
            refine Jf ?_
            refine Jl t86 () 0 [0] (by exact ⟨rfl, rfl, rfl, trivial⟩) (by decide) rfl (by exact ⟨H112, trivial⟩) (Nat.lt_succ_self _)
           ·have H113 := Jo hb H87; clear H87
            refine Ji rfl rfl rfl ?_
            refine Ji rfl rfl rfl ?_
            refine Ji rfl rfl rfl ?_
            refine Ja rfl rfl rfl (Jw (v := .bool false) rfl rfl) ?_
            refine Ja rfl rfl rfl (Jc (v := .bool false) rfl) ?_
            refine Jf ?_
            refine Jl false () 0 [0] (by exact ⟨rfl, rfl, rfl, trivial⟩) (by decide) rfl (by exact ⟨H113, trivial⟩) (Nat.lt_succ_self _)
          ·rintro x79 _ gg H88 _
           replace H88 : Xo a0 x4 x79 = some r := H88
           try dsimp only
           refine J5 (b := x79) rfl (fun hb => ?_) (fun hb => ?_)
           ·have H89 := Jn hb H88; clear H88
            refine Je ?_
            refine Jb ?_
            refine Ja rfl rfl rfl (Jc (v := .int .i64 2) rfl) ?_
            refine Jf ?_
            refine Jm ?_
            obtain rfl := Option.some.inj H89
            refine Jy (v := .int .i64 2) rfl rfl (Xh rfl)
           ·have H90 := Jo hb H88; clear H88
            refine Je ?_
            refine Jb ?_
            refine Ja rfl rfl rfl (Jq Tryz.runUnderlying52 rfl Tryz.sizeOf3 rfl rfl) ?_
            refine J0 (i := 0) (v := .int .i64 a0.Kind) Tryz.isAgg3 rfl rfl rfl rfl rfl ?_
            refine Ja rfl rfl rfl (Zp rfl rfl) ?_
            refine Ja rfl rfl rfl (Jc (v := .bool (decide (a0.Kind = 3))) rfl) ?_
            refine Jf ?_
            refine J5 (b := (decide (a0.Kind = 3))) rfl (fun hb => ?_) (fun hb => ?_)
            ·have H91 := Jn hb H90; clear H90
             refine Je ?_
             refine Jb ?_
             refine Ja rfl rfl rfl (Jq Tryz.runUnderlying52 rfl Tryz.sizeOf9 rfl rfl) ?_
             refine J0 (i := 0) (v := str a0.Text) Tryz.isAgg9 rfl rfl rfl rfl rfl ?_
             obtain ⟨t94, h_t94, H92⟩ := Jh H91; clear H91
             refine Qu (k55 h_t94) Tryz.call55 rfl rfl rfl ?_
             refine Ja rfl rfl rfl (Jc (v := .int .i64 t94) rfl) ?_
             refine Jf ?_
             refine Jm ?_
             obtain rfl := Option.some.inj H92
             refine Jy (v := .int .i64 t94) rfl rfl (Xh rfl)
            ·have H93 := Jo hb H90; clear H90
             refine Xi (r := r) (σ := Bool) (τ := Unit) (fun s => X4 a0 x4 s) (fun s t => [(1, .pointer (some ⟨b1, 0, none⟩)), (4, .bool x4), (95, .bool s)]) (fun s t => [Jp b1 [.int .i64 a0.Dot.Device, .int .i64 a0.Dot.N, .int .i64 a0.Time, .int .i64 a0.Kind, .int .i64 a0.Id, str a0.Name, .int .i64 a0.Num, str a0.Text] 52]) (fun s t => True) ?_ ?_
             ·refine Jb ?_
              refine Ja rfl rfl rfl (Jq Tryz.runUnderlying52 rfl Tryz.sizeOf3 rfl rfl) ?_
              refine J0 (i := 0) (v := .int .i64 a0.Kind) Tryz.isAgg3 rfl rfl rfl rfl rfl ?_
              refine Ja rfl rfl rfl (Zp rfl rfl) ?_
              refine Ja rfl rfl rfl (Jd (v := .bool (decide (a0.Kind = 4))) rfl) ?_
              refine split (fun hb => ?_) (fun hb => ?_)
              ·have H108 := Jn hb H93; clear H93
               refine Ja rfl rfl rfl (Jq Tryz.runUnderlying52 rfl Tryz.sizeOf3 rfl rfl) ?_
               refine J0 (i := 0) (v := .int .i64 a0.Num) Tryz.isAgg3 rfl rfl rfl rfl rfl ?_
               obtain ⟨t102, h_t102, H109⟩ := Jh H108; clear H108
               refine Qu (k24 h_t102) Tryz.call24 rfl rfl rfl ?_
               refine Ja rfl rfl rfl (Jz (v := .bool t102) rfl rfl) ?_
               refine Ja rfl rfl rfl (Jc (v := .bool t102) rfl) ?_
               refine Jf ?_
               refine Jl t102 () 0 [0] (by exact ⟨rfl, rfl, rfl, trivial⟩) (by decide) rfl (by exact ⟨H109, trivial⟩) (Nat.lt_succ_self _)
              ·have H110 := Jo hb H93; clear H93
               refine Ji rfl rfl rfl ?_
               refine Ji rfl rfl rfl ?_
               refine Ji rfl rfl rfl ?_
               refine Ja rfl rfl rfl (Jw (v := .bool false) rfl rfl) ?_
               refine Ja rfl rfl rfl (Jc (v := .bool false) rfl) ?_
               refine Jf ?_
               refine Jl false () 0 [0] (by exact ⟨rfl, rfl, rfl, trivial⟩) (by decide) rfl (by exact ⟨H110, trivial⟩) (Nat.lt_succ_self _)
             ·rintro x95 _ gg H94 _
              replace H94 : X4 a0 x4 x95 = some r := H94
              try dsimp only
              refine J5 (b := x95) rfl (fun hb => ?_) (fun hb => ?_)
              ·have H95 := Jn hb H94; clear H94
               refine Je ?_
               refine Jb ?_
               refine Ja rfl rfl rfl (Jc (v := .int .i64 2) rfl) ?_
               refine Jf ?_
               refine Jm ?_
               obtain rfl := Option.some.inj H95
               refine Jy (v := .int .i64 2) rfl rfl (Xh rfl)
              ·have H96 := Jo hb H94; clear H94
               refine Xi (r := r) (σ := Bool) (τ := Unit) (fun s => Zu a0 s) (fun s t => [(1, .pointer (some ⟨b1, 0, none⟩)), (104, .bool s)]) (fun s t => [Jp b1 [.int .i64 a0.Dot.Device, .int .i64 a0.Dot.N, .int .i64 a0.Time, .int .i64 a0.Kind, .int .i64 a0.Id, str a0.Name, .int .i64 a0.Num, str a0.Text] 52]) (fun s t => True) ?_ ?_
               ·refine Jb ?_
                refine Ja rfl rfl rfl (Jd (v := .bool x4) rfl) ?_
                refine Ja rfl rfl rfl (Jd (v := .bool x4) rfl) ?_
                refine split (fun hb => ?_) (fun hb => ?_)
                ·have H105 := Jn hb H96; clear H96
                 refine Ja rfl rfl rfl (Jq Tryz.runUnderlying52 rfl Tryz.sizeOf9 rfl rfl) ?_
                 refine J0 (i := 0) (v := str a0.Name) Tryz.isAgg9 rfl rfl rfl rfl rfl ?_
                 obtain ⟨t109, h_t109, H106⟩ := Jh H105; clear H105
                 refine Qu (k56 h_t109) Tryz.call56 rfl rfl rfl ?_
                 refine Ja rfl rfl rfl (Vt rfl) ?_
                 refine Ja rfl rfl rfl (Jz (v := .bool (!t109)) rfl rfl) ?_
                 refine Ja rfl rfl rfl (Jc (v := .bool (!t109)) rfl) ?_
                 refine Jf ?_
                 refine Jl (!t109) () 0 [0] (by exact ⟨rfl, rfl, trivial⟩) (by decide) rfl (by exact ⟨H106, trivial⟩) (Nat.lt_succ_self _)
                ·have H107 := Jo hb H96; clear H96
                 refine Ji rfl rfl rfl ?_
                 refine Ji rfl rfl rfl ?_
                 refine Ji rfl rfl rfl ?_
                 refine Ji rfl rfl rfl ?_
                 refine Ja rfl rfl rfl (Jw (v := .bool false) rfl rfl) ?_
                 refine Ja rfl rfl rfl (Jc (v := .bool false) rfl) ?_
                 refine Jf ?_
                 refine Jl false () 0 [0] (by exact ⟨rfl, rfl, trivial⟩) (by decide) rfl (by exact ⟨H107, trivial⟩) (Nat.lt_succ_self _)
               ·rintro x104 _ gg H97 _
                replace H97 : Zu a0 x104 = some r := H97
                try dsimp only
                refine J5 (b := x104) rfl (fun hb => ?_) (fun hb => ?_)
                ·have H98 := Jn hb H97; clear H97
                 refine Je ?_
                 refine Jb ?_
                 refine Ja rfl rfl rfl (Jc (v := .int .i64 3) rfl) ?_
                 refine Jf ?_
                 refine Jm ?_
                 obtain rfl := Option.some.inj H98
                 refine Jy (v := .int .i64 3) rfl rfl (Xh rfl)
                ·have H99 := Jo hb H97; clear H97
                 refine Je ?_
                 refine Jb ?_
                 refine Ja rfl rfl rfl (Jq Tryz.runUnderlying52 rfl Tryz.sizeOf3 rfl rfl) ?_
                 refine J0 (i := 0) (v := .int .i64 a0.Kind) Tryz.isAgg3 rfl rfl rfl rfl rfl ?_
                 refine Ja rfl rfl rfl (Zp rfl rfl) ?_
                 refine Ja rfl rfl rfl (Jd (v := .bool (decide (a0.Kind = 6))) rfl) ?_
                 refine split (fun hb => ?_) (fun hb => ?_)
                 ·have H100 := Jn hb H99; clear H99
                  refine Ja rfl rfl rfl (Jq Tryz.runUnderlying52 rfl Tryz.sizeOf3 rfl rfl) ?_
                  refine J0 (i := 0) (v := .int .i64 a0.Num) Tryz.isAgg3 rfl rfl rfl rfl rfl ?_
                  obtain ⟨t119, h_t119, H101⟩ := Jh H100; clear H100
                  refine Qu (k24 h_t119) Tryz.call24 rfl rfl rfl ?_
                  refine Ja rfl rfl rfl (Jz (v := .bool t119) rfl rfl) ?_
                  refine Ja rfl rfl rfl (Jc (v := .bool t119) rfl) ?_
                  refine Jf ?_
                  refine J5 (b := t119) rfl (fun hb => ?_) (fun hb => ?_)
                  ·have H102 := Jn hb H101; clear H101
                   refine Je ?_
                   refine Jb ?_
                   refine Ja rfl rfl rfl (Jc (v := .int .i64 2) rfl) ?_
                   refine Jf ?_
                   refine Jm ?_
                   obtain rfl := Option.some.inj H102
                   refine Jy (v := .int .i64 2) rfl rfl (Xh rfl)
                  ·have H103 := Jo hb H101; clear H101
                   refine Jr ?_
                   refine Je ?_
                   refine Jb ?_
                   refine Ja rfl rfl rfl (Jc (v := .int .i64 0) rfl) ?_
                   refine Jf ?_
                   refine Jm ?_
                   obtain rfl := Option.some.inj H103
                   refine Jy (v := .int .i64 0) rfl rfl (Xh rfl)
                 ·have H104 := Jo hb H99; clear H99
                  refine Ji rfl rfl rfl ?_
                  refine Ji rfl rfl rfl ?_
                  refine Ji rfl rfl rfl ?_
                  refine Ja rfl rfl rfl (Jw (v := .bool false) rfl rfl) ?_
                  refine Ja rfl rfl rfl (Jc (v := .bool false) rfl) ?_
                  refine Jf ?_
                  refine Wi rfl ?_
                  refine Jr ?_
                  refine Je ?_
                  refine Jb ?_
                  refine Ja rfl rfl rfl (Jc (v := .int .i64 0) rfl) ?_
                  refine Jf ?_
                  refine Jm ?_
                  obtain rfl := Option.some.inj H104
                  refine Jy (v := .int .i64 0) rfl rfl (Xh rfl)
theorem k16 {a0 : T_sync_Fact} {r : Int} (H : sync_CheckFact a0 = some r) : Ret Tryz.prog 16 [.agg #[.int .i64 a0.Dot.Device, .int .i64 a0.Dot.N, .int .i64 a0.Time, .int .i64 a0.Kind, .int .i64 a0.Id, str a0.Name, .int .i64 a0.Num, str a0.Text]] (.int .i64 r) := by
 refine Qc (n := 20) Tryz.func16 rfl rfl rfl (fun wd => ?_)
 refine Je ?_
 refine Jb ?_
 refine W8 (cs := [.int .i64 a0.Dot.Device, .int .i64 a0.Dot.N, .int .i64 a0.Time, .int .i64 a0.Kind, .int .i64 a0.Id, str a0.Name, .int .i64 a0.Num, str a0.Text]) rfl rfl rfl rfl (fun b1 => ?_)
 refine Ja rfl rfl rfl (Jc (v := .int .i64 0) rfl) ?_
 refine Jf ?_
 refine Je ?_
 refine Je ?_
 refine Jb ?_
 refine Ja rfl rfl rfl (Jq Tryz.runUnderlying52 rfl Tryz.sizeOf50 rfl rfl) ?_
 refine Ja rfl rfl rfl (Jq Tryz.runUnderlying50 rfl Tryz.sizeOf3 rfl rfl) ?_
 refine J0 (i := 0) (v := .int .i64 a0.Dot.Device) Tryz.isAgg3 rfl rfl rfl rfl rfl ?_
 obtain ⟨t6, h_t6, H11⟩ := Jh H; clear H
 refine Qu (k24 h_t6) Tryz.call24 rfl rfl rfl ?_
 refine Ja rfl rfl rfl (Jd (v := .bool t6) rfl) ?_
 refine split (fun hb => ?_) (fun hb => ?_)
 ·have H12 := Jn hb H11; clear H11
  refine Ji rfl rfl rfl ?_
  refine Ji rfl rfl rfl ?_
  refine Ji rfl rfl rfl ?_
  refine Ji rfl rfl rfl ?_
  refine Ja rfl rfl rfl (Jz (v := .bool true) rfl rfl) ?_
  refine Ja rfl rfl rfl (Jd (v := .bool true) rfl) ?_
  refine Ji rfl rfl rfl ?_
  refine Ji rfl rfl rfl ?_
  refine Ji rfl rfl rfl ?_
  refine Ja rfl rfl rfl (Jz (v := .bool true) rfl rfl) ?_
  refine Jf ?_
  refine Ur rfl ?_
  refine Je ?_
  refine Jb ?_
  refine Ja rfl rfl rfl (Jc (v := .int .i64 2) rfl) ?_
  refine Jf ?_
  refine Jm ?_
  obtain rfl := Option.some.inj H12
  refine Jy (v := .int .i64 2) rfl rfl (Xh rfl)
 ·have H13 := Jo hb H11; clear H11
  refine Ja rfl rfl rfl (Jq Tryz.runUnderlying52 rfl Tryz.sizeOf50 rfl rfl) ?_
  refine Ja rfl rfl rfl (Jq Tryz.runUnderlying50 rfl Tryz.sizeOf3 rfl rfl) ?_
  refine J0 (i := 0) (v := .int .i64 a0.Dot.N) Tryz.isAgg3 rfl rfl rfl rfl rfl ?_
  obtain ⟨t11, h_t11, H14⟩ := Jh H13; clear H13
  refine Qu (k24 h_t11) Tryz.call24 rfl rfl rfl ?_
  refine Ja rfl rfl rfl (Jw (v := .bool t11) rfl rfl) ?_
  refine Ja rfl rfl rfl (Jd (v := .bool t11) rfl) ?_
  refine split (fun hb => ?_) (fun hb => ?_)
  ·have H15 := Jn hb H14; clear H14
   refine Ji rfl rfl rfl ?_
   refine Ji rfl rfl rfl ?_
   refine Ji rfl rfl rfl ?_
   refine Ja rfl rfl rfl (Jz (v := .bool true) rfl rfl) ?_
   refine Jf ?_
   refine Ur rfl ?_
   refine Je ?_
   refine Jb ?_
   refine Ja rfl rfl rfl (Jc (v := .int .i64 2) rfl) ?_
   refine Jf ?_
   refine Jm ?_
   obtain rfl := Option.some.inj H15
   refine Jy (v := .int .i64 2) rfl rfl (Xh rfl)
  ·have H16 := Jo hb H14; clear H14
   refine Ja rfl rfl rfl (Jq Tryz.runUnderlying52 rfl Tryz.sizeOf3 rfl rfl) ?_
   refine J0 (i := 0) (v := .int .i64 a0.Time) Tryz.isAgg3 rfl rfl rfl rfl rfl ?_
   obtain ⟨t16, h_t16, H17⟩ := Jh H16; clear H16
   refine Qu (k24 h_t16) Tryz.call24 rfl rfl rfl ?_
   refine Ja rfl rfl rfl (Jw (v := .bool t16) rfl rfl) ?_
   refine Jf ?_
   refine J5 (b := t16) rfl (fun hb => ?_) (fun hb => ?_)
   ·have H18 := Jn hb H17; clear H17
    refine Je ?_
    refine Jb ?_
    refine Ja rfl rfl rfl (Jc (v := .int .i64 2) rfl) ?_
    refine Jf ?_
    refine Jm ?_
    obtain rfl := Option.some.inj H18
    refine Jy (v := .int .i64 2) rfl rfl (Xh rfl)
   ·have H19 := Jo hb H17; clear H17
    refine Jr ?_
    refine Je ?_
    refine Jb ?_
    refine Y2 (i := 0) (vs := [.int .i64 a0.Dot.Device, .int .i64 a0.Dot.N, .int .i64 a0.Time, .int .i64 a0.Kind, .int .i64 a0.Id, str a0.Name, .int .i64 a0.Num, str a0.Text]) Tryz.isAgg52 Tryz.sizeOf52 rfl rfl rfl rfl rfl ?_
    obtain ⟨t19, h_t19, H20⟩ := Jh H19; clear H19
    refine Qu (k28 h_t19) Tryz.call28 rfl rfl rfl ?_
    refine Ja rfl rfl rfl (Jc (v := .int .i64 t19) rfl) ?_
    refine Jf ?_
    refine Jm ?_
    obtain rfl := Option.some.inj H20
    refine Jy (v := .int .i64 t19) rfl rfl (Xh rfl)
theorem k108 {a0 : Int} {r : Bool} (H : Wf a0 = some r) : Ret Tryz.prog 108 [.int .i64 a0] (.bool r) := by
 refine Qc (n := 6) Tryz.func108 rfl rfl rfl (fun wd => ?_)
 refine Je ?_
 refine Jb ?_
 refine Ja rfl rfl rfl (Jc (v := .bool false) rfl) ?_
 refine Jf ?_
 refine Je ?_
 refine Jb ?_
 refine Ja rfl rfl rfl (Jd (v := .int .i64 a0) rfl) ?_
 refine Ja rfl rfl rfl (Jd (v := .int .i64 a0) rfl) ?_
 refine Ja rfl rfl rfl (U0 rfl rfl) ?_
 refine Ja rfl rfl rfl (Jc (v := .bool (decide (a0 ≠ a0))) rfl) ?_
 refine Jf ?_
 refine Jm ?_
 obtain rfl := Option.some.inj H
 refine Jy (v := .bool (decide (a0 ≠ a0))) rfl rfl (Xh rfl)
theorem k62 {a0 : T_sync_Replica} {v0_2 : Value} {pb0 : Nat} {a1 : (T_sync_Fact → Option (Bool))} {v1 : Value} {r : (List T_sync_Fact)} {w : World} {h : J3} (hw : Know h w Zh) (f0_2 : FrS h 8 v0_2 (a0.facts_.map Jj)) (hb0 : h pb0 = some (.cells (List.toArray [.int .i64 a0.device_, .int .i64 (a0.knows_ 0), .int .i64 (a0.knows_ 1), .int .i64 (a0.knows_ 2), .int .i64 (a0.knows_ 3), .int .i64 (a0.knows_ 4), .int .i64 (a0.knows_ 5), .int .i64 (a0.knows_ 6), .int .i64 (a0.knows_ 7), .int .i64 (a0.knows_ 8), .int .i64 (a0.knows_ 9), .int .i64 (a0.knows_ 10), .int .i64 (a0.knows_ 11), .int .i64 (a0.knows_ 12), .int .i64 (a0.knows_ 13), .int .i64 (a0.knows_ 14), .int .i64 (a0.knows_ 15), v0_2]) 67 (0, 0))) (f1 : FnH Tryz.prog h v1 (Xd a1)) (H : Qp a0 a1 = some r) : Does Tryz.prog 62 (List.toArray [.pointer (some ⟨pb0, 0, none⟩), v1]) w (fun v w' => ∃ x : (Option Addr × Nat), v = (.slice x.1 r.length x.2) ∧ Turn w w' Zh (Qq 52 8 (.slice x.1 r.length x.2) r.length (r.map Jj))) := by
 refine enter (n := 26) Tryz.func62 rfl rfl rfl Zh [] (Sat.nil _ _) ?_
 refine Je ?_
 refine Jb ?_
 refine Ja rfl rfl rfl (Jc (v := .slice none 0 0) rfl) ?_
 refine Jf ?_
 refine Je ?_
 refine Jb ?_
 refine Ja rfl rfl rfl (Jc (v := .slice none 0 0) rfl) ?_
 refine Jf ?_
 refine Je ?_
 refine Je ?_
 refine Jb ?_
 refine Ja rfl rfl rfl (Jd (v := .pointer (some ⟨pb0, 0, none⟩)) rfl) ?_
 refine Ja rfl rfl rfl (Qk rfl) ?_
 refine Ja rfl rfl rfl (Jq Tryz.runUnderlying67 rfl Tryz.sizeOf65 rfl rfl) ?_
 refine Qa (fun w hF hS => Zt (v := v0_2) Tryz.isAgg65 rfl (hw.now hF _ _ hb0) rfl) rfl rfl rfl ?_
 refine Ja rfl rfl rfl (Zl Tryz.underlying65 rfl f0_2 rfl) ?_
 refine Ja rfl rfl rfl (Jd (v := .int .i64 0) rfl) ?_
 refine Jf ?_
 refine Ju ?_
 refine Wp 52 8 ?_
 refine Yv (σ := Int × (List T_sync_Fact)) (τ := (Option Addr × Nat)) (fun next1 s => Yd a0 a1 next1 s.1 s.2) (fun s t => [(1, v1), (5, .slice t.1 s.2.length t.2), (11, v0_2), (12, .int .i64 (a0.facts_.length : Int)), (13, .int .i64 s.1)]) (fun s t => [Qq 52 8 (.slice t.1 s.2.length t.2) s.2.length (s.2.map Jj)]) (fun s t => True) (0, ([] : List T_sync_Fact)) ((none, 0) : Option Addr × Nat) [0] H (by exact trivial) (by exact ⟨rfl, rfl, rfl, rfl, rfl, trivial⟩) (by decide) rfl ?_
 rintro ⟨x13_2, l_2⟩ p m1 gg H11 _
 clear H
 replace H11 : Yd a0 a1 (it (fun next1 s => Yd a0 a1 next1 s.1 s.2) m1) x13_2 l_2 = some r := H11
 generalize hn1 : it (fun next1 s => Yd a0 a1 next1 s.1 s.2) m1 = next1 at H11
 try dsimp only
 refine Je ?_
 refine Jb ?_
 refine Ja rfl rfl rfl (Q1 rfl rfl) ?_
 refine Jf ?_
 refine Je ?_
 refine J5 (b := (decide (x13_2 < (a0.facts_.length : Int)))) rfl (fun hb => ?_) (fun hb => ?_)
 ·have H12 := Jn hb H11; clear H11
  refine Jr ?_
  refine Xi (r := r) (σ := (List T_sync_Fact)) (τ := (Option Addr × Nat)) (fun s => Zr x13_2 next1 s) (fun s t => [(1, v1), (5, .slice t.1 s.length t.2), (11, v0_2), (12, .int .i64 (a0.facts_.length : Int)), (13, .int .i64 x13_2)]) (fun s t => [Qq 52 8 (.slice t.1 s.length t.2) s.length (s.map Jj)]) (fun s t => True) ?_ ?_
  ·refine Ju ?_
   refine Je ?_
   refine Jb ?_
   obtain ⟨t15, h_t15, H15⟩ := Jh H12; clear H12
   refine Ja rfl rfl rfl (Qm Tryz.underlying65 Tryz.sizeOf52 rfl rfl f0_2 h_t15) ?_
   refine Qa (fun w hF hS => Xw (f := Jj) (i := x13_2) (sz := 8) (j := 0) (vs := [.int .i64 t15.Dot.Device, .int .i64 t15.Dot.N, .int .i64 t15.Time, .int .i64 t15.Kind, .int .i64 t15.Id, str t15.Name, .int .i64 t15.Num, str t15.Text]) Tryz.isAgg52 Tryz.sizeOf52 rfl rfl (f0_2.row (hw.now hF)) h_t15 rfl) rfl rfl rfl ?_
   refine Zo (cs := [.int .i64 0, .int .i64 0, .int .i64 0, .int .i64 0, .int .i64 0, str [], .int .i64 0, str []]) Tryz.zeroValue52 rfl rfl rfl (fun b2 => ?_)
   refine X3 (i := 1) (vs := [.int .i64 t15.Dot.Device, .int .i64 t15.Dot.N, .int .i64 t15.Time, .int .i64 t15.Kind, .int .i64 t15.Id, str t15.Name, .int .i64 t15.Num, str t15.Text]) (cs' := [.int .i64 t15.Dot.Device, .int .i64 t15.Dot.N, .int .i64 t15.Time, .int .i64 t15.Kind, .int .i64 t15.Id, str t15.Name, .int .i64 t15.Num, str t15.Text]) Tryz.sizeOf52 rfl rfl rfl rfl rfl rfl rfl rfl rfl ?_
   refine Jf ?_
   refine Je ?_
   refine Jb ?_
   refine Ja rfl rfl rfl (Jd (v := v1) rfl) ?_
   refine Y2 (i := 1) (vs := [.int .i64 t15.Dot.Device, .int .i64 t15.Dot.N, .int .i64 t15.Time, .int .i64 t15.Kind, .int .i64 t15.Id, str t15.Name, .int .i64 t15.Num, str t15.Text]) Tryz.isAgg52 Tryz.sizeOf52 rfl rfl rfl rfl rfl ?_
   obtain ⟨t19, h_t19, H16⟩ := Jh H15; clear H15
   refine l_callV (R := Xd a1) (r := .bool t19) (v := v1) (fun w hF hS => ⟨(f1.mono (hw.now hF)), ⟨t15, _, rfl, h_t19, rfl⟩⟩) rfl rfl rfl rfl ?_
   refine Jf ?_
   refine J5 (b := t19) rfl (fun hb => ?_) (fun hb => ?_)
   ·have H17 := Jn hb H16; clear H16
    refine Jb ?_
    refine Ja rfl rfl rfl (Jd (v := .slice p.1 l_2.length p.2) rfl) ?_
    refine Y2 (i := 1) (vs := [.int .i64 t15.Dot.Device, .int .i64 t15.Dot.N, .int .i64 t15.Time, .int .i64 t15.Kind, .int .i64 t15.Id, str t15.Name, .int .i64 t15.Num, str t15.Text]) Tryz.isAgg52 Tryz.sizeOf52 rfl rfl rfl rfl rfl ?_
    refine Xc (vs := [.agg #[.int .i64 t15.Dot.Device, .int .i64 t15.Dot.N, .int .i64 t15.Time, .int .i64 t15.Kind, .int .i64 t15.Id, str t15.Name, .int .i64 t15.Num, str t15.Text]]) (cs := [.int .i64 t15.Dot.Device, .int .i64 t15.Dot.N, .int .i64 t15.Time, .int .i64 t15.Kind, .int .i64 t15.Id, str t15.Name, .int .i64 t15.Num, str t15.Text]) Tryz.underlying65 Tryz.sizeOf52 Tryz.zeroValue52 rfl rfl rfl rfl rfl rfl rfl (fun b3 => ?_)
    obtain ⟨l23, h_l23, H18⟩ := Jh H17; clear H17
    refine Yl (We (i := 0) (hn := rfl) (rds := [2]) (p := p) (sz := 8) (by_ := 80) (f := Jj) (ys := l_2) (ls := ([t15] : List T_sync_Fact)) (V := .slice (some ⟨b3, 0, none⟩) 1 1) Tryz.underlying65 (W2 Tryz.typeInfo52) rfl rfl rfl rfl rfl rfl rfl rfl rfl rfl (fun w L' hF hS hi => Jac (i := 2) hS ((hi 2 (by simp)).trans rfl) rfl rfl) (fun _ => rfl) (fun _ => rfl) h_l23) rfl rfl rfl (fun p_3 => ?_)
    refine Ja rfl rfl rfl (Jc (v := .slice p_3.1 l23.length p_3.2) rfl) ?_
    refine Jf ?_
    refine Jl l23 p_3 0 [0] (by exact ⟨rfl, rfl, rfl, rfl, rfl, trivial⟩) (by decide) rfl (by exact ⟨H18, trivial⟩) (Nat.lt_succ_self _)
   ·have H19 := Jo hb H16; clear H16
    refine Jr ?_
    refine Jl l_2 p 0 [0] (by exact ⟨rfl, rfl, rfl, rfl, rfl, trivial⟩) (by decide) rfl (by exact ⟨H19, trivial⟩) (Nat.lt_succ_self _)
  ·rintro l_3 p_2 gg H13 _
   replace H13 : Zr x13_2 next1 l_3 = some r := H13
   try dsimp only
   refine Jb ?_
   obtain ⟨t24, h_t24, H14⟩ := Jh H13; clear H13
   refine Ja rfl rfl rfl (Q2 rfl rfl h_t24) ?_
   refine Ja rfl rfl rfl (Jd (v := .int .i64 t24) rfl) ?_
   refine Jf ?_
   refine Jl (t24, l_3) p_2 m1 [0] (by exact ⟨rfl, rfl, rfl, rfl, rfl, trivial⟩) (by decide) rfl (by exact ⟨(by subst hn1; exact H14), trivial⟩) (Nat.lt_succ_self _)
 ·have H20 := Jo hb H11; clear H11
  refine Qr ?_
  refine Je ?_
  refine Jb ?_
  refine Ja rfl rfl rfl (Jd (v := .slice p.1 l_2.length p.2) rfl) ?_
  refine Ja rfl rfl rfl (Jc (v := .slice p.1 l_2.length p.2) rfl) ?_
  refine Jf ?_
  refine Jm ?_
  obtain rfl := Option.some.inj H20
  refine Jy (v := .slice p.1 l_2.length p.2) rfl rfl (W6 p (i := 0) rfl rfl (Imp.refl _))
theorem k69 {q0 : Int} {c0 : Nat} {q1 : Int} {c1 : Nat} {a0 : T_sync_Fact} {r : Bool} {w : World} {h : J3} (hw : Know h w Zh) (hc0 : h c0 = some (.cells (List.toArray [.int .i64 q0]) 3 (0, 0))) (hc1 : h c1 = some (.cells (List.toArray [.int .i64 q1]) 3 (0, 0))) (H : Jal q0 q1 a0 = some r) : Does Tryz.prog 69 (List.toArray [.agg #[.int .i64 a0.Dot.Device, .int .i64 a0.Dot.N, .int .i64 a0.Time, .int .i64 a0.Kind, .int .i64 a0.Id, str a0.Name, .int .i64 a0.Num, str a0.Text], .pointer (some ⟨c0, 0, none⟩), .pointer (some ⟨c1, 0, none⟩)]) w (fun v w' => v = (.bool r) ∧ Grow w w') := by
 refine enter (n := 15) Tryz.func69 rfl rfl rfl Zh [] (Sat.nil _ _) ?_
 refine Je ?_
 refine Jb ?_
 refine W8 (cs := [.int .i64 a0.Dot.Device, .int .i64 a0.Dot.N, .int .i64 a0.Time, .int .i64 a0.Kind, .int .i64 a0.Id, str a0.Name, .int .i64 a0.Num, str a0.Text]) rfl rfl rfl rfl (fun b1 => ?_)
 refine Ja rfl rfl rfl (Jc (v := .bool false) rfl) ?_
 refine Jf ?_
 refine Je ?_
 refine Jb ?_
 refine Ja rfl rfl rfl (Jq Tryz.runUnderlying52 rfl Tryz.sizeOf3 rfl rfl) ?_
 refine J0 (i := 0) (v := .int .i64 a0.Kind) Tryz.isAgg3 rfl rfl rfl rfl rfl ?_
 refine Qa (fun w hF hS => Zt (v := .int .i64 q0) Tryz.isAgg3 rfl (hw.now hF _ _ hc0) rfl) rfl rfl rfl ?_
 refine Ja rfl rfl rfl (Zp rfl rfl) ?_
 refine Ja rfl rfl rfl (Jd (v := .bool (decide (a0.Kind = q0))) rfl) ?_
 refine split (fun hb => ?_) (fun hb => ?_)
 ·have H3 := Jn hb H; clear H
  refine Ja rfl rfl rfl (Jq Tryz.runUnderlying52 rfl Tryz.sizeOf3 rfl rfl) ?_
  refine J0 (i := 0) (v := .int .i64 a0.Id) Tryz.isAgg3 rfl rfl rfl rfl rfl ?_
  refine Qa (fun w hF hS => Zt (v := .int .i64 q1) Tryz.isAgg3 rfl (hw.now hF _ _ hc1) rfl) rfl rfl rfl ?_
  refine Ja rfl rfl rfl (Zp rfl rfl) ?_
  refine Ja rfl rfl rfl (Jz (v := .bool (decide (a0.Id = q1))) rfl rfl) ?_
  refine Ja rfl rfl rfl (Jc (v := .bool (decide (a0.Id = q1))) rfl) ?_
  refine Jf ?_
  refine Jm ?_
  obtain rfl := Option.some.inj H3
  refine Jy (v := .bool (decide (a0.Id = q1))) rfl rfl (Xh rfl)
 ·have H4 := Jo hb H; clear H
  refine Ji rfl rfl rfl ?_
  refine Ji rfl rfl rfl ?_
  refine Ji rfl rfl rfl ?_
  refine Ji rfl rfl rfl ?_
  refine Ja rfl rfl rfl (Jw (v := .bool false) rfl rfl) ?_
  refine Ja rfl rfl rfl (Jc (v := .bool false) rfl) ?_
  refine Jf ?_
  refine Jm ?_
  obtain rfl := Option.some.inj H4
  refine Jy (v := .bool false) rfl rfl (Xh rfl)
theorem k34 {a0 : T_sync_Replica} {v0_2 : Value} {pb0 : Nat} {a1 : Int} {a2 : Int} {r : (List T_sync_Fact)} {w : World} {h : J3} (hw : Know h w Zh) (f0_2 : FrS h 8 v0_2 (a0.facts_.map Jj)) (hb0 : h pb0 = some (.cells (List.toArray [.int .i64 a0.device_, .int .i64 (a0.knows_ 0), .int .i64 (a0.knows_ 1), .int .i64 (a0.knows_ 2), .int .i64 (a0.knows_ 3), .int .i64 (a0.knows_ 4), .int .i64 (a0.knows_ 5), .int .i64 (a0.knows_ 6), .int .i64 (a0.knows_ 7), .int .i64 (a0.knows_ 8), .int .i64 (a0.knows_ 9), .int .i64 (a0.knows_ 10), .int .i64 (a0.knows_ 11), .int .i64 (a0.knows_ 12), .int .i64 (a0.knows_ 13), .int .i64 (a0.knows_ 14), .int .i64 (a0.knows_ 15), v0_2]) 67 (0, 0))) (H : Y1 a0 a1 a2 = some r) : Does Tryz.prog 34 (List.toArray [.pointer (some ⟨pb0, 0, none⟩), .int .i64 a1, .int .i64 a2]) w (fun v w' => ∃ x : (Option Addr × Nat), v = (.slice x.1 r.length x.2) ∧ Turn w w' Zh (Qq 52 8 (.slice x.1 r.length x.2) r.length (r.map Jj))) := by
 refine enter (n := 10) Tryz.func34 rfl rfl rfl Zh [] (Sat.nil _ _) ?_
 refine Je ?_
 refine Jb ?_
 refine W8 (cs := [.int .i64 a1]) rfl rfl rfl rfl (fun b2 => ?_)
 refine W8 (cs := [.int .i64 a2]) rfl rfl rfl rfl (fun b3 => ?_)
 refine Ja rfl rfl rfl (Jc (v := .slice none 0 0) rfl) ?_
 refine Jf ?_
 refine Je ?_
 refine Jb ?_
 refine Ja rfl rfl rfl (Jd (v := .pointer (some ⟨pb0, 0, none⟩)) rfl) ?_
 refine Ja rfl rfl rfl (r_makeFn (caps := #[.pointer (some ⟨b2, 0, none⟩), .pointer (some ⟨b3, 0, none⟩)]) rfl) ?_
 obtain ⟨t9, h_t9, H2⟩ := Jh H; clear H
 refine Zf (Q3 (rds := [0, 1]) (G := fun x : (Option Addr × Nat) => .slice x.1 t9.length x.2) (C := fun x : (Option Addr × Nat) => Qq 52 8 (.slice x.1 t9.length x.2) t9.length (t9.map Jj)) (fun w L' hF hS hi => k62 (Jx w) (f0_2.mono (hw.now hF)) (hw.now hF _ _ hb0) (FnH.mk ⟨69, #[], #[.pointer (some ⟨b2, 0, none⟩), .pointer (some ⟨b3, 0, none⟩)], rfl, Tryz.call69, fun args2 post2 w2 hk2 hR2 => by obtain ⟨a0_, r_, rfl, H_, rfl⟩ := hR2; exact k69 (Jx w2) (hk2.up _ _ (Q8 (i := 0) hS ((hi 0 (by simp)).trans rfl))) (hk2.up _ _ (Q8 (i := 1) hS ((hi 1 (by simp)).trans rfl))) H_⟩) h_t9) Tryz.call62 rfl) rfl rfl rfl (fun p => ?_)
 refine Ja rfl rfl rfl (Jc (v := .slice p.1 t9.length p.2) rfl) ?_
 refine Jf ?_
 refine Jm ?_
 obtain rfl := Option.some.inj H2
 refine Jy (v := .slice p.1 t9.length p.2) rfl rfl (W6 p (i := 2) rfl rfl (Imp.refl _))
theorem k25 {a0 : T_sync_Replica} {v0_2 : Value} {pb0 : Nat} {a1 : Int} {r : Bool} {w : World} {h : J3} (hw : Know h w Zh) (f0_2 : FrS h 8 v0_2 (a0.facts_.map Jj)) (hb0 : h pb0 = some (.cells (List.toArray [.int .i64 a0.device_, .int .i64 (a0.knows_ 0), .int .i64 (a0.knows_ 1), .int .i64 (a0.knows_ 2), .int .i64 (a0.knows_ 3), .int .i64 (a0.knows_ 4), .int .i64 (a0.knows_ 5), .int .i64 (a0.knows_ 6), .int .i64 (a0.knows_ 7), .int .i64 (a0.knows_ 8), .int .i64 (a0.knows_ 9), .int .i64 (a0.knows_ 10), .int .i64 (a0.knows_ 11), .int .i64 (a0.knows_ 12), .int .i64 (a0.knows_ 13), .int .i64 (a0.knows_ 14), .int .i64 (a0.knows_ 15), v0_2]) 67 (0, 0))) (H : W4 a0 a1 = some r) : Does Tryz.prog 25 (List.toArray [.pointer (some ⟨pb0, 0, none⟩), .int .i64 a1]) w (fun v w' => v = (.bool r) ∧ Grow w w') := by
 refine enter (n := 10) Tryz.func25 rfl rfl rfl Zh [] (Sat.nil _ _) ?_
 refine Je ?_
 refine Jb ?_
 refine Ja rfl rfl rfl (Jc (v := .bool false) rfl) ?_
 refine Jf ?_
 refine Je ?_
 refine Jb ?_
 refine Ja rfl rfl rfl (Jd (v := .pointer (some ⟨pb0, 0, none⟩)) rfl) ?_
 refine Ja rfl rfl rfl (Jd (v := .int .i64 a1) rfl) ?_
 obtain ⟨t7, h_t7, H2⟩ := Jh H; clear H
 refine Zf (Q3 (rds := []) (G := fun x : (Option Addr × Nat) => .slice x.1 t7.length x.2) (C := fun x : (Option Addr × Nat) => Qq 52 8 (.slice x.1 t7.length x.2) t7.length (t7.map Jj)) (fun w L' hF hS hi => k34 (Jx w) (f0_2.mono (hw.now hF)) (hw.now hF _ _ hb0) h_t7) Tryz.call34 rfl) rfl rfl rfl (fun p => ?_)
 refine Ja rfl rfl rfl (Uj Tryz.underlying65 rfl) ?_
 refine Ja rfl rfl rfl (Wz rfl rfl) ?_
 refine Ja rfl rfl rfl (Jc (v := .bool (decide (0 < (t7.length : Int)))) rfl) ?_
 refine Jf ?_
 refine Jm ?_
 obtain rfl := Option.some.inj H2
 refine Jy (v := .bool (decide (0 < (t7.length : Int)))) rfl rfl (Xh rfl)
theorem k78 {a0 : (List T_sync_Fact)} {v0 : Value} {a1 : (T_sync_Fact → Option (Bool))} {v1 : Value} {r : Int} {w : World} {h : J3} (hw : Know h w Zh) (f0 : FrS h 8 v0 (a0.map Jj)) (f1 : FnH Tryz.prog h v1 (Xd a1)) (H : Zj a0 a1 = some r) : Does Tryz.prog 78 (List.toArray [v0, v1]) w (fun v w' => v = (.int .i64 r) ∧ Grow w w') := by
 refine enter (n := 19) Tryz.func78 rfl rfl rfl Zh [] (Sat.nil _ _) ?_
 refine Je ?_
 refine Jb ?_
 refine Ja rfl rfl rfl (Jc (v := .int .i64 0) rfl) ?_
 refine Jf ?_
 refine Je ?_
 refine Je ?_
 refine Jb ?_
 refine Ja rfl rfl rfl (Jd (v := v0) rfl) ?_
 refine Ja rfl rfl rfl (Zl Tryz.underlying65 rfl f0 rfl) ?_
 refine Ja rfl rfl rfl (Jd (v := .int .i64 0) rfl) ?_
 refine Jf ?_
 refine Ju ?_
 refine Yv (σ := Int) (τ := Unit) (fun next1 s => Xy a0 a1 next1 s) (fun s t => [(0, v0), (1, v1), (7, .int .i64 (a0.length : Int)), (8, .int .i64 s)]) (fun s t => []) (fun s t => True) 0 () [] H (by exact trivial) (by exact ⟨rfl, rfl, rfl, rfl, trivial⟩) (by decide) rfl ?_
 rintro x8_2 _ m1 gg H9 _
 clear H
 replace H9 : Xy a0 a1 (it (fun next1 s => Xy a0 a1 next1 s) m1) x8_2 = some r := H9
 generalize hn1 : it (fun next1 s => Xy a0 a1 next1 s) m1 = next1 at H9
 try dsimp only
 refine Je ?_
 refine Jb ?_
 refine Ja rfl rfl rfl (Q1 rfl rfl) ?_
 refine Jf ?_
 refine Je ?_
 refine J5 (b := (decide (x8_2 < (a0.length : Int)))) rfl (fun hb => ?_) (fun hb => ?_)
 ·have H10 := Jn hb H9; clear H9
  refine Jr ?_
  refine Je ?_
  refine Ju ?_
  refine Je ?_
  refine Jb ?_
  refine Ja rfl rfl rfl (Jd (v := .int .i64 x8_2) rfl) ?_
  refine Ja rfl rfl rfl (Jc (v := .int .i64 x8_2) rfl) ?_
  refine Jf ?_
  refine Je ?_
  refine Jb ?_
  refine Ja rfl rfl rfl (Jd (v := v1) rfl) ?_
  refine Ja rfl rfl rfl (Jd (v := v0) rfl) ?_
  refine Ja rfl rfl rfl (Jd (v := .int .i64 x8_2) rfl) ?_
  obtain ⟨t14, h_t14, H11⟩ := Jh H10; clear H10
  refine Ja rfl rfl rfl (Qm Tryz.underlying65 Tryz.sizeOf52 rfl rfl f0 h_t14) ?_
  refine Qa (fun w hF hS => Xw (f := Jj) (i := x8_2) (sz := 8) (j := 0) (vs := [.int .i64 t14.Dot.Device, .int .i64 t14.Dot.N, .int .i64 t14.Time, .int .i64 t14.Kind, .int .i64 t14.Id, str t14.Name, .int .i64 t14.Num, str t14.Text]) Tryz.isAgg52 Tryz.sizeOf52 rfl rfl (f0.row (hw.now hF)) h_t14 rfl) rfl rfl rfl ?_
  obtain ⟨t16, h_t16, H12⟩ := Jh H11; clear H11
  refine l_callV (R := Xd a1) (r := .bool t16) (v := v1) (fun w hF hS => ⟨(f1.mono (hw.now hF)), ⟨t14, _, rfl, h_t16, rfl⟩⟩) rfl rfl rfl rfl ?_
  refine Jf ?_
  refine J5 (b := t16) rfl (fun hb => ?_) (fun hb => ?_)
  ·have H13 := Jn hb H12; clear H12
   refine Je ?_
   refine Jb ?_
   refine Ja rfl rfl rfl (Jd (v := .int .i64 x8_2) rfl) ?_
   refine Ja rfl rfl rfl (Jc (v := .int .i64 x8_2) rfl) ?_
   refine Jf ?_
   refine Jm ?_
   obtain rfl := Option.some.inj H13
   refine Jy (v := .int .i64 x8_2) rfl rfl (Xh rfl)
  ·have H14 := Jo hb H12; clear H12
   refine Jr ?_
   refine Jb ?_
   obtain ⟨t18, h_t18, H15⟩ := Jh H14; clear H14
   refine Ja rfl rfl rfl (Q2 rfl rfl h_t18) ?_
   refine Ja rfl rfl rfl (Jd (v := .int .i64 t18) rfl) ?_
   refine Jf ?_
   refine Jl t18 () m1 [] (by exact ⟨rfl, rfl, rfl, rfl, trivial⟩) (by decide) rfl (by exact ⟨(by subst hn1; exact H15), trivial⟩) (Nat.lt_succ_self _)
 ·have H16 := Jo hb H9; clear H9
  refine Qr ?_
  refine Je ?_
  refine Jb ?_
  refine Ja rfl rfl rfl (Jc (v := .int .i64 (-1)) rfl) ?_
  refine Jf ?_
  refine Jm ?_
  obtain rfl := Option.some.inj H16
  refine Jy (v := .int .i64 (-1)) rfl rfl (Xh rfl)
theorem k51 {a0 : (List T_sync_Fact)} {p0 : Option Addr × Nat} {n0 : Nat} {a1 : (T_sync_Fact → Option (Bool))} {v1 : Value} {r : (List T_sync_Fact)} {w : World} {h : J3} {S : Nat → Prop} (hcs : (Q0 52 8 (.slice p0.1 n0 p0.2) n0 (a0.map Jj)).P S w) (hlt : ∀ b, S b → b < w.heap.size) (hw : Know h w S) (hn0 : n0 = a0.length) (f1 : FnH Tryz.prog h v1 (Xd a1)) (H : Zc a0 a1 = some r) : Does Tryz.prog 51 (List.toArray [.slice p0.1 n0 p0.2, v1]) w (fun v w' => ∃ x : (Option Addr × Nat), v = (.slice x.1 r.length x.2) ∧ Turn w w' S (Q0 52 8 (.slice x.1 r.length x.2) r.length (r.map Jj))) := by
 refine enter (n := 42) Tryz.func51 rfl rfl rfl S [Q0 52 8 (.slice p0.1 n0 p0.2) n0 (a0.map Jj)] (Sat.one hcs hlt) ?_
 refine Je ?_
 refine Jb ?_
 refine Ja rfl rfl rfl (Jc (v := .slice none 0 0) rfl) ?_
 refine Jf ?_
 refine Je ?_
 refine Jb ?_
 refine Ja rfl rfl rfl (Jd (v := .slice p0.1 n0 p0.2) rfl) ?_
 refine Ja rfl rfl rfl (Jd (v := v1) rfl) ?_
 obtain ⟨t10, h_t10, H39⟩ := Jh H; clear H
 refine Xq (fun w hF hS => k78 (Jx w) (frs_off (i := 0) hn0 hS rfl) (f1.mono (hw.now hF)) h_t10) Tryz.call78 rfl rfl rfl ?_
 refine Ja rfl rfl rfl (Jc (v := .int .i64 t10) rfl) ?_
 refine Jf ?_
 refine Je ?_
 refine Je ?_
 refine Jb ?_
 refine Ja rfl rfl rfl (Jd (v := .int .i64 t10) rfl) ?_
 refine Ja rfl rfl rfl (Zp rfl rfl) ?_
 refine Jf ?_
 refine J5 (b := (decide (t10 = (-1)))) rfl (fun hb => ?_) (fun hb => ?_)
 ·have H40 := Jn hb H39; clear H39
  refine Je ?_
  refine Jb ?_
  refine Ja rfl rfl rfl (Jd (v := .slice p0.1 n0 p0.2) rfl) ?_
  refine Ja rfl rfl rfl (Jc (v := .slice p0.1 n0 p0.2) rfl) ?_
  refine Jf ?_
  refine Jm ?_
  obtain rfl := Option.some.inj H40
  refine Jy (v := .slice p0.1 n0 p0.2) rfl rfl (W6 p0 (i := 0) rfl (by first | rfl | rw [(show n0 = a0.length from hn0)]) (by first | exact Imp.refl _ | exact Imp.of (by rw [(show n0 = a0.length from hn0)])))
 ·have H41 := Jo hb H39; clear H39
  refine Jr ?_
  refine Xi (r := r) (σ := Int × (List T_sync_Fact)) (τ := Unit) (fun s => Yt s.1 s.2) (fun s t => [(0, .slice p0.1 n0 p0.2), (5, .int .i64 s.1)]) (fun s t => [Q0 52 8 (.slice p0.1 n0 p0.2) n0 (s.2.map Jj)]) (fun s t => n0 = s.2.length) ?_ ?_
  ·refine Je ?_
   refine Jb ?_
   refine Ja rfl rfl rfl (Jd (v := .int .i64 t10) rfl) ?_
   obtain ⟨t15, h_t15, H45⟩ := Jh H41; clear H41
   refine Ja rfl rfl rfl (Q2 rfl rfl h_t15) ?_
   refine Ja rfl rfl rfl (Jc (v := .int .i64 t15) rfl) ?_
   refine Jf ?_
   refine Ju ?_
   refine Yv (σ := Int × Int × (List T_sync_Fact)) (τ := Unit) (fun next2 s => Qo a1 next2 s.1 s.2.1 s.2.2) (fun s t => [(0, .slice p0.1 n0 p0.2), (1, v1), (5, .int .i64 s.1), (6, .int .i64 s.2.1)]) (fun s t => [Q0 52 8 (.slice p0.1 n0 p0.2) n0 (s.2.2.map Jj)]) (fun s t => n0 = s.2.2.length) (t10, t15, a0) () [0] H45 (by exact hn0) (by exact ⟨rfl, rfl, rfl, rfl, trivial⟩) (by decide) rfl ?_
   rintro ⟨x5_3, x6_2, l_3⟩ _ m2 gg H46 hl_3
   clear H45
   replace H46 : Qo a1 (it (fun next2 s => Qo a1 next2 s.1 s.2.1 s.2.2) m2) x5_3 x6_2 l_3 = some r := H46
   generalize hn2 : it (fun next2 s => Qo a1 next2 s.1 s.2.1 s.2.2) m2 = next2 at H46
   try dsimp only
   refine Je ?_
   refine Je ?_
   refine Jb ?_
   refine Ja rfl rfl rfl (Jd (v := .int .i64 x6_2) rfl) ?_
   refine Ja rfl rfl rfl (Jd (v := .slice p0.1 n0 p0.2) rfl) ?_
   refine Ja rfl rfl rfl (r_lenN Tryz.underlying65 rfl hl_3) ?_
   refine Ja rfl rfl rfl (Q1 rfl rfl) ?_
   refine Jf ?_
   refine J5 (b := (decide (x6_2 < (l_3.length : Int)))) rfl (fun hb => ?_) (fun hb => ?_)
   ·have H47 := Jn hb H46; clear H46
    refine Jr ?_
    refine Xi (r := r) (σ := Int × (List T_sync_Fact)) (τ := Unit) (fun s => Xu x6_2 next2 s.1 s.2) (fun s t => [(0, .slice p0.1 n0 p0.2), (1, v1), (5, .int .i64 s.1), (6, .int .i64 x6_2)]) (fun s t => [Q0 52 8 (.slice p0.1 n0 p0.2) n0 (s.2.map Jj)]) (fun s t => n0 = s.2.length) ?_ ?_
    ·refine Ju ?_
     refine Je ?_
     refine Jb ?_
     refine Ja rfl rfl rfl (Jd (v := .slice p0.1 n0 p0.2) rfl) ?_
     refine Ja rfl rfl rfl (Jd (v := .int .i64 x6_2) rfl) ?_
     obtain ⟨t24, h_t24, H50⟩ := Jh H47; clear H47
     refine Qa (fun w hF hS => Vr Tryz.underlying65 Tryz.sizeOf52 rfl rfl (offOf (i := 0) hS rfl) hl_3 h_t24) rfl rfl rfl ?_
     refine Qa (fun w hF hS => Xw (f := Jj) (i := x6_2) (sz := 8) (j := 0) (vs := [.int .i64 t24.Dot.Device, .int .i64 t24.Dot.N, .int .i64 t24.Time, .int .i64 t24.Kind, .int .i64 t24.Id, str t24.Name, .int .i64 t24.Num, str t24.Text]) Tryz.isAgg52 Tryz.sizeOf52 rfl rfl (offOf (i := 0) hS rfl) h_t24 rfl) rfl rfl rfl ?_
     refine Zo (cs := [.int .i64 0, .int .i64 0, .int .i64 0, .int .i64 0, .int .i64 0, str [], .int .i64 0, str []]) Tryz.zeroValue52 rfl rfl rfl (fun b2 => ?_)
     refine X3 (i := 1) (vs := [.int .i64 t24.Dot.Device, .int .i64 t24.Dot.N, .int .i64 t24.Time, .int .i64 t24.Kind, .int .i64 t24.Id, str t24.Name, .int .i64 t24.Num, str t24.Text]) (cs' := [.int .i64 t24.Dot.Device, .int .i64 t24.Dot.N, .int .i64 t24.Time, .int .i64 t24.Kind, .int .i64 t24.Id, str t24.Name, .int .i64 t24.Num, str t24.Text]) Tryz.sizeOf52 rfl rfl rfl rfl rfl rfl rfl rfl rfl ?_
     refine Jf ?_
     refine Je ?_
     refine Jb ?_
     refine Ja rfl rfl rfl (Jd (v := v1) rfl) ?_
     refine Y2 (i := 1) (vs := [.int .i64 t24.Dot.Device, .int .i64 t24.Dot.N, .int .i64 t24.Time, .int .i64 t24.Kind, .int .i64 t24.Id, str t24.Name, .int .i64 t24.Num, str t24.Text]) Tryz.isAgg52 Tryz.sizeOf52 rfl rfl rfl rfl rfl ?_
     obtain ⟨t28, h_t28, H51⟩ := Jh H50; clear H50
     refine l_callV (R := Xd a1) (r := .bool t28) (v := v1) (fun w hF hS => ⟨(f1.mono (hw.now hF)), ⟨t24, _, rfl, h_t28, rfl⟩⟩) rfl rfl rfl rfl ?_
     refine Ja rfl rfl rfl (Vt rfl) ?_
     refine Jf ?_
     refine J5 (b := (!t28)) rfl (fun hb => ?_) (fun hb => ?_)
     ·have H52 := Jn hb H51; clear H51
      refine Je ?_
      refine Jb ?_
      refine Ja rfl rfl rfl (Jd (v := .slice p0.1 n0 p0.2) rfl) ?_
      refine Ja rfl rfl rfl (Jd (v := .int .i64 x5_3) rfl) ?_
      refine Y2 (i := 1) (vs := [.int .i64 t24.Dot.Device, .int .i64 t24.Dot.N, .int .i64 t24.Time, .int .i64 t24.Kind, .int .i64 t24.Id, str t24.Name, .int .i64 t24.Num, str t24.Text]) Tryz.isAgg52 Tryz.sizeOf52 rfl rfl rfl rfl rfl ?_
      obtain ⟨t33, h_t33, H53⟩ := Jh H52; clear H52
      refine Qa (fun w hF hS => Vr Tryz.underlying65 Tryz.sizeOf52 rfl rfl (offOf (i := 0) hS rfl) hl_3 h_t33) rfl rfl rfl ?_
      obtain ⟨l0, h_l0, H54⟩ := Jh H53; clear H53
      refine l_turn0 (turns_storeGO (rds := []) (q := 0) (j := 0) (i := x5_3) (sz := 8) (hm := hl_3) (f := Jj) (vs := [.int .i64 t24.Dot.Device, .int .i64 t24.Dot.N, .int .i64 t24.Time, .int .i64 t24.Kind, .int .i64 t24.Id, str t24.Name, .int .i64 t24.Num, str t24.Text]) Tryz.sizeOf52 rfl rfl rfl rfl rfl rfl rfl rfl (fun y_ hy_ => by first | rfl | (cases hy_.symm.trans h_t33; rfl)) h_l0) rfl rfl (fun _ => ?_)
      refine Jf ?_
      refine Jb ?_
      refine Ja rfl rfl rfl (Jd (v := .int .i64 x5_3) rfl) ?_
      obtain ⟨t35, h_t35, H55⟩ := Jh H54; clear H54
      refine Ja rfl rfl rfl (Q2 rfl rfl h_t35) ?_
      refine Ja rfl rfl rfl (Jc (v := .int .i64 t35) rfl) ?_
      refine Jf ?_
      refine Jl (t35, l0) () 0 [0] (by exact ⟨rfl, rfl, rfl, rfl, trivial⟩) (by decide) rfl (by exact ⟨H55, (gSet_n hl_3 h_l0)⟩) (Nat.lt_succ_self _)
     ·have H56 := Jo hb H51; clear H51
      refine Jr ?_
      refine Jl (x5_3, l_3) () 0 [0] (by exact ⟨rfl, rfl, rfl, rfl, trivial⟩) (by decide) rfl (by exact ⟨H56, hl_3⟩) (Nat.lt_succ_self _)
    ·rintro ⟨x5_4, l_4⟩ _ gg H48 hl_4
     replace H48 : Xu x6_2 next2 x5_4 l_4 = some r := H48
     try dsimp only
     refine Jb ?_
     refine Ja rfl rfl rfl (Jd (v := .int .i64 x6_2) rfl) ?_
     obtain ⟨t21, h_t21, H49⟩ := Jh H48; clear H48
     refine Ja rfl rfl rfl (Q2 rfl rfl h_t21) ?_
     refine Ja rfl rfl rfl (Jc (v := .int .i64 t21) rfl) ?_
     refine Jf ?_
     refine Jl (x5_4, t21, l_4) () m2 [0] (by exact ⟨rfl, rfl, rfl, rfl, trivial⟩) (by decide) rfl (by exact ⟨(by subst hn2; exact H49), hl_4⟩) (Nat.lt_succ_self _)
   ·have H57 := Jo hb H46; clear H46
    refine Qr ?_
    refine Jl (x5_3, l_3) () 0 [0] (by exact ⟨rfl, rfl, trivial⟩) (by decide) rfl (by exact ⟨H57, hl_3⟩) (Nat.lt_succ_self _)
  ·rintro ⟨x5, l⟩ _ gg H42 hl
   replace H42 : Yt x5 l = some r := H42
   try dsimp only
   refine Je ?_
   refine Jb ?_
   refine Ja rfl rfl rfl (Jd (v := .slice p0.1 n0 p0.2) rfl) ?_
   refine Ja rfl rfl rfl (Jd (v := .int .i64 x5) rfl) ?_
   obtain ⟨t38, h_t38, H43⟩ := Jh H42; clear H42
   refine Qa (v := .slice (Y4 p0.1 (Int.toNat x5) p0.2 8) t38.length (p0.2 - Int.toNat x5)) (fun w hF hS => run_sliceLO (xs := l) Tryz.underlying65 Tryz.sizeOf52 rfl rfl hl (capOfO (i := 0) hS rfl) h_t38) rfl rfl rfl ?_
   refine l_turn0 (turns_clearVO (i := 0) (rds := []) (f := Jj) (z0 := (⟨(⟨0, 0⟩ : T_sync_Dot), 0, 0, 0, [], 0, []⟩ : T_sync_Fact)) (ys := l) (a := x5) (q := l.length) hl Tryz.underlying65 Tryz.zeroValue52 rfl (fun _ => rfl) (fun _ => rfl) rfl h_t38 rfl) rfl rfl (fun _ => ?_)
   refine Jf ?_
   refine Je ?_
   refine Jb ?_
   refine Ja rfl rfl rfl (Jd (v := .slice p0.1 n0 p0.2) rfl) ?_
   refine Ja rfl rfl rfl (Jd (v := .int .i64 x5) rfl) ?_
   obtain ⟨t41, h_t41, H44⟩ := Jh H43; clear H43
   refine Qa (v := .slice p0.1 t41.length p0.2) (fun w hF hS => run_sliceHO0 (xs := (clrL l x5 l.length (⟨(⟨0, 0⟩ : T_sync_Dot), 0, 0, 0, [], 0, []⟩ : T_sync_Fact))) Tryz.underlying65 Tryz.sizeOf52 rfl rfl (clrL_n hl h_t38) (capOfO (i := 0) hS rfl) h_t41) rfl rfl rfl ?_
   refine Ja rfl rfl rfl (Jc (v := .slice p0.1 t41.length p0.2) rfl) ?_
   refine Jf ?_
   refine Jm ?_
   refine c_imp 0 rfl (imp_shrinkO (clrL_n hl h_t38) h_t41) ?_
   obtain rfl := Option.some.inj H44
   refine Jy (v := .slice p0.1 t41.length p0.2) rfl rfl (W6 p0 (i := 0) rfl rfl (Imp.refl _))
theorem k52 {a0 : (List T_sync_Fact)} {p0 : Option Addr × Nat} {n0 : Nat} {r : (List T_sync_Fact)} {w : World} {h : J3} {S : Nat → Prop} (hcs : (Q0 52 8 (.slice p0.1 n0 p0.2) n0 (a0.map Jj)).P S w) (hlt : ∀ b, S b → b < w.heap.size) (_ : Know h w S) (hn0 : n0 = a0.length) (H : gSortU a0 Xk = some r) : Does Tryz.prog 52 (List.toArray [.slice p0.1 n0 p0.2, .func (.func 53) #[] #[]]) w (fun v w' => ∃ x : Unit, v = (.tuple #[]) ∧ Turn w w' S (Q0 52 8 (.slice p0.1 n0 p0.2) n0 (r.map Jj))) :=
  sort_funcO (ρ := Go.Proofs.Tryz.sortFF_ren) Go.Proofs.Tryz.sortFF (k := 8) (fun w => Tryz.isAgg52 w) (fun w => Tryz.sizeOf52 w) Jj (fun _ => rfl) (fun x v hv => by simp [Jj] at hv; rcases hv with rfl | rfl | rfl | rfl | rfl | rfl | rfl | rfl <;> rfl) Go.Proofs.Tryz.entersF (fun x y v W hv => Go.Proofs.Tryz.cmpF x y v W hv) hcs hlt hn0 H
theorem k80 {a0 : (List Int)} {v0 : Value} {r : Int} {w : World} {h : J3} (hw : Know h w Zh) (f0 : FrS h 1 v0 (a0.map J4)) (H : W3 a0 = some r) : Does Tryz.prog 80 (List.toArray [v0]) w (fun v w' => v = (.int .i64 r) ∧ Grow w w') := by
 refine enter (n := 18) Tryz.func80 rfl rfl rfl Zh [] (Sat.nil _ _) ?_
 refine Je ?_
 refine Jb ?_
 refine Ja rfl rfl rfl (Jc (v := .int .i64 0) rfl) ?_
 refine Jf ?_
 refine Je ?_
 refine Jb ?_
 refine Ja rfl rfl rfl (Jc (v := .int .i64 0) rfl) ?_
 refine Jf ?_
 refine Je ?_
 refine Je ?_
 refine Jb ?_
 refine Ja rfl rfl rfl (Jd (v := v0) rfl) ?_
 refine Ja rfl rfl rfl (Zl Tryz.underlying24 rfl f0 rfl) ?_
 refine Ja rfl rfl rfl (Jd (v := .int .i64 0) rfl) ?_
 refine Jf ?_
 refine Ju ?_
 refine Yv (σ := Int) (τ := Unit) (fun next1 s => Qb a0 next1 s) (fun s t => [(3, .int .i64 0), (6, v0), (7, .int .i64 (a0.length : Int)), (8, .int .i64 s)]) (fun s t => []) (fun s t => True) 0 () [] H (by exact trivial) (by exact ⟨rfl, rfl, rfl, rfl, trivial⟩) (by decide) rfl ?_
 rintro x8_2 _ m1 gg H8 _
 clear H
 replace H8 : Qb a0 (it (fun next1 s => Qb a0 next1 s) m1) x8_2 = some r := H8
 generalize hn1 : it (fun next1 s => Qb a0 next1 s) m1 = next1 at H8
 try dsimp only
 refine Je ?_
 refine Jb ?_
 refine Ja rfl rfl rfl (Q1 rfl rfl) ?_
 refine Jf ?_
 refine Je ?_
 refine J5 (b := (decide (x8_2 < (a0.length : Int)))) rfl (fun hb => ?_) (fun hb => ?_)
 ·have H9 := Jn hb H8; clear H8
  refine Jr ?_
  refine Je ?_
  refine Ju ?_
  refine Je ?_
  refine Jb ?_
  obtain ⟨t10, h_t10, H10⟩ := Jh H9; clear H9
  refine Ja rfl rfl rfl (Qm Tryz.underlying24 Tryz.sizeOf3 rfl rfl f0 h_t10) ?_
  refine Qa (fun w hF hS => Qj (f := J4) (i := x8_2) (sz := 1) (j := 0) (v := .int .i64 t10) Tryz.isAgg3 rfl rfl (f0.row (hw.now hF)) h_t10 rfl) rfl rfl rfl ?_
  refine Ja rfl rfl rfl (Jc (v := .int .i64 t10) rfl) ?_
  refine Jf ?_
  refine Je ?_
  refine Jb ?_
  refine Ja rfl rfl rfl (Jd (v := .int .i64 t10) rfl) ?_
  refine Ja rfl rfl rfl (Jd (v := .int .i64 0) rfl) ?_
  refine Ja rfl rfl rfl (U0 rfl rfl) ?_
  refine Jf ?_
  refine J5 (b := (decide (t10 ≠ 0))) rfl (fun hb => ?_) (fun hb => ?_)
  ·have H11 := Jn hb H10; clear H10
   refine Je ?_
   refine Jb ?_
   refine Ja rfl rfl rfl (Jd (v := .int .i64 t10) rfl) ?_
   refine Ja rfl rfl rfl (Jc (v := .int .i64 t10) rfl) ?_
   refine Jf ?_
   refine Jm ?_
   obtain rfl := Option.some.inj H11
   refine Jy (v := .int .i64 t10) rfl rfl (Xh rfl)
  ·have H12 := Jo hb H10; clear H10
   refine Jr ?_
   refine Jb ?_
   obtain ⟨t16, h_t16, H13⟩ := Jh H12; clear H12
   refine Ja rfl rfl rfl (Q2 rfl rfl h_t16) ?_
   refine Ja rfl rfl rfl (Jd (v := .int .i64 t16) rfl) ?_
   refine Jf ?_
   refine Jl t16 () m1 [] (by exact ⟨rfl, rfl, rfl, rfl, trivial⟩) (by decide) rfl (by exact ⟨(by subst hn1; exact H13), trivial⟩) (Nat.lt_succ_self _)
 ·have H14 := Jo hb H8; clear H8
  refine Qr ?_
  refine Je ?_
  refine Jb ?_
  refine Ja rfl rfl rfl (Jd (v := .int .i64 0) rfl) ?_
  refine Ja rfl rfl rfl (Jc (v := .int .i64 0) rfl) ?_
  refine Jf ?_
  refine Jm ?_
  obtain rfl := Option.some.inj H14
  refine Jy (v := .int .i64 0) rfl rfl (Xh rfl)
theorem k81 {a0 : Int} {a1 : Int} {r : Int} (H : cmp_Compare_int a0 a1 = some r) : Ret Tryz.prog 81 [.int .i64 a0, .int .i64 a1] (.int .i64 r) := by
 refine Qc (n := 20) Tryz.func81 rfl rfl rfl (fun wd => ?_)
 refine Je ?_
 refine Jb ?_
 refine Ja rfl rfl rfl (Jc (v := .int .i64 0) rfl) ?_
 refine Jf ?_
 refine Je ?_
 refine Jb ?_
 refine Ja rfl rfl rfl (Jd (v := .int .i64 a0) rfl) ?_
 obtain ⟨t8, h_t8, H13⟩ := Jh H; clear H
 refine Qu (k108 h_t8) Tryz.call108 rfl rfl rfl ?_
 refine Ja rfl rfl rfl (Jc (v := .bool t8) rfl) ?_
 refine Jf ?_
 refine Je ?_
 refine Jb ?_
 refine Ja rfl rfl rfl (Jd (v := .int .i64 a1) rfl) ?_
 obtain ⟨t10, h_t10, H14⟩ := Jh H13; clear H13
 refine Qu (k108 h_t10) Tryz.call108 rfl rfl rfl ?_
 refine Ja rfl rfl rfl (Jc (v := .bool t10) rfl) ?_
 refine Jf ?_
 refine Je ?_
 refine Je ?_
 refine Jb ?_
 refine Ja rfl rfl rfl (Jd (v := .bool t8) rfl) ?_
 refine Jf ?_
 refine J5 (b := t8) rfl (fun hb => ?_) (fun hb => ?_)
 ·have H15 := Jn hb H14; clear H14
  refine Je ?_
  refine Je ?_
  refine Jb ?_
  refine Ja rfl rfl rfl (Jd (v := .bool t10) rfl) ?_
  refine Jf ?_
  refine J5 (b := t10) rfl (fun hb => ?_) (fun hb => ?_)
  ·have H16 := Jn hb H15; clear H15
   refine Je ?_
   refine Jb ?_
   refine Ja rfl rfl rfl (Jc (v := .int .i64 0) rfl) ?_
   refine Jf ?_
   refine Jm ?_
   obtain rfl := Option.some.inj H16
   refine Jy (v := .int .i64 0) rfl rfl (Xh rfl)
  ·have H17 := Jo hb H15; clear H15
   refine Jr ?_
   refine Je ?_
   refine Jb ?_
   refine Ja rfl rfl rfl (Jc (v := .int .i64 (-1)) rfl) ?_
   refine Jf ?_
   refine Jm ?_
   obtain rfl := Option.some.inj H17
   refine Jy (v := .int .i64 (-1)) rfl rfl (Xh rfl)
 ·have H18 := Jo hb H14; clear H14
  refine Jr ?_
  refine Je ?_
  refine Je ?_
  refine Jb ?_
  refine Ja rfl rfl rfl (Jd (v := .bool t10) rfl) ?_
  refine Jf ?_
  refine J5 (b := t10) rfl (fun hb => ?_) (fun hb => ?_)
  ·have H19 := Jn hb H18; clear H18
   refine Je ?_
   refine Jb ?_
   refine Ja rfl rfl rfl (Jc (v := .int .i64 1) rfl) ?_
   refine Jf ?_
   refine Jm ?_
   obtain rfl := Option.some.inj H19
   refine Jy (v := .int .i64 1) rfl rfl (Xh rfl)
  ·have H20 := Jo hb H18; clear H18
   refine Jr ?_
   refine Je ?_
   refine Je ?_
   refine Jb ?_
   refine Ja rfl rfl rfl (Jd (v := .int .i64 a0) rfl) ?_
   refine Ja rfl rfl rfl (Jd (v := .int .i64 a1) rfl) ?_
   refine Ja rfl rfl rfl (Q1 rfl rfl) ?_
   refine Jf ?_
   refine J5 (b := (decide (a0 < a1))) rfl (fun hb => ?_) (fun hb => ?_)
   ·have H21 := Jn hb H20; clear H20
    refine Je ?_
    refine Jb ?_
    refine Ja rfl rfl rfl (Jc (v := .int .i64 (-1)) rfl) ?_
    refine Jf ?_
    refine Jm ?_
    obtain rfl := Option.some.inj H21
    refine Jy (v := .int .i64 (-1)) rfl rfl (Xh rfl)
   ·have H22 := Jo hb H20; clear H20
    refine Jr ?_
    refine Je ?_
    refine Je ?_
    refine Jb ?_
    refine Ja rfl rfl rfl (Jd (v := .int .i64 a0) rfl) ?_
    refine Ja rfl rfl rfl (Jd (v := .int .i64 a1) rfl) ?_
    refine Ja rfl rfl rfl (Wz rfl rfl) ?_
    refine Jf ?_
    refine J5 (b := (decide (a1 < a0))) rfl (fun hb => ?_) (fun hb => ?_)
    ·have H23 := Jn hb H22; clear H22
     refine Je ?_
     refine Jb ?_
     refine Ja rfl rfl rfl (Jc (v := .int .i64 1) rfl) ?_
     refine Jf ?_
     refine Jm ?_
     obtain rfl := Option.some.inj H23
     refine Jy (v := .int .i64 1) rfl rfl (Xh rfl)
    ·have H24 := Jo hb H22; clear H22
     refine Jr ?_
     refine Je ?_
     refine Jb ?_
     refine Ja rfl rfl rfl (Jc (v := .int .i64 0) rfl) ?_
     refine Jf ?_
     refine Jm ?_
     obtain rfl := Option.some.inj H24
     refine Jy (v := .int .i64 0) rfl rfl (Xh rfl)
theorem k109 {a0 : (List UInt8)} {r : Bool} (H : Uu a0 = some r) : Ret Tryz.prog 109 [str a0] (.bool r) := by
 refine Qc (n := 6) Tryz.func109 rfl rfl rfl (fun wd => ?_)
 refine Je ?_
 refine Jb ?_
 refine Ja rfl rfl rfl (Jc (v := .bool false) rfl) ?_
 refine Jf ?_
 refine Je ?_
 refine Jb ?_
 refine Ja rfl rfl rfl (Jd (v := str a0) rfl) ?_
 refine Ja rfl rfl rfl (Jd (v := str a0) rfl) ?_
 refine Ja rfl rfl rfl (r_neqT rfl rfl) ?_
 refine Ja rfl rfl rfl (Jc (v := .bool (decide (a0 ≠ a0))) rfl) ?_
 refine Jf ?_
 refine Jm ?_
 obtain rfl := Option.some.inj H
 refine Jy (v := .bool (decide (a0 ≠ a0))) rfl rfl (Xh rfl)
theorem k82 {a0 : (List UInt8)} {a1 : (List UInt8)} {r : Int} (H : W1 a0 a1 = some r) : Ret Tryz.prog 82 [str a0, str a1] (.int .i64 r) := by
 refine Qc (n := 20) Tryz.func82 rfl rfl rfl (fun wd => ?_)
 refine Je ?_
 refine Jb ?_
 refine Ja rfl rfl rfl (Jc (v := .int .i64 0) rfl) ?_
 refine Jf ?_
 refine Je ?_
 refine Jb ?_
 refine Ja rfl rfl rfl (Jd (v := str a0) rfl) ?_
 obtain ⟨t8, h_t8, H13⟩ := Jh H; clear H
 refine Qu (k109 h_t8) Tryz.call109 rfl rfl rfl ?_
 refine Ja rfl rfl rfl (Jc (v := .bool t8) rfl) ?_
 refine Jf ?_
 refine Je ?_
 refine Jb ?_
 refine Ja rfl rfl rfl (Jd (v := str a1) rfl) ?_
 obtain ⟨t10, h_t10, H14⟩ := Jh H13; clear H13
 refine Qu (k109 h_t10) Tryz.call109 rfl rfl rfl ?_
 refine Ja rfl rfl rfl (Jc (v := .bool t10) rfl) ?_
 refine Jf ?_
 refine Je ?_
 refine Je ?_
 refine Jb ?_
 refine Ja rfl rfl rfl (Jd (v := .bool t8) rfl) ?_
 refine Jf ?_
 refine J5 (b := t8) rfl (fun hb => ?_) (fun hb => ?_)
 ·have H15 := Jn hb H14; clear H14
  refine Je ?_
  refine Je ?_
  refine Jb ?_
  refine Ja rfl rfl rfl (Jd (v := .bool t10) rfl) ?_
  refine Jf ?_
  refine J5 (b := t10) rfl (fun hb => ?_) (fun hb => ?_)
  ·have H16 := Jn hb H15; clear H15
   refine Je ?_
   refine Jb ?_
   refine Ja rfl rfl rfl (Jc (v := .int .i64 0) rfl) ?_
   refine Jf ?_
   refine Jm ?_
   obtain rfl := Option.some.inj H16
   refine Jy (v := .int .i64 0) rfl rfl (Xh rfl)
  ·have H17 := Jo hb H15; clear H15
   refine Jr ?_
   refine Je ?_
   refine Jb ?_
   refine Ja rfl rfl rfl (Jc (v := .int .i64 (-1)) rfl) ?_
   refine Jf ?_
   refine Jm ?_
   obtain rfl := Option.some.inj H17
   refine Jy (v := .int .i64 (-1)) rfl rfl (Xh rfl)
 ·have H18 := Jo hb H14; clear H14
  refine Jr ?_
  refine Je ?_
  refine Je ?_
  refine Jb ?_
  refine Ja rfl rfl rfl (Jd (v := .bool t10) rfl) ?_
  refine Jf ?_
  refine J5 (b := t10) rfl (fun hb => ?_) (fun hb => ?_)
  ·have H19 := Jn hb H18; clear H18
   refine Je ?_
   refine Jb ?_
   refine Ja rfl rfl rfl (Jc (v := .int .i64 1) rfl) ?_
   refine Jf ?_
   refine Jm ?_
   obtain rfl := Option.some.inj H19
   refine Jy (v := .int .i64 1) rfl rfl (Xh rfl)
  ·have H20 := Jo hb H18; clear H18
   refine Jr ?_
   refine Je ?_
   refine Je ?_
   refine Jb ?_
   refine Ja rfl rfl rfl (Jd (v := str a0) rfl) ?_
   refine Ja rfl rfl rfl (Jd (v := str a1) rfl) ?_
   refine Ja rfl rfl rfl (r_lssT rfl rfl) ?_
   refine Jf ?_
   refine J5 (b := (ltB a0 a1)) rfl (fun hb => ?_) (fun hb => ?_)
   ·have H21 := Jn hb H20; clear H20
    refine Je ?_
    refine Jb ?_
    refine Ja rfl rfl rfl (Jc (v := .int .i64 (-1)) rfl) ?_
    refine Jf ?_
    refine Jm ?_
    obtain rfl := Option.some.inj H21
    refine Jy (v := .int .i64 (-1)) rfl rfl (Xh rfl)
   ·have H22 := Jo hb H20; clear H20
    refine Jr ?_
    refine Je ?_
    refine Je ?_
    refine Jb ?_
    refine Ja rfl rfl rfl (Jd (v := str a0) rfl) ?_
    refine Ja rfl rfl rfl (Jd (v := str a1) rfl) ?_
    refine Ja rfl rfl rfl (r_gtrT rfl rfl) ?_
    refine Jf ?_
    refine J5 (b := (ltB a1 a0)) rfl (fun hb => ?_) (fun hb => ?_)
    ·have H23 := Jn hb H22; clear H22
     refine Je ?_
     refine Jb ?_
     refine Ja rfl rfl rfl (Jc (v := .int .i64 1) rfl) ?_
     refine Jf ?_
     refine Jm ?_
     obtain rfl := Option.some.inj H23
     refine Jy (v := .int .i64 1) rfl rfl (Xh rfl)
    ·have H24 := Jo hb H22; clear H22
     refine Jr ?_
     refine Je ?_
     refine Jb ?_
     refine Ja rfl rfl rfl (Jc (v := .int .i64 0) rfl) ?_
     refine Jf ?_
     refine Jm ?_
     obtain rfl := Option.some.inj H24
     refine Jy (v := .int .i64 0) rfl rfl (Xh rfl)
theorem k26 {a0 : T_sync_Replica} {pb0 : Nat} {p0_2 : Option Addr × Nat} {n0_2 : Nat} {a1 : (T_sync_Fact → Option (Bool))} {v1 : Value} {a2 : (List T_sync_Fact)} {v2 : Value} {r : T_sync_Replica} {w : World} {h : J3} {S : Nat → Prop} (hcs : (Yk (Jp pb0 [.int .i64 a0.device_, .int .i64 (a0.knows_ 0), .int .i64 (a0.knows_ 1), .int .i64 (a0.knows_ 2), .int .i64 (a0.knows_ 3), .int .i64 (a0.knows_ 4), .int .i64 (a0.knows_ 5), .int .i64 (a0.knows_ 6), .int .i64 (a0.knows_ 7), .int .i64 (a0.knows_ 8), .int .i64 (a0.knows_ 9), .int .i64 (a0.knows_ 10), .int .i64 (a0.knows_ 11), .int .i64 (a0.knows_ 12), .int .i64 (a0.knows_ 13), .int .i64 (a0.knows_ 14), .int .i64 (a0.knows_ 15), .slice p0_2.1 n0_2 p0_2.2] 67) (Q0 52 8 (.slice p0_2.1 n0_2 p0_2.2) n0_2 (a0.facts_.map Jj))).P S w) (hlt : ∀ b, S b → b < w.heap.size) (hw : Know h w S) (hn0_2 : n0_2 = a0.facts_.length) (f1 : FnH Tryz.prog h v1 (Xd a1)) (f2 : FrS h 8 v2 (a2.map Jj)) (H : Vs a0 a1 a2 = some r) : Does Tryz.prog 26 (List.toArray [.pointer (some ⟨pb0, 0, none⟩), v1, v2]) w (fun v w' => ∃ x : (Option Addr × Nat), v = (.tuple #[]) ∧ Turn w w' S (Yk (Jp pb0 [.int .i64 r.device_, .int .i64 (r.knows_ 0), .int .i64 (r.knows_ 1), .int .i64 (r.knows_ 2), .int .i64 (r.knows_ 3), .int .i64 (r.knows_ 4), .int .i64 (r.knows_ 5), .int .i64 (r.knows_ 6), .int .i64 (r.knows_ 7), .int .i64 (r.knows_ 8), .int .i64 (r.knows_ 9), .int .i64 (r.knows_ 10), .int .i64 (r.knows_ 11), .int .i64 (r.knows_ 12), .int .i64 (r.knows_ 13), .int .i64 (r.knows_ 14), .int .i64 (r.knows_ 15), .slice x.1 r.facts_.length x.2] 67) (Q0 52 8 (.slice x.1 r.facts_.length x.2) r.facts_.length (r.facts_.map Jj)))) := by
 refine enter (n := 42) Tryz.func26 rfl rfl rfl S [Yk (Jp pb0 [.int .i64 a0.device_, .int .i64 (a0.knows_ 0), .int .i64 (a0.knows_ 1), .int .i64 (a0.knows_ 2), .int .i64 (a0.knows_ 3), .int .i64 (a0.knows_ 4), .int .i64 (a0.knows_ 5), .int .i64 (a0.knows_ 6), .int .i64 (a0.knows_ 7), .int .i64 (a0.knows_ 8), .int .i64 (a0.knows_ 9), .int .i64 (a0.knows_ 10), .int .i64 (a0.knows_ 11), .int .i64 (a0.knows_ 12), .int .i64 (a0.knows_ 13), .int .i64 (a0.knows_ 14), .int .i64 (a0.knows_ 15), .slice p0_2.1 n0_2 p0_2.2] 67) (Q0 52 8 (.slice p0_2.1 n0_2 p0_2.2) n0_2 (a0.facts_.map Jj))] (Sat.one hcs hlt) ?_
 refine Uw 0 rfl ?_
 refine Je ?_
 exact Za (Kd.p :: Kd.p :: Kd.p :: Kd.p :: Kd.d [0] _ :: Kd.p :: Kd.p :: Kd.p :: Kd.d [0] _ :: Kd.p :: Kd.p :: Kd.p :: Kd.p :: Kd.st 18 0 [_, _, _, _, _, _, _, _, _, _, _, _, _, _, _, _, _, _] 67 :: []) 0 mixed (by
  refine Jt rfl rfl (Jd (v := .pointer (some ⟨pb0, 0, none⟩)) rfl) ?_
  refine Jt rfl rfl (Jd (v := .pointer (some ⟨pb0, 0, none⟩)) rfl) ?_
  refine Jt rfl rfl (Qk rfl) ?_
  refine Jt rfl rfl (Jq Tryz.runUnderlying67 rfl Tryz.sizeOf3 rfl rfl) ?_
  refine Zb (i := 0) (v := .int .i64 a0.device_) Tryz.isAgg3 rfl rfl rfl rfl ?_
  refine Jt rfl rfl (Qk rfl) ?_
  refine Jt rfl rfl (Jq Tryz.runUnderlying67 rfl Tryz.sizeOf64 rfl rfl) ?_
  have h_k13 := Qx H
  have H7 := Qg H
  refine Jt rfl rfl (Jaj Tryz.runUnderlying64 Tryz.sizeOf3 rfl rfl h_k13) ?_
  refine Zb (i := 0) (v := .int .i64 (a0.knows_ (val (Xb 16 a0.device_)))) Tryz.isAgg3 rfl rfl rfl (rg_arr (pre := [.int .i64 a0.device_]) (post := [.slice p0_2.1 n0_2 p0_2.2]) (f := fun j_ => [.int .i64 (a0.knows_ j_)]) (n := 16) (sz := 1) (q := 0) rfl rfl (fun _ => rfl) (gIx_lt h_k13) rfl) ?_
  have h_t15 := Qx H7
  have H8 := Qg H7
  refine Jt rfl rfl (Q2 rfl rfl h_t15) ?_
  refine Jt rfl rfl (Qk rfl) ?_
  refine Jt rfl rfl (Jq Tryz.runUnderlying67 rfl Tryz.sizeOf64 rfl rfl) ?_
  have h_k18 := Qx H8
  have H9 := Qg H8
  refine Jt rfl rfl (Jaj Tryz.runUnderlying64 Tryz.sizeOf3 rfl rfl h_k18) ?_
  refine d_store (i := 0) (vs := [.int .i64 (val (gI ((a0.knows_ (val (Xb 16 a0.device_))) + 1)))]) (cs' := [.int .i64 a0.device_, .int .i64 ((Xe a0.knows_ (val (Xb 16 a0.device_)) (val (gI ((a0.knows_ (val (Xb 16 a0.device_))) + 1)))) 0), .int .i64 ((Xe a0.knows_ (val (Xb 16 a0.device_)) (val (gI ((a0.knows_ (val (Xb 16 a0.device_))) + 1)))) 1), .int .i64 ((Xe a0.knows_ (val (Xb 16 a0.device_)) (val (gI ((a0.knows_ (val (Xb 16 a0.device_))) + 1)))) 2), .int .i64 ((Xe a0.knows_ (val (Xb 16 a0.device_)) (val (gI ((a0.knows_ (val (Xb 16 a0.device_))) + 1)))) 3), .int .i64 ((Xe a0.knows_ (val (Xb 16 a0.device_)) (val (gI ((a0.knows_ (val (Xb 16 a0.device_))) + 1)))) 4), .int .i64 ((Xe a0.knows_ (val (Xb 16 a0.device_)) (val (gI ((a0.knows_ (val (Xb 16 a0.device_))) + 1)))) 5), .int .i64 ((Xe a0.knows_ (val (Xb 16 a0.device_)) (val (gI ((a0.knows_ (val (Xb 16 a0.device_))) + 1)))) 6), .int .i64 ((Xe a0.knows_ (val (Xb 16 a0.device_)) (val (gI ((a0.knows_ (val (Xb 16 a0.device_))) + 1)))) 7), .int .i64 ((Xe a0.knows_ (val (Xb 16 a0.device_)) (val (gI ((a0.knows_ (val (Xb 16 a0.device_))) + 1)))) 8), .int .i64 ((Xe a0.knows_ (val (Xb 16 a0.device_)) (val (gI ((a0.knows_ (val (Xb 16 a0.device_))) + 1)))) 9), .int .i64 ((Xe a0.knows_ (val (Xb 16 a0.device_)) (val (gI ((a0.knows_ (val (Xb 16 a0.device_))) + 1)))) 10), .int .i64 ((Xe a0.knows_ (val (Xb 16 a0.device_)) (val (gI ((a0.knows_ (val (Xb 16 a0.device_))) + 1)))) 11), .int .i64 ((Xe a0.knows_ (val (Xb 16 a0.device_)) (val (gI ((a0.knows_ (val (Xb 16 a0.device_))) + 1)))) 12), .int .i64 ((Xe a0.knows_ (val (Xb 16 a0.device_)) (val (gI ((a0.knows_ (val (Xb 16 a0.device_))) + 1)))) 13), .int .i64 ((Xe a0.knows_ (val (Xb 16 a0.device_)) (val (gI ((a0.knows_ (val (Xb 16 a0.device_))) + 1)))) 14), .int .i64 ((Xe a0.knows_ (val (Xb 16 a0.device_)) (val (gI ((a0.knows_ (val (Xb 16 a0.device_))) + 1)))) 15), .slice p0_2.1 n0_2 p0_2.2]) Tryz.sizeOf3 rfl rfl rfl rfl rfl rfl rfl rfl (wr_arr (pre := [.int .i64 a0.device_]) (post := [.slice p0_2.1 n0_2 p0_2.2]) (f := fun (j_ : Int) => [.int .i64 j_]) (n := 16) (sz := 1) (a := a0.knows_) (x := (val (gI ((a0.knows_ (val (Xb 16 a0.device_))) + 1)))) rfl rfl (fun _ => rfl) (gIx_lt h_k18) rfl rfl) ?_
  refine Ui ?_
  refine Je ?_
  refine Jb ?_
  refine Ja rfl rfl rfl (Jd (v := .pointer (some ⟨pb0, 0, none⟩)) rfl) ?_
  refine Ja rfl rfl rfl (Jd (v := .pointer (some ⟨pb0, 0, none⟩)) rfl) ?_
  refine Ja rfl rfl rfl (Qk rfl) ?_
  refine Ja rfl rfl rfl (Jq Tryz.runUnderlying67 rfl Tryz.sizeOf65 rfl rfl) ?_
  refine J0 (i := 0) (v := .slice p0_2.1 n0_2 p0_2.2) Tryz.isAgg65 rfl rfl rfl rfl rfl ?_
  refine Ja rfl rfl rfl (Jd (v := v1) rfl) ?_
  obtain ⟨t25, h_t25, H10⟩ := Jh H9; clear H9
  refine Yl (Q7 (i := 1) (rds := []) (G := fun x : (Option Addr × Nat) => .slice x.1 t25.length x.2) (C := fun x : (Option Addr × Nat) => Q0 52 8 (.slice x.1 t25.length x.2) t25.length (t25.map Jj)) rfl (fun w L' S hF hS hi hp hlt ho hA => k51 hp hlt (Y0 w S) hn0_2 (f1.mono (hw.but hF ho)) h_t25) Tryz.call51 rfl) rfl rfl rfl (fun p => ?_)
  refine Ja rfl rfl rfl (Qk rfl) ?_
  refine Ja rfl rfl rfl (Jq Tryz.runUnderlying67 rfl Tryz.sizeOf65 rfl rfl) ?_
  refine X3 (i := 0) (vs := [.slice p.1 t25.length p.2]) (cs' := [.int .i64 a0.device_, .int .i64 ((Xe a0.knows_ (val (Xb 16 a0.device_)) (val (gI ((a0.knows_ (val (Xb 16 a0.device_))) + 1)))) 0), .int .i64 ((Xe a0.knows_ (val (Xb 16 a0.device_)) (val (gI ((a0.knows_ (val (Xb 16 a0.device_))) + 1)))) 1), .int .i64 ((Xe a0.knows_ (val (Xb 16 a0.device_)) (val (gI ((a0.knows_ (val (Xb 16 a0.device_))) + 1)))) 2), .int .i64 ((Xe a0.knows_ (val (Xb 16 a0.device_)) (val (gI ((a0.knows_ (val (Xb 16 a0.device_))) + 1)))) 3), .int .i64 ((Xe a0.knows_ (val (Xb 16 a0.device_)) (val (gI ((a0.knows_ (val (Xb 16 a0.device_))) + 1)))) 4), .int .i64 ((Xe a0.knows_ (val (Xb 16 a0.device_)) (val (gI ((a0.knows_ (val (Xb 16 a0.device_))) + 1)))) 5), .int .i64 ((Xe a0.knows_ (val (Xb 16 a0.device_)) (val (gI ((a0.knows_ (val (Xb 16 a0.device_))) + 1)))) 6), .int .i64 ((Xe a0.knows_ (val (Xb 16 a0.device_)) (val (gI ((a0.knows_ (val (Xb 16 a0.device_))) + 1)))) 7), .int .i64 ((Xe a0.knows_ (val (Xb 16 a0.device_)) (val (gI ((a0.knows_ (val (Xb 16 a0.device_))) + 1)))) 8), .int .i64 ((Xe a0.knows_ (val (Xb 16 a0.device_)) (val (gI ((a0.knows_ (val (Xb 16 a0.device_))) + 1)))) 9), .int .i64 ((Xe a0.knows_ (val (Xb 16 a0.device_)) (val (gI ((a0.knows_ (val (Xb 16 a0.device_))) + 1)))) 10), .int .i64 ((Xe a0.knows_ (val (Xb 16 a0.device_)) (val (gI ((a0.knows_ (val (Xb 16 a0.device_))) + 1)))) 11), .int .i64 ((Xe a0.knows_ (val (Xb 16 a0.device_)) (val (gI ((a0.knows_ (val (Xb 16 a0.device_))) + 1)))) 12), .int .i64 ((Xe a0.knows_ (val (Xb 16 a0.device_)) (val (gI ((a0.knows_ (val (Xb 16 a0.device_))) + 1)))) 13), .int .i64 ((Xe a0.knows_ (val (Xb 16 a0.device_)) (val (gI ((a0.knows_ (val (Xb 16 a0.device_))) + 1)))) 14), .int .i64 ((Xe a0.knows_ (val (Xb 16 a0.device_)) (val (gI ((a0.knows_ (val (Xb 16 a0.device_))) + 1)))) 15), .slice p.1 t25.length p.2]) Tryz.sizeOf65 rfl rfl rfl rfl rfl rfl rfl rfl rfl ?_
  refine Jf ?_
  refine Je ?_
  refine Jb ?_
  refine Ja rfl rfl rfl (Jd (v := .pointer (some ⟨pb0, 0, none⟩)) rfl) ?_
  refine Ja rfl rfl rfl (Jd (v := .pointer (some ⟨pb0, 0, none⟩)) rfl) ?_
  refine Ja rfl rfl rfl (Qk rfl) ?_
  refine Ja rfl rfl rfl (Jq Tryz.runUnderlying67 rfl Tryz.sizeOf65 rfl rfl) ?_
  refine J0 (i := 0) (v := .slice p.1 t25.length p.2) Tryz.isAgg65 rfl rfl rfl rfl rfl ?_
  refine Ja rfl rfl rfl (Jd (v := v2) rfl) ?_
  obtain ⟨l34, h_l34, H11⟩ := Jh H10; clear H10
  refine Yl (turns_appFG (i := 1) (hn := rfl) (rds := []) (p := p) (sz := 8) (by_ := 80) (f := Jj) (ys := t25) (ls := a2) (V := v2) Tryz.underlying65 (W2 Tryz.typeInfo52) rfl rfl rfl rfl rfl rfl rfl rfl f2.eq (List.length_map _) (fun w L' hF hS hi => (f2).row (hw.now hF)) (fun _ => rfl) (fun _ => rfl) h_l34) rfl rfl rfl (fun p_2 => ?_)
  refine Ja rfl rfl rfl (Qk rfl) ?_
  refine Ja rfl rfl rfl (Jq Tryz.runUnderlying67 rfl Tryz.sizeOf65 rfl rfl) ?_
  refine X3 (i := 0) (vs := [.slice p_2.1 l34.length p_2.2]) (cs' := [.int .i64 a0.device_, .int .i64 ((Xe a0.knows_ (val (Xb 16 a0.device_)) (val (gI ((a0.knows_ (val (Xb 16 a0.device_))) + 1)))) 0), .int .i64 ((Xe a0.knows_ (val (Xb 16 a0.device_)) (val (gI ((a0.knows_ (val (Xb 16 a0.device_))) + 1)))) 1), .int .i64 ((Xe a0.knows_ (val (Xb 16 a0.device_)) (val (gI ((a0.knows_ (val (Xb 16 a0.device_))) + 1)))) 2), .int .i64 ((Xe a0.knows_ (val (Xb 16 a0.device_)) (val (gI ((a0.knows_ (val (Xb 16 a0.device_))) + 1)))) 3), .int .i64 ((Xe a0.knows_ (val (Xb 16 a0.device_)) (val (gI ((a0.knows_ (val (Xb 16 a0.device_))) + 1)))) 4), .int .i64 ((Xe a0.knows_ (val (Xb 16 a0.device_)) (val (gI ((a0.knows_ (val (Xb 16 a0.device_))) + 1)))) 5), .int .i64 ((Xe a0.knows_ (val (Xb 16 a0.device_)) (val (gI ((a0.knows_ (val (Xb 16 a0.device_))) + 1)))) 6), .int .i64 ((Xe a0.knows_ (val (Xb 16 a0.device_)) (val (gI ((a0.knows_ (val (Xb 16 a0.device_))) + 1)))) 7), .int .i64 ((Xe a0.knows_ (val (Xb 16 a0.device_)) (val (gI ((a0.knows_ (val (Xb 16 a0.device_))) + 1)))) 8), .int .i64 ((Xe a0.knows_ (val (Xb 16 a0.device_)) (val (gI ((a0.knows_ (val (Xb 16 a0.device_))) + 1)))) 9), .int .i64 ((Xe a0.knows_ (val (Xb 16 a0.device_)) (val (gI ((a0.knows_ (val (Xb 16 a0.device_))) + 1)))) 10), .int .i64 ((Xe a0.knows_ (val (Xb 16 a0.device_)) (val (gI ((a0.knows_ (val (Xb 16 a0.device_))) + 1)))) 11), .int .i64 ((Xe a0.knows_ (val (Xb 16 a0.device_)) (val (gI ((a0.knows_ (val (Xb 16 a0.device_))) + 1)))) 12), .int .i64 ((Xe a0.knows_ (val (Xb 16 a0.device_)) (val (gI ((a0.knows_ (val (Xb 16 a0.device_))) + 1)))) 13), .int .i64 ((Xe a0.knows_ (val (Xb 16 a0.device_)) (val (gI ((a0.knows_ (val (Xb 16 a0.device_))) + 1)))) 14), .int .i64 ((Xe a0.knows_ (val (Xb 16 a0.device_)) (val (gI ((a0.knows_ (val (Xb 16 a0.device_))) + 1)))) 15), .slice p_2.1 l34.length p_2.2]) Tryz.sizeOf65 rfl rfl rfl rfl rfl rfl rfl rfl rfl ?_
  refine Jf ?_
  refine Jb ?_
  refine Ja rfl rfl rfl (Jd (v := .pointer (some ⟨pb0, 0, none⟩)) rfl) ?_
  refine Ja rfl rfl rfl (Qk rfl) ?_
  refine Ja rfl rfl rfl (Jq Tryz.runUnderlying67 rfl Tryz.sizeOf65 rfl rfl) ?_
  refine J0 (i := 0) (v := .slice p_2.1 l34.length p_2.2) Tryz.isAgg65 rfl rfl rfl rfl rfl ?_
  obtain ⟨t41, h_t41, H12⟩ := Jh H11; clear H11
  refine Yl (Q7 (i := 1) (rds := []) (G := fun x : Unit => .tuple #[]) (C := fun x : Unit => Q0 52 8 (.slice p_2.1 l34.length p_2.2) l34.length (t41.map Jj)) rfl (fun w L' S hF hS hi hp hlt ho hA => k52 hp hlt (Y0 w S) rfl h_t41) Tryz.call52 rfl) rfl rfl rfl (fun _ => ?_)
  refine c_know (fun w hF hS => lenOfO (i := 1) hS rfl) (fun hl_ => ?_)
  have hl : l34.length = t41.length := by simpa using hl_.symm
  refine Jf ?_
  obtain rfl := Option.some.inj H12
  refine Z6 0 1 rfl rfl (by decide) ?_
  refine ret0n rfl (W6 p_2 (i := 0) rfl (by first | rfl | rw [(show l34.length = t41.length from hl)]) (by first | exact Imp.refl _ | exact Imp.of (by rw [(show l34.length = t41.length from hl)])))
  ) (by kernel_rfl)
theorem k68 {a0 : T_sync_Fact} {a1 : T_sync_Fact} {r : Int} (H : sync_later a0 a1 = some r) : Ret Tryz.prog 68 [.agg #[.int .i64 a0.Dot.Device, .int .i64 a0.Dot.N, .int .i64 a0.Time, .int .i64 a0.Kind, .int .i64 a0.Id, str a0.Name, .int .i64 a0.Num, str a0.Text], .agg #[.int .i64 a1.Dot.Device, .int .i64 a1.Dot.N, .int .i64 a1.Time, .int .i64 a1.Kind, .int .i64 a1.Id, str a1.Name, .int .i64 a1.Num, str a1.Text]] (.int .i64 r) := by
 refine Qc (n := 26) Tryz.func68 rfl rfl rfl (fun wd => ?_)
 refine Je ?_
 refine Jb ?_
 refine W8 (cs := [.int .i64 a0.Dot.Device, .int .i64 a0.Dot.N, .int .i64 a0.Time, .int .i64 a0.Kind, .int .i64 a0.Id, str a0.Name, .int .i64 a0.Num, str a0.Text]) rfl rfl rfl rfl (fun b3 => ?_)
 refine W8 (cs := [.int .i64 a1.Dot.Device, .int .i64 a1.Dot.N, .int .i64 a1.Time, .int .i64 a1.Kind, .int .i64 a1.Id, str a1.Name, .int .i64 a1.Num, str a1.Text]) rfl rfl rfl rfl (fun b4 => ?_)
 refine Ja rfl rfl rfl (Jc (v := .int .i64 0) rfl) ?_
 refine Jf ?_
 refine Je ?_
 exact Za (Kd.p :: Kd.d [0] _ :: Kd.p :: Kd.d [1] _ :: Kd.d [] _ :: Kd.p :: Kd.p :: Kd.d [0] _ :: Kd.p :: Kd.p :: Kd.d [1] _ :: Kd.d [] _ :: Kd.p :: Kd.p :: Kd.d [0] _ :: Kd.p :: Kd.p :: Kd.d [1] _ :: Kd.d [] _ :: Kd.ns 2 [_, _, _] 3 3 :: Kd.d [2] _ :: Kd.p :: []) 1 mixed (by
  refine Jt rfl rfl (Jq Tryz.runUnderlying52 rfl Tryz.sizeOf3 rfl rfl) ?_
  refine Zb (i := 0) (v := .int .i64 a0.Time) Tryz.isAgg3 rfl rfl rfl rfl ?_
  refine Jt rfl rfl (Jq Tryz.runUnderlying52 rfl Tryz.sizeOf3 rfl rfl) ?_
  refine Zb (i := 1) (v := .int .i64 a1.Time) Tryz.isAgg3 rfl rfl rfl rfl ?_
  have h_t9 := Qx H
  have H5 := Qg H
  refine d_call (k81 h_t9) Tryz.call81 rfl rfl ?_
  refine Jt rfl rfl (Jq Tryz.runUnderlying52 rfl Tryz.sizeOf50 rfl rfl) ?_
  refine Jt rfl rfl (Jq Tryz.runUnderlying50 rfl Tryz.sizeOf3 rfl rfl) ?_
  refine Zb (i := 0) (v := .int .i64 a0.Dot.Device) Tryz.isAgg3 rfl rfl rfl rfl ?_
  refine Jt rfl rfl (Jq Tryz.runUnderlying52 rfl Tryz.sizeOf50 rfl rfl) ?_
  refine Jt rfl rfl (Jq Tryz.runUnderlying50 rfl Tryz.sizeOf3 rfl rfl) ?_
  refine Zb (i := 1) (v := .int .i64 a1.Dot.Device) Tryz.isAgg3 rfl rfl rfl rfl ?_
  have h_t16 := Qx H5
  have H6 := Qg H5
  refine d_call (k81 h_t16) Tryz.call81 rfl rfl ?_
  refine Jt rfl rfl (Jq Tryz.runUnderlying52 rfl Tryz.sizeOf50 rfl rfl) ?_
  refine Jt rfl rfl (Jq Tryz.runUnderlying50 rfl Tryz.sizeOf3 rfl rfl) ?_
  refine Zb (i := 0) (v := .int .i64 a0.Dot.N) Tryz.isAgg3 rfl rfl rfl rfl ?_
  refine Jt rfl rfl (Jq Tryz.runUnderlying52 rfl Tryz.sizeOf50 rfl rfl) ?_
  refine Jt rfl rfl (Jq Tryz.runUnderlying50 rfl Tryz.sizeOf3 rfl rfl) ?_
  refine Zb (i := 1) (v := .int .i64 a1.Dot.N) Tryz.isAgg3 rfl rfl rfl rfl ?_
  have h_t23 := Qx H6
  have H7 := Qg H6
  refine d_call (k81 h_t23) Tryz.call81 rfl rfl ?_
  refine d_newS rfl rfl (run_buildSlice (vs := [.int .i64 (val (cmp_Compare_int a0.Time a1.Time)), .int .i64 (val (cmp_Compare_int a0.Dot.Device a1.Dot.Device)), .int .i64 (val (cmp_Compare_int a0.Dot.N a1.Dot.N))]) (cs := [.int .i64 (val (cmp_Compare_int a0.Time a1.Time)), .int .i64 (val (cmp_Compare_int a0.Dot.Device a1.Dot.Device)), .int .i64 (val (cmp_Compare_int a0.Dot.N a1.Dot.N))]) Tryz.underlying24 Tryz.sizeOf3 Tryz.zeroValue3 rfl rfl rfl rfl rfl) rfl (fun b5 => ?_)
  have h_t25 := Qx H7
  have H8 := Qg H7
  refine d_callD (fun w L' hF hS hi => k80 (Jx w) (frs_box (i := 2) (xs := ([(val (cmp_Compare_int a0.Time a1.Time)), (val (cmp_Compare_int a0.Dot.Device a1.Dot.Device)), (val (cmp_Compare_int a0.Dot.N a1.Dot.N))] : List Int)) (f := J4) hS ((hi 2 (by simp)).trans rfl) rfl rfl rfl rfl) h_t25) Tryz.call80 rfl rfl ?_
  refine Jt rfl rfl (Jc (v := .int .i64 (val (W3 ([(val (cmp_Compare_int a0.Time a1.Time)), (val (cmp_Compare_int a0.Dot.Device a1.Dot.Device)), (val (cmp_Compare_int a0.Dot.N a1.Dot.N))] : List Int)))) rfl) ?_
  refine Ui ?_
  refine Jm ?_
  obtain rfl := Option.some.inj H8
  refine Jy (v := .int .i64 (val (W3 ([(val (cmp_Compare_int a0.Time a1.Time)), (val (cmp_Compare_int a0.Dot.Device a1.Dot.Device)), (val (cmp_Compare_int a0.Dot.N a1.Dot.N))] : List Int)))) rfl rfl (Xh rfl)
  ) (by kernel_rfl)
end Go.Proofs.YtpikgcmaljmlmaaGreatDoor
