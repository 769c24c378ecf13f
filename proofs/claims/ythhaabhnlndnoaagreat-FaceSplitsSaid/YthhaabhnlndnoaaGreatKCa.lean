/- FaceSplits, what the others share: the walks, printed by our generator; each follows its model. Conditions: the model yields a value. -/
import Derived.Test.YthhaabhnlndnoaaGreatMFc
import Derived.Test.YthhaabhnlndnoaaGreatProg
import Derived.Test.YthhaabhnlndnoaaGreatSrt
import Derived.Test.YthhaabhnlndnoaaGreatLx15
import Derived.Test.YthhaabhnlndnoaaGreatLx19
import Derived.Test.YthhaabhnlndnoaaGreatLx22
import Derived.Test.YthhaabhnlndnoaaGreatLx20
import Derived.Test.YthhaabhnlndnoaaGreatLx27
import Derived.Test.YthhaabhnlndnoaaGreatLx16
import Derived.Test.YthhaabhnlndnoaaGreatFpC
import Derived.Test.YthhaabhnlndnoaaGreatLx29
namespace Go.Proofs.YthhaabhnlndnoaaGreat
open Go Go.Vc Go.Md Go.M Go.Lx
set_option maxRecDepth 100000
set_option maxHeartbeats 4000000
set_option linter.unusedVariables false

theorem mixed : Tryz.prog.follows .mixedOrders = true := by kernel_rfl

abbrev e_face_Vec (x : (Nat → Int)) : List Value := [.int .i64 (x 0), .int .i64 (x 1), .int .i64 (x 2), .int .i64 (x 3), .int .i64 (x 4), .int .i64 (x 5), .int .i64 (x 6), .int .i64 (x 7), .int .i64 (x 8), .int .i64 (x 9), .int .i64 (x 10), .int .i64 (x 11)]
abbrev e_i64 (x : Int) : List Value := [.int .i64 x]
abbrev e_face_Likeness (x : T_face_Likeness) : List Value := [.int .i64 x.Id, .int .i64 x.Photo, .int .i64 (x.Vec 0), .int .i64 (x.Vec 1), .int .i64 (x.Vec 2), .int .i64 (x.Vec 3), .int .i64 (x.Vec 4), .int .i64 (x.Vec 5), .int .i64 (x.Vec 6), .int .i64 (x.Vec 7), .int .i64 (x.Vec 8), .int .i64 (x.Vec 9), .int .i64 (x.Vec 10), .int .i64 (x.Vec 11)]
def fnR_func_int_bool (m : (Int → Option (Bool))) (w : World) (args : List Value) (post : Value → World → Prop) : Prop :=
  ∃ (a0 : Int) (r : Bool), args = [.int .i64 a0] ∧ m a0 = some r ∧ post = fun v' w' => v' = (.bool r) ∧ Grow w w'
abbrev e_u8 (x : Int) : List Value := [.int .u8 x]
def fnR_func_uint8_bool (m : (Int → Option (Bool))) (w : World) (args : List Value) (post : Value → World → Prop) : Prop :=
  ∃ (a0 : Int) (r : Bool), args = [.int .u8 a0] ∧ m a0 = some r ∧ post = fun v' w' => v' = (.bool r) ∧ Grow w w'
def fnR_func_face_Likeness_int_int (m : (T_face_Likeness → Int → Option (Int))) (w : World) (args : List Value) (post : Value → World → Prop) : Prop :=
  ∃ (a0 : T_face_Likeness) (a1 : Int) (r : Int), args = [.agg #[.int .i64 a0.Id, .int .i64 a0.Photo, .int .i64 (a0.Vec 0), .int .i64 (a0.Vec 1), .int .i64 (a0.Vec 2), .int .i64 (a0.Vec 3), .int .i64 (a0.Vec 4), .int .i64 (a0.Vec 5), .int .i64 (a0.Vec 6), .int .i64 (a0.Vec 7), .int .i64 (a0.Vec 8), .int .i64 (a0.Vec 9), .int .i64 (a0.Vec 10), .int .i64 (a0.Vec 11)], .int .i64 a1] ∧ m a0 a1 = some r ∧ post = fun v' w' => v' = (.int .i64 r) ∧ Grow w w'
def fnR_func_face_Likeness_bool (m : (T_face_Likeness → Option (Bool))) (w : World) (args : List Value) (post : Value → World → Prop) : Prop :=
  ∃ (a0 : T_face_Likeness) (r : Bool), args = [.agg #[.int .i64 a0.Id, .int .i64 a0.Photo, .int .i64 (a0.Vec 0), .int .i64 (a0.Vec 1), .int .i64 (a0.Vec 2), .int .i64 (a0.Vec 3), .int .i64 (a0.Vec 4), .int .i64 (a0.Vec 5), .int .i64 (a0.Vec 6), .int .i64 (a0.Vec 7), .int .i64 (a0.Vec 8), .int .i64 (a0.Vec 9), .int .i64 (a0.Vec 10), .int .i64 (a0.Vec 11)]] ∧ m a0 = some r ∧ post = fun v' w' => v' = (.bool r) ∧ Grow w w'
def fnR_func_face_Person_bool (m : (T_face_Person → Option (Bool))) (w : World) (args : List Value) (post : Value → World → Prop) : Prop :=
  ∃ (a0 : T_face_Person) (v0_2 : Value) (v0_3 : Value) (r : Bool), FrS (fun b => w.heap[b]?) 1 v0_2 (a0.Likes.map e_i64) ∧ FrS (fun b => w.heap[b]?) 1 v0_3 (a0.Nots.map e_i64) ∧ args = [.agg #[.int .i64 a0.Id, str a0.Name, v0_2, v0_3]] ∧ m a0 = some r ∧ post = fun v' w' => v' = (.bool r) ∧ Grow w w'
abbrev e_face_Match (x : T_face_Match) : List Value := [.int .i64 x.Person, .int .i64 x.Far]
abbrev e_face_offer (x : T_face_offer) : List Value := [.int .i64 x.id_, .int .i64 x.person_, .int .i64 x.far_]
def fnR_func_face_Person_int_int (m : (T_face_Person → Int → Option (Int))) (w : World) (args : List Value) (post : Value → World → Prop) : Prop :=
  ∃ (a0 : T_face_Person) (v0_2 : Value) (v0_3 : Value) (a1 : Int) (r : Int), FrS (fun b => w.heap[b]?) 1 v0_2 (a0.Likes.map e_i64) ∧ FrS (fun b => w.heap[b]?) 1 v0_3 (a0.Nots.map e_i64) ∧ args = [.agg #[.int .i64 a0.Id, str a0.Name, v0_2, v0_3], .int .i64 a1] ∧ m a0 a1 = some r ∧ post = fun v' w' => v' = (.int .i64 r) ∧ Grow w w'

def gs_int (h : Heap) (c : Nat → Value) (x : (List Int)) : Prop := FrS h 1 (c 0) (x.map e_i64)
instance : Mon gs_int := ⟨fun k _ _ f => FrS.mono f k⟩
theorem cgs_int {h : Heap} {c : Nat → Value} {x : (List Int)} (_ : gs_int h c x) : (List.range 1).map c = [c 0] := rfl
def g_face_Person (h : Heap) (c : Nat → Value) (x : T_face_Person) : Prop := c 0 = .int .i64 x.Id ∧ c 1 = str x.Name ∧ gs_int h (fun j => c (2 + j)) x.Likes ∧ gs_int h (fun j => c (3 + j)) x.Nots
instance : Mon g_face_Person := ⟨fun k _ _ f => by obtain ⟨h0, h1, h2, h3⟩ := f; exact ⟨h0, h1, Mon.mono k _ _ h2, Mon.mono k _ _ h3⟩⟩
theorem cg_face_Person {h : Heap} {c : Nat → Value} {x : T_face_Person} (f : g_face_Person h c x) : (List.range 4).map c = [.int .i64 x.Id, str x.Name, c 2, c 3] := by
  obtain ⟨h0, h1, h2, h3⟩ := f
  show [c 0, c 1, c 2, c 3] = _
  simp only [h0, h1]
theorem g_face_Person_p2 {h : Heap} {c : Nat → Value} {x : T_face_Person} (f : g_face_Person h c x) : gs_int h (fun j => c (2 + j)) x.Likes := by
  obtain ⟨h0, h1, h2, h3⟩ := f; exact h2
theorem g_face_Person_p3 {h : Heap} {c : Nat → Value} {x : T_face_Person} (f : g_face_Person h c x) : gs_int h (fun j => c (3 + j)) x.Nots := by
  obtain ⟨h0, h1, h2, h3⟩ := f; exact h3


theorem k25 {a0 : Int} {a1 : Int} {a2 : Int} {r : Bool} (H : face_outside a0 a1 a2 = some r) : Ret Tryz.prog 25 [.int .i64 a0, .int .i64 a1, .int .i64 a2] (.bool r) := by
 refine enterRet (n := 15) Tryz.func25 rfl rfl rfl (fun wd => ?_)
 refine c_seq ?_
 refine c_region ?_
 refine l_val rfl rfl rfl (r_assign (v := .bool false) rfl) ?_
 refine l_nil ?_
 refine c_seq ?_
 refine c_region ?_
 refine l_val rfl rfl rfl (r_move (v := .int .i64 a0) rfl) ?_
 refine l_val rfl rfl rfl (r_move (v := .int .i64 a1) rfl) ?_
 refine l_val rfl rfl rfl (r_lss rfl rfl) ?_
 refine l_val rfl rfl rfl (r_move (v := .bool (decide (a0 < a1))) rfl) ?_
 refine split (fun hb => ?_) (fun hb => ?_)
 ·have H3 := cnd_t hb H; clear H
  refine l_passed rfl rfl rfl ?_
  refine l_passed rfl rfl rfl ?_
  refine l_passed rfl rfl rfl ?_
  refine l_val rfl rfl rfl (r_pickT (v := .bool true) rfl rfl) ?_
  refine l_val rfl rfl rfl (r_assign (v := .bool true) rfl) ?_
  refine l_nil ?_
  refine c_ret ?_
  obtain rfl := Option.some.inj H3
  refine ret1 (v := .bool true) rfl rfl (fin rfl)
 ·have H4 := cnd_f hb H; clear H
  refine l_val rfl rfl rfl (r_move (v := .int .i64 a0) rfl) ?_
  refine l_val rfl rfl rfl (r_move (v := .int .i64 a2) rfl) ?_
  refine l_val rfl rfl rfl (r_gtr rfl rfl) ?_
  refine l_val rfl rfl rfl (r_pickF (v := .bool (decide (a2 < a0))) rfl rfl) ?_
  refine l_val rfl rfl rfl (r_assign (v := .bool (decide (a2 < a0))) rfl) ?_
  refine l_nil ?_
  refine c_ret ?_
  obtain rfl := Option.some.inj H4
  refine ret1 (v := .bool (decide (a2 < a0))) rfl rfl (fin rfl)
theorem k89 {a0 : (Nat → Int)} {r : Int} (H : face_CheckVec a0 = some r) : Ret Tryz.prog 89 [.agg #[.int .i64 (a0 0), .int .i64 (a0 1), .int .i64 (a0 2), .int .i64 (a0 3), .int .i64 (a0 4), .int .i64 (a0 5), .int .i64 (a0 6), .int .i64 (a0 7), .int .i64 (a0 8), .int .i64 (a0 9), .int .i64 (a0 10), .int .i64 (a0 11)]] (.int .i64 r) := by
 refine enterRet (n := 12) Tryz.func89 rfl rfl rfl (fun wd => ?_)
 refine c_seq ?_
 refine c_region ?_
 refine l_box (cs := [.int .i64 (a0 0), .int .i64 (a0 1), .int .i64 (a0 2), .int .i64 (a0 3), .int .i64 (a0 4), .int .i64 (a0 5), .int .i64 (a0 6), .int .i64 (a0 7), .int .i64 (a0 8), .int .i64 (a0 9), .int .i64 (a0 10), .int .i64 (a0 11)]) rfl rfl rfl rfl (fun b1 => ?_)
 refine l_val rfl rfl rfl (r_assign (v := .int .i64 0) rfl) ?_
 refine l_nil ?_
 refine c_seq ?_
 refine c_seq ?_
 refine c_region ?_
 refine l_loadN (i := 0) (vs := [.int .i64 (a0 0), .int .i64 (a0 1), .int .i64 (a0 2), .int .i64 (a0 3), .int .i64 (a0 4), .int .i64 (a0 5), .int .i64 (a0 6), .int .i64 (a0 7), .int .i64 (a0 8), .int .i64 (a0 9), .int .i64 (a0 10), .int .i64 (a0 11)]) Tryz.isAgg47 Tryz.sizeOf47 rfl rfl rfl rfl rfl ?_
 refine l_val rfl rfl rfl (r_move (v := .int .i64 0) rfl) ?_
 refine l_nil ?_
 refine c_block ?_
 refine c_sel [] [] rfl (by decide) ?_
 refine c_fix (σ := Int) (τ := Unit) (fun next1 s => face_CheckVec_l1 a0 next1 s) (fun s t => [(5, .agg #[.int .i64 (a0 0), .int .i64 (a0 1), .int .i64 (a0 2), .int .i64 (a0 3), .int .i64 (a0 4), .int .i64 (a0 5), .int .i64 (a0 6), .int .i64 (a0 7), .int .i64 (a0 8), .int .i64 (a0 9), .int .i64 (a0 10), .int .i64 (a0 11)]), (6, .int .i64 s)]) (fun s t => []) (fun s t => True) 0 () [] H (by exact trivial) (by exact ⟨rfl, rfl, trivial⟩) (by decide) rfl ?_
 rintro x6_2 _ m1 gg H9 _
 clear H
 replace H9 : face_CheckVec_l1 a0 (it (fun next1 s => face_CheckVec_l1 a0 next1 s) m1) x6_2 = some r := H9
 generalize hn1 : it (fun next1 s => face_CheckVec_l1 a0 next1 s) m1 = next1 at H9
 refine c_tidyF [(5, .agg #[.int .i64 (a0 0), .int .i64 (a0 1), .int .i64 (a0 2), .int .i64 (a0 3), .int .i64 (a0 4), .int .i64 (a0 5), .int .i64 (a0 6), .int .i64 (a0 7), .int .i64 (a0 8), .int .i64 (a0 9), .int .i64 (a0 10), .int .i64 (a0 11)]), (6, .int .i64 x6_2)] [] rfl rfl ?_
 refine c_seq ?_
 refine c_region ?_
 refine l_val rfl rfl rfl (r_lss rfl rfl) ?_
 refine l_nil ?_
 refine c_seq ?_
 refine c_if (b := (decide (x6_2 < 12))) rfl (fun hb => ?_) (fun hb => ?_)
 ·have H10 := cnd_t hb H9; clear H9
  refine c_skip ?_
  refine c_seq ?_
  refine c_block ?_
  refine c_seq ?_
  refine c_region ?_
  obtain ⟨k8, h_k8, H11⟩ := bnd_some H10; clear H10
  refine l_val rfl rfl rfl (r_indexAG (f := fun j_ => .int .i64 (a0 j_)) Tryz.runUnderlying47 Tryz.isAgg3 Tryz.sizeOf3 rfl rfl rfl h_k8) ?_
  refine l_val rfl rfl rfl (r_assign (v := .int .i64 (a0 k8)) rfl) ?_
  refine l_nil ?_
  refine c_seq ?_
  refine c_region ?_
  refine l_val rfl rfl rfl (r_move (v := .int .i64 (a0 k8)) rfl) ?_
  obtain ⟨t10, h_t10, H12⟩ := bnd_some H11; clear H11
  refine l_call (k25 h_t10) Tryz.call25 rfl rfl rfl ?_
  refine l_nil ?_
  refine c_if (b := t10) rfl (fun hb => ?_) (fun hb => ?_)
  ·have H13 := cnd_t hb H12; clear H12
   refine c_seq ?_
   refine c_region ?_
   refine l_val rfl rfl rfl (r_assign (v := .int .i64 2) rfl) ?_
   refine l_nil ?_
   refine c_ret ?_
   obtain rfl := Option.some.inj H13
   refine ret1 (v := .int .i64 2) rfl rfl (fin rfl)
  ·have H14 := cnd_f hb H12; clear H12
   refine c_skip ?_
   refine c_region ?_
   obtain ⟨t11, h_t11, H15⟩ := bnd_some H14; clear H14
   refine l_val rfl rfl rfl (r_addG rfl rfl h_t11) ?_
   refine l_val rfl rfl rfl (r_move (v := .int .i64 t11) rfl) ?_
   refine l_nil ?_
   refine c_close t11 () m1 [] (by exact ⟨rfl, rfl, trivial⟩) (by decide) rfl (by exact ⟨(by subst hn1; exact H15), trivial⟩) (Nat.lt_succ_self _)
 ·have H16 := cnd_f hb H9; clear H9
  refine c_exit ?_
  refine c_seq ?_
  refine c_region ?_
  refine l_val rfl rfl rfl (r_assign (v := .int .i64 0) rfl) ?_
  refine l_nil ?_
  refine c_ret ?_
  obtain rfl := Option.some.inj H16
  refine ret1 (v := .int .i64 0) rfl rfl (fin rfl)
theorem k126 {n : Int} {u : Nat} (hg : gGroC 8 n = some u) (w : World) : Does Tryz.prog 126 (List.toArray [.slice none 0 0, .int .i64 n]) w (fun v w' => ∃ p : Option Addr × Nat, v = .slice p.1 0 p.2 ∧ Turn w w' noS (rowC 3 1 (.slice p.1 0 p.2) 0 [] u)) := by
  obtain ⟨rfl, h0, h1, h2⟩ := gGroC_some hg
  obtain ⟨m, rfl⟩ : ∃ m : Nat, n = (m : Int) := ⟨n.toNat, (Int.toNat_of_nonneg h0).symm⟩
  rw [Int.toNat_natCast] at h2 ⊢
  refine enter (n := 27) Tryz.func126 rfl rfl rfl noS [] (Sat.nil _ _) ?_
  refine c_seq ?_
  refine c_region ?_
  refine l_val rfl rfl rfl (r_assign (v := .slice none 0 0) rfl) ?_
  refine l_nil ?_
  refine c_seq ?_
  refine c_seq ?_
  refine c_region ?_
  refine l_val rfl rfl rfl (r_move (v := .int .i64 (m : Int)) rfl) ?_
  refine l_val rfl rfl rfl (r_decF (r_lss rfl rfl) (by omega)) ?_
  refine l_nil ?_
  refine c_false rfl ?_
  refine c_skip ?_
  refine c_seq ?_
  refine c_seq ?_
  refine c_region ?_
  refine l_val rfl rfl rfl (r_move (v := .int .i64 (m : Int)) rfl) ?_
  refine l_val rfl rfl rfl (r_move (v := .slice none 0 0) rfl) ?_
  refine l_val rfl rfl rfl (r_cap (c := 0) Tryz.underlying24 rfl) ?_
  refine l_val rfl rfl rfl (r_move (v := .slice none 0 0) rfl) ?_
  refine l_val rfl rfl rfl (r_len (m := 0) Tryz.underlying24 rfl) ?_
  refine l_val rfl rfl rfl (r_subG (z := 0) rfl rfl (by decide)) ?_
  refine l_val rfl rfl rfl (r_subG (z := (m : Int)) rfl rfl (by rw [Int.sub_zero]; exact gI_ok (by omega))) ?_
  refine l_val rfl rfl rfl (r_assign (v := .int .i64 (m : Int)) rfl) ?_
  refine l_nil ?_
  refine c_seq ?_
  refine c_region ?_
  refine l_val rfl rfl rfl (r_move (v := .int .i64 (m : Int)) rfl) ?_
  rcases Nat.eq_zero_or_pos m with hm | hm
  · refine l_val rfl rfl rfl (r_decF (r_gtr rfl rfl) (by omega)) ?_
    refine l_nil ?_
    refine c_false rfl ?_
    refine c_skip ?_
    refine c_seq ?_
    refine c_region ?_
    refine l_val rfl rfl rfl (r_move (v := .slice none 0 0) rfl) ?_
    refine l_val rfl rfl rfl (r_assign (v := .slice none 0 0) rfl) ?_
    refine l_nil ?_
    refine c_ret ?_
    subst hm
    refine c_nilRow 3 1 ?_
    refine c_imp 0 rfl (imp_C0 3 1 _) ?_
    exact ret1 (v := .slice none 0 0) rfl rfl (finX ((none, 0) : Option Addr × Nat) (i := 0) rfl rfl (Imp.refl _))
  · refine l_val rfl rfl rfl (r_decT (r_gtr rfl rfl) (by omega)) ?_
    refine l_nil ?_
    refine c_true rfl ?_
    refine c_region ?_
    refine l_val rfl rfl rfl (r_move (v := .slice none 0 0) rfl) ?_
    refine l_val rfl rfl rfl (r_move (v := .slice none 0 0) rfl) ?_
    refine l_val rfl rfl rfl (r_cap (c := 0) Tryz.underlying24 rfl) ?_
    refine l_val rfl rfl rfl (r_sliceH (a := none) (m := 0) (c := 0) (h := 0) Tryz.underlying24 Tryz.sizeOf3 rfl rfl (by decide) (by decide)) ?_
    refine l_val rfl rfl rfl (r_move (v := .int .i64 (m : Int)) rfl) ?_
    refine l_make (rds := []) (makes_zerosC (E := 3) (sz := 1) (by_ := 8) (m := m) Tryz.underlying24 Tryz.underlying3 (info_of Tryz.typeInfo3) rfl rfl rfl rfl rfl rfl rfl hm (by omega) h2) rfl rfl rfl (fun ⟨g0, c0⟩ => ?_)
    refine l_val rfl rfl rfl (r_move (v := .slice none 0 0) rfl) ?_
    refine l_val rfl rfl rfl (r_len (m := 0) Tryz.underlying24 rfl) ?_
    refine l_val rfl rfl rfl (r_sliceH0 (g0 := g0) (c := c0) Tryz.underlying24 Tryz.sizeOf3 rfl rfl) ?_
    refine l_val rfl rfl rfl (r_assign (v := .slice (some ⟨g0, 0, none⟩) 0 c0) rfl) ?_
    refine l_nil ?_
    refine c_seq ?_
    refine c_region ?_
    refine l_val rfl rfl rfl (r_move (v := .slice (some ⟨g0, 0, none⟩) 0 c0) rfl) ?_
    refine l_val rfl rfl rfl (r_assign (v := .slice (some ⟨g0, 0, none⟩) 0 c0) rfl) ?_
    refine l_nil ?_
    refine c_ret ?_
    exact ret1 (v := .slice (some ⟨g0, 0, none⟩) 0 c0) rfl rfl (finX ((some ⟨g0, 0, none⟩, c0) : Option Addr × Nat) (i := 0) rfl rfl (Imp.refl _))

theorem k85 {a0 : (List (List Int))} {v0 : Value} {r : (List Int)} {w : World} {h : Heap} (hw : Know h w noS) (f0 : FrN h 1 v0 gs_int a0) (H : slices_Concat_int a0 = some r) : Does Tryz.prog 85 (List.toArray [v0]) w (fun v w' => ∃ x : (Option Addr × Nat), v = (.slice x.1 r.length x.2) ∧ Turn w w' noS (rowV 3 1 (.slice x.1 r.length x.2) r.length (r.map e_i64))) := by
 refine enter (n := 36) Tryz.func85 rfl rfl rfl noS [] (Sat.nil _ _) ?_
 refine c_seq ?_
 refine c_region ?_
 refine l_val rfl rfl rfl (r_assign (v := .slice none 0 0) rfl) ?_
 refine l_nil ?_
 refine c_seq ?_
 refine c_region ?_
 refine l_val rfl rfl rfl (r_assign (v := .int .i64 0) rfl) ?_
 refine l_nil ?_
 refine c_meet (r := r) (σ := Int) (τ := Unit) (fun s => slices_Concat_int_j1 a0 s) (fun s t => [(0, v0), (3, .int .i64 s)]) (fun s t => []) (fun s t => True) ?_ ?_
 ·refine c_seq ?_
  refine c_region ?_
  refine l_val rfl rfl rfl (r_move (v := v0) rfl) ?_
  refine l_val rfl rfl rfl (r_lenFN Tryz.underlying81 rfl f0) ?_
  refine l_val rfl rfl rfl (r_move (v := .int .i64 0) rfl) ?_
  refine l_nil ?_
  refine c_block ?_
  refine c_fix (σ := Int × Int) (τ := Unit) (fun next3 s => slices_Concat_int_l3 a0 next3 s.1 s.2) (fun s t => [(0, v0), (3, .int .i64 s.1), (9, v0), (10, .int .i64 (a0.length : Int)), (11, .int .i64 s.2)]) (fun s t => []) (fun s t => True) (0, 0) () [] H (by exact trivial) (by exact ⟨rfl, rfl, rfl, rfl, rfl, trivial⟩) (by decide) rfl ?_
  rintro ⟨x3_3, x11_2⟩ _ m3 gg H25 _
  clear H
  replace H25 : slices_Concat_int_l3 a0 (it (fun next3 s => slices_Concat_int_l3 a0 next3 s.1 s.2) m3) x3_3 x11_2 = some r := H25
  generalize hn3 : it (fun next3 s => slices_Concat_int_l3 a0 next3 s.1 s.2) m3 = next3 at H25
  refine c_tidyF [(0, v0), (3, .int .i64 x3_3), (9, v0), (10, .int .i64 (a0.length : Int)), (11, .int .i64 x11_2)] [] rfl rfl ?_
  refine c_seq ?_
  refine c_region ?_
  refine l_val rfl rfl rfl (r_lss rfl rfl) ?_
  refine l_nil ?_
  refine c_seq ?_
  refine c_if (b := (decide (x11_2 < (a0.length : Int)))) rfl (fun hb => ?_) (fun hb => ?_)
  ·have H26 := cnd_t hb H25; clear H25
   refine c_skip ?_
   refine c_seq ?_
   refine c_block ?_
   refine c_seq ?_
   refine c_region ?_
   obtain ⟨t13, h_t13, H27⟩ := bnd_some H26; clear H26
   refine l_val rfl rfl rfl (r_indexF Tryz.underlying81 Tryz.sizeOf24 rfl rfl f0.frs (f0.ix h_t13)) ?_
   refine l_read (fun w hF hS => run_loadG1 (f := (elC h v0 1)) (i := x11_2) (sz := 1) (j := 0) (v := (elH h v0 1 (Int.toNat x11_2) 0)) Tryz.isAgg24 rfl rfl (f0.frs.row (hw.now hF)) (f0.ix h_t13) (rg_of (cgs_int (f0.at h_t13)) rfl)) rfl rfl rfl ?_
   refine l_val rfl rfl rfl (r_assign (v := (elH h v0 1 (Int.toNat x11_2) 0)) rfl) ?_
   refine l_nil ?_
   refine c_seq ?_
   refine c_region ?_
   refine l_val rfl rfl rfl (r_move (v := .int .i64 x3_3) rfl) ?_
   refine l_val rfl rfl rfl (r_move (v := (elH h v0 1 (Int.toNat x11_2) 0)) rfl) ?_
   refine l_val rfl rfl rfl (r_lenF Tryz.underlying24 rfl (show FrS h 1 (elH h v0 1 (Int.toNat x11_2) 0) (t13.map e_i64) from (f0.at h_t13)) rfl) ?_
   obtain ⟨t18, h_t18, H28⟩ := bnd_some H27; clear H27
   refine l_val rfl rfl rfl (r_addG rfl rfl h_t18) ?_
   refine l_val rfl rfl rfl (r_assign (v := .int .i64 t18) rfl) ?_
   refine l_nil ?_
   refine c_seq ?_
   refine c_region ?_
   refine l_val rfl rfl rfl (r_move (v := .int .i64 t18) rfl) ?_
   refine l_val rfl rfl rfl (r_lss rfl rfl) ?_
   refine l_nil ?_
   refine c_if (b := (decide (t18 < 0))) rfl (fun hb => ?_) (fun hb => ?_)
   ·have H29 := cnd_t hb H28; clear H28
    exact absurd (show (none : Option ((List Int))) = some r from H29) (fun h => by cases h)
   ·have H30 := cnd_f hb H28; clear H28
    refine c_skip ?_
    refine c_region ?_
    obtain ⟨t22, h_t22, H31⟩ := bnd_some H30; clear H30
    refine l_val rfl rfl rfl (r_addG rfl rfl h_t22) ?_
    refine l_val rfl rfl rfl (r_move (v := .int .i64 t22) rfl) ?_
    refine l_nil ?_
    refine c_close (t18, t22) () m3 [] (by exact ⟨rfl, rfl, rfl, rfl, rfl, trivial⟩) (by decide) rfl (by exact ⟨(by subst hn3; exact H31), trivial⟩) (Nat.lt_succ_self _)
  ·have H32 := cnd_f hb H25; clear H25
   refine c_exit ?_
   refine c_close x3_3 () 0 [] (by exact ⟨rfl, rfl, trivial⟩) (by decide) rfl (by exact ⟨H32, trivial⟩) (Nat.lt_succ_self _)
 ·rintro x3 _ gg H17 _
  replace H17 : slices_Concat_int_j1 a0 x3 = some r := H17
  refine c_tidyF [(0, v0), (3, .int .i64 x3)] [] rfl rfl ?_
  refine c_seq ?_
  refine c_region ?_
  refine l_val rfl rfl rfl (r_move (v := .int .i64 x3) rfl) ?_
  obtain ⟨u24, h_u24, H18⟩ := bnd_some H17; clear H17
  refine l_make (makes_call (rds := []) (G := fun x : (Option Addr × Nat) => .slice x.1 ([] : List Int).length x.2) (C := fun x : (Option Addr × Nat) => rowC 3 1 (.slice x.1 ([] : List Int).length x.2) ([] : List Int).length (([] : List Int).map e_i64) u24) (fun w L' hF hS hi => k126 h_u24 w) Tryz.call126 rfl) rfl rfl rfl (fun p => ?_)
  refine l_val rfl rfl rfl (r_assign (v := .slice p.1 ([] : List Int).length p.2) rfl) ?_
  refine l_nil ?_
  refine c_seq ?_
  refine c_seq ?_
  refine c_region ?_
  refine l_val rfl rfl rfl (r_move (v := v0) rfl) ?_
  refine l_val rfl rfl rfl (r_lenFN Tryz.underlying81 rfl f0) ?_
  refine l_val rfl rfl rfl (r_move (v := .int .i64 0) rfl) ?_
  refine l_nil ?_
  refine c_block ?_
  refine c_fix (σ := Int × (List Int)) (τ := (Option Addr × Nat)) (fun next2 s => slices_Concat_int_l2 a0 u24 next2 s.1 s.2) (fun s t => [(6, .slice t.1 s.2.length t.2), (25, v0), (26, .int .i64 (a0.length : Int)), (27, .int .i64 s.1)]) (fun s t => [rowC 3 1 (.slice t.1 s.2.length t.2) s.2.length (s.2.map e_i64) u24]) (fun s t => True) (0, ([] : List Int)) p [0] H18 (by exact trivial) (by exact ⟨rfl, rfl, rfl, rfl, trivial⟩) (by decide) rfl ?_
  rintro ⟨x27_2, l_2⟩ p_2 m2 gg H19 _
  clear H18
  replace H19 : slices_Concat_int_l2 a0 u24 (it (fun next2 s => slices_Concat_int_l2 a0 u24 next2 s.1 s.2) m2) x27_2 l_2 = some r := H19
  generalize hn2 : it (fun next2 s => slices_Concat_int_l2 a0 u24 next2 s.1 s.2) m2 = next2 at H19
  refine c_tidyF [(6, .slice p_2.1 l_2.length p_2.2), (25, v0), (26, .int .i64 (a0.length : Int)), (27, .int .i64 x27_2)] [rowC 3 1 (.slice p_2.1 l_2.length p_2.2) l_2.length (l_2.map e_i64) u24] rfl rfl ?_
  refine c_seq ?_
  refine c_region ?_
  refine l_val rfl rfl rfl (r_lss rfl rfl) ?_
  refine l_nil ?_
  refine c_seq ?_
  refine c_if (b := (decide (x27_2 < (a0.length : Int)))) rfl (fun hb => ?_) (fun hb => ?_)
  ·have H20 := cnd_t hb H19; clear H19
   refine c_skip ?_
   refine c_seq ?_
   refine c_block ?_
   refine c_seq ?_
   refine c_region ?_
   obtain ⟨t29, h_t29, H21⟩ := bnd_some H20; clear H20
   refine l_val rfl rfl rfl (r_indexF Tryz.underlying81 Tryz.sizeOf24 rfl rfl f0.frs (f0.ix h_t29)) ?_
   refine l_read (fun w hF hS => run_loadG1 (f := (elC h v0 1)) (i := x27_2) (sz := 1) (j := 0) (v := (elH h v0 1 (Int.toNat x27_2) 0)) Tryz.isAgg24 rfl rfl (f0.frs.row (hw.now hF)) (f0.ix h_t29) (rg_of (cgs_int (f0.at h_t29)) rfl)) rfl rfl rfl ?_
   refine l_val rfl rfl rfl (r_assign (v := (elH h v0 1 (Int.toNat x27_2) 0)) rfl) ?_
   refine l_nil ?_
   refine c_region ?_
   refine l_val rfl rfl rfl (r_move (v := .slice p_2.1 l_2.length p_2.2) rfl) ?_
   refine l_val rfl rfl rfl (r_move (v := (elH h v0 1 (Int.toNat x27_2) 0)) rfl) ?_
   obtain ⟨l33, h_l33, H22⟩ := bnd_some H21; clear H21
   refine l_turn (turns_appC (i := 0) (hn := rfl) (rds := []) (p := p_2) (sz := 1) (by_ := 8) (f := e_i64) (ys := l_2) (ls := t29) (V := (elH h v0 1 (Int.toNat x27_2) 0)) Tryz.underlying24 (info_of Tryz.typeInfo3) rfl rfl rfl rfl rfl rfl rfl rfl (show FrS h 1 (elH h v0 1 (Int.toNat x27_2) 0) (t29.map e_i64) from (f0.at h_t29)).eq (List.length_map _) (fun w L' hF hS hi => ((show FrS h 1 (elH h v0 1 (Int.toNat x27_2) 0) (t29.map e_i64) from (f0.at h_t29))).row (hw.now hF)) (fun _ => rfl) (fun _ => rfl) h_l33) rfl rfl rfl (fun p_3 => ?_)
   refine l_val rfl rfl rfl (r_assign (v := .slice p_3.1 l33.length p_3.2) rfl) ?_
   refine l_nil ?_
   refine c_region ?_
   obtain ⟨t34, h_t34, H23⟩ := bnd_some H22; clear H22
   refine l_val rfl rfl rfl (r_addG rfl rfl h_t34) ?_
   refine l_val rfl rfl rfl (r_move (v := .int .i64 t34) rfl) ?_
   refine l_nil ?_
   refine c_close (t34, l33) p_3 m2 [0] (by exact ⟨rfl, rfl, rfl, rfl, trivial⟩) (by decide) rfl (by exact ⟨(by subst hn2; exact H23), trivial⟩) (Nat.lt_succ_self _)
  ·have H24 := cnd_f hb H19; clear H19
   refine c_exit ?_
   refine c_seq ?_
   refine c_region ?_
   refine l_val rfl rfl rfl (r_move (v := .slice p_2.1 l_2.length p_2.2) rfl) ?_
   refine l_val rfl rfl rfl (r_assign (v := .slice p_2.1 l_2.length p_2.2) rfl) ?_
   refine l_nil ?_
   refine c_ret ?_
   obtain rfl := Option.some.inj H24
   refine c_imp 0 rfl (imp_rowC _ _ _ _ _ _) ?_
   refine ret1 (v := .slice p_2.1 l_2.length p_2.2) rfl rfl (finX p_2 (i := 0) rfl rfl (Imp.refl _))
theorem k86 {a0 : (List Int)} {p0 : Option Addr × Nat} {n0 : Nat} {r : (List Int)} {w : World} {h : Heap} {S : Nat → Prop} (hcs : (rowV 3 1 (.slice p0.1 n0 p0.2) n0 (a0.map e_i64)).P S w) (hlt : ∀ b, S b → b < w.heap.size) (_ : Know h w S) (hn0 : n0 = a0.length) (H : gSortI a0 = some r) : Does Tryz.prog 86 (List.toArray [.slice p0.1 n0 p0.2]) w (fun v w' => ∃ x : Unit, v = (.tuple #[]) ∧ Turn w w' S (rowV 3 1 (.slice p0.1 n0 p0.2) n0 (r.map e_i64))) :=
  sort_ints (ρ := Go.Proofs.Tryz.lays189_ren) Go.Proofs.Tryz.lays189 hcs hlt hn0 H

theorem k87 {a : Option Addr} {n c : Nat} (hc : n ≤ c) : Ret Tryz.prog 87 [.slice a n c] (.slice (cutA a 0 n 1) n n) := by
  refine enterRet (n := 9) Tryz.func87 rfl rfl rfl (fun wd => ?_)
  refine c_seq ?_
  refine c_region ?_
  refine l_val rfl rfl rfl (r_assign (v := .slice none 0 0) rfl) ?_
  refine l_nil ?_
  refine c_seq ?_
  refine c_region ?_
  refine l_val rfl rfl rfl (r_move (v := .slice a n c) rfl) ?_
  refine l_val rfl rfl rfl (r_move (v := .slice a n c) rfl) ?_
  refine l_val rfl rfl rfl (r_len Tryz.underlying24 rfl) ?_
  refine l_val rfl rfl rfl (r_move (v := .slice a n c) rfl) ?_
  refine l_val rfl rfl rfl (r_len Tryz.underlying24 rfl) ?_
  refine l_val rfl rfl rfl (r_sliceHM (a := a) (m := n) (c := c) (h := (n : Int)) (q := (n : Int)) Tryz.underlying24 Tryz.sizeOf3 rfl rfl rfl (Int.natCast_nonneg n) (Int.le_refl _) (Int.ofNat_le.2 hc)) ?_
  refine l_val rfl rfl rfl (r_assign (v := .slice (cutA a 0 n 1) n n) rfl) ?_
  refine l_nil ?_
  refine c_ret ?_
  exact ret1 (v := .slice (cutA a 0 n 1) n n) rfl rfl (fin rfl)

theorem k88 {a0 : List Int} {p0 : Option Addr × Nat} {n0 : Nat} {r : List Int} {w : World} {h : Heap} {S : Nat → Prop} (hcs : (rowV 3 1 (.slice p0.1 n0 p0.2) n0 (a0.map e_i64)).P S w) (hlt : ∀ b, S b → b < w.heap.size) (_ : Know h w S) (hn0 : n0 = a0.length) (H : gCmpI a0 = some r) : Does Tryz.prog 88 (List.toArray [.slice p0.1 n0 p0.2]) w (fun v w' => ∃ x : (Option Addr × Nat), v = (.slice x.1 r.length x.2) ∧ Turn w w' S (rowV 3 1 (.slice x.1 r.length x.2) r.length (r.map e_i64))) :=
  compact_ints (ρ := Go.Proofs.Tryz.laysNm220_ren) Go.Proofs.Tryz.laysNm220 hcs hlt hn0 H

theorem k36 {a0 : (List Int)} {v0 : Value} {a1 : (List Int)} {v1 : Value} {r : (List Int)} {w : World} {h : Heap} (hw : Know h w noS) (f0 : FrS h 1 v0 (a0.map e_i64)) (f1 : FrS h 1 v1 (a1.map e_i64)) (H : face_with a0 a1 = some r) : Does Tryz.prog 36 (List.toArray [v0, v1]) w (fun v w' => ∃ x : (Option Addr × Nat), v = (.slice x.1 r.length x.2) ∧ Turn w w' noS (roV 1 (.slice x.1 r.length x.2) r.length (r.map e_i64))) := by
 refine enter (n := 15) Tryz.func36 rfl rfl rfl noS [] (Sat.nil _ _) ?_
 refine c_seq ?_
 refine c_region ?_
 refine l_val rfl rfl rfl (r_assign (v := .slice none 0 0) rfl) ?_
 refine l_nil ?_
 refine c_seq ?_
 refine c_region ?_
 refine l_val rfl rfl rfl (r_move (v := v0) rfl) ?_
 refine l_val rfl rfl rfl (r_move (v := v1) rfl) ?_
 refine l_buildSlice (vs := [v0, v1]) (cs := [v0, v1]) Tryz.underlying81 Tryz.sizeOf24 Tryz.zeroValue24 rfl rfl rfl rfl (by simp only [List.all_cons, List.all_nil, cells_sz f0.cells, cells_sz f1.cells] <;> rfl) rfl (by simp only [List.flatMap_cons, List.flatMap_nil, f0.cells, f1.cells] <;> rfl) (fun b2 => ?_)
 obtain ⟨t9, h_t9, H7⟩ := bnd_some H; clear H
 refine l_make (makes_call (rds := [0]) (G := fun x : (Option Addr × Nat) => .slice x.1 t9.length x.2) (C := fun x : (Option Addr × Nat) => rowV 3 1 (.slice x.1 t9.length x.2) t9.length (t9.map e_i64)) (fun w L' hF hS hi => k85 (know_all w) (frn_box (G := gs_int) (sz := 1) (xs := ([a0, a1] : List (List Int))) (i := 0) hS ((hi 0 (by simp)).trans rfl) rfl rfl rfl ⟨(f0.mono (hw.now hF)), (f1.mono (hw.now hF)), rfl⟩) h_t9) Tryz.call85 rfl) rfl rfl rfl (fun p => ?_)
 refine l_val rfl rfl rfl (r_assign (v := .slice p.1 t9.length p.2) rfl) ?_
 refine l_nil ?_
 refine c_seq ?_
 refine c_region ?_
 refine l_val rfl rfl rfl (r_move (v := .slice p.1 t9.length p.2) rfl) ?_
 obtain ⟨t11, h_t11, H8⟩ := bnd_some H7; clear H7
 refine l_turn (turns_callB (i := 1) (rds := []) (G := fun x : Unit => .tuple #[]) (C := fun x : Unit => rowV 3 1 (.slice p.1 t9.length p.2) t9.length (t11.map e_i64)) rfl (fun w L' S hF hS hi hp hlt ho hA => k86 hp hlt (know_but w S) rfl h_t11) Tryz.call86 rfl) rfl rfl rfl (fun _ => ?_)
 refine c_know (fun w hF hS => lenOf (i := 1) hS rfl) (fun hl_ => ?_)
 have hl : t9.length = t11.length := by simpa using hl_.symm
 refine l_nil ?_
 refine c_seq ?_
 refine c_region ?_
 refine l_val rfl rfl rfl (r_move (v := .slice p.1 t9.length p.2) rfl) ?_
 obtain ⟨t13, h_t13, H9⟩ := bnd_some H8; clear H8
 refine l_turn (turns_callB (i := 1) (rds := []) (G := fun x : (Option Addr × Nat) => .slice x.1 t13.length x.2) (C := fun x : (Option Addr × Nat) => rowV 3 1 (.slice x.1 t13.length x.2) t13.length (t13.map e_i64)) rfl (fun w L' S hF hS hi hp hlt ho hA => k88 hp hlt (know_but w S) hl h_t13) Tryz.call88 rfl) rfl rfl rfl (fun p_2 => ?_)
 refine l_callG (fun w hF hS => k87 (capOf (i := 1) hS rfl) w) Tryz.call87 rfl rfl rfl ?_
 refine l_val rfl rfl rfl (r_assign (v := .slice (cutA p_2.1 0 t13.length 1) t13.length t13.length) rfl) ?_
 refine l_nil ?_
 refine c_ret ?_
 obtain rfl := Option.some.inj H9
 refine c_imp 1 rfl (imp_clipO _ _ _ _ _ _) ?_
 refine ret1 (v := .slice (cutA p_2.1 0 t13.length 1) t13.length t13.length) rfl rfl (finX (cutA p_2.1 0 t13.length 1, t13.length) (i := 1) rfl rfl (Imp.refl _))
theorem k37 {a0 : (List T_face_Likeness)} {v0 : Value} {r : Int} {w : World} {h : Heap} (hw : Know h w noS) (f0 : FrS h 14 v0 (a0.map e_face_Likeness)) (H : face_Check a0 = some r) : Does Tryz.prog 37 (List.toArray [v0]) w (fun v w' => v = (.int .i64 r) ∧ Grow w w') := by
 refine enter (n := 44) Tryz.func37 rfl rfl rfl noS [] (Sat.nil _ _) ?_
 refine c_seq ?_
 refine c_region ?_
 refine l_val rfl rfl rfl (r_assign (v := .int .i64 0) rfl) ?_
 refine l_nil ?_
 refine c_seq ?_
 refine c_seq ?_
 refine c_region ?_
 refine l_val rfl rfl rfl (r_move (v := v0) rfl) ?_
 refine l_val rfl rfl rfl (r_lenF Tryz.underlying22 rfl f0 rfl) ?_
 refine l_val rfl rfl rfl (r_gtr rfl rfl) ?_
 refine l_nil ?_
 refine c_if (b := (decide (300 < (a0.length : Int)))) rfl (fun hb => ?_) (fun hb => ?_)
 ·have H24 := cnd_t hb H; clear H
  refine c_seq ?_
  refine c_region ?_
  refine l_val rfl rfl rfl (r_assign (v := .int .i64 4) rfl) ?_
  refine l_nil ?_
  refine c_ret ?_
  obtain rfl := Option.some.inj H24
  refine ret1 (v := .int .i64 4) rfl rfl (fin rfl)
 ·have H25 := cnd_f hb H; clear H
  refine c_skip ?_
  refine c_seq ?_
  refine c_seq ?_
  refine c_region ?_
  refine l_val rfl rfl rfl (r_move (v := v0) rfl) ?_
  refine l_val rfl rfl rfl (r_lenF Tryz.underlying22 rfl f0 rfl) ?_
  refine l_val rfl rfl rfl (r_move (v := .int .i64 0) rfl) ?_
  refine l_nil ?_
  refine c_block ?_
  refine c_fix (σ := Int) (τ := Unit) (fun next1 s => face_Check_l1 a0 next1 s) (fun s t => [(0, v0), (9, v0), (10, .int .i64 (a0.length : Int)), (11, .int .i64 s)]) (fun s t => []) (fun s t => True) 0 () [] H25 (by exact trivial) (by exact ⟨rfl, rfl, rfl, rfl, trivial⟩) (by decide) rfl ?_
  rintro x11_2 _ m1 gg H26 _
  clear H25
  replace H26 : face_Check_l1 a0 (it (fun next1 s => face_Check_l1 a0 next1 s) m1) x11_2 = some r := H26
  generalize hn1 : it (fun next1 s => face_Check_l1 a0 next1 s) m1 = next1 at H26
  refine c_tidyF [(0, v0), (9, v0), (10, .int .i64 (a0.length : Int)), (11, .int .i64 x11_2)] [] rfl rfl ?_
  refine c_seq ?_
  refine c_region ?_
  refine l_val rfl rfl rfl (r_lss rfl rfl) ?_
  refine l_nil ?_
  refine c_seq ?_
  refine c_if (b := (decide (x11_2 < (a0.length : Int)))) rfl (fun hb => ?_) (fun hb => ?_)
  ·have H27 := cnd_t hb H26; clear H26
   refine c_skip ?_
   refine c_seq ?_
   refine c_block ?_
   refine c_seq ?_
   refine c_region ?_
   refine l_val rfl rfl rfl (r_move (v := .int .i64 x11_2) rfl) ?_
   obtain ⟨t14, h_t14, H28⟩ := bnd_some H27; clear H27
   refine l_val rfl rfl rfl (r_indexF Tryz.underlying22 Tryz.sizeOf52 rfl rfl f0 h_t14) ?_
   refine l_read (fun w hF hS => run_loadGN (f := e_face_Likeness) (i := x11_2) (sz := 14) (j := 0) (vs := [.int .i64 t14.Id, .int .i64 t14.Photo, .int .i64 (t14.Vec 0), .int .i64 (t14.Vec 1), .int .i64 (t14.Vec 2), .int .i64 (t14.Vec 3), .int .i64 (t14.Vec 4), .int .i64 (t14.Vec 5), .int .i64 (t14.Vec 6), .int .i64 (t14.Vec 7), .int .i64 (t14.Vec 8), .int .i64 (t14.Vec 9), .int .i64 (t14.Vec 10), .int .i64 (t14.Vec 11)]) Tryz.isAgg52 Tryz.sizeOf52 rfl rfl (f0.row (hw.now hF)) h_t14 rfl) rfl rfl rfl ?_
   refine l_alloc (cs := [.int .i64 0, .int .i64 0, .int .i64 0, .int .i64 0, .int .i64 0, .int .i64 0, .int .i64 0, .int .i64 0, .int .i64 0, .int .i64 0, .int .i64 0, .int .i64 0, .int .i64 0, .int .i64 0]) Tryz.zeroValue52 rfl rfl rfl (fun b1 => ?_)
   refine l_val rfl rfl rfl (r_assign (v := .int .i64 x11_2) rfl) ?_
   refine l_store (i := 0) (vs := [.int .i64 t14.Id, .int .i64 t14.Photo, .int .i64 (t14.Vec 0), .int .i64 (t14.Vec 1), .int .i64 (t14.Vec 2), .int .i64 (t14.Vec 3), .int .i64 (t14.Vec 4), .int .i64 (t14.Vec 5), .int .i64 (t14.Vec 6), .int .i64 (t14.Vec 7), .int .i64 (t14.Vec 8), .int .i64 (t14.Vec 9), .int .i64 (t14.Vec 10), .int .i64 (t14.Vec 11)]) (cs' := [.int .i64 t14.Id, .int .i64 t14.Photo, .int .i64 (t14.Vec 0), .int .i64 (t14.Vec 1), .int .i64 (t14.Vec 2), .int .i64 (t14.Vec 3), .int .i64 (t14.Vec 4), .int .i64 (t14.Vec 5), .int .i64 (t14.Vec 6), .int .i64 (t14.Vec 7), .int .i64 (t14.Vec 8), .int .i64 (t14.Vec 9), .int .i64 (t14.Vec 10), .int .i64 (t14.Vec 11)]) Tryz.sizeOf52 rfl rfl rfl rfl rfl rfl rfl rfl rfl ?_
   refine l_nil ?_
   refine c_seq ?_
   refine c_seq ?_
   refine c_region ?_
   refine l_val rfl rfl rfl (r_field Tryz.runUnderlying52 rfl Tryz.sizeOf3 rfl rfl) ?_
   refine l_load1 (i := 0) (v := .int .i64 t14.Id) Tryz.isAgg3 rfl rfl rfl rfl rfl ?_
   obtain ⟨t18, h_t18, H29⟩ := bnd_some H28; clear H28
   refine l_call (k25 h_t18) Tryz.call25 rfl rfl rfl ?_
   refine l_val rfl rfl rfl (r_move (v := .bool t18) rfl) ?_
   refine split (fun hb => ?_) (fun hb => ?_)
   ·have H30 := cnd_t hb H29; clear H29
    refine l_passed rfl rfl rfl ?_
    refine l_passed rfl rfl rfl ?_
    refine l_passed rfl rfl rfl ?_
    refine l_val rfl rfl rfl (r_pickT (v := .bool true) rfl rfl) ?_
    refine l_nil ?_
    refine c_true rfl ?_
    refine c_seq ?_
    refine c_region ?_
    refine l_val rfl rfl rfl (r_assign (v := .int .i64 2) rfl) ?_
    refine l_nil ?_
    refine c_ret ?_
    obtain rfl := Option.some.inj H30
    refine ret1 (v := .int .i64 2) rfl rfl (fin rfl)
   ·have H31 := cnd_f hb H29; clear H29
    refine l_val rfl rfl rfl (r_field Tryz.runUnderlying52 rfl Tryz.sizeOf3 rfl rfl) ?_
    refine l_load1 (i := 0) (v := .int .i64 t14.Photo) Tryz.isAgg3 rfl rfl rfl rfl rfl ?_
    obtain ⟨t22, h_t22, H32⟩ := bnd_some H31; clear H31
    refine l_call (k25 h_t22) Tryz.call25 rfl rfl rfl ?_
    refine l_val rfl rfl rfl (r_pickF (v := .bool t22) rfl rfl) ?_
    refine l_nil ?_
    refine c_if (b := t22) rfl (fun hb => ?_) (fun hb => ?_)
    ·have H33 := cnd_t hb H32; clear H32
     refine c_seq ?_
     refine c_region ?_
     refine l_val rfl rfl rfl (r_assign (v := .int .i64 2) rfl) ?_
     refine l_nil ?_
     refine c_ret ?_
     obtain rfl := Option.some.inj H33
     refine ret1 (v := .int .i64 2) rfl rfl (fin rfl)
    ·have H34 := cnd_f hb H32; clear H32
     refine c_skip ?_
     refine c_meet (r := r) (σ := Unit) (τ := Unit) (fun s => face_Check_j2 x11_2 next1 t14) (fun s t => [(0, v0), (4, .pointer (some ⟨b1, 0, none⟩)), (9, v0), (10, .int .i64 (a0.length : Int)), (11, .int .i64 x11_2), (20, .pointer (some ⟨b1, 1, none⟩)), (21, .int .i64 t14.Photo), (22, .bool t22)]) (fun s t => [cellsC b1 [.int .i64 t14.Id, .int .i64 t14.Photo, .int .i64 (t14.Vec 0), .int .i64 (t14.Vec 1), .int .i64 (t14.Vec 2), .int .i64 (t14.Vec 3), .int .i64 (t14.Vec 4), .int .i64 (t14.Vec 5), .int .i64 (t14.Vec 6), .int .i64 (t14.Vec 7), .int .i64 (t14.Vec 8), .int .i64 (t14.Vec 9), .int .i64 (t14.Vec 10), .int .i64 (t14.Vec 11)] 52]) (fun s t => True) ?_ ?_
     ·refine c_seq ?_
      exact c_regionD (Kd.p :: Kd.p :: Kd.p :: Kd.p :: Kd.d [0] _ :: Kd.p :: Kd.p :: Kd.p :: Kd.p :: Kd.p :: Kd.d [] _ :: Kd.p :: Kd.p :: []) 0 mixed (by
       refine d_val rfl rfl (r_move (v := .int .i64 x11_2) rfl) ?_
       refine d_val rfl rfl (r_gtr rfl rfl) ?_
       refine d_val rfl rfl (r_move (v := .bool (decide (0 < x11_2))) rfl) ?_
       refine splitS (fun hb => ?_) (fun hb => ?_)
       ·have H40 := cnd_t hb H34
        refine d_val rfl rfl (r_field Tryz.runUnderlying52 rfl Tryz.sizeOf3 rfl rfl) ?_
        refine d_load1 (i := 0) (v := .int .i64 t14.Id) Tryz.isAgg3 rfl rfl rfl rfl ?_
        refine d_val rfl rfl (r_move (v := v0) rfl) ?_
        refine d_val rfl rfl (r_move (v := .int .i64 x11_2) rfl) ?_
        have h_t31 := bnd_val H40
        have H41 := bnd_rest H40
        refine d_val rfl rfl (r_subG rfl rfl h_t31) ?_
        have h_t32 := bnd_val H41
        have H42 := bnd_rest H41
        refine d_val rfl rfl (r_indexF Tryz.underlying22 Tryz.sizeOf52 rfl rfl f0 h_t32) ?_
        refine d_val rfl rfl (r_fieldP Tryz.runUnderlying52 rfl Tryz.sizeOf3 rfl rfl (some_of_at f0 h_t32)) ?_
        refine d_read (fun w hF => run_loadG1 (f := e_face_Likeness) (i := (val (gI (x11_2 - 1)))) (sz := 14) (j := 0) (v := .int .i64 (val (gAt a0 (val (gI (x11_2 - 1))))).Id) Tryz.isAgg3 rfl rfl (f0.row (hw.now hF)) h_t32 rfl) rfl rfl ?_
        refine d_val rfl rfl (r_leq rfl rfl) ?_
        refine d_val rfl rfl (r_pickT (v := .bool (decide (t14.Id ≤ (val (gAt a0 (val (gI (x11_2 - 1))))).Id))) rfl rfl) ?_
        refine d_nil ?_
        refine c_if (b := (decide (t14.Id ≤ (val (gAt a0 (val (gI (x11_2 - 1))))).Id))) rfl (fun hb => ?_) (fun hb => ?_)
        ·have H43 := cnd_t hb H42; clear H42
         refine c_seq ?_
         refine c_region ?_
         refine l_val rfl rfl rfl (r_assign (v := .int .i64 5) rfl) ?_
         refine l_nil ?_
         refine c_ret ?_
         obtain rfl := Option.some.inj H43
         refine ret1 (v := .int .i64 5) rfl rfl (fin rfl)
        ·have H44 := cnd_f hb H42; clear H42
         refine c_skip ?_
         refine c_close () () 0 [0] (by exact ⟨rfl, rfl, rfl, rfl, rfl, rfl, rfl, rfl, trivial⟩) (by decide) rfl (by exact ⟨H44, trivial⟩) (Nat.lt_succ_self _)
       ·have H45 := cnd_f hb H34
        refine d_pass rfl rfl ?_
        refine d_pass rfl rfl ?_
        refine d_pass rfl rfl ?_
        refine d_pass rfl rfl ?_
        refine d_pass rfl rfl ?_
        refine d_pass rfl rfl ?_
        refine d_pass rfl rfl ?_
        refine d_pass rfl rfl ?_
        refine d_pass rfl rfl ?_
        refine d_val rfl rfl (r_pickF (v := .bool false) rfl rfl) ?_
        refine d_nil ?_
        refine c_false rfl ?_
        refine c_skip ?_
        refine c_close () () 0 [0] (by exact ⟨rfl, rfl, rfl, rfl, rfl, rfl, rfl, rfl, trivial⟩) (by decide) rfl (by exact ⟨H45, trivial⟩) (Nat.lt_succ_self _)
       ) (by kernel_rfl)
     ·rintro _ _ gg H35 _
      replace H35 : face_Check_j2 x11_2 next1 t14 = some r := H35
      refine c_tidyF [(0, v0), (4, .pointer (some ⟨b1, 0, none⟩)), (9, v0), (10, .int .i64 (a0.length : Int)), (11, .int .i64 x11_2), (20, .pointer (some ⟨b1, 1, none⟩)), (21, .int .i64 t14.Photo), (22, .bool t22)] [cellsC b1 [.int .i64 t14.Id, .int .i64 t14.Photo, .int .i64 (t14.Vec 0), .int .i64 (t14.Vec 1), .int .i64 (t14.Vec 2), .int .i64 (t14.Vec 3), .int .i64 (t14.Vec 4), .int .i64 (t14.Vec 5), .int .i64 (t14.Vec 6), .int .i64 (t14.Vec 7), .int .i64 (t14.Vec 8), .int .i64 (t14.Vec 9), .int .i64 (t14.Vec 10), .int .i64 (t14.Vec 11)] 52] rfl rfl ?_
      refine c_seq ?_
      refine c_region ?_
      refine l_val rfl rfl rfl (r_field Tryz.runUnderlying52 rfl Tryz.sizeOf47 rfl rfl) ?_
      refine l_loadN (i := 0) (vs := [.int .i64 (t14.Vec 0), .int .i64 (t14.Vec 1), .int .i64 (t14.Vec 2), .int .i64 (t14.Vec 3), .int .i64 (t14.Vec 4), .int .i64 (t14.Vec 5), .int .i64 (t14.Vec 6), .int .i64 (t14.Vec 7), .int .i64 (t14.Vec 8), .int .i64 (t14.Vec 9), .int .i64 (t14.Vec 10), .int .i64 (t14.Vec 11)]) Tryz.isAgg47 Tryz.sizeOf47 rfl rfl rfl rfl rfl ?_
      obtain ⟨t39, h_t39, H36⟩ := bnd_some H35; clear H35
      refine l_call (k89 h_t39) Tryz.call89 rfl rfl rfl ?_
      refine l_val rfl rfl rfl (r_assign (v := .int .i64 t39) rfl) ?_
      refine l_nil ?_
      refine c_seq ?_
      refine c_region ?_
      refine l_val rfl rfl rfl (r_move (v := .int .i64 t39) rfl) ?_
      refine l_val rfl rfl rfl (r_neq rfl rfl) ?_
      refine l_nil ?_
      refine c_if (b := (decide (t39 ≠ 0))) rfl (fun hb => ?_) (fun hb => ?_)
      ·have H37 := cnd_t hb H36; clear H36
       refine c_seq ?_
       refine c_region ?_
       refine l_val rfl rfl rfl (r_move (v := .int .i64 t39) rfl) ?_
       refine l_val rfl rfl rfl (r_assign (v := .int .i64 t39) rfl) ?_
       refine l_nil ?_
       refine c_ret ?_
       obtain rfl := Option.some.inj H37
       refine ret1 (v := .int .i64 t39) rfl rfl (fin rfl)
      ·have H38 := cnd_f hb H36; clear H36
       refine c_skip ?_
       refine c_region ?_
       obtain ⟨t43, h_t43, H39⟩ := bnd_some H38; clear H38
       refine l_val rfl rfl rfl (r_addG rfl rfl h_t43) ?_
       refine l_val rfl rfl rfl (r_move (v := .int .i64 t43) rfl) ?_
       refine l_nil ?_
       refine c_close t43 () m1 [] (by exact ⟨rfl, rfl, rfl, rfl, trivial⟩) (by decide) rfl (by exact ⟨(by subst hn1; exact H39), trivial⟩) (Nat.lt_succ_self _)
  ·have H46 := cnd_f hb H26; clear H26
   refine c_exit ?_
   refine c_seq ?_
   refine c_region ?_
   refine l_val rfl rfl rfl (r_assign (v := .int .i64 0) rfl) ?_
   refine l_nil ?_
   refine c_ret ?_
   obtain rfl := Option.some.inj H46
   refine ret1 (v := .int .i64 0) rfl rfl (fin rfl)
theorem k93 {a0 : (List Int)} {v0 : Value} {a1 : (Int → Option (Bool))} {v1 : Value} {r : Int} {w : World} {h : Heap} (hw : Know h w noS) (f0 : FrS h 1 v0 (a0.map e_i64)) (f1 : FnH Tryz.prog h v1 (fnR_func_int_bool a1)) (H : slices_IndexFunc_int a0 a1 = some r) : Does Tryz.prog 93 (List.toArray [v0, v1]) w (fun v w' => v = (.int .i64 r) ∧ Grow w w') := by
 refine enter (n := 19) Tryz.func93 rfl rfl rfl noS [] (Sat.nil _ _) ?_
 refine c_seq ?_
 refine c_region ?_
 refine l_val rfl rfl rfl (r_assign (v := .int .i64 0) rfl) ?_
 refine l_nil ?_
 refine c_seq ?_
 refine c_seq ?_
 refine c_region ?_
 refine l_val rfl rfl rfl (r_move (v := v0) rfl) ?_
 refine l_val rfl rfl rfl (r_lenF Tryz.underlying24 rfl f0 rfl) ?_
 refine l_val rfl rfl rfl (r_move (v := .int .i64 0) rfl) ?_
 refine l_nil ?_
 refine c_block ?_
 refine c_fix (σ := Int) (τ := Unit) (fun next1 s => slices_IndexFunc_int_l1 a0 a1 next1 s) (fun s t => [(0, v0), (1, v1), (7, .int .i64 (a0.length : Int)), (8, .int .i64 s)]) (fun s t => []) (fun s t => True) 0 () [] H (by exact trivial) (by exact ⟨rfl, rfl, rfl, rfl, trivial⟩) (by decide) rfl ?_
 rintro x8_2 _ m1 gg H9 _
 clear H
 replace H9 : slices_IndexFunc_int_l1 a0 a1 (it (fun next1 s => slices_IndexFunc_int_l1 a0 a1 next1 s) m1) x8_2 = some r := H9
 generalize hn1 : it (fun next1 s => slices_IndexFunc_int_l1 a0 a1 next1 s) m1 = next1 at H9
 refine c_tidyF [(0, v0), (1, v1), (7, .int .i64 (a0.length : Int)), (8, .int .i64 x8_2)] [] rfl rfl ?_
 refine c_seq ?_
 refine c_region ?_
 refine l_val rfl rfl rfl (r_lss rfl rfl) ?_
 refine l_nil ?_
 refine c_seq ?_
 refine c_if (b := (decide (x8_2 < (a0.length : Int)))) rfl (fun hb => ?_) (fun hb => ?_)
 ·have H10 := cnd_t hb H9; clear H9
  refine c_skip ?_
  refine c_seq ?_
  refine c_block ?_
  refine c_seq ?_
  refine c_region ?_
  refine l_val rfl rfl rfl (r_move (v := .int .i64 x8_2) rfl) ?_
  refine l_val rfl rfl rfl (r_assign (v := .int .i64 x8_2) rfl) ?_
  refine l_nil ?_
  refine c_seq ?_
  refine c_region ?_
  refine l_val rfl rfl rfl (r_move (v := v1) rfl) ?_
  refine l_val rfl rfl rfl (r_move (v := v0) rfl) ?_
  refine l_val rfl rfl rfl (r_move (v := .int .i64 x8_2) rfl) ?_
  obtain ⟨t14, h_t14, H11⟩ := bnd_some H10; clear H10
  refine l_val rfl rfl rfl (r_indexF Tryz.underlying24 Tryz.sizeOf3 rfl rfl f0 h_t14) ?_
  refine l_read (fun w hF hS => run_loadG1 (f := e_i64) (i := x8_2) (sz := 1) (j := 0) (v := .int .i64 t14) Tryz.isAgg3 rfl rfl (f0.row (hw.now hF)) h_t14 rfl) rfl rfl rfl ?_
  obtain ⟨t16, h_t16, H12⟩ := bnd_some H11; clear H11
  refine l_callV (R := fnR_func_int_bool a1) (r := .bool t16) (v := v1) (fun w hF hS => ⟨(f1.mono (hw.now hF)), ⟨t14, _, rfl, h_t16, rfl⟩⟩) rfl rfl rfl rfl ?_
  refine l_nil ?_
  refine c_if (b := t16) rfl (fun hb => ?_) (fun hb => ?_)
  ·have H13 := cnd_t hb H12; clear H12
   refine c_seq ?_
   refine c_region ?_
   refine l_val rfl rfl rfl (r_move (v := .int .i64 x8_2) rfl) ?_
   refine l_val rfl rfl rfl (r_assign (v := .int .i64 x8_2) rfl) ?_
   refine l_nil ?_
   refine c_ret ?_
   obtain rfl := Option.some.inj H13
   refine ret1 (v := .int .i64 x8_2) rfl rfl (fin rfl)
  ·have H14 := cnd_f hb H12; clear H12
   refine c_skip ?_
   refine c_region ?_
   obtain ⟨t18, h_t18, H15⟩ := bnd_some H14; clear H14
   refine l_val rfl rfl rfl (r_addG rfl rfl h_t18) ?_
   refine l_val rfl rfl rfl (r_move (v := .int .i64 t18) rfl) ?_
   refine l_nil ?_
   refine c_close t18 () m1 [] (by exact ⟨rfl, rfl, rfl, rfl, trivial⟩) (by decide) rfl (by exact ⟨(by subst hn1; exact H15), trivial⟩) (Nat.lt_succ_self _)
 ·have H16 := cnd_f hb H9; clear H9
  refine c_exit ?_
  refine c_seq ?_
  refine c_region ?_
  refine l_val rfl rfl rfl (r_assign (v := .int .i64 (-1)) rfl) ?_
  refine l_nil ?_
  refine c_ret ?_
  obtain rfl := Option.some.inj H16
  refine ret1 (v := .int .i64 (-1)) rfl rfl (fin rfl)
theorem k40 {a0 : (List Int)} {v0 : Value} {a1 : (Int → Option (Bool))} {v1 : Value} {r : Bool} {w : World} {h : Heap} (hw : Know h w noS) (f0 : FrS h 1 v0 (a0.map e_i64)) (f1 : FnH Tryz.prog h v1 (fnR_func_int_bool a1)) (H : slices_ContainsFunc_int a0 a1 = some r) : Does Tryz.prog 40 (List.toArray [v0, v1]) w (fun v w' => v = (.bool r) ∧ Grow w w') := by
 refine enter (n := 9) Tryz.func40 rfl rfl rfl noS [] (Sat.nil _ _) ?_
 refine c_seq ?_
 refine c_region ?_
 refine l_val rfl rfl rfl (r_assign (v := .bool false) rfl) ?_
 refine l_nil ?_
 refine c_seq ?_
 refine c_region ?_
 refine l_val rfl rfl rfl (r_move (v := v0) rfl) ?_
 refine l_val rfl rfl rfl (r_move (v := v1) rfl) ?_
 obtain ⟨t7, h_t7, H2⟩ := bnd_some H; clear H
 refine l_callG (fun w hF hS => k93 (know_all w) (f0.mono (hw.now hF)) (f1.mono (hw.now hF)) h_t7) Tryz.call93 rfl rfl rfl ?_
 refine l_val rfl rfl rfl (r_geq rfl rfl) ?_
 refine l_val rfl rfl rfl (r_assign (v := .bool (decide (0 ≤ t7))) rfl) ?_
 refine l_nil ?_
 refine c_ret ?_
 obtain rfl := Option.some.inj H2
 refine ret1 (v := .bool (decide (0 ≤ t7))) rfl rfl (fin rfl)
theorem k174 {a0 : (List Int)} {v0 : Value} {a1 : (Int → Option (Bool))} {v1 : Value} {r : Int} {w : World} {h : Heap} (hw : Know h w noS) (f0 : FrS h 1 v0 (a0.map e_u8)) (f1 : FnH Tryz.prog h v1 (fnR_func_uint8_bool a1)) (H : slices_IndexFunc_byte a0 a1 = some r) : Does Tryz.prog 174 (List.toArray [v0, v1]) w (fun v w' => v = (.int .i64 r) ∧ Grow w w') := by
 refine enter (n := 19) Tryz.func174 rfl rfl rfl noS [] (Sat.nil _ _) ?_
 refine c_seq ?_
 refine c_region ?_
 refine l_val rfl rfl rfl (r_assign (v := .int .i64 0) rfl) ?_
 refine l_nil ?_
 refine c_seq ?_
 refine c_seq ?_
 refine c_region ?_
 refine l_val rfl rfl rfl (r_move (v := v0) rfl) ?_
 refine l_val rfl rfl rfl (r_lenF Tryz.underlying138 rfl f0 rfl) ?_
 refine l_val rfl rfl rfl (r_move (v := .int .i64 0) rfl) ?_
 refine l_nil ?_
 refine c_block ?_
 refine c_fix (σ := Int) (τ := Unit) (fun next1 s => slices_IndexFunc_byte_l1 a0 a1 next1 s) (fun s t => [(0, v0), (1, v1), (7, .int .i64 (a0.length : Int)), (8, .int .i64 s)]) (fun s t => []) (fun s t => True) 0 () [] H (by exact trivial) (by exact ⟨rfl, rfl, rfl, rfl, trivial⟩) (by decide) rfl ?_
 rintro x8_2 _ m1 gg H9 _
 clear H
 replace H9 : slices_IndexFunc_byte_l1 a0 a1 (it (fun next1 s => slices_IndexFunc_byte_l1 a0 a1 next1 s) m1) x8_2 = some r := H9
 generalize hn1 : it (fun next1 s => slices_IndexFunc_byte_l1 a0 a1 next1 s) m1 = next1 at H9
 refine c_tidyF [(0, v0), (1, v1), (7, .int .i64 (a0.length : Int)), (8, .int .i64 x8_2)] [] rfl rfl ?_
 refine c_seq ?_
 refine c_region ?_
 refine l_val rfl rfl rfl (r_lss rfl rfl) ?_
 refine l_nil ?_
 refine c_seq ?_
 refine c_if (b := (decide (x8_2 < (a0.length : Int)))) rfl (fun hb => ?_) (fun hb => ?_)
 ·have H10 := cnd_t hb H9; clear H9
  refine c_skip ?_
  refine c_seq ?_
  refine c_block ?_
  refine c_seq ?_
  refine c_region ?_
  refine l_val rfl rfl rfl (r_move (v := .int .i64 x8_2) rfl) ?_
  refine l_val rfl rfl rfl (r_assign (v := .int .i64 x8_2) rfl) ?_
  refine l_nil ?_
  refine c_seq ?_
  refine c_region ?_
  refine l_val rfl rfl rfl (r_move (v := v1) rfl) ?_
  refine l_val rfl rfl rfl (r_move (v := v0) rfl) ?_
  refine l_val rfl rfl rfl (r_move (v := .int .i64 x8_2) rfl) ?_
  obtain ⟨t14, h_t14, H11⟩ := bnd_some H10; clear H10
  refine l_val rfl rfl rfl (r_indexF Tryz.underlying138 Tryz.sizeOf5 rfl rfl f0 h_t14) ?_
  refine l_read (fun w hF hS => run_loadG1 (f := e_u8) (i := x8_2) (sz := 1) (j := 0) (v := .int .u8 t14) Tryz.isAgg5 rfl rfl (f0.row (hw.now hF)) h_t14 rfl) rfl rfl rfl ?_
  obtain ⟨t16, h_t16, H12⟩ := bnd_some H11; clear H11
  refine l_callV (R := fnR_func_uint8_bool a1) (r := .bool t16) (v := v1) (fun w hF hS => ⟨(f1.mono (hw.now hF)), ⟨t14, _, rfl, h_t16, rfl⟩⟩) rfl rfl rfl rfl ?_
  refine l_nil ?_
  refine c_if (b := t16) rfl (fun hb => ?_) (fun hb => ?_)
  ·have H13 := cnd_t hb H12; clear H12
   refine c_seq ?_
   refine c_region ?_
   refine l_val rfl rfl rfl (r_move (v := .int .i64 x8_2) rfl) ?_
   refine l_val rfl rfl rfl (r_assign (v := .int .i64 x8_2) rfl) ?_
   refine l_nil ?_
   refine c_ret ?_
   obtain rfl := Option.some.inj H13
   refine ret1 (v := .int .i64 x8_2) rfl rfl (fin rfl)
  ·have H14 := cnd_f hb H12; clear H12
   refine c_skip ?_
   refine c_region ?_
   obtain ⟨t18, h_t18, H15⟩ := bnd_some H14; clear H14
   refine l_val rfl rfl rfl (r_addG rfl rfl h_t18) ?_
   refine l_val rfl rfl rfl (r_move (v := .int .i64 t18) rfl) ?_
   refine l_nil ?_
   refine c_close t18 () m1 [] (by exact ⟨rfl, rfl, rfl, rfl, trivial⟩) (by decide) rfl (by exact ⟨(by subst hn1; exact H15), trivial⟩) (Nat.lt_succ_self _)
 ·have H16 := cnd_f hb H9; clear H9
  refine c_exit ?_
  refine c_seq ?_
  refine c_region ?_
  refine l_val rfl rfl rfl (r_assign (v := .int .i64 (-1)) rfl) ?_
  refine l_nil ?_
  refine c_ret ?_
  obtain rfl := Option.some.inj H16
  refine ret1 (v := .int .i64 (-1)) rfl rfl (fin rfl)
theorem k128 {a0 : (List Int)} {v0 : Value} {a1 : (Int → Option (Bool))} {v1 : Value} {r : Bool} {w : World} {h : Heap} (hw : Know h w noS) (f0 : FrS h 1 v0 (a0.map e_u8)) (f1 : FnH Tryz.prog h v1 (fnR_func_uint8_bool a1)) (H : slices_ContainsFunc_byte a0 a1 = some r) : Does Tryz.prog 128 (List.toArray [v0, v1]) w (fun v w' => v = (.bool r) ∧ Grow w w') := by
 refine enter (n := 9) Tryz.func128 rfl rfl rfl noS [] (Sat.nil _ _) ?_
 refine c_seq ?_
 refine c_region ?_
 refine l_val rfl rfl rfl (r_assign (v := .bool false) rfl) ?_
 refine l_nil ?_
 refine c_seq ?_
 refine c_region ?_
 refine l_val rfl rfl rfl (r_move (v := v0) rfl) ?_
 refine l_val rfl rfl rfl (r_move (v := v1) rfl) ?_
 obtain ⟨t7, h_t7, H2⟩ := bnd_some H; clear H
 refine l_callG (fun w hF hS => k174 (know_all w) (f0.mono (hw.now hF)) (f1.mono (hw.now hF)) h_t7) Tryz.call174 rfl rfl rfl ?_
 refine l_val rfl rfl rfl (r_geq rfl rfl) ?_
 refine l_val rfl rfl rfl (r_assign (v := .bool (decide (0 ≤ t7))) rfl) ?_
 refine l_nil ?_
 refine c_ret ?_
 obtain rfl := Option.some.inj H2
 refine ret1 (v := .bool (decide (0 ≤ t7))) rfl rfl (fin rfl)
theorem k129 {a0 : Int} {r : Bool} (H : face_isTitle_1 a0 = some r) : Ret Tryz.prog 129 [.int .u8 a0] (.bool r) := by
 refine enterRet (n := 5) Tryz.func129 rfl rfl rfl (fun wd => ?_)
 refine c_seq ?_
 refine c_region ?_
 refine l_val rfl rfl rfl (r_assign (v := .bool false) rfl) ?_
 refine l_nil ?_
 refine c_seq ?_
 refine c_region ?_
 refine l_val rfl rfl rfl (r_move (v := .int .u8 a0) rfl) ?_
 refine l_val rfl rfl rfl (r_lss rfl rfl) ?_
 refine l_val rfl rfl rfl (r_assign (v := .bool (decide (a0 < 32))) rfl) ?_
 refine l_nil ?_
 refine c_ret ?_
 obtain rfl := Option.some.inj H
 refine ret1 (v := .bool (decide (a0 < 32))) rfl rfl (fin rfl)
theorem k90 {a0 : (List UInt8)} {r : Bool} (H : face_isTitle a0 = some r) : Ret Tryz.prog 90 [str a0] (.bool r) := by
 refine enterRet (n := 13) Tryz.func90 rfl rfl rfl (fun wd => ?_)
 refine c_seq ?_
 refine c_region ?_
 refine l_val rfl rfl rfl (r_assign (v := .bool false) rfl) ?_
 refine l_nil ?_
 refine c_seq ?_
 refine c_region ?_
 refine l_val rfl rfl rfl (r_move (v := str a0) rfl) ?_
 refine l_val rfl rfl rfl (r_lenT Tryz.underlying9 rfl) ?_
 obtain ⟨t5, h_t5, H6⟩ := bnd_some H; clear H
 refine l_call (k25 h_t5) Tryz.call25 rfl rfl rfl ?_
 refine l_val rfl rfl rfl (r_not rfl) ?_
 refine l_val rfl rfl rfl (r_move (v := .bool (!t5)) rfl) ?_
 refine split (fun hb => ?_) (fun hb => ?_)
 ·have H7 := cnd_t hb H6; clear H6
  refine l_val rfl rfl rfl (r_move (v := str a0) rfl) ?_
  obtain ⟨t9, h_t9, H8⟩ := bnd_some H7; clear H7
  refine l_make (rds := []) (makes_byt (f := e_u8) (s := a0) Tryz.underlying9 Tryz.underlying138 Tryz.underlying5 rfl (fun _ => rfl) h_t9) rfl rfl rfl (fun p => ?_)
  obtain ⟨t10, h_t10, H9⟩ := bnd_some H8; clear H8
  refine l_callG (fun w hF hS => k128 (know_all w) (frs_mk (i := 0) hS rfl) (FnH.mk ⟨129, #[], #[], rfl, Tryz.call129, fun args2 post2 w2 hk2 hR2 => by obtain ⟨a0_, r_, rfl, H_, rfl⟩ := hR2; exact k129 H_ w2⟩) h_t10) Tryz.call128 rfl rfl rfl ?_
  refine l_val rfl rfl rfl (r_not rfl) ?_
  refine l_val rfl rfl rfl (r_pickT (v := .bool (!t10)) rfl rfl) ?_
  refine l_val rfl rfl rfl (r_assign (v := .bool (!t10)) rfl) ?_
  refine l_nil ?_
  refine c_ret ?_
  obtain rfl := Option.some.inj H9
  refine ret1 (v := .bool (!t10)) rfl rfl (fin rfl)
 ·have H10 := cnd_f hb H6; clear H6
  refine l_passed rfl rfl rfl ?_
  refine l_passed rfl rfl rfl ?_
  refine l_passed rfl rfl rfl ?_
  refine l_passed rfl rfl rfl ?_
  refine l_val rfl rfl rfl (r_pickF (v := .bool false) rfl rfl) ?_
  refine l_val rfl rfl rfl (r_assign (v := .bool false) rfl) ?_
  refine l_nil ?_
  refine c_ret ?_
  obtain rfl := Option.some.inj H10
  refine ret1 (v := .bool false) rfl rfl (fin rfl)
theorem k131 {a0 : (List T_face_Likeness)} {v0 : Value} {a1 : Int} {a2 : (T_face_Likeness → Int → Option (Int))} {v2 : Value} {r : Int × Bool} {w : World} {h : Heap} (hw : Know h w noS) (f0 : FrS h 14 v0 (a0.map e_face_Likeness)) (f2 : FnH Tryz.prog h v2 (fnR_func_face_Likeness_int_int a2)) (H : slices_BinarySearchFunc_face_Likeness_int a0 a1 a2 = some r) : Does Tryz.prog 131 (List.toArray [v0, .int .i64 a1, v2]) w (fun v w' => v = (.tuple #[.int .i64 r.1, .bool r.2]) ∧ Grow w w') := by
 refine enter (n := 49) Tryz.func131 rfl rfl rfl noS [] (Sat.nil _ _) ?_
 refine c_seq ?_
 refine c_region ?_
 refine l_val rfl rfl rfl (r_assign (v := .int .i64 0) rfl) ?_
 refine l_val rfl rfl rfl (r_assign (v := .bool false) rfl) ?_
 refine l_nil ?_
 refine c_seq ?_
 refine c_region ?_
 refine l_val rfl rfl rfl (r_move (v := v0) rfl) ?_
 refine l_val rfl rfl rfl (r_lenF Tryz.underlying22 rfl f0 rfl) ?_
 refine l_val rfl rfl rfl (r_assign (v := .int .i64 (a0.length : Int)) rfl) ?_
 refine l_nil ?_
 refine c_seq ?_
 refine c_region ?_
 refine l_val rfl rfl rfl (r_move (v := .int .i64 (a0.length : Int)) rfl) ?_
 refine l_val rfl rfl rfl (r_assign (v := .int .i64 0) rfl) ?_
 refine l_val rfl rfl rfl (r_assign (v := .int .i64 (a0.length : Int)) rfl) ?_
 refine l_nil ?_
 refine c_meet (r := r) (σ := Int) (τ := Unit) (fun s => slices_BinarySearchFunc_face_Likeness_int_j1 a0 a1 a2 s) (fun s t => [(0, v0), (1, .int .i64 a1), (2, v2), (8, .int .i64 (a0.length : Int)), (9, .int .i64 s)]) (fun s t => []) (fun s t => True) ?_ ?_
 ·refine c_block ?_
  refine c_fix (σ := Int × Int) (τ := Unit) (fun next2 s => slices_BinarySearchFunc_face_Likeness_int_l2 a0 a1 a2 next2 s.1 s.2) (fun s t => [(0, v0), (1, .int .i64 a1), (2, v2), (8, .int .i64 (a0.length : Int)), (9, .int .i64 s.1), (10, .int .i64 s.2)]) (fun s t => []) (fun s t => True) (0, (a0.length : Int)) () [] H (by exact trivial) (by exact ⟨rfl, rfl, rfl, rfl, rfl, rfl, trivial⟩) (by decide) rfl ?_
  rintro ⟨x9_3, x10_2⟩ _ m2 gg H21 _
  clear H
  replace H21 : slices_BinarySearchFunc_face_Likeness_int_l2 a0 a1 a2 (it (fun next2 s => slices_BinarySearchFunc_face_Likeness_int_l2 a0 a1 a2 next2 s.1 s.2) m2) x9_3 x10_2 = some r := H21
  generalize hn2 : it (fun next2 s => slices_BinarySearchFunc_face_Likeness_int_l2 a0 a1 a2 next2 s.1 s.2) m2 = next2 at H21
  refine c_tidyF [(0, v0), (1, .int .i64 a1), (2, v2), (8, .int .i64 (a0.length : Int)), (9, .int .i64 x9_3), (10, .int .i64 x10_2)] [] rfl rfl ?_
  refine c_seq ?_
  refine c_seq ?_
  refine c_region ?_
  refine l_val rfl rfl rfl (r_move (v := .int .i64 x9_3) rfl) ?_
  refine l_val rfl rfl rfl (r_move (v := .int .i64 x10_2) rfl) ?_
  refine l_val rfl rfl rfl (r_lss rfl rfl) ?_
  refine l_nil ?_
  refine c_if (b := (decide (x9_3 < x10_2))) rfl (fun hb => ?_) (fun hb => ?_)
  ·have H22 := cnd_t hb H21; clear H21
   refine c_skip ?_
   refine c_block ?_
   refine c_seq ?_
   refine c_region ?_
   refine l_val rfl rfl rfl (r_move (v := .int .i64 x9_3) rfl) ?_
   refine l_val rfl rfl rfl (r_move (v := .int .i64 x10_2) rfl) ?_
   obtain ⟨t20, h_t20, H23⟩ := bnd_some H22; clear H22
   refine l_val rfl rfl rfl (r_addG rfl rfl h_t20) ?_
   refine l_val rfl rfl rfl (r_convG Tryz.runUnderlying3 Tryz.runUnderlying106 rfl (wr_u64 _)) ?_
   obtain ⟨t22, h_t22, H24⟩ := bnd_some H23; clear H23
   refine l_val rfl rfl rfl (r_shrG rfl rfl rfl h_t22) ?_
   refine l_val rfl rfl rfl (r_convG Tryz.runUnderlying106 Tryz.runUnderlying3 rfl (wr_i64 _)) ?_
   refine l_val rfl rfl rfl (r_assign (v := .int .i64 (wI64 t22)) rfl) ?_
   refine l_nil ?_
   refine c_seq ?_
   refine c_region ?_
   refine l_val rfl rfl rfl (r_move (v := v2) rfl) ?_
   refine l_val rfl rfl rfl (r_move (v := v0) rfl) ?_
   refine l_val rfl rfl rfl (r_move (v := .int .i64 (wI64 t22)) rfl) ?_
   obtain ⟨t27, h_t27, H25⟩ := bnd_some H24; clear H24
   refine l_val rfl rfl rfl (r_indexF Tryz.underlying22 Tryz.sizeOf52 rfl rfl f0 h_t27) ?_
   refine l_read (fun w hF hS => run_loadGN (f := e_face_Likeness) (i := (wI64 t22)) (sz := 14) (j := 0) (vs := [.int .i64 t27.Id, .int .i64 t27.Photo, .int .i64 (t27.Vec 0), .int .i64 (t27.Vec 1), .int .i64 (t27.Vec 2), .int .i64 (t27.Vec 3), .int .i64 (t27.Vec 4), .int .i64 (t27.Vec 5), .int .i64 (t27.Vec 6), .int .i64 (t27.Vec 7), .int .i64 (t27.Vec 8), .int .i64 (t27.Vec 9), .int .i64 (t27.Vec 10), .int .i64 (t27.Vec 11)]) Tryz.isAgg52 Tryz.sizeOf52 rfl rfl (f0.row (hw.now hF)) h_t27 rfl) rfl rfl rfl ?_
   refine l_val rfl rfl rfl (r_move (v := .int .i64 a1) rfl) ?_
   obtain ⟨t30, h_t30, H26⟩ := bnd_some H25; clear H25
   refine l_callV (R := fnR_func_face_Likeness_int_int a2) (r := .int .i64 t30) (v := v2) (fun w hF hS => ⟨(f2.mono (hw.now hF)), ⟨t27, a1, _, rfl, h_t30, rfl⟩⟩) rfl rfl rfl rfl ?_
   refine l_val rfl rfl rfl (r_lss rfl rfl) ?_
   refine l_nil ?_
   refine c_if (b := (decide (t30 < 0))) rfl (fun hb => ?_) (fun hb => ?_)
   ·have H27 := cnd_t hb H26; clear H26
    refine c_region ?_
    refine l_val rfl rfl rfl (r_move (v := .int .i64 (wI64 t22)) rfl) ?_
    obtain ⟨t33, h_t33, H28⟩ := bnd_some H27; clear H27
    refine l_val rfl rfl rfl (r_addG rfl rfl h_t33) ?_
    refine l_val rfl rfl rfl (r_assign (v := .int .i64 t33) rfl) ?_
    refine l_nil ?_
    refine c_close (t33, x10_2) () m2 [] (by exact ⟨rfl, rfl, rfl, rfl, rfl, rfl, trivial⟩) (by decide) rfl (by exact ⟨(by subst hn2; exact H28), trivial⟩) (Nat.lt_succ_self _)
   ·have H29 := cnd_f hb H26; clear H26
    refine c_region ?_
    refine l_val rfl rfl rfl (r_move (v := .int .i64 (wI64 t22)) rfl) ?_
    refine l_val rfl rfl rfl (r_assign (v := .int .i64 (wI64 t22)) rfl) ?_
    refine l_nil ?_
    refine c_close (x9_3, (wI64 t22)) () m2 [] (by exact ⟨rfl, rfl, rfl, rfl, rfl, rfl, trivial⟩) (by decide) rfl (by exact ⟨(by subst hn2; exact H29), trivial⟩) (Nat.lt_succ_self _)
  ·have H30 := cnd_f hb H21; clear H21
   refine c_exit ?_
   refine c_close x9_3 () 0 [] (by exact ⟨rfl, rfl, rfl, rfl, rfl, trivial⟩) (by decide) rfl (by exact ⟨H30, trivial⟩) (Nat.lt_succ_self _)
 ·rintro x9 _ gg H16 _
  replace H16 : slices_BinarySearchFunc_face_Likeness_int_j1 a0 a1 a2 x9 = some r := H16
  refine c_tidyF [(0, v0), (1, .int .i64 a1), (2, v2), (8, .int .i64 (a0.length : Int)), (9, .int .i64 x9)] [] rfl rfl ?_
  refine c_seq ?_
  refine c_region ?_
  refine l_val rfl rfl rfl (r_move (v := .int .i64 x9) rfl) ?_
  refine l_val rfl rfl rfl (r_move (v := .int .i64 x9) rfl) ?_
  refine l_val rfl rfl rfl (r_move (v := .int .i64 (a0.length : Int)) rfl) ?_
  refine l_val rfl rfl rfl (r_lss rfl rfl) ?_
  refine l_val rfl rfl rfl (r_move (v := .bool (decide (x9 < (a0.length : Int)))) rfl) ?_
  refine split (fun hb => ?_) (fun hb => ?_)
  ·have H17 := cnd_t hb H16; clear H16
   refine l_val rfl rfl rfl (r_move (v := v2) rfl) ?_
   refine l_val rfl rfl rfl (r_move (v := v0) rfl) ?_
   refine l_val rfl rfl rfl (r_move (v := .int .i64 x9) rfl) ?_
   obtain ⟨t43, h_t43, H18⟩ := bnd_some H17; clear H17
   refine l_val rfl rfl rfl (r_indexF Tryz.underlying22 Tryz.sizeOf52 rfl rfl f0 h_t43) ?_
   refine l_read (fun w hF hS => run_loadGN (f := e_face_Likeness) (i := x9) (sz := 14) (j := 0) (vs := [.int .i64 t43.Id, .int .i64 t43.Photo, .int .i64 (t43.Vec 0), .int .i64 (t43.Vec 1), .int .i64 (t43.Vec 2), .int .i64 (t43.Vec 3), .int .i64 (t43.Vec 4), .int .i64 (t43.Vec 5), .int .i64 (t43.Vec 6), .int .i64 (t43.Vec 7), .int .i64 (t43.Vec 8), .int .i64 (t43.Vec 9), .int .i64 (t43.Vec 10), .int .i64 (t43.Vec 11)]) Tryz.isAgg52 Tryz.sizeOf52 rfl rfl (f0.row (hw.now hF)) h_t43 rfl) rfl rfl rfl ?_
   refine l_val rfl rfl rfl (r_move (v := .int .i64 a1) rfl) ?_
   obtain ⟨t46, h_t46, H19⟩ := bnd_some H18; clear H18
   refine l_callV (R := fnR_func_face_Likeness_int_int a2) (r := .int .i64 t46) (v := v2) (fun w hF hS => ⟨(f2.mono (hw.now hF)), ⟨t43, a1, _, rfl, h_t46, rfl⟩⟩) rfl rfl rfl rfl ?_
   refine l_val rfl rfl rfl (r_eql rfl rfl) ?_
   refine l_val rfl rfl rfl (r_pickT (v := .bool (decide (t46 = 0))) rfl rfl) ?_
   refine l_val rfl rfl rfl (r_assign (v := .int .i64 x9) rfl) ?_
   refine l_val rfl rfl rfl (r_assign (v := .bool (decide (t46 = 0))) rfl) ?_
   refine l_nil ?_
   refine c_ret ?_
   obtain rfl := Option.some.inj H19
   refine ret2 (v1 := .int .i64 x9) (v2 := .bool (decide (t46 = 0))) rfl rfl rfl (fin rfl)
  ·have H20 := cnd_f hb H16; clear H16
   refine l_passed rfl rfl rfl ?_
   refine l_passed rfl rfl rfl ?_
   refine l_passed rfl rfl rfl ?_
   refine l_passed rfl rfl rfl ?_
   refine l_passed rfl rfl rfl ?_
   refine l_passed rfl rfl rfl ?_
   refine l_passed rfl rfl rfl ?_
   refine l_passed rfl rfl rfl ?_
   refine l_val rfl rfl rfl (r_pickF (v := .bool false) rfl rfl) ?_
   refine l_val rfl rfl rfl (r_assign (v := .int .i64 x9) rfl) ?_
   refine l_val rfl rfl rfl (r_assign (v := .bool false) rfl) ?_
   refine l_nil ?_
   refine c_ret ?_
   obtain rfl := Option.some.inj H20
   refine ret2 (v1 := .int .i64 x9) (v2 := .bool false) rfl rfl rfl (fin rfl)
theorem k132 {a0 : T_face_Likeness} {a1 : Int} {r : Int} (H : face_at_1 a0 a1 = some r) : Ret Tryz.prog 132 [.agg #[.int .i64 a0.Id, .int .i64 a0.Photo, .int .i64 (a0.Vec 0), .int .i64 (a0.Vec 1), .int .i64 (a0.Vec 2), .int .i64 (a0.Vec 3), .int .i64 (a0.Vec 4), .int .i64 (a0.Vec 5), .int .i64 (a0.Vec 6), .int .i64 (a0.Vec 7), .int .i64 (a0.Vec 8), .int .i64 (a0.Vec 9), .int .i64 (a0.Vec 10), .int .i64 (a0.Vec 11)], .int .i64 a1] (.int .i64 r) := by
 refine enterRet (n := 15) Tryz.func132 rfl rfl rfl (fun wd => ?_)
 refine c_seq ?_
 refine c_region ?_
 refine l_box (cs := [.int .i64 a0.Id, .int .i64 a0.Photo, .int .i64 (a0.Vec 0), .int .i64 (a0.Vec 1), .int .i64 (a0.Vec 2), .int .i64 (a0.Vec 3), .int .i64 (a0.Vec 4), .int .i64 (a0.Vec 5), .int .i64 (a0.Vec 6), .int .i64 (a0.Vec 7), .int .i64 (a0.Vec 8), .int .i64 (a0.Vec 9), .int .i64 (a0.Vec 10), .int .i64 (a0.Vec 11)]) rfl rfl rfl rfl (fun b1 => ?_)
 refine l_val rfl rfl rfl (r_assign (v := .int .i64 0) rfl) ?_
 refine l_nil ?_
 refine c_seq ?_
 refine c_block ?_
 refine c_seq ?_
 refine c_region ?_
 refine l_val rfl rfl rfl (r_field Tryz.runUnderlying52 rfl Tryz.sizeOf3 rfl rfl) ?_
 refine l_load1 (i := 0) (v := .int .i64 a0.Id) Tryz.isAgg3 rfl rfl rfl rfl rfl ?_
 refine l_val rfl rfl rfl (r_move (v := .int .i64 a1) rfl) ?_
 refine l_val rfl rfl rfl (r_lss rfl rfl) ?_
 refine l_val rfl rfl rfl (r_assign (v := .bool (decide (a0.Id < a1))) rfl) ?_
 refine l_nil ?_
 refine c_if (b := (decide (a0.Id < a1))) rfl (fun hb => ?_) (fun hb => ?_)
 ·have H5 := cnd_t hb H; clear H
  refine c_seq ?_
  refine c_region ?_
  refine l_val rfl rfl rfl (r_assign (v := .int .i64 (-1)) rfl) ?_
  refine l_nil ?_
  refine c_ret ?_
  obtain rfl := Option.some.inj H5
  refine ret1 (v := .int .i64 (-1)) rfl rfl (fin rfl)
 ·have H6 := cnd_f hb H; clear H
  refine c_seq ?_
  refine c_region ?_
  refine l_val rfl rfl rfl (r_field Tryz.runUnderlying52 rfl Tryz.sizeOf3 rfl rfl) ?_
  refine l_load1 (i := 0) (v := .int .i64 a0.Id) Tryz.isAgg3 rfl rfl rfl rfl rfl ?_
  refine l_val rfl rfl rfl (r_move (v := .int .i64 a1) rfl) ?_
  refine l_val rfl rfl rfl (r_gtr rfl rfl) ?_
  refine l_val rfl rfl rfl (r_assign (v := .bool (decide (a1 < a0.Id))) rfl) ?_
  refine l_nil ?_
  refine c_if (b := (decide (a1 < a0.Id))) rfl (fun hb => ?_) (fun hb => ?_)
  ·have H7 := cnd_t hb H6; clear H6
   refine c_seq ?_
   refine c_region ?_
   refine l_val rfl rfl rfl (r_assign (v := .int .i64 1) rfl) ?_
   refine l_nil ?_
   refine c_ret ?_
   obtain rfl := Option.some.inj H7
   refine ret1 (v := .int .i64 1) rfl rfl (fin rfl)
  ·have H8 := cnd_f hb H6; clear H6
   refine c_skip ?_
   refine c_seq ?_
   refine c_region ?_
   refine l_val rfl rfl rfl (r_assign (v := .int .i64 0) rfl) ?_
   refine l_nil ?_
   refine c_ret ?_
   obtain rfl := Option.some.inj H8
   refine ret1 (v := .int .i64 0) rfl rfl (fin rfl)
theorem k102 {a0 : (List T_face_Likeness)} {v0 : Value} {a1 : Int} {r : Int × Bool} {w : World} {h : Heap} (hw : Know h w noS) (f0 : FrS h 14 v0 (a0.map e_face_Likeness)) (H : face_at a0 a1 = some r) : Does Tryz.prog 102 (List.toArray [v0, .int .i64 a1]) w (fun v w' => v = (.tuple #[.int .i64 r.1, .bool r.2]) ∧ Grow w w') := by
 refine enter (n := 11) Tryz.func102 rfl rfl rfl noS [] (Sat.nil _ _) ?_
 refine c_seq ?_
 refine c_region ?_
 refine l_val rfl rfl rfl (r_assign (v := .int .i64 0) rfl) ?_
 refine l_val rfl rfl rfl (r_assign (v := .bool false) rfl) ?_
 refine l_nil ?_
 refine c_seq ?_
 refine c_region ?_
 refine l_val rfl rfl rfl (r_move (v := v0) rfl) ?_
 refine l_val rfl rfl rfl (r_move (v := .int .i64 a1) rfl) ?_
 obtain ⟨t8, h_t8, H2⟩ := bnd_some H; clear H
 refine l_callG (fun w hF hS => k131 (know_all w) (f0.mono (hw.now hF)) (FnH.mk ⟨132, #[], #[], rfl, Tryz.call132, fun args2 post2 w2 hk2 hR2 => by obtain ⟨a0_, a1_, r_, rfl, H_, rfl⟩ := hR2; exact k132 H_ w2⟩) h_t8) Tryz.call131 rfl rfl rfl ?_
 refine l_val rfl rfl rfl (r_extract (v := .int .i64 t8.1) rfl rfl) ?_
 refine l_val rfl rfl rfl (r_extract (v := .bool t8.2) rfl rfl) ?_
 refine l_val rfl rfl rfl (r_assign (v := .int .i64 t8.1) rfl) ?_
 refine l_val rfl rfl rfl (r_assign (v := .bool t8.2) rfl) ?_
 refine l_nil ?_
 refine c_ret ?_
 obtain rfl := Option.some.inj H2
 refine ret2 (v1 := .int .i64 t8.1) (v2 := .bool t8.2) rfl rfl rfl (fin rfl)
theorem k91 {a0 : (List T_face_Likeness)} {v0 : Value} {a1 : (List Int)} {v1 : Value} {r : Int} {w : World} {h : Heap} (hw : Know h w noS) (f0 : FrS h 14 v0 (a0.map e_face_Likeness)) (f1 : FrS h 1 v1 (a1.map e_i64)) (H : face_checkIds a0 a1 = some r) : Does Tryz.prog 91 (List.toArray [v0, v1]) w (fun v w' => v = (.int .i64 r) ∧ Grow w w') := by
 refine enter (n := 36) Tryz.func91 rfl rfl rfl noS [] (Sat.nil _ _) ?_
 refine c_seq ?_
 refine c_region ?_
 refine l_val rfl rfl rfl (r_assign (v := .int .i64 0) rfl) ?_
 refine l_nil ?_
 refine c_seq ?_
 refine c_seq ?_
 refine c_region ?_
 refine l_val rfl rfl rfl (r_move (v := v1) rfl) ?_
 refine l_val rfl rfl rfl (r_lenF Tryz.underlying24 rfl f1 rfl) ?_
 refine l_val rfl rfl rfl (r_move (v := .int .i64 0) rfl) ?_
 refine l_nil ?_
 refine c_block ?_
 refine c_fix (σ := Int) (τ := Unit) (fun next1 s => face_checkIds_l1 a0 a1 next1 s) (fun s t => [(0, v0), (1, v1), (9, v1), (10, .int .i64 (a1.length : Int)), (11, .int .i64 s)]) (fun s t => []) (fun s t => True) 0 () [] H (by exact trivial) (by exact ⟨rfl, rfl, rfl, rfl, rfl, trivial⟩) (by decide) rfl ?_
 rintro x11_2 _ m1 gg H16 _
 clear H
 replace H16 : face_checkIds_l1 a0 a1 (it (fun next1 s => face_checkIds_l1 a0 a1 next1 s) m1) x11_2 = some r := H16
 generalize hn1 : it (fun next1 s => face_checkIds_l1 a0 a1 next1 s) m1 = next1 at H16
 refine c_tidyF [(0, v0), (1, v1), (9, v1), (10, .int .i64 (a1.length : Int)), (11, .int .i64 x11_2)] [] rfl rfl ?_
 refine c_seq ?_
 refine c_region ?_
 refine l_val rfl rfl rfl (r_lss rfl rfl) ?_
 refine l_nil ?_
 refine c_seq ?_
 refine c_if (b := (decide (x11_2 < (a1.length : Int)))) rfl (fun hb => ?_) (fun hb => ?_)
 ·have H17 := cnd_t hb H16; clear H16
  refine c_skip ?_
  refine c_meet (r := r) (σ := Unit) (τ := Unit) (fun s => face_checkIds_j2 x11_2 next1) (fun s t => [(0, v0), (1, v1), (9, v1), (10, .int .i64 (a1.length : Int)), (11, .int .i64 x11_2)]) (fun s t => []) (fun s t => True) ?_ ?_
  ·refine c_block ?_
   refine c_seq ?_
   refine c_region ?_
   refine l_val rfl rfl rfl (r_move (v := .int .i64 x11_2) rfl) ?_
   obtain ⟨t14, h_t14, H20⟩ := bnd_some H17; clear H17
   refine l_val rfl rfl rfl (r_indexF Tryz.underlying24 Tryz.sizeOf3 rfl rfl f1 h_t14) ?_
   refine l_read (fun w hF hS => run_loadG1 (f := e_i64) (i := x11_2) (sz := 1) (j := 0) (v := .int .i64 t14) Tryz.isAgg3 rfl rfl (f1.row (hw.now hF)) h_t14 rfl) rfl rfl rfl ?_
   refine l_val rfl rfl rfl (r_assign (v := .int .i64 x11_2) rfl) ?_
   refine l_val rfl rfl rfl (r_assign (v := .int .i64 t14) rfl) ?_
   refine l_nil ?_
   refine c_seq ?_
   refine c_seq ?_
   refine c_region ?_
   refine l_val rfl rfl rfl (r_move (v := v0) rfl) ?_
   refine l_val rfl rfl rfl (r_move (v := .int .i64 t14) rfl) ?_
   obtain ⟨t19, h_t19, H21⟩ := bnd_some H20; clear H20
   refine l_callG (fun w hF hS => k102 (know_all w) (f0.mono (hw.now hF)) h_t19) Tryz.call102 rfl rfl rfl ?_
   refine l_val rfl rfl rfl (r_move (v := .tuple #[.int .i64 t19.1, .bool t19.2]) rfl) ?_
   refine l_val rfl rfl rfl (r_extract (v := .int .i64 t19.1) rfl rfl) ?_
   refine l_val rfl rfl rfl (r_extract (v := .bool t19.2) rfl rfl) ?_
   refine l_val rfl rfl rfl (r_assign (v := .int .i64 t19.1) rfl) ?_
   refine l_val rfl rfl rfl (r_assign (v := .bool t19.2) rfl) ?_
   refine l_nil ?_
   refine c_seq ?_
   refine c_region ?_
   refine l_val rfl rfl rfl (r_move (v := .bool t19.2) rfl) ?_
   refine l_val rfl rfl rfl (r_not rfl) ?_
   refine l_nil ?_
   refine c_if (b := (!t19.2)) rfl (fun hb => ?_) (fun hb => ?_)
   ·have H22 := cnd_t hb H21; clear H21
    refine c_seq ?_
    refine c_region ?_
    refine l_val rfl rfl rfl (r_assign (v := .int .i64 7) rfl) ?_
    refine l_nil ?_
    refine c_ret ?_
    obtain rfl := Option.some.inj H22
    refine ret1 (v := .int .i64 7) rfl rfl (fin rfl)
   ·have H23 := cnd_f hb H21; clear H21
    refine c_skip ?_
    refine c_seq ?_
    refine c_region ?_
    refine l_val rfl rfl rfl (r_move (v := .int .i64 x11_2) rfl) ?_
    refine l_val rfl rfl rfl (r_gtr rfl rfl) ?_
    refine l_val rfl rfl rfl (r_move (v := .bool (decide (0 < x11_2))) rfl) ?_
    refine split (fun hb => ?_) (fun hb => ?_)
    ·have H24 := cnd_t hb H23; clear H23
     refine l_val rfl rfl rfl (r_move (v := .int .i64 t14) rfl) ?_
     refine l_val rfl rfl rfl (r_move (v := v1) rfl) ?_
     refine l_val rfl rfl rfl (r_move (v := .int .i64 x11_2) rfl) ?_
     obtain ⟨t30, h_t30, H25⟩ := bnd_some H24; clear H24
     refine l_val rfl rfl rfl (r_subG rfl rfl h_t30) ?_
     obtain ⟨t31, h_t31, H26⟩ := bnd_some H25; clear H25
     refine l_val rfl rfl rfl (r_indexF Tryz.underlying24 Tryz.sizeOf3 rfl rfl f1 h_t31) ?_
     refine l_read (fun w hF hS => run_loadG1 (f := e_i64) (i := t30) (sz := 1) (j := 0) (v := .int .i64 t31) Tryz.isAgg3 rfl rfl (f1.row (hw.now hF)) h_t31 rfl) rfl rfl rfl ?_
     refine l_val rfl rfl rfl (r_leq rfl rfl) ?_
     refine l_val rfl rfl rfl (r_pickT (v := .bool (decide (t14 ≤ t31))) rfl rfl) ?_
     refine l_nil ?_
     refine c_if (b := (decide (t14 ≤ t31))) rfl (fun hb => ?_) (fun hb => ?_)
     ·have H27 := cnd_t hb H26; clear H26
      refine c_seq ?_
      refine c_region ?_
      refine l_val rfl rfl rfl (r_assign (v := .int .i64 5) rfl) ?_
      refine l_nil ?_
      refine c_ret ?_
      obtain rfl := Option.some.inj H27
      refine ret1 (v := .int .i64 5) rfl rfl (fin rfl)
     ·have H28 := cnd_f hb H26; clear H26
      refine c_skip ?_
      refine c_close () () 0 [] (by exact ⟨rfl, rfl, rfl, rfl, rfl, trivial⟩) (by decide) rfl (by exact ⟨H28, trivial⟩) (Nat.lt_succ_self _)
    ·have H29 := cnd_f hb H23; clear H23
     refine l_passed rfl rfl rfl ?_
     refine l_passed rfl rfl rfl ?_
     refine l_passed rfl rfl rfl ?_
     refine l_passed rfl rfl rfl ?_
     refine l_passed rfl rfl rfl ?_
     refine l_passed rfl rfl rfl ?_
     refine l_passed rfl rfl rfl ?_
     refine l_val rfl rfl rfl (r_pickF (v := .bool false) rfl rfl) ?_
     refine l_nil ?_
     refine c_false rfl ?_
     refine c_skip ?_
     refine c_close () () 0 [] (by exact ⟨rfl, rfl, rfl, rfl, rfl, trivial⟩) (by decide) rfl (by exact ⟨H29, trivial⟩) (Nat.lt_succ_self _)
  ·rintro _ _ gg H18 _
   replace H18 : face_checkIds_j2 x11_2 next1 = some r := H18
   refine c_tidyF [(0, v0), (1, v1), (9, v1), (10, .int .i64 (a1.length : Int)), (11, .int .i64 x11_2)] [] rfl rfl ?_
   refine c_region ?_
   obtain ⟨t35, h_t35, H19⟩ := bnd_some H18; clear H18
   refine l_val rfl rfl rfl (r_addG rfl rfl h_t35) ?_
   refine l_val rfl rfl rfl (r_move (v := .int .i64 t35) rfl) ?_
   refine l_nil ?_
   refine c_close t35 () m1 [] (by exact ⟨rfl, rfl, rfl, rfl, rfl, trivial⟩) (by decide) rfl (by exact ⟨(by subst hn1; exact H19), trivial⟩) (Nat.lt_succ_self _)
 ·have H30 := cnd_f hb H16; clear H16
  refine c_exit ?_
  refine c_seq ?_
  refine c_region ?_
  refine l_val rfl rfl rfl (r_assign (v := .int .i64 0) rfl) ?_
  refine l_nil ?_
  refine c_ret ?_
  obtain rfl := Option.some.inj H30
  refine ret1 (v := .int .i64 0) rfl rfl (fin rfl)
theorem k80 {a0 : Int} {r : Bool} (H : cmp_isNaN_int a0 = some r) : Ret Tryz.prog 80 [.int .i64 a0] (.bool r) := by
 refine enterRet (n := 6) Tryz.func80 rfl rfl rfl (fun wd => ?_)
 refine c_seq ?_
 refine c_region ?_
 refine l_val rfl rfl rfl (r_assign (v := .bool false) rfl) ?_
 refine l_nil ?_
 refine c_seq ?_
 refine c_region ?_
 refine l_val rfl rfl rfl (r_move (v := .int .i64 a0) rfl) ?_
 refine l_val rfl rfl rfl (r_move (v := .int .i64 a0) rfl) ?_
 refine l_val rfl rfl rfl (r_neq rfl rfl) ?_
 refine l_val rfl rfl rfl (r_assign (v := .bool (decide (a0 ≠ a0))) rfl) ?_
 refine l_nil ?_
 refine c_ret ?_
 obtain rfl := Option.some.inj H
 refine ret1 (v := .bool (decide (a0 ≠ a0))) rfl rfl (fin rfl)
theorem k133 {a0 : Int} {a1 : Int} {r : Bool} (H : cmp_Less_int a0 a1 = some r) : Ret Tryz.prog 133 [.int .i64 a0, .int .i64 a1] (.bool r) := by
 refine enterRet (n := 17) Tryz.func133 rfl rfl rfl (fun wd => ?_)
 refine c_seq ?_
 refine c_region ?_
 refine l_val rfl rfl rfl (r_assign (v := .bool false) rfl) ?_
 refine l_nil ?_
 refine c_seq ?_
 refine c_region ?_
 refine l_val rfl rfl rfl (r_move (v := .int .i64 a0) rfl) ?_
 obtain ⟨t6, h_t6, H7⟩ := bnd_some H; clear H
 refine l_call (k80 h_t6) Tryz.call80 rfl rfl rfl ?_
 refine l_val rfl rfl rfl (r_move (v := .bool t6) rfl) ?_
 refine split (fun hb => ?_) (fun hb => ?_)
 ·have H8 := cnd_t hb H7; clear H7
  refine l_val rfl rfl rfl (r_move (v := .int .i64 a1) rfl) ?_
  obtain ⟨t9, h_t9, H9⟩ := bnd_some H8; clear H8
  refine l_call (k80 h_t9) Tryz.call80 rfl rfl rfl ?_
  refine l_val rfl rfl rfl (r_not rfl) ?_
  refine l_val rfl rfl rfl (r_pickT (v := .bool (!t9)) rfl rfl) ?_
  refine l_val rfl rfl rfl (r_move (v := .bool (!t9)) rfl) ?_
  refine split (fun hb => ?_) (fun hb => ?_)
  ·have H10 := cnd_t hb H9; clear H9
   refine l_passed rfl rfl rfl ?_
   refine l_passed rfl rfl rfl ?_
   refine l_passed rfl rfl rfl ?_
   refine l_val rfl rfl rfl (r_pickT (v := .bool true) rfl rfl) ?_
   refine l_val rfl rfl rfl (r_assign (v := .bool true) rfl) ?_
   refine l_nil ?_
   refine c_ret ?_
   obtain rfl := Option.some.inj H10
   refine ret1 (v := .bool true) rfl rfl (fin rfl)
  ·have H11 := cnd_f hb H9; clear H9
   refine l_val rfl rfl rfl (r_move (v := .int .i64 a0) rfl) ?_
   refine l_val rfl rfl rfl (r_move (v := .int .i64 a1) rfl) ?_
   refine l_val rfl rfl rfl (r_lss rfl rfl) ?_
   refine l_val rfl rfl rfl (r_pickF (v := .bool (decide (a0 < a1))) rfl rfl) ?_
   refine l_val rfl rfl rfl (r_assign (v := .bool (decide (a0 < a1))) rfl) ?_
   refine l_nil ?_
   refine c_ret ?_
   obtain rfl := Option.some.inj H11
   refine ret1 (v := .bool (decide (a0 < a1))) rfl rfl (fin rfl)
 ·have H12 := cnd_f hb H7; clear H7
  refine l_passed rfl rfl rfl ?_
  refine l_passed rfl rfl rfl ?_
  refine l_passed rfl rfl rfl ?_
  refine l_val rfl rfl rfl (r_pickF (v := .bool false) rfl rfl) ?_
  refine l_val rfl rfl rfl (r_move (v := .bool false) rfl) ?_
  refine l_val rfl rfl rfl (r_move (v := .int .i64 a0) rfl) ?_
  refine l_val rfl rfl rfl (r_move (v := .int .i64 a1) rfl) ?_
  refine l_val rfl rfl rfl (r_lss rfl rfl) ?_
  refine l_val rfl rfl rfl (r_pickF (v := .bool (decide (a0 < a1))) rfl rfl) ?_
  refine l_val rfl rfl rfl (r_assign (v := .bool (decide (a0 < a1))) rfl) ?_
  refine l_nil ?_
  refine c_ret ?_
  obtain rfl := Option.some.inj H12
  refine ret1 (v := .bool (decide (a0 < a1))) rfl rfl (fin rfl)
theorem k134 {a0 : Int} {r : Bool} (H : slices_isNaN_int a0 = some r) : Ret Tryz.prog 134 [.int .i64 a0] (.bool r) := by
 refine enterRet (n := 6) Tryz.func134 rfl rfl rfl (fun wd => ?_)
 refine c_seq ?_
 refine c_region ?_
 refine l_val rfl rfl rfl (r_assign (v := .bool false) rfl) ?_
 refine l_nil ?_
 refine c_seq ?_
 refine c_region ?_
 refine l_val rfl rfl rfl (r_move (v := .int .i64 a0) rfl) ?_
 refine l_val rfl rfl rfl (r_move (v := .int .i64 a0) rfl) ?_
 refine l_val rfl rfl rfl (r_neq rfl rfl) ?_
 refine l_val rfl rfl rfl (r_assign (v := .bool (decide (a0 ≠ a0))) rfl) ?_
 refine l_nil ?_
 refine c_ret ?_
 obtain rfl := Option.some.inj H
 refine ret1 (v := .bool (decide (a0 ≠ a0))) rfl rfl (fin rfl)
theorem k103 {a0 : (List Int)} {v0 : Value} {a1 : Int} {r : Int × Bool} {w : World} {h : Heap} (hw : Know h w noS) (f0 : FrS h 1 v0 (a0.map e_i64)) (H : slices_BinarySearch_int a0 a1 = some r) : Does Tryz.prog 103 (List.toArray [v0, .int .i64 a1]) w (fun v w' => v = (.tuple #[.int .i64 r.1, .bool r.2]) ∧ Grow w w') := by
 refine enter (n := 54) Tryz.func103 rfl rfl rfl noS [] (Sat.nil _ _) ?_
 refine c_seq ?_
 refine c_region ?_
 refine l_val rfl rfl rfl (r_assign (v := .int .i64 0) rfl) ?_
 refine l_val rfl rfl rfl (r_assign (v := .bool false) rfl) ?_
 refine l_nil ?_
 refine c_seq ?_
 refine c_region ?_
 refine l_val rfl rfl rfl (r_move (v := v0) rfl) ?_
 refine l_val rfl rfl rfl (r_lenF Tryz.underlying24 rfl f0 rfl) ?_
 refine l_val rfl rfl rfl (r_assign (v := .int .i64 (a0.length : Int)) rfl) ?_
 refine l_nil ?_
 refine c_seq ?_
 refine c_region ?_
 refine l_val rfl rfl rfl (r_move (v := .int .i64 (a0.length : Int)) rfl) ?_
 refine l_val rfl rfl rfl (r_assign (v := .int .i64 0) rfl) ?_
 refine l_val rfl rfl rfl (r_assign (v := .int .i64 (a0.length : Int)) rfl) ?_
 refine l_nil ?_
 refine c_meet (r := r) (σ := Int) (τ := Unit) (fun s => slices_BinarySearch_int_j1 a0 a1 s) (fun s t => [(0, v0), (1, .int .i64 a1), (6, .int .i64 (a0.length : Int)), (7, .int .i64 s)]) (fun s t => []) (fun s t => True) ?_ ?_
 ·refine c_block ?_
  refine c_fix (σ := Int × Int) (τ := Unit) (fun next2 s => slices_BinarySearch_int_l2 a0 a1 next2 s.1 s.2) (fun s t => [(0, v0), (1, .int .i64 a1), (6, .int .i64 (a0.length : Int)), (7, .int .i64 s.1), (8, .int .i64 s.2)]) (fun s t => []) (fun s t => True) (0, (a0.length : Int)) () [] H (by exact trivial) (by exact ⟨rfl, rfl, rfl, rfl, rfl, trivial⟩) (by decide) rfl ?_
  rintro ⟨x7_3, x8_2⟩ _ m2 gg H33 _
  clear H
  replace H33 : slices_BinarySearch_int_l2 a0 a1 (it (fun next2 s => slices_BinarySearch_int_l2 a0 a1 next2 s.1 s.2) m2) x7_3 x8_2 = some r := H33
  generalize hn2 : it (fun next2 s => slices_BinarySearch_int_l2 a0 a1 next2 s.1 s.2) m2 = next2 at H33
  refine c_tidyF [(0, v0), (1, .int .i64 a1), (6, .int .i64 (a0.length : Int)), (7, .int .i64 x7_3), (8, .int .i64 x8_2)] [] rfl rfl ?_
  refine c_seq ?_
  refine c_seq ?_
  refine c_region ?_
  refine l_val rfl rfl rfl (r_move (v := .int .i64 x7_3) rfl) ?_
  refine l_val rfl rfl rfl (r_move (v := .int .i64 x8_2) rfl) ?_
  refine l_val rfl rfl rfl (r_lss rfl rfl) ?_
  refine l_nil ?_
  refine c_if (b := (decide (x7_3 < x8_2))) rfl (fun hb => ?_) (fun hb => ?_)
  ·have H34 := cnd_t hb H33; clear H33
   refine c_skip ?_
   refine c_block ?_
   refine c_seq ?_
   refine c_region ?_
   refine l_val rfl rfl rfl (r_move (v := .int .i64 x7_3) rfl) ?_
   refine l_val rfl rfl rfl (r_move (v := .int .i64 x8_2) rfl) ?_
   obtain ⟨t18, h_t18, H35⟩ := bnd_some H34; clear H34
   refine l_val rfl rfl rfl (r_addG rfl rfl h_t18) ?_
   refine l_val rfl rfl rfl (r_convG Tryz.runUnderlying3 Tryz.runUnderlying106 rfl (wr_u64 _)) ?_
   obtain ⟨t20, h_t20, H36⟩ := bnd_some H35; clear H35
   refine l_val rfl rfl rfl (r_shrG rfl rfl rfl h_t20) ?_
   refine l_val rfl rfl rfl (r_convG Tryz.runUnderlying106 Tryz.runUnderlying3 rfl (wr_i64 _)) ?_
   refine l_val rfl rfl rfl (r_assign (v := .int .i64 (wI64 t20)) rfl) ?_
   refine l_nil ?_
   refine c_seq ?_
   refine c_region ?_
   refine l_val rfl rfl rfl (r_move (v := v0) rfl) ?_
   refine l_val rfl rfl rfl (r_move (v := .int .i64 (wI64 t20)) rfl) ?_
   obtain ⟨t24, h_t24, H37⟩ := bnd_some H36; clear H36
   refine l_val rfl rfl rfl (r_indexF Tryz.underlying24 Tryz.sizeOf3 rfl rfl f0 h_t24) ?_
   refine l_read (fun w hF hS => run_loadG1 (f := e_i64) (i := (wI64 t20)) (sz := 1) (j := 0) (v := .int .i64 t24) Tryz.isAgg3 rfl rfl (f0.row (hw.now hF)) h_t24 rfl) rfl rfl rfl ?_
   refine l_val rfl rfl rfl (r_move (v := .int .i64 a1) rfl) ?_
   obtain ⟨t27, h_t27, H38⟩ := bnd_some H37; clear H37
   refine l_call (k133 h_t27) Tryz.call133 rfl rfl rfl ?_
   refine l_nil ?_
   refine c_if (b := t27) rfl (fun hb => ?_) (fun hb => ?_)
   ·have H39 := cnd_t hb H38; clear H38
    refine c_region ?_
    refine l_val rfl rfl rfl (r_move (v := .int .i64 (wI64 t20)) rfl) ?_
    obtain ⟨t29, h_t29, H40⟩ := bnd_some H39; clear H39
    refine l_val rfl rfl rfl (r_addG rfl rfl h_t29) ?_
    refine l_val rfl rfl rfl (r_assign (v := .int .i64 t29) rfl) ?_
    refine l_nil ?_
    refine c_close (t29, x8_2) () m2 [] (by exact ⟨rfl, rfl, rfl, rfl, rfl, trivial⟩) (by decide) rfl (by exact ⟨(by subst hn2; exact H40), trivial⟩) (Nat.lt_succ_self _)
   ·have H41 := cnd_f hb H38; clear H38
    refine c_region ?_
    refine l_val rfl rfl rfl (r_move (v := .int .i64 (wI64 t20)) rfl) ?_
    refine l_val rfl rfl rfl (r_assign (v := .int .i64 (wI64 t20)) rfl) ?_
    refine l_nil ?_
    refine c_close (x7_3, (wI64 t20)) () m2 [] (by exact ⟨rfl, rfl, rfl, rfl, rfl, trivial⟩) (by decide) rfl (by exact ⟨(by subst hn2; exact H41), trivial⟩) (Nat.lt_succ_self _)
  ·have H42 := cnd_f hb H33; clear H33
   refine c_exit ?_
   refine c_close x7_3 () 0 [] (by exact ⟨rfl, rfl, rfl, rfl, trivial⟩) (by decide) rfl (by exact ⟨H42, trivial⟩) (Nat.lt_succ_self _)
 ·rintro x7 _ gg H22 _
  replace H22 : slices_BinarySearch_int_j1 a0 a1 x7 = some r := H22
  refine c_tidyF [(0, v0), (1, .int .i64 a1), (6, .int .i64 (a0.length : Int)), (7, .int .i64 x7)] [] rfl rfl ?_
  refine c_seq ?_
  refine c_region ?_
  refine l_val rfl rfl rfl (r_move (v := .int .i64 x7) rfl) ?_
  refine l_val rfl rfl rfl (r_move (v := .int .i64 x7) rfl) ?_
  refine l_val rfl rfl rfl (r_move (v := .int .i64 (a0.length : Int)) rfl) ?_
  refine l_val rfl rfl rfl (r_lss rfl rfl) ?_
  refine l_val rfl rfl rfl (r_move (v := .bool (decide (x7 < (a0.length : Int)))) rfl) ?_
  refine split (fun hb => ?_) (fun hb => ?_)
  ·have H23 := cnd_t hb H22; clear H22
   refine l_val rfl rfl rfl (r_move (v := v0) rfl) ?_
   refine l_val rfl rfl rfl (r_move (v := .int .i64 x7) rfl) ?_
   obtain ⟨t38, h_t38, H24⟩ := bnd_some H23; clear H23
   refine l_val rfl rfl rfl (r_indexF Tryz.underlying24 Tryz.sizeOf3 rfl rfl f0 h_t38) ?_
   refine l_read (fun w hF hS => run_loadG1 (f := e_i64) (i := x7) (sz := 1) (j := 0) (v := .int .i64 t38) Tryz.isAgg3 rfl rfl (f0.row (hw.now hF)) h_t38 rfl) rfl rfl rfl ?_
   refine l_val rfl rfl rfl (r_move (v := .int .i64 a1) rfl) ?_
   refine l_val rfl rfl rfl (r_eql rfl rfl) ?_
   refine l_val rfl rfl rfl (r_move (v := .bool (decide (t38 = a1))) rfl) ?_
   refine split (fun hb => ?_) (fun hb => ?_)
   ·have H25 := cnd_t hb H24; clear H24
    refine l_passed rfl rfl rfl ?_
    refine l_passed rfl rfl rfl ?_
    refine l_passed rfl rfl rfl ?_
    refine l_passed rfl rfl rfl ?_
    refine l_passed rfl rfl rfl ?_
    refine l_passed rfl rfl rfl ?_
    refine l_passed rfl rfl rfl ?_
    refine l_passed rfl rfl rfl ?_
    refine l_passed rfl rfl rfl ?_
    refine l_val rfl rfl rfl (r_pickT (v := .bool true) rfl rfl) ?_
    refine l_val rfl rfl rfl (r_pickT (v := .bool true) rfl rfl) ?_
    refine l_val rfl rfl rfl (r_assign (v := .int .i64 x7) rfl) ?_
    refine l_val rfl rfl rfl (r_assign (v := .bool true) rfl) ?_
    refine l_nil ?_
    refine c_ret ?_
    obtain rfl := Option.some.inj H25
    refine ret2 (v1 := .int .i64 x7) (v2 := .bool true) rfl rfl rfl (fin rfl)
   ·have H26 := cnd_f hb H24; clear H24
    refine l_val rfl rfl rfl (r_move (v := v0) rfl) ?_
    refine l_val rfl rfl rfl (r_move (v := .int .i64 x7) rfl) ?_
    obtain ⟨t45, h_t45, H27⟩ := bnd_some H26; clear H26
    refine l_val rfl rfl rfl (r_indexF Tryz.underlying24 Tryz.sizeOf3 rfl rfl f0 h_t45) ?_
    refine l_read (fun w hF hS => run_loadG1 (f := e_i64) (i := x7) (sz := 1) (j := 0) (v := .int .i64 t45) Tryz.isAgg3 rfl rfl (f0.row (hw.now hF)) h_t45 rfl) rfl rfl rfl ?_
    obtain ⟨t47, h_t47, H28⟩ := bnd_some H27; clear H27
    refine l_call (k134 h_t47) Tryz.call134 rfl rfl rfl ?_
    refine l_val rfl rfl rfl (r_move (v := .bool t47) rfl) ?_
    refine split (fun hb => ?_) (fun hb => ?_)
    ·have H29 := cnd_t hb H28; clear H28
     refine l_val rfl rfl rfl (r_move (v := .int .i64 a1) rfl) ?_
     obtain ⟨t50, h_t50, H30⟩ := bnd_some H29; clear H29
     refine l_call (k134 h_t50) Tryz.call134 rfl rfl rfl ?_
     refine l_val rfl rfl rfl (r_pickT (v := .bool t50) rfl rfl) ?_
     refine l_val rfl rfl rfl (r_pickF (v := .bool t50) rfl rfl) ?_
     refine l_val rfl rfl rfl (r_pickT (v := .bool t50) rfl rfl) ?_
     refine l_val rfl rfl rfl (r_assign (v := .int .i64 x7) rfl) ?_
     refine l_val rfl rfl rfl (r_assign (v := .bool t50) rfl) ?_
     refine l_nil ?_
     refine c_ret ?_
     obtain rfl := Option.some.inj H30
     refine ret2 (v1 := .int .i64 x7) (v2 := .bool t50) rfl rfl rfl (fin rfl)
    ·have H31 := cnd_f hb H28; clear H28
     refine l_passed rfl rfl rfl ?_
     refine l_passed rfl rfl rfl ?_
     refine l_val rfl rfl rfl (r_pickF (v := .bool false) rfl rfl) ?_
     refine l_val rfl rfl rfl (r_pickF (v := .bool false) rfl rfl) ?_
     refine l_val rfl rfl rfl (r_pickT (v := .bool false) rfl rfl) ?_
     refine l_val rfl rfl rfl (r_assign (v := .int .i64 x7) rfl) ?_
     refine l_val rfl rfl rfl (r_assign (v := .bool false) rfl) ?_
     refine l_nil ?_
     refine c_ret ?_
     obtain rfl := Option.some.inj H31
     refine ret2 (v1 := .int .i64 x7) (v2 := .bool false) rfl rfl rfl (fin rfl)
  ·have H32 := cnd_f hb H22; clear H22
   refine l_passed rfl rfl rfl ?_
   refine l_passed rfl rfl rfl ?_
   refine l_passed rfl rfl rfl ?_
   refine l_passed rfl rfl rfl ?_
   refine l_passed rfl rfl rfl ?_
   refine l_passed rfl rfl rfl ?_
   refine l_passed rfl rfl rfl ?_
   refine l_passed rfl rfl rfl ?_
   refine l_passed rfl rfl rfl ?_
   refine l_passed rfl rfl rfl ?_
   refine l_passed rfl rfl rfl ?_
   refine l_passed rfl rfl rfl ?_
   refine l_passed rfl rfl rfl ?_
   refine l_passed rfl rfl rfl ?_
   refine l_passed rfl rfl rfl ?_
   refine l_passed rfl rfl rfl ?_
   refine l_passed rfl rfl rfl ?_
   refine l_val rfl rfl rfl (r_pickF (v := .bool false) rfl rfl) ?_
   refine l_val rfl rfl rfl (r_assign (v := .int .i64 x7) rfl) ?_
   refine l_val rfl rfl rfl (r_assign (v := .bool false) rfl) ?_
   refine l_nil ?_
   refine c_ret ?_
   obtain rfl := Option.some.inj H32
   refine ret2 (v1 := .int .i64 x7) (v2 := .bool false) rfl rfl rfl (fin rfl)
theorem k55 {a0 : (List Int)} {v0 : Value} {a1 : Int} {r : Bool} {w : World} {h : Heap} (hw : Know h w noS) (f0 : FrS h 1 v0 (a0.map e_i64)) (H : face_contains a0 a1 = some r) : Does Tryz.prog 55 (List.toArray [v0, .int .i64 a1]) w (fun v w' => v = (.bool r) ∧ Grow w w') := by
 refine enter (n := 14) Tryz.func55 rfl rfl rfl noS [] (Sat.nil _ _) ?_
 refine c_seq ?_
 refine c_region ?_
 refine l_val rfl rfl rfl (r_assign (v := .bool false) rfl) ?_
 refine l_nil ?_
 refine c_seq ?_
 refine c_region ?_
 refine l_val rfl rfl rfl (r_move (v := v0) rfl) ?_
 refine l_val rfl rfl rfl (r_move (v := .int .i64 a1) rfl) ?_
 obtain ⟨t10, h_t10, H2⟩ := bnd_some H; clear H
 refine l_callG (fun w hF hS => k103 (know_all w) (f0.mono (hw.now hF)) h_t10) Tryz.call103 rfl rfl rfl ?_
 refine l_val rfl rfl rfl (r_move (v := .tuple #[.int .i64 t10.1, .bool t10.2]) rfl) ?_
 refine l_val rfl rfl rfl (r_extract (v := .int .i64 t10.1) rfl rfl) ?_
 refine l_val rfl rfl rfl (r_extract (v := .bool t10.2) rfl rfl) ?_
 refine l_val rfl rfl rfl (r_assign (v := .int .i64 t10.1) rfl) ?_
 refine l_val rfl rfl rfl (r_assign (v := .bool t10.2) rfl) ?_
 refine l_nil ?_
 refine c_seq ?_
 refine c_region ?_
 refine l_val rfl rfl rfl (r_move (v := .bool t10.2) rfl) ?_
 refine l_val rfl rfl rfl (r_assign (v := .bool t10.2) rfl) ?_
 refine l_nil ?_
 refine c_ret ?_
 obtain rfl := Option.some.inj H2
 refine ret1 (v := .bool t10.2) rfl rfl (fin rfl)
theorem k92 {q0 : T_face_Person} {vq0_2 : Value} {vq0_3 : Value} {c0 : Nat} {a0 : Int} {r : Bool} {w : World} {h : Heap} (hw : Know h w noS) (fq0_2 : FrS h 1 vq0_2 (q0.Likes.map e_i64)) (fq0_3 : FrS h 1 vq0_3 (q0.Nots.map e_i64)) (hc0 : h c0 = some (.cells (List.toArray [.int .i64 q0.Id, str q0.Name, vq0_2, vq0_3]) 32 (0, 0))) (H : face_checkPerson_1 q0 a0 = some r) : Does Tryz.prog 92 (List.toArray [.int .i64 a0, .pointer (some ⟨c0, 0, none⟩)]) w (fun v w' => v = (.bool r) ∧ Grow w w') := by
 refine enter (n := 8) Tryz.func92 rfl rfl rfl noS [] (Sat.nil _ _) ?_
 refine c_seq ?_
 refine c_region ?_
 refine l_val rfl rfl rfl (r_assign (v := .bool false) rfl) ?_
 refine l_nil ?_
 refine c_seq ?_
 refine c_region ?_
 refine l_val rfl rfl rfl (r_field Tryz.runUnderlying32 rfl Tryz.sizeOf24 rfl rfl) ?_
 refine l_read (fun w hF hS => run_loadK1 (v := vq0_3) Tryz.isAgg24 rfl (hw.now hF _ _ hc0) rfl) rfl rfl rfl ?_
 refine l_val rfl rfl rfl (r_move (v := .int .i64 a0) rfl) ?_
 obtain ⟨t7, h_t7, H2⟩ := bnd_some H; clear H
 refine l_callG (fun w hF hS => k55 (know_all w) (fq0_3.mono (hw.now hF)) h_t7) Tryz.call55 rfl rfl rfl ?_
 refine l_val rfl rfl rfl (r_assign (v := .bool t7) rfl) ?_
 refine l_nil ?_
 refine c_ret ?_
 obtain rfl := Option.some.inj H2
 refine ret1 (v := .bool t7) rfl rfl (fin rfl)
theorem k38 {a0 : (List T_face_Likeness)} {v0 : Value} {a1 : T_face_Person} {v1_2 : Value} {v1_3 : Value} {r : Int} {w : World} {h : Heap} (hw : Know h w noS) (f0 : FrS h 14 v0 (a0.map e_face_Likeness)) (f1_2 : FrS h 1 v1_2 (a1.Likes.map e_i64)) (f1_3 : FrS h 1 v1_3 (a1.Nots.map e_i64)) (H : face_checkPerson a0 a1 = some r) : Does Tryz.prog 38 (List.toArray [v0, .agg #[.int .i64 a1.Id, str a1.Name, v1_2, v1_3]]) w (fun v w' => v = (.int .i64 r) ∧ Grow w w') := by
 refine enter (n := 33) Tryz.func38 rfl rfl rfl noS [] (Sat.nil _ _) ?_
 refine c_seq ?_
 refine c_region ?_
 refine l_box (cs := [.int .i64 a1.Id, str a1.Name, v1_2, v1_3]) rfl rfl rfl rfl (fun b2 => ?_)
 refine l_val rfl rfl rfl (r_assign (v := .int .i64 0) rfl) ?_
 refine l_nil ?_
 refine c_seq ?_
 refine c_seq ?_
 refine c_region ?_
 refine l_val rfl rfl rfl (r_field Tryz.runUnderlying32 rfl Tryz.sizeOf9 rfl rfl) ?_
 refine l_load1 (i := 0) (v := str a1.Name) Tryz.isAgg9 rfl rfl rfl rfl rfl ?_
 obtain ⟨t10, h_t10, H16⟩ := bnd_some H; clear H
 refine l_call (k90 h_t10) Tryz.call90 rfl rfl rfl ?_
 refine l_val rfl rfl rfl (r_not rfl) ?_
 refine l_nil ?_
 refine c_if (b := (!t10)) rfl (fun hb => ?_) (fun hb => ?_)
 ·have H17 := cnd_t hb H16; clear H16
  refine c_seq ?_
  refine c_region ?_
  refine l_val rfl rfl rfl (r_assign (v := .int .i64 3) rfl) ?_
  refine l_nil ?_
  refine c_ret ?_
  obtain rfl := Option.some.inj H17
  refine ret1 (v := .int .i64 3) rfl rfl (fin rfl)
 ·have H18 := cnd_f hb H16; clear H16
  refine c_skip ?_
  refine c_meet (r := r) (σ := Unit) (τ := Unit) (fun s => face_checkPerson_j1 a1) (fun s t => [(3, .pointer (some ⟨b2, 0, none⟩))]) (fun s t => [cellsC b2 [.int .i64 a1.Id, str a1.Name, v1_2, v1_3] 32]) (fun s t => True) ?_ ?_
  ·refine c_seq ?_
   refine c_region ?_
   refine l_val rfl rfl rfl (r_field Tryz.runUnderlying32 rfl Tryz.sizeOf24 rfl rfl) ?_
   refine l_load1 (i := 0) (v := v1_2) Tryz.isAgg24 rfl rfl rfl rfl rfl ?_
   refine l_val rfl rfl rfl (r_field Tryz.runUnderlying32 rfl Tryz.sizeOf24 rfl rfl) ?_
   refine l_load1 (i := 0) (v := v1_3) Tryz.isAgg24 rfl rfl rfl rfl rfl ?_
   refine l_buildSlice (vs := [v1_2, v1_3]) (cs := [v1_2, v1_3]) Tryz.underlying81 Tryz.sizeOf24 Tryz.zeroValue24 rfl rfl rfl rfl (by simp only [List.all_cons, List.all_nil, cells_sz f1_2.cells, cells_sz f1_3.cells] <;> rfl) rfl (by simp only [List.flatMap_cons, List.flatMap_nil, f1_2.cells, f1_3.cells] <;> rfl) (fun b3 => ?_)
   refine l_val rfl rfl rfl (r_len Tryz.underlying81 rfl) ?_
   refine l_val rfl rfl rfl (r_move (v := .int .i64 0) rfl) ?_
   refine l_nil ?_
   refine c_block ?_
   refine c_fix (σ := Int) (τ := Unit) (fun next2 s => face_checkPerson_l2 a0 a1 next2 s) (fun s t => [(0, v0), (3, .pointer (some ⟨b2, 0, none⟩)), (16, .slice (some ⟨b3, 0, none⟩) 2 2), (17, .int .i64 2), (18, .int .i64 s)]) (fun s t => [cellsC b2 [.int .i64 a1.Id, str a1.Name, v1_2, v1_3] 32, cellsC b3 [v1_2, v1_3] 24]) (fun s t => True) 0 () [0, 1] H18 (by exact trivial) (by exact ⟨rfl, rfl, rfl, rfl, rfl, trivial⟩) (by decide) rfl ?_
   rintro x18_2 _ m2 gg H23 _
   clear H18
   replace H23 : face_checkPerson_l2 a0 a1 (it (fun next2 s => face_checkPerson_l2 a0 a1 next2 s) m2) x18_2 = some r := H23
   generalize hn2 : it (fun next2 s => face_checkPerson_l2 a0 a1 next2 s) m2 = next2 at H23
   refine c_tidyF [(0, v0), (3, .pointer (some ⟨b2, 0, none⟩)), (16, .slice (some ⟨b3, 0, none⟩) 2 2), (17, .int .i64 2), (18, .int .i64 x18_2)] [cellsC b2 [.int .i64 a1.Id, str a1.Name, v1_2, v1_3] 32, cellsC b3 [v1_2, v1_3] 24] rfl rfl ?_
   refine c_seq ?_
   refine c_region ?_
   refine l_val rfl rfl rfl (r_lss rfl rfl) ?_
   refine l_nil ?_
   refine c_seq ?_
   refine c_if (b := (decide (x18_2 < 2))) rfl (fun hb => ?_) (fun hb => ?_)
   ·have H24 := cnd_t hb H23; clear H23
    refine c_skip ?_
    refine c_seq ?_
    refine c_block ?_
    refine c_seq ?_
    refine c_region ?_
    obtain ⟨t20, h_t20, H25⟩ := bnd_some H24; clear H24
    refine l_val rfl rfl rfl (r_indexS Tryz.underlying81 Tryz.sizeOf24 rfl rfl h_t20 rfl) ?_
    refine l_read (fun w hF hS => run_loadG1 (f := (litC [v1_2, v1_3] 1)) (i := x18_2) (sz := 1) (j := 0) (v := (List.getD (List.take 1 (List.drop ((Int.toNat x18_2) * 1) [v1_2, v1_3])) 0 undef)) Tryz.isAgg24 rfl rfl (row_box (sz := 1) (xs := (List.range 2).map (litC [v1_2, v1_3] 1)) (i := 1) hS rfl rfl rfl) (gAt_range h_t20) (rg_of (cgs_int (AllG.el (G := gs_int) (h := h) (sz := 1) (cs := [v1_2, v1_3]) (xs := ([a1.Likes, a1.Nots] : List (List Int))) ⟨f1_2, f1_3, rfl⟩ _ _ (gAt_some h_t20).2.2)) rfl)) rfl rfl rfl ?_
    refine l_val rfl rfl rfl (r_assign (v := (List.getD (List.take 1 (List.drop ((Int.toNat x18_2) * 1) [v1_2, v1_3])) 0 undef)) rfl) ?_
    refine l_nil ?_
    refine c_seq ?_
    refine c_region ?_
    refine l_val rfl rfl rfl (r_move (v := v0) rfl) ?_
    refine l_val rfl rfl rfl (r_move (v := (List.getD (List.take 1 (List.drop ((Int.toNat x18_2) * 1) [v1_2, v1_3])) 0 undef)) rfl) ?_
    obtain ⟨t24, h_t24, H26⟩ := bnd_some H25; clear H25
    refine l_callG (fun w hF hS => k91 (know_all w) (f0.mono (hw.now hF)) ((show FrS h 1 (List.getD (List.take 1 (List.drop ((Int.toNat x18_2) * 1) [v1_2, v1_3])) 0 undef) (t20.map e_i64) from (AllG.el (G := gs_int) (h := h) (sz := 1) (cs := [v1_2, v1_3]) (xs := ([a1.Likes, a1.Nots] : List (List Int))) ⟨f1_2, f1_3, rfl⟩ _ _ (gAt_some h_t20).2.2)).mono (hw.now hF)) h_t24) Tryz.call91 rfl rfl rfl ?_
    refine l_val rfl rfl rfl (r_assign (v := .int .i64 t24) rfl) ?_
    refine l_nil ?_
    refine c_seq ?_
    refine c_region ?_
    refine l_val rfl rfl rfl (r_move (v := .int .i64 t24) rfl) ?_
    refine l_val rfl rfl rfl (r_neq rfl rfl) ?_
    refine l_nil ?_
    refine c_if (b := (decide (t24 ≠ 0))) rfl (fun hb => ?_) (fun hb => ?_)
    ·have H27 := cnd_t hb H26; clear H26
     refine c_seq ?_
     refine c_region ?_
     refine l_val rfl rfl rfl (r_move (v := .int .i64 t24) rfl) ?_
     refine l_val rfl rfl rfl (r_assign (v := .int .i64 t24) rfl) ?_
     refine l_nil ?_
     refine c_ret ?_
     obtain rfl := Option.some.inj H27
     refine ret1 (v := .int .i64 t24) rfl rfl (fin rfl)
    ·have H28 := cnd_f hb H26; clear H26
     refine c_skip ?_
     refine c_region ?_
     obtain ⟨t28, h_t28, H29⟩ := bnd_some H28; clear H28
     refine l_val rfl rfl rfl (r_addG rfl rfl h_t28) ?_
     refine l_val rfl rfl rfl (r_move (v := .int .i64 t28) rfl) ?_
     refine l_nil ?_
     refine c_close t28 () m2 [0, 1] (by exact ⟨rfl, rfl, rfl, rfl, rfl, trivial⟩) (by decide) rfl (by exact ⟨(by subst hn2; exact H29), trivial⟩) (Nat.lt_succ_self _)
   ·have H30 := cnd_f hb H23; clear H23
    refine c_exit ?_
    refine c_close () () 0 [0] (by exact ⟨rfl, trivial⟩) (by decide) rfl (by exact ⟨H30, trivial⟩) (Nat.lt_succ_self _)
  ·rintro _ _ gg H19 _
   replace H19 : face_checkPerson_j1 a1 = some r := H19
   refine c_tidyF [(3, .pointer (some ⟨b2, 0, none⟩))] [cellsC b2 [.int .i64 a1.Id, str a1.Name, v1_2, v1_3] 32] rfl rfl ?_
   refine c_seq ?_
   refine c_seq ?_
   refine c_region ?_
   refine l_val rfl rfl rfl (r_field Tryz.runUnderlying32 rfl Tryz.sizeOf24 rfl rfl) ?_
   refine l_load1 (i := 0) (v := v1_2) Tryz.isAgg24 rfl rfl rfl rfl rfl ?_
   refine l_val rfl rfl rfl (r_makeFn (caps := #[.pointer (some ⟨b2, 0, none⟩)]) rfl) ?_
   obtain ⟨t32, h_t32, H20⟩ := bnd_some H19; clear H19
   refine l_callG (fun w hF hS => k40 (know_all w) (f1_2.mono (hw.now hF)) (FnH.mk ⟨92, #[], #[.pointer (some ⟨b2, 0, none⟩)], rfl, Tryz.call92, fun args2 post2 w2 hk2 hR2 => by obtain ⟨a0_, r_, rfl, H_, rfl⟩ := hR2; exact k92 (know_all w2) ((f1_2.mono (hw.now hF)).mono hk2.up) ((f1_3.mono (hw.now hF)).mono hk2.up) (hk2.up _ _ (sat_cell (i := 0) hS rfl)) H_⟩) h_t32) Tryz.call40 rfl rfl rfl ?_
   refine l_nil ?_
   refine c_if (b := t32) rfl (fun hb => ?_) (fun hb => ?_)
   ·have H21 := cnd_t hb H20; clear H20
    refine c_seq ?_
    refine c_region ?_
    refine l_val rfl rfl rfl (r_assign (v := .int .i64 11) rfl) ?_
    refine l_nil ?_
    refine c_ret ?_
    obtain rfl := Option.some.inj H21
    refine ret1 (v := .int .i64 11) rfl rfl (fin rfl)
   ·have H22 := cnd_f hb H20; clear H20
    refine c_skip ?_
    refine c_seq ?_
    refine c_region ?_
    refine l_val rfl rfl rfl (r_assign (v := .int .i64 0) rfl) ?_
    refine l_nil ?_
    refine c_ret ?_
    obtain rfl := Option.some.inj H22
    refine ret1 (v := .int .i64 0) rfl rfl (fin rfl)
theorem k84 {a0 : (List T_face_Likeness)} {v0 : Value} {a1 : Int} {r : Int} {w : World} {h : Heap} (hw : Know h w noS) (f0 : FrS h 14 v0 (a0.map e_face_Likeness)) (H : face_photoOf a0 a1 = some r) : Does Tryz.prog 84 (List.toArray [v0, .int .i64 a1]) w (fun v w' => v = (.int .i64 r) ∧ Grow w w') := by
 refine enter (n := 18) Tryz.func84 rfl rfl rfl noS [] (Sat.nil _ _) ?_
 refine c_seq ?_
 refine c_region ?_
 refine l_val rfl rfl rfl (r_assign (v := .int .i64 0) rfl) ?_
 refine l_nil ?_
 refine c_seq ?_
 refine c_region ?_
 refine l_val rfl rfl rfl (r_move (v := v0) rfl) ?_
 refine l_val rfl rfl rfl (r_move (v := .int .i64 a1) rfl) ?_
 obtain ⟨t10, h_t10, H3⟩ := bnd_some H; clear H
 refine l_callG (fun w hF hS => k102 (know_all w) (f0.mono (hw.now hF)) h_t10) Tryz.call102 rfl rfl rfl ?_
 refine l_val rfl rfl rfl (r_move (v := .tuple #[.int .i64 t10.1, .bool t10.2]) rfl) ?_
 refine l_val rfl rfl rfl (r_extract (v := .int .i64 t10.1) rfl rfl) ?_
 refine l_val rfl rfl rfl (r_extract (v := .bool t10.2) rfl rfl) ?_
 refine l_val rfl rfl rfl (r_assign (v := .int .i64 t10.1) rfl) ?_
 refine l_val rfl rfl rfl (r_assign (v := .bool t10.2) rfl) ?_
 refine l_nil ?_
 refine c_seq ?_
 refine c_region ?_
 refine l_val rfl rfl rfl (r_move (v := v0) rfl) ?_
 refine l_val rfl rfl rfl (r_move (v := .int .i64 t10.1) rfl) ?_
 obtain ⟨t15, h_t15, H4⟩ := bnd_some H3; clear H3
 refine l_val rfl rfl rfl (r_indexF Tryz.underlying22 Tryz.sizeOf52 rfl rfl f0 h_t15) ?_
 refine l_val rfl rfl rfl (r_fieldP Tryz.runUnderlying52 rfl Tryz.sizeOf3 rfl rfl (some_of_at f0 h_t15)) ?_
 refine l_read (fun w hF hS => run_loadG1 (f := e_face_Likeness) (i := t10.1) (sz := 14) (j := 1) (v := .int .i64 t15.Photo) Tryz.isAgg3 rfl rfl (f0.row (hw.now hF)) h_t15 rfl) rfl rfl rfl ?_
 refine l_val rfl rfl rfl (r_assign (v := .int .i64 t15.Photo) rfl) ?_
 refine l_nil ?_
 refine c_ret ?_
 obtain rfl := Option.some.inj H4
 refine ret1 (v := .int .i64 t15.Photo) rfl rfl (fin rfl)
theorem k39 {a0 : (List T_face_Likeness)} {v0 : Value} {a1 : (List Int)} {v1 : Value} {r : (List Int)} {w : World} {h : Heap} (hw : Know h w noS) (f0 : FrS h 14 v0 (a0.map e_face_Likeness)) (f1 : FrS h 1 v1 (a1.map e_i64)) (H : face_photosOf a0 a1 = some r) : Does Tryz.prog 39 (List.toArray [v0, v1]) w (fun v w' => ∃ x : (Option Addr × Nat), v = (.slice x.1 r.length x.2) ∧ Turn w w' noS (rowV 3 1 (.slice x.1 r.length x.2) r.length (r.map e_i64))) := by
 refine enter (n := 22) Tryz.func39 rfl rfl rfl noS [] (Sat.nil _ _) ?_
 refine c_seq ?_
 refine c_region ?_
 refine l_val rfl rfl rfl (r_assign (v := .slice none 0 0) rfl) ?_
 refine l_nil ?_
 refine c_seq ?_
 refine c_region ?_
 refine l_val rfl rfl rfl (r_assign (v := .slice none 0 0) rfl) ?_
 refine l_nil ?_
 refine c_seq ?_
 refine c_seq ?_
 refine c_region ?_
 refine l_val rfl rfl rfl (r_move (v := v1) rfl) ?_
 refine l_val rfl rfl rfl (r_lenF Tryz.underlying24 rfl f1 rfl) ?_
 refine l_val rfl rfl rfl (r_move (v := .int .i64 0) rfl) ?_
 refine l_nil ?_
 refine c_block ?_
 refine c_nilRow 3 1 ?_
 refine c_fix (σ := Int × (List Int)) (τ := (Option Addr × Nat)) (fun next1 s => face_photosOf_l1 a0 a1 next1 s.1 s.2) (fun s t => [(0, v0), (5, .slice t.1 s.2.length t.2), (8, v1), (9, .int .i64 (a1.length : Int)), (10, .int .i64 s.1)]) (fun s t => [rowV 3 1 (.slice t.1 s.2.length t.2) s.2.length (s.2.map e_i64)]) (fun s t => True) (0, ([] : List Int)) ((none, 0) : Option Addr × Nat) [0] H (by exact trivial) (by exact ⟨rfl, rfl, rfl, rfl, rfl, trivial⟩) (by decide) rfl ?_
 rintro ⟨x10_2, l_2⟩ p m1 gg H8 _
 clear H
 replace H8 : face_photosOf_l1 a0 a1 (it (fun next1 s => face_photosOf_l1 a0 a1 next1 s.1 s.2) m1) x10_2 l_2 = some r := H8
 generalize hn1 : it (fun next1 s => face_photosOf_l1 a0 a1 next1 s.1 s.2) m1 = next1 at H8
 refine c_tidyF [(0, v0), (5, .slice p.1 l_2.length p.2), (8, v1), (9, .int .i64 (a1.length : Int)), (10, .int .i64 x10_2)] [rowV 3 1 (.slice p.1 l_2.length p.2) l_2.length (l_2.map e_i64)] rfl rfl ?_
 refine c_seq ?_
 refine c_region ?_
 refine l_val rfl rfl rfl (r_lss rfl rfl) ?_
 refine l_nil ?_
 refine c_seq ?_
 refine c_if (b := (decide (x10_2 < (a1.length : Int)))) rfl (fun hb => ?_) (fun hb => ?_)
 ·have H9 := cnd_t hb H8; clear H8
  refine c_skip ?_
  refine c_seq ?_
  refine c_block ?_
  refine c_seq ?_
  refine c_region ?_
  obtain ⟨t12, h_t12, H10⟩ := bnd_some H9; clear H9
  refine l_val rfl rfl rfl (r_indexF Tryz.underlying24 Tryz.sizeOf3 rfl rfl f1 h_t12) ?_
  refine l_read (fun w hF hS => run_loadG1 (f := e_i64) (i := x10_2) (sz := 1) (j := 0) (v := .int .i64 t12) Tryz.isAgg3 rfl rfl (f1.row (hw.now hF)) h_t12 rfl) rfl rfl rfl ?_
  refine l_val rfl rfl rfl (r_assign (v := .int .i64 t12) rfl) ?_
  refine l_nil ?_
  refine c_region ?_
  refine l_val rfl rfl rfl (r_move (v := .slice p.1 l_2.length p.2) rfl) ?_
  refine l_val rfl rfl rfl (r_move (v := v0) rfl) ?_
  refine l_val rfl rfl rfl (r_move (v := .int .i64 t12) rfl) ?_
  obtain ⟨t17, h_t17, H11⟩ := bnd_some H10; clear H10
  refine l_callG (fun w hF hS => k84 (know_all w) (f0.mono (hw.now hF)) h_t17) Tryz.call84 rfl rfl rfl ?_
  refine l_buildSlice (vs := [.int .i64 t17]) (cs := [.int .i64 t17]) Tryz.underlying24 Tryz.sizeOf3 Tryz.zeroValue3 rfl rfl rfl rfl rfl rfl rfl (fun b1 => ?_)
  obtain ⟨l19, h_l19, H12⟩ := bnd_some H11; clear H11
  refine l_turn (turns_appG (i := 0) (hn := rfl) (rds := [1]) (p := p) (sz := 1) (by_ := 8) (f := e_i64) (ys := l_2) (ls := ([t17] : List Int)) (V := .slice (some ⟨b1, 0, none⟩) 1 1) Tryz.underlying24 (info_of Tryz.typeInfo3) rfl rfl rfl rfl rfl rfl rfl rfl rfl rfl (fun w L' hF hS hi => row_box (i := 1) hS ((hi 1 (by simp)).trans rfl) rfl rfl) (fun _ => rfl) (fun _ => rfl) h_l19) rfl rfl rfl (fun p_2 => ?_)
  refine l_val rfl rfl rfl (r_assign (v := .slice p_2.1 l19.length p_2.2) rfl) ?_
  refine l_nil ?_
  refine c_region ?_
  obtain ⟨t20, h_t20, H13⟩ := bnd_some H12; clear H12
  refine l_val rfl rfl rfl (r_addG rfl rfl h_t20) ?_
  refine l_val rfl rfl rfl (r_move (v := .int .i64 t20) rfl) ?_
  refine l_nil ?_
  refine c_close (t20, l19) p_2 m1 [0] (by exact ⟨rfl, rfl, rfl, rfl, rfl, trivial⟩) (by decide) rfl (by exact ⟨(by subst hn1; exact H13), trivial⟩) (Nat.lt_succ_self _)
 ·have H14 := cnd_f hb H8; clear H8
  refine c_exit ?_
  refine c_seq ?_
  refine c_region ?_
  refine l_val rfl rfl rfl (r_move (v := .slice p.1 l_2.length p.2) rfl) ?_
  refine l_val rfl rfl rfl (r_assign (v := .slice p.1 l_2.length p.2) rfl) ?_
  refine l_nil ?_
  refine c_ret ?_
  obtain rfl := Option.some.inj H14
  refine ret1 (v := .slice p.1 l_2.length p.2) rfl rfl (finX p (i := 0) rfl rfl (Imp.refl _))
theorem k41 {q0 : (List (Int × Bool))} {vq0 : Value} {c0 : Nat} {a0 : Int} {r : Bool} {w : World} {h : Heap} (hw : Know h w noS) (fq0 : FrM h (fun x_ : Int => .int .i64 x_) (fun x_ : Bool => .bool x_) vq0 q0) (hc0 : h c0 = some (.cells (List.toArray [vq0]) 69 (0, 0))) (H : face_CheckPeople_1 q0 a0 = some r) : Does Tryz.prog 41 (List.toArray [.int .i64 a0, .pointer (some ⟨c0, 0, none⟩)]) w (fun v w' => v = (.bool r) ∧ Grow w w') := by
 refine enter (n := 7) Tryz.func41 rfl rfl rfl noS [] (Sat.nil _ _) ?_
 refine c_seq ?_
 refine c_region ?_
 refine l_val rfl rfl rfl (r_assign (v := .bool false) rfl) ?_
 refine l_nil ?_
 refine c_seq ?_
 refine c_region ?_
 refine l_read (fun w hF hS => run_loadK1 (v := vq0) Tryz.isAgg69 rfl (hw.now hF _ _ hc0) rfl) rfl rfl rfl ?_
 refine l_val rfl rfl rfl (r_move (v := .int .i64 a0) rfl) ?_
 refine l_read (fun w hF hS => run_lookupF (fk := (fun x_ : Int => .int .i64 x_)) (fv := (fun x_ : Bool => .bool x_)) (k := a0) (z := false) keyF_int Tryz.underlying69 Tryz.underlying3 Tryz.zeroValue4 rfl rfl (fq0.mono (hw.now hF))) rfl rfl rfl ?_
 refine l_val rfl rfl rfl (r_assign (v := .bool ((mGet q0 a0).getD false)) rfl) ?_
 refine l_nil ?_
 refine c_ret ?_
 obtain rfl := Option.some.inj H
 refine ret1 (v := .bool ((mGet q0 a0).getD false)) rfl rfl (fin rfl)
theorem k7 {a0 : (List T_face_Likeness)} {v0 : Value} {a1 : (List T_face_Person)} {v1 : Value} {r : Int} {w : World} {h : Heap} (hw : Know h w noS) (f0 : FrS h 14 v0 (a0.map e_face_Likeness)) (f1 : FrN h 4 v1 g_face_Person a1) (H : face_CheckPeople a0 a1 = some r) : Does Tryz.prog 7 (List.toArray [v0, v1]) w (fun v w' => v = (.int .i64 r) ∧ Grow w w') := by
 refine enter (n := 78) Tryz.func7 rfl rfl rfl noS [] (Sat.nil _ _) ?_
 refine c_seq ?_
 refine c_region ?_
 refine l_val rfl rfl rfl (r_assign (v := .int .i64 0) rfl) ?_
 refine l_nil ?_
 refine c_seq ?_
 refine c_seq ?_
 refine c_region ?_
 refine l_val rfl rfl rfl (r_move (v := v0) rfl) ?_
 obtain ⟨t14, h_t14, H37⟩ := bnd_some H; clear H
 refine l_callG (fun w hF hS => k37 (know_all w) (f0.mono (hw.now hF)) h_t14) Tryz.call37 rfl rfl rfl ?_
 refine l_val rfl rfl rfl (r_assign (v := .int .i64 t14) rfl) ?_
 refine l_nil ?_
 refine c_seq ?_
 refine c_region ?_
 refine l_val rfl rfl rfl (r_move (v := .int .i64 t14) rfl) ?_
 refine l_val rfl rfl rfl (r_neq rfl rfl) ?_
 refine l_nil ?_
 refine c_if (b := (decide (t14 ≠ 0))) rfl (fun hb => ?_) (fun hb => ?_)
 ·have H38 := cnd_t hb H37; clear H37
  refine c_seq ?_
  refine c_region ?_
  refine l_val rfl rfl rfl (r_move (v := .int .i64 t14) rfl) ?_
  refine l_val rfl rfl rfl (r_assign (v := .int .i64 t14) rfl) ?_
  refine l_nil ?_
  refine c_ret ?_
  obtain rfl := Option.some.inj H38
  refine ret1 (v := .int .i64 t14) rfl rfl (fin rfl)
 ·have H39 := cnd_f hb H37; clear H37
  refine c_skip ?_
  refine c_seq ?_
  refine c_seq ?_
  refine c_region ?_
  refine l_val rfl rfl rfl (r_move (v := v1) rfl) ?_
  refine l_val rfl rfl rfl (r_lenFN Tryz.underlying23 rfl f1) ?_
  refine l_val rfl rfl rfl (r_gtr rfl rfl) ?_
  refine l_nil ?_
  refine c_if (b := (decide (100 < (a1.length : Int)))) rfl (fun hb => ?_) (fun hb => ?_)
  ·have H40 := cnd_t hb H39; clear H39
   refine c_seq ?_
   refine c_region ?_
   refine l_val rfl rfl rfl (r_assign (v := .int .i64 4) rfl) ?_
   refine l_nil ?_
   refine c_ret ?_
   obtain rfl := Option.some.inj H40
   refine ret1 (v := .int .i64 4) rfl rfl (fin rfl)
  ·have H41 := cnd_f hb H39; clear H39
   refine c_skip ?_
   refine c_seq ?_
   refine c_region ?_
   refine l_make (rds := []) (makes_map (fk := (fun x_ : Int => .int .i64 x_)) (fv := (fun x_ : Bool => .bool x_))) rfl rfl rfl (fun b3 => ?_)
   refine l_alloc (cs := [.map none]) Tryz.zeroValue69 rfl rfl rfl (fun b4 => ?_)
   refine l_store (i := 1) (vs := [.map (some b3)]) (cs' := [.map (some b3)]) Tryz.sizeOf69 rfl rfl rfl rfl rfl rfl rfl rfl rfl ?_
   refine l_nil ?_
   refine c_seq ?_
   refine c_seq ?_
   refine c_region ?_
   refine l_val rfl rfl rfl (r_move (v := v1) rfl) ?_
   refine l_val rfl rfl rfl (r_lenFN Tryz.underlying23 rfl f1) ?_
   refine l_val rfl rfl rfl (r_move (v := .int .i64 0) rfl) ?_
   refine l_nil ?_
   refine c_block ?_
   refine c_fix (σ := Int × (List (Int × Bool))) (τ := Unit) (fun next1 s => face_CheckPeople_l1 a0 a1 next1 s.1 s.2) (fun s t => [(0, v0), (1, v1), (6, .pointer (some ⟨b4, 0, none⟩)), (22, v1), (23, .int .i64 (a1.length : Int)), (24, .int .i64 s.1)]) (fun s t => [mapC (fun x_ : Int => .int .i64 x_) (fun x_ : Bool => .bool x_) b3 s.2, cellsC b4 [.map (some b3)] 69]) (fun s t => True) (0, ([] : (List (Int × Bool)))) () [0, 1] H41 (by exact trivial) (by exact ⟨rfl, rfl, rfl, rfl, rfl, rfl, trivial⟩) (by decide) rfl ?_
   rintro ⟨x24_2, mp_2⟩ _ m1 gg H42 _
   clear H41
   replace H42 : face_CheckPeople_l1 a0 a1 (it (fun next1 s => face_CheckPeople_l1 a0 a1 next1 s.1 s.2) m1) x24_2 mp_2 = some r := H42
   generalize hn1 : it (fun next1 s => face_CheckPeople_l1 a0 a1 next1 s.1 s.2) m1 = next1 at H42
   refine c_tidyF [(0, v0), (1, v1), (6, .pointer (some ⟨b4, 0, none⟩)), (22, v1), (23, .int .i64 (a1.length : Int)), (24, .int .i64 x24_2)] [mapC (fun x_ : Int => .int .i64 x_) (fun x_ : Bool => .bool x_) b3 mp_2, cellsC b4 [.map (some b3)] 69] rfl rfl ?_
   refine c_seq ?_
   refine c_region ?_
   refine l_val rfl rfl rfl (r_lss rfl rfl) ?_
   refine l_nil ?_
   refine c_seq ?_
   refine c_if (b := (decide (x24_2 < (a1.length : Int)))) rfl (fun hb => ?_) (fun hb => ?_)
   ·have H43 := cnd_t hb H42; clear H42
    refine c_skip ?_
    refine c_meet (r := r) (σ := Int × Int × Bool × (List Int) × (List Int) × (List (Int × Bool))) (τ := (Option Addr × Nat) × (Option Addr × Nat)) (fun s => face_CheckPeople_j2 x24_2 next1 s.1 s.2.1 s.2.2.1 s.2.2.2.1 s.2.2.2.2.1 s.2.2.2.2.2) (fun s t => [(0, v0), (1, v1), (6, .pointer (some ⟨b4, 0, none⟩)), (22, v1), (23, .int .i64 (a1.length : Int)), (24, .int .i64 x24_2), (60, .slice t.1.1 s.2.2.2.1.length t.1.2), (61, .slice t.2.1 s.2.2.2.2.1.length t.2.2), (62, .int .i64 s.1), (63, .slice t.1.1 s.2.2.2.1.length t.1.2), (64, .int .i64 s.2.1), (65, .bool s.2.2.1)]) (fun s t => [mapC (fun x_ : Int => .int .i64 x_) (fun x_ : Bool => .bool x_) b3 s.2.2.2.2.2, cellsC b4 [.map (some b3)] 69, rowV 3 1 (.slice t.1.1 s.2.2.2.1.length t.1.2) s.2.2.2.1.length (s.2.2.2.1.map e_i64), roV 1 (.slice t.2.1 s.2.2.2.2.1.length t.2.2) s.2.2.2.2.1.length (s.2.2.2.2.1.map e_i64)]) (fun s t => True) ?_ ?_
    ·refine c_block ?_
     refine c_seq ?_
     refine c_region ?_
     refine l_val rfl rfl rfl (r_move (v := .int .i64 x24_2) rfl) ?_
     obtain ⟨t27, h_t27, H46⟩ := bnd_some H43; clear H43
     refine l_val rfl rfl rfl (r_indexF Tryz.underlying23 Tryz.sizeOf32 rfl rfl f1.frs (f1.ix h_t27)) ?_
     refine l_read (fun w hF hS => run_loadGN (f := (elC h v1 4)) (i := x24_2) (sz := 4) (j := 0) (vs := [.int .i64 t27.Id, str t27.Name, (elH h v1 4 (Int.toNat x24_2) 2), (elH h v1 4 (Int.toNat x24_2) 3)]) Tryz.isAgg32 Tryz.sizeOf32 rfl rfl (f1.frs.row (hw.now hF)) (f1.ix h_t27) (rd_of (cg_face_Person (f1.at h_t27)) rfl)) rfl rfl rfl ?_
     refine l_alloc (cs := [.int .i64 0, str [], .slice none 0 0, .slice none 0 0]) Tryz.zeroValue32 rfl rfl rfl (fun b5 => ?_)
     refine l_val rfl rfl rfl (r_assign (v := .int .i64 x24_2) rfl) ?_
     refine l_store (i := 2) (vs := [.int .i64 t27.Id, str t27.Name, (elH h v1 4 (Int.toNat x24_2) 2), (elH h v1 4 (Int.toNat x24_2) 3)]) (cs' := [.int .i64 t27.Id, str t27.Name, (elH h v1 4 (Int.toNat x24_2) 2), (elH h v1 4 (Int.toNat x24_2) 3)]) Tryz.sizeOf32 rfl rfl rfl rfl rfl rfl (by simp only [List.all_cons, List.all_nil, (show FrS h 1 (elH h v1 4 (Int.toNat x24_2) 2) (t27.Likes.map e_i64) from (g_face_Person_p2 (f1.at h_t27))).one, (show FrS h 1 (elH h v1 4 (Int.toNat x24_2) 3) (t27.Nots.map e_i64) from (g_face_Person_p3 (f1.at h_t27))).one] <;> rfl) rfl rfl ?_
     refine l_nil ?_
     refine c_seq ?_
     refine c_seq ?_
     refine c_region ?_
     refine l_val rfl rfl rfl (r_field Tryz.runUnderlying32 rfl Tryz.sizeOf3 rfl rfl) ?_
     refine l_load1 (i := 2) (v := .int .i64 t27.Id) Tryz.isAgg3 rfl rfl rfl rfl rfl ?_
     obtain ⟨t31, h_t31, H47⟩ := bnd_some H46; clear H46
     refine l_call (k25 h_t31) Tryz.call25 rfl rfl rfl ?_
     refine l_nil ?_
     refine c_if (b := t31) rfl (fun hb => ?_) (fun hb => ?_)
     ·have H48 := cnd_t hb H47; clear H47
      refine c_seq ?_
      refine c_region ?_
      refine l_val rfl rfl rfl (r_assign (v := .int .i64 2) rfl) ?_
      refine l_nil ?_
      refine c_ret ?_
      obtain rfl := Option.some.inj H48
      refine ret1 (v := .int .i64 2) rfl rfl (fin rfl)
     ·have H49 := cnd_f hb H47; clear H47
      refine c_skip ?_
      refine c_meet (r := r) (σ := Unit) (τ := Unit) (fun s => face_CheckPeople_j3 a0 x24_2 mp_2 next1 t27) (fun s t => [(0, v0), (1, v1), (6, .pointer (some ⟨b4, 0, none⟩)), (8, .pointer (some ⟨b5, 0, none⟩)), (22, v1), (23, .int .i64 (a1.length : Int)), (24, .int .i64 x24_2)]) (fun s t => [mapC (fun x_ : Int => .int .i64 x_) (fun x_ : Bool => .bool x_) b3 mp_2, cellsC b4 [.map (some b3)] 69, cellsC b5 [.int .i64 t27.Id, str t27.Name, (elH h v1 4 (Int.toNat x24_2) 2), (elH h v1 4 (Int.toNat x24_2) 3)] 32]) (fun s t => True) ?_ ?_
      ·refine c_seq ?_
       exact c_regionD (Kd.p :: Kd.p :: Kd.p :: Kd.p :: Kd.d [2] _ :: Kd.p :: Kd.p :: Kd.p :: Kd.p :: Kd.p :: Kd.d [] _ :: Kd.p :: Kd.p :: []) 0 mixed (by
        refine d_val rfl rfl (r_move (v := .int .i64 x24_2) rfl) ?_
        refine d_val rfl rfl (r_gtr rfl rfl) ?_
        refine d_val rfl rfl (r_move (v := .bool (decide (0 < x24_2))) rfl) ?_
        refine splitS (fun hb => ?_) (fun hb => ?_)
        ·have H66 := cnd_t hb H49
         refine d_val rfl rfl (r_field Tryz.runUnderlying32 rfl Tryz.sizeOf3 rfl rfl) ?_
         refine d_load1 (i := 2) (v := .int .i64 t27.Id) Tryz.isAgg3 rfl rfl rfl rfl ?_
         refine d_val rfl rfl (r_move (v := v1) rfl) ?_
         refine d_val rfl rfl (r_move (v := .int .i64 x24_2) rfl) ?_
         have h_t39 := bnd_val H66
         have H67 := bnd_rest H66
         refine d_val rfl rfl (r_subG rfl rfl h_t39) ?_
         have h_t40 := bnd_val H67
         have H68 := bnd_rest H67
         refine d_val rfl rfl (r_indexF Tryz.underlying23 Tryz.sizeOf32 rfl rfl f1.frs (f1.ix h_t40)) ?_
         refine d_val rfl rfl (r_fieldP Tryz.runUnderlying32 rfl Tryz.sizeOf3 rfl rfl (some_of_at f1.frs (f1.ix h_t40))) ?_
         refine d_read (fun w hF => run_loadG1 (f := (elC h v1 4)) (i := (val (gI (x24_2 - 1)))) (sz := 4) (j := 0) (v := .int .i64 (val (gAt a1 (val (gI (x24_2 - 1))))).Id) Tryz.isAgg3 rfl rfl (f1.frs.row (hw.now hF)) (f1.ix h_t40) (rg_of (cg_face_Person (f1.at h_t40)) rfl)) rfl rfl ?_
         refine d_val rfl rfl (r_leq rfl rfl) ?_
         refine d_val rfl rfl (r_pickT (v := .bool (decide (t27.Id ≤ (val (gAt a1 (val (gI (x24_2 - 1))))).Id))) rfl rfl) ?_
         refine d_nil ?_
         refine c_if (b := (decide (t27.Id ≤ (val (gAt a1 (val (gI (x24_2 - 1))))).Id))) rfl (fun hb => ?_) (fun hb => ?_)
         ·have H69 := cnd_t hb H68; clear H68
          refine c_seq ?_
          refine c_region ?_
          refine l_val rfl rfl rfl (r_assign (v := .int .i64 5) rfl) ?_
          refine l_nil ?_
          refine c_ret ?_
          obtain rfl := Option.some.inj H69
          refine ret1 (v := .int .i64 5) rfl rfl (fin rfl)
         ·have H70 := cnd_f hb H68; clear H68
          refine c_skip ?_
          refine c_close () () 0 [0, 1, 2] (by exact ⟨rfl, rfl, rfl, rfl, rfl, rfl, rfl, trivial⟩) (by decide) rfl (by exact ⟨H70, trivial⟩) (Nat.lt_succ_self _)
        ·have H71 := cnd_f hb H49
         refine d_pass rfl rfl ?_
         refine d_pass rfl rfl ?_
         refine d_pass rfl rfl ?_
         refine d_pass rfl rfl ?_
         refine d_pass rfl rfl ?_
         refine d_pass rfl rfl ?_
         refine d_pass rfl rfl ?_
         refine d_pass rfl rfl ?_
         refine d_pass rfl rfl ?_
         refine d_val rfl rfl (r_pickF (v := .bool false) rfl rfl) ?_
         refine d_nil ?_
         refine c_false rfl ?_
         refine c_skip ?_
         refine c_close () () 0 [0, 1, 2] (by exact ⟨rfl, rfl, rfl, rfl, rfl, rfl, rfl, trivial⟩) (by decide) rfl (by exact ⟨H71, trivial⟩) (Nat.lt_succ_self _)
        ) (by kernel_rfl)
      ·rintro _ _ gg H50 _
       replace H50 : face_CheckPeople_j3 a0 x24_2 mp_2 next1 t27 = some r := H50
       refine c_tidyF [(0, v0), (1, v1), (6, .pointer (some ⟨b4, 0, none⟩)), (8, .pointer (some ⟨b5, 0, none⟩)), (22, v1), (23, .int .i64 (a1.length : Int)), (24, .int .i64 x24_2)] [mapC (fun x_ : Int => .int .i64 x_) (fun x_ : Bool => .bool x_) b3 mp_2, cellsC b4 [.map (some b3)] 69, cellsC b5 [.int .i64 t27.Id, str t27.Name, (elH h v1 4 (Int.toNat x24_2) 2), (elH h v1 4 (Int.toNat x24_2) 3)] 32] rfl rfl ?_
       refine c_seq ?_
       refine c_seq ?_
       refine c_region ?_
       refine l_val rfl rfl rfl (r_move (v := v0) rfl) ?_
       refine l_loadN (i := 2) (vs := [.int .i64 t27.Id, str t27.Name, (elH h v1 4 (Int.toNat x24_2) 2), (elH h v1 4 (Int.toNat x24_2) 3)]) Tryz.isAgg32 Tryz.sizeOf32 rfl rfl rfl rfl rfl ?_
       obtain ⟨t47, h_t47, H51⟩ := bnd_some H50; clear H50
       refine l_callG (fun w hF hS => k38 (know_all w) (f0.mono (hw.now hF)) ((show FrS h 1 (elH h v1 4 (Int.toNat x24_2) 2) (t27.Likes.map e_i64) from (g_face_Person_p2 (f1.at h_t27))).mono (hw.now hF)) ((show FrS h 1 (elH h v1 4 (Int.toNat x24_2) 3) (t27.Nots.map e_i64) from (g_face_Person_p3 (f1.at h_t27))).mono (hw.now hF)) h_t47) Tryz.call38 rfl rfl rfl ?_
       refine l_val rfl rfl rfl (r_assign (v := .int .i64 t47) rfl) ?_
       refine l_nil ?_
       refine c_seq ?_
       refine c_region ?_
       refine l_val rfl rfl rfl (r_move (v := .int .i64 t47) rfl) ?_
       refine l_val rfl rfl rfl (r_neq rfl rfl) ?_
       refine l_nil ?_
       refine c_if (b := (decide (t47 ≠ 0))) rfl (fun hb => ?_) (fun hb => ?_)
       ·have H52 := cnd_t hb H51; clear H51
        refine c_seq ?_
        refine c_region ?_
        refine l_val rfl rfl rfl (r_move (v := .int .i64 t47) rfl) ?_
        refine l_val rfl rfl rfl (r_assign (v := .int .i64 t47) rfl) ?_
        refine l_nil ?_
        refine c_ret ?_
        obtain rfl := Option.some.inj H52
        refine ret1 (v := .int .i64 t47) rfl rfl (fin rfl)
       ·have H53 := cnd_f hb H51; clear H51
        refine c_skip ?_
        refine c_seq ?_
        refine c_region ?_
        refine l_val rfl rfl rfl (r_move (v := v0) rfl) ?_
        refine l_val rfl rfl rfl (r_field Tryz.runUnderlying32 rfl Tryz.sizeOf24 rfl rfl) ?_
        refine l_load1 (i := 2) (v := (elH h v1 4 (Int.toNat x24_2) 2)) Tryz.isAgg24 rfl rfl rfl rfl rfl ?_
        obtain ⟨t54, h_t54, H54⟩ := bnd_some H53; clear H53
        refine l_make (makes_call (rds := []) (G := fun x : (Option Addr × Nat) => .slice x.1 t54.length x.2) (C := fun x : (Option Addr × Nat) => rowV 3 1 (.slice x.1 t54.length x.2) t54.length (t54.map e_i64)) (fun w L' hF hS hi => k39 (know_all w) (f0.mono (hw.now hF)) ((show FrS h 1 (elH h v1 4 (Int.toNat x24_2) 2) (t27.Likes.map e_i64) from (g_face_Person_p2 (f1.at h_t27))).mono (hw.now hF)) h_t54) Tryz.call39 rfl) rfl rfl rfl (fun p_3 => ?_)
        refine l_val rfl rfl rfl (r_assign (v := .slice p_3.1 t54.length p_3.2) rfl) ?_
        refine l_nil ?_
        refine c_seq ?_
        refine c_seq ?_
        refine c_region ?_
        refine l_val rfl rfl rfl (r_field Tryz.runUnderlying32 rfl Tryz.sizeOf24 rfl rfl) ?_
        refine l_load1 (i := 2) (v := (elH h v1 4 (Int.toNat x24_2) 2)) Tryz.isAgg24 rfl rfl rfl rfl rfl ?_
        refine l_val rfl rfl rfl (r_makeFn (caps := #[.pointer (some ⟨b4, 0, none⟩)]) rfl) ?_
        obtain ⟨t58, h_t58, H55⟩ := bnd_some H54; clear H54
        refine l_callG (fun w hF hS => k40 (know_all w) ((show FrS h 1 (elH h v1 4 (Int.toNat x24_2) 2) (t27.Likes.map e_i64) from (g_face_Person_p2 (f1.at h_t27))).mono (hw.now hF)) (FnH.mk ⟨41, #[], #[.pointer (some ⟨b4, 0, none⟩)], rfl, Tryz.call41, fun args2 post2 w2 hk2 hR2 => by obtain ⟨a0_, r_, rfl, H_, rfl⟩ := hR2; exact k41 (know_all w2) ((frs_map (fk := (fun x_ : Int => .int .i64 x_)) (fv := (fun x_ : Bool => .bool x_)) (i := 0) hS rfl).mono hk2.up) (hk2.up _ _ (sat_cell (i := 1) hS rfl)) H_⟩) h_t58) Tryz.call40 rfl rfl rfl ?_
        refine l_val rfl rfl rfl (r_move (v := .bool t58) rfl) ?_
        refine split (fun hb => ?_) (fun hb => ?_)
        ·have H56 := cnd_t hb H55; clear H55
         refine l_passed rfl rfl rfl ?_
         refine l_passed rfl rfl rfl ?_
         refine l_passed rfl rfl rfl ?_
         refine l_passed rfl rfl rfl ?_
         refine l_passed rfl rfl rfl ?_
         refine l_passed rfl rfl rfl ?_
         refine l_val rfl rfl rfl (r_pickT (v := .bool true) rfl rfl) ?_
         refine l_nil ?_
         refine c_true rfl ?_
         refine c_seq ?_
         refine c_region ?_
         refine l_val rfl rfl rfl (r_assign (v := .int .i64 6) rfl) ?_
         refine l_nil ?_
         refine c_ret ?_
         obtain rfl := Option.some.inj H56
         refine ret1 (v := .int .i64 6) rfl rfl (fin rfl)
        ·have H57 := cnd_f hb H55; clear H55
         refine l_val rfl rfl rfl (r_move (v := .slice p_3.1 t54.length p_3.2) rfl) ?_
         obtain ⟨t61, h_t61, H58⟩ := bnd_some H57; clear H57
         refine l_make (makes_call (rds := [3]) (G := fun x : (Option Addr × Nat) => .slice x.1 t61.length x.2) (C := fun x : (Option Addr × Nat) => roV 1 (.slice x.1 t61.length x.2) t61.length (t61.map e_i64)) (fun w L' hF hS hi => k36 (know_all w) (frs_own (i := 3) rfl hS ((hi 3 (by simp)).trans rfl)) (FrS.nil _ _) h_t61) Tryz.call36 rfl) rfl rfl rfl (fun p_4 => ?_)
         refine l_val rfl rfl rfl (r_len Tryz.underlying24 rfl) ?_
         refine l_val rfl rfl rfl (r_move (v := .slice p_3.1 t54.length p_3.2) rfl) ?_
         refine l_val rfl rfl rfl (r_len Tryz.underlying24 rfl) ?_
         refine l_val rfl rfl rfl (r_lss rfl rfl) ?_
         refine l_val rfl rfl rfl (r_pickF (v := .bool (decide ((t61.length : Int) < (t54.length : Int)))) rfl rfl) ?_
         refine l_nil ?_
         refine c_if (b := (decide ((t61.length : Int) < (t54.length : Int)))) rfl (fun hb => ?_) (fun hb => ?_)
         ·have H59 := cnd_t hb H58; clear H58
          refine c_seq ?_
          refine c_region ?_
          refine l_val rfl rfl rfl (r_assign (v := .int .i64 6) rfl) ?_
          refine l_nil ?_
          refine c_ret ?_
          obtain rfl := Option.some.inj H59
          refine ret1 (v := .int .i64 6) rfl rfl (fin rfl)
         ·have H60 := cnd_f hb H58; clear H58
          refine c_skip ?_
          refine c_seq ?_
          refine c_region ?_
          refine l_val rfl rfl rfl (r_field Tryz.runUnderlying32 rfl Tryz.sizeOf24 rfl rfl) ?_
          refine l_load1 (i := 2) (v := (elH h v1 4 (Int.toNat x24_2) 2)) Tryz.isAgg24 rfl rfl rfl rfl rfl ?_
          refine l_val rfl rfl rfl (r_lenF Tryz.underlying24 rfl (show FrS h 1 (elH h v1 4 (Int.toNat x24_2) 2) (t27.Likes.map e_i64) from (g_face_Person_p2 (f1.at h_t27))) rfl) ?_
          refine l_val rfl rfl rfl (r_move (v := .int .i64 0) rfl) ?_
          refine l_nil ?_
          refine c_block ?_
          refine c_sel [0, 1, 3, 4] [mapC (fun x_ : Int => .int .i64 x_) (fun x_ : Bool => .bool x_) b3 mp_2, cellsC b4 [.map (some b3)] 69, rowV 3 1 (.slice p_3.1 t54.length p_3.2) t54.length (t54.map e_i64), roV 1 (.slice p_4.1 t61.length p_4.2) t61.length (t61.map e_i64)] rfl (by decide) ?_
          refine c_fix (σ := Int × (List (Int × Bool))) (τ := Unit) (fun next4 s => face_CheckPeople_l4 x24_2 next1 t27 t54 t61 next4 s.1 s.2) (fun s t => [(0, v0), (1, v1), (6, .pointer (some ⟨b4, 0, none⟩)), (22, v1), (23, .int .i64 (a1.length : Int)), (24, .int .i64 x24_2), (60, .slice p_3.1 t54.length p_3.2), (61, .slice p_4.1 t61.length p_4.2), (62, .int .i64 (t61.length : Int)), (63, .slice p_3.1 t54.length p_3.2), (64, .int .i64 (t54.length : Int)), (65, .bool (decide ((t61.length : Int) < (t54.length : Int)))), (68, (elH h v1 4 (Int.toNat x24_2) 2)), (69, .int .i64 (t27.Likes.length : Int)), (70, .int .i64 s.1)]) (fun s t => [mapC (fun x_ : Int => .int .i64 x_) (fun x_ : Bool => .bool x_) b3 s.2, cellsC b4 [.map (some b3)] 69, rowV 3 1 (.slice p_3.1 t54.length p_3.2) t54.length (t54.map e_i64), roV 1 (.slice p_4.1 t61.length p_4.2) t61.length (t61.map e_i64)]) (fun s t => True) (0, mp_2) () [0, 1, 2, 3] H60 (by exact trivial) (by exact ⟨rfl, rfl, rfl, rfl, rfl, rfl, rfl, rfl, rfl, rfl, rfl, rfl, rfl, rfl, rfl, trivial⟩) (by decide) rfl ?_
          rintro ⟨x70_2, mp_5⟩ _ m4 gg H61 _
          clear H60
          replace H61 : face_CheckPeople_l4 x24_2 next1 t27 t54 t61 (it (fun next4 s => face_CheckPeople_l4 x24_2 next1 t27 t54 t61 next4 s.1 s.2) m4) x70_2 mp_5 = some r := H61
          generalize hn4 : it (fun next4 s => face_CheckPeople_l4 x24_2 next1 t27 t54 t61 next4 s.1 s.2) m4 = next4 at H61
          refine c_tidyF [(0, v0), (1, v1), (6, .pointer (some ⟨b4, 0, none⟩)), (22, v1), (23, .int .i64 (a1.length : Int)), (24, .int .i64 x24_2), (60, .slice p_3.1 t54.length p_3.2), (61, .slice p_4.1 t61.length p_4.2), (62, .int .i64 (t61.length : Int)), (63, .slice p_3.1 t54.length p_3.2), (64, .int .i64 (t54.length : Int)), (65, .bool (decide ((t61.length : Int) < (t54.length : Int)))), (68, (elH h v1 4 (Int.toNat x24_2) 2)), (69, .int .i64 (t27.Likes.length : Int)), (70, .int .i64 x70_2)] [mapC (fun x_ : Int => .int .i64 x_) (fun x_ : Bool => .bool x_) b3 mp_5, cellsC b4 [.map (some b3)] 69, rowV 3 1 (.slice p_3.1 t54.length p_3.2) t54.length (t54.map e_i64), roV 1 (.slice p_4.1 t61.length p_4.2) t61.length (t61.map e_i64)] rfl rfl ?_
          refine c_seq ?_
          refine c_region ?_
          refine l_val rfl rfl rfl (r_lss rfl rfl) ?_
          refine l_nil ?_
          refine c_seq ?_
          refine c_if (b := (decide (x70_2 < (t27.Likes.length : Int)))) rfl (fun hb => ?_) (fun hb => ?_)
          ·have H62 := cnd_t hb H61; clear H61
           refine c_skip ?_
           refine c_seq ?_
           refine c_block ?_
           refine c_seq ?_
           refine c_region ?_
           obtain ⟨t72, h_t72, H63⟩ := bnd_some H62; clear H62
           refine l_val rfl rfl rfl (r_indexF Tryz.underlying24 Tryz.sizeOf3 rfl rfl (show FrS h 1 (elH h v1 4 (Int.toNat x24_2) 2) (t27.Likes.map e_i64) from (g_face_Person_p2 (f1.at h_t27))) h_t72) ?_
           refine l_read (fun w hF hS => run_loadG1 (f := e_i64) (i := x70_2) (sz := 1) (j := 0) (v := .int .i64 t72) Tryz.isAgg3 rfl rfl ((show FrS h 1 (elH h v1 4 (Int.toNat x24_2) 2) (t27.Likes.map e_i64) from (g_face_Person_p2 (f1.at h_t27))).row (hw.now hF)) h_t72 rfl) rfl rfl rfl ?_
           refine l_val rfl rfl rfl (r_assign (v := .int .i64 t72) rfl) ?_
           refine l_nil ?_
           refine c_region ?_
           refine l_load1 (i := 1) (v := .map (some b3)) Tryz.isAgg69 rfl rfl rfl rfl rfl ?_
           refine l_val rfl rfl rfl (r_move (v := .int .i64 t72) rfl) ?_
           refine l_turn0 (turns_mset (u := true) (i := 0) (rds := []) (fk := (fun x_ : Int => .int .i64 x_)) (fv := (fun x_ : Bool => .bool x_)) (k := t72) (v := true) keyF_int (.inr rfl) Tryz.underlying69 Tryz.underlying3 rfl rfl rfl rfl) rfl rfl (fun _ => ?_)
           refine l_nil ?_
           refine c_region ?_
           obtain ⟨t76, h_t76, H64⟩ := bnd_some H63; clear H63
           refine l_val rfl rfl rfl (r_addG rfl rfl h_t76) ?_
           refine l_val rfl rfl rfl (r_move (v := .int .i64 t76) rfl) ?_
           refine l_nil ?_
           refine c_close (t76, (mSet mp_5 t72 true)) () m4 [0, 1, 2, 3] (by exact ⟨rfl, rfl, rfl, rfl, rfl, rfl, rfl, rfl, rfl, rfl, rfl, rfl, rfl, rfl, rfl, trivial⟩) (by decide) rfl (by exact ⟨(by subst hn4; exact H64), trivial⟩) (Nat.lt_succ_self _)
          ·have H65 := cnd_f hb H61; clear H61
           refine c_exit ?_
           refine c_close ((t61.length : Int), (t54.length : Int), (decide ((t61.length : Int) < (t54.length : Int))), t54, t61, mp_5) (p_3, p_4) 0 [0, 1, 2, 3] (by exact ⟨rfl, rfl, rfl, rfl, rfl, rfl, rfl, rfl, rfl, rfl, rfl, rfl, trivial⟩) (by decide) rfl (by exact ⟨H65, trivial⟩) (Nat.lt_succ_self _)
    ·rintro ⟨x62, x64, x65, l, l_2, mp_3⟩ ⟨p, p_2⟩ gg H44 _
     replace H44 : face_CheckPeople_j2 x24_2 next1 x62 x64 x65 l l_2 mp_3 = some r := H44
     refine c_tidyF [(0, v0), (1, v1), (6, .pointer (some ⟨b4, 0, none⟩)), (22, v1), (23, .int .i64 (a1.length : Int)), (24, .int .i64 x24_2), (60, .slice p.1 l.length p.2), (61, .slice p_2.1 l_2.length p_2.2), (62, .int .i64 x62), (63, .slice p.1 l.length p.2), (64, .int .i64 x64), (65, .bool x65)] [mapC (fun x_ : Int => .int .i64 x_) (fun x_ : Bool => .bool x_) b3 mp_3, cellsC b4 [.map (some b3)] 69, rowV 3 1 (.slice p.1 l.length p.2) l.length (l.map e_i64), roV 1 (.slice p_2.1 l_2.length p_2.2) l_2.length (l_2.map e_i64)] rfl rfl ?_
     refine c_region ?_
     obtain ⟨t77, h_t77, H45⟩ := bnd_some H44; clear H44
     refine l_val rfl rfl rfl (r_addG rfl rfl h_t77) ?_
     refine l_val rfl rfl rfl (r_move (v := .int .i64 t77) rfl) ?_
     refine l_nil ?_
     refine c_close (t77, mp_3) () m1 [0, 1] (by exact ⟨rfl, rfl, rfl, rfl, rfl, rfl, trivial⟩) (by decide) rfl (by exact ⟨(by subst hn1; exact H45), trivial⟩) (Nat.lt_succ_self _)
   ·have H72 := cnd_f hb H42; clear H42
    refine c_exit ?_
    refine c_seq ?_
    refine c_region ?_
    refine l_val rfl rfl rfl (r_assign (v := .int .i64 0) rfl) ?_
    refine l_nil ?_
    refine c_ret ?_
    obtain rfl := Option.some.inj H72
    refine ret1 (v := .int .i64 0) rfl rfl (fin rfl)
theorem k46 {a0 : (List T_face_Person)} {v0 : Value} {a1 : (T_face_Person → Option (Bool))} {v1 : Value} {r : Int} {w : World} {h : Heap} (hw : Know h w noS) (f0 : FrN h 4 v0 g_face_Person a0) (f1 : FnH Tryz.prog h v1 (fnR_func_face_Person_bool a1)) (H : slices_IndexFunc_face_Person a0 a1 = some r) : Does Tryz.prog 46 (List.toArray [v0, v1]) w (fun v w' => v = (.int .i64 r) ∧ Grow w w') := by
 refine enter (n := 19) Tryz.func46 rfl rfl rfl noS [] (Sat.nil _ _) ?_
 refine c_seq ?_
 refine c_region ?_
 refine l_val rfl rfl rfl (r_assign (v := .int .i64 0) rfl) ?_
 refine l_nil ?_
 refine c_seq ?_
 refine c_seq ?_
 refine c_region ?_
 refine l_val rfl rfl rfl (r_move (v := v0) rfl) ?_
 refine l_val rfl rfl rfl (r_lenFN Tryz.underlying23 rfl f0) ?_
 refine l_val rfl rfl rfl (r_move (v := .int .i64 0) rfl) ?_
 refine l_nil ?_
 refine c_block ?_
 refine c_fix (σ := Int) (τ := Unit) (fun next1 s => slices_IndexFunc_face_Person_l1 a0 a1 next1 s) (fun s t => [(0, v0), (1, v1), (7, .int .i64 (a0.length : Int)), (8, .int .i64 s)]) (fun s t => []) (fun s t => True) 0 () [] H (by exact trivial) (by exact ⟨rfl, rfl, rfl, rfl, trivial⟩) (by decide) rfl ?_
 rintro x8_2 _ m1 gg H9 _
 clear H
 replace H9 : slices_IndexFunc_face_Person_l1 a0 a1 (it (fun next1 s => slices_IndexFunc_face_Person_l1 a0 a1 next1 s) m1) x8_2 = some r := H9
 generalize hn1 : it (fun next1 s => slices_IndexFunc_face_Person_l1 a0 a1 next1 s) m1 = next1 at H9
 refine c_tidyF [(0, v0), (1, v1), (7, .int .i64 (a0.length : Int)), (8, .int .i64 x8_2)] [] rfl rfl ?_
 refine c_seq ?_
 refine c_region ?_
 refine l_val rfl rfl rfl (r_lss rfl rfl) ?_
 refine l_nil ?_
 refine c_seq ?_
 refine c_if (b := (decide (x8_2 < (a0.length : Int)))) rfl (fun hb => ?_) (fun hb => ?_)
 ·have H10 := cnd_t hb H9; clear H9
  refine c_skip ?_
  refine c_seq ?_
  refine c_block ?_
  refine c_seq ?_
  refine c_region ?_
  refine l_val rfl rfl rfl (r_move (v := .int .i64 x8_2) rfl) ?_
  refine l_val rfl rfl rfl (r_assign (v := .int .i64 x8_2) rfl) ?_
  refine l_nil ?_
  refine c_seq ?_
  refine c_region ?_
  refine l_val rfl rfl rfl (r_move (v := v1) rfl) ?_
  refine l_val rfl rfl rfl (r_move (v := v0) rfl) ?_
  refine l_val rfl rfl rfl (r_move (v := .int .i64 x8_2) rfl) ?_
  obtain ⟨t14, h_t14, H11⟩ := bnd_some H10; clear H10
  refine l_val rfl rfl rfl (r_indexF Tryz.underlying23 Tryz.sizeOf32 rfl rfl f0.frs (f0.ix h_t14)) ?_
  refine l_read (fun w hF hS => run_loadGN (f := (elC h v0 4)) (i := x8_2) (sz := 4) (j := 0) (vs := [.int .i64 t14.Id, str t14.Name, (elH h v0 4 (Int.toNat x8_2) 2), (elH h v0 4 (Int.toNat x8_2) 3)]) Tryz.isAgg32 Tryz.sizeOf32 rfl rfl (f0.frs.row (hw.now hF)) (f0.ix h_t14) (rd_of (cg_face_Person (f0.at h_t14)) rfl)) rfl rfl rfl ?_
  obtain ⟨t16, h_t16, H12⟩ := bnd_some H11; clear H11
  refine l_callV (R := fnR_func_face_Person_bool a1) (r := .bool t16) (v := v1) (fun w hF hS => ⟨(f1.mono (hw.now hF)), ⟨t14, _, _, _, ((show FrS h 1 (elH h v0 4 (Int.toNat x8_2) 2) (t14.Likes.map e_i64) from (g_face_Person_p2 (f0.at h_t14))).mono (hw.now hF)), ((show FrS h 1 (elH h v0 4 (Int.toNat x8_2) 3) (t14.Nots.map e_i64) from (g_face_Person_p3 (f0.at h_t14))).mono (hw.now hF)), rfl, h_t16, rfl⟩⟩) rfl rfl rfl rfl ?_
  refine l_nil ?_
  refine c_if (b := t16) rfl (fun hb => ?_) (fun hb => ?_)
  ·have H13 := cnd_t hb H12; clear H12
   refine c_seq ?_
   refine c_region ?_
   refine l_val rfl rfl rfl (r_move (v := .int .i64 x8_2) rfl) ?_
   refine l_val rfl rfl rfl (r_assign (v := .int .i64 x8_2) rfl) ?_
   refine l_nil ?_
   refine c_ret ?_
   obtain rfl := Option.some.inj H13
   refine ret1 (v := .int .i64 x8_2) rfl rfl (fin rfl)
  ·have H14 := cnd_f hb H12; clear H12
   refine c_skip ?_
   refine c_region ?_
   obtain ⟨t18, h_t18, H15⟩ := bnd_some H14; clear H14
   refine l_val rfl rfl rfl (r_addG rfl rfl h_t18) ?_
   refine l_val rfl rfl rfl (r_move (v := .int .i64 t18) rfl) ?_
   refine l_nil ?_
   refine c_close t18 () m1 [] (by exact ⟨rfl, rfl, rfl, rfl, trivial⟩) (by decide) rfl (by exact ⟨(by subst hn1; exact H15), trivial⟩) (Nat.lt_succ_self _)
 ·have H16 := cnd_f hb H9; clear H9
  refine c_exit ?_
  refine c_seq ?_
  refine c_region ?_
  refine l_val rfl rfl rfl (r_assign (v := .int .i64 (-1)) rfl) ?_
  refine l_nil ?_
  refine c_ret ?_
  obtain rfl := Option.some.inj H16
  refine ret1 (v := .int .i64 (-1)) rfl rfl (fin rfl)
theorem k83 {q0 : Int} {c0 : Nat} {a0 : T_face_Person} {v0_2 : Value} {v0_3 : Value} {r : Bool} {w : World} {h : Heap} (hw : Know h w noS) (hc0 : h c0 = some (.cells (List.toArray [.int .i64 q0]) 3 (0, 0))) (f0_2 : FrS h 1 v0_2 (a0.Likes.map e_i64)) (f0_3 : FrS h 1 v0_3 (a0.Nots.map e_i64)) (H : face_owner_1 q0 a0 = some r) : Does Tryz.prog 83 (List.toArray [.agg #[.int .i64 a0.Id, str a0.Name, v0_2, v0_3], .pointer (some ⟨c0, 0, none⟩)]) w (fun v w' => v = (.bool r) ∧ Grow w w') := by
 refine enter (n := 8) Tryz.func83 rfl rfl rfl noS [] (Sat.nil _ _) ?_
 refine c_seq ?_
 refine c_region ?_
 refine l_box (cs := [.int .i64 a0.Id, str a0.Name, v0_2, v0_3]) rfl rfl rfl rfl (fun b1 => ?_)
 refine l_val rfl rfl rfl (r_assign (v := .bool false) rfl) ?_
 refine l_nil ?_
 refine c_seq ?_
 refine c_region ?_
 refine l_val rfl rfl rfl (r_field Tryz.runUnderlying32 rfl Tryz.sizeOf24 rfl rfl) ?_
 refine l_load1 (i := 0) (v := v0_2) Tryz.isAgg24 rfl rfl rfl rfl rfl ?_
 refine l_read (fun w hF hS => run_loadK1 (v := .int .i64 q0) Tryz.isAgg3 rfl (hw.now hF _ _ hc0) rfl) rfl rfl rfl ?_
 obtain ⟨t7, h_t7, H2⟩ := bnd_some H; clear H
 refine l_callG (fun w hF hS => k55 (know_all w) (f0_2.mono (hw.now hF)) h_t7) Tryz.call55 rfl rfl rfl ?_
 refine l_val rfl rfl rfl (r_assign (v := .bool t7) rfl) ?_
 refine l_nil ?_
 refine c_ret ?_
 obtain rfl := Option.some.inj H2
 refine ret1 (v := .bool t7) rfl rfl (fin rfl)
theorem k34 {a0 : (List T_face_Person)} {v0 : Value} {a1 : Int} {r : Int} {w : World} {h : Heap} (hw : Know h w noS) (f0 : FrN h 4 v0 g_face_Person a0) (H : face_owner a0 a1 = some r) : Does Tryz.prog 34 (List.toArray [v0, .int .i64 a1]) w (fun v w' => v = (.int .i64 r) ∧ Grow w w') := by
 refine enter (n := 8) Tryz.func34 rfl rfl rfl noS [] (Sat.nil _ _) ?_
 refine c_seq ?_
 refine c_region ?_
 refine l_box (cs := [.int .i64 a1]) rfl rfl rfl rfl (fun b1 => ?_)
 refine l_val rfl rfl rfl (r_assign (v := .int .i64 0) rfl) ?_
 refine l_nil ?_
 refine c_seq ?_
 refine c_region ?_
 refine l_val rfl rfl rfl (r_move (v := v0) rfl) ?_
 refine l_val rfl rfl rfl (r_makeFn (caps := #[.pointer (some ⟨b1, 0, none⟩)]) rfl) ?_
 obtain ⟨t7, h_t7, H2⟩ := bnd_some H; clear H
 refine l_callG (fun w hF hS => k46 (know_all w) (f0.mono (hw.now hF)) (FnH.mk ⟨83, #[], #[.pointer (some ⟨b1, 0, none⟩)], rfl, Tryz.call83, fun args2 post2 w2 hk2 hR2 => by obtain ⟨a0_, v0_2_, v0_3_, r_, fa0_2_, fa0_3_, rfl, H_, rfl⟩ := hR2; exact k83 (know_all w2) (hk2.up _ _ (sat_cell (i := 0) hS rfl)) fa0_2_ fa0_3_ H_⟩) h_t7) Tryz.call46 rfl rfl rfl ?_
 refine l_val rfl rfl rfl (r_assign (v := .int .i64 t7) rfl) ?_
 refine l_nil ?_
 refine c_ret ?_
 obtain rfl := Option.some.inj H2
 refine ret1 (v := .int .i64 t7) rfl rfl (fin rfl)
theorem k101 {a0 : (List Int)} {v0 : Value} {a1 : Int} {r : Int} {w : World} {h : Heap} (hw : Know h w noS) (f0 : FrS h 1 v0 (a0.map e_i64)) (H : slices_Index_int a0 a1 = some r) : Does Tryz.prog 101 (List.toArray [v0, .int .i64 a1]) w (fun v w' => v = (.int .i64 r) ∧ Grow w w') := by
 refine enter (n := 19) Tryz.func101 rfl rfl rfl noS [] (Sat.nil _ _) ?_
 refine c_seq ?_
 refine c_region ?_
 refine l_val rfl rfl rfl (r_assign (v := .int .i64 0) rfl) ?_
 refine l_nil ?_
 refine c_seq ?_
 refine c_seq ?_
 refine c_region ?_
 refine l_val rfl rfl rfl (r_move (v := v0) rfl) ?_
 refine l_val rfl rfl rfl (r_lenF Tryz.underlying24 rfl f0 rfl) ?_
 refine l_val rfl rfl rfl (r_move (v := .int .i64 0) rfl) ?_
 refine l_nil ?_
 refine c_block ?_
 refine c_fix (σ := Int) (τ := Unit) (fun next1 s => slices_Index_int_l1 a0 a1 next1 s) (fun s t => [(0, v0), (1, .int .i64 a1), (7, .int .i64 (a0.length : Int)), (8, .int .i64 s)]) (fun s t => []) (fun s t => True) 0 () [] H (by exact trivial) (by exact ⟨rfl, rfl, rfl, rfl, trivial⟩) (by decide) rfl ?_
 rintro x8_2 _ m1 gg H8 _
 clear H
 replace H8 : slices_Index_int_l1 a0 a1 (it (fun next1 s => slices_Index_int_l1 a0 a1 next1 s) m1) x8_2 = some r := H8
 generalize hn1 : it (fun next1 s => slices_Index_int_l1 a0 a1 next1 s) m1 = next1 at H8
 refine c_tidyF [(0, v0), (1, .int .i64 a1), (7, .int .i64 (a0.length : Int)), (8, .int .i64 x8_2)] [] rfl rfl ?_
 refine c_seq ?_
 refine c_region ?_
 refine l_val rfl rfl rfl (r_lss rfl rfl) ?_
 refine l_nil ?_
 refine c_seq ?_
 refine c_if (b := (decide (x8_2 < (a0.length : Int)))) rfl (fun hb => ?_) (fun hb => ?_)
 ·have H9 := cnd_t hb H8; clear H8
  refine c_skip ?_
  refine c_seq ?_
  refine c_block ?_
  refine c_seq ?_
  refine c_region ?_
  refine l_val rfl rfl rfl (r_move (v := .int .i64 x8_2) rfl) ?_
  refine l_val rfl rfl rfl (r_assign (v := .int .i64 x8_2) rfl) ?_
  refine l_nil ?_
  refine c_seq ?_
  refine c_region ?_
  refine l_val rfl rfl rfl (r_move (v := .int .i64 a1) rfl) ?_
  refine l_val rfl rfl rfl (r_move (v := v0) rfl) ?_
  refine l_val rfl rfl rfl (r_move (v := .int .i64 x8_2) rfl) ?_
  obtain ⟨t14, h_t14, H10⟩ := bnd_some H9; clear H9
  refine l_val rfl rfl rfl (r_indexF Tryz.underlying24 Tryz.sizeOf3 rfl rfl f0 h_t14) ?_
  refine l_read (fun w hF hS => run_loadG1 (f := e_i64) (i := x8_2) (sz := 1) (j := 0) (v := .int .i64 t14) Tryz.isAgg3 rfl rfl (f0.row (hw.now hF)) h_t14 rfl) rfl rfl rfl ?_
  refine l_val rfl rfl rfl (r_eql rfl rfl) ?_
  refine l_nil ?_
  refine c_if (b := (decide (a1 = t14))) rfl (fun hb => ?_) (fun hb => ?_)
  ·have H11 := cnd_t hb H10; clear H10
   refine c_seq ?_
   refine c_region ?_
   refine l_val rfl rfl rfl (r_move (v := .int .i64 x8_2) rfl) ?_
   refine l_val rfl rfl rfl (r_assign (v := .int .i64 x8_2) rfl) ?_
   refine l_nil ?_
   refine c_ret ?_
   obtain rfl := Option.some.inj H11
   refine ret1 (v := .int .i64 x8_2) rfl rfl (fin rfl)
  ·have H12 := cnd_f hb H10; clear H10
   refine c_skip ?_
   refine c_region ?_
   obtain ⟨t18, h_t18, H13⟩ := bnd_some H12; clear H12
   refine l_val rfl rfl rfl (r_addG rfl rfl h_t18) ?_
   refine l_val rfl rfl rfl (r_move (v := .int .i64 t18) rfl) ?_
   refine l_nil ?_
   refine c_close t18 () m1 [] (by exact ⟨rfl, rfl, rfl, rfl, trivial⟩) (by decide) rfl (by exact ⟨(by subst hn1; exact H13), trivial⟩) (Nat.lt_succ_self _)
 ·have H14 := cnd_f hb H8; clear H8
  refine c_exit ?_
  refine c_seq ?_
  refine c_region ?_
  refine l_val rfl rfl rfl (r_assign (v := .int .i64 (-1)) rfl) ?_
  refine l_nil ?_
  refine c_ret ?_
  obtain rfl := Option.some.inj H14
  refine ret1 (v := .int .i64 (-1)) rfl rfl (fin rfl)
theorem k53 {a0 : (List Int)} {v0 : Value} {a1 : Int} {r : Bool} {w : World} {h : Heap} (hw : Know h w noS) (f0 : FrS h 1 v0 (a0.map e_i64)) (H : slices_Contains_int a0 a1 = some r) : Does Tryz.prog 53 (List.toArray [v0, .int .i64 a1]) w (fun v w' => v = (.bool r) ∧ Grow w w') := by
 refine enter (n := 9) Tryz.func53 rfl rfl rfl noS [] (Sat.nil _ _) ?_
 refine c_seq ?_
 refine c_region ?_
 refine l_val rfl rfl rfl (r_assign (v := .bool false) rfl) ?_
 refine l_nil ?_
 refine c_seq ?_
 refine c_region ?_
 refine l_val rfl rfl rfl (r_move (v := v0) rfl) ?_
 refine l_val rfl rfl rfl (r_move (v := .int .i64 a1) rfl) ?_
 obtain ⟨t7, h_t7, H2⟩ := bnd_some H; clear H
 refine l_callG (fun w hF hS => k101 (know_all w) (f0.mono (hw.now hF)) h_t7) Tryz.call101 rfl rfl rfl ?_
 refine l_val rfl rfl rfl (r_geq rfl rfl) ?_
 refine l_val rfl rfl rfl (r_assign (v := .bool (decide (0 ≤ t7))) rfl) ?_
 refine l_nil ?_
 refine c_ret ?_
 obtain rfl := Option.some.inj H2
 refine ret1 (v := .bool (decide (0 ≤ t7))) rfl rfl (fin rfl)
theorem k35 {a0 : (List T_face_Likeness)} {v0 : Value} {a1 : T_face_Person} {v1_2 : Value} {v1_3 : Value} {a2 : Int} {r : Bool} {w : World} {h : Heap} (hw : Know h w noS) (f0 : FrS h 14 v0 (a0.map e_face_Likeness)) (f1_2 : FrS h 1 v1_2 (a1.Likes.map e_i64)) (f1_3 : FrS h 1 v1_3 (a1.Nots.map e_i64)) (H : face_hasPhoto a0 a1 a2 = some r) : Does Tryz.prog 35 (List.toArray [v0, .agg #[.int .i64 a1.Id, str a1.Name, v1_2, v1_3], .int .i64 a2]) w (fun v w' => v = (.bool r) ∧ Grow w w') := by
 refine enter (n := 15) Tryz.func35 rfl rfl rfl noS [] (Sat.nil _ _) ?_
 refine c_seq ?_
 refine c_region ?_
 refine l_box (cs := [.int .i64 a1.Id, str a1.Name, v1_2, v1_3]) rfl rfl rfl rfl (fun b1 => ?_)
 refine l_val rfl rfl rfl (r_assign (v := .bool false) rfl) ?_
 refine l_nil ?_
 refine c_seq ?_
 refine c_region ?_
 refine l_val rfl rfl rfl (r_move (v := v0) rfl) ?_
 refine l_val rfl rfl rfl (r_field Tryz.runUnderlying32 rfl Tryz.sizeOf24 rfl rfl) ?_
 refine l_load1 (i := 0) (v := v1_2) Tryz.isAgg24 rfl rfl rfl rfl rfl ?_
 obtain ⟨t10, h_t10, H4⟩ := bnd_some H; clear H
 refine l_make (makes_call (rds := []) (G := fun x : (Option Addr × Nat) => .slice x.1 t10.length x.2) (C := fun x : (Option Addr × Nat) => rowV 3 1 (.slice x.1 t10.length x.2) t10.length (t10.map e_i64)) (fun w L' hF hS hi => k39 (know_all w) (f0.mono (hw.now hF)) (f1_2.mono (hw.now hF)) h_t10) Tryz.call39 rfl) rfl rfl rfl (fun p => ?_)
 refine l_val rfl rfl rfl (r_move (v := v0) rfl) ?_
 refine l_val rfl rfl rfl (r_move (v := .int .i64 a2) rfl) ?_
 obtain ⟨t13, h_t13, H5⟩ := bnd_some H4; clear H4
 refine l_callG (fun w hF hS => k84 (know_all w) (f0.mono (hw.now hF)) h_t13) Tryz.call84 rfl rfl rfl ?_
 obtain ⟨t14, h_t14, H6⟩ := bnd_some H5; clear H5
 refine l_callG (fun w hF hS => k53 (know_all w) (frs_own (i := 1) rfl hS rfl) h_t14) Tryz.call53 rfl rfl rfl ?_
 refine l_val rfl rfl rfl (r_assign (v := .bool t14) rfl) ?_
 refine l_nil ?_
 refine c_ret ?_
 obtain rfl := Option.some.inj H6
 refine ret1 (v := .bool t14) rfl rfl (fin rfl)
theorem k31 {a0 : Int} {a1 : Int} {r : Int} (H : cmp_Compare_int a0 a1 = some r) : Ret Tryz.prog 31 [.int .i64 a0, .int .i64 a1] (.int .i64 r) := by
 refine enterRet (n := 20) Tryz.func31 rfl rfl rfl (fun wd => ?_)
 refine c_seq ?_
 refine c_region ?_
 refine l_val rfl rfl rfl (r_assign (v := .int .i64 0) rfl) ?_
 refine l_nil ?_
 refine c_seq ?_
 refine c_region ?_
 refine l_val rfl rfl rfl (r_move (v := .int .i64 a0) rfl) ?_
 obtain ⟨t8, h_t8, H13⟩ := bnd_some H; clear H
 refine l_call (k80 h_t8) Tryz.call80 rfl rfl rfl ?_
 refine l_val rfl rfl rfl (r_assign (v := .bool t8) rfl) ?_
 refine l_nil ?_
 refine c_seq ?_
 refine c_region ?_
 refine l_val rfl rfl rfl (r_move (v := .int .i64 a1) rfl) ?_
 obtain ⟨t10, h_t10, H14⟩ := bnd_some H13; clear H13
 refine l_call (k80 h_t10) Tryz.call80 rfl rfl rfl ?_
 refine l_val rfl rfl rfl (r_assign (v := .bool t10) rfl) ?_
 refine l_nil ?_
 refine c_seq ?_
 refine c_seq ?_
 refine c_region ?_
 refine l_val rfl rfl rfl (r_move (v := .bool t8) rfl) ?_
 refine l_nil ?_
 refine c_if (b := t8) rfl (fun hb => ?_) (fun hb => ?_)
 ·have H15 := cnd_t hb H14; clear H14
  refine c_seq ?_
  refine c_seq ?_
  refine c_region ?_
  refine l_val rfl rfl rfl (r_move (v := .bool t10) rfl) ?_
  refine l_nil ?_
  refine c_if (b := t10) rfl (fun hb => ?_) (fun hb => ?_)
  ·have H16 := cnd_t hb H15; clear H15
   refine c_seq ?_
   refine c_region ?_
   refine l_val rfl rfl rfl (r_assign (v := .int .i64 0) rfl) ?_
   refine l_nil ?_
   refine c_ret ?_
   obtain rfl := Option.some.inj H16
   refine ret1 (v := .int .i64 0) rfl rfl (fin rfl)
  ·have H17 := cnd_f hb H15; clear H15
   refine c_skip ?_
   refine c_seq ?_
   refine c_region ?_
   refine l_val rfl rfl rfl (r_assign (v := .int .i64 (-1)) rfl) ?_
   refine l_nil ?_
   refine c_ret ?_
   obtain rfl := Option.some.inj H17
   refine ret1 (v := .int .i64 (-1)) rfl rfl (fin rfl)
 ·have H18 := cnd_f hb H14; clear H14
  refine c_skip ?_
  refine c_seq ?_
  refine c_seq ?_
  refine c_region ?_
  refine l_val rfl rfl rfl (r_move (v := .bool t10) rfl) ?_
  refine l_nil ?_
  refine c_if (b := t10) rfl (fun hb => ?_) (fun hb => ?_)
  ·have H19 := cnd_t hb H18; clear H18
   refine c_seq ?_
   refine c_region ?_
   refine l_val rfl rfl rfl (r_assign (v := .int .i64 1) rfl) ?_
   refine l_nil ?_
   refine c_ret ?_
   obtain rfl := Option.some.inj H19
   refine ret1 (v := .int .i64 1) rfl rfl (fin rfl)
  ·have H20 := cnd_f hb H18; clear H18
   refine c_skip ?_
   refine c_seq ?_
   refine c_seq ?_
   refine c_region ?_
   refine l_val rfl rfl rfl (r_move (v := .int .i64 a0) rfl) ?_
   refine l_val rfl rfl rfl (r_move (v := .int .i64 a1) rfl) ?_
   refine l_val rfl rfl rfl (r_lss rfl rfl) ?_
   refine l_nil ?_
   refine c_if (b := (decide (a0 < a1))) rfl (fun hb => ?_) (fun hb => ?_)
   ·have H21 := cnd_t hb H20; clear H20
    refine c_seq ?_
    refine c_region ?_
    refine l_val rfl rfl rfl (r_assign (v := .int .i64 (-1)) rfl) ?_
    refine l_nil ?_
    refine c_ret ?_
    obtain rfl := Option.some.inj H21
    refine ret1 (v := .int .i64 (-1)) rfl rfl (fin rfl)
   ·have H22 := cnd_f hb H20; clear H20
    refine c_skip ?_
    refine c_seq ?_
    refine c_seq ?_
    refine c_region ?_
    refine l_val rfl rfl rfl (r_move (v := .int .i64 a0) rfl) ?_
    refine l_val rfl rfl rfl (r_move (v := .int .i64 a1) rfl) ?_
    refine l_val rfl rfl rfl (r_gtr rfl rfl) ?_
    refine l_nil ?_
    refine c_if (b := (decide (a1 < a0))) rfl (fun hb => ?_) (fun hb => ?_)
    ·have H23 := cnd_t hb H22; clear H22
     refine c_seq ?_
     refine c_region ?_
     refine l_val rfl rfl rfl (r_assign (v := .int .i64 1) rfl) ?_
     refine l_nil ?_
     refine c_ret ?_
     obtain rfl := Option.some.inj H23
     refine ret1 (v := .int .i64 1) rfl rfl (fin rfl)
    ·have H24 := cnd_f hb H22; clear H22
     refine c_skip ?_
     refine c_seq ?_
     refine c_region ?_
     refine l_val rfl rfl rfl (r_assign (v := .int .i64 0) rfl) ?_
     refine l_nil ?_
     refine c_ret ?_
     obtain rfl := Option.some.inj H24
     refine ret1 (v := .int .i64 0) rfl rfl (fin rfl)
theorem k44 {a : Option Addr} {n c : Nat} (hc : n ≤ c) : Ret Tryz.prog 44 [.slice a n c] (.slice (cutA a 0 n 4) n n) := by
  refine enterRet (n := 9) Tryz.func44 rfl rfl rfl (fun wd => ?_)
  refine c_seq ?_
  refine c_region ?_
  refine l_val rfl rfl rfl (r_assign (v := .slice none 0 0) rfl) ?_
  refine l_nil ?_
  refine c_seq ?_
  refine c_region ?_
  refine l_val rfl rfl rfl (r_move (v := .slice a n c) rfl) ?_
  refine l_val rfl rfl rfl (r_move (v := .slice a n c) rfl) ?_
  refine l_val rfl rfl rfl (r_len Tryz.underlying23 rfl) ?_
  refine l_val rfl rfl rfl (r_move (v := .slice a n c) rfl) ?_
  refine l_val rfl rfl rfl (r_len Tryz.underlying23 rfl) ?_
  refine l_val rfl rfl rfl (r_sliceHM (a := a) (m := n) (c := c) (h := (n : Int)) (q := (n : Int)) Tryz.underlying23 Tryz.sizeOf32 rfl rfl rfl (Int.natCast_nonneg n) (Int.le_refl _) (Int.ofNat_le.2 hc)) ?_
  refine l_val rfl rfl rfl (r_assign (v := .slice (cutA a 0 n 4) n n) rfl) ?_
  refine l_nil ?_
  refine c_ret ?_
  exact ret1 (v := .slice (cutA a 0 n 4) n n) rfl rfl (fin rfl)

theorem k32 {a0 : (List T_face_Person)} {v0 : Value} {r : (List T_face_Person)} {w : World} {h : Heap} (hw : Know h w noS) (f0 : FrN h 4 v0 g_face_Person a0) (H : face_copyPeople a0 = some r) : Does Tryz.prog 32 (List.toArray [v0]) w (fun v w' => ∃ x : (Option Addr × Nat), v = (.slice x.1 r.length x.2) ∧ Turn w w' noS (rofD true 32 4 g_face_Person (.slice x.1 r.length x.2) r.length r)) := by
 refine enter (n := 27) Tryz.func32 rfl rfl rfl noS [] (Sat.nil _ _) ?_
 refine c_poolNew noH ?_
 refine c_seq ?_
 refine c_region ?_
 refine l_val rfl rfl rfl (r_assign (v := .slice none 0 0) rfl) ?_
 refine l_nil ?_
 refine c_seq ?_
 refine c_region ?_
 refine l_val rfl rfl rfl (r_assign (v := .slice none 0 0) rfl) ?_
 refine l_nil ?_
 refine c_meet (r := r) (σ := (List T_face_Person)) (τ := Heap × (List (List Value)) × (Option Addr × Nat)) (fun s => face_copyPeople_j1 s) (fun s t => [(3, .slice t.2.2.1 t.2.1.length t.2.2.2)]) (fun s t => [poolC noH t.1, rowV 32 4 (.slice t.2.2.1 t.2.1.length t.2.2.2) t.2.1.length (t.2.1.map idC)]) (fun s t => AllC g_face_Person t.1 4 t.2.1 s) ?_ ?_
 ·refine c_seq ?_
  refine c_region ?_
  refine l_val rfl rfl rfl (r_move (v := v0) rfl) ?_
  refine l_val rfl rfl rfl (r_lenFN Tryz.underlying23 rfl f0) ?_
  refine l_val rfl rfl rfl (r_move (v := .int .i64 0) rfl) ?_
  refine l_nil ?_
  refine c_block ?_
  refine c_nilRow 32 4 ?_
  refine c_fix (σ := Int × Int × (List T_face_Person)) (τ := Heap × (List (List Value)) × (Option Addr × Nat)) (fun next2 s => face_copyPeople_l2 a0 next2 s.1 s.2.1 s.2.2) (fun s t => [(3, .slice t.2.2.1 t.2.1.length t.2.2.2), (6, v0), (7, .int .i64 s.1), (8, .int .i64 s.2.1)]) (fun s t => [poolC noH t.1, rowV 32 4 (.slice t.2.2.1 t.2.1.length t.2.2.2) t.2.1.length (t.2.1.map idC)]) (fun s t => AllC g_face_Person t.1 4 t.2.1 s.2.2) ((a0.length : Int), 0, ([] : List T_face_Person)) (noH, ([] : List (List Value)), ((none, 0) : Option Addr × Nat)) [0, 1] H (by exact (AllC.nil (G := g_face_Person) (h := noH) (sz := 4))) (by exact ⟨rfl, rfl, rfl, rfl, trivial⟩) (by decide) rfl ?_
  rintro ⟨x7_2, x8_2, l_3⟩ ⟨hp_2, css_2, p_2⟩ m2 gg H20 pf_3
  clear H
  replace H20 : face_copyPeople_l2 a0 (it (fun next2 s => face_copyPeople_l2 a0 next2 s.1 s.2.1 s.2.2) m2) x7_2 x8_2 l_3 = some r := H20
  generalize hn2 : it (fun next2 s => face_copyPeople_l2 a0 next2 s.1 s.2.1 s.2.2) m2 = next2 at H20
  refine c_tidyF [(3, .slice p_2.1 css_2.length p_2.2), (6, v0), (7, .int .i64 x7_2), (8, .int .i64 x8_2)] [poolC noH hp_2, rowV 32 4 (.slice p_2.1 css_2.length p_2.2) css_2.length (css_2.map idC)] rfl rfl ?_
  refine c_seq ?_
  refine c_region ?_
  refine l_val rfl rfl rfl (r_lss rfl rfl) ?_
  refine l_nil ?_
  refine c_seq ?_
  refine c_if (b := (decide (x8_2 < x7_2))) rfl (fun hb => ?_) (fun hb => ?_)
  ·have H21 := cnd_t hb H20; clear H20
   refine c_skip ?_
   refine c_seq ?_
   refine c_block ?_
   refine c_seq ?_
   refine c_region ?_
   obtain ⟨t10, h_t10, H22⟩ := bnd_some H21; clear H21
   refine l_val rfl rfl rfl (r_indexF Tryz.underlying23 Tryz.sizeOf32 rfl rfl f0.frs (f0.ix h_t10)) ?_
   refine l_read (fun w hF hS => run_loadGN (f := (elC h v0 4)) (i := x8_2) (sz := 4) (j := 0) (vs := [.int .i64 t10.Id, str t10.Name, (elH h v0 4 (Int.toNat x8_2) 2), (elH h v0 4 (Int.toNat x8_2) 3)]) Tryz.isAgg32 Tryz.sizeOf32 rfl rfl (f0.frs.row (hw.now hF)) (f0.ix h_t10) (rd_of (cg_face_Person (f0.at h_t10)) rfl)) rfl rfl rfl ?_
   refine l_alloc (cs := [.int .i64 0, str [], .slice none 0 0, .slice none 0 0]) Tryz.zeroValue32 rfl rfl rfl (fun b4 => ?_)
   refine l_store (i := 2) (vs := [.int .i64 t10.Id, str t10.Name, (elH h v0 4 (Int.toNat x8_2) 2), (elH h v0 4 (Int.toNat x8_2) 3)]) (cs' := [.int .i64 t10.Id, str t10.Name, (elH h v0 4 (Int.toNat x8_2) 2), (elH h v0 4 (Int.toNat x8_2) 3)]) Tryz.sizeOf32 rfl rfl rfl rfl rfl rfl (by simp only [List.all_cons, List.all_nil, (show FrS h 1 (elH h v0 4 (Int.toNat x8_2) 2) (t10.Likes.map e_i64) from (g_face_Person_p2 (f0.at h_t10))).one, (show FrS h 1 (elH h v0 4 (Int.toNat x8_2) 3) (t10.Nots.map e_i64) from (g_face_Person_p3 (f0.at h_t10))).one] <;> rfl) rfl rfl ?_
   refine l_nil ?_
   refine c_sel [0, 1, 2] [poolC noH hp_2, rowV 32 4 (.slice p_2.1 css_2.length p_2.2) css_2.length (css_2.map idC), cellsC b4 [.int .i64 t10.Id, str t10.Name, (elH h v0 4 (Int.toNat x8_2) 2), (elH h v0 4 (Int.toNat x8_2) 3)] 32] rfl (by decide) ?_
   refine c_seq ?_
   exact c_regionD (Kd.p :: Kd.d [2] _ :: Kd.t 3 [0] _ _ :: Kd.p :: Kd.d [2] _ :: Kd.t 4 [0] _ _ :: Kd.p :: Kd.sv 18 14 2 _ 32 :: Kd.p :: Kd.stk 19 17 2 :: []) 2 mixed (by
    refine d_val rfl rfl (r_field Tryz.runUnderlying32 rfl Tryz.sizeOf24 rfl rfl) ?_
    refine d_load1 (i := 2) (v := (elH h v0 4 (Int.toNat x8_2) 2)) Tryz.isAgg24 rfl rfl rfl rfl ?_
    have h_t14 := bnd_val H22
    have H23 := bnd_rest H22
    refine d_make (Cv := fun v => roV 1 v (val (face_with t10.Likes ([] : (List Int)))).length ((val (face_with t10.Likes ([] : (List Int)))).map e_i64)) (none, 0) (makes_call (G := fun x : (Option Addr × Nat) => .slice x.1 (val (face_with t10.Likes ([] : (List Int)))).length x.2) (C := fun x : (Option Addr × Nat) => roV 1 (.slice x.1 (val (face_with t10.Likes ([] : (List Int)))).length x.2) (val (face_with t10.Likes ([] : (List Int)))).length ((val (face_with t10.Likes ([] : (List Int)))).map e_i64)) (fun w L' hF hS hi => k36 (know_all w) ((show FrS h 1 (elH h v0 4 (Int.toNat x8_2) 2) (t10.Likes.map e_i64) from (g_face_Person_p2 (f0.at h_t10))).mono (hw.now hF)) (FrS.nil _ _) h_t14) Tryz.call36 rfl) (fun _ => rfl) rfl rfl rfl (fun p_3 => ?_)
    refine d_val rfl rfl (r_field Tryz.runUnderlying32 rfl Tryz.sizeOf24 rfl rfl) ?_
    refine d_load1 (i := 2) (v := (elH h v0 4 (Int.toNat x8_2) 3)) Tryz.isAgg24 rfl rfl rfl rfl ?_
    have h_t17 := bnd_val H23
    have H24 := bnd_rest H23
    refine d_make (Cv := fun v => roV 1 v (val (face_with t10.Nots ([] : (List Int)))).length ((val (face_with t10.Nots ([] : (List Int)))).map e_i64)) (none, 0) (makes_call (G := fun x : (Option Addr × Nat) => .slice x.1 (val (face_with t10.Nots ([] : (List Int)))).length x.2) (C := fun x : (Option Addr × Nat) => roV 1 (.slice x.1 (val (face_with t10.Nots ([] : (List Int)))).length x.2) (val (face_with t10.Nots ([] : (List Int)))).length ((val (face_with t10.Nots ([] : (List Int)))).map e_i64)) (fun w L' hF hS hi => k36 (know_all w) ((show FrS h 1 (elH h v0 4 (Int.toNat x8_2) 3) (t10.Nots.map e_i64) from (g_face_Person_p3 (f0.at h_t10))).mono (hw.now hF)) (FrS.nil _ _) h_t17) Tryz.call36 rfl) (fun _ => rfl) rfl rfl rfl (fun p_4 => ?_)
    refine d_val rfl rfl (r_field Tryz.runUnderlying32 rfl Tryz.sizeOf24 rfl rfl) ?_
    refine d_storeV (i := 2) (vs := [.slice p_3.1 (val (face_with t10.Likes ([] : (List Int)))).length p_3.2]) (cs' := fun v_ => [.int .i64 t10.Id, str t10.Name, v_, (elH h v0 4 (Int.toNat x8_2) 3)]) Tryz.sizeOf24 rfl rfl rfl rfl rfl rfl rfl rfl rfl ?_
    refine d_val rfl rfl (r_field Tryz.runUnderlying32 rfl Tryz.sizeOf24 rfl rfl) ?_
    refine d_storeC (i := 2) (x := .slice p_4.1 (val (face_with t10.Nots ([] : (List Int)))).length p_4.2) (va := .pointer (some ⟨b4, 3, none⟩)) Tryz.sizeOf24 rfl rfl rfl rfl rfl rfl (blk_box (b := b4) (o := 3) (T := 32) (cs := [.int .i64 t10.Id, str t10.Name, .slice p_3.1 (val (face_with t10.Likes ([] : (List Int)))).length p_3.2, (elH h v0 4 (Int.toNat x8_2) 3)]) (Imp.refl _) rfl rfl) ?_
    refine d_nil ?_
    refine c_imp 2 rfl (imp_stB (cs := [.int .i64 t10.Id, str t10.Name, .slice p_3.1 (val (face_with t10.Likes ([] : (List Int)))).length p_3.2, (elH h v0 4 (Int.toNat x8_2) 3)]) (cs' := [.int .i64 t10.Id, str t10.Name, .slice p_3.1 (val (face_with t10.Likes ([] : (List Int)))).length p_3.2, .slice p_4.1 (val (face_with t10.Nots ([] : (List Int)))).length p_4.2]) (Imp.refl _) rfl) ?_
    refine c_sel [0, 1, 2, 3, 4] [poolC noH hp_2, rowV 32 4 (.slice p_2.1 css_2.length p_2.2) css_2.length (css_2.map idC), cellsC b4 [.int .i64 t10.Id, str t10.Name, .slice p_3.1 (val (face_with t10.Likes ([] : (List Int)))).length p_3.2, .slice p_4.1 (val (face_with t10.Nots ([] : (List Int)))).length p_4.2] 32, roV 1 (.slice p_3.1 (val (face_with t10.Likes ([] : (List Int)))).length p_3.2) (val (face_with t10.Likes ([] : (List Int)))).length ((val (face_with t10.Likes ([] : (List Int)))).map e_i64), roV 1 (.slice p_4.1 (val (face_with t10.Nots ([] : (List Int)))).length p_4.2) (val (face_with t10.Nots ([] : (List Int)))).length ((val (face_with t10.Nots ([] : (List Int)))).map e_i64)] rfl (by decide) ?_
    refine c_region ?_
    refine l_val rfl rfl rfl (r_move (v := .slice p_2.1 css_2.length p_2.2) rfl) ?_
    refine l_loadN (i := 2) (vs := [.int .i64 t10.Id, str t10.Name, .slice p_3.1 (val (face_with t10.Likes ([] : (List Int)))).length p_3.2, .slice p_4.1 (val (face_with t10.Nots ([] : (List Int)))).length p_4.2]) Tryz.isAgg32 Tryz.sizeOf32 rfl rfl rfl rfl rfl ?_
    refine l_buildSlice (vs := [.agg #[.int .i64 t10.Id, str t10.Name, .slice p_3.1 (val (face_with t10.Likes ([] : (List Int)))).length p_3.2, .slice p_4.1 (val (face_with t10.Nots ([] : (List Int)))).length p_4.2]]) (cs := [.int .i64 t10.Id, str t10.Name, .slice p_3.1 (val (face_with t10.Likes ([] : (List Int)))).length p_3.2, .slice p_4.1 (val (face_with t10.Nots ([] : (List Int)))).length p_4.2]) Tryz.underlying23 Tryz.sizeOf32 Tryz.zeroValue32 rfl rfl rfl rfl rfl rfl rfl (fun b5 => ?_)
    refine c_freeze (Φ := fun H_ => FrS H_ 1 (.slice p_3.1 (val (face_with t10.Likes ([] : (List Int)))).length p_3.2) ((val (face_with t10.Likes ([] : (List Int)))).map e_i64)) 0 3 rfl rfl (by decide) (fun _ _ => noH_le) (fz_ro _) (fun hp_3 hle hf => ?_)
    refine c_freeze (Φ := fun H_ => FrS H_ 1 (.slice p_4.1 (val (face_with t10.Nots ([] : (List Int)))).length p_4.2) ((val (face_with t10.Nots ([] : (List Int)))).map e_i64)) 0 4 rfl rfl (by decide) (fun _ _ => noH_le) (fz_ro _) (fun hp_4 hle_2 hf_2 => ?_)
    obtain ⟨l23, h_l23, H25⟩ := bnd_some H24; clear H24
    refine l_turn (turns_appendM (i := 1) (k := 5) (p := p_2) (f := idC) (ys := css_2) (ls := [[.int .i64 t10.Id, str t10.Name, .slice p_3.1 (val (face_with t10.Likes ([] : (List Int)))).length p_3.2, .slice p_4.1 (val (face_with t10.Nots ([] : (List Int)))).length p_4.2]]) Tryz.underlying23 (info_of Tryz.typeInfo32) rfl rfl rfl rfl rfl rfl rfl rfl rfl rfl rfl rfl rfl rfl (by simp only [idC, List.map_cons, List.map_nil, List.all_cons, List.all_nil, (hf.mono hle_2).one, hf_2.one] <;> rfl) (app63 (((pf_3.mono hle).mono hle_2).app h_l23 (nc := [[.int .i64 t10.Id, str t10.Name, .slice p_3.1 (val (face_with t10.Likes ([] : (List Int)))).length p_3.2, .slice p_4.1 (val (face_with t10.Nots ([] : (List Int)))).length p_4.2]]) rfl)) rfl) rfl rfl rfl (fun p_5 => ?_)
    have pf_4 : AllC g_face_Person hp_4 4 (css_2 ++ [[.int .i64 t10.Id, str t10.Name, .slice p_3.1 (val (face_with t10.Likes ([] : (List Int)))).length p_3.2, .slice p_4.1 (val (face_with t10.Nots ([] : (List Int)))).length p_4.2]]) l23 := AllC.snocG ((pf_3.mono hle).mono hle_2) h_l23 rfl (⟨rfl, rfl, (hf.mono hle_2), hf_2⟩)
    refine l_val rfl rfl rfl (r_assign (v := .slice p_5.1 ((css_2 ++ [[.int .i64 t10.Id, str t10.Name, .slice p_3.1 (val (face_with t10.Likes ([] : (List Int)))).length p_3.2, .slice p_4.1 (val (face_with t10.Nots ([] : (List Int)))).length p_4.2]]).length) p_5.2) rfl) ?_
    refine l_nil ?_
    refine c_sel [0, 1, 2, 3, 4, 5] [poolC noH hp_4, rowV 32 4 (.slice p_5.1 ((css_2 ++ [[.int .i64 t10.Id, str t10.Name, .slice p_3.1 (val (face_with t10.Likes ([] : (List Int)))).length p_3.2, .slice p_4.1 (val (face_with t10.Nots ([] : (List Int)))).length p_4.2]]).length) p_5.2) ((css_2 ++ [[.int .i64 t10.Id, str t10.Name, .slice p_3.1 (val (face_with t10.Likes ([] : (List Int)))).length p_3.2, .slice p_4.1 (val (face_with t10.Nots ([] : (List Int)))).length p_4.2]]).length) ((css_2 ++ [[.int .i64 t10.Id, str t10.Name, .slice p_3.1 (val (face_with t10.Likes ([] : (List Int)))).length p_3.2, .slice p_4.1 (val (face_with t10.Nots ([] : (List Int)))).length p_4.2]]).map idC), cellsC b4 [.int .i64 t10.Id, str t10.Name, (.slice p_3.1 (val (face_with t10.Likes ([] : (List Int)))).length p_3.2), (.slice p_4.1 (val (face_with t10.Nots ([] : (List Int)))).length p_4.2)] 32, _, _, cellsC b5 [.int .i64 t10.Id, str t10.Name, .slice p_3.1 (val (face_with t10.Likes ([] : (List Int)))).length p_3.2, .slice p_4.1 (val (face_with t10.Nots ([] : (List Int)))).length p_4.2] 32] rfl (by decide) ?_
    refine c_region ?_
    obtain ⟨t24, h_t24, H26⟩ := bnd_some H25; clear H25
    refine l_val rfl rfl rfl (r_addG rfl rfl h_t24) ?_
    refine l_val rfl rfl rfl (r_move (v := .int .i64 t24) rfl) ?_
    refine l_nil ?_
    refine c_sel [0, 1, 2, 3, 4, 5] [poolC noH hp_4, rowV 32 4 (.slice p_5.1 ((css_2 ++ [[.int .i64 t10.Id, str t10.Name, .slice p_3.1 (val (face_with t10.Likes ([] : (List Int)))).length p_3.2, .slice p_4.1 (val (face_with t10.Nots ([] : (List Int)))).length p_4.2]]).length) p_5.2) ((css_2 ++ [[.int .i64 t10.Id, str t10.Name, .slice p_3.1 (val (face_with t10.Likes ([] : (List Int)))).length p_3.2, .slice p_4.1 (val (face_with t10.Nots ([] : (List Int)))).length p_4.2]]).length) ((css_2 ++ [[.int .i64 t10.Id, str t10.Name, .slice p_3.1 (val (face_with t10.Likes ([] : (List Int)))).length p_3.2, .slice p_4.1 (val (face_with t10.Nots ([] : (List Int)))).length p_4.2]]).map idC), cellsC b4 [.int .i64 t10.Id, str t10.Name, (.slice p_3.1 (val (face_with t10.Likes ([] : (List Int)))).length p_3.2), (.slice p_4.1 (val (face_with t10.Nots ([] : (List Int)))).length p_4.2)] 32, _, _, cellsC b5 [.int .i64 t10.Id, str t10.Name, .slice p_3.1 (val (face_with t10.Likes ([] : (List Int)))).length p_3.2, .slice p_4.1 (val (face_with t10.Nots ([] : (List Int)))).length p_4.2] 32] rfl (by decide) ?_
    refine c_close (x7_2, t24, l23) (hp_4, (css_2 ++ [[.int .i64 t10.Id, str t10.Name, .slice p_3.1 (val (face_with t10.Likes ([] : (List Int)))).length p_3.2, .slice p_4.1 (val (face_with t10.Nots ([] : (List Int)))).length p_4.2]]), p_5) m2 [0, 1] (by exact ⟨rfl, rfl, rfl, rfl, trivial⟩) (by decide) rfl (by exact ⟨(by subst hn2; exact H26), pf_4⟩) (Nat.lt_succ_self _)
    ) (by kernel_rfl)
  ·have H27 := cnd_f hb H20; clear H20
   refine c_exit ?_
   refine c_close l_3 (hp_2, css_2, p_2) 0 [0, 1] (by exact ⟨rfl, trivial⟩) (by decide) rfl (by exact ⟨H27, pf_3⟩) (Nat.lt_succ_self _)
 ·rintro l ⟨hp, css, p⟩ gg H19 pf
  replace H19 : face_copyPeople_j1 l = some r := H19
  refine c_tidyF [(3, .slice p.1 css.length p.2)] [poolC noH hp, rowV 32 4 (.slice p.1 css.length p.2) css.length (css.map idC)] rfl rfl ?_
  refine c_seq ?_
  refine c_region ?_
  refine l_val rfl rfl rfl (r_move (v := .slice p.1 css.length p.2) rfl) ?_
  refine l_callG (fun w hF hS => k44 (capOf (i := 1) hS rfl) w) Tryz.call44 rfl rfl rfl ?_
  refine l_val rfl rfl rfl (r_assign (v := .slice (cutA p.1 0 css.length 4) css.length css.length) rfl) ?_
  refine l_nil ?_
  refine c_ret ?_
  obtain rfl := Option.some.inj H19
  refine c_imp 1 rfl (imp_clipR _ _ _ _ _ _) ?_
  refine c_both 0 1 rfl rfl (by decide) ?_
  refine c_imp 0 rfl (imp_rofD (k := true) (p := (cutA p.1 0 css.length 4, css.length)) rfl (fun _ => rfl) pf) ?_
  refine ret1 (v := .slice (cutA p.1 0 css.length 4) css.length css.length) rfl rfl (finX (cutA p.1 0 css.length 4, css.length) (i := 0) rfl (by first | rfl | rw [(show css.length = l.length from pf.len)]) (by first | exact Imp.refl _ | exact Imp.of (by rw [(show css.length = l.length from pf.len)])))
theorem k81 {a0 : (List T_face_Person)} {v0 : Value} {a1 : Int} {a2 : (T_face_Person → Int → Option (Int))} {v2 : Value} {r : Int × Bool} {w : World} {h : Heap} (hw : Know h w noS) (f0 : FrN h 4 v0 g_face_Person a0) (f2 : FnH Tryz.prog h v2 (fnR_func_face_Person_int_int a2)) (H : slices_BinarySearchFunc_face_Person_int a0 a1 a2 = some r) : Does Tryz.prog 81 (List.toArray [v0, .int .i64 a1, v2]) w (fun v w' => v = (.tuple #[.int .i64 r.1, .bool r.2]) ∧ Grow w w') := by
 refine enter (n := 49) Tryz.func81 rfl rfl rfl noS [] (Sat.nil _ _) ?_
 refine c_seq ?_
 refine c_region ?_
 refine l_val rfl rfl rfl (r_assign (v := .int .i64 0) rfl) ?_
 refine l_val rfl rfl rfl (r_assign (v := .bool false) rfl) ?_
 refine l_nil ?_
 refine c_seq ?_
 refine c_region ?_
 refine l_val rfl rfl rfl (r_move (v := v0) rfl) ?_
 refine l_val rfl rfl rfl (r_lenFN Tryz.underlying23 rfl f0) ?_
 refine l_val rfl rfl rfl (r_assign (v := .int .i64 (a0.length : Int)) rfl) ?_
 refine l_nil ?_
 refine c_seq ?_
 refine c_region ?_
 refine l_val rfl rfl rfl (r_move (v := .int .i64 (a0.length : Int)) rfl) ?_
 refine l_val rfl rfl rfl (r_assign (v := .int .i64 0) rfl) ?_
 refine l_val rfl rfl rfl (r_assign (v := .int .i64 (a0.length : Int)) rfl) ?_
 refine l_nil ?_
 refine c_meet (r := r) (σ := Int) (τ := Unit) (fun s => slices_BinarySearchFunc_face_Person_int_j1 a0 a1 a2 s) (fun s t => [(0, v0), (1, .int .i64 a1), (2, v2), (8, .int .i64 (a0.length : Int)), (9, .int .i64 s)]) (fun s t => []) (fun s t => True) ?_ ?_
 ·refine c_block ?_
  refine c_fix (σ := Int × Int) (τ := Unit) (fun next2 s => slices_BinarySearchFunc_face_Person_int_l2 a0 a1 a2 next2 s.1 s.2) (fun s t => [(0, v0), (1, .int .i64 a1), (2, v2), (8, .int .i64 (a0.length : Int)), (9, .int .i64 s.1), (10, .int .i64 s.2)]) (fun s t => []) (fun s t => True) (0, (a0.length : Int)) () [] H (by exact trivial) (by exact ⟨rfl, rfl, rfl, rfl, rfl, rfl, trivial⟩) (by decide) rfl ?_
  rintro ⟨x9_3, x10_2⟩ _ m2 gg H21 _
  clear H
  replace H21 : slices_BinarySearchFunc_face_Person_int_l2 a0 a1 a2 (it (fun next2 s => slices_BinarySearchFunc_face_Person_int_l2 a0 a1 a2 next2 s.1 s.2) m2) x9_3 x10_2 = some r := H21
  generalize hn2 : it (fun next2 s => slices_BinarySearchFunc_face_Person_int_l2 a0 a1 a2 next2 s.1 s.2) m2 = next2 at H21
  refine c_tidyF [(0, v0), (1, .int .i64 a1), (2, v2), (8, .int .i64 (a0.length : Int)), (9, .int .i64 x9_3), (10, .int .i64 x10_2)] [] rfl rfl ?_
  refine c_seq ?_
  refine c_seq ?_
  refine c_region ?_
  refine l_val rfl rfl rfl (r_move (v := .int .i64 x9_3) rfl) ?_
  refine l_val rfl rfl rfl (r_move (v := .int .i64 x10_2) rfl) ?_
  refine l_val rfl rfl rfl (r_lss rfl rfl) ?_
  refine l_nil ?_
  refine c_if (b := (decide (x9_3 < x10_2))) rfl (fun hb => ?_) (fun hb => ?_)
  ·have H22 := cnd_t hb H21; clear H21
   refine c_skip ?_
   refine c_block ?_
   refine c_seq ?_
   refine c_region ?_
   refine l_val rfl rfl rfl (r_move (v := .int .i64 x9_3) rfl) ?_
   refine l_val rfl rfl rfl (r_move (v := .int .i64 x10_2) rfl) ?_
   obtain ⟨t20, h_t20, H23⟩ := bnd_some H22; clear H22
   refine l_val rfl rfl rfl (r_addG rfl rfl h_t20) ?_
   refine l_val rfl rfl rfl (r_convG Tryz.runUnderlying3 Tryz.runUnderlying106 rfl (wr_u64 _)) ?_
   obtain ⟨t22, h_t22, H24⟩ := bnd_some H23; clear H23
   refine l_val rfl rfl rfl (r_shrG rfl rfl rfl h_t22) ?_
   refine l_val rfl rfl rfl (r_convG Tryz.runUnderlying106 Tryz.runUnderlying3 rfl (wr_i64 _)) ?_
   refine l_val rfl rfl rfl (r_assign (v := .int .i64 (wI64 t22)) rfl) ?_
   refine l_nil ?_
   refine c_seq ?_
   refine c_region ?_
   refine l_val rfl rfl rfl (r_move (v := v2) rfl) ?_
   refine l_val rfl rfl rfl (r_move (v := v0) rfl) ?_
   refine l_val rfl rfl rfl (r_move (v := .int .i64 (wI64 t22)) rfl) ?_
   obtain ⟨t27, h_t27, H25⟩ := bnd_some H24; clear H24
   refine l_val rfl rfl rfl (r_indexF Tryz.underlying23 Tryz.sizeOf32 rfl rfl f0.frs (f0.ix h_t27)) ?_
   refine l_read (fun w hF hS => run_loadGN (f := (elC h v0 4)) (i := (wI64 t22)) (sz := 4) (j := 0) (vs := [.int .i64 t27.Id, str t27.Name, (elH h v0 4 (Int.toNat (wI64 t22)) 2), (elH h v0 4 (Int.toNat (wI64 t22)) 3)]) Tryz.isAgg32 Tryz.sizeOf32 rfl rfl (f0.frs.row (hw.now hF)) (f0.ix h_t27) (rd_of (cg_face_Person (f0.at h_t27)) rfl)) rfl rfl rfl ?_
   refine l_val rfl rfl rfl (r_move (v := .int .i64 a1) rfl) ?_
   obtain ⟨t30, h_t30, H26⟩ := bnd_some H25; clear H25
   refine l_callV (R := fnR_func_face_Person_int_int a2) (r := .int .i64 t30) (v := v2) (fun w hF hS => ⟨(f2.mono (hw.now hF)), ⟨t27, _, _, a1, _, ((show FrS h 1 (elH h v0 4 (Int.toNat (wI64 t22)) 2) (t27.Likes.map e_i64) from (g_face_Person_p2 (f0.at h_t27))).mono (hw.now hF)), ((show FrS h 1 (elH h v0 4 (Int.toNat (wI64 t22)) 3) (t27.Nots.map e_i64) from (g_face_Person_p3 (f0.at h_t27))).mono (hw.now hF)), rfl, h_t30, rfl⟩⟩) rfl rfl rfl rfl ?_
   refine l_val rfl rfl rfl (r_lss rfl rfl) ?_
   refine l_nil ?_
   refine c_if (b := (decide (t30 < 0))) rfl (fun hb => ?_) (fun hb => ?_)
   ·have H27 := cnd_t hb H26; clear H26
    refine c_region ?_
    refine l_val rfl rfl rfl (r_move (v := .int .i64 (wI64 t22)) rfl) ?_
    obtain ⟨t33, h_t33, H28⟩ := bnd_some H27; clear H27
    refine l_val rfl rfl rfl (r_addG rfl rfl h_t33) ?_
    refine l_val rfl rfl rfl (r_assign (v := .int .i64 t33) rfl) ?_
    refine l_nil ?_
    refine c_close (t33, x10_2) () m2 [] (by exact ⟨rfl, rfl, rfl, rfl, rfl, rfl, trivial⟩) (by decide) rfl (by exact ⟨(by subst hn2; exact H28), trivial⟩) (Nat.lt_succ_self _)
   ·have H29 := cnd_f hb H26; clear H26
    refine c_region ?_
    refine l_val rfl rfl rfl (r_move (v := .int .i64 (wI64 t22)) rfl) ?_
    refine l_val rfl rfl rfl (r_assign (v := .int .i64 (wI64 t22)) rfl) ?_
    refine l_nil ?_
    refine c_close (x9_3, (wI64 t22)) () m2 [] (by exact ⟨rfl, rfl, rfl, rfl, rfl, rfl, trivial⟩) (by decide) rfl (by exact ⟨(by subst hn2; exact H29), trivial⟩) (Nat.lt_succ_self _)
  ·have H30 := cnd_f hb H21; clear H21
   refine c_exit ?_
   refine c_close x9_3 () 0 [] (by exact ⟨rfl, rfl, rfl, rfl, rfl, trivial⟩) (by decide) rfl (by exact ⟨H30, trivial⟩) (Nat.lt_succ_self _)
 ·rintro x9 _ gg H16 _
  replace H16 : slices_BinarySearchFunc_face_Person_int_j1 a0 a1 a2 x9 = some r := H16
  refine c_tidyF [(0, v0), (1, .int .i64 a1), (2, v2), (8, .int .i64 (a0.length : Int)), (9, .int .i64 x9)] [] rfl rfl ?_
  refine c_seq ?_
  refine c_region ?_
  refine l_val rfl rfl rfl (r_move (v := .int .i64 x9) rfl) ?_
  refine l_val rfl rfl rfl (r_move (v := .int .i64 x9) rfl) ?_
  refine l_val rfl rfl rfl (r_move (v := .int .i64 (a0.length : Int)) rfl) ?_
  refine l_val rfl rfl rfl (r_lss rfl rfl) ?_
  refine l_val rfl rfl rfl (r_move (v := .bool (decide (x9 < (a0.length : Int)))) rfl) ?_
  refine split (fun hb => ?_) (fun hb => ?_)
  ·have H17 := cnd_t hb H16; clear H16
   refine l_val rfl rfl rfl (r_move (v := v2) rfl) ?_
   refine l_val rfl rfl rfl (r_move (v := v0) rfl) ?_
   refine l_val rfl rfl rfl (r_move (v := .int .i64 x9) rfl) ?_
   obtain ⟨t43, h_t43, H18⟩ := bnd_some H17; clear H17
   refine l_val rfl rfl rfl (r_indexF Tryz.underlying23 Tryz.sizeOf32 rfl rfl f0.frs (f0.ix h_t43)) ?_
   refine l_read (fun w hF hS => run_loadGN (f := (elC h v0 4)) (i := x9) (sz := 4) (j := 0) (vs := [.int .i64 t43.Id, str t43.Name, (elH h v0 4 (Int.toNat x9) 2), (elH h v0 4 (Int.toNat x9) 3)]) Tryz.isAgg32 Tryz.sizeOf32 rfl rfl (f0.frs.row (hw.now hF)) (f0.ix h_t43) (rd_of (cg_face_Person (f0.at h_t43)) rfl)) rfl rfl rfl ?_
   refine l_val rfl rfl rfl (r_move (v := .int .i64 a1) rfl) ?_
   obtain ⟨t46, h_t46, H19⟩ := bnd_some H18; clear H18
   refine l_callV (R := fnR_func_face_Person_int_int a2) (r := .int .i64 t46) (v := v2) (fun w hF hS => ⟨(f2.mono (hw.now hF)), ⟨t43, _, _, a1, _, ((show FrS h 1 (elH h v0 4 (Int.toNat x9) 2) (t43.Likes.map e_i64) from (g_face_Person_p2 (f0.at h_t43))).mono (hw.now hF)), ((show FrS h 1 (elH h v0 4 (Int.toNat x9) 3) (t43.Nots.map e_i64) from (g_face_Person_p3 (f0.at h_t43))).mono (hw.now hF)), rfl, h_t46, rfl⟩⟩) rfl rfl rfl rfl ?_
   refine l_val rfl rfl rfl (r_eql rfl rfl) ?_
   refine l_val rfl rfl rfl (r_pickT (v := .bool (decide (t46 = 0))) rfl rfl) ?_
   refine l_val rfl rfl rfl (r_assign (v := .int .i64 x9) rfl) ?_
   refine l_val rfl rfl rfl (r_assign (v := .bool (decide (t46 = 0))) rfl) ?_
   refine l_nil ?_
   refine c_ret ?_
   obtain rfl := Option.some.inj H19
   refine ret2 (v1 := .int .i64 x9) (v2 := .bool (decide (t46 = 0))) rfl rfl rfl (fin rfl)
  ·have H20 := cnd_f hb H16; clear H16
   refine l_passed rfl rfl rfl ?_
   refine l_passed rfl rfl rfl ?_
   refine l_passed rfl rfl rfl ?_
   refine l_passed rfl rfl rfl ?_
   refine l_passed rfl rfl rfl ?_
   refine l_passed rfl rfl rfl ?_
   refine l_passed rfl rfl rfl ?_
   refine l_passed rfl rfl rfl ?_
   refine l_val rfl rfl rfl (r_pickF (v := .bool false) rfl rfl) ?_
   refine l_val rfl rfl rfl (r_assign (v := .int .i64 x9) rfl) ?_
   refine l_val rfl rfl rfl (r_assign (v := .bool false) rfl) ?_
   refine l_nil ?_
   refine c_ret ?_
   obtain rfl := Option.some.inj H20
   refine ret2 (v1 := .int .i64 x9) (v2 := .bool false) rfl rfl rfl (fin rfl)
theorem k82 {a0 : T_face_Person} {v0_2 : Value} {v0_3 : Value} {a1 : Int} {r : Int} {w : World} {h : Heap} (hw : Know h w noS) (f0_2 : FrS h 1 v0_2 (a0.Likes.map e_i64)) (f0_3 : FrS h 1 v0_3 (a0.Nots.map e_i64)) (H : face_personAt_1 a0 a1 = some r) : Does Tryz.prog 82 (List.toArray [.agg #[.int .i64 a0.Id, str a0.Name, v0_2, v0_3], .int .i64 a1]) w (fun v w' => v = (.int .i64 r) ∧ Grow w w') := by
 refine enter (n := 9) Tryz.func82 rfl rfl rfl noS [] (Sat.nil _ _) ?_
 refine c_seq ?_
 refine c_region ?_
 refine l_box (cs := [.int .i64 a0.Id, str a0.Name, v0_2, v0_3]) rfl rfl rfl rfl (fun b1 => ?_)
 refine l_val rfl rfl rfl (r_assign (v := .int .i64 0) rfl) ?_
 refine l_nil ?_
 refine c_seq ?_
 refine c_region ?_
 refine l_val rfl rfl rfl (r_field Tryz.runUnderlying32 rfl Tryz.sizeOf3 rfl rfl) ?_
 refine l_load1 (i := 0) (v := .int .i64 a0.Id) Tryz.isAgg3 rfl rfl rfl rfl rfl ?_
 refine l_val rfl rfl rfl (r_move (v := .int .i64 a1) rfl) ?_
 obtain ⟨t8, h_t8, H2⟩ := bnd_some H; clear H
 refine l_call (k31 h_t8) Tryz.call31 rfl rfl rfl ?_
 refine l_val rfl rfl rfl (r_assign (v := .int .i64 t8) rfl) ?_
 refine l_nil ?_
 refine c_ret ?_
 obtain rfl := Option.some.inj H2
 refine ret1 (v := .int .i64 t8) rfl rfl (fin rfl)
theorem k33 {a0 : (List T_face_Person)} {v0 : Value} {a1 : Int} {r : Int × Bool} {w : World} {h : Heap} (hw : Know h w noS) (f0 : FrN h 4 v0 g_face_Person a0) (H : face_personAt a0 a1 = some r) : Does Tryz.prog 33 (List.toArray [v0, .int .i64 a1]) w (fun v w' => v = (.tuple #[.int .i64 r.1, .bool r.2]) ∧ Grow w w') := by
 refine enter (n := 11) Tryz.func33 rfl rfl rfl noS [] (Sat.nil _ _) ?_
 refine c_seq ?_
 refine c_region ?_
 refine l_val rfl rfl rfl (r_assign (v := .int .i64 0) rfl) ?_
 refine l_val rfl rfl rfl (r_assign (v := .bool false) rfl) ?_
 refine l_nil ?_
 refine c_seq ?_
 refine c_region ?_
 refine l_val rfl rfl rfl (r_move (v := v0) rfl) ?_
 refine l_val rfl rfl rfl (r_move (v := .int .i64 a1) rfl) ?_
 obtain ⟨t8, h_t8, H2⟩ := bnd_some H; clear H
 refine l_callG (fun w hF hS => k81 (know_all w) (f0.mono (hw.now hF)) (FnH.mk ⟨82, #[], #[], rfl, Tryz.call82, fun args2 post2 w2 hk2 hR2 => by obtain ⟨a0_, v0_2_, v0_3_, a1_, r_, fa0_2_, fa0_3_, rfl, H_, rfl⟩ := hR2; exact k82 (know_all w2) fa0_2_ fa0_3_ H_⟩) h_t8) Tryz.call81 rfl rfl rfl ?_
 refine l_val rfl rfl rfl (r_extract (v := .int .i64 t8.1) rfl rfl) ?_
 refine l_val rfl rfl rfl (r_extract (v := .bool t8.2) rfl rfl) ?_
 refine l_val rfl rfl rfl (r_assign (v := .int .i64 t8.1) rfl) ?_
 refine l_val rfl rfl rfl (r_assign (v := .bool t8.2) rfl) ?_
 refine l_nil ?_
 refine c_ret ?_
 obtain rfl := Option.some.inj H2
 refine ret2 (v1 := .int .i64 t8.1) (v2 := .bool t8.2) rfl rfl rfl (fin rfl)
theorem k67 {a0 : (List Int)} {v0 : Value} {r : (List Int)} {w : World} {h : Heap} (hw : Know h w noS) (f0 : FrS h 1 v0 (a0.map e_i64)) (H : slices_Clone_int a0 = some r) : Does Tryz.prog 67 (List.toArray [v0]) w (fun v w' => ∃ x : (Option Addr × Nat), v = (.slice x.1 r.length x.2) ∧ Turn w w' noS (rowV 3 1 (.slice x.1 r.length x.2) r.length (r.map e_i64))) := by
 refine enter (n := 8) Tryz.func67 rfl rfl rfl noS [] (Sat.nil _ _) ?_
 refine c_seq ?_
 refine c_region ?_
 refine l_val rfl rfl rfl (r_assign (v := .slice none 0 0) rfl) ?_
 refine l_nil ?_
 refine c_seq ?_
 refine c_seq ?_
 refine c_region ?_
 refine l_val rfl rfl rfl (r_move (v := v0) rfl) ?_
 refine l_val rfl rfl rfl (r_eqlNilS Tryz.underlying24 f0 rfl rfl) ?_
 refine l_nil ?_
 refine c_if (b := isNilV v0) rfl (fun hb => ?_) (fun hb => ?_)
 ·have hn_ : a0 = [] := f0.nilV hb
  have H3 : some ([] : List Int) = some r := by have h_ := H; rw [hn_] at h_; exact h_
  refine c_seq ?_
  refine c_region ?_
  refine l_val rfl rfl rfl (r_assign (v := .slice none 0 0) rfl) ?_
  refine l_nil ?_
  refine c_ret ?_
  refine c_nilRow 3 1 ?_
  obtain rfl := Option.some.inj H3
  refine ret1 (v := .slice ((none, 0) : Option Addr × Nat).1 ([] : List Int).length ((none, 0) : Option Addr × Nat).2) rfl rfl (finX ((none, 0) : Option Addr × Nat) (i := 0) rfl rfl (Imp.refl _))
 ·skip
  refine c_skip ?_
  refine c_seq ?_
  refine c_region ?_
  refine l_buildSlice (vs := []) (cs := []) Tryz.underlying24 Tryz.sizeOf3 Tryz.zeroValue3 rfl rfl rfl rfl rfl rfl rfl (fun b1 => ?_)
  refine l_val rfl rfl rfl (r_move (v := v0) rfl) ?_
  refine c_imp 0 rfl (imp_box (m := 0) (E := 3) (sz := 1) (xs := (([] : List Int)).map e_i64) rfl rfl rfl ⟨rfl, by decide⟩) ?_
  obtain ⟨l7, h_l7, H4⟩ := bnd_some H; clear H
  refine l_turn (turns_appG (i := 0) (hn := rfl) (rds := []) (p := ((some ⟨b1, 0, none⟩, 0) : Option Addr × Nat)) (sz := 1) (by_ := 8) (f := e_i64) (ys := ([] : List Int)) (ls := a0) (V := v0) Tryz.underlying24 (info_of Tryz.typeInfo3) rfl rfl rfl rfl rfl rfl rfl rfl f0.eq (List.length_map _) (fun w L' hF hS hi => (f0).row (hw.now hF)) (fun _ => rfl) (fun _ => rfl) h_l7) rfl rfl rfl (fun p => ?_)
  refine l_val rfl rfl rfl (r_assign (v := .slice p.1 l7.length p.2) rfl) ?_
  refine l_nil ?_
  refine c_ret ?_
  obtain rfl := Option.some.inj H4
  refine ret1 (v := .slice p.1 l7.length p.2) rfl rfl (finX p (i := 0) rfl rfl (Imp.refl _))
theorem k95 {a0 : (List Int)} {p0 : Option Addr × Nat} {n0 : Nat} {a1 : (Int → Option (Bool))} {v1 : Value} {r : (List Int)} {w : World} {h : Heap} {S : Nat → Prop} (hcs : (rowV 3 1 (.slice p0.1 n0 p0.2) n0 (a0.map e_i64)).P S w) (hlt : ∀ b, S b → b < w.heap.size) (hw : Know h w S) (hn0 : n0 = a0.length) (f1 : FnH Tryz.prog h v1 (fnR_func_int_bool a1)) (H : slices_DeleteFunc_int a0 a1 = some r) : Does Tryz.prog 95 (List.toArray [.slice p0.1 n0 p0.2, v1]) w (fun v w' => ∃ x : (Option Addr × Nat), v = (.slice x.1 r.length x.2) ∧ Turn w w' S (rowV 3 1 (.slice x.1 r.length x.2) r.length (r.map e_i64))) := by
 refine enter (n := 42) Tryz.func95 rfl rfl rfl S [rowV 3 1 (.slice p0.1 n0 p0.2) n0 (a0.map e_i64)] (Sat.one hcs hlt) ?_
 refine c_seq ?_
 refine c_region ?_
 refine l_val rfl rfl rfl (r_assign (v := .slice none 0 0) rfl) ?_
 refine l_nil ?_
 refine c_seq ?_
 refine c_region ?_
 refine l_val rfl rfl rfl (r_move (v := .slice p0.1 n0 p0.2) rfl) ?_
 refine l_val rfl rfl rfl (r_move (v := v1) rfl) ?_
 obtain ⟨t10, h_t10, H20⟩ := bnd_some H; clear H
 refine l_callG (fun w hF hS => k93 (know_all w) (frs_own (i := 0) hn0 hS rfl) (f1.mono (hw.now hF)) h_t10) Tryz.call93 rfl rfl rfl ?_
 refine l_val rfl rfl rfl (r_assign (v := .int .i64 t10) rfl) ?_
 refine l_nil ?_
 refine c_seq ?_
 refine c_seq ?_
 refine c_region ?_
 refine l_val rfl rfl rfl (r_move (v := .int .i64 t10) rfl) ?_
 refine l_val rfl rfl rfl (r_eql rfl rfl) ?_
 refine l_nil ?_
 refine c_if (b := (decide (t10 = (-1)))) rfl (fun hb => ?_) (fun hb => ?_)
 ·have H21 := cnd_t hb H20; clear H20
  refine c_seq ?_
  refine c_region ?_
  refine l_val rfl rfl rfl (r_move (v := .slice p0.1 n0 p0.2) rfl) ?_
  refine l_val rfl rfl rfl (r_assign (v := .slice p0.1 n0 p0.2) rfl) ?_
  refine l_nil ?_
  refine c_ret ?_
  obtain rfl := Option.some.inj H21
  refine ret1 (v := .slice p0.1 n0 p0.2) rfl rfl (finX p0 (i := 0) rfl (by first | rfl | rw [(show n0 = a0.length from hn0)]) (by first | exact Imp.refl _ | exact Imp.of (by rw [(show n0 = a0.length from hn0)])))
 ·have H22 := cnd_f hb H20; clear H20
  refine c_skip ?_
  refine c_meet (r := r) (σ := Int × (List Int)) (τ := Unit) (fun s => slices_DeleteFunc_int_j1 s.1 s.2) (fun s t => [(0, .slice p0.1 n0 p0.2), (5, .int .i64 s.1)]) (fun s t => [rowV 3 1 (.slice p0.1 n0 p0.2) n0 (s.2.map e_i64)]) (fun s t => n0 = s.2.length) ?_ ?_
  ·refine c_seq ?_
   refine c_region ?_
   refine l_val rfl rfl rfl (r_move (v := .int .i64 t10) rfl) ?_
   obtain ⟨t15, h_t15, H26⟩ := bnd_some H22; clear H22
   refine l_val rfl rfl rfl (r_addG rfl rfl h_t15) ?_
   refine l_val rfl rfl rfl (r_assign (v := .int .i64 t15) rfl) ?_
   refine l_nil ?_
   refine c_block ?_
   refine c_fix (σ := Int × Int × (List Int)) (τ := Unit) (fun next2 s => slices_DeleteFunc_int_l2 a1 next2 s.1 s.2.1 s.2.2) (fun s t => [(0, .slice p0.1 n0 p0.2), (1, v1), (5, .int .i64 s.1), (6, .int .i64 s.2.1)]) (fun s t => [rowV 3 1 (.slice p0.1 n0 p0.2) n0 (s.2.2.map e_i64)]) (fun s t => n0 = s.2.2.length) (t10, t15, a0) () [0] H26 (by exact hn0) (by exact ⟨rfl, rfl, rfl, rfl, trivial⟩) (by decide) rfl ?_
   rintro ⟨x5_3, x6_2, l_3⟩ _ m2 gg H27 hl_3
   clear H26
   replace H27 : slices_DeleteFunc_int_l2 a1 (it (fun next2 s => slices_DeleteFunc_int_l2 a1 next2 s.1 s.2.1 s.2.2) m2) x5_3 x6_2 l_3 = some r := H27
   generalize hn2 : it (fun next2 s => slices_DeleteFunc_int_l2 a1 next2 s.1 s.2.1 s.2.2) m2 = next2 at H27
   refine c_tidyF [(0, .slice p0.1 n0 p0.2), (1, v1), (5, .int .i64 x5_3), (6, .int .i64 x6_2)] [rowV 3 1 (.slice p0.1 n0 p0.2) n0 (l_3.map e_i64)] rfl rfl ?_
   refine c_seq ?_
   refine c_seq ?_
   refine c_region ?_
   refine l_val rfl rfl rfl (r_move (v := .int .i64 x6_2) rfl) ?_
   refine l_val rfl rfl rfl (r_move (v := .slice p0.1 n0 p0.2) rfl) ?_
   refine l_val rfl rfl rfl (r_lenN Tryz.underlying24 rfl hl_3) ?_
   refine l_val rfl rfl rfl (r_lss rfl rfl) ?_
   refine l_nil ?_
   refine c_if (b := (decide (x6_2 < (l_3.length : Int)))) rfl (fun hb => ?_) (fun hb => ?_)
   ·have H28 := cnd_t hb H27; clear H27
    refine c_skip ?_
    refine c_meet (r := r) (σ := Int × (List Int)) (τ := Unit) (fun s => slices_DeleteFunc_int_j3 x6_2 next2 s.1 s.2) (fun s t => [(0, .slice p0.1 n0 p0.2), (1, v1), (5, .int .i64 s.1), (6, .int .i64 x6_2)]) (fun s t => [rowV 3 1 (.slice p0.1 n0 p0.2) n0 (s.2.map e_i64)]) (fun s t => n0 = s.2.length) ?_ ?_
    ·refine c_block ?_
     refine c_seq ?_
     refine c_region ?_
     refine l_val rfl rfl rfl (r_move (v := .slice p0.1 n0 p0.2) rfl) ?_
     refine l_val rfl rfl rfl (r_move (v := .int .i64 x6_2) rfl) ?_
     obtain ⟨t24, h_t24, H31⟩ := bnd_some H28; clear H28
     refine l_read (fun w hF hS => run_indexO Tryz.underlying24 Tryz.sizeOf3 rfl rfl (rowOf (i := 0) hS rfl) hl_3 h_t24) rfl rfl rfl ?_
     refine l_read (fun w hF hS => run_loadG1 (f := e_i64) (i := x6_2) (sz := 1) (j := 0) (v := .int .i64 t24) Tryz.isAgg3 rfl rfl (rowOf (i := 0) hS rfl) h_t24 rfl) rfl rfl rfl ?_
     refine l_val rfl rfl rfl (r_assign (v := .int .i64 t24) rfl) ?_
     refine l_nil ?_
     refine c_seq ?_
     refine c_region ?_
     refine l_val rfl rfl rfl (r_move (v := v1) rfl) ?_
     refine l_val rfl rfl rfl (r_move (v := .int .i64 t24) rfl) ?_
     obtain ⟨t28, h_t28, H32⟩ := bnd_some H31; clear H31
     refine l_callV (R := fnR_func_int_bool a1) (r := .bool t28) (v := v1) (fun w hF hS => ⟨(f1.mono (hw.now hF)), ⟨t24, _, rfl, h_t28, rfl⟩⟩) rfl rfl rfl rfl ?_
     refine l_val rfl rfl rfl (r_not rfl) ?_
     refine l_nil ?_
     refine c_if (b := (!t28)) rfl (fun hb => ?_) (fun hb => ?_)
     ·have H33 := cnd_t hb H32; clear H32
      refine c_seq ?_
      refine c_region ?_
      refine l_val rfl rfl rfl (r_move (v := .slice p0.1 n0 p0.2) rfl) ?_
      refine l_val rfl rfl rfl (r_move (v := .int .i64 x5_3) rfl) ?_
      refine l_val rfl rfl rfl (r_move (v := .int .i64 t24) rfl) ?_
      obtain ⟨t33, h_t33, H34⟩ := bnd_some H33; clear H33
      refine l_read (fun w hF hS => run_indexO Tryz.underlying24 Tryz.sizeOf3 rfl rfl (rowOf (i := 0) hS rfl) hl_3 h_t33) rfl rfl rfl ?_
      obtain ⟨l0, h_l0, H35⟩ := bnd_some H34; clear H34
      refine l_storeG (q := 0) (j := 0) (i := x5_3) (sz := 1) (hm := hl_3) (f := e_i64) (vs := [.int .i64 t24]) Tryz.sizeOf3 rfl rfl rfl rfl rfl rfl rfl rfl rfl (fun y_ hy_ => by first | rfl | (cases hy_.symm.trans h_t33; rfl)) h_l0 ?_
      refine l_nil ?_
      refine c_region ?_
      refine l_val rfl rfl rfl (r_move (v := .int .i64 x5_3) rfl) ?_
      obtain ⟨t35, h_t35, H36⟩ := bnd_some H35; clear H35
      refine l_val rfl rfl rfl (r_addG rfl rfl h_t35) ?_
      refine l_val rfl rfl rfl (r_assign (v := .int .i64 t35) rfl) ?_
      refine l_nil ?_
      refine c_close (t35, l0) () 0 [0] (by exact ⟨rfl, rfl, rfl, rfl, trivial⟩) (by decide) rfl (by exact ⟨H36, (gSet_n hl_3 h_l0)⟩) (Nat.lt_succ_self _)
     ·have H37 := cnd_f hb H32; clear H32
      refine c_skip ?_
      refine c_close (x5_3, l_3) () 0 [0] (by exact ⟨rfl, rfl, rfl, rfl, trivial⟩) (by decide) rfl (by exact ⟨H37, hl_3⟩) (Nat.lt_succ_self _)
    ·rintro ⟨x5_4, l_4⟩ _ gg H29 hl_4
     replace H29 : slices_DeleteFunc_int_j3 x6_2 next2 x5_4 l_4 = some r := H29
     refine c_tidyF [(0, .slice p0.1 n0 p0.2), (1, v1), (5, .int .i64 x5_4), (6, .int .i64 x6_2)] [rowV 3 1 (.slice p0.1 n0 p0.2) n0 (l_4.map e_i64)] rfl rfl ?_
     refine c_region ?_
     refine l_val rfl rfl rfl (r_move (v := .int .i64 x6_2) rfl) ?_
     obtain ⟨t21, h_t21, H30⟩ := bnd_some H29; clear H29
     refine l_val rfl rfl rfl (r_addG rfl rfl h_t21) ?_
     refine l_val rfl rfl rfl (r_assign (v := .int .i64 t21) rfl) ?_
     refine l_nil ?_
     refine c_close (x5_4, t21, l_4) () m2 [0] (by exact ⟨rfl, rfl, rfl, rfl, trivial⟩) (by decide) rfl (by exact ⟨(by subst hn2; exact H30), hl_4⟩) (Nat.lt_succ_self _)
   ·have H38 := cnd_f hb H27; clear H27
    refine c_exit ?_
    refine c_close (x5_3, l_3) () 0 [0] (by exact ⟨rfl, rfl, trivial⟩) (by decide) rfl (by exact ⟨H38, hl_3⟩) (Nat.lt_succ_self _)
  ·rintro ⟨x5, l⟩ _ gg H23 hl
   replace H23 : slices_DeleteFunc_int_j1 x5 l = some r := H23
   refine c_tidyF [(0, .slice p0.1 n0 p0.2), (5, .int .i64 x5)] [rowV 3 1 (.slice p0.1 n0 p0.2) n0 (l.map e_i64)] rfl rfl ?_
   refine c_seq ?_
   refine c_region ?_
   refine l_val rfl rfl rfl (r_move (v := .slice p0.1 n0 p0.2) rfl) ?_
   refine l_val rfl rfl rfl (r_move (v := .int .i64 x5) rfl) ?_
   obtain ⟨t38, h_t38, H24⟩ := bnd_some H23; clear H23
   refine l_read (v := .slice (cutA p0.1 (Int.toNat x5) p0.2 1) t38.length (p0.2 - Int.toNat x5)) (fun w hF hS => run_sliceLO (xs := l) Tryz.underlying24 Tryz.sizeOf3 rfl rfl hl (capOf (i := 0) hS rfl) h_t38) rfl rfl rfl ?_
   refine l_turn0 (turns_clearV (i := 0) (rds := []) (f := e_i64) (z0 := 0) (ys := l) (a := x5) (q := l.length) hl Tryz.underlying24 Tryz.zeroValue3 rfl (fun _ => rfl) (fun _ => rfl) rfl h_t38 rfl) rfl rfl (fun _ => ?_)
   refine l_nil ?_
   refine c_seq ?_
   refine c_region ?_
   refine l_val rfl rfl rfl (r_move (v := .slice p0.1 n0 p0.2) rfl) ?_
   refine l_val rfl rfl rfl (r_move (v := .int .i64 x5) rfl) ?_
   obtain ⟨t41, h_t41, H25⟩ := bnd_some H24; clear H24
   refine l_read (v := .slice p0.1 t41.length p0.2) (fun w hF hS => run_sliceHO0 (xs := (clrL l x5 l.length 0)) Tryz.underlying24 Tryz.sizeOf3 rfl rfl (clrL_n hl h_t38) (capOf (i := 0) hS rfl) h_t41) rfl rfl rfl ?_
   refine l_val rfl rfl rfl (r_assign (v := .slice p0.1 t41.length p0.2) rfl) ?_
   refine l_nil ?_
   refine c_ret ?_
   refine c_imp 0 rfl (imp_shrink (clrL_n hl h_t38) h_t41) ?_
   obtain rfl := Option.some.inj H25
   refine c_imp 0 rfl (imp_rowC _ _ _ _ _ _) ?_
   refine ret1 (v := .slice p0.1 t41.length p0.2) rfl rfl (finX p0 (i := 0) rfl rfl (Imp.refl _))
theorem k96 {q0 : (List Int)} {vq0 : Value} {c0 : Nat} {a0 : Int} {r : Bool} {w : World} {h : Heap} (hw : Know h w noS) (fq0 : FrS h 1 vq0 (q0.map e_i64)) (hc0 : h c0 = some (.cells (List.toArray [vq0]) 24 (0, 0))) (H : face_without_1 q0 a0 = some r) : Does Tryz.prog 96 (List.toArray [.int .i64 a0, .pointer (some ⟨c0, 0, none⟩)]) w (fun v w' => v = (.bool r) ∧ Grow w w') := by
 refine enter (n := 7) Tryz.func96 rfl rfl rfl noS [] (Sat.nil _ _) ?_
 refine c_seq ?_
 refine c_region ?_
 refine l_val rfl rfl rfl (r_assign (v := .bool false) rfl) ?_
 refine l_nil ?_
 refine c_seq ?_
 refine c_region ?_
 refine l_read (fun w hF hS => run_loadK1 (v := vq0) Tryz.isAgg24 rfl (hw.now hF _ _ hc0) rfl) rfl rfl rfl ?_
 refine l_val rfl rfl rfl (r_move (v := .int .i64 a0) rfl) ?_
 obtain ⟨t6, h_t6, H2⟩ := bnd_some H; clear H
 refine l_callG (fun w hF hS => k53 (know_all w) (fq0.mono (hw.now hF)) h_t6) Tryz.call53 rfl rfl rfl ?_
 refine l_val rfl rfl rfl (r_assign (v := .bool t6) rfl) ?_
 refine l_nil ?_
 refine c_ret ?_
 obtain rfl := Option.some.inj H2
 refine ret1 (v := .bool t6) rfl rfl (fin rfl)
theorem k43 {a0 : (List Int)} {v0 : Value} {a1 : (List Int)} {v1 : Value} {r : (List Int)} {w : World} {h : Heap} (hw : Know h w noS) (f0 : FrS h 1 v0 (a0.map e_i64)) (f1 : FrS h 1 v1 (a1.map e_i64)) (H : face_without a0 a1 = some r) : Does Tryz.prog 43 (List.toArray [v0, v1]) w (fun v w' => ∃ x : (Option Addr × Nat), v = (.slice x.1 r.length x.2) ∧ Turn w w' noS (roV 1 (.slice x.1 r.length x.2) r.length (r.map e_i64))) := by
 refine enter (n := 12) Tryz.func43 rfl rfl rfl noS [] (Sat.nil _ _) ?_
 refine c_seq ?_
 refine c_region ?_
 refine l_box (cs := [v1]) rfl rfl rfl f1.cells (fun b2 => ?_)
 refine l_val rfl rfl rfl (r_assign (v := .slice none 0 0) rfl) ?_
 refine l_nil ?_
 refine c_seq ?_
 refine c_region ?_
 refine l_val rfl rfl rfl (r_move (v := v0) rfl) ?_
 obtain ⟨t7, h_t7, H5⟩ := bnd_some H; clear H
 refine l_make (makes_call (rds := []) (G := fun x : (Option Addr × Nat) => .slice x.1 t7.length x.2) (C := fun x : (Option Addr × Nat) => rowV 3 1 (.slice x.1 t7.length x.2) t7.length (t7.map e_i64)) (fun w L' hF hS hi => k67 (know_all w) (f0.mono (hw.now hF)) h_t7) Tryz.call67 rfl) rfl rfl rfl (fun p => ?_)
 refine l_val rfl rfl rfl (r_makeFn (caps := #[.pointer (some ⟨b2, 0, none⟩)]) rfl) ?_
 obtain ⟨t9, h_t9, H6⟩ := bnd_some H5; clear H5
 refine l_turn (turns_callB (i := 1) (rds := [0]) (G := fun x : (Option Addr × Nat) => .slice x.1 t9.length x.2) (C := fun x : (Option Addr × Nat) => rowV 3 1 (.slice x.1 t9.length x.2) t9.length (t9.map e_i64)) rfl (fun w L' S hF hS hi hp hlt ho hA => k95 hp hlt (know_but w S) rfl (FnH.mk ⟨96, #[], #[.pointer (some ⟨b2, 0, none⟩)], rfl, Tryz.call96, fun args2 post2 w2 hk2 hR2 => by obtain ⟨a0_, r_, rfl, H_, rfl⟩ := hR2; exact k96 (know_all w2) ((f1.mono (hw.but hF ho)).mono hk2.up) (hk2.up _ _ (cell_but (j := 0) hA hS (by decide) ((hi 0 (by simp)).trans rfl))) H_⟩) h_t9) Tryz.call95 rfl) rfl rfl rfl (fun p_2 => ?_)
 refine l_val rfl rfl rfl (r_assign (v := .slice p_2.1 t9.length p_2.2) rfl) ?_
 refine l_nil ?_
 refine c_seq ?_
 refine c_region ?_
 refine l_val rfl rfl rfl (r_move (v := .slice p_2.1 t9.length p_2.2) rfl) ?_
 refine l_callG (fun w hF hS => k87 (capOf (i := 1) hS rfl) w) Tryz.call87 rfl rfl rfl ?_
 refine l_val rfl rfl rfl (r_assign (v := .slice (cutA p_2.1 0 t9.length 1) t9.length t9.length) rfl) ?_
 refine l_nil ?_
 refine c_ret ?_
 obtain rfl := Option.some.inj H6
 refine c_imp 1 rfl (imp_clipO _ _ _ _ _ _) ?_
 refine ret1 (v := .slice (cutA p_2.1 0 t9.length 1) t9.length t9.length) rfl rfl (finX (cutA p_2.1 0 t9.length 1, t9.length) (i := 1) rfl rfl (Imp.refl _))
end Go.Proofs.YthhaabhnlndnoaaGreat
