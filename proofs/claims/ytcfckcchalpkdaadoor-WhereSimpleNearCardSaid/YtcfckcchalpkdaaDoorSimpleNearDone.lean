/- For every input, WhereSimpleNear returns true, and its arguments read behind the call as before. Conditions: none. -/
import Derived.Test.YtcfckcchalpkdaaDoorKSnr
import Derived.Test.YtcfckcchalpkdaaDoorWSnr
import Derived.WalkKit
import Derived.ProofKit
import Derived.OpenShut
import Derived.ChangeOld
import Derived.Below
import Derived.Lib.SmallJoins
import Derived.Test.YtcfckcchalpkdaaDoorRows
import Derived.Test.YtcfckcchalpkdaaDoorOpenW
import Derived.LaidMore
import Derived.LaidLaws
import Derived.LaidHandle
import Derived.SevenTiedAt
import Derived.Stop.Joined
import Derived.Test.YtcfckcchalpkdaaDoorCards
import Derived.Test.YtcfckcchalpkdaaDoorTie
namespace Go.Proofs.YtcfckcchalpkdaaDoor.whereSimpleNearDone
open Go Go.Vc Go.Md Go.M Go.Lx Go.ChangeShapes Go.WideShapes Go.ChangeAt Go.RowKit Go.Joins
set_option linter.unusedVariables false
set_option maxRecDepth 100000

abbrev e_i64 (x : Int) : List Value := [.int .i64 x]

theorem op_3 {H : Type} {enc : TypeId × Value → H} {w : World} {base : Nat} {spare : Nat → Bool} {held : Bool} {B : Nat} (n : Nat) (cs : List Value) (x : DataW H × List MemPlace) (hB : Wt Tryd.prog B 3 x.1) (hl : cs.length = 1) (h : DataW.trod enc Tryd.prog w base spare held n 3 cs = some x) : ∃ a : Int, cs = e_i64 a ∧ (-9223372036854775808 ≤ a ∧ a ≤ 9223372036854775807) := by
  obtain ⟨a, h1, h2⟩ := op_int Tryd.underlying3 h
  refine ⟨a, h1, ?_⟩
  simp only [Lit.wf, IntKind.min, IntKind.max, IntKind.bits, IntKind.signed] at h2
  simp at h2
  omega

theorem op_29 {H : Type} {enc : TypeId × Value → H} {w : World} {base : Nat} {spare : Nat → Bool} {held : Bool} {B : Nat} (n : Nat) (cs : List Value) (x : DataW H × List MemPlace) (hB : Wt Tryd.prog B 29 x.1) (hl : cs.length = 2) (h : DataW.trod enc Tryd.prog w base spare held n 29 cs = some x) : ∃ a : T_api_Place, cs = e_api_Place a ∧ ((-9223372036854775808 ≤ a.Lat ∧ a.Lat ≤ 9223372036854775807) ∧ (-9223372036854775808 ≤ a.Lon ∧ a.Lon ≤ 9223372036854775807)) := by
  obtain ⟨n0, y0, h0, g0⟩ := op_fieldW hB (i := 0) (ft := 3) (fo := 0) (sz := 1) Tryd.underlying29 rfl (by kernel_rfl) h
  obtain ⟨a0, e0, w0⟩ := op_3 n0 _ y0 g0 (by rw [List.length_take, List.length_drop, hl]; rfl) h0
  have p0 := piece e0 rfl
  obtain ⟨n1, y1, h1, g1⟩ := op_fieldW hB (i := 1) (ft := 3) (fo := 1) (sz := 1) Tryd.underlying29 rfl (by kernel_rfl) h
  obtain ⟨a1, e1, w1⟩ := op_3 n1 _ y1 g1 (by rw [List.length_take, List.length_drop, hl]; rfl) h1
  have p1 := piece e1 rfl
  have pe : cs.drop 2 = [] := List.drop_of_length_le (by omega)
  refine ⟨⟨a0, a1⟩, ?_, w0, w1⟩
  rw [← List.drop_zero (l := cs)]
  rw [p0]
  rw [show cs.drop (0 + 1) = cs.drop 1 from rfl, p1]
  rw [show cs.drop (1 + 1) = cs.drop 2 from rfl, pe]
  rfl

theorem op_33 {H : Type} {enc : TypeId × Value → H} {w : World} {base : Nat} {spare : Nat → Bool} {held : Bool} {B : Nat} (n : Nat) (cs : List Value) (x : DataW H × List MemPlace) (hB : Wt Tryd.prog B 33 x.1) (hl : cs.length = 3) (h : DataW.trod enc Tryd.prog w base spare held n 33 cs = some x) : ∃ a : T_where_Fix, cs = e_where_Fix a ∧ ((-9223372036854775808 ≤ a.Moment ∧ a.Moment ≤ 9223372036854775807) ∧ ((-9223372036854775808 ≤ a.Place.Lat ∧ a.Place.Lat ≤ 9223372036854775807) ∧ (-9223372036854775808 ≤ a.Place.Lon ∧ a.Place.Lon ≤ 9223372036854775807))) := by
  obtain ⟨n0, y0, h0, g0⟩ := op_fieldW hB (i := 0) (ft := 3) (fo := 0) (sz := 1) Tryd.underlying33 rfl (by kernel_rfl) h
  obtain ⟨a0, e0, w0⟩ := op_3 n0 _ y0 g0 (by rw [List.length_take, List.length_drop, hl]; rfl) h0
  have p0 := piece e0 rfl
  obtain ⟨n1, y1, h1, g1⟩ := op_fieldW hB (i := 1) (ft := 29) (fo := 1) (sz := 2) Tryd.underlying33 rfl (by kernel_rfl) h
  obtain ⟨a1, e1, w1⟩ := op_29 n1 _ y1 g1 (by rw [List.length_take, List.length_drop, hl]; rfl) h1
  have p1 := piece e1 rfl
  have pe : cs.drop 3 = [] := List.drop_of_length_le (by omega)
  refine ⟨⟨a0, a1⟩, ?_, w0, w1⟩
  rw [← List.drop_zero (l := cs)]
  rw [p0]
  rw [show cs.drop (0 + 1) = cs.drop 1 from rfl, p1]
  rw [show cs.drop (1 + 2) = cs.drop 3 from rfl, pe]
  rfl

theorem own : ownKnob Tryd.prog.godebug = none := by kernel_rfl
theorem laidOut : laidOutB Tryd.prog = true := by kernel_rfl
theorem door_met (os : Os) (args : Array Value) : laidMetH Tryd.prog Rows.whereSimpleNearRow.laid ((World.doorLaid Tryd.prog 400 os).forCall (fun _ _ => 0) ⟨#[], args, []⟩).memory :=
  laidMetH_of_parts3 (fuel := 8) (laidMet_of_run' 8 (by kernel_rfl) (by kernel_rfl)) (by kernel_rfl) (by kernel_rfl)

/-! ### the row's step -/
theorem lifted (os : Os) (started : os.Started) (H : Type) (enc : TypeId × Value → H) :
    ReturnsInHanded {} Tryd.checked os 4 .any (fun w args => (Rows.whereSimpleNearSpec.pre enc Tryd.prog Tryd.f4 [] false w args ∧ laidMetH Tryd.prog Rows.whereSimpleNearRow.laid w) ∧ sizedMet enc Tryd.prog Tryd.f4 (OpenSpec.ofChange Rows.whereSimpleNearSpec) false w args) (Rows.whereSimpleNearSpec.post enc Tryd.prog Tryd.f4 false true false false) := by
  refine returnsInHanded_of_change_and (C := Tryd.checked) (X := fun w _ => laidMetH Tryd.prog Rows.whereSimpleNearRow.laid w) (fun _ _ _ hh h => h.of_heap hh) own started (by kernel_rfl) Tryd.func4
    (ChangeSpec.witness_shaped (enc := enc) (C := Tryd.checked) (os := os) (X := fun w _ => laidMetH Tryd.prog Rows.whereSimpleNearRow.laid w) false (World.doorLaid Tryd.prog 400 os) #[.slice none 0 0, .int .i64 0] 8 rfl (World.shaped_of_RefB (by kernel_rfl) (by kernel_rfl)) (by kernel_rfl) (by kernel_rfl) (by kernel_rfl) (door_met os _)) ?_
  intro W base args ds gs before hval0 hW hcnd hk hL _
  have hval : ∀ (j : Nat) t v, Tryd.f4.params[j]? = some t → args[j]? = some v → Value.okWide Tryd.prog W .any base t v := hval0
  have hW' := hW
  obtain ⟨p, q, hA0, hV, rfl, hfz, hnd⟩ := hW
  have hA : DataW.TrodAll enc Tryd.prog W 0 (fun _ => true) true Tryd.f4.params.toList args.toList ds p := hA0
  rw [Tryd.params4] at hA hval
  obtain ⟨v0, vs0, d0, ds0, p0, q0, hargs, rfl, rfl, h0, r0⟩ := trodAll_cons hA
  obtain ⟨v1, vs1, d1, ds1, p1, q1, rfl, rfl, rfl, h1, r1⟩ := trodAll_cons r0
  obtain ⟨rfl, rfl, rfl⟩ := trodAll_nil r1
  obtain rfl : args = #[v0, v1] := by cases args; simp_all
  obtain ⟨rfl, rfl⟩ := trodVars_none hV
  have kt0 := h0
  have lt0 : ∀ x ∈ p0, x.block < W.heap.size := by obtain ⟨m, hm⟩ := kt0; exact DataW.trod_lt m _ _ _ hm
  have kt1 := h1
  have lt1 : ∀ x ∈ p1, x.block < W.heap.size := by obtain ⟨m, hm⟩ := kt1; exact DataW.trod_lt m _ _ _ hm
  have hb0 : Wt Tryd.prog 140737488351232 22 (d0, p0).1 := wt_arg (B := 140737488351232) hk 0 (by kernel_rfl) rfl
  have hb1 : Wt Tryd.prog 140737488351232 3 (d1, p1).1 := wt_arg (B := 140737488351232) hk 1 (by kernel_rfl) rfl
  obtain ⟨n0, hf0⟩ := h0
  have hv0 : v0.cells.toList = [v0] := val_cell (by kernel_rfl) (hval 0 22 v0 rfl rfl)
  rw [hv0] at hf0
  obtain ⟨u0, a0, hu0, f0, hn0, g0⟩ := op_sliceW (f := e_where_Fix) (good := fun a => (-9223372036854775808 ≤ a.Moment ∧ a.Moment ≤ 9223372036854775807) ∧ ((-9223372036854775808 ≤ a.Place.Lat ∧ a.Place.Lat ≤ 9223372036854775807) ∧ (-9223372036854775808 ≤ a.Place.Lon ∧ a.Place.Lon ≤ 9223372036854775807))) hb0 Tryd.underlying22 (by kernel_rfl : Tryd.prog.cellsOf 33 = 3) rfl (by kernel_rfl : Tryd.prog.bytesOf 33 = 24) (fun n cs x hb hl h => op_33 n cs x hb hl h) hf0
  simp only [List.cons.injEq, and_true] at hu0
  subst hu0
  obtain ⟨n1, hf1⟩ := h1
  have hv1 : v1.cells.toList = [v1] := val_cell (by kernel_rfl) (hval 1 3 v1 rfl rfl)
  rw [hv1] at hf1
  obtain ⟨a1, hu1, w1⟩ := op_3 _ _ _ hb1 rfl hf1
  simp only [List.cons.injEq, and_true] at hu1
  subst hu1
  clear hA0 hval0
  refine Calls.mono (k4 (know_all W) f0 (whereSimpleNearS a0 a1 (And.intro hn0 g0) w1)) fun e W' hq => ?_
  obtain ⟨v, he, hv, bel⟩ := hq
  subst he hv
  exact ⟨_, rfl, _, _, _, [], _, [], hW', trodAll_mk1 (shut_bool Tryd.underlying4 _), (trodAll_cons_mk (Below.trod laidOut (by kernel_rfl) (of_decide_eq_true (by kernel_rfl)) kt0 bel lt0) (trodAll_cons_mk (Below.trod laidOut (by kernel_rfl) (of_decide_eq_true (by kernel_rfl)) kt1 bel lt1) trodAll_mk0)), rfl, bel.frame _, fun h => by cases h⟩

theorem over : Rows.whereSimpleNearRow.holds Tryd.pinned (OpenSpec.ofChange Rows.whereSimpleNearSpec) :=
  OpenClaim.holds_of_wide 4 Tryd.f4 rfl rfl rfl rfl rfl rfl rfl ⟨rfl, rfl, rfl, rfl, rfl⟩ rfl rfl rfl rfl rfl (by kernel_rfl) Tryd.func4 (by kernel_rfl)
    (of_decide_eq_true (by kernel_rfl)) (by unfold Func.isWrapper; first | (rw [if_pos (by decide +kernel)]; kernel_rfl) | (rw [if_neg (by decide +kernel)]; exact ⟨rfl, rfl⟩))
    (fun os started H enc _ => lifted os started H enc)

theorem card : Rows.WhereSimpleNearCardSaid :=
  Claim7.holds_tied_plain_at .later [] [.data, .data, .data] true (true, "854125f9c64c1a776e2ed1395dc7ebc833031894bb705c887e531e1acb3e3bd1") true
    over (fun _ h => by cases h) (by kernel_rfl) (fun _ h => by cases h) whereSimpleNear_row_tie rfl ⟨rfl, rfl⟩ (by kernel_rfl) rfl
    (fun f fn hf hfn => by
      obtain rfl : f = 4 := Option.some.inj ((show Tryd.prog.funcNamed "tintype/tintkeep2.WhereSimpleNear" = some 4 by kernel_rfl).symm.trans hf) |>.symm
      obtain rfl : fn = Tryd.f4 := (Option.some.inj (Tryd.func4.symm.trans hfn)).symm
      exact ⟨by kernel_rfl, fun j t ht => by
        rw [Tryd.params4] at ht
        have hm : t ∈ [22, 3] := by simpa using Array.mem_of_getElem? ht
        have hall : ([22, 3].all fun u => !Tryd.prog.wantsStandIn u) = true := by kernel_rfl
        exact (show Tryd.prog.wantsStandIn t = false by simpa using List.all_eq_true.1 hall t hm)⟩)
    (by kernel_rfl)
end Go.Proofs.YtcfckcchalpkdaaDoor.whereSimpleNearDone
namespace Go.Proofs.YtcfckcchalpkdaaDoor
/-- The statement. -/
theorem whereSimpleNear_holds : Rows.WhereSimpleNearCardSaid := whereSimpleNearDone.card
#print axioms whereSimpleNear_holds
end Go.Proofs.YtcfckcchalpkdaaDoor
