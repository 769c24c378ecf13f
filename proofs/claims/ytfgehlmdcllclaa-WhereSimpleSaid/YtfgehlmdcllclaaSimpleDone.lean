/- For every input, WhereSimple returns true, and its arguments read behind the call as before. Conditions: none. -/
import Derived.Test.YtfgehlmdcllclaaKSim
import Derived.Test.YtfgehlmdcllclaaWSim
import Derived.WalkKit
import Derived.ProofKit
import Derived.OpenShut
import Derived.ChangeOld
import Derived.Below
import Derived.Lib.SmallJoins
import Derived.Test.YtfgehlmdcllclaaRows
import Derived.Test.YtfgehlmdcllclaaOpenW
namespace Go.Proofs.Ytfgehlmdcllclaa.whereSimpleDone
open Go Go.Vc Go.Md Go.M Go.Lx Go.ChangeShapes Go.WideShapes Go.ChangeAt Go.RowKit Go.Joins
set_option linter.unusedVariables false
set_option maxRecDepth 100000


theorem op_3 {H : Type} {enc : TypeId × Value → H} {w : World} {base : Nat} {spare : Nat → Bool} {held : Bool} {B : Nat} (n : Nat) (cs : List Value) (x : DataW H × List MemPlace) (hB : Wt Try.prog B 3 x.1) (hl : cs.length = 1) (h : DataW.trod enc Try.prog w base spare held n 3 cs = some x) : ∃ a : Int, cs = e_i64 a ∧ (-9223372036854775808 ≤ a ∧ a ≤ 9223372036854775807) := by
  obtain ⟨a, h1, h2⟩ := op_int Try.underlying3 h
  refine ⟨a, h1, ?_⟩
  simp only [Lit.wf, IntKind.min, IntKind.max, IntKind.bits, IntKind.signed] at h2
  simp at h2
  omega

theorem op_25 {H : Type} {enc : TypeId × Value → H} {w : World} {base : Nat} {spare : Nat → Bool} {held : Bool} {B : Nat} (n : Nat) (cs : List Value) (x : DataW H × List MemPlace) (hB : Wt Try.prog B 25 x.1) (hl : cs.length = 2) (h : DataW.trod enc Try.prog w base spare held n 25 cs = some x) : ∃ a : T_api_Place, cs = e_api_Place a ∧ ((-9223372036854775808 ≤ a.Lat ∧ a.Lat ≤ 9223372036854775807) ∧ (-9223372036854775808 ≤ a.Lon ∧ a.Lon ≤ 9223372036854775807)) := by
  obtain ⟨n0, y0, h0, g0⟩ := op_fieldW hB (i := 0) (ft := 3) (fo := 0) (sz := 1) Try.underlying25 rfl (by kernel_rfl) h
  obtain ⟨a0, e0, w0⟩ := op_3 n0 _ y0 g0 (by rw [List.length_take, List.length_drop, hl]; rfl) h0
  have p0 := piece e0 rfl
  obtain ⟨n1, y1, h1, g1⟩ := op_fieldW hB (i := 1) (ft := 3) (fo := 1) (sz := 1) Try.underlying25 rfl (by kernel_rfl) h
  obtain ⟨a1, e1, w1⟩ := op_3 n1 _ y1 g1 (by rw [List.length_take, List.length_drop, hl]; rfl) h1
  have p1 := piece e1 rfl
  have pe : cs.drop 2 = [] := List.drop_of_length_le (by omega)
  refine ⟨⟨a0, a1⟩, ?_, w0, w1⟩
  rw [← List.drop_zero (l := cs)]
  rw [p0]
  rw [show cs.drop (0 + 1) = cs.drop 1 from rfl, p1]
  rw [show cs.drop (1 + 1) = cs.drop 2 from rfl, pe]
  rfl

theorem op_78 {H : Type} {enc : TypeId × Value → H} {w : World} {base : Nat} {spare : Nat → Bool} {held : Bool} {B : Nat} (n : Nat) (cs : List Value) (x : DataW H × List MemPlace) (hB : Wt Try.prog B 78 x.1) (hl : cs.length = 3) (h : DataW.trod enc Try.prog w base spare held n 78 cs = some x) : ∃ a : T_where_Fix, cs = e_where_Fix a ∧ ((-9223372036854775808 ≤ a.Moment ∧ a.Moment ≤ 9223372036854775807) ∧ ((-9223372036854775808 ≤ a.Place.Lat ∧ a.Place.Lat ≤ 9223372036854775807) ∧ (-9223372036854775808 ≤ a.Place.Lon ∧ a.Place.Lon ≤ 9223372036854775807))) := by
  obtain ⟨n0, y0, h0, g0⟩ := op_fieldW hB (i := 0) (ft := 3) (fo := 0) (sz := 1) Try.underlying78 rfl (by kernel_rfl) h
  obtain ⟨a0, e0, w0⟩ := op_3 n0 _ y0 g0 (by rw [List.length_take, List.length_drop, hl]; rfl) h0
  have p0 := piece e0 rfl
  obtain ⟨n1, y1, h1, g1⟩ := op_fieldW hB (i := 1) (ft := 25) (fo := 1) (sz := 2) Try.underlying78 rfl (by kernel_rfl) h
  obtain ⟨a1, e1, w1⟩ := op_25 n1 _ y1 g1 (by rw [List.length_take, List.length_drop, hl]; rfl) h1
  have p1 := piece e1 rfl
  have pe : cs.drop 3 = [] := List.drop_of_length_le (by omega)
  refine ⟨⟨a0, a1⟩, ?_, w0, w1⟩
  rw [← List.drop_zero (l := cs)]
  rw [p0]
  rw [show cs.drop (0 + 1) = cs.drop 1 from rfl, p1]
  rw [show cs.drop (1 + 2) = cs.drop 3 from rfl, pe]
  rfl

theorem own : ownKnob Try.prog.godebug = none := by kernel_rfl
theorem laidOut : laidOutB Try.prog = true := by kernel_rfl

/-! ### the row's step -/
theorem lifted (os : Os) (started : os.Started) (H : Type) (enc : TypeId × Value → H) :
    ReturnsInHanded {} Try.checked os 7 .any (Rows.whereSimpleSpec.pre6 enc Try.prog Try.f7 Rows.whereSimpleRow.domain false) (Rows.whereSimpleSpec.post enc Try.prog Try.f7 false true false false) := by
  refine returnsInHanded_of_change_sized (C := Try.checked) own started (by kernel_rfl) Try.func7
    (ChangeSpec.witness6 (enc := enc) (C := Try.checked) false ⟨#[], #[.slice none 0 0, .int .i64 0], []⟩ 8 (by kernel_rfl) (by kernel_rfl) (by kernel_rfl) (by kernel_rfl)) ?_
  intro W base args ds gs before hval0 hW hcnd hk _
  have hval : ∀ (j : Nat) t v, Try.f7.params[j]? = some t → args[j]? = some v → Value.okWide Try.prog W .any base t v := hval0
  have hW' := hW
  obtain ⟨p, q, hA0, hV, rfl, hfz, hnd⟩ := hW
  have hA : DataW.TrodAll enc Try.prog W 0 (fun _ => true) true Try.f7.params.toList args.toList ds p := hA0
  rw [Try.params7] at hA hval
  obtain ⟨v0, vs0, d0, ds0, p0, q0, hargs, rfl, rfl, h0, r0⟩ := trodAll_cons hA
  obtain ⟨v1, vs1, d1, ds1, p1, q1, rfl, rfl, rfl, h1, r1⟩ := trodAll_cons r0
  obtain ⟨rfl, rfl, rfl⟩ := trodAll_nil r1
  obtain rfl : args = #[v0, v1] := by cases args; simp_all
  obtain ⟨rfl, rfl⟩ := trodVars_none hV
  have kt0 := h0
  have lt0 : ∀ x ∈ p0, x.block < W.heap.size := by obtain ⟨m, hm⟩ := kt0; exact DataW.trod_lt m _ _ _ hm
  have kt1 := h1
  have lt1 : ∀ x ∈ p1, x.block < W.heap.size := by obtain ⟨m, hm⟩ := kt1; exact DataW.trod_lt m _ _ _ hm
  have hb0 : Wt Try.prog 140737488351232 49 (d0, p0).1 := wt_arg (B := 140737488351232) hk 0 (by kernel_rfl) rfl
  have hb1 : Wt Try.prog 140737488351232 3 (d1, p1).1 := wt_arg (B := 140737488351232) hk 1 (by kernel_rfl) rfl
  obtain ⟨n0, hf0⟩ := h0
  have hv0 : v0.cells.toList = [v0] := val_cell (by kernel_rfl) (hval 0 49 v0 rfl rfl)
  rw [hv0] at hf0
  obtain ⟨u0, a0, hu0, f0, hn0, g0⟩ := op_sliceW (f := e_where_Fix) (good := fun a => (-9223372036854775808 ≤ a.Moment ∧ a.Moment ≤ 9223372036854775807) ∧ ((-9223372036854775808 ≤ a.Place.Lat ∧ a.Place.Lat ≤ 9223372036854775807) ∧ (-9223372036854775808 ≤ a.Place.Lon ∧ a.Place.Lon ≤ 9223372036854775807))) hb0 Try.underlying49 (by kernel_rfl : Try.prog.cellsOf 78 = 3) rfl (by kernel_rfl : Try.prog.bytesOf 78 = 24) (fun n cs x hb hl h => op_78 n cs x hb hl h) hf0
  simp only [List.cons.injEq, and_true] at hu0
  subst hu0
  obtain ⟨n1, hf1⟩ := h1
  have hv1 : v1.cells.toList = [v1] := val_cell (by kernel_rfl) (hval 1 3 v1 rfl rfl)
  rw [hv1] at hf1
  obtain ⟨a1, hu1, w1⟩ := op_3 _ _ _ hb1 rfl hf1
  simp only [List.cons.injEq, and_true] at hu1
  subst hu1
  clear hA0 hval0
  refine Calls.mono (k7 (know_all W) f0 (whereSimpleS a0 a1 (And.intro hn0 g0) w1)) fun e W' hq => ?_
  obtain ⟨v, he, hv, bel⟩ := hq
  subst he hv
  exact ⟨_, rfl, _, _, _, [], _, [], hW', trodAll_mk1 (shut_bool Try.underlying4 _), (trodAll_cons_mk (Below.trod laidOut (by kernel_rfl) (of_decide_eq_true (by kernel_rfl)) kt0 bel lt0) (trodAll_cons_mk (Below.trod laidOut (by kernel_rfl) (of_decide_eq_true (by kernel_rfl)) kt1 bel lt1) trodAll_mk0)), rfl, bel.frame _, fun h => by cases h⟩

theorem over : Rows.whereSimpleRow.holds Try.pinned (OpenSpec.ofChange Rows.whereSimpleSpec) :=
  OpenClaim.holds_of_wide 7 Try.f7 rfl rfl rfl rfl rfl rfl rfl ⟨rfl, rfl, rfl, rfl, rfl⟩ rfl rfl rfl rfl rfl (by kernel_rfl) Try.func7 (by kernel_rfl)
    (of_decide_eq_true (by kernel_rfl)) (by unfold Func.isWrapper; first | (rw [if_pos (by decide +kernel)]; kernel_rfl) | (rw [if_neg (by decide +kernel)]; exact ⟨rfl, rfl⟩))
    (fun os started H enc _ => lifted os started H enc)

end Go.Proofs.Ytfgehlmdcllclaa.whereSimpleDone
namespace Go.Proofs.Ytfgehlmdcllclaa
/-- The statement. -/
theorem whereSimple_holds : Rows.WhereSimpleSaid := whereSimpleDone.over
#print axioms whereSimple_holds
end Go.Proofs.Ytfgehlmdcllclaa
