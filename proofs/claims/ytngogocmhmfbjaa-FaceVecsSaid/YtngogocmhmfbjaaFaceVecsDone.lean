/- For every input, FaceVecs returns true, and its arguments read behind the call as before. Conditions: none. -/
import Derived.Test.YtngogocmhmfbjaaKFace
import Derived.Test.YtngogocmhmfbjaaFaceV
import Derived.WalkKit
import Derived.ProofKit
import Derived.OpenShut
import Derived.ChangeOld
import Derived.Below
import Derived.Lib.SmallJoins
import Derived.Test.YtngogocmhmfbjaaRows
import Derived.Test.YtngogocmhmfbjaaOpen2
namespace Go.Proofs.Ytngogocmhmfbjaa.faceVecsDone
open Go Go.Vc Go.Md Go.M Go.Lx Go.ChangeShapes Go.WideShapes Go.ChangeAt Go.RowKit Go.Joins
set_option linter.unusedVariables false
set_option maxRecDepth 100000


theorem op_3 {H : Type} {enc : TypeId × Value → H} {w : World} {base : Nat} {spare : Nat → Bool} {held : Bool} (n : Nat) (cs : List Value) (x : DataW H × List MemPlace) (hl : cs.length = 1) (h : DataW.trod enc Try.prog w base spare held n 3 cs = some x) : ∃ a : Int, cs = e_i64 a ∧ (-9223372036854775808 ≤ a ∧ a ≤ 9223372036854775807) := by
  obtain ⟨a, h1, h2⟩ := op_int Try.underlying3 h
  refine ⟨a, h1, ?_⟩
  simp only [Lit.wf, IntKind.min, IntKind.max, IntKind.bits, IntKind.signed] at h2
  simp at h2
  omega

theorem op_23 {H : Type} {enc : TypeId × Value → H} {w : World} {base : Nat} {spare : Nat → Bool} {held : Bool} (n : Nat) (cs : List Value) (x : DataW H × List MemPlace) (hl : cs.length = 12) (h : DataW.trod enc Try.prog w base spare held n 23 cs = some x) : ∃ a : (Nat → Int), cs = e_face_Vec a ∧ (∀ j, j < 12 → (-9223372036854775808 ≤ (a j) ∧ (a j) ≤ 9223372036854775807)) := by
  obtain ⟨g, h1, h2⟩ := op_arr (f := e_i64) (good := fun a => -9223372036854775808 ≤ a ∧ a ≤ 9223372036854775807) Try.underlying23 (by kernel_rfl : Try.prog.cellsOf 3 = 1) (fun _ => rfl) (fun n cs x hl h => op_3 n cs x hl h) (by rw [hl]) h
  exact ⟨g, h1, h2⟩

theorem op_131 {H : Type} {enc : TypeId × Value → H} {w : World} {base : Nat} {spare : Nat → Bool} {held : Bool} (n : Nat) (cs : List Value) (x : DataW H × List MemPlace) (hl : cs.length = 14) (h : DataW.trod enc Try.prog w base spare held n 131 cs = some x) : ∃ a : T_face_Likeness, cs = e_face_Likeness a ∧ ((-9223372036854775808 ≤ a.Id ∧ a.Id ≤ 9223372036854775807) ∧ (-9223372036854775808 ≤ a.Photo ∧ a.Photo ≤ 9223372036854775807) ∧ (∀ j, j < 12 → (-9223372036854775808 ≤ (a.Vec j) ∧ (a.Vec j) ≤ 9223372036854775807))) := by
  obtain ⟨n0, y0, h0⟩ := op_fieldF (i := 0) (ft := 3) (fo := 0) (sz := 1) Try.underlying131 rfl (by kernel_rfl) h
  obtain ⟨a0, e0, w0⟩ := op_3 n0 _ y0 (by rw [List.length_take, List.length_drop, hl]; rfl) h0
  have p0 := piece e0 rfl
  obtain ⟨n1, y1, h1⟩ := op_fieldF (i := 1) (ft := 3) (fo := 1) (sz := 1) Try.underlying131 rfl (by kernel_rfl) h
  obtain ⟨a1, e1, w1⟩ := op_3 n1 _ y1 (by rw [List.length_take, List.length_drop, hl]; rfl) h1
  have p1 := piece e1 rfl
  obtain ⟨n2, y2, h2⟩ := op_fieldF (i := 2) (ft := 23) (fo := 2) (sz := 12) Try.underlying131 rfl (by kernel_rfl) h
  obtain ⟨a2, e2, w2⟩ := op_23 n2 _ y2 (by rw [List.length_take, List.length_drop, hl]; rfl) h2
  have p2 := piece e2 rfl
  have pe : cs.drop 14 = [] := List.drop_of_length_le (by omega)
  refine ⟨⟨a0, a1, a2⟩, ?_, w0, w1, w2⟩
  rw [← List.drop_zero (l := cs)]
  rw [p0]
  rw [show cs.drop (0 + 1) = cs.drop 1 from rfl, p1]
  rw [show cs.drop (1 + 1) = cs.drop 2 from rfl, p2]
  rw [show cs.drop (2 + 12) = cs.drop 14 from rfl, pe]
  rfl

theorem own : ownKnob Try.prog.godebug = none := by kernel_rfl
theorem laidOut : laidOutB Try.prog = true := by kernel_rfl

/-! ### the row's step -/
theorem lifted (os : Os) (started : os.Started) (H : Type) (enc : TypeId × Value → H) :
    ReturnsInHanded {} Try.checked os 3 .any (Rows.faceVecsSpec.pre6 enc Try.prog Try.f3 Rows.faceVecsRow.domain false) (Rows.faceVecsSpec.post enc Try.prog Try.f3 false true false false) := by
  refine returnsInHanded_of_change (C := Try.checked) own started (by kernel_rfl) Try.func3
    (ChangeSpec.witness6 (enc := enc) (C := Try.checked) false ⟨#[], #[.agg #[.int .i64 ((fun _ => 0) 0), .int .i64 ((fun _ => 0) 1), .int .i64 ((fun _ => 0) 2), .int .i64 ((fun _ => 0) 3), .int .i64 ((fun _ => 0) 4), .int .i64 ((fun _ => 0) 5), .int .i64 ((fun _ => 0) 6), .int .i64 ((fun _ => 0) 7), .int .i64 ((fun _ => 0) 8), .int .i64 ((fun _ => 0) 9), .int .i64 ((fun _ => 0) 10), .int .i64 ((fun _ => 0) 11)], .agg #[.int .i64 ((fun _ => 0) 0), .int .i64 ((fun _ => 0) 1), .int .i64 ((fun _ => 0) 2), .int .i64 ((fun _ => 0) 3), .int .i64 ((fun _ => 0) 4), .int .i64 ((fun _ => 0) 5), .int .i64 ((fun _ => 0) 6), .int .i64 ((fun _ => 0) 7), .int .i64 ((fun _ => 0) 8), .int .i64 ((fun _ => 0) 9), .int .i64 ((fun _ => 0) 10), .int .i64 ((fun _ => 0) 11)], .slice none 0 0, .slice none 0 0], []⟩ 8 (by kernel_rfl) (by kernel_rfl) (by kernel_rfl) (by kernel_rfl)) ?_
  intro W base args ds gs before hval0 hW hcnd _
  have hval : ∀ (j : Nat) t v, Try.f3.params[j]? = some t → args[j]? = some v → Value.okWide Try.prog W .any base t v := hval0
  have hW' := hW
  obtain ⟨p, q, hA0, hV, rfl, hfz, hnd⟩ := hW
  have hA : DataW.TrodAll enc Try.prog W 0 (fun _ => true) true Try.f3.params.toList args.toList ds p := hA0
  rw [Try.params3] at hA hval
  obtain ⟨v0, vs0, d0, ds0, p0, q0, hargs, rfl, rfl, h0, r0⟩ := trodAll_cons hA
  obtain ⟨v1, vs1, d1, ds1, p1, q1, rfl, rfl, rfl, h1, r1⟩ := trodAll_cons r0
  obtain ⟨v2, vs2, d2, ds2, p2, q2, rfl, rfl, rfl, h2, r2⟩ := trodAll_cons r1
  obtain ⟨v3, vs3, d3, ds3, p3, q3, rfl, rfl, rfl, h3, r3⟩ := trodAll_cons r2
  obtain ⟨rfl, rfl, rfl⟩ := trodAll_nil r3
  obtain rfl : args = #[v0, v1, v2, v3] := by cases args; simp_all
  obtain ⟨rfl, rfl⟩ := trodVars_none hV
  have kt0 := h0
  have lt0 : ∀ x ∈ p0, x.block < W.heap.size := by obtain ⟨m, hm⟩ := kt0; exact DataW.trod_lt m _ _ _ hm
  have kt1 := h1
  have lt1 : ∀ x ∈ p1, x.block < W.heap.size := by obtain ⟨m, hm⟩ := kt1; exact DataW.trod_lt m _ _ _ hm
  have kt2 := h2
  have lt2 : ∀ x ∈ p2, x.block < W.heap.size := by obtain ⟨m, hm⟩ := kt2; exact DataW.trod_lt m _ _ _ hm
  have kt3 := h3
  have lt3 : ∀ x ∈ p3, x.block < W.heap.size := by obtain ⟨m, hm⟩ := kt3; exact DataW.trod_lt m _ _ _ hm
  obtain ⟨n0, hf0⟩ := h0
  obtain ⟨c0, rfl, hc0, hl0⟩ := val_array Try.underlying23 (hval 0 23 v0 rfl rfl)
  rw [hc0] at hf0
  rw [(by kernel_rfl : Try.prog.cellsOf 23 = 12)] at hl0
  obtain ⟨a0, rfl, w0⟩ := op_23 _ _ _ hl0 hf0
  obtain ⟨n1, hf1⟩ := h1
  obtain ⟨c1, rfl, hc1, hl1⟩ := val_array Try.underlying23 (hval 1 23 v1 rfl rfl)
  rw [hc1] at hf1
  rw [(by kernel_rfl : Try.prog.cellsOf 23 = 12)] at hl1
  obtain ⟨a1, rfl, w1⟩ := op_23 _ _ _ hl1 hf1
  obtain ⟨n2, hf2⟩ := h2
  have hv2 : v2.cells.toList = [v2] := val_cell (by kernel_rfl) (hval 2 24 v2 rfl rfl)
  rw [hv2] at hf2
  obtain ⟨u2, a2, hu2, f2, hn2, g2⟩ := op_sliceF (f := e_face_Vec) (good := fun a => ∀ j, j < 12 → (-9223372036854775808 ≤ (a j) ∧ (a j) ≤ 9223372036854775807)) Try.underlying24 (by kernel_rfl : Try.prog.cellsOf 23 = 12) rfl (fun n cs x hl h => op_23 n cs x hl h) hf2
  simp only [List.cons.injEq, and_true] at hu2
  subst hu2
  obtain ⟨n3, hf3⟩ := h3
  have hv3 : v3.cells.toList = [v3] := val_cell (by kernel_rfl) (hval 3 25 v3 rfl rfl)
  rw [hv3] at hf3
  obtain ⟨u3, a3, hu3, f3, hn3, g3⟩ := op_sliceF (f := e_face_Likeness) (good := fun a => (-9223372036854775808 ≤ a.Id ∧ a.Id ≤ 9223372036854775807) ∧ (-9223372036854775808 ≤ a.Photo ∧ a.Photo ≤ 9223372036854775807) ∧ (∀ j, j < 12 → (-9223372036854775808 ≤ (a.Vec j) ∧ (a.Vec j) ≤ 9223372036854775807))) Try.underlying25 (by kernel_rfl : Try.prog.cellsOf 131 = 14) rfl (fun n cs x hl h => op_131 n cs x hl h) hf3
  simp only [List.cons.injEq, and_true] at hu3
  subst hu3
  clear hA0 hval0
  refine Calls.mono (k3 (know_all W) f2 f3 (lawS a0 a1 a2 a3 w0 w1 ⟨hn2, g2⟩ ⟨hn3, g3⟩)) fun e W' hq => ?_
  obtain ⟨v, he, hv, bel⟩ := hq
  subst he hv
  exact ⟨_, rfl, _, _, _, [], _, [], hW', trodAll_mk1 (shut_bool Try.underlying4 _), (trodAll_cons_mk (Below.trod laidOut (by kernel_rfl) (of_decide_eq_true (by kernel_rfl)) kt0 bel lt0) (trodAll_cons_mk (Below.trod laidOut (by kernel_rfl) (of_decide_eq_true (by kernel_rfl)) kt1 bel lt1) (trodAll_cons_mk (Below.trod laidOut (by kernel_rfl) (of_decide_eq_true (by kernel_rfl)) kt2 bel lt2) (trodAll_cons_mk (Below.trod laidOut (by kernel_rfl) (of_decide_eq_true (by kernel_rfl)) kt3 bel lt3) trodAll_mk0)))), rfl, bel.frame _, fun h => by cases h⟩

theorem over : Rows.faceVecsRow.holds Try.pinned (OpenSpec.ofChange Rows.faceVecsSpec) :=
  OpenClaim.holds_of_wide 3 Try.f3 rfl rfl rfl rfl rfl rfl rfl ⟨rfl, rfl, rfl, rfl, rfl⟩ rfl rfl rfl rfl rfl (by kernel_rfl) Try.func3 (by kernel_rfl)
    (of_decide_eq_true (by kernel_rfl)) (by unfold Func.isWrapper; first | (rw [if_pos (by decide +kernel)]; kernel_rfl) | (rw [if_neg (by decide +kernel)]; exact ⟨rfl, rfl⟩))
    (fun os started H enc _ => lifted os started H enc)

end Go.Proofs.Ytngogocmhmfbjaa.faceVecsDone
namespace Go.Proofs.Ytngogocmhmfbjaa
/-- The statement. -/
theorem faceVecs_holds : Rows.FaceVecsSaid := faceVecsDone.over
#print axioms faceVecs_holds
end Go.Proofs.Ytngogocmhmfbjaa
