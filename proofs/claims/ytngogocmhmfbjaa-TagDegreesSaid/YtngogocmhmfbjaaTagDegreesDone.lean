/- For every input, TagDegrees returns true, and its arguments read behind the call as before. Conditions: none. -/
import Derived.Test.YtngogocmhmfbjaaKTagF
import Derived.Test.YtngogocmhmfbjaaTagF4
import Derived.WalkKit
import Derived.ProofKit
import Derived.OpenShut
import Derived.ChangeOld
import Derived.Below
import Derived.Lib.SmallJoins
import Derived.Test.YtngogocmhmfbjaaRows
import Derived.Test.YtngogocmhmfbjaaOpen2
namespace Go.Proofs.Ytngogocmhmfbjaa.tagDegreesDone
open Go Go.Vc Go.Md Go.M Go.Lx Go.ChangeShapes Go.WideShapes Go.ChangeAt Go.RowKit Go.Joins
set_option linter.unusedVariables false
set_option maxRecDepth 100000


theorem op_3 {H : Type} {enc : TypeId × Value → H} {w : World} {base : Nat} {spare : Nat → Bool} {held : Bool} (n : Nat) (cs : List Value) (x : DataW H × List MemPlace) (hl : cs.length = 1) (h : DataW.trod enc Try.prog w base spare held n 3 cs = some x) : ∃ a : Int, cs = e_i64 a ∧ (-9223372036854775808 ≤ a ∧ a ≤ 9223372036854775807) := by
  obtain ⟨a, h1, h2⟩ := op_int Try.underlying3 h
  refine ⟨a, h1, ?_⟩
  simp only [Lit.wf, IntKind.min, IntKind.max, IntKind.bits, IntKind.signed] at h2
  simp at h2
  omega

theorem own : ownKnob Try.prog.godebug = none := by kernel_rfl
theorem laidOut : laidOutB Try.prog = true := by kernel_rfl

/-! ### the row's step -/
theorem lifted (os : Os) (started : os.Started) (H : Type) (enc : TypeId × Value → H) :
    ReturnsInHanded {} Try.checked os 4 .any (Rows.tagDegreesSpec.pre6 enc Try.prog Try.f4 Rows.tagDegreesRow.domain false) (Rows.tagDegreesSpec.post enc Try.prog Try.f4 false true false false) := by
  refine returnsInHanded_of_change (C := Try.checked) own started (by kernel_rfl) Try.func4
    (ChangeSpec.witness6 (enc := enc) (C := Try.checked) false ⟨#[], #[.int .i64 0], []⟩ 8 (by kernel_rfl) (by kernel_rfl) (by kernel_rfl) (by kernel_rfl)) ?_
  intro W base args ds gs before hval0 hW hcnd _
  have hval : ∀ (j : Nat) t v, Try.f4.params[j]? = some t → args[j]? = some v → Value.okWide Try.prog W .any base t v := hval0
  have hW' := hW
  obtain ⟨p, q, hA0, hV, rfl, hfz, hnd⟩ := hW
  have hA : DataW.TrodAll enc Try.prog W 0 (fun _ => true) true Try.f4.params.toList args.toList ds p := hA0
  rw [Try.params4] at hA hval
  obtain ⟨v0, vs0, d0, ds0, p0, q0, hargs, rfl, rfl, h0, r0⟩ := trodAll_cons hA
  obtain ⟨rfl, rfl, rfl⟩ := trodAll_nil r0
  obtain rfl : args = #[v0] := by cases args; simp_all
  obtain ⟨rfl, rfl⟩ := trodVars_none hV
  have kt0 := h0
  have lt0 : ∀ x ∈ p0, x.block < W.heap.size := by obtain ⟨m, hm⟩ := kt0; exact DataW.trod_lt m _ _ _ hm
  obtain ⟨n0, hf0⟩ := h0
  have hv0 : v0.cells.toList = [v0] := val_cell (by kernel_rfl) (hval 0 3 v0 rfl rfl)
  rw [hv0] at hf0
  obtain ⟨a0, hu0, w0⟩ := op_3 _ _ _ rfl hf0
  simp only [List.cons.injEq, and_true] at hu0
  subst hu0
  clear hA0 hval0
  refine Calls.mono (k4  (degreesS a0 w0) W) fun e W' hq => ?_
  obtain ⟨v, he, hv, bel⟩ := hq
  subst he hv
  exact ⟨_, rfl, _, _, _, [], _, [], hW', trodAll_mk1 (shut_bool Try.underlying4 _), (trodAll_cons_mk (Below.trod laidOut (by kernel_rfl) (of_decide_eq_true (by kernel_rfl)) kt0 bel lt0) trodAll_mk0), rfl, bel.frame _, fun h => by cases h⟩

theorem over : Rows.tagDegreesRow.holds Try.pinned (OpenSpec.ofChange Rows.tagDegreesSpec) :=
  OpenClaim.holds_of_wide 4 Try.f4 rfl rfl rfl rfl rfl rfl rfl ⟨rfl, rfl, rfl, rfl, rfl⟩ rfl rfl rfl rfl rfl (by kernel_rfl) Try.func4 (by kernel_rfl)
    (of_decide_eq_true (by kernel_rfl)) (by unfold Func.isWrapper; first | (rw [if_pos (by decide +kernel)]; kernel_rfl) | (rw [if_neg (by decide +kernel)]; exact ⟨rfl, rfl⟩))
    (fun os started H enc _ => lifted os started H enc)

end Go.Proofs.Ytngogocmhmfbjaa.tagDegreesDone
namespace Go.Proofs.Ytngogocmhmfbjaa
/-- The statement. -/
theorem tagDegrees_holds : Rows.TagDegreesSaid := tagDegreesDone.over
#print axioms tagDegrees_holds
end Go.Proofs.Ytngogocmhmfbjaa
