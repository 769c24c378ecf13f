/- For every input, EditRenders returns true, and its arguments read behind the call as before. Conditions: none. -/
import Derived.Test.YtngogocmhmfbjaaKEr
import Derived.Test.YtngogocmhmfbjaaEeT
import Derived.WalkKit
import Derived.ProofKit
import Derived.OpenShut
import Derived.ChangeOld
import Derived.Below
import Derived.Lib.SmallJoins
import Derived.Test.YtngogocmhmfbjaaRows
import Derived.Test.YtngogocmhmfbjaaOpen2
namespace Go.Proofs.Ytngogocmhmfbjaa.editRendersDone
open Go Go.Vc Go.Md Go.M Go.Lx Go.ChangeShapes Go.WideShapes Go.ChangeAt Go.RowKit Go.Joins
set_option linter.unusedVariables false
set_option maxRecDepth 100000
set_option maxHeartbeats 4000000


theorem op_3 {H : Type} {enc : TypeId × Value → H} {w : World} {base : Nat} {spare : Nat → Bool} {held : Bool} (n : Nat) (cs : List Value) (x : DataW H × List MemPlace) (hl : cs.length = 1) (h : DataW.trod enc Try.prog w base spare held n 3 cs = some x) : ∃ a : Int, cs = e_i64 a ∧ (-9223372036854775808 ≤ a ∧ a ≤ 9223372036854775807) := by
  obtain ⟨a, h1, h2⟩ := op_int Try.underlying3 h
  refine ⟨a, h1, ?_⟩
  simp only [Lit.wf, IntKind.min, IntKind.max, IntKind.bits, IntKind.signed] at h2
  simp at h2
  omega

theorem op_5 {H : Type} {enc : TypeId × Value → H} {w : World} {base : Nat} {spare : Nat → Bool} {held : Bool} (n : Nat) (cs : List Value) (x : DataW H × List MemPlace) (hl : cs.length = 1) (h : DataW.trod enc Try.prog w base spare held n 5 cs = some x) : ∃ a : Int, cs = e_u8 a ∧ (0 ≤ a ∧ a ≤ 255) := by
  obtain ⟨a, h1, h2⟩ := op_int Try.underlying5 h
  refine ⟨a, h1, ?_⟩
  simp only [Lit.wf, IntKind.min, IntKind.max, IntKind.bits, IntKind.signed] at h2
  simp at h2
  omega

theorem op_69 {H : Type} {enc : TypeId × Value → H} {w : World} {base : Nat} {spare : Nat → Bool} {held : Bool} (n : Nat) (cs : List Value) (x : DataW H × List MemPlace) (hl : cs.length = 5) (h : DataW.trod enc Try.prog w base spare held n 69 cs = some x) : ∃ a : T_edit_Step, cs = e_edit_Step a ∧ ((-9223372036854775808 ≤ a.Kind ∧ a.Kind ≤ 9223372036854775807) ∧ (-9223372036854775808 ≤ a.A ∧ a.A ≤ 9223372036854775807) ∧ (-9223372036854775808 ≤ a.B ∧ a.B ≤ 9223372036854775807) ∧ (-9223372036854775808 ≤ a.C ∧ a.C ≤ 9223372036854775807) ∧ (-9223372036854775808 ≤ a.D ∧ a.D ≤ 9223372036854775807)) := by
  obtain ⟨n0, y0, h0⟩ := op_fieldF (i := 0) (ft := 3) (fo := 0) (sz := 1) Try.underlying69 rfl (by kernel_rfl) h
  obtain ⟨a0, e0, w0⟩ := op_3 n0 _ y0 (by rw [List.length_take, List.length_drop, hl]; rfl) h0
  have p0 := piece e0 rfl
  obtain ⟨n1, y1, h1⟩ := op_fieldF (i := 1) (ft := 3) (fo := 1) (sz := 1) Try.underlying69 rfl (by kernel_rfl) h
  obtain ⟨a1, e1, w1⟩ := op_3 n1 _ y1 (by rw [List.length_take, List.length_drop, hl]; rfl) h1
  have p1 := piece e1 rfl
  obtain ⟨n2, y2, h2⟩ := op_fieldF (i := 2) (ft := 3) (fo := 2) (sz := 1) Try.underlying69 rfl (by kernel_rfl) h
  obtain ⟨a2, e2, w2⟩ := op_3 n2 _ y2 (by rw [List.length_take, List.length_drop, hl]; rfl) h2
  have p2 := piece e2 rfl
  obtain ⟨n3, y3, h3⟩ := op_fieldF (i := 3) (ft := 3) (fo := 3) (sz := 1) Try.underlying69 rfl (by kernel_rfl) h
  obtain ⟨a3, e3, w3⟩ := op_3 n3 _ y3 (by rw [List.length_take, List.length_drop, hl]; rfl) h3
  have p3 := piece e3 rfl
  obtain ⟨n4, y4, h4⟩ := op_fieldF (i := 4) (ft := 3) (fo := 4) (sz := 1) Try.underlying69 rfl (by kernel_rfl) h
  obtain ⟨a4, e4, w4⟩ := op_3 n4 _ y4 (by rw [List.length_take, List.length_drop, hl]; rfl) h4
  have p4 := piece e4 rfl
  have pe : cs.drop 5 = [] := List.drop_of_length_le (by omega)
  refine ⟨⟨a0, a1, a2, a3, a4⟩, ?_, w0, w1, w2, w3, w4⟩
  rw [← List.drop_zero (l := cs)]
  rw [p0]
  rw [show cs.drop (0 + 1) = cs.drop 1 from rfl, p1]
  rw [show cs.drop (1 + 1) = cs.drop 2 from rfl, p2]
  rw [show cs.drop (2 + 1) = cs.drop 3 from rfl, p3]
  rw [show cs.drop (3 + 1) = cs.drop 4 from rfl, p4]
  rw [show cs.drop (4 + 1) = cs.drop 5 from rfl, pe]
  rfl

theorem own : ownKnob Try.prog.godebug = none := by kernel_rfl
theorem laidOut : laidOutB Try.prog = true := by kernel_rfl

/-! ### the row's step -/
theorem lifted (os : Os) (started : os.Started) (H : Type) (enc : TypeId × Value → H) :
    ReturnsInHanded {} Try.checked os 9 .any (Rows.editRendersSpec.pre6 enc Try.prog Try.f9 Rows.editRendersRow.domain false) (Rows.editRendersSpec.post enc Try.prog Try.f9 false true false false) := by
  refine returnsInHanded_of_change (C := Try.checked) own started (by kernel_rfl) Try.func9
    (ChangeSpec.witness6 (enc := enc) (C := Try.checked) false ⟨#[], #[.agg #[.int .i64 0, .int .i64 0, .slice none 0 0], .slice none 0 0, .int .i64 0, .int .i64 0], []⟩ 8 (by kernel_rfl) (by kernel_rfl) (by kernel_rfl) (by kernel_rfl)) ?_
  intro W base args ds gs before hval0 hW hcnd _
  have hval : ∀ (j : Nat) t v, Try.f9.params[j]? = some t → args[j]? = some v → Value.okWide Try.prog W .any base t v := hval0
  have hW' := hW
  obtain ⟨p, q, hA0, hV, rfl, hfz, hnd⟩ := hW
  have hA : DataW.TrodAll enc Try.prog W 0 (fun _ => true) true Try.f9.params.toList args.toList ds p := hA0
  rw [Try.params9] at hA hval
  obtain ⟨v0, vs0, d0, ds0, p0, q0, hargs, rfl, rfl, h0, r0⟩ := trodAll_cons hA
  obtain ⟨v1, vs1, d1, ds1, p1, q1, rfl, rfl, rfl, h1, r1⟩ := trodAll_cons r0
  obtain ⟨v2, vs2, d2, ds2, p2, q2, rfl, rfl, rfl, h2, r2⟩ := trodAll_cons r1
  obtain ⟨v3, vs3, d3, ds3, p3, q3, rfl, rfl, rfl, h3, r3⟩ := trodAll_cons r2
  obtain ⟨rfl, rfl, rfl⟩ := trodAll_nil r3
  obtain rfl : args = #[v0, v1, v2, v3] := by cases args; simp_all
  obtain ⟨rfl, rfl⟩ := trodVars_none hV
  have kt0 := h0
  have lt0 : ∀ x ∈ p0, x.block < W.heap.size := by obtain ⟨m, hm⟩ := kt0; exact DataW.trod_lt m _ _ _ hm
  have kt1 := h1
  have lt1 : ∀ x ∈ p1, x.block < W.heap.size := by obtain ⟨m, hm⟩ := kt1; exact DataW.trod_lt m _ _ _ hm
  have kt2 := h2
  have lt2 : ∀ x ∈ p2, x.block < W.heap.size := by obtain ⟨m, hm⟩ := kt2; exact DataW.trod_lt m _ _ _ hm
  have kt3 := h3
  have lt3 : ∀ x ∈ p3, x.block < W.heap.size := by obtain ⟨m, hm⟩ := kt3; exact DataW.trod_lt m _ _ _ hm
  obtain ⟨n0, hf0⟩ := h0
  obtain ⟨c0, rfl, hc0, hl0⟩ := val_struct Try.underlying97 (hval 0 97 v0 rfl rfl)
  rw [hc0] at hf0
  rw [(by kernel_rfl : Try.prog.cellsOf 97 = 3)] at hl0
  obtain ⟨n0_0, y0_0, h0_0⟩ := op_fieldF (i := 0) (ft := 3) (fo := 0) (sz := 1) Try.underlying97 rfl (by kernel_rfl) hf0
  obtain ⟨a0_0, e0_0, w0_0⟩ := op_3 n0_0 _ y0_0 (by rw [List.length_take, List.length_drop, hl0]; rfl) h0_0
  have p0_0 := piece e0_0 rfl
  obtain ⟨n0_1, y0_1, h0_1⟩ := op_fieldF (i := 1) (ft := 3) (fo := 1) (sz := 1) Try.underlying97 rfl (by kernel_rfl) hf0
  obtain ⟨a0_1, e0_1, w0_1⟩ := op_3 n0_1 _ y0_1 (by rw [List.length_take, List.length_drop, hl0]; rfl) h0_1
  have p0_1 := piece e0_1 rfl
  obtain ⟨n0_2, y0_2, h0_2⟩ := op_fieldF (i := 2) (ft := 95) (fo := 2) (sz := 1) Try.underlying97 rfl (by kernel_rfl) hf0
  obtain ⟨u0_2, a0_2, e0_2, f0_2, hn0_2, g0_2⟩ := op_sliceF (f := e_u8) (good := fun a => 0 ≤ a ∧ a ≤ 255) Try.underlying95 (by kernel_rfl : Try.prog.cellsOf 5 = 1) rfl (fun n cs x hl h => op_5 n cs x hl h) h0_2
  have p0_2 := piece e0_2 rfl
  have pe0 : c0.drop 3 = [] := List.drop_of_length_le (by omega)
  have hcs0 : c0 = [.int .i64 a0_0, .int .i64 a0_1, u0_2] := by
    rw [← List.drop_zero (l := c0)]
    rw [p0_0]
    rw [show c0.drop (0 + 1) = c0.drop 1 from rfl, p0_1]
    rw [show c0.drop (1 + 1) = c0.drop 2 from rfl, p0_2]
    rw [show c0.drop (2 + 1) = c0.drop 3 from rfl, pe0]
    rfl
  subst hcs0
  obtain ⟨n1, hf1⟩ := h1
  have hv1 : v1.cells.toList = [v1] := val_cell (by kernel_rfl) (hval 1 61 v1 rfl rfl)
  rw [hv1] at hf1
  obtain ⟨u1, a1, hu1, f1, hn1, g1⟩ := op_sliceF (f := e_edit_Step) (good := fun a => (-9223372036854775808 ≤ a.Kind ∧ a.Kind ≤ 9223372036854775807) ∧ (-9223372036854775808 ≤ a.A ∧ a.A ≤ 9223372036854775807) ∧ (-9223372036854775808 ≤ a.B ∧ a.B ≤ 9223372036854775807) ∧ (-9223372036854775808 ≤ a.C ∧ a.C ≤ 9223372036854775807) ∧ (-9223372036854775808 ≤ a.D ∧ a.D ≤ 9223372036854775807)) Try.underlying61 (by kernel_rfl : Try.prog.cellsOf 69 = 5) rfl (fun n cs x hl h => op_69 n cs x hl h) hf1
  simp only [List.cons.injEq, and_true] at hu1
  subst hu1
  obtain ⟨n2, hf2⟩ := h2
  have hv2 : v2.cells.toList = [v2] := val_cell (by kernel_rfl) (hval 2 3 v2 rfl rfl)
  rw [hv2] at hf2
  obtain ⟨a2, hu2, w2⟩ := op_3 _ _ _ rfl hf2
  simp only [List.cons.injEq, and_true] at hu2
  subst hu2
  obtain ⟨n3, hf3⟩ := h3
  have hv3 : v3.cells.toList = [v3] := val_cell (by kernel_rfl) (hval 3 3 v3 rfl rfl)
  rw [hv3] at hf3
  obtain ⟨a3, hu3, w3⟩ := op_3 _ _ _ rfl hf3
  simp only [List.cons.injEq, and_true] at hu3
  subst hu3
  clear hA0 hval0
  have q0 := k9 (a0 := (⟨a0_0, a0_1, a0_2⟩ : T_api_Image)) (a1 := a1) (a2 := a2) (a3 := a3) (know_all W) f0_2 f1 (editRendersS (⟨a0_0, a0_1, a0_2⟩ : T_api_Image) a1 a2 a3 (And.intro w0_0 (And.intro w0_1 (And.intro hn0_2 g0_2))) (And.intro hn1 g1) w2 w3)
  refine Calls.mono q0 fun e W' hq => ?_
  obtain ⟨v, he, hv, bel⟩ := hq
  subst he hv
  exact ⟨_, rfl, _, _, _, [], _, [], hW', trodAll_mk1 (shut_bool Try.underlying4 _), (trodAll_cons_mk (Below.trod laidOut (by kernel_rfl) (of_decide_eq_true (by kernel_rfl)) kt0 bel lt0) (trodAll_cons_mk (Below.trod laidOut (by kernel_rfl) (of_decide_eq_true (by kernel_rfl)) kt1 bel lt1) (trodAll_cons_mk (Below.trod laidOut (by kernel_rfl) (of_decide_eq_true (by kernel_rfl)) kt2 bel lt2) (trodAll_cons_mk (Below.trod laidOut (by kernel_rfl) (of_decide_eq_true (by kernel_rfl)) kt3 bel lt3) trodAll_mk0)))), rfl, bel.frame _, fun h => by cases h⟩

theorem over : Rows.editRendersRow.holds Try.pinned (OpenSpec.ofChange Rows.editRendersSpec) :=
  OpenClaim.holds_of_wide 9 Try.f9 rfl rfl rfl rfl rfl rfl rfl ⟨rfl, rfl, rfl, rfl, rfl⟩ rfl rfl rfl rfl rfl (by kernel_rfl) Try.func9 (by kernel_rfl)
    (of_decide_eq_true (by kernel_rfl)) (by unfold Func.isWrapper; first | (rw [if_pos (by decide +kernel)]; kernel_rfl) | (rw [if_neg (by decide +kernel)]; exact ⟨rfl, rfl⟩))
    (fun os started H enc _ => lifted os started H enc)

end Go.Proofs.Ytngogocmhmfbjaa.editRendersDone
namespace Go.Proofs.Ytngogocmhmfbjaa
/-- The statement. -/
theorem editRenders_holds : Rows.EditRendersSaid := editRendersDone.over
#print axioms editRenders_holds
end Go.Proofs.Ytngogocmhmfbjaa
