/- For every input, EditHistories returns true, and its arguments read behind the call as before. Conditions: none. -/
import Derived.Test.YtohdhdiaahiicaaKHi
import Derived.Test.YtohdhdiaahiicaaEhX
import Derived.WalkKit
import Derived.ProofKit
import Derived.OpenShut
import Derived.ChangeOld
import Derived.Below
import Derived.Lib.SmallJoins
import Derived.Test.YtohdhdiaahiicaaRows
import Derived.Test.YtohdhdiaahiicaaOpenN
namespace Go.Proofs.Ytohdhdiaahiicaa.editHistoriesDone
open Go Go.Vc Go.Md Go.M Go.Lx Go.ChangeShapes Go.WideShapes Go.ChangeAt Go.RowKit Go.Joins
set_option linter.unusedVariables false
set_option maxRecDepth 100000
set_option maxHeartbeats 4000000


theorem op_3 {H : Type} {enc : TypeId × Value → H} {w : World} {base : Nat} {spare : Nat → Bool} {held : Bool} {B : Nat} (n : Nat) (cs : List Value) (x : DataW H × List MemPlace) (hB : Wt Try.prog B 3 x.1) (hl : cs.length = 1) (h : DataW.trod enc Try.prog w base spare held n 3 cs = some x) : ∃ a : Int, cs = e_i64 a ∧ (-9223372036854775808 ≤ a ∧ a ≤ 9223372036854775807) := by
  obtain ⟨a, h1, h2⟩ := op_int Try.underlying3 h
  refine ⟨a, h1, ?_⟩
  simp only [Lit.wf, IntKind.min, IntKind.max, IntKind.bits, IntKind.signed] at h2
  simp at h2
  omega

theorem op_31 {H : Type} {enc : TypeId × Value → H} {w : World} {base : Nat} {spare : Nat → Bool} {held : Bool} {B : Nat} (n : Nat) (cs : List Value) (x : DataW H × List MemPlace) (hB : Wt Try.prog B 31 x.1) (hl : cs.length = 5) (h : DataW.trod enc Try.prog w base spare held n 31 cs = some x) : ∃ a : T_edit_Step, cs = e_edit_Step a ∧ ((-9223372036854775808 ≤ a.Kind ∧ a.Kind ≤ 9223372036854775807) ∧ (-9223372036854775808 ≤ a.A ∧ a.A ≤ 9223372036854775807) ∧ (-9223372036854775808 ≤ a.B ∧ a.B ≤ 9223372036854775807) ∧ (-9223372036854775808 ≤ a.C ∧ a.C ≤ 9223372036854775807) ∧ (-9223372036854775808 ≤ a.D ∧ a.D ≤ 9223372036854775807)) := by
  obtain ⟨n0, y0, h0, g0⟩ := op_fieldW hB (i := 0) (ft := 3) (fo := 0) (sz := 1) Try.underlying31 rfl (by kernel_rfl) h
  obtain ⟨a0, e0, w0⟩ := op_3 n0 _ y0 g0 (by rw [List.length_take, List.length_drop, hl]; rfl) h0
  have p0 := piece e0 rfl
  obtain ⟨n1, y1, h1, g1⟩ := op_fieldW hB (i := 1) (ft := 3) (fo := 1) (sz := 1) Try.underlying31 rfl (by kernel_rfl) h
  obtain ⟨a1, e1, w1⟩ := op_3 n1 _ y1 g1 (by rw [List.length_take, List.length_drop, hl]; rfl) h1
  have p1 := piece e1 rfl
  obtain ⟨n2, y2, h2, g2⟩ := op_fieldW hB (i := 2) (ft := 3) (fo := 2) (sz := 1) Try.underlying31 rfl (by kernel_rfl) h
  obtain ⟨a2, e2, w2⟩ := op_3 n2 _ y2 g2 (by rw [List.length_take, List.length_drop, hl]; rfl) h2
  have p2 := piece e2 rfl
  obtain ⟨n3, y3, h3, g3⟩ := op_fieldW hB (i := 3) (ft := 3) (fo := 3) (sz := 1) Try.underlying31 rfl (by kernel_rfl) h
  obtain ⟨a3, e3, w3⟩ := op_3 n3 _ y3 g3 (by rw [List.length_take, List.length_drop, hl]; rfl) h3
  have p3 := piece e3 rfl
  obtain ⟨n4, y4, h4, g4⟩ := op_fieldW hB (i := 4) (ft := 3) (fo := 4) (sz := 1) Try.underlying31 rfl (by kernel_rfl) h
  obtain ⟨a4, e4, w4⟩ := op_3 n4 _ y4 g4 (by rw [List.length_take, List.length_drop, hl]; rfl) h4
  have p4 := piece e4 rfl
  have pe : cs.drop 5 = [] := List.drop_of_length_le (by omega)
  refine ⟨⟨a0, a1, a2, a3, a4⟩, ?_, w0, w1, w2, w3, w4⟩
  rw [← List.drop_zero (l := cs)]
  rw [p0]
  rw [show cs.drop (0 + 1) = cs.drop 1 from rfl, p1]
  rw [show cs.drop (1 + 1) = cs.drop 2 from rfl, p2]
  rw [show cs.drop (2 + 1) = cs.drop 3 from rfl, p3]
  rw [show cs.drop (3 + 1) = cs.drop 4 from rfl, p4]
  rw [show cs.drop (4 + 1) = cs.drop 5 from rfl, pe]
  rfl

theorem opn_33 {H : Type} {enc : TypeId × Value → H} {w : World} {base : Nat} {spare : Nat → Bool} {held : Bool} {B : Nat} (n : Nat) (cs : List Value) (x : DataW H × List MemPlace) (hB : Wt Try.prog B 33 x.1) (hl : cs.length = 8) (h : DataW.trod enc Try.prog w base spare held n 33 cs = some x) : ∃ a : T_tintlaw2_Move, g_tintlaw2_Move (fun b => w.heap[b]?) (fun j => cs.getD j undef) a ∧ ((-9223372036854775808 ≤ a.Kind ∧ a.Kind ≤ 9223372036854775807) ∧ (-9223372036854775808 ≤ a.N ∧ a.N ≤ 9223372036854775807) ∧ ((-9223372036854775808 ≤ a.Step.Kind ∧ a.Step.Kind ≤ 9223372036854775807) ∧ (-9223372036854775808 ≤ a.Step.A ∧ a.Step.A ≤ 9223372036854775807) ∧ (-9223372036854775808 ≤ a.Step.B ∧ a.Step.B ≤ 9223372036854775807) ∧ (-9223372036854775808 ≤ a.Step.C ∧ a.Step.C ≤ 9223372036854775807) ∧ (-9223372036854775808 ≤ a.Step.D ∧ a.Step.D ≤ 9223372036854775807)) ∧ ((a.Steps.length ≤ 9223372036854775807 ∧ a.Steps.length * 40 ≤ B) ∧ ∀ x ∈ a.Steps, ((-9223372036854775808 ≤ x.Kind ∧ x.Kind ≤ 9223372036854775807) ∧ (-9223372036854775808 ≤ x.A ∧ x.A ≤ 9223372036854775807) ∧ (-9223372036854775808 ≤ x.B ∧ x.B ≤ 9223372036854775807) ∧ (-9223372036854775808 ≤ x.C ∧ x.C ≤ 9223372036854775807) ∧ (-9223372036854775808 ≤ x.D ∧ x.D ≤ 9223372036854775807)))) := by
  obtain ⟨n0, y0, h0, g0⟩ := op_fieldW hB (i := 0) (ft := 3) (fo := 0) (sz := 1) Try.underlying33 rfl (by kernel_rfl) h
  obtain ⟨a0, e0, w0⟩ := op_3 n0 _ y0 g0 (by rw [List.length_take, List.length_drop, hl]; rfl) h0
  obtain ⟨n1, y1, h1, g1⟩ := op_fieldW hB (i := 1) (ft := 3) (fo := 1) (sz := 1) Try.underlying33 rfl (by kernel_rfl) h
  obtain ⟨a1, e1, w1⟩ := op_3 n1 _ y1 g1 (by rw [List.length_take, List.length_drop, hl]; rfl) h1
  obtain ⟨n2, y2, h2, g2⟩ := op_fieldW hB (i := 2) (ft := 31) (fo := 2) (sz := 5) Try.underlying33 rfl (by kernel_rfl) h
  obtain ⟨a2, e2, w2⟩ := op_31 n2 _ y2 g2 (by rw [List.length_take, List.length_drop, hl]; rfl) h2
  obtain ⟨n3, y3, h3, g3⟩ := op_fieldW hB (i := 3) (ft := 22) (fo := 7) (sz := 1) Try.underlying33 rfl (by kernel_rfl) h
  obtain ⟨u3, a3, e3, f3, hn3, gg3⟩ := op_sliceW (f := e_edit_Step) (good := fun a => (-9223372036854775808 ≤ a.Kind ∧ a.Kind ≤ 9223372036854775807) ∧ (-9223372036854775808 ≤ a.A ∧ a.A ≤ 9223372036854775807) ∧ (-9223372036854775808 ≤ a.B ∧ a.B ≤ 9223372036854775807) ∧ (-9223372036854775808 ≤ a.C ∧ a.C ≤ 9223372036854775807) ∧ (-9223372036854775808 ≤ a.D ∧ a.D ≤ 9223372036854775807)) g3 Try.underlying22 (by kernel_rfl : Try.prog.cellsOf 31 = 5) rfl (by kernel_rfl : Try.prog.bytesOf 31 = 40) (fun n cs x hB hl h => op_31 n cs x hB hl h) h3
  exact ⟨⟨a0, a1, a2, a3⟩, ⟨piece_get e0 (q := 0) (of_decide_eq_true rfl), piece_get e1 (q := 0) (of_decide_eq_true rfl), piece_get e2 (q := 0) (of_decide_eq_true rfl), piece_get e2 (q := 1) (of_decide_eq_true rfl), piece_get e2 (q := 2) (of_decide_eq_true rfl), piece_get e2 (q := 3) (of_decide_eq_true rfl), piece_get e2 (q := 4) (of_decide_eq_true rfl), fr_piece e3 f3⟩, w0, w1, w2, ⟨hn3, gg3⟩⟩

theorem own : ownKnob Try.prog.godebug = none := by kernel_rfl
theorem laidOut : laidOutB Try.prog = true := by kernel_rfl

/-! ### the row's step -/
theorem lifted (os : Os) (started : os.Started) (H : Type) (enc : TypeId × Value → H) :
    ReturnsInHanded {} Try.checked os 3 .any (Rows.editHistoriesSpec.pre6 enc Try.prog Try.f3 Rows.editHistoriesRow.domain false) (Rows.editHistoriesSpec.post enc Try.prog Try.f3 false true false false) := by
  refine returnsInHanded_of_change_sized (C := Try.checked) own started (by kernel_rfl) Try.func3
    (ChangeSpec.witness6 (enc := enc) (C := Try.checked) false ⟨#[], #[.slice none 0 0, .slice none 0 0], []⟩ 8 (by kernel_rfl) (by kernel_rfl) (by kernel_rfl) (by kernel_rfl)) ?_
  intro W base args ds gs before hval0 hW hcnd hk _
  have hval : ∀ (j : Nat) t v, Try.f3.params[j]? = some t → args[j]? = some v → Value.okWide Try.prog W .any base t v := hval0
  have hW' := hW
  obtain ⟨p, q, hA0, hV, rfl, hfz, hnd⟩ := hW
  have hA : DataW.TrodAll enc Try.prog W 0 (fun _ => true) true Try.f3.params.toList args.toList ds p := hA0
  rw [Try.params3] at hA hval
  obtain ⟨v0, vs0, d0, ds0, p0, q0, hargs, rfl, rfl, h0, r0⟩ := trodAll_cons hA
  obtain ⟨v1, vs1, d1, ds1, p1, q1, rfl, rfl, rfl, h1, r1⟩ := trodAll_cons r0
  obtain ⟨rfl, rfl, rfl⟩ := trodAll_nil r1
  obtain rfl : args = #[v0, v1] := by cases args; simp_all
  obtain ⟨rfl, rfl⟩ := trodVars_none hV
  have kt0 := h0
  have lt0 : ∀ x ∈ p0, x.block < W.heap.size := by obtain ⟨m, hm⟩ := kt0; exact DataW.trod_lt m _ _ _ hm
  have kt1 := h1
  have lt1 : ∀ x ∈ p1, x.block < W.heap.size := by obtain ⟨m, hm⟩ := kt1; exact DataW.trod_lt m _ _ _ hm
  have hb0 : Wt Try.prog 140737488351232 22 (d0, p0).1 := wt_arg (B := 140737488351232) hk 0 (by kernel_rfl) rfl
  have hb1 : Wt Try.prog 140737488351232 23 (d1, p1).1 := wt_arg (B := 140737488351232) hk 1 (by kernel_rfl) rfl
  obtain ⟨n0, hf0⟩ := h0
  have hv0 : v0.cells.toList = [v0] := val_cell (by kernel_rfl) (hval 0 22 v0 rfl rfl)
  rw [hv0] at hf0
  obtain ⟨u0, a0, hu0, f0, hn0, g0⟩ := op_sliceW (f := e_edit_Step) (good := fun a => (-9223372036854775808 ≤ a.Kind ∧ a.Kind ≤ 9223372036854775807) ∧ (-9223372036854775808 ≤ a.A ∧ a.A ≤ 9223372036854775807) ∧ (-9223372036854775808 ≤ a.B ∧ a.B ≤ 9223372036854775807) ∧ (-9223372036854775808 ≤ a.C ∧ a.C ≤ 9223372036854775807) ∧ (-9223372036854775808 ≤ a.D ∧ a.D ≤ 9223372036854775807)) hb0 Try.underlying22 (by kernel_rfl : Try.prog.cellsOf 31 = 5) rfl (by kernel_rfl : Try.prog.bytesOf 31 = 40) (fun n cs x hb hl h => op_31 n cs x hb hl h) hf0
  simp only [List.cons.injEq, and_true] at hu0
  subst hu0
  obtain ⟨n1, hf1⟩ := h1
  have hv1 : v1.cells.toList = [v1] := val_cell (by kernel_rfl) (hval 1 23 v1 rfl rfl)
  rw [hv1] at hf1
  obtain ⟨u1, a1, hu1, f1, hn1, g1⟩ := op_sliceN (G := g_tintlaw2_Move) (good := fun a => (-9223372036854775808 ≤ a.Kind ∧ a.Kind ≤ 9223372036854775807) ∧ (-9223372036854775808 ≤ a.N ∧ a.N ≤ 9223372036854775807) ∧ ((-9223372036854775808 ≤ a.Step.Kind ∧ a.Step.Kind ≤ 9223372036854775807) ∧ (-9223372036854775808 ≤ a.Step.A ∧ a.Step.A ≤ 9223372036854775807) ∧ (-9223372036854775808 ≤ a.Step.B ∧ a.Step.B ≤ 9223372036854775807) ∧ (-9223372036854775808 ≤ a.Step.C ∧ a.Step.C ≤ 9223372036854775807) ∧ (-9223372036854775808 ≤ a.Step.D ∧ a.Step.D ≤ 9223372036854775807)) ∧ ((a.Steps.length ≤ 9223372036854775807 ∧ a.Steps.length * 40 ≤ 140737488351232) ∧ ∀ x ∈ a.Steps, ((-9223372036854775808 ≤ x.Kind ∧ x.Kind ≤ 9223372036854775807) ∧ (-9223372036854775808 ≤ x.A ∧ x.A ≤ 9223372036854775807) ∧ (-9223372036854775808 ≤ x.B ∧ x.B ≤ 9223372036854775807) ∧ (-9223372036854775808 ≤ x.C ∧ x.C ≤ 9223372036854775807) ∧ (-9223372036854775808 ≤ x.D ∧ x.D ≤ 9223372036854775807)))) hb1 Try.underlying23 (by kernel_rfl : Try.prog.cellsOf 33 = 8) rfl (by kernel_rfl : Try.prog.bytesOf 33 = 80) (fun n cs x hb hl h => opn_33 n cs x hb hl h) hf1
  simp only [List.cons.injEq, and_true] at hu1
  subst hu1
  clear hA0 hval0
  refine Calls.mono (k3 (know_all W) f0 f1 (editHistoriesS a0 a1 (And.intro hn0 g0) (And.intro hn1 g1))) fun e W' hq => ?_
  obtain ⟨v, he, hv, bel⟩ := hq
  subst he hv
  exact ⟨_, rfl, _, _, _, [], _, [], hW', trodAll_mk1 (shut_bool Try.underlying4 _), (trodAll_cons_mk (Below.trod laidOut (by kernel_rfl) (of_decide_eq_true (by kernel_rfl)) kt0 bel lt0) (trodAll_cons_mk (Below.trod laidOut (by kernel_rfl) (of_decide_eq_true (by kernel_rfl)) kt1 bel lt1) trodAll_mk0)), rfl, bel.frame _, fun h => by cases h⟩

theorem over : Rows.editHistoriesRow.holds Try.pinned (OpenSpec.ofChange Rows.editHistoriesSpec) :=
  OpenClaim.holds_of_wide 3 Try.f3 rfl rfl rfl rfl rfl rfl rfl ⟨rfl, rfl, rfl, rfl, rfl⟩ rfl rfl rfl rfl rfl (by kernel_rfl) Try.func3 (by kernel_rfl)
    (of_decide_eq_true (by kernel_rfl)) (by unfold Func.isWrapper; first | (rw [if_pos (by decide +kernel)]; kernel_rfl) | (rw [if_neg (by decide +kernel)]; exact ⟨rfl, rfl⟩))
    (fun os started H enc _ => lifted os started H enc)

end Go.Proofs.Ytohdhdiaahiicaa.editHistoriesDone
namespace Go.Proofs.Ytohdhdiaahiicaa
/-- The statement. -/
theorem editHistories_holds : Rows.EditHistoriesSaid := editHistoriesDone.over
#print axioms editHistories_holds
end Go.Proofs.Ytohdhdiaahiicaa
