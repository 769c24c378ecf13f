/- For every input, FaceClusters returns true, and its arguments read behind the call as before. Conditions: none. -/
import Derived.Test.YtfihhlfkoghjeaaGrB
import Derived.Test.YtfihhlfkoghjeaaGrQ
import Derived.WalkKit
import Derived.ProofKit
import Derived.OpenShut
import Derived.ChangeOld
import Derived.Below
import Derived.Lib.SmallJoins
import Derived.Test.YtfihhlfkoghjeaaRows
set_option linter.unusedVariables false
namespace Go.Proofs.Ytfihhlfkoghjeaa.faceClustersDone
open Go Go.Vc Go.Md Go.M Go.Lx Go.ChangeShapes Go.WideShapes Go.ChangeAt Go.RowKit Go.Joins
set_option linter.unusedVariables false
set_option maxRecDepth 100000
set_option maxHeartbeats 4000000


theorem op_3 {H : Type} {enc : TypeId × Value → H} {w : World} {base : Nat} {spare : Nat → Bool} {held : Bool} {B : Nat} (n : Nat) (cs : List Value) (x : DataW H × List MemPlace) (hB : Wt Try.prog B 3 x.1) (hl : cs.length = 1) (h : DataW.trod enc Try.prog w base spare held n 3 cs = some x) : ∃ a : Int, cs = e_i64 a ∧ (-9223372036854775808 ≤ a ∧ a ≤ 9223372036854775807) := by
  obtain ⟨a, h1, h2⟩ := op_int Try.underlying3 h
  refine ⟨a, h1, ?_⟩
  simp only [Lit.wf, IntKind.min, IntKind.max, IntKind.bits, IntKind.signed] at h2
  simp at h2
  omega

theorem op_52 {H : Type} {enc : TypeId × Value → H} {w : World} {base : Nat} {spare : Nat → Bool} {held : Bool} {B : Nat} (n : Nat) (cs : List Value) (x : DataW H × List MemPlace) (hB : Wt Try.prog B 52 x.1) (hl : cs.length = 12) (h : DataW.trod enc Try.prog w base spare held n 52 cs = some x) : ∃ a : (Nat → Int), cs = e_face_Vec a ∧ (∀ j, j < 12 → (-9223372036854775808 ≤ (a j) ∧ (a j) ≤ 9223372036854775807)) := by
  obtain ⟨g, h1, h2⟩ := op_arr (f := e_i64) (good := fun a => -9223372036854775808 ≤ a ∧ a ≤ 9223372036854775807) Try.underlying52 (by kernel_rfl : Try.prog.cellsOf 3 = 1) (fun _ => rfl) (fun n cs x hl h => by
    obtain ⟨a, h1, h2⟩ := op_int Try.underlying3 h
    refine ⟨a, h1, ?_⟩
    simp only [Lit.wf, IntKind.min, IntKind.max, IntKind.bits, IntKind.signed] at h2
    simp at h2
    omega) (by rw [hl]) h
  exact ⟨g, h1, h2⟩

theorem op_64 {H : Type} {enc : TypeId × Value → H} {w : World} {base : Nat} {spare : Nat → Bool} {held : Bool} {B : Nat} (n : Nat) (cs : List Value) (x : DataW H × List MemPlace) (hB : Wt Try.prog B 64 x.1) (hl : cs.length = 14) (h : DataW.trod enc Try.prog w base spare held n 64 cs = some x) : ∃ a : T_face_Likeness, cs = e_face_Likeness a ∧ ((-9223372036854775808 ≤ a.Id ∧ a.Id ≤ 9223372036854775807) ∧ (-9223372036854775808 ≤ a.Photo ∧ a.Photo ≤ 9223372036854775807) ∧ (∀ j, j < 12 → (-9223372036854775808 ≤ (a.Vec j) ∧ (a.Vec j) ≤ 9223372036854775807))) := by
  obtain ⟨n0, y0, h0, g0⟩ := op_fieldW hB (i := 0) (ft := 3) (fo := 0) (sz := 1) Try.underlying64 rfl (by kernel_rfl) h
  obtain ⟨a0, e0, w0⟩ := op_3 n0 _ y0 g0 (by rw [List.length_take, List.length_drop, hl]; rfl) h0
  have p0 := piece e0 rfl
  obtain ⟨n1, y1, h1, g1⟩ := op_fieldW hB (i := 1) (ft := 3) (fo := 1) (sz := 1) Try.underlying64 rfl (by kernel_rfl) h
  obtain ⟨a1, e1, w1⟩ := op_3 n1 _ y1 g1 (by rw [List.length_take, List.length_drop, hl]; rfl) h1
  have p1 := piece e1 rfl
  obtain ⟨n2, y2, h2, g2⟩ := op_fieldW hB (i := 2) (ft := 52) (fo := 2) (sz := 12) Try.underlying64 rfl (by kernel_rfl) h
  obtain ⟨a2, e2, w2⟩ := op_52 n2 _ y2 g2 (by rw [List.length_take, List.length_drop, hl]; rfl) h2
  have p2 := piece e2 rfl
  have pe : cs.drop 14 = [] := List.drop_of_length_le (by omega)
  refine ⟨⟨a0, a1, a2⟩, ?_, w0, w1, w2⟩
  rw [← List.drop_zero (l := cs)]
  rw [p0]
  rw [show cs.drop (0 + 1) = cs.drop 1 from rfl, p1]
  rw [show cs.drop (1 + 1) = cs.drop 2 from rfl, p2]
  rw [show cs.drop (2 + 12) = cs.drop 14 from rfl, pe]
  rfl

theorem op_4 {H : Type} {enc : TypeId × Value → H} {w : World} {base : Nat} {spare : Nat → Bool} {held : Bool} {B : Nat} (n : Nat) (cs : List Value) (x : DataW H × List MemPlace) (hB : Wt Try.prog B 4 x.1) (hl : cs.length = 1) (h : DataW.trod enc Try.prog w base spare held n 4 cs = some x) : ∃ a : Bool, cs = e_bool a ∧ (True) := by
  obtain ⟨a, h1⟩ := op_bool Try.underlying4 h
  exact ⟨a, h1, trivial⟩

theorem op_35 {H : Type} {enc : TypeId × Value → H} {w : World} {base : Nat} {spare : Nat → Bool} {held : Bool} {B : Nat} (n : Nat) (cs : List Value) (x : DataW H × List MemPlace) (hB : Wt Try.prog B 35 x.1) (hl : cs.length = 3) (h : DataW.trod enc Try.prog w base spare held n 35 cs = some x) : ∃ a : T_face_Bond, cs = e_face_Bond a ∧ ((-9223372036854775808 ≤ a.A ∧ a.A ≤ 9223372036854775807) ∧ (-9223372036854775808 ≤ a.B ∧ a.B ≤ 9223372036854775807) ∧ (True)) := by
  obtain ⟨n0, y0, h0, g0⟩ := op_fieldW hB (i := 0) (ft := 3) (fo := 0) (sz := 1) Try.underlying35 rfl (by kernel_rfl) h
  obtain ⟨a0, e0, w0⟩ := op_3 n0 _ y0 g0 (by rw [List.length_take, List.length_drop, hl]; rfl) h0
  have p0 := piece e0 rfl
  obtain ⟨n1, y1, h1, g1⟩ := op_fieldW hB (i := 1) (ft := 3) (fo := 1) (sz := 1) Try.underlying35 rfl (by kernel_rfl) h
  obtain ⟨a1, e1, w1⟩ := op_3 n1 _ y1 g1 (by rw [List.length_take, List.length_drop, hl]; rfl) h1
  have p1 := piece e1 rfl
  obtain ⟨n2, y2, h2, g2⟩ := op_fieldW hB (i := 2) (ft := 4) (fo := 2) (sz := 1) Try.underlying35 rfl (by kernel_rfl) h
  obtain ⟨a2, e2, w2⟩ := op_4 n2 _ y2 g2 (by rw [List.length_take, List.length_drop, hl]; rfl) h2
  have p2 := piece e2 rfl
  have pe : cs.drop 3 = [] := List.drop_of_length_le (by omega)
  refine ⟨⟨a0, a1, a2⟩, ?_, w0, w1, w2⟩
  rw [← List.drop_zero (l := cs)]
  rw [p0]
  rw [show cs.drop (0 + 1) = cs.drop 1 from rfl, p1]
  rw [show cs.drop (1 + 1) = cs.drop 2 from rfl, p2]
  rw [show cs.drop (2 + 1) = cs.drop 3 from rfl, pe]
  rfl

theorem own : ownKnob Try.prog.godebug = none := by kernel_rfl
theorem laidOut : laidOutB Try.prog = true := by kernel_rfl

theorem lifted (os : Os) (started : os.Started) (H : Type) (enc : TypeId × Value → H) :
    ReturnsInHanded {} Try.checked os 3 .any (Rows.faceClustersSpec.pre6 enc Try.prog Try.f3 Rows.faceClustersRow.domain false) (Rows.faceClustersSpec.post enc Try.prog Try.f3 false true false false) := by
  refine returnsInHanded_of_change_sized (C := Try.checked) own started (by kernel_rfl) Try.func3
    (ChangeSpec.witness6 (enc := enc) (C := Try.checked) false ⟨#[], #[.slice none 0 0, .slice none 0 0, .int .i64 0], []⟩ 8 (by kernel_rfl) (by kernel_rfl) (by kernel_rfl) (by kernel_rfl)) ?_
  intro W base args ds gs before hval0 hW hcnd hk _
  have hval : ∀ (j : Nat) t v, Try.f3.params[j]? = some t → args[j]? = some v → Value.okWide Try.prog W .any base t v := hval0
  have hW' := hW
  obtain ⟨p, q, hA0, hV, rfl, hfz, hnd⟩ := hW
  have hA : DataW.TrodAll enc Try.prog W 0 (fun _ => true) true Try.f3.params.toList args.toList ds p := hA0
  rw [Try.params3] at hA hval
  obtain ⟨v0, vs0, d0, ds0, p0, q0, hargs, rfl, rfl, h0, r0⟩ := trodAll_cons hA
  obtain ⟨v1, vs1, d1, ds1, p1, q1, rfl, rfl, rfl, h1, r1⟩ := trodAll_cons r0
  obtain ⟨v2, vs2, d2, ds2, p2, q2, rfl, rfl, rfl, h2, r2⟩ := trodAll_cons r1
  obtain ⟨rfl, rfl, rfl⟩ := trodAll_nil r2
  obtain rfl : args = #[v0, v1, v2] := by cases args; simp_all
  obtain ⟨rfl, rfl⟩ := trodVars_none hV
  have kt0 := h0
  have lt0 : ∀ x ∈ p0, x.block < W.heap.size := by obtain ⟨m, hm⟩ := kt0; exact DataW.trod_lt m _ _ _ hm
  have kt1 := h1
  have lt1 : ∀ x ∈ p1, x.block < W.heap.size := by obtain ⟨m, hm⟩ := kt1; exact DataW.trod_lt m _ _ _ hm
  have kt2 := h2
  have lt2 : ∀ x ∈ p2, x.block < W.heap.size := by obtain ⟨m, hm⟩ := kt2; exact DataW.trod_lt m _ _ _ hm
  have hb0 : Wt Try.prog 140737488351232 22 (d0, p0).1 := wt_arg (B := 140737488351232) hk 0 (by kernel_rfl) rfl
  have hb1 : Wt Try.prog 140737488351232 23 (d1, p1).1 := wt_arg (B := 140737488351232) hk 1 (by kernel_rfl) rfl
  have hb2 : Wt Try.prog 140737488351232 3 (d2, p2).1 := wt_arg (B := 140737488351232) hk 2 (by kernel_rfl) rfl
  obtain ⟨n0, hf0⟩ := h0
  have hv0 : v0.cells.toList = [v0] := val_cell (by kernel_rfl) (hval 0 22 v0 rfl rfl)
  rw [hv0] at hf0
  obtain ⟨u0, a0, hu0, f0, hn0, g0⟩ := op_sliceW (f := e_face_Likeness) (good := fun a => (-9223372036854775808 ≤ a.Id ∧ a.Id ≤ 9223372036854775807) ∧ (-9223372036854775808 ≤ a.Photo ∧ a.Photo ≤ 9223372036854775807) ∧ (∀ j, j < 12 → (-9223372036854775808 ≤ (a.Vec j) ∧ (a.Vec j) ≤ 9223372036854775807))) hb0 Try.underlying22 (by kernel_rfl : Try.prog.cellsOf 64 = 14) rfl (by kernel_rfl : Try.prog.bytesOf 64 = 112) (fun n cs x hb hl h => op_64 n cs x hb hl h) hf0
  simp only [List.cons.injEq, and_true] at hu0
  subst hu0
  obtain ⟨n1, hf1⟩ := h1
  have hv1 : v1.cells.toList = [v1] := val_cell (by kernel_rfl) (hval 1 23 v1 rfl rfl)
  rw [hv1] at hf1
  obtain ⟨u1, a1, hu1, f1, hn1, g1⟩ := op_sliceW (f := e_face_Bond) (good := fun a => (-9223372036854775808 ≤ a.A ∧ a.A ≤ 9223372036854775807) ∧ (-9223372036854775808 ≤ a.B ∧ a.B ≤ 9223372036854775807) ∧ (True)) hb1 Try.underlying23 (by kernel_rfl : Try.prog.cellsOf 35 = 3) rfl (by kernel_rfl : Try.prog.bytesOf 35 = 24) (fun n cs x hb hl h => op_35 n cs x hb hl h) hf1
  simp only [List.cons.injEq, and_true] at hu1
  subst hu1
  obtain ⟨n2, hf2⟩ := h2
  have hv2 : v2.cells.toList = [v2] := val_cell (by kernel_rfl) (hval 2 3 v2 rfl rfl)
  rw [hv2] at hf2
  obtain ⟨a2, hu2, w2⟩ := op_3 _ _ _ hb2 rfl hf2
  simp only [List.cons.injEq, and_true] at hu2
  subst hu2
  clear hA0 hval0
  refine Calls.mono (k3 (know_all W) f0 f1 (faceClustersS a0 a1 a2 (And.intro hn0 g0) (And.intro hn1 g1) w2)) fun e W' hq => ?_
  obtain ⟨v, he, hv, bel⟩ := hq
  subst he hv
  exact ⟨_, rfl, _, _, _, [], _, [], hW', trodAll_mk1 (shut_bool Try.underlying4 _), (trodAll_cons_mk (Below.trod laidOut (by kernel_rfl) (of_decide_eq_true (by kernel_rfl)) kt0 bel lt0) (trodAll_cons_mk (Below.trod laidOut (by kernel_rfl) (of_decide_eq_true (by kernel_rfl)) kt1 bel lt1) (trodAll_cons_mk (Below.trod laidOut (by kernel_rfl) (of_decide_eq_true (by kernel_rfl)) kt2 bel lt2) trodAll_mk0))), rfl, bel.frame _, fun h => by cases h⟩

theorem over : Rows.faceClustersRow.holds Try.pinned (OpenSpec.ofChange Rows.faceClustersSpec) :=
  OpenClaim.holds_of_wide 3 Try.f3 rfl rfl rfl rfl rfl rfl rfl ⟨rfl, rfl, rfl, rfl, rfl⟩ rfl rfl rfl rfl rfl (by kernel_rfl) Try.func3 (by kernel_rfl)
    (of_decide_eq_true (by kernel_rfl)) (by unfold Func.isWrapper; first | (rw [if_pos (by decide +kernel)]; kernel_rfl) | (rw [if_neg (by decide +kernel)]; exact ⟨rfl, rfl⟩))
    (fun os started H enc _ => lifted os started H enc)

end Go.Proofs.Ytfihhlfkoghjeaa.faceClustersDone
namespace Go.Proofs.Ytfihhlfkoghjeaa
theorem faceClusters_holds : Rows.FaceClustersSaid := faceClustersDone.over
#print axioms faceClusters_holds
end Go.Proofs.Ytfihhlfkoghjeaa
