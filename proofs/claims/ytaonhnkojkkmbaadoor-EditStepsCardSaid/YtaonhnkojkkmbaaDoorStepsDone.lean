/- For every input, EditSteps returns true, and its arguments read behind the call as before. Conditions: none. -/
import Derived.Test.YtaonhnkojkkmbaaDoorKEs
import Derived.Test.YtaonhnkojkkmbaaDoorEsX
import Derived.Test.YtaonhnkojkkmbaaDoorOpenT
import Derived.WalkKit
import Derived.ProofKit
import Derived.OpenShut
import Derived.ChangeOld
import Derived.Below
import Derived.Lib.SmallJoins
import Derived.Test.YtaonhnkojkkmbaaDoorRows
import Derived.Test.YtaonhnkojkkmbaaDoorOpenW
import Derived.LaidMore
import Derived.Lay
import Derived.LaidLaws
import Derived.LaidHandle
import Derived.SevenTiedAt
import Derived.Stop.Joined
import Derived.Test.YtaonhnkojkkmbaaDoorCards
import Derived.Test.YtaonhnkojkkmbaaDoorTie
namespace Go.Proofs.YtaonhnkojkkmbaaDoor.editStepsDone
open Go Go.Vc Go.Md Go.M Go.Lx Go.ChangeShapes Go.WideShapes Go.ChangeAt Go.RowKit Go.Joins
set_option linter.unusedVariables false
set_option maxRecDepth 100000
set_option maxHeartbeats 4000000


theorem op_3 {H : Type} {enc : TypeId × Value → H} {w : World} {base : Nat} {spare : Nat → Bool} {held : Bool} {B : Nat} (n : Nat) (cs : List Value) (x : DataW H × List MemPlace) (hB : Wt Tryd.prog B 3 x.1) (hl : cs.length = 1) (h : DataW.trod enc Tryd.prog w base spare held n 3 cs = some x) : ∃ a : Int, cs = e_i64 a ∧ (-9223372036854775808 ≤ a ∧ a ≤ 9223372036854775807) := by
  obtain ⟨a, h1, h2⟩ := op_int Tryd.underlying3 h
  refine ⟨a, h1, ?_⟩
  simp only [Lit.wf, IntKind.min, IntKind.max, IntKind.bits, IntKind.signed] at h2
  simp at h2
  omega

theorem op_24 {H : Type} {enc : TypeId × Value → H} {w : World} {base : Nat} {spare : Nat → Bool} {held : Bool} {B : Nat} (n : Nat) (cs : List Value) (x : DataW H × List MemPlace) (hB : Wt Tryd.prog B 24 x.1) (hl : cs.length = 5) (h : DataW.trod enc Tryd.prog w base spare held n 24 cs = some x) : ∃ a : T_edit_Step, cs = e_edit_Step a ∧ ((-9223372036854775808 ≤ a.Kind ∧ a.Kind ≤ 9223372036854775807) ∧ (-9223372036854775808 ≤ a.A ∧ a.A ≤ 9223372036854775807) ∧ (-9223372036854775808 ≤ a.B ∧ a.B ≤ 9223372036854775807) ∧ (-9223372036854775808 ≤ a.C ∧ a.C ≤ 9223372036854775807) ∧ (-9223372036854775808 ≤ a.D ∧ a.D ≤ 9223372036854775807)) := by
  obtain ⟨n0, y0, h0, g0⟩ := op_fieldW hB (i := 0) (ft := 3) (fo := 0) (sz := 1) Tryd.underlying24 rfl (by kernel_rfl) h
  obtain ⟨a0, e0, w0⟩ := op_3 n0 _ y0 g0 (by rw [List.length_take, List.length_drop, hl]; rfl) h0
  have p0 := piece e0 rfl
  obtain ⟨n1, y1, h1, g1⟩ := op_fieldW hB (i := 1) (ft := 3) (fo := 1) (sz := 1) Tryd.underlying24 rfl (by kernel_rfl) h
  obtain ⟨a1, e1, w1⟩ := op_3 n1 _ y1 g1 (by rw [List.length_take, List.length_drop, hl]; rfl) h1
  have p1 := piece e1 rfl
  obtain ⟨n2, y2, h2, g2⟩ := op_fieldW hB (i := 2) (ft := 3) (fo := 2) (sz := 1) Tryd.underlying24 rfl (by kernel_rfl) h
  obtain ⟨a2, e2, w2⟩ := op_3 n2 _ y2 g2 (by rw [List.length_take, List.length_drop, hl]; rfl) h2
  have p2 := piece e2 rfl
  obtain ⟨n3, y3, h3, g3⟩ := op_fieldW hB (i := 3) (ft := 3) (fo := 3) (sz := 1) Tryd.underlying24 rfl (by kernel_rfl) h
  obtain ⟨a3, e3, w3⟩ := op_3 n3 _ y3 g3 (by rw [List.length_take, List.length_drop, hl]; rfl) h3
  have p3 := piece e3 rfl
  obtain ⟨n4, y4, h4, g4⟩ := op_fieldW hB (i := 4) (ft := 3) (fo := 4) (sz := 1) Tryd.underlying24 rfl (by kernel_rfl) h
  obtain ⟨a4, e4, w4⟩ := op_3 n4 _ y4 g4 (by rw [List.length_take, List.length_drop, hl]; rfl) h4
  have p4 := piece e4 rfl
  have pe : cs.drop 5 = [] := List.drop_of_length_le (by omega)
  refine ⟨⟨a0, a1, a2, a3, a4⟩, ?_, w0, w1, w2, w3, w4⟩
  rw [← List.drop_zero (l := cs)]
  rw [p0]
  rw [show cs.drop (0 + 1) = cs.drop 1 from rfl, p1]
  rw [show cs.drop (1 + 1) = cs.drop 2 from rfl, p2]
  rw [show cs.drop (2 + 1) = cs.drop 3 from rfl, p3]
  rw [show cs.drop (3 + 1) = cs.drop 4 from rfl, p4]
  rw [show cs.drop (4 + 1) = cs.drop 5 from rfl, pe]
  rfl

theorem op_9 {H : Type} {enc : TypeId × Value → H} {w : World} {base : Nat} {spare : Nat → Bool} {held : Bool} {B : Nat} (n : Nat) (cs : List Value) (x : DataW H × List MemPlace) (hB : Wt Tryd.prog B 9 x.1) (hl : cs.length = 1) (h : DataW.trod enc Tryd.prog w base spare held n 9 cs = some x) : ∃ a : (List UInt8), cs = e_string a ∧ (a.length ≤ 9223372036854775807 ∧ a.length ≤ B) := by
  obtain ⟨a, h1, h2, h3⟩ := op_stringW hB Tryd.underlying9 h
  exact ⟨a, h1, h2, h3⟩

theorem own : ownKnob Tryd.prog.godebug = none := by kernel_rfl
theorem laidOut : laidOutB Tryd.prog = true := by kernel_rfl

/-! ### the row's step -/
theorem lifted (os : Os) (started : os.Started) (H : Type) (enc : TypeId × Value → H) :
    ReturnsInHanded {} Tryd.checked os 3 .any (fun w args => (Rows.editStepsSpec.pre enc Tryd.prog Tryd.f3 [] false w args ∧ laidMetH Tryd.prog Rows.editStepsRow.laid w) ∧ sizedMet enc Tryd.prog Tryd.f3 (OpenSpec.ofChange Rows.editStepsSpec) false w args) (Rows.editStepsSpec.post enc Tryd.prog Tryd.f3 false true false false) := by
  refine returnsInHanded_of_change_and (C := Tryd.checked) (X := fun w _ => laidMetH Tryd.prog Rows.editStepsRow.laid w) (fun _ _ _ hh h => h.of_heap hh) own started (by kernel_rfl) Tryd.func3
    (ChangeSpec.witness_shaped (enc := enc) (C := Tryd.checked) (os := os) (X := fun w _ => laidMetH Tryd.prog Rows.editStepsRow.laid w) false (World.laidAll Tryd.prog os Rows.editStepsRow.laid) #[.slice none 0 0, .slice none 0 0, str []] 8 (World.laidAll_os _ _ _) (World.shaped_of_ZipB (by kernel_rfl) (by kernel_rfl)) (by kernel_rfl) (by kernel_rfl) (by kernel_rfl) (by rw [MakeChecks.laidMetH_plain _ _ _ (by kernel_rfl)]; exact laidMet_laidAll _ (by kernel_rfl) (by kernel_rfl))) ?_
  intro W base args ds gs before hval0 hW hcnd hk hL _
  have hval : ∀ (j : Nat) t v, Tryd.f3.params[j]? = some t → args[j]? = some v → Value.okWide Tryd.prog W .any base t v := hval0
  have hW' := hW
  obtain ⟨p, q, hA0, hV, rfl, hfz, hnd⟩ := hW
  have hA : DataW.TrodAll enc Tryd.prog W 0 (fun _ => true) true Tryd.f3.params.toList args.toList ds p := hA0
  rw [Tryd.params3] at hA hval
  obtain ⟨v0, vs0, d0, ds0, p0, q0, hargs, rfl, rfl, h0, r0⟩ := trodAll_cons hA
  obtain ⟨v1, vs1, d1, ds1, p1, q1, rfl, rfl, rfl, h1, r1⟩ := trodAll_cons r0
  obtain ⟨v2, vs2, d2, ds2, p2, q2, rfl, rfl, rfl, h2, r2⟩ := trodAll_cons r1
  obtain ⟨rfl, rfl, rfl⟩ := trodAll_nil r2
  obtain rfl : args = #[v0, v1, v2] := by cases args; simp_all
  obtain ⟨rfl, rfl⟩ := trodVars_none hV
  have kt0 := h0
  have lt0 : ∀ x ∈ p0, x.block < W.heap.size := by obtain ⟨m, hm⟩ := kt0; exact DataW.trod_lt m _ _ _ hm
  have kt1 := h1
  have lt1 : ∀ x ∈ p1, x.block < W.heap.size := by obtain ⟨m, hm⟩ := kt1; exact DataW.trod_lt m _ _ _ hm
  have kt2 := h2
  have lt2 : ∀ x ∈ p2, x.block < W.heap.size := by obtain ⟨m, hm⟩ := kt2; exact DataW.trod_lt m _ _ _ hm
  have hb0 : Wt Tryd.prog 140737488351232 22 (d0, p0).1 := wt_arg (B := 140737488351232) hk 0 (by kernel_rfl) rfl
  have hb1 : Wt Tryd.prog 140737488351232 22 (d1, p1).1 := wt_arg (B := 140737488351232) hk 1 (by kernel_rfl) rfl
  have hb2 : Wt Tryd.prog 140737488351232 9 (d2, p2).1 := wt_arg (B := 140737488351232) hk 2 (by kernel_rfl) rfl
  obtain ⟨n0, hf0⟩ := h0
  have hv0 : v0.cells.toList = [v0] := val_cell (by kernel_rfl) (hval 0 22 v0 rfl rfl)
  rw [hv0] at hf0
  obtain ⟨u0, a0, hu0, f0, hn0, g0⟩ := op_sliceW (f := e_edit_Step) (good := fun a => (-9223372036854775808 ≤ a.Kind ∧ a.Kind ≤ 9223372036854775807) ∧ (-9223372036854775808 ≤ a.A ∧ a.A ≤ 9223372036854775807) ∧ (-9223372036854775808 ≤ a.B ∧ a.B ≤ 9223372036854775807) ∧ (-9223372036854775808 ≤ a.C ∧ a.C ≤ 9223372036854775807) ∧ (-9223372036854775808 ≤ a.D ∧ a.D ≤ 9223372036854775807)) hb0 Tryd.underlying22 (by kernel_rfl : Tryd.prog.cellsOf 24 = 5) rfl (by kernel_rfl : Tryd.prog.bytesOf 24 = 40) (fun n cs x hb hl h => op_24 n cs x hb hl h) hf0
  simp only [List.cons.injEq, and_true] at hu0
  subst hu0
  obtain ⟨n1, hf1⟩ := h1
  have hv1 : v1.cells.toList = [v1] := val_cell (by kernel_rfl) (hval 1 22 v1 rfl rfl)
  rw [hv1] at hf1
  obtain ⟨u1, a1, hu1, f1, hn1, g1⟩ := op_sliceW (f := e_edit_Step) (good := fun a => (-9223372036854775808 ≤ a.Kind ∧ a.Kind ≤ 9223372036854775807) ∧ (-9223372036854775808 ≤ a.A ∧ a.A ≤ 9223372036854775807) ∧ (-9223372036854775808 ≤ a.B ∧ a.B ≤ 9223372036854775807) ∧ (-9223372036854775808 ≤ a.C ∧ a.C ≤ 9223372036854775807) ∧ (-9223372036854775808 ≤ a.D ∧ a.D ≤ 9223372036854775807)) hb1 Tryd.underlying22 (by kernel_rfl : Tryd.prog.cellsOf 24 = 5) rfl (by kernel_rfl : Tryd.prog.bytesOf 24 = 40) (fun n cs x hb hl h => op_24 n cs x hb hl h) hf1
  simp only [List.cons.injEq, and_true] at hu1
  subst hu1
  obtain ⟨n2, hf2⟩ := h2
  have hv2 : v2.cells.toList = [v2] := val_cell (by kernel_rfl) (hval 2 9 v2 rfl rfl)
  rw [hv2] at hf2
  obtain ⟨a2, hu2, w2⟩ := op_9 _ _ _ hb2 rfl hf2
  simp only [List.cons.injEq, and_true] at hu2
  subst hu2
  clear hA0 hval0
  have tb_pow10 : TabH Tryd.prog (fun b => W.heap[b]?) "internal/strconv.uint64pow10" .u64 Lib.pow10Tab := tab_at 2 (by kernel_rfl : Tryd.prog.globalNamed "internal/strconv.uint64pow10" = some 6) (by kernel_rfl) Tryd.underlying182 Tryd.underlying162 (by kernel_rfl) (by kernel_rfl) hL (by kernel_rfl) (by kernel_rfl)
  refine Calls.mono (k3 (know_all W) f0 f1 tb_pow10 (editStepsS a0 a1 a2 (And.intro hn0 g0) (And.intro hn1 g1) w2)) fun e W' hq => ?_
  obtain ⟨v, he, hv, bel⟩ := hq
  subst he hv
  exact ⟨_, rfl, _, _, _, [], _, [], hW', trodAll_mk1 (shut_bool Tryd.underlying4 _), (trodAll_cons_mk (Below.trod laidOut (by kernel_rfl) (of_decide_eq_true (by kernel_rfl)) kt0 bel lt0) (trodAll_cons_mk (Below.trod laidOut (by kernel_rfl) (of_decide_eq_true (by kernel_rfl)) kt1 bel lt1) (trodAll_cons_mk (Below.trod laidOut (by kernel_rfl) (of_decide_eq_true (by kernel_rfl)) kt2 bel lt2) trodAll_mk0))), rfl, bel.frame _, fun h => by cases h⟩

theorem over : Rows.editStepsRow.holds Tryd.pinned (OpenSpec.ofChange Rows.editStepsSpec) :=
  OpenClaim.holds_of_wide 3 Tryd.f3 rfl rfl rfl rfl rfl rfl rfl ⟨rfl, rfl, rfl, rfl, rfl⟩ rfl rfl rfl rfl rfl (by kernel_rfl) Tryd.func3 (by kernel_rfl)
    (of_decide_eq_true (by kernel_rfl)) (by unfold Func.isWrapper; first | (rw [if_pos (by decide +kernel)]; kernel_rfl) | (rw [if_neg (by decide +kernel)]; exact ⟨rfl, rfl⟩))
    (fun os started H enc _ => lifted os started H enc)

theorem card : Rows.EditStepsCardSaid :=
  Claim7.holds_tied_plain_at .later [] [.data, .data, .data, .data, .sentinel, .sentinel, .pinned] true (true, "d3cd9468b662f76bb679c7c1b54b8acd733517981234ed730abb76e5e30b403e") true
    over (fun _ h => by cases h) (by kernel_rfl) (fun _ h => by cases h) editSteps_row_tie rfl ⟨rfl, rfl⟩ (by kernel_rfl) rfl
    (fun f fn hf hfn => by
      obtain rfl : f = 3 := Option.some.inj ((show Tryd.prog.funcNamed "tintype/tintlaw2.EditSteps" = some 3 by kernel_rfl).symm.trans hf) |>.symm
      obtain rfl : fn = Tryd.f3 := (Option.some.inj (Tryd.func3.symm.trans hfn)).symm
      exact ⟨by kernel_rfl, fun j t ht => by
        rw [Tryd.params3] at ht
        have hm : t ∈ [22, 22, 9] := by simpa using Array.mem_of_getElem? ht
        have hall : ([22, 22, 9].all fun u => !Tryd.prog.wantsStandIn u) = true := by kernel_rfl
        exact (show Tryd.prog.wantsStandIn t = false by simpa using List.all_eq_true.1 hall t hm)⟩)
    (by kernel_rfl)
end Go.Proofs.YtaonhnkojkkmbaaDoor.editStepsDone
namespace Go.Proofs.YtaonhnkojkkmbaaDoor
/-- The statement. -/
theorem editSteps_holds : Rows.EditStepsCardSaid := editStepsDone.card
#print axioms editSteps_holds
end Go.Proofs.YtaonhnkojkkmbaaDoor
