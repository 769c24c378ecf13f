/- For every input, EditTidiesSame returns true, and its arguments read behind the call as before. Conditions: none. -/
import Derived.Test.YtilhbkglchppjaaDoorKTs
import Derived.Test.YtilhbkglchppjaaDoorTsA
import Derived.Test.YtilhbkglchppjaaDoorOpenT
import Derived.WalkKit
import Derived.ProofKit
import Derived.OpenShut
import Derived.ChangeOld
import Derived.Below
import Derived.Lib.SmallJoins
import Derived.Test.YtilhbkglchppjaaDoorRows
import Derived.Test.YtilhbkglchppjaaDoorOpenW
import Derived.LaidMore
import Derived.Lay
import Derived.LaidLaws
import Derived.LaidHandle
import Derived.SevenTiedAt
import Derived.Stop.Joined
import Derived.Test.YtilhbkglchppjaaDoorCards
import Derived.Test.YtilhbkglchppjaaDoorTie
namespace Go.Proofs.YtilhbkglchppjaaDoor.editTidiesSameDone
open Go Go.Vc Go.Md Go.M Go.Lx Go.ChangeShapes Go.WideShapes Go.ChangeAt Go.RowKit Go.Joins
set_option linter.unusedVariables false
set_option maxRecDepth 100000
set_option maxHeartbeats 4000000


theorem op_3 {H : Type} {enc : TypeId × Value → H} {w : World} {base : Nat} {spare : Nat → Bool} {held : Bool} {B : Nat} (n : Nat) (cs : List Value) (x : DataW H × List MemPlace) (hB : Wt Tryd.prog B 3 x.1) (hl : cs.length = 1) (h : DataW.trod enc Tryd.prog w base spare held n 3 cs = some x) : ∃ a : Int, cs = e_i64 a ∧ (-9223372036854775808 ≤ a ∧ a ≤ 9223372036854775807) := by
  obtain ⟨a, h1, h2⟩ := op_int Tryd.underlying3 h
  refine ⟨a, h1, ?_⟩
  simp only [Lit.wf, IntKind.min, IntKind.max, IntKind.bits, IntKind.signed] at h2
  simp at h2
  omega

theorem op_5 {H : Type} {enc : TypeId × Value → H} {w : World} {base : Nat} {spare : Nat → Bool} {held : Bool} {B : Nat} (n : Nat) (cs : List Value) (x : DataW H × List MemPlace) (hB : Wt Tryd.prog B 5 x.1) (hl : cs.length = 1) (h : DataW.trod enc Tryd.prog w base spare held n 5 cs = some x) : ∃ a : Int, cs = e_u8 a ∧ (0 ≤ a ∧ a ≤ 255) := by
  obtain ⟨a, h1, h2⟩ := op_int Tryd.underlying5 h
  refine ⟨a, h1, ?_⟩
  simp only [Lit.wf, IntKind.min, IntKind.max, IntKind.bits, IntKind.signed] at h2
  simp at h2
  omega

theorem op_35 {H : Type} {enc : TypeId × Value → H} {w : World} {base : Nat} {spare : Nat → Bool} {held : Bool} {B : Nat} (n : Nat) (cs : List Value) (x : DataW H × List MemPlace) (hB : Wt Tryd.prog B 35 x.1) (hl : cs.length = 5) (h : DataW.trod enc Tryd.prog w base spare held n 35 cs = some x) : ∃ a : T_edit_Step, cs = e_edit_Step a ∧ ((-9223372036854775808 ≤ a.Kind ∧ a.Kind ≤ 9223372036854775807) ∧ (-9223372036854775808 ≤ a.A ∧ a.A ≤ 9223372036854775807) ∧ (-9223372036854775808 ≤ a.B ∧ a.B ≤ 9223372036854775807) ∧ (-9223372036854775808 ≤ a.C ∧ a.C ≤ 9223372036854775807) ∧ (-9223372036854775808 ≤ a.D ∧ a.D ≤ 9223372036854775807)) := by
  obtain ⟨n0, y0, h0, g0⟩ := op_fieldW hB (i := 0) (ft := 3) (fo := 0) (sz := 1) Tryd.underlying35 rfl (by kernel_rfl) h
  obtain ⟨a0, e0, w0⟩ := op_3 n0 _ y0 g0 (by rw [List.length_take, List.length_drop, hl]; rfl) h0
  have p0 := piece e0 rfl
  obtain ⟨n1, y1, h1, g1⟩ := op_fieldW hB (i := 1) (ft := 3) (fo := 1) (sz := 1) Tryd.underlying35 rfl (by kernel_rfl) h
  obtain ⟨a1, e1, w1⟩ := op_3 n1 _ y1 g1 (by rw [List.length_take, List.length_drop, hl]; rfl) h1
  have p1 := piece e1 rfl
  obtain ⟨n2, y2, h2, g2⟩ := op_fieldW hB (i := 2) (ft := 3) (fo := 2) (sz := 1) Tryd.underlying35 rfl (by kernel_rfl) h
  obtain ⟨a2, e2, w2⟩ := op_3 n2 _ y2 g2 (by rw [List.length_take, List.length_drop, hl]; rfl) h2
  have p2 := piece e2 rfl
  obtain ⟨n3, y3, h3, g3⟩ := op_fieldW hB (i := 3) (ft := 3) (fo := 3) (sz := 1) Tryd.underlying35 rfl (by kernel_rfl) h
  obtain ⟨a3, e3, w3⟩ := op_3 n3 _ y3 g3 (by rw [List.length_take, List.length_drop, hl]; rfl) h3
  have p3 := piece e3 rfl
  obtain ⟨n4, y4, h4, g4⟩ := op_fieldW hB (i := 4) (ft := 3) (fo := 4) (sz := 1) Tryd.underlying35 rfl (by kernel_rfl) h
  obtain ⟨a4, e4, w4⟩ := op_3 n4 _ y4 g4 (by rw [List.length_take, List.length_drop, hl]; rfl) h4
  have p4 := piece e4 rfl
  have pe : cs.drop 5 = [] := List.drop_of_length_le (by omega)
  refine ⟨⟨a0, a1, a2, a3, a4⟩, ?_, w0, w1, w2, w3, w4⟩
  rw [← List.drop_zero (l := cs)]
  rw [p0]
  rw [show cs.drop (0 + 1) = cs.drop 1 from rfl, p1]
  rw [show cs.drop (1 + 1) = cs.drop 2 from rfl, p2]
  rw [show cs.drop (2 + 1) = cs.drop 3 from rfl, p3]
  rw [show cs.drop (3 + 1) = cs.drop 4 from rfl, p4]
  rw [show cs.drop (4 + 1) = cs.drop 5 from rfl, pe]
  rfl

theorem own : ownKnob Tryd.prog.godebug = none := by kernel_rfl
theorem laidOut : laidOutB Tryd.prog = true := by kernel_rfl
theorem door_met (os : Os) (args : Array Value) : laidMetH Tryd.prog Rows.editTidiesSameRow.laid ((World.doorLaid Tryd.prog 400 os).forCall (fun _ _ => 0) ⟨#[], args, []⟩).memory :=
  laidMetH_of_parts3 (fuel := 8) (laidMet_of_run' 8 (by kernel_rfl) (by kernel_rfl)) (by kernel_rfl) (by kernel_rfl)

/-! ### the row's step -/
theorem lifted (os : Os) (started : os.Started) (H : Type) (enc : TypeId × Value → H) :
    ReturnsInHanded {} Tryd.checked os 4 .any (fun w args => (Rows.editTidiesSameSpec.pre enc Tryd.prog Tryd.f4 [] false w args ∧ laidMetH Tryd.prog Rows.editTidiesSameRow.laid w) ∧ sizedMet enc Tryd.prog Tryd.f4 (OpenSpec.ofChange Rows.editTidiesSameSpec) false w args) (Rows.editTidiesSameSpec.post enc Tryd.prog Tryd.f4 false true false false) := by
  refine returnsInHanded_of_change_and (C := Tryd.checked) (X := fun w _ => laidMetH Tryd.prog Rows.editTidiesSameRow.laid w) (fun _ _ _ hh h => h.of_heap hh) own started (by kernel_rfl) Tryd.func4
    (ChangeSpec.witness_shaped (enc := enc) (C := Tryd.checked) (os := os) (X := fun w _ => laidMetH Tryd.prog Rows.editTidiesSameRow.laid w) false (World.doorLaid Tryd.prog 400 os) #[.agg #[.int .i64 0, .int .i64 0, .slice none 0 0], .slice none 0 0] 8 rfl (World.shaped_of_RefB (by kernel_rfl) (by kernel_rfl)) (by kernel_rfl) (by kernel_rfl) (by kernel_rfl) (door_met os _)) ?_
  intro W base args ds gs before hval0 hW hcnd hk hL _
  have hval : ∀ (j : Nat) t v, Tryd.f4.params[j]? = some t → args[j]? = some v → Value.okWide Tryd.prog W .any base t v := hval0
  have hW' := hW
  obtain ⟨p, q, hA0, hV, rfl, hfz, hnd⟩ := hW
  have hA : DataW.TrodAll enc Tryd.prog W 0 (fun _ => true) true Tryd.f4.params.toList args.toList ds p := hA0
  rw [Tryd.params4] at hA hval
  obtain ⟨v0, vs0, d0, ds0, p0, q0, hargs, rfl, rfl, h0, r0⟩ := trodAll_cons hA
  obtain ⟨v1, vs1, d1, ds1, p1, q1, rfl, rfl, rfl, h1, r1⟩ := trodAll_cons r0
  obtain ⟨rfl, rfl, rfl⟩ := trodAll_nil r1
  obtain rfl : args = #[v0, v1] := by cases args; simp_all
  obtain ⟨rfl, rfl⟩ := trodVars_none hV
  have kt0 := h0
  have lt0 : ∀ x ∈ p0, x.block < W.heap.size := by obtain ⟨m, hm⟩ := kt0; exact DataW.trod_lt m _ _ _ hm
  have kt1 := h1
  have lt1 : ∀ x ∈ p1, x.block < W.heap.size := by obtain ⟨m, hm⟩ := kt1; exact DataW.trod_lt m _ _ _ hm
  have hb0 : Wt Tryd.prog 140737488351232 48 (d0, p0).1 := wt_arg (B := 140737488351232) hk 0 (by kernel_rfl) rfl
  have hb1 : Wt Tryd.prog 140737488351232 22 (d1, p1).1 := wt_arg (B := 140737488351232) hk 1 (by kernel_rfl) rfl
  obtain ⟨n0, hf0⟩ := h0
  obtain ⟨c0, rfl, hc0, hl0⟩ := val_struct Tryd.underlying48 (hval 0 48 v0 rfl rfl)
  rw [hc0] at hf0
  rw [(by kernel_rfl : Tryd.prog.cellsOf 48 = 3)] at hl0
  obtain ⟨n0_0, y0_0, h0_0, gg0_0⟩ := op_fieldW hb0 (i := 0) (ft := 3) (fo := 0) (sz := 1) Tryd.underlying48 rfl (by kernel_rfl) hf0
  obtain ⟨a0_0, e0_0, w0_0⟩ := op_3 n0_0 _ y0_0 gg0_0 (by rw [List.length_take, List.length_drop, hl0]; rfl) h0_0
  have p0_0 := piece e0_0 rfl
  obtain ⟨n0_1, y0_1, h0_1, gg0_1⟩ := op_fieldW hb0 (i := 1) (ft := 3) (fo := 1) (sz := 1) Tryd.underlying48 rfl (by kernel_rfl) hf0
  obtain ⟨a0_1, e0_1, w0_1⟩ := op_3 n0_1 _ y0_1 gg0_1 (by rw [List.length_take, List.length_drop, hl0]; rfl) h0_1
  have p0_1 := piece e0_1 rfl
  obtain ⟨n0_2, y0_2, h0_2, gg0_2⟩ := op_fieldW hb0 (i := 2) (ft := 46) (fo := 2) (sz := 1) Tryd.underlying48 rfl (by kernel_rfl) hf0
  obtain ⟨u0_2, a0_2, e0_2, f0_2, hn0_2, g0_2⟩ := op_sliceW (f := e_u8) (good := fun a => 0 ≤ a ∧ a ≤ 255) gg0_2 Tryd.underlying46 (by kernel_rfl : Tryd.prog.cellsOf 5 = 1) rfl (by kernel_rfl : Tryd.prog.bytesOf 5 = 1) (fun n cs x hB hl h => op_5 n cs x hB hl h) h0_2
  have p0_2 := piece e0_2 rfl
  have pe0 : c0.drop 3 = [] := List.drop_of_length_le (by omega)
  have hcs0 : c0 = [.int .i64 a0_0, .int .i64 a0_1, u0_2] := by
    rw [← List.drop_zero (l := c0)]
    rw [p0_0]
    rw [show c0.drop (0 + 1) = c0.drop 1 from rfl, p0_1]
    rw [show c0.drop (1 + 1) = c0.drop 2 from rfl, p0_2]
    rw [show c0.drop (2 + 1) = c0.drop 3 from rfl, pe0]
    rfl
  subst hcs0
  obtain ⟨n1, hf1⟩ := h1
  have hv1 : v1.cells.toList = [v1] := val_cell (by kernel_rfl) (hval 1 22 v1 rfl rfl)
  rw [hv1] at hf1
  obtain ⟨u1, a1, hu1, f1, hn1, g1⟩ := op_sliceW (f := e_edit_Step) (good := fun a => (-9223372036854775808 ≤ a.Kind ∧ a.Kind ≤ 9223372036854775807) ∧ (-9223372036854775808 ≤ a.A ∧ a.A ≤ 9223372036854775807) ∧ (-9223372036854775808 ≤ a.B ∧ a.B ≤ 9223372036854775807) ∧ (-9223372036854775808 ≤ a.C ∧ a.C ≤ 9223372036854775807) ∧ (-9223372036854775808 ≤ a.D ∧ a.D ≤ 9223372036854775807)) hb1 Tryd.underlying22 (by kernel_rfl : Tryd.prog.cellsOf 35 = 5) rfl (by kernel_rfl : Tryd.prog.bytesOf 35 = 40) (fun n cs x hb hl h => op_35 n cs x hb hl h) hf1
  simp only [List.cons.injEq, and_true] at hu1
  subst hu1
  clear hA0 hval0
  have tb_pow10 : TabH Tryd.prog (fun b => W.heap[b]?) "internal/strconv.uint64pow10" .u64 Lib.pow10Tab := tab_at 2 (by kernel_rfl : Tryd.prog.globalNamed "internal/strconv.uint64pow10" = some 3) (by kernel_rfl) Tryd.underlying260 Tryd.underlying189 (by kernel_rfl) (by kernel_rfl) hL (by kernel_rfl) (by kernel_rfl)
  have q0 := k4 (a0 := (⟨a0_0, a0_1, a0_2⟩ : T_api_Image)) (a1 := a1) (know_all W) f0_2 f1 tb_pow10 (editTidiesSameS (⟨a0_0, a0_1, a0_2⟩ : T_api_Image) a1 (And.intro w0_0 (And.intro w0_1 (And.intro hn0_2 g0_2))) (And.intro hn1 g1))
  refine Calls.mono q0 fun e W' hq => ?_
  obtain ⟨v, he, hv, bel⟩ := hq
  subst he hv
  exact ⟨_, rfl, _, _, _, [], _, [], hW', trodAll_mk1 (shut_bool Tryd.underlying4 _), (trodAll_cons_mk (Below.trod laidOut (by kernel_rfl) (of_decide_eq_true (by kernel_rfl)) kt0 bel lt0) (trodAll_cons_mk (Below.trod laidOut (by kernel_rfl) (of_decide_eq_true (by kernel_rfl)) kt1 bel lt1) trodAll_mk0)), rfl, bel.frame _, fun h => by cases h⟩

theorem over : Rows.editTidiesSameRow.holds Tryd.pinned (OpenSpec.ofChange Rows.editTidiesSameSpec) :=
  OpenClaim.holds_of_wide 4 Tryd.f4 rfl rfl rfl rfl rfl rfl rfl ⟨rfl, rfl, rfl, rfl, rfl⟩ rfl rfl rfl rfl rfl (by kernel_rfl) Tryd.func4 (by kernel_rfl)
    (of_decide_eq_true (by kernel_rfl)) (by unfold Func.isWrapper; first | (rw [if_pos (by decide +kernel)]; kernel_rfl) | (rw [if_neg (by decide +kernel)]; exact ⟨rfl, rfl⟩))
    (fun os started H enc _ => lifted os started H enc)

theorem card : Rows.EditTidiesSameCardSaid :=
  Claim7.holds_tied_plain_at .later [] [.data, .data, .data] true (true, "2f8ebd8fd34adc90973da19d6ba47734371b0592f02ff347639a3d0962c27f2c") false
    over (fun _ h => by cases h) (by kernel_rfl) (fun _ h => by cases h) editTidiesSame_row_tie rfl ⟨rfl, rfl⟩ (by kernel_rfl) rfl
    (fun f fn hf hfn => by
      obtain rfl : f = 4 := Option.some.inj ((show Tryd.prog.funcNamed "tintype/tintkeep2.EditTidiesSame" = some 4 by kernel_rfl).symm.trans hf) |>.symm
      obtain rfl : fn = Tryd.f4 := (Option.some.inj (Tryd.func4.symm.trans hfn)).symm
      exact ⟨by kernel_rfl, fun j t ht => by
        rw [Tryd.params4] at ht
        have hm : t ∈ [48, 22] := by simpa using Array.mem_of_getElem? ht
        have hall : ([48, 22].all fun u => !Tryd.prog.wantsStandIn u) = true := by kernel_rfl
        exact (show Tryd.prog.wantsStandIn t = false by simpa using List.all_eq_true.1 hall t hm)⟩)
    (by kernel_rfl)
end Go.Proofs.YtilhbkglchppjaaDoor.editTidiesSameDone
namespace Go.Proofs.YtilhbkglchppjaaDoor
/-- The statement. -/
theorem editTidiesSame_holds : Rows.EditTidiesSameCardSaid := editTidiesSameDone.card
#print axioms editTidiesSame_holds
end Go.Proofs.YtilhbkglchppjaaDoor
