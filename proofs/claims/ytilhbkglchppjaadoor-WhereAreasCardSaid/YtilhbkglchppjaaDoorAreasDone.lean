/- For every input, WhereAreas returns true, and its arguments read behind the call as before. Conditions: none. -/
import Derived.Test.YtilhbkglchppjaaDoorKWa
import Derived.Test.YtilhbkglchppjaaDoorWAr
import Derived.WalkKit
import Derived.ProofKit
import Derived.OpenShut
import Derived.ChangeOld
import Derived.Below
import Derived.Lib.SmallJoins
import Derived.Test.YtilhbkglchppjaaDoorRows
import Derived.Test.YtilhbkglchppjaaDoorOpenN
import Derived.LaidMore
import Derived.Lay
import Derived.LaidLaws
import Derived.LaidHandle
import Derived.SevenTiedAt
import Derived.Stop.Joined
import Derived.Test.YtilhbkglchppjaaDoorCards
import Derived.Test.YtilhbkglchppjaaDoorTie
namespace Go.Proofs.YtilhbkglchppjaaDoor.whereAreasDone
open Go Go.Vc Go.Md Go.M Go.Lx Go.ChangeShapes Go.WideShapes Go.ChangeAt Go.RowKit Go.Joins
set_option linter.unusedVariables false
set_option maxRecDepth 100000
set_option maxHeartbeats 4000000


theorem op_9 {H : Type} {enc : TypeId × Value → H} {w : World} {base : Nat} {spare : Nat → Bool} {held : Bool} {B : Nat} (n : Nat) (cs : List Value) (x : DataW H × List MemPlace) (hB : Wt Tryd.prog B 9 x.1) (hl : cs.length = 1) (h : DataW.trod enc Tryd.prog w base spare held n 9 cs = some x) : ∃ a : (List UInt8), cs = e_string a ∧ (a.length ≤ 9223372036854775807 ∧ a.length ≤ B) := by
  obtain ⟨a, h1, h2, h3⟩ := op_stringW hB Tryd.underlying9 h
  exact ⟨a, h1, h2, h3⟩

theorem op_3 {H : Type} {enc : TypeId × Value → H} {w : World} {base : Nat} {spare : Nat → Bool} {held : Bool} {B : Nat} (n : Nat) (cs : List Value) (x : DataW H × List MemPlace) (hB : Wt Tryd.prog B 3 x.1) (hl : cs.length = 1) (h : DataW.trod enc Tryd.prog w base spare held n 3 cs = some x) : ∃ a : Int, cs = e_i64 a ∧ (-9223372036854775808 ≤ a ∧ a ≤ 9223372036854775807) := by
  obtain ⟨a, h1, h2⟩ := op_int Tryd.underlying3 h
  refine ⟨a, h1, ?_⟩
  simp only [Lit.wf, IntKind.min, IntKind.max, IntKind.bits, IntKind.signed] at h2
  simp at h2
  omega

theorem op_68 {H : Type} {enc : TypeId × Value → H} {w : World} {base : Nat} {spare : Nat → Bool} {held : Bool} {B : Nat} (n : Nat) (cs : List Value) (x : DataW H × List MemPlace) (hB : Wt Tryd.prog B 68 x.1) (hl : cs.length = 2) (h : DataW.trod enc Tryd.prog w base spare held n 68 cs = some x) : ∃ a : T_api_Place, cs = e_api_Place a ∧ ((-9223372036854775808 ≤ a.Lat ∧ a.Lat ≤ 9223372036854775807) ∧ (-9223372036854775808 ≤ a.Lon ∧ a.Lon ≤ 9223372036854775807)) := by
  obtain ⟨n0, y0, h0, g0⟩ := op_fieldW hB (i := 0) (ft := 3) (fo := 0) (sz := 1) Tryd.underlying68 rfl (by kernel_rfl) h
  obtain ⟨a0, e0, w0⟩ := op_3 n0 _ y0 g0 (by rw [List.length_take, List.length_drop, hl]; rfl) h0
  have p0 := piece e0 rfl
  obtain ⟨n1, y1, h1, g1⟩ := op_fieldW hB (i := 1) (ft := 3) (fo := 1) (sz := 1) Tryd.underlying68 rfl (by kernel_rfl) h
  obtain ⟨a1, e1, w1⟩ := op_3 n1 _ y1 g1 (by rw [List.length_take, List.length_drop, hl]; rfl) h1
  have p1 := piece e1 rfl
  have pe : cs.drop 2 = [] := List.drop_of_length_le (by omega)
  refine ⟨⟨a0, a1⟩, ?_, w0, w1⟩
  rw [← List.drop_zero (l := cs)]
  rw [p0]
  rw [show cs.drop (0 + 1) = cs.drop 1 from rfl, p1]
  rw [show cs.drop (1 + 1) = cs.drop 2 from rfl, pe]
  rfl

theorem opn_74 {H : Type} {enc : TypeId × Value → H} {w : World} {base : Nat} {spare : Nat → Bool} {held : Bool} {B : Nat} (n : Nat) (cs : List Value) (x : DataW H × List MemPlace) (hB : Wt Tryd.prog B 74 x.1) (hl : cs.length = 2) (h : DataW.trod enc Tryd.prog w base spare held n 74 cs = some x) : ∃ a : T_where_Area, g_where_Area (fun b => w.heap[b]?) (fun j => cs.getD j undef) a ∧ ((a.Name.length ≤ 9223372036854775807 ∧ a.Name.length ≤ B) ∧ ((a.Ring.length ≤ 9223372036854775807 ∧ a.Ring.length * 16 ≤ B) ∧ ∀ x ∈ a.Ring, ((-9223372036854775808 ≤ x.Lat ∧ x.Lat ≤ 9223372036854775807) ∧ (-9223372036854775808 ≤ x.Lon ∧ x.Lon ≤ 9223372036854775807)))) := by
  obtain ⟨n0, y0, h0, g0⟩ := op_fieldW hB (i := 0) (ft := 9) (fo := 0) (sz := 1) Tryd.underlying74 rfl (by kernel_rfl) h
  obtain ⟨a0, e0, w0⟩ := op_9 n0 _ y0 g0 (by rw [List.length_take, List.length_drop, hl]; rfl) h0
  obtain ⟨n1, y1, h1, g1⟩ := op_fieldW hB (i := 1) (ft := 58) (fo := 1) (sz := 1) Tryd.underlying74 rfl (by kernel_rfl) h
  obtain ⟨u1, a1, e1, f1, hn1, gg1⟩ := op_sliceW (f := e_api_Place) (good := fun a => (-9223372036854775808 ≤ a.Lat ∧ a.Lat ≤ 9223372036854775807) ∧ (-9223372036854775808 ≤ a.Lon ∧ a.Lon ≤ 9223372036854775807)) g1 Tryd.underlying58 (by kernel_rfl : Tryd.prog.cellsOf 68 = 2) rfl (by kernel_rfl : Tryd.prog.bytesOf 68 = 16) (fun n cs x hB hl h => op_68 n cs x hB hl h) h1
  exact ⟨⟨a0, a1⟩, ⟨piece_get e0 (q := 0) (of_decide_eq_true rfl), fr_piece e1 f1⟩, w0, ⟨hn1, gg1⟩⟩

theorem own : ownKnob Tryd.prog.godebug = none := by kernel_rfl
theorem laidOut : laidOutB Tryd.prog = true := by kernel_rfl

/-! ### the row's step -/
theorem lifted (os : Os) (started : os.Started) (H : Type) (enc : TypeId × Value → H) :
    ReturnsInHanded {} Tryd.checked os 6 .any (fun w args => (Rows.whereAreasSpec.pre enc Tryd.prog Tryd.f6 [] false w args ∧ laidMetH Tryd.prog Rows.whereAreasRow.laid w) ∧ sizedMet enc Tryd.prog Tryd.f6 (OpenSpec.ofChange Rows.whereAreasSpec) false w args) (Rows.whereAreasSpec.post enc Tryd.prog Tryd.f6 false true false false) := by
  refine returnsInHanded_of_change_and (C := Tryd.checked) (X := fun w _ => laidMetH Tryd.prog Rows.whereAreasRow.laid w) (fun _ _ _ hh h => h.of_heap hh) own started (by kernel_rfl) Tryd.func6
    (ChangeSpec.witness_shaped (enc := enc) (C := Tryd.checked) (os := os) (X := fun w _ => laidMetH Tryd.prog Rows.whereAreasRow.laid w) false (World.laidAll Tryd.prog os Rows.whereAreasRow.laid) #[.slice none 0 0, .agg #[.int .i64 0, .int .i64 0]] 8 (World.laidAll_os _ _ _) (World.shaped_of_ZipB (by kernel_rfl) (by kernel_rfl)) (by kernel_rfl) (by kernel_rfl) (by kernel_rfl) (by rw [MakeChecks.laidMetH_plain _ _ _ (by kernel_rfl)]; exact laidMet_laidAll _ (by kernel_rfl) (by kernel_rfl))) ?_
  intro W base args ds gs before hval0 hW hcnd hk hL _
  have hval : ∀ (j : Nat) t v, Tryd.f6.params[j]? = some t → args[j]? = some v → Value.okWide Tryd.prog W .any base t v := hval0
  have hW' := hW
  obtain ⟨p, q, hA0, hV, rfl, hfz, hnd⟩ := hW
  have hA : DataW.TrodAll enc Tryd.prog W 0 (fun _ => true) true Tryd.f6.params.toList args.toList ds p := hA0
  rw [Tryd.params6] at hA hval
  obtain ⟨v0, vs0, d0, ds0, p0, q0, hargs, rfl, rfl, h0, r0⟩ := trodAll_cons hA
  obtain ⟨v1, vs1, d1, ds1, p1, q1, rfl, rfl, rfl, h1, r1⟩ := trodAll_cons r0
  obtain ⟨rfl, rfl, rfl⟩ := trodAll_nil r1
  obtain rfl : args = #[v0, v1] := by cases args; simp_all
  obtain ⟨rfl, rfl⟩ := trodVars_none hV
  have kt0 := h0
  have lt0 : ∀ x ∈ p0, x.block < W.heap.size := by obtain ⟨m, hm⟩ := kt0; exact DataW.trod_lt m _ _ _ hm
  have kt1 := h1
  have lt1 : ∀ x ∈ p1, x.block < W.heap.size := by obtain ⟨m, hm⟩ := kt1; exact DataW.trod_lt m _ _ _ hm
  have hb0 : Wt Tryd.prog 140737488351232 70 (d0, p0).1 := wt_arg (B := 140737488351232) hk 0 (by kernel_rfl) rfl
  have hb1 : Wt Tryd.prog 140737488351232 68 (d1, p1).1 := wt_arg (B := 140737488351232) hk 1 (by kernel_rfl) rfl
  obtain ⟨n0, hf0⟩ := h0
  have hv0 : v0.cells.toList = [v0] := val_cell (by kernel_rfl) (hval 0 70 v0 rfl rfl)
  rw [hv0] at hf0
  obtain ⟨u0, a0, hu0, f0, hn0, g0⟩ := op_sliceN (G := g_where_Area) (good := fun a => (a.Name.length ≤ 9223372036854775807 ∧ a.Name.length ≤ 140737488351232) ∧ ((a.Ring.length ≤ 9223372036854775807 ∧ a.Ring.length * 16 ≤ 140737488351232) ∧ ∀ x ∈ a.Ring, ((-9223372036854775808 ≤ x.Lat ∧ x.Lat ≤ 9223372036854775807) ∧ (-9223372036854775808 ≤ x.Lon ∧ x.Lon ≤ 9223372036854775807)))) hb0 Tryd.underlying70 (by kernel_rfl : Tryd.prog.cellsOf 74 = 2) rfl (by kernel_rfl : Tryd.prog.bytesOf 74 = 40) (fun n cs x hb hl h => opn_74 n cs x hb hl h) hf0
  simp only [List.cons.injEq, and_true] at hu0
  subst hu0
  obtain ⟨n1, hf1⟩ := h1
  obtain ⟨c1, rfl, hc1, hl1⟩ := val_struct Tryd.underlying68 (hval 1 68 v1 rfl rfl)
  rw [hc1] at hf1
  rw [(by kernel_rfl : Tryd.prog.cellsOf 68 = 2)] at hl1
  obtain ⟨a1, rfl, w1⟩ := op_68 _ _ _ hb1 hl1 hf1
  clear hA0 hval0
  refine Calls.mono (k6 (know_all W) f0 (whereAreasS a0 a1 (And.intro hn0 g0) w1)) fun e W' hq => ?_
  obtain ⟨v, he, hv, bel⟩ := hq
  subst he hv
  exact ⟨_, rfl, _, _, _, [], _, [], hW', trodAll_mk1 (shut_bool Tryd.underlying4 _), (trodAll_cons_mk (Below.trod laidOut (by kernel_rfl) (of_decide_eq_true (by kernel_rfl)) kt0 bel lt0) (trodAll_cons_mk (Below.trod laidOut (by kernel_rfl) (of_decide_eq_true (by kernel_rfl)) kt1 bel lt1) trodAll_mk0)), rfl, bel.frame _, fun h => by cases h⟩

theorem over : Rows.whereAreasRow.holds Tryd.pinned (OpenSpec.ofChange Rows.whereAreasSpec) :=
  OpenClaim.holds_of_wide 6 Tryd.f6 rfl rfl rfl rfl rfl rfl rfl ⟨rfl, rfl, rfl, rfl, rfl⟩ rfl rfl rfl rfl rfl (by kernel_rfl) Tryd.func6 (by kernel_rfl)
    (of_decide_eq_true (by kernel_rfl)) (by unfold Func.isWrapper; first | (rw [if_pos (by decide +kernel)]; kernel_rfl) | (rw [if_neg (by decide +kernel)]; exact ⟨rfl, rfl⟩))
    (fun os started H enc _ => lifted os started H enc)

theorem card : Rows.WhereAreasCardSaid :=
  Claim7.holds_tied_plain_at .later [] [.data, .pinned] true (true, "2f8ebd8fd34adc90973da19d6ba47734371b0592f02ff347639a3d0962c27f2c") false
    over (fun _ h => by cases h) (by kernel_rfl) (fun _ h => by cases h) whereAreas_row_tie rfl ⟨rfl, rfl⟩ (by kernel_rfl) rfl
    (fun f fn hf hfn => by
      obtain rfl : f = 6 := Option.some.inj ((show Tryd.prog.funcNamed "tintype/tintlaw2.WhereAreas" = some 6 by kernel_rfl).symm.trans hf) |>.symm
      obtain rfl : fn = Tryd.f6 := (Option.some.inj (Tryd.func6.symm.trans hfn)).symm
      exact ⟨by kernel_rfl, fun j t ht => by
        rw [Tryd.params6] at ht
        have hm : t ∈ [70, 68] := by simpa using Array.mem_of_getElem? ht
        have hall : ([70, 68].all fun u => !Tryd.prog.wantsStandIn u) = true := by kernel_rfl
        exact (show Tryd.prog.wantsStandIn t = false by simpa using List.all_eq_true.1 hall t hm)⟩)
    (by kernel_rfl)
end Go.Proofs.YtilhbkglchppjaaDoor.whereAreasDone
namespace Go.Proofs.YtilhbkglchppjaaDoor
/-- The statement. -/
theorem whereAreas_holds : Rows.WhereAreasCardSaid := whereAreasDone.card
#print axioms whereAreas_holds
end Go.Proofs.YtilhbkglchppjaaDoor
