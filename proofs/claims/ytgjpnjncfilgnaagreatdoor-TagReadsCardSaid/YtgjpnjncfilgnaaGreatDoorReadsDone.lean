/- For every input, TagReads returns true, and its arguments read behind the call as before. Conditions: the tables that the card lays. -/
import Derived.Test.YtgjpnjncfilgnaaGreatDoorKRc
import Derived.Test.YtgjpnjncfilgnaaGreatDoorSpA
import Derived.WalkKit
import Derived.ProofKit
import Derived.OpenShut
import Derived.ChangeOld
import Derived.Below
import Derived.Lib.SmallJoins
import Derived.Test.YtgjpnjncfilgnaaGreatDoorRows
import Derived.LaidMore
import Derived.Lay
import Derived.LaidLaws
import Derived.LaidHandle
import Derived.SevenTiedAt
import Derived.Stop.Joined
import Derived.Test.YtgjpnjncfilgnaaGreatDoorCards
import Derived.Test.YtgjpnjncfilgnaaGreatDoorTie
namespace Go.Proofs.YtgjpnjncfilgnaaGreatDoor.tagReadsDone
open Go Go.Vc Go.Md Go.M Go.Lx Go.ChangeShapes Go.WideShapes Go.ChangeAt Go.RowKit Go.Joins
set_option linter.unusedVariables false
set_option maxRecDepth 100000
set_option maxHeartbeats 4000000
abbrev e_string (x : (List UInt8)) : List Value := [Jv x]
theorem op_9 {H : Type} {enc : TypeId × Value → H} {w : World} {base : Nat} {spare : Nat → Bool} {held : Bool} {B : Nat} (n : Nat) (cs : List Value) (x : DataW H × List MemPlace) (hB : Wt Tryz.prog B 9 x.1) (hl : cs.length = 1) (h : DataW.trod enc Tryz.prog w base spare held n 9 cs = some x) : ∃ a : (List UInt8), cs = e_string a ∧ (a.length ≤ 9223372036854775807 ∧ a.length ≤ B) := by
 obtain ⟨a, h1, h2, h3⟩ := op_stringW hB Tryz.underlying9 h
 exact ⟨a, h1, h2, h3⟩
theorem own : ownKnob Tryz.prog.godebug = none := by kernel_rfl
theorem laidOut : laidOutB Tryz.prog = true := by kernel_rfl
theorem door_met (os : Os) (args : Array Value) : laidMetH Tryz.prog Rows.tagReadsRow.laid ((World.doorLaid Tryz.prog 400 os).forCall (fun _ _ => 0) ⟨#[], args, []⟩).memory :=
 laidMetH_of_parts3 (fuel := 8) (laidMet_of_run' 8 (by kernel_rfl) (by kernel_rfl)) (by kernel_rfl) (by kernel_rfl)
theorem lifted (os : Os) (started : os.Started) (H : Type) (enc : TypeId × Value → H) :
  ReturnsInHanded {} Tryz.checked os 4 .any (fun w args => (Rows.tagReadsSpec.pre enc Tryz.prog Tryz.f4 [] false w args ∧ laidMetH Tryz.prog Rows.tagReadsRow.laid w) ∧ sizedMet enc Tryz.prog Tryz.f4 (OpenSpec.ofChange Rows.tagReadsSpec) false w args) (Rows.tagReadsSpec.post enc Tryz.prog Tryz.f4 false true false false) := by
 refine returnsInHanded_of_change_and (C := Tryz.checked) (X := fun w _ => laidMetH Tryz.prog Rows.tagReadsRow.laid w) (fun _ _ _ hh h => h.of_heap hh) own started (by kernel_rfl) Tryz.func4
  (ChangeSpec.witness_shaped (enc := enc) (C := Tryz.checked) (os := os) (X := fun w _ => laidMetH Tryz.prog Rows.tagReadsRow.laid w) false (World.doorLaid Tryz.prog 400 os) #[Jv []] 8 rfl (World.shaped_of_RefB (by kernel_rfl) (by kernel_rfl)) (by kernel_rfl) (by kernel_rfl) (by kernel_rfl) (door_met os _)) ?_
 intro W base args ds gs before hval0 hW hcnd hk hL _
 have hval : ∀ (j : Nat) t v, Tryz.f4.params[j]? = some t → args[j]? = some v → Value.okWide Tryz.prog W .any base t v := hval0
 have hW' := hW
 obtain ⟨p, q, hA0, hV, rfl, hfz, hnd⟩ := hW
 have hA : DataW.TrodAll enc Tryz.prog W 0 (fun _ => true) true Tryz.f4.params.toList args.toList ds p := hA0
 rw [Tryz.params4] at hA hval
 obtain ⟨v0, vs0, d0, ds0, p0, q0, hargs, rfl, rfl, h0, r0⟩ := trodAll_cons hA
 obtain ⟨rfl, rfl, rfl⟩ := trodAll_nil r0
 obtain rfl : args = #[v0] := by cases args; simp_all
 obtain ⟨rfl, rfl⟩ := trodVars_none hV
 have kt0 := h0
 have lt0 : ∀ x ∈ p0, x.block < W.heap.size := by obtain ⟨m, hm⟩ := kt0; exact DataW.trod_lt m _ _ _ hm
 have hb0 : Wt Tryz.prog 140737488351232 9 (d0, p0).1 := wt_arg (B := 140737488351232) hk 0 (by kernel_rfl) rfl
 obtain ⟨n0, hf0⟩ := h0
 have hv0 : v0.cells.toList = [v0] := val_cell (by kernel_rfl) (hval 0 9 v0 rfl rfl)
 rw [hv0] at hf0
 obtain ⟨a0, hu0, w0⟩ := op_9 _ _ _ hb0 rfl hf0
 simp only [List.cons.injEq, and_true] at hu0
 subst hu0
 clear hA0 hval0
 have tb_pow10 : TabH Tryz.prog (fun b => W.heap[b]?) "internal/strconv.uint64pow10" .u64 Lib.pow10Tab := tab_at 2 (by kernel_rfl : Tryz.prog.globalNamed "internal/strconv.uint64pow10" = some 1) (by kernel_rfl) Tryz.underlying298 Tryz.underlying96 (by kernel_rfl) (by kernel_rfl) hL (by kernel_rfl) (by kernel_rfl)
 refine Calls.mono (k4 (J7 W) tb_pow10 (tagReadsS a0 w0)) fun e W' hq => ?_
 obtain ⟨v, he, hv, bel⟩ := hq
 subst he hv
 exact ⟨_, rfl, _, _, _, [], _, [], hW', trodAll_mk1 (shut_bool Tryz.underlying4 _), (trodAll_cons_mk (Below.trod laidOut (by kernel_rfl) (of_decide_eq_true (by kernel_rfl)) kt0 bel lt0) trodAll_mk0), rfl, bel.frame _, fun h => by cases h⟩
theorem over : Rows.tagReadsRow.holds Tryz.pinned (OpenSpec.ofChange Rows.tagReadsSpec) :=
 OpenClaim.holds_of_wide 4 Tryz.f4 rfl rfl rfl rfl rfl rfl rfl ⟨rfl, rfl, rfl, rfl, rfl⟩ rfl rfl rfl rfl rfl (by kernel_rfl) Tryz.func4 (by kernel_rfl)
  (of_decide_eq_true (by kernel_rfl)) (by unfold Func.isWrapper; first | (rw [if_pos (by decide +kernel)]; kernel_rfl) | (rw [if_neg (by decide +kernel)]; exact ⟨rfl, rfl⟩))
  (fun os started H enc _ => lifted os started H enc)
theorem card : Rows.TagReadsCardSaid :=
 Claim7.holds_tied_plain_at .later [] [.data, .data, .data] true (true, "6b4f02d79d41f9d077401aa2edc11aa3241399d8777678ad994a38179de759fe") true
  over (fun _ h => by cases h) (by kernel_rfl) (fun _ h => by cases h) tagReads_row_tie rfl ⟨rfl, rfl⟩ (by kernel_rfl) rfl
  (fun f fn hf hfn => by
   obtain rfl : f = 4 := Option.some.inj ((show Tryz.prog.funcNamed "tintype/tintlaw2.TagReads" = some 4 by kernel_rfl).symm.trans hf) |>.symm
   obtain rfl : fn = Tryz.f4 := (Option.some.inj (Tryz.func4.symm.trans hfn)).symm
   exact ⟨by kernel_rfl, fun j t ht => by
    rw [Tryz.params4] at ht
    have hm : t ∈ [9] := by simpa using Array.mem_of_getElem? ht
    have hall : ([9].all fun u => !Tryz.prog.wantsStandIn u) = true := by kernel_rfl
    exact (show Tryz.prog.wantsStandIn t = false by simpa using List.all_eq_true.1 hall t hm)⟩)
  (by kernel_rfl)
end Go.Proofs.YtgjpnjncfilgnaaGreatDoor.tagReadsDone
namespace Go.Proofs.YtgjpnjncfilgnaaGreatDoor
theorem tagReads_holds : Rows.TagReadsCardSaid := tagReadsDone.card
#print axioms tagReads_holds
end Go.Proofs.YtgjpnjncfilgnaaGreatDoor
