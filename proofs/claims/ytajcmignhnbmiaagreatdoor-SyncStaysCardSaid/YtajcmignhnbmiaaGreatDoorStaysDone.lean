/- For every input, SyncStays returns true, and its arguments read behind the call as before. Conditions: the two tables of package unicode/utf8 that the card lays. -/
import Derived.Test.YtajcmignhnbmiaaGreatDoorKSc
import Derived.Test.YtajcmignhnbmiaaGreatDoorSyL
import Derived.WalkKit
import Derived.ProofKit
import Derived.OpenShut
import Derived.ChangeOld
import Derived.Below
import Derived.Lib.SmallJoins
import Derived.Test.YtajcmignhnbmiaaGreatDoorRows
import Derived.LaidMore
import Derived.Lay
import Derived.LaidLaws
import Derived.LaidHandle
import Derived.SevenTiedAt
import Derived.Stop.Joined
import Derived.Test.YtajcmignhnbmiaaGreatDoorCards
import Derived.Test.YtajcmignhnbmiaaGreatDoorTie
namespace Go.Proofs.YtajcmignhnbmiaaGreatDoor.syncStaysDone
open Go Go.Vc Go.Md Go.M Go.Lx Go.ChangeShapes Go.WideShapes Go.ChangeAt Go.RowKit Go.Joins
set_option linter.unusedVariables false
set_option maxRecDepth 100000
set_option maxHeartbeats 4000000
theorem op_3 {H : Type} {enc : TypeId × Value → H} {w : World} {base : Nat} {spare : Nat → Bool} {held : Bool} {B : Nat} (n : Nat) (cs : List Value) (x : DataW H × List MemPlace) (hB : Wt Tryz.prog B 3 x.1) (hl : cs.length = 1) (h : DataW.trod enc Tryz.prog w base spare held n 3 cs = some x) : ∃ a : Int, cs = Z5 a ∧ (-9223372036854775808 ≤ a ∧ a ≤ 9223372036854775807) := by
 obtain ⟨a, h1, h2⟩ := op_int Tryz.underlying3 h
 refine ⟨a, h1, ?_⟩
 simp only [Lit.wf, IntKind.min, IntKind.max, IntKind.bits, IntKind.signed] at h2
 simp at h2
 omega
theorem op_9 {H : Type} {enc : TypeId × Value → H} {w : World} {base : Nat} {spare : Nat → Bool} {held : Bool} {B : Nat} (n : Nat) (cs : List Value) (x : DataW H × List MemPlace) (hB : Wt Tryz.prog B 9 x.1) (hl : cs.length = 1) (h : DataW.trod enc Tryz.prog w base spare held n 9 cs = some x) : ∃ a : (List UInt8), cs = Zh a ∧ (a.length ≤ 9223372036854775807 ∧ a.length ≤ B) := by
 obtain ⟨a, h1, h2, h3⟩ := op_stringW hB Tryz.underlying9 h
 exact ⟨a, h1, h2, h3⟩
theorem op_49 {H : Type} {enc : TypeId × Value → H} {w : World} {base : Nat} {spare : Nat → Bool} {held : Bool} {B : Nat} (n : Nat) (cs : List Value) (x : DataW H × List MemPlace) (hB : Wt Tryz.prog B 49 x.1) (hl : cs.length = 5) (h : DataW.trod enc Tryz.prog w base spare held n 49 cs = some x) : ∃ a : T_tintkeep2_Deed, cs = Vr a ∧ ((-9223372036854775808 ≤ a.Kind ∧ a.Kind ≤ 9223372036854775807) ∧ (-9223372036854775808 ≤ a.Who ∧ a.Who ≤ 9223372036854775807) ∧ (-9223372036854775808 ≤ a.Id ∧ a.Id ≤ 9223372036854775807) ∧ (-9223372036854775808 ≤ a.N ∧ a.N ≤ 9223372036854775807) ∧ (a.Word.length ≤ 9223372036854775807 ∧ a.Word.length ≤ B)) := by
 obtain ⟨n0, y0, h0, g0⟩ := op_fieldW hB (i := 0) (ft := 3) (fo := 0) (sz := 1) Tryz.underlying49 rfl (by kernel_rfl) h
 obtain ⟨a0, e0, w0⟩ := op_3 n0 _ y0 g0 (by rw [List.length_take, List.length_drop, hl]; rfl) h0
 have p0 := piece e0 rfl
 obtain ⟨n1, y1, h1, g1⟩ := op_fieldW hB (i := 1) (ft := 3) (fo := 1) (sz := 1) Tryz.underlying49 rfl (by kernel_rfl) h
 obtain ⟨a1, e1, w1⟩ := op_3 n1 _ y1 g1 (by rw [List.length_take, List.length_drop, hl]; rfl) h1
 have p1 := piece e1 rfl
 obtain ⟨n2, y2, h2, g2⟩ := op_fieldW hB (i := 2) (ft := 3) (fo := 2) (sz := 1) Tryz.underlying49 rfl (by kernel_rfl) h
 obtain ⟨a2, e2, w2⟩ := op_3 n2 _ y2 g2 (by rw [List.length_take, List.length_drop, hl]; rfl) h2
 have p2 := piece e2 rfl
 obtain ⟨n3, y3, h3, g3⟩ := op_fieldW hB (i := 3) (ft := 3) (fo := 3) (sz := 1) Tryz.underlying49 rfl (by kernel_rfl) h
 obtain ⟨a3, e3, w3⟩ := op_3 n3 _ y3 g3 (by rw [List.length_take, List.length_drop, hl]; rfl) h3
 have p3 := piece e3 rfl
 obtain ⟨n4, y4, h4, g4⟩ := op_fieldW hB (i := 4) (ft := 9) (fo := 4) (sz := 1) Tryz.underlying49 rfl (by kernel_rfl) h
 obtain ⟨a4, e4, w4⟩ := op_9 n4 _ y4 g4 (by rw [List.length_take, List.length_drop, hl]; rfl) h4
 have p4 := piece e4 rfl
 have pe : cs.drop 5 = [] := List.drop_of_length_le (by omega)
 refine ⟨⟨a0, a1, a2, a3, a4⟩, ?_, w0, w1, w2, w3, w4⟩
 rw [← List.drop_zero (l := cs)]
 rw [p0]
 rw [show cs.drop (0 + 1) = cs.drop 1 from rfl, p1]
 rw [show cs.drop (1 + 1) = cs.drop 2 from rfl, p2]
 rw [show cs.drop (2 + 1) = cs.drop 3 from rfl, p3]
 rw [show cs.drop (3 + 1) = cs.drop 4 from rfl, p4]
 rw [show cs.drop (4 + 1) = cs.drop 5 from rfl, pe]
 rfl
theorem own : ownKnob Tryz.prog.godebug = none := by kernel_rfl
theorem laidOut : laidOutB Tryz.prog = true := by kernel_rfl
theorem lifted (os : Os) (started : os.Started) (H : Type) (enc : TypeId × Value → H) :
  ReturnsInHanded {} Tryz.checked os 3 .any (fun w args => (Rows.syncStaysSpec.pre enc Tryz.prog Tryz.f3 [] false w args ∧ laidMetH Tryz.prog Rows.syncStaysRow.laid w) ∧ sizedMet enc Tryz.prog Tryz.f3 (OpenSpec.ofChange Rows.syncStaysSpec) false w args) (Rows.syncStaysSpec.post enc Tryz.prog Tryz.f3 false true false false) := by
 refine returnsInHanded_of_change_and (C := Tryz.checked) (X := fun w _ => laidMetH Tryz.prog Rows.syncStaysRow.laid w) (fun _ _ _ hh h => h.of_heap hh) own started (by kernel_rfl) Tryz.func3
  (ChangeSpec.witness_shaped (enc := enc) (C := Tryz.checked) (os := os) (X := fun w _ => laidMetH Tryz.prog Rows.syncStaysRow.laid w) false (World.laidAll Tryz.prog os Rows.syncStaysRow.laid) #[.slice none 0 0, .int .i64 0, .int .i64 0] 8 (World.laidAll_os _ _ _) (World.shaped_of_ZipB (by kernel_rfl) (by kernel_rfl)) (by kernel_rfl) (by kernel_rfl) (by kernel_rfl) (by rw [MakeChecks.laidMetH_plain _ _ _ (by kernel_rfl)]; exact laidMet_laidAll _ (by kernel_rfl) (by kernel_rfl))) ?_
 intro W base args ds gs before hval0 hW hcnd hk hL _
 have hval : ∀ (j : Nat) t v, Tryz.f3.params[j]? = some t → args[j]? = some v → Value.okWide Tryz.prog W .any base t v := hval0
 have hW' := hW
 obtain ⟨p, q, hA0, hV, rfl, hfz, hnd⟩ := hW
 have hA : DataW.TrodAll enc Tryz.prog W 0 (fun _ => true) true Tryz.f3.params.toList args.toList ds p := hA0
 rw [Tryz.params3] at hA hval
 obtain ⟨v0, vs0, d0, ds0, p0, q0, hargs, rfl, rfl, h0, r0⟩ := trodAll_cons hA
 obtain ⟨v1, vs1, d1, ds1, p1, q1, rfl, rfl, rfl, h1, r1⟩ := trodAll_cons r0
 obtain ⟨v2, vs2, d2, ds2, p2, q2, rfl, rfl, rfl, h2, r2⟩ := trodAll_cons r1
 obtain ⟨rfl, rfl, rfl⟩ := trodAll_nil r2
 obtain rfl : args = #[v0, v1, v2] := by cases args; simp_all
 obtain ⟨rfl, rfl⟩ := trodVars_none hV
 have kt0 := h0
 have lt0 : ∀ x ∈ p0, x.block < W.heap.size := by obtain ⟨m, hm⟩ := kt0; exact DataW.trod_lt m _ _ _ hm
 have kt1 := h1
 have lt1 : ∀ x ∈ p1, x.block < W.heap.size := by obtain ⟨m, hm⟩ := kt1; exact DataW.trod_lt m _ _ _ hm
 have kt2 := h2
 have lt2 : ∀ x ∈ p2, x.block < W.heap.size := by obtain ⟨m, hm⟩ := kt2; exact DataW.trod_lt m _ _ _ hm
 have hb0 : Wt Tryz.prog 140737488351232 22 (d0, p0).1 := wt_arg (B := 140737488351232) hk 0 (by kernel_rfl) rfl
 have hb1 : Wt Tryz.prog 140737488351232 3 (d1, p1).1 := wt_arg (B := 140737488351232) hk 1 (by kernel_rfl) rfl
 have hb2 : Wt Tryz.prog 140737488351232 3 (d2, p2).1 := wt_arg (B := 140737488351232) hk 2 (by kernel_rfl) rfl
 obtain ⟨n0, hf0⟩ := h0
 have hv0 : v0.cells.toList = [v0] := val_cell (by kernel_rfl) (hval 0 22 v0 rfl rfl)
 rw [hv0] at hf0
 obtain ⟨u0, a0, hu0, f0, hn0, g0⟩ := op_sliceW (f := Vr) (good := fun a => (-9223372036854775808 ≤ a.Kind ∧ a.Kind ≤ 9223372036854775807) ∧ (-9223372036854775808 ≤ a.Who ∧ a.Who ≤ 9223372036854775807) ∧ (-9223372036854775808 ≤ a.Id ∧ a.Id ≤ 9223372036854775807) ∧ (-9223372036854775808 ≤ a.N ∧ a.N ≤ 9223372036854775807) ∧ (a.Word.length ≤ 9223372036854775807 ∧ a.Word.length ≤ 140737488351232)) hb0 Tryz.underlying22 (by kernel_rfl : Tryz.prog.cellsOf 49 = 5) rfl (by kernel_rfl : Tryz.prog.bytesOf 49 = 48) (fun n cs x hb hl h => op_49 n cs x hb hl h) hf0
 simp only [List.cons.injEq, and_true] at hu0
 subst hu0
 obtain ⟨n1, hf1⟩ := h1
 have hv1 : v1.cells.toList = [v1] := val_cell (by kernel_rfl) (hval 1 3 v1 rfl rfl)
 rw [hv1] at hf1
 obtain ⟨a1, hu1, w1⟩ := op_3 _ _ _ hb1 rfl hf1
 simp only [List.cons.injEq, and_true] at hu1
 subst hu1
 obtain ⟨n2, hf2⟩ := h2
 have hv2 : v2.cells.toList = [v2] := val_cell (by kernel_rfl) (hval 2 3 v2 rfl rfl)
 rw [hv2] at hf2
 obtain ⟨a2, hu2, w2⟩ := op_3 _ _ _ hb2 rfl hf2
 simp only [List.cons.injEq, and_true] at hu2
 subst hu2
 clear hA0 hval0
 refine Calls.mono (k3 (Jx W) f0 (syncStaysS a0 a1 a2 (And.intro hn0 g0) w1 w2)) fun e W' hq => ?_
 obtain ⟨v, he, hv, bel⟩ := hq
 subst he hv
 exact ⟨_, rfl, _, _, _, [], _, [], hW', trodAll_mk1 (shut_bool Tryz.underlying4 _), (trodAll_cons_mk (Below.trod laidOut (by kernel_rfl) (of_decide_eq_true (by kernel_rfl)) kt0 bel lt0) (trodAll_cons_mk (Below.trod laidOut (by kernel_rfl) (of_decide_eq_true (by kernel_rfl)) kt1 bel lt1) (trodAll_cons_mk (Below.trod laidOut (by kernel_rfl) (of_decide_eq_true (by kernel_rfl)) kt2 bel lt2) trodAll_mk0))), rfl, bel.frame _, fun h => by cases h⟩
theorem over : Rows.syncStaysRow.holds Tryz.pinned (OpenSpec.ofChange Rows.syncStaysSpec) :=
 OpenClaim.holds_of_wide 3 Tryz.f3 rfl rfl rfl rfl rfl rfl rfl ⟨rfl, rfl, rfl, rfl, rfl⟩ rfl rfl rfl rfl rfl (by kernel_rfl) Tryz.func3 (by kernel_rfl)
  (of_decide_eq_true (by kernel_rfl)) (by unfold Func.isWrapper; first | (rw [if_pos (by decide +kernel)]; kernel_rfl) | (rw [if_neg (by decide +kernel)]; exact ⟨rfl, rfl⟩))
  (fun os started H enc _ => lifted os started H enc)
theorem card : Rows.SyncStaysCardSaid :=
 Claim7.holds_tied_plain_at .later [] [.data, .pinned] true (true, "002622143dfe2da6331b1a73786d1aa2da3663babd7699fe2fc6c91bea3022ba") false
  over (fun _ h => by cases h) (by kernel_rfl) (fun _ h => by cases h) syncStays_row_tie rfl ⟨rfl, rfl⟩ (by kernel_rfl) rfl
  (fun f fn hf hfn => by
   obtain rfl : f = 3 := Option.some.inj ((show Tryz.prog.funcNamed "tintype/tintkeep2.SyncStays" = some 3 by kernel_rfl).symm.trans hf) |>.symm
   obtain rfl : fn = Tryz.f3 := (Option.some.inj (Tryz.func3.symm.trans hfn)).symm
   exact ⟨by kernel_rfl, fun j t ht => by
    rw [Tryz.params3] at ht
    have hm : t ∈ [22, 3, 3] := by simpa using Array.mem_of_getElem? ht
    have hall : ([22, 3, 3].all fun u => !Tryz.prog.wantsStandIn u) = true := by kernel_rfl
    exact (show Tryz.prog.wantsStandIn t = false by simpa using List.all_eq_true.1 hall t hm)⟩)
  (by kernel_rfl)
end Go.Proofs.YtajcmignhnbmiaaGreatDoor.syncStaysDone
namespace Go.Proofs.YtajcmignhnbmiaaGreatDoor
theorem syncStays_holds : Rows.SyncStaysCardSaid := syncStaysDone.card
#print axioms syncStays_holds
end Go.Proofs.YtajcmignhnbmiaaGreatDoor
