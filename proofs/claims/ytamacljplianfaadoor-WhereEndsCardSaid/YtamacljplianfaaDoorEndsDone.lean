/- For every input, WhereEnds returns true, and its arguments read behind the call as before. Conditions: none. -/
import Derived.Test.YtamacljplianfaaDoorKWd
import Derived.Test.YtamacljplianfaaDoorWEn
import Derived.Test.YtamacljplianfaaDoorOpenT
import Derived.WalkKit
import Derived.ProofKit
import Derived.OpenShut
import Derived.ChangeOld
import Derived.Below
import Derived.Lib.SmallJoins
import Derived.Test.YtamacljplianfaaDoorRows
import Derived.Test.YtamacljplianfaaDoorOpenW
import Derived.LaidMore
import Derived.Lay
import Derived.LaidLaws
import Derived.LaidHandle
import Derived.SevenTiedAt
import Derived.Stop.Joined
import Derived.Test.YtamacljplianfaaDoorCards
import Derived.Test.YtamacljplianfaaDoorTie
namespace Go.Proofs.YtamacljplianfaaDoor.whereEndsDone
open Go Go.Vc Go.Md Go.M Go.Lx Go.ChangeShapes Go.WideShapes Go.ChangeAt Go.RowKit Go.Joins
set_option linter.unusedVariables false
set_option maxRecDepth 100000
set_option maxHeartbeats 4000000

abbrev e_i64 (x : Int) : List Value := [.int .i64 x]

theorem op_3 {H : Type} {enc : TypeId × Value → H} {w : World} {base : Nat} {spare : Nat → Bool} {held : Bool} {B : Nat} (n : Nat) (cs : List Value) (x : DataW H × List MemPlace) (hB : Wt Tryd.prog B 3 x.1) (hl : cs.length = 1) (h : DataW.trod enc Tryd.prog w base spare held n 3 cs = some x) : ∃ a : Int, cs = e_i64 a ∧ (-9223372036854775808 ≤ a ∧ a ≤ 9223372036854775807) := by
  obtain ⟨a, h1, h2⟩ := op_int Tryd.underlying3 h
  refine ⟨a, h1, ?_⟩
  simp only [Lit.wf, IntKind.min, IntKind.max, IntKind.bits, IntKind.signed] at h2
  simp at h2
  omega

theorem op_23 {H : Type} {enc : TypeId × Value → H} {w : World} {base : Nat} {spare : Nat → Bool} {held : Bool} {B : Nat} (n : Nat) (cs : List Value) (x : DataW H × List MemPlace) (hB : Wt Tryd.prog B 23 x.1) (hl : cs.length = 2) (h : DataW.trod enc Tryd.prog w base spare held n 23 cs = some x) : ∃ a : T_api_Place, cs = e_api_Place a ∧ ((-9223372036854775808 ≤ a.Lat ∧ a.Lat ≤ 9223372036854775807) ∧ (-9223372036854775808 ≤ a.Lon ∧ a.Lon ≤ 9223372036854775807)) := by
  obtain ⟨n0, y0, h0, g0⟩ := op_fieldW hB (i := 0) (ft := 3) (fo := 0) (sz := 1) Tryd.underlying23 rfl (by kernel_rfl) h
  obtain ⟨a0, e0, w0⟩ := op_3 n0 _ y0 g0 (by rw [List.length_take, List.length_drop, hl]; rfl) h0
  have p0 := piece e0 rfl
  obtain ⟨n1, y1, h1, g1⟩ := op_fieldW hB (i := 1) (ft := 3) (fo := 1) (sz := 1) Tryd.underlying23 rfl (by kernel_rfl) h
  obtain ⟨a1, e1, w1⟩ := op_3 n1 _ y1 g1 (by rw [List.length_take, List.length_drop, hl]; rfl) h1
  have p1 := piece e1 rfl
  have pe : cs.drop 2 = [] := List.drop_of_length_le (by omega)
  refine ⟨⟨a0, a1⟩, ?_, w0, w1⟩
  rw [← List.drop_zero (l := cs)]
  rw [p0]
  rw [show cs.drop (0 + 1) = cs.drop 1 from rfl, p1]
  rw [show cs.drop (1 + 1) = cs.drop 2 from rfl, pe]
  rfl

theorem own : ownKnob Tryd.prog.godebug = none := by kernel_rfl
theorem laidOut : laidOutB Tryd.prog = true := by kernel_rfl

/-! ### the row's step -/
theorem lifted (os : Os) (started : os.Started) (H : Type) (enc : TypeId × Value → H) :
    ReturnsInHanded {} Tryd.checked os 4 .any (fun w args => (Rows.whereEndsSpec.pre enc Tryd.prog Tryd.f4 [] false w args ∧ laidMetH Tryd.prog Rows.whereEndsRow.laid w) ∧ sizedMet enc Tryd.prog Tryd.f4 (OpenSpec.ofChange Rows.whereEndsSpec) false w args) (Rows.whereEndsSpec.post enc Tryd.prog Tryd.f4 false true false false) := by
  refine returnsInHanded_of_change_and (C := Tryd.checked) (X := fun w _ => laidMetH Tryd.prog Rows.whereEndsRow.laid w) (fun _ _ _ hh h => h.of_heap hh) own started (by kernel_rfl) Tryd.func4
    (ChangeSpec.witness_shaped (enc := enc) (C := Tryd.checked) (os := os) (X := fun w _ => laidMetH Tryd.prog Rows.whereEndsRow.laid w) false (World.laidAll Tryd.prog os Rows.whereEndsRow.laid) #[.agg #[.int .i64 0, .int .i64 0], .agg #[.int .i64 0, .int .i64 0], .int .i64 0] 8 (World.laidAll_os _ _ _) (World.shaped_of_ZipB (by kernel_rfl) (by kernel_rfl)) (by kernel_rfl) (by kernel_rfl) (by kernel_rfl) (by rw [MakeChecks.laidMetH_plain _ _ _ (by kernel_rfl)]; exact laidMet_laidAll _ (by kernel_rfl) (by kernel_rfl))) ?_
  intro W base args ds gs before hval0 hW hcnd hk hL _
  have hval : ∀ (j : Nat) t v, Tryd.f4.params[j]? = some t → args[j]? = some v → Value.okWide Tryd.prog W .any base t v := hval0
  have hW' := hW
  obtain ⟨p, q, hA0, hV, rfl, hfz, hnd⟩ := hW
  have hA : DataW.TrodAll enc Tryd.prog W 0 (fun _ => true) true Tryd.f4.params.toList args.toList ds p := hA0
  rw [Tryd.params4] at hA hval
  obtain ⟨v0, vs0, d0, ds0, p0, q0, hargs, rfl, rfl, h0, r0⟩ := trodAll_cons hA
  obtain ⟨v1, vs1, d1, ds1, p1, q1, rfl, rfl, rfl, h1, r1⟩ := trodAll_cons r0
  obtain ⟨v2, vs2, d2, ds2, p2, q2, rfl, rfl, rfl, h2, r2⟩ := trodAll_cons r1
  obtain ⟨rfl, rfl, rfl⟩ := trodAll_nil r2
  obtain rfl : args = #[v0, v1, v2] := by cases args; simp_all
  obtain ⟨rfl, rfl⟩ := trodVars_none hV
  have kt0 := h0
  have lt0 : ∀ x ∈ p0, x.block < W.heap.size := by obtain ⟨m, hm⟩ := kt0; exact DataW.trod_lt m _ _ _ hm
  have kt1 := h1
  have lt1 : ∀ x ∈ p1, x.block < W.heap.size := by obtain ⟨m, hm⟩ := kt1; exact DataW.trod_lt m _ _ _ hm
  have kt2 := h2
  have lt2 : ∀ x ∈ p2, x.block < W.heap.size := by obtain ⟨m, hm⟩ := kt2; exact DataW.trod_lt m _ _ _ hm
  have hb0 : Wt Tryd.prog 140737488351232 23 (d0, p0).1 := wt_arg (B := 140737488351232) hk 0 (by kernel_rfl) rfl
  have hb1 : Wt Tryd.prog 140737488351232 23 (d1, p1).1 := wt_arg (B := 140737488351232) hk 1 (by kernel_rfl) rfl
  have hb2 : Wt Tryd.prog 140737488351232 3 (d2, p2).1 := wt_arg (B := 140737488351232) hk 2 (by kernel_rfl) rfl
  obtain ⟨n0, hf0⟩ := h0
  obtain ⟨c0, rfl, hc0, hl0⟩ := val_struct Tryd.underlying23 (hval 0 23 v0 rfl rfl)
  rw [hc0] at hf0
  rw [(by kernel_rfl : Tryd.prog.cellsOf 23 = 2)] at hl0
  obtain ⟨a0, rfl, w0⟩ := op_23 _ _ _ hb0 hl0 hf0
  obtain ⟨n1, hf1⟩ := h1
  obtain ⟨c1, rfl, hc1, hl1⟩ := val_struct Tryd.underlying23 (hval 1 23 v1 rfl rfl)
  rw [hc1] at hf1
  rw [(by kernel_rfl : Tryd.prog.cellsOf 23 = 2)] at hl1
  obtain ⟨a1, rfl, w1⟩ := op_23 _ _ _ hb1 hl1 hf1
  obtain ⟨n2, hf2⟩ := h2
  have hv2 : v2.cells.toList = [v2] := val_cell (by kernel_rfl) (hval 2 3 v2 rfl rfl)
  rw [hv2] at hf2
  obtain ⟨a2, hu2, w2⟩ := op_3 _ _ _ hb2 rfl hf2
  simp only [List.cons.injEq, and_true] at hu2
  subst hu2
  clear hA0 hval0
  have tb_pow10 : TabH Tryd.prog (fun b => W.heap[b]?) "internal/strconv.uint64pow10" .u64 Lib.pow10Tab := tab_at 2 (by kernel_rfl : Tryd.prog.globalNamed "internal/strconv.uint64pow10" = some 6) (by kernel_rfl) Tryd.underlying131 Tryd.underlying99 (by kernel_rfl) (by kernel_rfl) hL (by kernel_rfl) (by kernel_rfl)
  refine Calls.mono (k4 (know_all W) tb_pow10 (whereEndsS a0 a1 a2 w0 w1 w2)) fun e W' hq => ?_
  obtain ⟨v, he, hv, bel⟩ := hq
  subst he hv
  exact ⟨_, rfl, _, _, _, [], _, [], hW', trodAll_mk1 (shut_bool Tryd.underlying4 _), (trodAll_cons_mk (Below.trod laidOut (by kernel_rfl) (of_decide_eq_true (by kernel_rfl)) kt0 bel lt0) (trodAll_cons_mk (Below.trod laidOut (by kernel_rfl) (of_decide_eq_true (by kernel_rfl)) kt1 bel lt1) (trodAll_cons_mk (Below.trod laidOut (by kernel_rfl) (of_decide_eq_true (by kernel_rfl)) kt2 bel lt2) trodAll_mk0))), rfl, bel.frame _, fun h => by cases h⟩

theorem over : Rows.whereEndsRow.holds Tryd.pinned (OpenSpec.ofChange Rows.whereEndsSpec) :=
  OpenClaim.holds_of_wide 4 Tryd.f4 rfl rfl rfl rfl rfl rfl rfl ⟨rfl, rfl, rfl, rfl, rfl⟩ rfl rfl rfl rfl rfl (by kernel_rfl) Tryd.func4 (by kernel_rfl)
    (of_decide_eq_true (by kernel_rfl)) (by unfold Func.isWrapper; first | (rw [if_pos (by decide +kernel)]; kernel_rfl) | (rw [if_neg (by decide +kernel)]; exact ⟨rfl, rfl⟩))
    (fun os started H enc _ => lifted os started H enc)

theorem card : Rows.WhereEndsCardSaid :=
  Claim7.holds_tied_plain_at .later [] [.data, .data, .data, .data, .sentinel, .sentinel, .pinned] true (true, "1fb1f73c714ed13ce47905d05b01b994bc60996d45b27033366769143313d22e") true
    over (fun _ h => by cases h) (by kernel_rfl) (fun _ h => by cases h) whereEnds_row_tie rfl ⟨rfl, rfl⟩ (by kernel_rfl) rfl
    (fun f fn hf hfn => by
      obtain rfl : f = 4 := Option.some.inj ((show Tryd.prog.funcNamed "tintype/tintkeep2.WhereEnds" = some 4 by kernel_rfl).symm.trans hf) |>.symm
      obtain rfl : fn = Tryd.f4 := (Option.some.inj (Tryd.func4.symm.trans hfn)).symm
      exact ⟨by kernel_rfl, fun j t ht => by
        rw [Tryd.params4] at ht
        have hm : t ∈ [23, 23, 3] := by simpa using Array.mem_of_getElem? ht
        have hall : ([23, 23, 3].all fun u => !Tryd.prog.wantsStandIn u) = true := by kernel_rfl
        exact (show Tryd.prog.wantsStandIn t = false by simpa using List.all_eq_true.1 hall t hm)⟩)
    (by kernel_rfl)
end Go.Proofs.YtamacljplianfaaDoor.whereEndsDone
namespace Go.Proofs.YtamacljplianfaaDoor
/-- The statement. -/
theorem whereEnds_holds : Rows.WhereEndsCardSaid := whereEndsDone.card
#print axioms whereEnds_holds
end Go.Proofs.YtamacljplianfaaDoor
