/- For every input of bulk at most 1048576, TopTurned returns true, and its arguments read behind the call as before. Conditions: none. -/
import Derived.Test.YtfplifpbobfemaaDoorKTt
import Derived.Test.YtfplifpbobfemaaDoorTtX
import Derived.Test.YtfplifpbobfemaaDoorOpenT
import Derived.WalkKit
import Derived.ProofKit
import Derived.OpenShut
import Derived.ChangeOld
import Derived.Below
import Derived.Lib.SmallJoins
import Derived.Test.YtfplifpbobfemaaDoorRows
import Derived.Test.YtfplifpbobfemaaDoorOpenC
import Derived.JoinedCond
import Derived.JoinedAt
import Derived.LaidMore
import Derived.Lay
import Derived.LaidLaws
import Derived.LaidHandle
import Derived.SevenTiedAt
import Derived.Stop.Joined
import Derived.Test.YtfplifpbobfemaaDoorCards
import Derived.Test.YtfplifpbobfemaaDoorTie
namespace Go.Proofs.YtfplifpbobfemaaDoor.topTurnedDone
open Go Go.Vc Go.Md Go.M Go.Lx Go.ChangeShapes Go.WideShapes Go.ChangeAt Go.RowKit Go.Joins
set_option linter.unusedVariables false
set_option maxRecDepth 100000
set_option maxHeartbeats 4000000


theorem op_3 {H : Type} {enc : TypeId × Value → H} {w : World} {base : Nat} {spare : Nat → Bool} {held : Bool} {bk : DataW H → Nat} (K : BK bk) {B : Nat} (n : Nat) (cs : List Value) (x : DataW H × List MemPlace) (hB : bk x.1 ≤ B) (hl : cs.length = 1) (h : DataW.trod enc Tryd.prog w base spare held n 3 cs = some x) : ∃ a : Int, cs = e_i64 a ∧ (-9223372036854775808 ≤ a ∧ a ≤ 9223372036854775807) := by
  obtain ⟨a, h1, h2⟩ := op_int Tryd.underlying3 h
  refine ⟨a, h1, ?_⟩
  simp only [Lit.wf, IntKind.min, IntKind.max, IntKind.bits, IntKind.signed] at h2
  simp at h2
  omega

theorem op_5 {H : Type} {enc : TypeId × Value → H} {w : World} {base : Nat} {spare : Nat → Bool} {held : Bool} {bk : DataW H → Nat} (K : BK bk) {B : Nat} (n : Nat) (cs : List Value) (x : DataW H × List MemPlace) (hB : bk x.1 ≤ B) (hl : cs.length = 1) (h : DataW.trod enc Tryd.prog w base spare held n 5 cs = some x) : ∃ a : Int, cs = e_u8 a ∧ (0 ≤ a ∧ a ≤ 255) := by
  obtain ⟨a, h1, h2⟩ := op_int Tryd.underlying5 h
  refine ⟨a, h1, ?_⟩
  simp only [Lit.wf, IntKind.min, IntKind.max, IntKind.bits, IntKind.signed] at h2
  simp at h2
  omega

theorem own : ownKnob Tryd.prog.godebug = none := by kernel_rfl
theorem laidOut : laidOutB Tryd.prog = true := by kernel_rfl
theorem bulk_mem {H : Type} (d : DataW H) : ∀ es : List (DataW H), d ∈ es → Rows.uptoBulk d ≤ Rows.uptoBulkAll es
  | [], h => by cases h
  | x :: r, h => by
    rw [Rows.uptoBulkAll]
    rcases List.mem_cons.1 h with h | h
    · subst h; omega
    · have := bulk_mem d r h; omega
theorem bk (H : Type) : BK (Rows.uptoBulk (H := H)) :=
  ⟨fun es rs d h => by rw [Rows.uptoBulk.eq_def (.slice es rs)]; have := bulk_mem d es h; simp only; omega, fun es d h => by rw [Rows.uptoBulk.eq_def (.agg es)]; have := bulk_mem d es h; simp only; omega, fun bs => by rw [Rows.uptoBulk.eq_def]; simp only; omega⟩
theorem bulk_one {H : Type} (d : DataW H) : 1 ≤ Rows.uptoBulk d := by cases d <;> first | (rw [Rows.uptoBulk.eq_def]; simp only; omega) | (rename_i x; cases x <;> rw [Rows.uptoBulk.eq_def] <;> simp only <;> omega)
theorem bulk_len {H : Type} : ∀ es : List (DataW H), es.length ≤ Rows.uptoBulkAll es
  | [] => Nat.zero_le _
  | x :: r => by rw [Rows.uptoBulkAll, List.length_cons]; have := bulk_one x; have := bulk_len r; omega
theorem bkl (H : Type) : BKL (Rows.uptoBulk (H := H)) := ⟨bk H, fun es rs => by rw [Rows.uptoBulk.eq_def (.slice es rs)]; have := bulk_len es; simp only; omega⟩
theorem door_met (os : Os) (args : Array Value) : laidMetH Tryd.prog Rows.topTurnedUptoRow.laid ((World.doorLaid Tryd.prog 400 os).forCall (fun _ _ => 0) ⟨#[], args, []⟩).memory :=
  laidMetH_of_parts3 (fuel := 8) (laidMet_of_run' 8 (by kernel_rfl) (by kernel_rfl)) (by kernel_rfl) (by kernel_rfl)

/-! ### the row's step -/
def sp : OpenSpec := Rows.OpenSpec.upto Rows.topTurnedSpec
theorem lifted (os : Os) (started : os.Started) (H : Type) (enc : TypeId × Value → H) (F0 : Stop.Interp) :
    ReturnsInHanded {} Tryd.checked os 3 .any (fun w args => (OpenSpec.pre enc Tryd.prog Tryd.f3 sp [] false w args ∧ laidMetH Tryd.prog Rows.topTurnedUptoRow.laid w) ∧ sizedMet enc Tryd.prog Tryd.f3 sp false w args) ((sp.at F0).post enc Tryd.prog Tryd.f3 false true false false) := by
  refine handed_cond_laid (C := Tryd.checked) (s := sp) (k := Rows.uptoSmall) (X := fun w => laidMetH Tryd.prog Rows.topTurnedUptoRow.laid w) rfl (fun _ _ hh h => h.of_heap hh) own started (by kernel_rfl) Tryd.func3
    (witness_cond_laid (enc := enc) (C := Tryd.checked) (os := os) (s := sp) (k := Rows.uptoSmall) (X := fun w => laidMetH Tryd.prog Rows.topTurnedUptoRow.laid w) rfl false (World.doorLaid Tryd.prog 400 os) #[.agg #[.int .i64 0, .int .i64 0, .slice none 0 0], .slice none 0 0] 8 rfl (World.shaped_of_RefB (by kernel_rfl) (by kernel_rfl)) (by kernel_rfl)
      (x := ([.agg [.lit (.int .i64 0), .lit (.int .i64 0), .nil], .nil], [], [])) (by kernel_rfl) (by kernel_rfl) (of_decide_eq_true rfl |> fun h => decide_eq_true h) (by kernel_rfl) (door_met os _)) ?_
  intro W base args ds gs before hval0 hW hcnd hk hL _
  have hval : ∀ (j : Nat) t v, Tryd.f3.params[j]? = some t → args[j]? = some v → Value.okWide Tryd.prog W .any base t v := hval0
  have hW' := hW
  obtain ⟨p, q, hA0, hV, rfl, hfz, hnd⟩ := hW
  have hA : DataW.TrodAll enc Tryd.prog W 0 (fun _ => true) true Tryd.f3.params.toList args.toList ds p := hA0
  rw [Tryd.params3] at hA hval
  obtain ⟨v0, vs0, d0, ds0, p0, q0, hargs, rfl, rfl, h0, r0⟩ := trodAll_cons hA
  obtain ⟨v1, vs1, d1, ds1, p1, q1, rfl, rfl, rfl, h1, r1⟩ := trodAll_cons r0
  obtain ⟨rfl, rfl, rfl⟩ := trodAll_nil r1
  obtain rfl : args = #[v0, v1] := by cases args; simp_all
  obtain ⟨rfl, rfl⟩ := trodVars_none hV
  have kt0 := h0
  have lt0 : ∀ x ∈ p0, x.block < W.heap.size := by obtain ⟨m, hm⟩ := kt0; exact DataW.trod_lt m _ _ _ hm
  have kt1 := h1
  have lt1 : ∀ x ∈ p1, x.block < W.heap.size := by obtain ⟨m, hm⟩ := kt1; exact DataW.trod_lt m _ _ _ hm
  have hk0 := of_decide_eq_true (show decide (_ ≤ 1048576) = true from hk)
  simp only [List.append_nil, List.cons_append, List.nil_append, Rows.uptoBulkAll] at hk0
  have K0 := bkl H
  have K := K0.toBK
  have hb0 : Rows.uptoBulk (d0, p0).1 ≤ 1048576 := by show Rows.uptoBulk d0 ≤ _; omega
  have hb1 : Rows.uptoBulk (d1, p1).1 ≤ 1048576 := by show Rows.uptoBulk d1 ≤ _; omega
  obtain ⟨n0, hf0⟩ := h0
  obtain ⟨c0, rfl, hc0, hl0⟩ := val_struct Tryd.underlying24 (hval 0 24 v0 rfl rfl)
  rw [hc0] at hf0
  rw [(by kernel_rfl : Tryd.prog.cellsOf 24 = 3)] at hl0
  obtain ⟨n0_0, y0_0, h0_0, gg0_0⟩ := op_fieldB K (i := 0) (ft := 3) (fo := 0) (sz := 1) Tryd.underlying24 rfl (by kernel_rfl) hf0
  obtain ⟨a0_0, e0_0, w0_0⟩ := op_3 K n0_0 _ y0_0 (Nat.le_trans gg0_0 hb0) (by rw [List.length_take, List.length_drop, hl0]; rfl) h0_0
  have p0_0 := piece e0_0 rfl
  obtain ⟨n0_1, y0_1, h0_1, gg0_1⟩ := op_fieldB K (i := 1) (ft := 3) (fo := 1) (sz := 1) Tryd.underlying24 rfl (by kernel_rfl) hf0
  obtain ⟨a0_1, e0_1, w0_1⟩ := op_3 K n0_1 _ y0_1 (Nat.le_trans gg0_1 hb0) (by rw [List.length_take, List.length_drop, hl0]; rfl) h0_1
  have p0_1 := piece e0_1 rfl
  obtain ⟨n0_2, y0_2, h0_2, gg0_2⟩ := op_fieldB K (i := 2) (ft := 22) (fo := 2) (sz := 1) Tryd.underlying24 rfl (by kernel_rfl) hf0
  obtain ⟨u0_2, a0_2, e0_2, f0_2, hn0_2, g0_2⟩ := op_sliceB K (f := e_u8) (good := fun a => 0 ≤ a ∧ a ≤ 255) (Nat.le_trans gg0_2 hb0) Tryd.underlying22 (by kernel_rfl : Tryd.prog.cellsOf 5 = 1) rfl (fun n cs x hB hl h => op_5 K n cs x hB hl h) h0_2
  have p0_2 := piece e0_2 rfl
  have pe0 : c0.drop 3 = [] := List.drop_of_length_le (by omega)
  have hcs0 : c0 = [.int .i64 a0_0, .int .i64 a0_1, u0_2] := by
    rw [← List.drop_zero (l := c0)]
    rw [p0_0]
    rw [show c0.drop (0 + 1) = c0.drop 1 from rfl, p0_1]
    rw [show c0.drop (1 + 1) = c0.drop 2 from rfl, p0_2]
    rw [show c0.drop (2 + 1) = c0.drop 3 from rfl, pe0]
    rfl
  subst hcs0
  obtain ⟨n1, hf1⟩ := h1
  have hv1 : v1.cells.toList = [v1] := val_cell (by kernel_rfl) (hval 1 25 v1 rfl rfl)
  rw [hv1] at hf1
  obtain ⟨u1, a1, hu1, f1, hn1, g1⟩ := op_sliceL K0 (f := e_i64) (good := fun a => -9223372036854775808 ≤ a ∧ a ≤ 9223372036854775807) hb1 Tryd.underlying25 (by kernel_rfl : Tryd.prog.cellsOf 3 = 1) rfl (fun n cs x hb hl h => op_3 K n cs x hb hl h) hf1
  simp only [List.cons.injEq, and_true] at hu1
  subst hu1
  clear hA0 hval0
  have tb_pow10 : TabH Tryd.prog (fun b => W.heap[b]?) "internal/strconv.uint64pow10" .u64 Lib.pow10Tab := tab_at 2 (by kernel_rfl : Tryd.prog.globalNamed "internal/strconv.uint64pow10" = some 0) (by kernel_rfl) Tryd.underlying109 Tryd.underlying36 (by kernel_rfl) (by kernel_rfl) hL (by kernel_rfl) (by kernel_rfl)
  have q0 := k3 (a0 := (⟨a0_0, a0_1, a0_2⟩ : T_api_Image)) (a1 := a1) (know_all W) f0_2 f1 tb_pow10 (topTurnedS (⟨a0_0, a0_1, a0_2⟩ : T_api_Image) a1 (And.intro w0_0 (And.intro w0_1 (And.intro hn0_2 g0_2))) (And.intro hn1 g1))
  refine Calls.mono q0 fun e W' hq => ?_
  obtain ⟨v, he, hv, bel⟩ := hq
  subst he hv
  exact ⟨_, rfl, _, _, _, [], _, [], hW', trodAll_mk1 (shut_bool Tryd.underlying4 _), (trodAll_cons_mk (Below.trod laidOut (by kernel_rfl) (of_decide_eq_true (by kernel_rfl)) kt0 bel lt0) (trodAll_cons_mk (Below.trod laidOut (by kernel_rfl) (of_decide_eq_true (by kernel_rfl)) kt1 bel lt1) trodAll_mk0)), rfl, bel.frame _, fun h => by cases h⟩

theorem over : Rows.topTurnedUptoRow.holds Tryd.pinned sp :=
  OpenClaim.holds_of_cond 3 Tryd.f3 rfl rfl rfl rfl rfl rfl rfl ⟨rfl, rfl, rfl, rfl, rfl⟩ rfl rfl rfl rfl rfl (by kernel_rfl) Tryd.func3 (by kernel_rfl)
    (of_decide_eq_true (by kernel_rfl)) (by unfold Func.isWrapper; first | (rw [if_pos (by decide +kernel)]; kernel_rfl) | (rw [if_neg (by decide +kernel)]; exact ⟨rfl, rfl⟩))
    (fun os started H enc _ F0 => lifted os started H enc F0)

theorem card : Rows.TopTurnedUptoCardSaid :=
  Claim7.holds_tied_plain_at .later [] [.data, .data, .data] true (true, "1429440ab253e50e1cdb1bd8a36fc69203a16e62e6373a34f2d26dc2a1ff9398") false
    over (fun _ h => by cases h) (by kernel_rfl) (fun _ h => by cases h) topTurnedUpto_row_tie rfl ⟨rfl, rfl⟩ (by kernel_rfl) rfl
    (fun f fn hf hfn => by
      obtain rfl : f = 3 := Option.some.inj ((show Tryd.prog.funcNamed "tintype/tinttop.TopTurned" = some 3 by kernel_rfl).symm.trans hf) |>.symm
      obtain rfl : fn = Tryd.f3 := (Option.some.inj (Tryd.func3.symm.trans hfn)).symm
      exact ⟨by kernel_rfl, fun j t ht => by
        rw [Tryd.params3] at ht
        have hm : t ∈ [24, 25] := by simpa using Array.mem_of_getElem? ht
        have hall : ([24, 25].all fun u => !Tryd.prog.wantsStandIn u) = true := by kernel_rfl
        exact (show Tryd.prog.wantsStandIn t = false by simpa using List.all_eq_true.1 hall t hm)⟩)
    (by kernel_rfl)
end Go.Proofs.YtfplifpbobfemaaDoor.topTurnedDone
namespace Go.Proofs.YtfplifpbobfemaaDoor
/-- The statement. -/
theorem topTurned_holds : Rows.TopTurnedUptoCardSaid := topTurnedDone.card
#print axioms topTurned_holds
end Go.Proofs.YtfplifpbobfemaaDoor
