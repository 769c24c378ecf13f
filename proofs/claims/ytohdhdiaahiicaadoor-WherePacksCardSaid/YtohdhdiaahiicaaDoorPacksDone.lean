/- For every input, WherePacks returns true, and its arguments read behind the call as before. Conditions: none. -/
import Derived.Test.YtohdhdiaahiicaaDoorKPk
import Derived.Test.YtohdhdiaahiicaaDoorPkX
import Derived.WalkKit
import Derived.ProofKit
import Derived.OpenShut
import Derived.ChangeOld
import Derived.Below
import Derived.Lib.SmallJoins
import Derived.Test.YtohdhdiaahiicaaDoorRows
import Derived.Test.YtohdhdiaahiicaaDoorOpenW
import Derived.LaidMore
import Derived.Lay
import Derived.LaidLaws
import Derived.LaidHandle
import Derived.SevenTiedAt
import Derived.Stop.Joined
import Derived.Test.YtohdhdiaahiicaaDoorCards
import Derived.Test.YtohdhdiaahiicaaDoorTie
namespace Go.Proofs.YtohdhdiaahiicaaDoor.wherePacksDone
open Go Go.Vc Go.Md Go.M Go.Lx Go.ChangeShapes Go.WideShapes Go.ChangeAt Go.RowKit Go.Joins
set_option linter.unusedVariables false
set_option maxRecDepth 100000
set_option maxHeartbeats 4000000


theorem op_3 {H : Type} {enc : TypeId × Value → H} {w : World} {base : Nat} {spare : Nat → Bool} {held : Bool} {B : Nat} (n : Nat) (cs : List Value) (x : DataW H × List MemPlace) (hB : Wt Tryd.prog B 3 x.1) (hl : cs.length = 1) (h : DataW.trod enc Tryd.prog w base spare held n 3 cs = some x) : ∃ a : Int, cs = e_i64 a ∧ (-9223372036854775808 ≤ a ∧ a ≤ 9223372036854775807) := by
  obtain ⟨a, h1, h2⟩ := op_int Tryd.underlying3 h
  refine ⟨a, h1, ?_⟩
  simp only [Lit.wf, IntKind.min, IntKind.max, IntKind.bits, IntKind.signed] at h2
  simp at h2
  omega

theorem op_34 {H : Type} {enc : TypeId × Value → H} {w : World} {base : Nat} {spare : Nat → Bool} {held : Bool} {B : Nat} (n : Nat) (cs : List Value) (x : DataW H × List MemPlace) (hB : Wt Tryd.prog B 34 x.1) (hl : cs.length = 2) (h : DataW.trod enc Tryd.prog w base spare held n 34 cs = some x) : ∃ a : T_api_Place, cs = e_api_Place a ∧ ((-9223372036854775808 ≤ a.Lat ∧ a.Lat ≤ 9223372036854775807) ∧ (-9223372036854775808 ≤ a.Lon ∧ a.Lon ≤ 9223372036854775807)) := by
  obtain ⟨n0, y0, h0, g0⟩ := op_fieldW hB (i := 0) (ft := 3) (fo := 0) (sz := 1) Tryd.underlying34 rfl (by kernel_rfl) h
  obtain ⟨a0, e0, w0⟩ := op_3 n0 _ y0 g0 (by rw [List.length_take, List.length_drop, hl]; rfl) h0
  have p0 := piece e0 rfl
  obtain ⟨n1, y1, h1, g1⟩ := op_fieldW hB (i := 1) (ft := 3) (fo := 1) (sz := 1) Tryd.underlying34 rfl (by kernel_rfl) h
  obtain ⟨a1, e1, w1⟩ := op_3 n1 _ y1 g1 (by rw [List.length_take, List.length_drop, hl]; rfl) h1
  have p1 := piece e1 rfl
  have pe : cs.drop 2 = [] := List.drop_of_length_le (by omega)
  refine ⟨⟨a0, a1⟩, ?_, w0, w1⟩
  rw [← List.drop_zero (l := cs)]
  rw [p0]
  rw [show cs.drop (0 + 1) = cs.drop 1 from rfl, p1]
  rw [show cs.drop (1 + 1) = cs.drop 2 from rfl, pe]
  rfl

theorem op_9 {H : Type} {enc : TypeId × Value → H} {w : World} {base : Nat} {spare : Nat → Bool} {held : Bool} {B : Nat} (n : Nat) (cs : List Value) (x : DataW H × List MemPlace) (hB : Wt Tryd.prog B 9 x.1) (hl : cs.length = 1) (h : DataW.trod enc Tryd.prog w base spare held n 9 cs = some x) : ∃ a : (List UInt8), cs = e_string a ∧ (a.length ≤ 9223372036854775807 ∧ a.length ≤ B) := by
  obtain ⟨a, h1, h2, h3⟩ := op_stringW hB Tryd.underlying9 h
  exact ⟨a, h1, h2, h3⟩

theorem own : ownKnob Tryd.prog.godebug = none := by kernel_rfl
theorem laidOut : laidOutB Tryd.prog = true := by kernel_rfl

/-! ### the row's step -/
theorem lifted (os : Os) (started : os.Started) (H : Type) (enc : TypeId × Value → H) :
    ReturnsInHanded {} Tryd.checked os 3 .any (fun w args => (Rows.wherePacksSpec.pre enc Tryd.prog Tryd.f3 [] false w args ∧ laidMetH Tryd.prog Rows.wherePacksRow.laid w) ∧ sizedMet enc Tryd.prog Tryd.f3 (OpenSpec.ofChange Rows.wherePacksSpec) false w args) (Rows.wherePacksSpec.post enc Tryd.prog Tryd.f3 false true false false) := by
  refine returnsInHanded_of_change_and (C := Tryd.checked) (X := fun w _ => laidMetH Tryd.prog Rows.wherePacksRow.laid w) (fun _ _ _ hh h => h.of_heap hh) own started (by kernel_rfl) Tryd.func3
    (ChangeSpec.witness_shaped (enc := enc) (C := Tryd.checked) (os := os) (X := fun w _ => laidMetH Tryd.prog Rows.wherePacksRow.laid w) false (World.laidAll Tryd.prog os Rows.wherePacksRow.laid) #[.slice none 0 0, str []] 8 (World.laidAll_os _ _ _) (World.shaped_of_ZipB (by kernel_rfl) (by kernel_rfl)) (by kernel_rfl) (by kernel_rfl) (by kernel_rfl) (by rw [MakeChecks.laidMetH_plain _ _ _ (by kernel_rfl)]; exact laidMet_laidAll _ (by kernel_rfl) (by kernel_rfl))) ?_
  intro W base args ds gs before hval0 hW hcnd hk hL _
  have hval : ∀ (j : Nat) t v, Tryd.f3.params[j]? = some t → args[j]? = some v → Value.okWide Tryd.prog W .any base t v := hval0
  have hW' := hW
  obtain ⟨p, q, hA0, hV, rfl, hfz, hnd⟩ := hW
  have hA : DataW.TrodAll enc Tryd.prog W 0 (fun _ => true) true Tryd.f3.params.toList args.toList ds p := hA0
  rw [Tryd.params3] at hA hval
  obtain ⟨v0, vs0, d0, ds0, p0, q0, hargs, rfl, rfl, h0, r0⟩ := trodAll_cons hA
  obtain ⟨v1, vs1, d1, ds1, p1, q1, rfl, rfl, rfl, h1, r1⟩ := trodAll_cons r0
  obtain ⟨rfl, rfl, rfl⟩ := trodAll_nil r1
  obtain rfl : args = #[v0, v1] := by cases args; simp_all
  obtain ⟨rfl, rfl⟩ := trodVars_none hV
  have kt0 := h0
  have lt0 : ∀ x ∈ p0, x.block < W.heap.size := by obtain ⟨m, hm⟩ := kt0; exact DataW.trod_lt m _ _ _ hm
  have kt1 := h1
  have lt1 : ∀ x ∈ p1, x.block < W.heap.size := by obtain ⟨m, hm⟩ := kt1; exact DataW.trod_lt m _ _ _ hm
  have hb0 : Wt Tryd.prog 140737488351232 22 (d0, p0).1 := wt_arg (B := 140737488351232) hk 0 (by kernel_rfl) rfl
  have hb1 : Wt Tryd.prog 140737488351232 9 (d1, p1).1 := wt_arg (B := 140737488351232) hk 1 (by kernel_rfl) rfl
  obtain ⟨n0, hf0⟩ := h0
  have hv0 : v0.cells.toList = [v0] := val_cell (by kernel_rfl) (hval 0 22 v0 rfl rfl)
  rw [hv0] at hf0
  obtain ⟨u0, a0, hu0, f0, hn0, g0⟩ := op_sliceW (f := e_api_Place) (good := fun a => (-9223372036854775808 ≤ a.Lat ∧ a.Lat ≤ 9223372036854775807) ∧ (-9223372036854775808 ≤ a.Lon ∧ a.Lon ≤ 9223372036854775807)) hb0 Tryd.underlying22 (by kernel_rfl : Tryd.prog.cellsOf 34 = 2) rfl (by kernel_rfl : Tryd.prog.bytesOf 34 = 16) (fun n cs x hb hl h => op_34 n cs x hb hl h) hf0
  simp only [List.cons.injEq, and_true] at hu0
  subst hu0
  obtain ⟨n1, hf1⟩ := h1
  have hv1 : v1.cells.toList = [v1] := val_cell (by kernel_rfl) (hval 1 9 v1 rfl rfl)
  rw [hv1] at hf1
  obtain ⟨a1, hu1, w1⟩ := op_9 _ _ _ hb1 rfl hf1
  simp only [List.cons.injEq, and_true] at hu1
  subst hu1
  clear hA0 hval0
  refine Calls.mono (k3 (know_all W) f0 (wherePacksS a0 a1 (And.intro hn0 g0) w1)) fun e W' hq => ?_
  obtain ⟨v, he, hv, bel⟩ := hq
  subst he hv
  exact ⟨_, rfl, _, _, _, [], _, [], hW', trodAll_mk1 (shut_bool Tryd.underlying4 _), (trodAll_cons_mk (Below.trod laidOut (by kernel_rfl) (of_decide_eq_true (by kernel_rfl)) kt0 bel lt0) (trodAll_cons_mk (Below.trod laidOut (by kernel_rfl) (of_decide_eq_true (by kernel_rfl)) kt1 bel lt1) trodAll_mk0)), rfl, bel.frame _, fun h => by cases h⟩

theorem over : Rows.wherePacksRow.holds Tryd.pinned (OpenSpec.ofChange Rows.wherePacksSpec) :=
  OpenClaim.holds_of_wide 3 Tryd.f3 rfl rfl rfl rfl rfl rfl rfl ⟨rfl, rfl, rfl, rfl, rfl⟩ rfl rfl rfl rfl rfl (by kernel_rfl) Tryd.func3 (by kernel_rfl)
    (of_decide_eq_true (by kernel_rfl)) (by unfold Func.isWrapper; first | (rw [if_pos (by decide +kernel)]; kernel_rfl) | (rw [if_neg (by decide +kernel)]; exact ⟨rfl, rfl⟩))
    (fun os started H enc _ => lifted os started H enc)

theorem card : Rows.WherePacksCardSaid :=
  Claim7.holds_tied_plain_at .later [] [.sentinel] true (true, "d6080e58f52354e2295e09bcb813aa9ccc5d8eccbff4361a6c887be9eda794e0") false
    over (fun _ h => by cases h) (by kernel_rfl) (fun _ h => by cases h) wherePacks_row_tie rfl ⟨rfl, rfl⟩ (by kernel_rfl) rfl
    (fun f fn hf hfn => by
      obtain rfl : f = 3 := Option.some.inj ((show Tryd.prog.funcNamed "tintype/tintlaw2.WherePacks" = some 3 by kernel_rfl).symm.trans hf) |>.symm
      obtain rfl : fn = Tryd.f3 := (Option.some.inj (Tryd.func3.symm.trans hfn)).symm
      exact ⟨by kernel_rfl, fun j t ht => by
        rw [Tryd.params3] at ht
        have hm : t ∈ [22, 9] := by simpa using Array.mem_of_getElem? ht
        have hall : ([22, 9].all fun u => !Tryd.prog.wantsStandIn u) = true := by kernel_rfl
        exact (show Tryd.prog.wantsStandIn t = false by simpa using List.all_eq_true.1 hall t hm)⟩)
    (by kernel_rfl)
end Go.Proofs.YtohdhdiaahiicaaDoor.wherePacksDone
namespace Go.Proofs.YtohdhdiaahiicaaDoor
/-- The statement. -/
theorem wherePacks_holds : Rows.WherePacksCardSaid := wherePacksDone.card
#print axioms wherePacks_holds
end Go.Proofs.YtohdhdiaahiicaaDoor
