/- For every input, WherePlaced returns true, and its arguments read behind the call as before. Conditions: none. -/
import Derived.Test.YtinpjnlocahjjaaKPl
import Derived.Test.YtinpjnlocahjjaaWPlc
import Derived.WalkKit
import Derived.ProofKit
import Derived.OpenShut
import Derived.ChangeOld
import Derived.Below
import Derived.Lib.SmallJoins
import Derived.Test.YtinpjnlocahjjaaRows
import Derived.Test.YtinpjnlocahjjaaOpenN
namespace Go.Proofs.Ytinpjnlocahjjaa.wherePlacedDone
open Go Go.Vc Go.Md Go.M Go.Lx Go.ChangeShapes Go.WideShapes Go.ChangeAt Go.RowKit Go.Joins
set_option linter.unusedVariables false
set_option maxRecDepth 100000
set_option maxHeartbeats 4000000

abbrev e_bool (x : Bool) : List Value := [.bool x]

theorem op_3 {H : Type} {enc : TypeId × Value → H} {w : World} {base : Nat} {spare : Nat → Bool} {held : Bool} {B : Nat} (n : Nat) (cs : List Value) (x : DataW H × List MemPlace) (hB : Wt Try.prog B 3 x.1) (hl : cs.length = 1) (h : DataW.trod enc Try.prog w base spare held n 3 cs = some x) : ∃ a : Int, cs = e_i64 a ∧ (-9223372036854775808 ≤ a ∧ a ≤ 9223372036854775807) := by
  obtain ⟨a, h1, h2⟩ := op_int Try.underlying3 h
  refine ⟨a, h1, ?_⟩
  simp only [Lit.wf, IntKind.min, IntKind.max, IntKind.bits, IntKind.signed] at h2
  simp at h2
  omega

theorem op_71 {H : Type} {enc : TypeId × Value → H} {w : World} {base : Nat} {spare : Nat → Bool} {held : Bool} {B : Nat} (n : Nat) (cs : List Value) (x : DataW H × List MemPlace) (hB : Wt Try.prog B 71 x.1) (hl : cs.length = 2) (h : DataW.trod enc Try.prog w base spare held n 71 cs = some x) : ∃ a : T_api_Place, cs = e_api_Place a ∧ ((-9223372036854775808 ≤ a.Lat ∧ a.Lat ≤ 9223372036854775807) ∧ (-9223372036854775808 ≤ a.Lon ∧ a.Lon ≤ 9223372036854775807)) := by
  obtain ⟨n0, y0, h0, g0⟩ := op_fieldW hB (i := 0) (ft := 3) (fo := 0) (sz := 1) Try.underlying71 rfl (by kernel_rfl) h
  obtain ⟨a0, e0, w0⟩ := op_3 n0 _ y0 g0 (by rw [List.length_take, List.length_drop, hl]; rfl) h0
  have p0 := piece e0 rfl
  obtain ⟨n1, y1, h1, g1⟩ := op_fieldW hB (i := 1) (ft := 3) (fo := 1) (sz := 1) Try.underlying71 rfl (by kernel_rfl) h
  obtain ⟨a1, e1, w1⟩ := op_3 n1 _ y1 g1 (by rw [List.length_take, List.length_drop, hl]; rfl) h1
  have p1 := piece e1 rfl
  have pe : cs.drop 2 = [] := List.drop_of_length_le (by omega)
  refine ⟨⟨a0, a1⟩, ?_, w0, w1⟩
  rw [← List.drop_zero (l := cs)]
  rw [p0]
  rw [show cs.drop (0 + 1) = cs.drop 1 from rfl, p1]
  rw [show cs.drop (1 + 1) = cs.drop 2 from rfl, pe]
  rfl

theorem op_108 {H : Type} {enc : TypeId × Value → H} {w : World} {base : Nat} {spare : Nat → Bool} {held : Bool} {B : Nat} (n : Nat) (cs : List Value) (x : DataW H × List MemPlace) (hB : Wt Try.prog B 108 x.1) (hl : cs.length = 3) (h : DataW.trod enc Try.prog w base spare held n 108 cs = some x) : ∃ a : T_where_Fix, cs = e_where_Fix a ∧ ((-9223372036854775808 ≤ a.Moment ∧ a.Moment ≤ 9223372036854775807) ∧ ((-9223372036854775808 ≤ a.Place.Lat ∧ a.Place.Lat ≤ 9223372036854775807) ∧ (-9223372036854775808 ≤ a.Place.Lon ∧ a.Place.Lon ≤ 9223372036854775807))) := by
  obtain ⟨n0, y0, h0, g0⟩ := op_fieldW hB (i := 0) (ft := 3) (fo := 0) (sz := 1) Try.underlying108 rfl (by kernel_rfl) h
  obtain ⟨a0, e0, w0⟩ := op_3 n0 _ y0 g0 (by rw [List.length_take, List.length_drop, hl]; rfl) h0
  have p0 := piece e0 rfl
  obtain ⟨n1, y1, h1, g1⟩ := op_fieldW hB (i := 1) (ft := 71) (fo := 1) (sz := 2) Try.underlying108 rfl (by kernel_rfl) h
  obtain ⟨a1, e1, w1⟩ := op_71 n1 _ y1 g1 (by rw [List.length_take, List.length_drop, hl]; rfl) h1
  have p1 := piece e1 rfl
  have pe : cs.drop 3 = [] := List.drop_of_length_le (by omega)
  refine ⟨⟨a0, a1⟩, ?_, w0, w1⟩
  rw [← List.drop_zero (l := cs)]
  rw [p0]
  rw [show cs.drop (0 + 1) = cs.drop 1 from rfl, p1]
  rw [show cs.drop (1 + 2) = cs.drop 3 from rfl, pe]
  rfl

theorem op_9 {H : Type} {enc : TypeId × Value → H} {w : World} {base : Nat} {spare : Nat → Bool} {held : Bool} {B : Nat} (n : Nat) (cs : List Value) (x : DataW H × List MemPlace) (hB : Wt Try.prog B 9 x.1) (hl : cs.length = 1) (h : DataW.trod enc Try.prog w base spare held n 9 cs = some x) : ∃ a : (List UInt8), cs = e_string a ∧ (a.length ≤ 9223372036854775807 ∧ a.length ≤ B) := by
  obtain ⟨a, h1, h2, h3⟩ := op_stringW hB Try.underlying9 h
  exact ⟨a, h1, h2, h3⟩

theorem op_4 {H : Type} {enc : TypeId × Value → H} {w : World} {base : Nat} {spare : Nat → Bool} {held : Bool} {B : Nat} (n : Nat) (cs : List Value) (x : DataW H × List MemPlace) (hB : Wt Try.prog B 4 x.1) (hl : cs.length = 1) (h : DataW.trod enc Try.prog w base spare held n 4 cs = some x) : ∃ a : Bool, cs = e_bool a ∧ (True) := by
  obtain ⟨a, h1⟩ := op_bool Try.underlying4 h
  exact ⟨a, h1, trivial⟩

theorem opn_69 {H : Type} {enc : TypeId × Value → H} {w : World} {base : Nat} {spare : Nat → Bool} {held : Bool} {B : Nat} (n : Nat) (cs : List Value) (x : DataW H × List MemPlace) (hB : Wt Try.prog B 69 x.1) (hl : cs.length = 13) (h : DataW.trod enc Try.prog w base spare held n 69 cs = some x) : ∃ a : T_api_Photo, g_api_Photo (fun b => w.heap[b]?) (fun j => cs.getD j undef) a ∧ ((-9223372036854775808 ≤ a.Id ∧ a.Id ≤ 9223372036854775807) ∧ (a.File.length ≤ 9223372036854775807 ∧ a.File.length ≤ B) ∧ (-9223372036854775808 ≤ a.Moment ∧ a.Moment ≤ 9223372036854775807) ∧ (-9223372036854775808 ≤ a.Zone ∧ a.Zone ≤ 9223372036854775807) ∧ ((a.Where.length ≤ 9223372036854775807 ∧ a.Where.length * 16 ≤ B) ∧ ∀ x ∈ a.Where, ((-9223372036854775808 ≤ x.Lat ∧ x.Lat ≤ 9223372036854775807) ∧ (-9223372036854775808 ≤ x.Lon ∧ x.Lon ≤ 9223372036854775807))) ∧ (-9223372036854775808 ≤ a.W ∧ a.W ≤ 9223372036854775807) ∧ (-9223372036854775808 ≤ a.H ∧ a.H ≤ 9223372036854775807) ∧ (-9223372036854775808 ≤ a.Turn ∧ a.Turn ≤ 9223372036854775807) ∧ (-9223372036854775808 ≤ a.Stars ∧ a.Stars ≤ 9223372036854775807) ∧ ((a.Tags.length ≤ 9223372036854775807 ∧ a.Tags.length * 16 ≤ B) ∧ ∀ x ∈ a.Tags, (x.length ≤ 9223372036854775807 ∧ x.length ≤ B)) ∧ (a.Caption.length ≤ 9223372036854775807 ∧ a.Caption.length ≤ B) ∧ ((a.People.length ≤ 9223372036854775807 ∧ a.People.length * 8 ≤ B) ∧ ∀ x ∈ a.People, (-9223372036854775808 ≤ x ∧ x ≤ 9223372036854775807)) ∧ (True)) := by
  obtain ⟨n0, y0, h0, g0⟩ := op_fieldW hB (i := 0) (ft := 3) (fo := 0) (sz := 1) Try.underlying69 rfl (by kernel_rfl) h
  obtain ⟨a0, e0, w0⟩ := op_3 n0 _ y0 g0 (by rw [List.length_take, List.length_drop, hl]; rfl) h0
  obtain ⟨n1, y1, h1, g1⟩ := op_fieldW hB (i := 1) (ft := 9) (fo := 1) (sz := 1) Try.underlying69 rfl (by kernel_rfl) h
  obtain ⟨a1, e1, w1⟩ := op_9 n1 _ y1 g1 (by rw [List.length_take, List.length_drop, hl]; rfl) h1
  obtain ⟨n2, y2, h2, g2⟩ := op_fieldW hB (i := 2) (ft := 3) (fo := 2) (sz := 1) Try.underlying69 rfl (by kernel_rfl) h
  obtain ⟨a2, e2, w2⟩ := op_3 n2 _ y2 g2 (by rw [List.length_take, List.length_drop, hl]; rfl) h2
  obtain ⟨n3, y3, h3, g3⟩ := op_fieldW hB (i := 3) (ft := 3) (fo := 3) (sz := 1) Try.underlying69 rfl (by kernel_rfl) h
  obtain ⟨a3, e3, w3⟩ := op_3 n3 _ y3 g3 (by rw [List.length_take, List.length_drop, hl]; rfl) h3
  obtain ⟨n4, y4, h4, g4⟩ := op_fieldW hB (i := 4) (ft := 65) (fo := 4) (sz := 1) Try.underlying69 rfl (by kernel_rfl) h
  obtain ⟨u4, a4, e4, f4, hn4, gg4⟩ := op_sliceW (f := e_api_Place) (good := fun a => (-9223372036854775808 ≤ a.Lat ∧ a.Lat ≤ 9223372036854775807) ∧ (-9223372036854775808 ≤ a.Lon ∧ a.Lon ≤ 9223372036854775807)) g4 Try.underlying65 (by kernel_rfl : Try.prog.cellsOf 71 = 2) rfl (by kernel_rfl : Try.prog.bytesOf 71 = 16) (fun n cs x hB hl h => op_71 n cs x hB hl h) h4
  obtain ⟨n5, y5, h5, g5⟩ := op_fieldW hB (i := 5) (ft := 3) (fo := 5) (sz := 1) Try.underlying69 rfl (by kernel_rfl) h
  obtain ⟨a5, e5, w5⟩ := op_3 n5 _ y5 g5 (by rw [List.length_take, List.length_drop, hl]; rfl) h5
  obtain ⟨n6, y6, h6, g6⟩ := op_fieldW hB (i := 6) (ft := 3) (fo := 6) (sz := 1) Try.underlying69 rfl (by kernel_rfl) h
  obtain ⟨a6, e6, w6⟩ := op_3 n6 _ y6 g6 (by rw [List.length_take, List.length_drop, hl]; rfl) h6
  obtain ⟨n7, y7, h7, g7⟩ := op_fieldW hB (i := 7) (ft := 3) (fo := 7) (sz := 1) Try.underlying69 rfl (by kernel_rfl) h
  obtain ⟨a7, e7, w7⟩ := op_3 n7 _ y7 g7 (by rw [List.length_take, List.length_drop, hl]; rfl) h7
  obtain ⟨n8, y8, h8, g8⟩ := op_fieldW hB (i := 8) (ft := 3) (fo := 8) (sz := 1) Try.underlying69 rfl (by kernel_rfl) h
  obtain ⟨a8, e8, w8⟩ := op_3 n8 _ y8 g8 (by rw [List.length_take, List.length_drop, hl]; rfl) h8
  obtain ⟨n9, y9, h9, g9⟩ := op_fieldW hB (i := 9) (ft := 66) (fo := 9) (sz := 1) Try.underlying69 rfl (by kernel_rfl) h
  obtain ⟨u9, a9, e9, f9, hn9, gg9⟩ := op_sliceW (f := e_string) (good := fun a => a.length ≤ 9223372036854775807 ∧ a.length ≤ B) g9 Try.underlying66 (by kernel_rfl : Try.prog.cellsOf 9 = 1) rfl (by kernel_rfl : Try.prog.bytesOf 9 = 16) (fun n cs x hB hl h => op_9 n cs x hB hl h) h9
  obtain ⟨n10, y10, h10, g10⟩ := op_fieldW hB (i := 10) (ft := 9) (fo := 10) (sz := 1) Try.underlying69 rfl (by kernel_rfl) h
  obtain ⟨a10, e10, w10⟩ := op_9 n10 _ y10 g10 (by rw [List.length_take, List.length_drop, hl]; rfl) h10
  obtain ⟨n11, y11, h11, g11⟩ := op_fieldW hB (i := 11) (ft := 67) (fo := 11) (sz := 1) Try.underlying69 rfl (by kernel_rfl) h
  obtain ⟨u11, a11, e11, f11, hn11, gg11⟩ := op_sliceW (f := e_i64) (good := fun a => -9223372036854775808 ≤ a ∧ a ≤ 9223372036854775807) g11 Try.underlying67 (by kernel_rfl : Try.prog.cellsOf 3 = 1) rfl (by kernel_rfl : Try.prog.bytesOf 3 = 8) (fun n cs x hB hl h => op_3 n cs x hB hl h) h11
  obtain ⟨n12, y12, h12, g12⟩ := op_fieldW hB (i := 12) (ft := 4) (fo := 12) (sz := 1) Try.underlying69 rfl (by kernel_rfl) h
  obtain ⟨a12, e12, w12⟩ := op_4 n12 _ y12 g12 (by rw [List.length_take, List.length_drop, hl]; rfl) h12
  exact ⟨⟨a0, a1, a2, a3, a4, a5, a6, a7, a8, a9, a10, a11, a12⟩, ⟨piece_get e0 (q := 0) (of_decide_eq_true rfl), piece_get e1 (q := 0) (of_decide_eq_true rfl), piece_get e2 (q := 0) (of_decide_eq_true rfl), piece_get e3 (q := 0) (of_decide_eq_true rfl), fr_piece e4 f4, piece_get e5 (q := 0) (of_decide_eq_true rfl), piece_get e6 (q := 0) (of_decide_eq_true rfl), piece_get e7 (q := 0) (of_decide_eq_true rfl), piece_get e8 (q := 0) (of_decide_eq_true rfl), fr_piece e9 f9, piece_get e10 (q := 0) (of_decide_eq_true rfl), fr_piece e11 f11, piece_get e12 (q := 0) (of_decide_eq_true rfl)⟩, w0, w1, w2, w3, ⟨hn4, gg4⟩, w5, w6, w7, w8, ⟨hn9, gg9⟩, w10, ⟨hn11, gg11⟩, w12⟩

theorem own : ownKnob Try.prog.godebug = none := by kernel_rfl
theorem laidOut : laidOutB Try.prog = true := by kernel_rfl

/-! ### the row's step -/
theorem lifted (os : Os) (started : os.Started) (H : Type) (enc : TypeId × Value → H) :
    ReturnsInHanded {} Try.checked os 5 .any (Rows.wherePlacedSpec.pre6 enc Try.prog Try.f5 Rows.wherePlacedRow.domain false) (Rows.wherePlacedSpec.post enc Try.prog Try.f5 false true false false) := by
  refine returnsInHanded_of_change_sized (C := Try.checked) own started (by kernel_rfl) Try.func5
    (ChangeSpec.witness6 (enc := enc) (C := Try.checked) false ⟨#[], #[.slice none 0 0, .slice none 0 0, .int .i64 0], []⟩ 8 (by kernel_rfl) (by kernel_rfl) (by kernel_rfl) (by kernel_rfl)) ?_
  intro W base args ds gs before hval0 hW hcnd hk _
  have hval : ∀ (j : Nat) t v, Try.f5.params[j]? = some t → args[j]? = some v → Value.okWide Try.prog W .any base t v := hval0
  have hW' := hW
  obtain ⟨p, q, hA0, hV, rfl, hfz, hnd⟩ := hW
  have hA : DataW.TrodAll enc Try.prog W 0 (fun _ => true) true Try.f5.params.toList args.toList ds p := hA0
  rw [Try.params5] at hA hval
  obtain ⟨v0, vs0, d0, ds0, p0, q0, hargs, rfl, rfl, h0, r0⟩ := trodAll_cons hA
  obtain ⟨v1, vs1, d1, ds1, p1, q1, rfl, rfl, rfl, h1, r1⟩ := trodAll_cons r0
  obtain ⟨v2, vs2, d2, ds2, p2, q2, rfl, rfl, rfl, h2, r2⟩ := trodAll_cons r1
  obtain ⟨rfl, rfl, rfl⟩ := trodAll_nil r2
  obtain rfl : args = #[v0, v1, v2] := by cases args; simp_all
  obtain ⟨rfl, rfl⟩ := trodVars_none hV
  have kt0 := h0
  have lt0 : ∀ x ∈ p0, x.block < W.heap.size := by obtain ⟨m, hm⟩ := kt0; exact DataW.trod_lt m _ _ _ hm
  have kt1 := h1
  have lt1 : ∀ x ∈ p1, x.block < W.heap.size := by obtain ⟨m, hm⟩ := kt1; exact DataW.trod_lt m _ _ _ hm
  have kt2 := h2
  have lt2 : ∀ x ∈ p2, x.block < W.heap.size := by obtain ⟨m, hm⟩ := kt2; exact DataW.trod_lt m _ _ _ hm
  have hb0 : Wt Try.prog 140737488351232 60 (d0, p0).1 := wt_arg (B := 140737488351232) hk 0 (by kernel_rfl) rfl
  have hb1 : Wt Try.prog 140737488351232 61 (d1, p1).1 := wt_arg (B := 140737488351232) hk 1 (by kernel_rfl) rfl
  have hb2 : Wt Try.prog 140737488351232 3 (d2, p2).1 := wt_arg (B := 140737488351232) hk 2 (by kernel_rfl) rfl
  obtain ⟨n0, hf0⟩ := h0
  have hv0 : v0.cells.toList = [v0] := val_cell (by kernel_rfl) (hval 0 60 v0 rfl rfl)
  rw [hv0] at hf0
  obtain ⟨u0, a0, hu0, f0, hn0, g0⟩ := op_sliceW (f := e_where_Fix) (good := fun a => (-9223372036854775808 ≤ a.Moment ∧ a.Moment ≤ 9223372036854775807) ∧ ((-9223372036854775808 ≤ a.Place.Lat ∧ a.Place.Lat ≤ 9223372036854775807) ∧ (-9223372036854775808 ≤ a.Place.Lon ∧ a.Place.Lon ≤ 9223372036854775807))) hb0 Try.underlying60 (by kernel_rfl : Try.prog.cellsOf 108 = 3) rfl (by kernel_rfl : Try.prog.bytesOf 108 = 24) (fun n cs x hb hl h => op_108 n cs x hb hl h) hf0
  simp only [List.cons.injEq, and_true] at hu0
  subst hu0
  obtain ⟨n1, hf1⟩ := h1
  have hv1 : v1.cells.toList = [v1] := val_cell (by kernel_rfl) (hval 1 61 v1 rfl rfl)
  rw [hv1] at hf1
  obtain ⟨u1, a1, hu1, f1, hn1, g1⟩ := op_sliceN (G := g_api_Photo) (good := fun a => (-9223372036854775808 ≤ a.Id ∧ a.Id ≤ 9223372036854775807) ∧ (a.File.length ≤ 9223372036854775807 ∧ a.File.length ≤ 140737488351232) ∧ (-9223372036854775808 ≤ a.Moment ∧ a.Moment ≤ 9223372036854775807) ∧ (-9223372036854775808 ≤ a.Zone ∧ a.Zone ≤ 9223372036854775807) ∧ ((a.Where.length ≤ 9223372036854775807 ∧ a.Where.length * 16 ≤ 140737488351232) ∧ ∀ x ∈ a.Where, ((-9223372036854775808 ≤ x.Lat ∧ x.Lat ≤ 9223372036854775807) ∧ (-9223372036854775808 ≤ x.Lon ∧ x.Lon ≤ 9223372036854775807))) ∧ (-9223372036854775808 ≤ a.W ∧ a.W ≤ 9223372036854775807) ∧ (-9223372036854775808 ≤ a.H ∧ a.H ≤ 9223372036854775807) ∧ (-9223372036854775808 ≤ a.Turn ∧ a.Turn ≤ 9223372036854775807) ∧ (-9223372036854775808 ≤ a.Stars ∧ a.Stars ≤ 9223372036854775807) ∧ ((a.Tags.length ≤ 9223372036854775807 ∧ a.Tags.length * 16 ≤ 140737488351232) ∧ ∀ x ∈ a.Tags, (x.length ≤ 9223372036854775807 ∧ x.length ≤ 140737488351232)) ∧ (a.Caption.length ≤ 9223372036854775807 ∧ a.Caption.length ≤ 140737488351232) ∧ ((a.People.length ≤ 9223372036854775807 ∧ a.People.length * 8 ≤ 140737488351232) ∧ ∀ x ∈ a.People, (-9223372036854775808 ≤ x ∧ x ≤ 9223372036854775807)) ∧ (True)) hb1 Try.underlying61 (by kernel_rfl : Try.prog.cellsOf 69 = 13) rfl (by kernel_rfl : Try.prog.bytesOf 69 = 168) (fun n cs x hb hl h => opn_69 n cs x hb hl h) hf1
  simp only [List.cons.injEq, and_true] at hu1
  subst hu1
  obtain ⟨n2, hf2⟩ := h2
  have hv2 : v2.cells.toList = [v2] := val_cell (by kernel_rfl) (hval 2 3 v2 rfl rfl)
  rw [hv2] at hf2
  obtain ⟨a2, hu2, w2⟩ := op_3 _ _ _ hb2 rfl hf2
  simp only [List.cons.injEq, and_true] at hu2
  subst hu2
  clear hA0 hval0
  refine Calls.mono (k5 (know_all W) f0 f1 (wherePlacedS a0 a1 a2 (And.intro hn0 g0) (And.intro hn1 g1) w2)) fun e W' hq => ?_
  obtain ⟨v, he, hv, bel⟩ := hq
  subst he hv
  exact ⟨_, rfl, _, _, _, [], _, [], hW', trodAll_mk1 (shut_bool Try.underlying4 _), (trodAll_cons_mk (Below.trod laidOut (by kernel_rfl) (of_decide_eq_true (by kernel_rfl)) kt0 bel lt0) (trodAll_cons_mk (Below.trod laidOut (by kernel_rfl) (of_decide_eq_true (by kernel_rfl)) kt1 bel lt1) (trodAll_cons_mk (Below.trod laidOut (by kernel_rfl) (of_decide_eq_true (by kernel_rfl)) kt2 bel lt2) trodAll_mk0))), rfl, bel.frame _, fun h => by cases h⟩

theorem over : Rows.wherePlacedRow.holds Try.pinned (OpenSpec.ofChange Rows.wherePlacedSpec) :=
  OpenClaim.holds_of_wide 5 Try.f5 rfl rfl rfl rfl rfl rfl rfl ⟨rfl, rfl, rfl, rfl, rfl⟩ rfl rfl rfl rfl rfl (by kernel_rfl) Try.func5 (by kernel_rfl)
    (of_decide_eq_true (by kernel_rfl)) (by unfold Func.isWrapper; first | (rw [if_pos (by decide +kernel)]; kernel_rfl) | (rw [if_neg (by decide +kernel)]; exact ⟨rfl, rfl⟩))
    (fun os started H enc _ => lifted os started H enc)

end Go.Proofs.Ytinpjnlocahjjaa.wherePlacedDone
namespace Go.Proofs.Ytinpjnlocahjjaa
/-- The statement. -/
theorem wherePlaced_holds : Rows.WherePlacedSaid := wherePlacedDone.over
#print axioms wherePlaced_holds
end Go.Proofs.Ytinpjnlocahjjaa
