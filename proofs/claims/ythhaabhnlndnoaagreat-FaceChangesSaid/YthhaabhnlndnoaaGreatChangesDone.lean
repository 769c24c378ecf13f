/- For every input, FaceChanges returns true, and its arguments read behind the call as before. Conditions: none. -/
import Derived.Test.YthhaabhnlndnoaaGreatKDf
import Derived.Test.YthhaabhnlndnoaaGreatFpV
import Derived.WalkKit
import Derived.ProofKit
import Derived.OpenShut
import Derived.ChangeOld
import Derived.Below
import Derived.Lib.SmallJoins
import Derived.Test.YthhaabhnlndnoaaGreatRows
import Derived.Test.YthhaabhnlndnoaaGreatOpen
namespace Go.Proofs.YthhaabhnlndnoaaGreat.faceChangesDone
open Go Go.Vc Go.Md Go.M Go.Lx Go.ChangeShapes Go.WideShapes Go.ChangeAt Go.RowKit Go.Joins
set_option linter.unusedVariables false
set_option maxRecDepth 100000
set_option maxHeartbeats 4000000
abbrev e_face_Vec (x : (Nat → Int)) : List Value := [.int .i64 (x 0), .int .i64 (x 1), .int .i64 (x 2), .int .i64 (x 3), .int .i64 (x 4), .int .i64 (x 5), .int .i64 (x 6), .int .i64 (x 7), .int .i64 (x 8), .int .i64 (x 9), .int .i64 (x 10), .int .i64 (x 11)]
abbrev e_string (x : (List UInt8)) : List Value := [Xt x]
theorem op_3 {H : Type} {enc : TypeId × Value → H} {w : World} {base : Nat} {spare : Nat → Bool} {held : Bool} {B : Nat} (n : Nat) (cs : List Value) (x : DataW H × List MemPlace) (hB : Wt Tryz.prog B 3 x.1) (hl : cs.length = 1) (h : DataW.trod enc Tryz.prog w base spare held n 3 cs = some x) : ∃ a : Int, cs = Jl a ∧ (-9223372036854775808 ≤ a ∧ a ≤ 9223372036854775807) := by
 obtain ⟨a, h1, h2⟩ := op_int Tryz.underlying3 h
 refine ⟨a, h1, ?_⟩
 simp only [Lit.wf, IntKind.min, IntKind.max, IntKind.bits, IntKind.signed] at h2
 simp at h2
 omega
theorem op_47 {H : Type} {enc : TypeId × Value → H} {w : World} {base : Nat} {spare : Nat → Bool} {held : Bool} {B : Nat} (n : Nat) (cs : List Value) (x : DataW H × List MemPlace) (hB : Wt Tryz.prog B 47 x.1) (hl : cs.length = 12) (h : DataW.trod enc Tryz.prog w base spare held n 47 cs = some x) : ∃ a : (Nat → Int), cs = e_face_Vec a ∧ (∀ j, j < 12 → (-9223372036854775808 ≤ (a j) ∧ (a j) ≤ 9223372036854775807)) := by
 obtain ⟨g, h1, h2⟩ := op_arr (f := Jl) (good := fun a => -9223372036854775808 ≤ a ∧ a ≤ 9223372036854775807) Tryz.underlying47 (by kernel_rfl : Tryz.prog.cellsOf 3 = 1) (fun _ => rfl) (fun n cs x hl h => by
  obtain ⟨a, h1, h2⟩ := op_int Tryz.underlying3 h
  refine ⟨a, h1, ?_⟩
  simp only [Lit.wf, IntKind.min, IntKind.max, IntKind.bits, IntKind.signed] at h2
  simp at h2
  omega) (by rw [hl]) h
 exact ⟨g, h1, h2⟩
theorem op_52 {H : Type} {enc : TypeId × Value → H} {w : World} {base : Nat} {spare : Nat → Bool} {held : Bool} {B : Nat} (n : Nat) (cs : List Value) (x : DataW H × List MemPlace) (hB : Wt Tryz.prog B 52 x.1) (hl : cs.length = 14) (h : DataW.trod enc Tryz.prog w base spare held n 52 cs = some x) : ∃ a : T_face_Likeness, cs = Jq a ∧ ((-9223372036854775808 ≤ a.Id ∧ a.Id ≤ 9223372036854775807) ∧ (-9223372036854775808 ≤ a.Photo ∧ a.Photo ≤ 9223372036854775807) ∧ (∀ j, j < 12 → (-9223372036854775808 ≤ (a.Vec j) ∧ (a.Vec j) ≤ 9223372036854775807))) := by
 obtain ⟨n0, y0, h0, g0⟩ := op_fieldW hB (i := 0) (ft := 3) (fo := 0) (sz := 1) Tryz.underlying52 rfl (by kernel_rfl) h
 obtain ⟨a0, e0, w0⟩ := op_3 n0 _ y0 g0 (by rw [List.length_take, List.length_drop, hl]; rfl) h0
 have p0 := piece e0 rfl
 obtain ⟨n1, y1, h1, g1⟩ := op_fieldW hB (i := 1) (ft := 3) (fo := 1) (sz := 1) Tryz.underlying52 rfl (by kernel_rfl) h
 obtain ⟨a1, e1, w1⟩ := op_3 n1 _ y1 g1 (by rw [List.length_take, List.length_drop, hl]; rfl) h1
 have p1 := piece e1 rfl
 obtain ⟨n2, y2, h2, g2⟩ := op_fieldW hB (i := 2) (ft := 47) (fo := 2) (sz := 12) Tryz.underlying52 rfl (by kernel_rfl) h
 obtain ⟨a2, e2, w2⟩ := op_47 n2 _ y2 g2 (by rw [List.length_take, List.length_drop, hl]; rfl) h2
 have p2 := piece e2 rfl
 have pe : cs.drop 14 = [] := List.drop_of_length_le (by omega)
 refine ⟨⟨a0, a1, a2⟩, ?_, w0, w1, w2⟩
 rw [← List.drop_zero (l := cs)]
 rw [p0]
 rw [show cs.drop (0 + 1) = cs.drop 1 from rfl, p1]
 rw [show cs.drop (1 + 1) = cs.drop 2 from rfl, p2]
 rw [show cs.drop (2 + 12) = cs.drop 14 from rfl, pe]
 rfl
theorem op_9 {H : Type} {enc : TypeId × Value → H} {w : World} {base : Nat} {spare : Nat → Bool} {held : Bool} {B : Nat} (n : Nat) (cs : List Value) (x : DataW H × List MemPlace) (hB : Wt Tryz.prog B 9 x.1) (hl : cs.length = 1) (h : DataW.trod enc Tryz.prog w base spare held n 9 cs = some x) : ∃ a : (List UInt8), cs = e_string a ∧ (a.length ≤ 9223372036854775807 ∧ a.length ≤ B) := by
 obtain ⟨a, h1, h2, h3⟩ := op_stringW hB Tryz.underlying9 h
 exact ⟨a, h1, h2, h3⟩
theorem opn_32 {H : Type} {enc : TypeId × Value → H} {w : World} {base : Nat} {spare : Nat → Bool} {held : Bool} {B : Nat} (n : Nat) (cs : List Value) (x : DataW H × List MemPlace) (hB : Wt Tryz.prog B 32 x.1) (hl : cs.length = 4) (h : DataW.trod enc Tryz.prog w base spare held n 32 cs = some x) : ∃ a : T_face_Person, g_face_Person (fun b => w.heap[b]?) (fun j => cs.getD j undef) a ∧ ((-9223372036854775808 ≤ a.Id ∧ a.Id ≤ 9223372036854775807) ∧ (a.Name.length ≤ 9223372036854775807 ∧ a.Name.length ≤ B) ∧ ((a.Likes.length ≤ 9223372036854775807 ∧ a.Likes.length * 8 ≤ B) ∧ ∀ x ∈ a.Likes, (-9223372036854775808 ≤ x ∧ x ≤ 9223372036854775807)) ∧ ((a.Nots.length ≤ 9223372036854775807 ∧ a.Nots.length * 8 ≤ B) ∧ ∀ x ∈ a.Nots, (-9223372036854775808 ≤ x ∧ x ≤ 9223372036854775807))) := by
 obtain ⟨n0, y0, h0, g0⟩ := op_fieldW hB (i := 0) (ft := 3) (fo := 0) (sz := 1) Tryz.underlying32 rfl (by kernel_rfl) h
 obtain ⟨a0, e0, w0⟩ := op_3 n0 _ y0 g0 (by rw [List.length_take, List.length_drop, hl]; rfl) h0
 obtain ⟨n1, y1, h1, g1⟩ := op_fieldW hB (i := 1) (ft := 9) (fo := 1) (sz := 1) Tryz.underlying32 rfl (by kernel_rfl) h
 obtain ⟨a1, e1, w1⟩ := op_9 n1 _ y1 g1 (by rw [List.length_take, List.length_drop, hl]; rfl) h1
 obtain ⟨n2, y2, h2, g2⟩ := op_fieldW hB (i := 2) (ft := 24) (fo := 2) (sz := 1) Tryz.underlying32 rfl (by kernel_rfl) h
 obtain ⟨u2, a2, e2, f2, hn2, gg2⟩ := op_sliceW (f := Jl) (good := fun a => -9223372036854775808 ≤ a ∧ a ≤ 9223372036854775807) g2 Tryz.underlying24 (by kernel_rfl : Tryz.prog.cellsOf 3 = 1) rfl (by kernel_rfl : Tryz.prog.bytesOf 3 = 8) (fun n cs x hB hl h => op_3 n cs x hB hl h) h2
 obtain ⟨n3, y3, h3, g3⟩ := op_fieldW hB (i := 3) (ft := 24) (fo := 3) (sz := 1) Tryz.underlying32 rfl (by kernel_rfl) h
 obtain ⟨u3, a3, e3, f3, hn3, gg3⟩ := op_sliceW (f := Jl) (good := fun a => -9223372036854775808 ≤ a ∧ a ≤ 9223372036854775807) g3 Tryz.underlying24 (by kernel_rfl : Tryz.prog.cellsOf 3 = 1) rfl (by kernel_rfl : Tryz.prog.bytesOf 3 = 8) (fun n cs x hB hl h => op_3 n cs x hB hl h) h3
 exact ⟨⟨a0, a1, a2, a3⟩, ⟨piece_get e0 (q := 0) (of_decide_eq_true rfl), piece_get e1 (q := 0) (of_decide_eq_true rfl), fr_piece e2 f2, fr_piece e3 f3⟩, w0, w1, ⟨hn2, gg2⟩, ⟨hn3, gg3⟩⟩
theorem own : ownKnob Tryz.prog.godebug = none := by kernel_rfl
theorem laidOut : laidOutB Tryz.prog = true := by kernel_rfl
theorem lifted (os : Os) (started : os.Started) (H : Type) (enc : TypeId × Value → H) :
  ReturnsInHanded {} Tryz.checked os 4 .any (Rows.faceChangesSpec.pre6 enc Tryz.prog Tryz.f4 Rows.faceChangesRow.domain false) (Rows.faceChangesSpec.post enc Tryz.prog Tryz.f4 false true false false) := by
 refine returnsInHanded_of_change_sized (C := Tryz.checked) own started (by kernel_rfl) Tryz.func4
  (ChangeSpec.witness6 (enc := enc) (C := Tryz.checked) false ⟨#[], #[.slice none 0 0, .slice none 0 0, .int .i64 0, .int .i64 0, .int .i64 0, .int .i64 0, .slice none 0 0, Xt []], []⟩ 8 (by kernel_rfl) (by kernel_rfl) (by kernel_rfl) (by kernel_rfl)) ?_
 intro W base args ds gs before hval0 hW hcnd hk _
 have hval : ∀ (j : Nat) t v, Tryz.f4.params[j]? = some t → args[j]? = some v → Value.okWide Tryz.prog W .any base t v := hval0
 have hW' := hW
 obtain ⟨p, q, hA0, hV, rfl, hfz, hnd⟩ := hW
 have hA : DataW.TrodAll enc Tryz.prog W 0 (fun _ => true) true Tryz.f4.params.toList args.toList ds p := hA0
 rw [Tryz.params4] at hA hval
 obtain ⟨v0, vs0, d0, ds0, p0, q0, hargs, rfl, rfl, h0, r0⟩ := trodAll_cons hA
 obtain ⟨v1, vs1, d1, ds1, p1, q1, rfl, rfl, rfl, h1, r1⟩ := trodAll_cons r0
 obtain ⟨v2, vs2, d2, ds2, p2, q2, rfl, rfl, rfl, h2, r2⟩ := trodAll_cons r1
 obtain ⟨v3, vs3, d3, ds3, p3, q3, rfl, rfl, rfl, h3, r3⟩ := trodAll_cons r2
 obtain ⟨v4, vs4, d4, ds4, p4, q4, rfl, rfl, rfl, h4, r4⟩ := trodAll_cons r3
 obtain ⟨v5, vs5, d5, ds5, p5, q5, rfl, rfl, rfl, h5, r5⟩ := trodAll_cons r4
 obtain ⟨v6, vs6, d6, ds6, p6, q6, rfl, rfl, rfl, h6, r6⟩ := trodAll_cons r5
 obtain ⟨v7, vs7, d7, ds7, p7, q7, rfl, rfl, rfl, h7, r7⟩ := trodAll_cons r6
 obtain ⟨rfl, rfl, rfl⟩ := trodAll_nil r7
 obtain rfl : args = #[v0, v1, v2, v3, v4, v5, v6, v7] := by cases args; simp_all
 obtain ⟨rfl, rfl⟩ := trodVars_none hV
 have kt0 := h0
 have lt0 : ∀ x ∈ p0, x.block < W.heap.size := by obtain ⟨m, hm⟩ := kt0; exact DataW.trod_lt m _ _ _ hm
 have kt1 := h1
 have lt1 : ∀ x ∈ p1, x.block < W.heap.size := by obtain ⟨m, hm⟩ := kt1; exact DataW.trod_lt m _ _ _ hm
 have kt2 := h2
 have lt2 : ∀ x ∈ p2, x.block < W.heap.size := by obtain ⟨m, hm⟩ := kt2; exact DataW.trod_lt m _ _ _ hm
 have kt3 := h3
 have lt3 : ∀ x ∈ p3, x.block < W.heap.size := by obtain ⟨m, hm⟩ := kt3; exact DataW.trod_lt m _ _ _ hm
 have kt4 := h4
 have lt4 : ∀ x ∈ p4, x.block < W.heap.size := by obtain ⟨m, hm⟩ := kt4; exact DataW.trod_lt m _ _ _ hm
 have kt5 := h5
 have lt5 : ∀ x ∈ p5, x.block < W.heap.size := by obtain ⟨m, hm⟩ := kt5; exact DataW.trod_lt m _ _ _ hm
 have kt6 := h6
 have lt6 : ∀ x ∈ p6, x.block < W.heap.size := by obtain ⟨m, hm⟩ := kt6; exact DataW.trod_lt m _ _ _ hm
 have kt7 := h7
 have lt7 : ∀ x ∈ p7, x.block < W.heap.size := by obtain ⟨m, hm⟩ := kt7; exact DataW.trod_lt m _ _ _ hm
 have hb0 : Wt Tryz.prog 140737488351232 22 (d0, p0).1 := wt_arg (B := 140737488351232) hk 0 (by kernel_rfl) rfl
 have hb1 : Wt Tryz.prog 140737488351232 23 (d1, p1).1 := wt_arg (B := 140737488351232) hk 1 (by kernel_rfl) rfl
 have hb2 : Wt Tryz.prog 140737488351232 3 (d2, p2).1 := wt_arg (B := 140737488351232) hk 2 (by kernel_rfl) rfl
 have hb3 : Wt Tryz.prog 140737488351232 3 (d3, p3).1 := wt_arg (B := 140737488351232) hk 3 (by kernel_rfl) rfl
 have hb4 : Wt Tryz.prog 140737488351232 3 (d4, p4).1 := wt_arg (B := 140737488351232) hk 4 (by kernel_rfl) rfl
 have hb5 : Wt Tryz.prog 140737488351232 3 (d5, p5).1 := wt_arg (B := 140737488351232) hk 5 (by kernel_rfl) rfl
 have hb6 : Wt Tryz.prog 140737488351232 24 (d6, p6).1 := wt_arg (B := 140737488351232) hk 6 (by kernel_rfl) rfl
 have hb7 : Wt Tryz.prog 140737488351232 9 (d7, p7).1 := wt_arg (B := 140737488351232) hk 7 (by kernel_rfl) rfl
 obtain ⟨n0, hf0⟩ := h0
 have hv0 : v0.cells.toList = [v0] := val_cell (by kernel_rfl) (hval 0 22 v0 rfl rfl)
 rw [hv0] at hf0
 obtain ⟨u0, a0, hu0, f0, hn0, g0⟩ := op_sliceW (f := Jq) (good := fun a => (-9223372036854775808 ≤ a.Id ∧ a.Id ≤ 9223372036854775807) ∧ (-9223372036854775808 ≤ a.Photo ∧ a.Photo ≤ 9223372036854775807) ∧ (∀ j, j < 12 → (-9223372036854775808 ≤ (a.Vec j) ∧ (a.Vec j) ≤ 9223372036854775807))) hb0 Tryz.underlying22 (by kernel_rfl : Tryz.prog.cellsOf 52 = 14) rfl (by kernel_rfl : Tryz.prog.bytesOf 52 = 112) (fun n cs x hb hl h => op_52 n cs x hb hl h) hf0
 simp only [List.cons.injEq, and_true] at hu0
 subst hu0
 obtain ⟨n1, hf1⟩ := h1
 have hv1 : v1.cells.toList = [v1] := val_cell (by kernel_rfl) (hval 1 23 v1 rfl rfl)
 rw [hv1] at hf1
 obtain ⟨u1, a1, hu1, f1, hn1, g1⟩ := op_sliceN (G := g_face_Person) (good := fun a => (-9223372036854775808 ≤ a.Id ∧ a.Id ≤ 9223372036854775807) ∧ (a.Name.length ≤ 9223372036854775807 ∧ a.Name.length ≤ 140737488351232) ∧ ((a.Likes.length ≤ 9223372036854775807 ∧ a.Likes.length * 8 ≤ 140737488351232) ∧ ∀ x ∈ a.Likes, (-9223372036854775808 ≤ x ∧ x ≤ 9223372036854775807)) ∧ ((a.Nots.length ≤ 9223372036854775807 ∧ a.Nots.length * 8 ≤ 140737488351232) ∧ ∀ x ∈ a.Nots, (-9223372036854775808 ≤ x ∧ x ≤ 9223372036854775807))) hb1 Tryz.underlying23 (by kernel_rfl : Tryz.prog.cellsOf 32 = 4) rfl (by kernel_rfl : Tryz.prog.bytesOf 32 = 72) (fun n cs x hb hl h => opn_32 n cs x hb hl h) hf1
 simp only [List.cons.injEq, and_true] at hu1
 subst hu1
 obtain ⟨n2, hf2⟩ := h2
 have hv2 : v2.cells.toList = [v2] := val_cell (by kernel_rfl) (hval 2 3 v2 rfl rfl)
 rw [hv2] at hf2
 obtain ⟨a2, hu2, w2⟩ := op_3 _ _ _ hb2 rfl hf2
 simp only [List.cons.injEq, and_true] at hu2
 subst hu2
 obtain ⟨n3, hf3⟩ := h3
 have hv3 : v3.cells.toList = [v3] := val_cell (by kernel_rfl) (hval 3 3 v3 rfl rfl)
 rw [hv3] at hf3
 obtain ⟨a3, hu3, w3⟩ := op_3 _ _ _ hb3 rfl hf3
 simp only [List.cons.injEq, and_true] at hu3
 subst hu3
 obtain ⟨n4, hf4⟩ := h4
 have hv4 : v4.cells.toList = [v4] := val_cell (by kernel_rfl) (hval 4 3 v4 rfl rfl)
 rw [hv4] at hf4
 obtain ⟨a4, hu4, w4⟩ := op_3 _ _ _ hb4 rfl hf4
 simp only [List.cons.injEq, and_true] at hu4
 subst hu4
 obtain ⟨n5, hf5⟩ := h5
 have hv5 : v5.cells.toList = [v5] := val_cell (by kernel_rfl) (hval 5 3 v5 rfl rfl)
 rw [hv5] at hf5
 obtain ⟨a5, hu5, w5⟩ := op_3 _ _ _ hb5 rfl hf5
 simp only [List.cons.injEq, and_true] at hu5
 subst hu5
 obtain ⟨n6, hf6⟩ := h6
 have hv6 : v6.cells.toList = [v6] := val_cell (by kernel_rfl) (hval 6 24 v6 rfl rfl)
 rw [hv6] at hf6
 obtain ⟨u6, a6, hu6, f6, hn6, g6⟩ := op_sliceW (f := Jl) (good := fun a => -9223372036854775808 ≤ a ∧ a ≤ 9223372036854775807) hb6 Tryz.underlying24 (by kernel_rfl : Tryz.prog.cellsOf 3 = 1) rfl (by kernel_rfl : Tryz.prog.bytesOf 3 = 8) (fun n cs x hb hl h => op_3 n cs x hb hl h) hf6
 simp only [List.cons.injEq, and_true] at hu6
 subst hu6
 obtain ⟨n7, hf7⟩ := h7
 have hv7 : v7.cells.toList = [v7] := val_cell (by kernel_rfl) (hval 7 9 v7 rfl rfl)
 rw [hv7] at hf7
 obtain ⟨a7, hu7, w7⟩ := op_9 _ _ _ hb7 rfl hf7
 simp only [List.cons.injEq, and_true] at hu7
 subst hu7
 clear hA0 hval0
 refine Calls.mono (k4 (Jp W) f0 f1 f6 (faceChangesS a0 a1 a2 a3 a4 a5 a6 a7 (And.intro hn0 g0) (And.intro hn1 g1) w2 w3 w4 w5 (And.intro hn6 g6) w7)) fun e W' hq => ?_
 obtain ⟨v, he, hv, bel⟩ := hq
 subst he hv
 exact ⟨_, rfl, _, _, _, [], _, [], hW', trodAll_mk1 (shut_bool Tryz.underlying4 _), (trodAll_cons_mk (Below.trod laidOut (by kernel_rfl) (of_decide_eq_true (by kernel_rfl)) kt0 bel lt0) (trodAll_cons_mk (Below.trod laidOut (by kernel_rfl) (of_decide_eq_true (by kernel_rfl)) kt1 bel lt1) (trodAll_cons_mk (Below.trod laidOut (by kernel_rfl) (of_decide_eq_true (by kernel_rfl)) kt2 bel lt2) (trodAll_cons_mk (Below.trod laidOut (by kernel_rfl) (of_decide_eq_true (by kernel_rfl)) kt3 bel lt3) (trodAll_cons_mk (Below.trod laidOut (by kernel_rfl) (of_decide_eq_true (by kernel_rfl)) kt4 bel lt4) (trodAll_cons_mk (Below.trod laidOut (by kernel_rfl) (of_decide_eq_true (by kernel_rfl)) kt5 bel lt5) (trodAll_cons_mk (Below.trod laidOut (by kernel_rfl) (of_decide_eq_true (by kernel_rfl)) kt6 bel lt6) (trodAll_cons_mk (Below.trod laidOut (by kernel_rfl) (of_decide_eq_true (by kernel_rfl)) kt7 bel lt7) trodAll_mk0)))))))), rfl, bel.frame _, fun h => by cases h⟩
theorem over : Rows.faceChangesRow.holds Tryz.pinned (OpenSpec.ofChange Rows.faceChangesSpec) :=
 OpenClaim.holds_of_wide 4 Tryz.f4 rfl rfl rfl rfl rfl rfl rfl ⟨rfl, rfl, rfl, rfl, rfl⟩ rfl rfl rfl rfl rfl (by kernel_rfl) Tryz.func4 (by kernel_rfl)
  (of_decide_eq_true (by kernel_rfl)) (by unfold Func.isWrapper; first | (rw [if_pos (by decide +kernel)]; kernel_rfl) | (rw [if_neg (by decide +kernel)]; exact ⟨rfl, rfl⟩))
  (fun os started H enc _ => lifted os started H enc)
end Go.Proofs.YthhaabhnlndnoaaGreat.faceChangesDone
namespace Go.Proofs.YthhaabhnlndnoaaGreat
theorem faceChanges_holds : Rows.FaceChangesSaid := faceChangesDone.over
#print axioms faceChanges_holds
end Go.Proofs.YthhaabhnlndnoaaGreat
