/- For every input, FaceTexts returns true, and its arguments read behind the call as before. Conditions: the tables that the card lays. -/
import Derived.Test.YtlkaenijicgfcaaGreatDoorKTd
import Derived.WalkKit
import Derived.ProofKit
import Derived.OpenShut
import Derived.ChangeOld
import Derived.Below
import Derived.Lib.SmallJoins
import Derived.Test.YtlkaenijicgfcaaGreatDoorRows
import Derived.Test.YtlkaenijicgfcaaGreatDoorOpenW
import Derived.LaidMore
import Derived.Lay
import Derived.LaidLaws
import Derived.LaidHandle
import Derived.SevenTiedAt
import Derived.Stop.Joined
import Derived.Test.YtlkaenijicgfcaaGreatDoorCards
import Derived.Test.YtlkaenijicgfcaaGreatDoorTie
namespace Go.Proofs.YtlkaenijicgfcaaGreatDoor.faceTextsDone
open Go Go.Vc Go.Md Go.M Go.Lx Go.ChangeShapes Go.WideShapes Go.ChangeAt Go.RowKit Go.Joins
set_option linter.unusedVariables false
set_option maxRecDepth 100000
set_option maxHeartbeats 4000000
abbrev e_face_Vec (x : (Nat → Int)) : List Value := [.int .i64 (x 0), .int .i64 (x 1), .int .i64 (x 2), .int .i64 (x 3), .int .i64 (x 4), .int .i64 (x 5), .int .i64 (x 6), .int .i64 (x 7), .int .i64 (x 8), .int .i64 (x 9), .int .i64 (x 10), .int .i64 (x 11)]
theorem op_3 {H : Type} {enc : TypeId × Value → H} {w : World} {base : Nat} {spare : Nat → Bool} {held : Bool} {B : Nat} (n : Nat) (cs : List Value) (x : DataW H × List MemPlace) (hB : Wt Tryz.prog B 3 x.1) (hl : cs.length = 1) (h : DataW.trod enc Tryz.prog w base spare held n 3 cs = some x) : ∃ a : Int, cs = Jn a ∧ (-9223372036854775808 ≤ a ∧ a ≤ 9223372036854775807) := by
 obtain ⟨a, h1, h2⟩ := op_int Tryz.underlying3 h
 refine ⟨a, h1, ?_⟩
 simp only [Lit.wf, IntKind.min, IntKind.max, IntKind.bits, IntKind.signed] at h2
 simp at h2
 omega
theorem op_36 {H : Type} {enc : TypeId × Value → H} {w : World} {base : Nat} {spare : Nat → Bool} {held : Bool} {B : Nat} (n : Nat) (cs : List Value) (x : DataW H × List MemPlace) (hB : Wt Tryz.prog B 36 x.1) (hl : cs.length = 12) (h : DataW.trod enc Tryz.prog w base spare held n 36 cs = some x) : ∃ a : (Nat → Int), cs = e_face_Vec a ∧ (∀ j, j < 12 → (-9223372036854775808 ≤ (a j) ∧ (a j) ≤ 9223372036854775807)) := by
 obtain ⟨g, h1, h2⟩ := op_arr (f := Jn) (good := fun a => -9223372036854775808 ≤ a ∧ a ≤ 9223372036854775807) Tryz.underlying36 (by kernel_rfl : Tryz.prog.cellsOf 3 = 1) (fun _ => rfl) (fun n cs x hl h => by
  obtain ⟨a, h1, h2⟩ := op_int Tryz.underlying3 h
  refine ⟨a, h1, ?_⟩
  simp only [Lit.wf, IntKind.min, IntKind.max, IntKind.bits, IntKind.signed] at h2
  simp at h2
  omega) (by rw [hl]) h
 exact ⟨g, h1, h2⟩
theorem op_38 {H : Type} {enc : TypeId × Value → H} {w : World} {base : Nat} {spare : Nat → Bool} {held : Bool} {B : Nat} (n : Nat) (cs : List Value) (x : DataW H × List MemPlace) (hB : Wt Tryz.prog B 38 x.1) (hl : cs.length = 14) (h : DataW.trod enc Tryz.prog w base spare held n 38 cs = some x) : ∃ a : Ta, cs = Jg a ∧ ((-9223372036854775808 ≤ a.Id ∧ a.Id ≤ 9223372036854775807) ∧ (-9223372036854775808 ≤ a.Photo ∧ a.Photo ≤ 9223372036854775807) ∧ (∀ j, j < 12 → (-9223372036854775808 ≤ (a.Vec j) ∧ (a.Vec j) ≤ 9223372036854775807))) := by
 obtain ⟨n0, y0, h0, g0⟩ := Jbc hB (i := 0) (ft := 3) (fo := 0) (sz := 1) Tryz.underlying38 rfl (by kernel_rfl) h
 obtain ⟨a0, e0, w0⟩ := op_3 n0 _ y0 g0 (by rw [List.length_take, List.length_drop, hl]; rfl) h0
 have p0 := piece e0 rfl
 obtain ⟨n1, y1, h1, g1⟩ := Jbc hB (i := 1) (ft := 3) (fo := 1) (sz := 1) Tryz.underlying38 rfl (by kernel_rfl) h
 obtain ⟨a1, e1, w1⟩ := op_3 n1 _ y1 g1 (by rw [List.length_take, List.length_drop, hl]; rfl) h1
 have p1 := piece e1 rfl
 obtain ⟨n2, y2, h2, g2⟩ := Jbc hB (i := 2) (ft := 36) (fo := 2) (sz := 12) Tryz.underlying38 rfl (by kernel_rfl) h
 obtain ⟨a2, e2, w2⟩ := op_36 n2 _ y2 g2 (by rw [List.length_take, List.length_drop, hl]; rfl) h2
 have p2 := piece e2 rfl
 have pe : cs.drop 14 = [] := List.drop_of_length_le (by omega)
 refine ⟨⟨a0, a1, a2⟩, ?_, w0, w1, w2⟩
 rw [← List.drop_zero (l := cs)]
 rw [p0]
 rw [show cs.drop (0 + 1) = cs.drop 1 from rfl, p1]
 rw [show cs.drop (1 + 1) = cs.drop 2 from rfl, p2]
 rw [show cs.drop (2 + 12) = cs.drop 14 from rfl, pe]
 rfl
theorem op_9 {H : Type} {enc : TypeId × Value → H} {w : World} {base : Nat} {spare : Nat → Bool} {held : Bool} {B : Nat} (n : Nat) (cs : List Value) (x : DataW H × List MemPlace) (hB : Wt Tryz.prog B 9 x.1) (hl : cs.length = 1) (h : DataW.trod enc Tryz.prog w base spare held n 9 cs = some x) : ∃ a : (List UInt8), cs = Jv a ∧ (a.length ≤ 9223372036854775807 ∧ a.length ≤ B) := by
 obtain ⟨a, h1, h2, h3⟩ := op_stringW hB Tryz.underlying9 h
 exact ⟨a, h1, h2, h3⟩
theorem opn_77 {H : Type} {enc : TypeId × Value → H} {w : World} {base : Nat} {spare : Nat → Bool} {held : Bool} {B : Nat} (n : Nat) (cs : List Value) (x : DataW H × List MemPlace) (hB : Wt Tryz.prog B 77 x.1) (hl : cs.length = 4) (h : DataW.trod enc Tryz.prog w base spare held n 77 cs = some x) : ∃ a : Tb, g_face_Person (fun b => w.heap[b]?) (fun j => cs.getD j undef) a ∧ ((-9223372036854775808 ≤ a.Id ∧ a.Id ≤ 9223372036854775807) ∧ (a.Name.length ≤ 9223372036854775807 ∧ a.Name.length ≤ B) ∧ ((a.Likes.length ≤ 9223372036854775807 ∧ a.Likes.length * 8 ≤ B) ∧ ∀ x ∈ a.Likes, (-9223372036854775808 ≤ x ∧ x ≤ 9223372036854775807)) ∧ ((a.Nots.length ≤ 9223372036854775807 ∧ a.Nots.length * 8 ≤ B) ∧ ∀ x ∈ a.Nots, (-9223372036854775808 ≤ x ∧ x ≤ 9223372036854775807))) := by
 obtain ⟨n0, y0, h0, g0⟩ := Jbc hB (i := 0) (ft := 3) (fo := 0) (sz := 1) Tryz.underlying77 rfl (by kernel_rfl) h
 obtain ⟨a0, e0, w0⟩ := op_3 n0 _ y0 g0 (by rw [List.length_take, List.length_drop, hl]; rfl) h0
 obtain ⟨n1, y1, h1, g1⟩ := Jbc hB (i := 1) (ft := 9) (fo := 1) (sz := 1) Tryz.underlying77 rfl (by kernel_rfl) h
 obtain ⟨a1, e1, w1⟩ := op_9 n1 _ y1 g1 (by rw [List.length_take, List.length_drop, hl]; rfl) h1
 obtain ⟨n2, y2, h2, g2⟩ := Jbc hB (i := 2) (ft := 75) (fo := 2) (sz := 1) Tryz.underlying77 rfl (by kernel_rfl) h
 obtain ⟨u2, a2, e2, f2, hn2, gg2⟩ := Jed (f := Jn) (good := fun a => -9223372036854775808 ≤ a ∧ a ≤ 9223372036854775807) g2 Tryz.underlying75 (by kernel_rfl : Tryz.prog.cellsOf 3 = 1) rfl (by kernel_rfl : Tryz.prog.bytesOf 3 = 8) (fun n cs x hB hl h => op_3 n cs x hB hl h) h2
 obtain ⟨n3, y3, h3, g3⟩ := Jbc hB (i := 3) (ft := 75) (fo := 3) (sz := 1) Tryz.underlying77 rfl (by kernel_rfl) h
 obtain ⟨u3, a3, e3, f3, hn3, gg3⟩ := Jed (f := Jn) (good := fun a => -9223372036854775808 ≤ a ∧ a ≤ 9223372036854775807) g3 Tryz.underlying75 (by kernel_rfl : Tryz.prog.cellsOf 3 = 1) rfl (by kernel_rfl : Tryz.prog.bytesOf 3 = 8) (fun n cs x hB hl h => op_3 n cs x hB hl h) h3
 exact ⟨⟨a0, a1, a2, a3⟩, ⟨Jfn e0 (q := 0) (of_decide_eq_true rfl), Jfn e1 (q := 0) (of_decide_eq_true rfl), fr_piece e2 f2, fr_piece e3 f3⟩, w0, w1, ⟨hn2, gg2⟩, ⟨hn3, gg3⟩⟩
theorem own : ownKnob Tryz.prog.godebug = none := by kernel_rfl
theorem Jgd : laidOutB Tryz.prog = true := by kernel_rfl
theorem lifted (os : Os) (started : os.Started) (H : Type) (enc : TypeId × Value → H) :
  ReturnsInHanded {} Tryz.checked os 3 .any (fun w args => (Rows.faceTextsSpec.pre enc Tryz.prog Tryz.f3 [] false w args ∧ laidMetH Tryz.prog Rows.faceTextsRow.laid w) ∧ sizedMet enc Tryz.prog Tryz.f3 (OpenSpec.ofChange Rows.faceTextsSpec) false w args) (Rows.faceTextsSpec.post enc Tryz.prog Tryz.f3 false true false false) := by
 refine returnsInHanded_of_change_and (C := Tryz.checked) (X := fun w _ => laidMetH Tryz.prog Rows.faceTextsRow.laid w) (fun _ _ _ hh h => h.of_heap hh) own started (by kernel_rfl) Tryz.func3
  (ChangeSpec.witness_shaped (enc := enc) (C := Tryz.checked) (os := os) (X := fun w _ => laidMetH Tryz.prog Rows.faceTextsRow.laid w) false (World.laidAll Tryz.prog os Rows.faceTextsRow.laid) #[.slice none 0 0, .slice none 0 0, Jk []] 8 (World.laidAll_os _ _ _) (World.shaped_of_ZipB (by kernel_rfl) (by kernel_rfl)) (by kernel_rfl) (by kernel_rfl) (by kernel_rfl) (by rw [MakeChecks.laidMetH_plain _ _ _ (by kernel_rfl)]; exact laidMet_laidAll _ (by kernel_rfl) (by kernel_rfl))) ?_
 intro W base args ds gs before hval0 hW hcnd hk hL _
 have hval : ∀ (j : Nat) t v, Tryz.f3.params[j]? = some t → args[j]? = some v → Value.okWide Tryz.prog W .any base t v := hval0
 have hW' := hW
 obtain ⟨p, q, hA0, hV, rfl, hfz, hnd⟩ := hW
 have hA : DataW.TrodAll enc Tryz.prog W 0 (fun _ => true) true Tryz.f3.params.toList args.toList ds p := hA0
 rw [Tryz.params3] at hA hval
 obtain ⟨v0, vs0, d0, ds0, p0, q0, hargs, rfl, rfl, h0, r0⟩ := trodAll_cons hA
 obtain ⟨v1, vs1, d1, ds1, p1, q1, rfl, rfl, rfl, h1, r1⟩ := trodAll_cons r0
 obtain ⟨v2, vs2, d2, ds2, p2, q2, rfl, rfl, rfl, h2, r2⟩ := trodAll_cons r1
 obtain ⟨rfl, rfl, rfl⟩ := trodAll_nil r2
 obtain rfl : args = #[v0, v1, v2] := by cases args; simp_all
 obtain ⟨rfl, rfl⟩ := trodVars_none hV
 have kt0 := h0
 have lt0 : ∀ x ∈ p0, x.block < W.heap.size := by obtain ⟨m, hm⟩ := kt0; exact DataW.trod_lt m _ _ _ hm
 have kt1 := h1
 have lt1 : ∀ x ∈ p1, x.block < W.heap.size := by obtain ⟨m, hm⟩ := kt1; exact DataW.trod_lt m _ _ _ hm
 have kt2 := h2
 have lt2 : ∀ x ∈ p2, x.block < W.heap.size := by obtain ⟨m, hm⟩ := kt2; exact DataW.trod_lt m _ _ _ hm
 have hb0 : Wt Tryz.prog 140737488351232 22 (d0, p0).1 := wt_arg (B := 140737488351232) hk 0 (by kernel_rfl) rfl
 have hb1 : Wt Tryz.prog 140737488351232 23 (d1, p1).1 := wt_arg (B := 140737488351232) hk 1 (by kernel_rfl) rfl
 have hb2 : Wt Tryz.prog 140737488351232 9 (d2, p2).1 := wt_arg (B := 140737488351232) hk 2 (by kernel_rfl) rfl
 obtain ⟨n0, hf0⟩ := h0
 have hv0 : v0.cells.toList = [v0] := Jgf (by kernel_rfl) (hval 0 22 v0 rfl rfl)
 rw [hv0] at hf0
 obtain ⟨u0, a0, hu0, f0, hn0, g0⟩ := Jed (f := Jg) (good := fun a => (-9223372036854775808 ≤ a.Id ∧ a.Id ≤ 9223372036854775807) ∧ (-9223372036854775808 ≤ a.Photo ∧ a.Photo ≤ 9223372036854775807) ∧ (∀ j, j < 12 → (-9223372036854775808 ≤ (a.Vec j) ∧ (a.Vec j) ≤ 9223372036854775807))) hb0 Tryz.underlying22 (by kernel_rfl : Tryz.prog.cellsOf 38 = 14) rfl (by kernel_rfl : Tryz.prog.bytesOf 38 = 112) (fun n cs x hb hl h => op_38 n cs x hb hl h) hf0
 simp only [List.cons.injEq, and_true] at hu0
 subst hu0
 obtain ⟨n1, hf1⟩ := h1
 have hv1 : v1.cells.toList = [v1] := Jgf (by kernel_rfl) (hval 1 23 v1 rfl rfl)
 rw [hv1] at hf1
 obtain ⟨u1, a1, hu1, f1, hn1, g1⟩ := op_sliceN (G := g_face_Person) (good := fun a => (-9223372036854775808 ≤ a.Id ∧ a.Id ≤ 9223372036854775807) ∧ (a.Name.length ≤ 9223372036854775807 ∧ a.Name.length ≤ 140737488351232) ∧ ((a.Likes.length ≤ 9223372036854775807 ∧ a.Likes.length * 8 ≤ 140737488351232) ∧ ∀ x ∈ a.Likes, (-9223372036854775808 ≤ x ∧ x ≤ 9223372036854775807)) ∧ ((a.Nots.length ≤ 9223372036854775807 ∧ a.Nots.length * 8 ≤ 140737488351232) ∧ ∀ x ∈ a.Nots, (-9223372036854775808 ≤ x ∧ x ≤ 9223372036854775807))) hb1 Tryz.underlying23 (by kernel_rfl : Tryz.prog.cellsOf 77 = 4) rfl (by kernel_rfl : Tryz.prog.bytesOf 77 = 72) (fun n cs x hb hl h => opn_77 n cs x hb hl h) hf1
 simp only [List.cons.injEq, and_true] at hu1
 subst hu1
 obtain ⟨n2, hf2⟩ := h2
 have hv2 : v2.cells.toList = [v2] := Jgf (by kernel_rfl) (hval 2 9 v2 rfl rfl)
 rw [hv2] at hf2
 obtain ⟨a2, hu2, w2⟩ := op_9 _ _ _ hb2 rfl hf2
 simp only [List.cons.injEq, and_true] at hu2
 subst hu2
 clear hA0 hval0
 have tb_pow10 : TabH Tryz.prog (fun b => W.heap[b]?) "internal/strconv.uint64pow10" .u64 Lib.pow10Tab := tab_at 2 (by kernel_rfl : Tryz.prog.globalNamed "internal/strconv.uint64pow10" = some 1) (by kernel_rfl) Tryz.underlying309 Tryz.underlying261 (by kernel_rfl) (by kernel_rfl) hL (by kernel_rfl) (by kernel_rfl)
 refine Calls.mono (k3 (Jr W) f0 f1 tb_pow10 (faceTextsS a0 a1 a2 (And.intro hn0 g0) (And.intro hn1 g1) w2)) fun e W' hq => ?_
 obtain ⟨v, he, hv, bel⟩ := hq
 subst he hv
 exact ⟨_, rfl, _, _, _, [], _, [], hW', trodAll_mk1 (shut_bool Tryz.underlying4 _), (trodAll_cons_mk (Below.trod Jgd (by kernel_rfl) (of_decide_eq_true (by kernel_rfl)) kt0 bel lt0) (trodAll_cons_mk (Below.trod Jgd (by kernel_rfl) (of_decide_eq_true (by kernel_rfl)) kt1 bel lt1) (trodAll_cons_mk (Below.trod Jgd (by kernel_rfl) (of_decide_eq_true (by kernel_rfl)) kt2 bel lt2) trodAll_mk0))), rfl, bel.frame _, fun h => by cases h⟩
theorem j_fn : Tryz.prog.funcNamed Rows.faceTextsRow.func = some 3 := by kernel_rfl
theorem j_maps : mapsRowed Tryz.prog = true := by kernel_rfl
theorem j_inp : (Rows.faceTextsRow.inPlace == Tryz.prog.inPlace 3) = true := by kernel_rfl
theorem j_unf : (Rows.faceTextsRow.unfollowed == Tryz.prog.unfollowed 3) = true := by kernel_rfl
theorem j_rec : (Rows.faceTextsRow.recurses == Tryz.prog.recurses 3) = true := by kernel_rfl
theorem j_nam : (Rows.faceTextsRow.named == Tryz.prog.varsNamed 3) = true := by kernel_rfl
theorem j_hea : Tryz.prog.stopsHeard = true := by kernel_rfl
theorem j_may : Tryz.prog.mayEnter = true := by kernel_rfl
theorem j_mak : (Tryz.prog.make == some Rows.faceTextsRow.make) = true := by kernel_rfl
theorem j_lif : (Rows.faceTextsRow.lifted == Tryz.prog.liftsFinal) = true := by kernel_rfl
theorem j_pla : (Rows.faceTextsRow.plainKeys == Tryz.prog.plainKeys) = true := by kernel_rfl
theorem j_wf : Rows.faceTextsRow.wf (OpenSpec.ofChange Rows.faceTextsSpec) = true := by kernel_rfl
theorem Jah {a b : Bool} (ha : a = true) (hb : b = true) : (a && b) = true := by rw [ha, hb]; rfl
theorem closed : joinedFacts Tryz.prog 3 Tryz.f3 Rows.faceTextsSpec Rows.faceTextsRow = true := by
 unfold joinedFacts
 refine Jah ?_ (by kernel_rfl)
 refine Jah ?_ (by kernel_rfl)
 refine Jah ?_ (by kernel_rfl)
 refine Jah ?_ (by kernel_rfl)
 refine Jah ?_ j_mak
 refine Jah ?_ j_lif
 refine Jah ?_ j_may
 refine Jah ?_ j_hea
 refine Jah ?_ (by kernel_rfl)
 refine Jah ?_ j_pla
 refine Jah ?_ (by kernel_rfl)
 refine Jah ?_ (by kernel_rfl)
 refine Jah ?_ (by kernel_rfl)
 refine Jah ?_ (by kernel_rfl)
 refine Jah ?_ (by kernel_rfl)
 refine Jah ?_ (by kernel_rfl)
 refine Jah ?_ (by kernel_rfl)
 refine Jah ?_ (by kernel_rfl)
 refine Jah ?_ (by kernel_rfl)
 refine Jah ?_ j_nam
 refine Jah ?_ j_rec
 refine Jah ?_ j_unf
 refine Jah ?_ j_inp
 refine Jah ?_ (by kernel_rfl)
 refine Jah ?_ (by kernel_rfl)
 refine Jah ?_ (by kernel_rfl)
 refine Jah ?_ (by kernel_rfl)
 refine Jah ?_ (by kernel_rfl)
 refine Jah ?_ (by kernel_rfl)
 refine Jah ?_ j_maps
 refine Jah ?_ Jgd
 exact j_wf
theorem over : Rows.faceTextsRow.holds Tryz.pinned (OpenSpec.ofChange Rows.faceTextsSpec) :=
 OpenClaim.holds_of_wide 3 Tryz.f3 rfl rfl rfl rfl rfl rfl rfl ⟨rfl, rfl, rfl, rfl, rfl⟩ rfl rfl rfl rfl rfl j_fn Tryz.func3 closed
  (of_decide_eq_true (by kernel_rfl)) (by unfold Func.isWrapper; first | (rw [if_pos (by decide +kernel)]; kernel_rfl) | (rw [if_neg (by decide +kernel)]; exact ⟨rfl, rfl⟩))
  (fun os started H enc _ => lifted os started H enc)
theorem c_w : Rows.faceTextsRow.wfByText (OpenSpec.ofChange Rows.faceTextsSpec) = true := by kernel_rfl
theorem c_m : Tryz.prog.mainIs = some ((true, "09379713c9b90c013fbb71ffc8b6ce92ebeecd9ccf12b5c8d17b9502fb13e53a").1, (true, "09379713c9b90c013fbb71ffc8b6ce92ebeecd9ccf12b5c8d17b9502fb13e53a").2.toList) := by kernel_rfl
theorem c_l : true = Tryz.prog.looks [] := by kernel_rfl
theorem c_n : Tryz.prog.funcNamed "tintype/tintlaw2.FaceTexts" = some 3 := by kernel_rfl
theorem c_s : ([22, 23, 9].all fun u => !Tryz.prog.wantsStandIn u) = true := by kernel_rfl
theorem c_g : false = Rows.faceTextsRow.goesBy Tryz.prog := by kernel_rfl
theorem card : Rows.FaceTextsCardSaid :=
 Claim7.holds_tied_plain_at .later [] [.data, .data, .data, .data, .sentinel, .sentinel, .pinned] true (true, "09379713c9b90c013fbb71ffc8b6ce92ebeecd9ccf12b5c8d17b9502fb13e53a") true
  over (fun _ h => by cases h) c_w (fun _ h => by cases h) faceTexts_row_tie rfl ⟨rfl, rfl⟩ c_m rfl
  (fun f fn hf hfn => by
   obtain rfl : f = 3 := Option.some.inj ((show Tryz.prog.funcNamed "tintype/tintlaw2.FaceTexts" = some 3 from c_n).symm.trans hf) |>.symm
   obtain rfl : fn = Tryz.f3 := (Option.some.inj (Tryz.func3.symm.trans hfn)).symm
   exact ⟨c_l, fun j t ht => by
    rw [Tryz.params3] at ht
    have hm : t ∈ [22, 23, 9] := by simpa using Array.mem_of_getElem? ht
    have hall : ([22, 23, 9].all fun u => !Tryz.prog.wantsStandIn u) = true := c_s
    exact (show Tryz.prog.wantsStandIn t = false by simpa using List.all_eq_true.1 hall t hm)⟩)
  c_g
end Go.Proofs.YtlkaenijicgfcaaGreatDoor.faceTextsDone
namespace Go.Proofs.YtlkaenijicgfcaaGreatDoor
theorem faceTexts_holds : Rows.FaceTextsCardSaid := faceTextsDone.card
#print axioms faceTexts_holds
end Go.Proofs.YtlkaenijicgfcaaGreatDoor
