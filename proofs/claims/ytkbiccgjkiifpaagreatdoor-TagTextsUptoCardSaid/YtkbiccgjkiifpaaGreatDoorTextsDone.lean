/- For every input whose bulk is at most 1048576, TagTexts returns true, and its arguments read behind the call as before. Conditions: the bulk, and the tables that the card lays. -/
import Derived.Test.YtkbiccgjkiifpaaGreatDoorTyB
import Derived.Test.YtkbiccgjkiifpaaGreatDoorTzC
import Derived.WalkKit
import Derived.ProofKit
import Derived.OpenShut
import Derived.ChangeOld
import Derived.Below
import Derived.Lib.SmallJoins
import Derived.Test.YtkbiccgjkiifpaaGreatDoorRows
import Derived.JoinedCond
import Derived.JoinedAt
import Derived.LaidMore
import Derived.Lay
import Derived.LaidLaws
import Derived.LaidHandle
import Derived.SevenTiedAt
import Derived.Stop.Joined
import Derived.Test.YtkbiccgjkiifpaaGreatDoorCards
import Derived.Test.YtkbiccgjkiifpaaGreatDoorTie
set_option linter.unusedVariables false
namespace Go.Proofs.YtkbiccgjkiifpaaGreatDoor.tagTextsDone
open Go Go.Vc Go.Md Go.M Go.Lx Go.ChangeShapes Go.WideShapes Go.ChangeAt Go.RowKit Go.Joins
set_option maxRecDepth 100000
set_option maxHeartbeats 4000000
theorem op_3 {H : Type} {enc : TypeId × Value → H} {w : World} {base : Nat} {spare : Nat → Bool} {held : Bool} {bk : DataW H → Nat} (K : BK bk) {B : Nat} (n : Nat) (cs : List Value) (x : DataW H × List MemPlace) (hB : bk x.1 ≤ B) (hl : cs.length = 1) (h : DataW.trod enc Tryz.prog w base spare held n 3 cs = some x) : ∃ a : Int, cs = Qz a ∧ (-9223372036854775808 ≤ a ∧ a ≤ 9223372036854775807) := by
 obtain ⟨a, h1, h2⟩ := op_int Tryz.underlying3 h
 refine ⟨a, h1, ?_⟩
 simp only [Lit.wf, IntKind.min, IntKind.max, IntKind.bits, IntKind.signed] at h2
 simp at h2
 omega
theorem op_70 {H : Type} {enc : TypeId × Value → H} {w : World} {base : Nat} {spare : Nat → Bool} {held : Bool} {bk : DataW H → Nat} (K : BK bk) {B : Nat} (n : Nat) (cs : List Value) (x : DataW H × List MemPlace) (hB : bk x.1 ≤ B) (hl : cs.length = 2) (h : DataW.trod enc Tryz.prog w base spare held n 70 cs = some x) : ∃ a : Tc, cs = Jl a ∧ ((-9223372036854775808 ≤ a.Num ∧ a.Num ≤ 9223372036854775807) ∧ (-9223372036854775808 ≤ a.Den ∧ a.Den ≤ 9223372036854775807)) := by
 obtain ⟨n0, y0, h0, g0⟩ := op_fieldB K (i := 0) (ft := 3) (fo := 0) (sz := 1) Tryz.underlying70 rfl (by kernel_rfl) h
 obtain ⟨a0, e0, w0⟩ := op_3 K n0 _ y0 (Nat.le_trans g0 hB) (by rw [List.length_take, List.length_drop, hl]; rfl) h0
 have p0 := piece e0 rfl
 obtain ⟨n1, y1, h1, g1⟩ := op_fieldB K (i := 1) (ft := 3) (fo := 1) (sz := 1) Tryz.underlying70 rfl (by kernel_rfl) h
 obtain ⟨a1, e1, w1⟩ := op_3 K n1 _ y1 (Nat.le_trans g1 hB) (by rw [List.length_take, List.length_drop, hl]; rfl) h1
 have p1 := piece e1 rfl
 have pe : cs.drop 2 = [] := List.drop_of_length_le (by omega)
 refine ⟨⟨a0, a1⟩, ?_, w0, w1⟩
 rw [← List.drop_zero (l := cs)]
 rw [p0]
 rw [show cs.drop (0 + 1) = cs.drop 1 from rfl, p1]
 rw [show cs.drop (1 + 1) = cs.drop 2 from rfl, pe]
 rfl
theorem opr_83 {H : Type} {enc : TypeId × Value → H} {w : World} {base : Nat} {spare : Nat → Bool} {held : Bool} {bk : DataW H → Nat} (K : BKS bk) : ∀ (n : Nat) (cs : List Value) (x : DataW H × List MemPlace), cs.length = 6 → DataW.trod enc Tryz.prog w base spare held n 83 cs = some x → ∃ a : Ta, g_tag_Entry (fun b => w.heap[b]?) (fun j => cs.getD j undef) a ∧ ∀ d, szE d a ≤ bk x.1 := by
 intro n
 induction n using Nat.strongRecOn with
 | ind n ih =>
 intro cs x hl h
 obtain ⟨n1, xs, hn1, hlen, hsum, hp⟩ := Jhq K Tryz.underlying83 h
 obtain ⟨x0, x1, rfl⟩ : ∃ a b, xs = [a, b] := by
  match xs, hlen with
  | [a, b], _ => exact ⟨a, b, rfl⟩
 have p0 : DataW.trod enc Tryz.prog w base spare held n1 3 ((cs.drop 0).take 1) = some x0 := hp 0 _ 1 rfl (by kernel_rfl)
 have p1 : DataW.trod enc Tryz.prog w base spare held n1 81 ((cs.drop 1).take 5) = some x1 := hp 1 _ 5 rfl (by kernel_rfl)
 obtain ⟨tag, t0, _⟩ := op_int Tryz.underlying3 p0
 generalize hcs1 : (cs.drop 1).take 5 = cs1 at p1
 obtain ⟨n2, ys, hn2, hlen2, hsum2, hp2⟩ := Jhq K Tryz.underlying81 p1
 obtain ⟨y0, y1, y2, y3, y4, rfl⟩ : ∃ a b c d e, ys = [a, b, c, d, e] := by
  match ys, hlen2 with
  | [a, b, c, d, e], _ => exact ⟨a, b, c, d, e, rfl⟩
 have q0 : DataW.trod enc Tryz.prog w base spare held n2 3 ((cs1.drop 0).take 1) = some y0 := hp2 0 _ 1 rfl (by kernel_rfl)
 have q1 : DataW.trod enc Tryz.prog w base spare held n2 9 ((cs1.drop 1).take 1) = some y1 := hp2 1 _ 1 rfl (by kernel_rfl)
 have q2 : DataW.trod enc Tryz.prog w base spare held n2 76 ((cs1.drop 2).take 1) = some y2 := hp2 2 _ 1 rfl (by kernel_rfl)
 have q3 : DataW.trod enc Tryz.prog w base spare held n2 79 ((cs1.drop 3).take 1) = some y3 := hp2 3 _ 1 rfl (by kernel_rfl)
 have q4 : DataW.trod enc Tryz.prog w base spare held n2 41 ((cs1.drop 4).take 1) = some y4 := hp2 4 _ 1 rfl (by kernel_rfl)
 obtain ⟨kind, k1, _⟩ := op_int Tryz.underlying3 q0
 obtain ⟨text, k2, _, m2⟩ := Jj5 K.toBK Tryz.underlying9 q1
 obtain ⟨v3, ints, k3, f3, ⟨_, m3⟩, _⟩ := op_sliceL K.toBKL (f := Qz) (good := fun a => True) (Nat.le_refl _) Tryz.underlying76 (by kernel_rfl : Tryz.prog.cellsOf 3 = 1) rfl (fun n cs x _ hl h => by obtain ⟨a, h1, _⟩ := op_int Tryz.underlying3 h; exact ⟨a, h1, trivial⟩) q2
 obtain ⟨v4, rats, k4, f4, ⟨_, m4⟩, _⟩ := op_sliceL K.toBKL (f := Jl) (good := fun a => True) (Nat.le_refl _) Tryz.underlying79 (by kernel_rfl : Tryz.prog.cellsOf 70 = 2) rfl (fun n cs x hb hl h => by obtain ⟨a, h1, _⟩ := op_70 K.toBK n cs x hb hl h; exact ⟨a, h1, trivial⟩) q3
 obtain ⟨v5, ents, k5, f5, _, m5⟩ := Ji2 K (δ := Nat) (m := szE) (G := g_tag_Entry) Tryz.underlying41 (by kernel_rfl : Tryz.prog.cellsOf 83 = 6) rfl (fun n' cs x hn' hl h => ih n' (by omega) cs x hl h) q4
 have hl1 : cs1.length = 5 := by rw [← hcs1, List.length_take, List.length_drop, hl]; rfl
 have at1 : ∀ r, r < 5 → cs.getD (1 + r) undef = cs1.getD r undef := fun r hr => Jc0 hcs1 (by omega)
 have c1 : cs.getD 1 undef = .int .i64 kind := (at1 0 (by omega)).trans (Jc0 k1 (q := 0) (by simp))
 have c2 : cs.getD 2 undef = str text := (at1 1 (by omega)).trans (Jc0 k2 (q := 0) (by simp))
 have c3 : cs.getD 3 undef = v3 := (at1 2 (by omega)).trans (Jc0 k3 (q := 0) (by simp))
 have c4 : cs.getD 4 undef = v4 := (at1 3 (by omega)).trans (Jc0 k4 (q := 0) (by simp))
 have c5 : cs.getD 5 undef = v5 := (at1 4 (by omega)).trans (Jc0 k5 (q := 0) (by simp))
 refine ⟨⟨tag, ⟨kind, text, ints, rats, ents⟩⟩, .mk (Jc0 t0 (q := 0) (by simp)) c1 c2 (by show FrS _ 1 (cs.getD 3 undef) _; rw [c3]; exact f3) (by show FrS _ 2 (cs.getD 4 undef) _; rw [c4]; exact f4) (by show FrS _ 6 (cs.getD 5 undef) (List.map (elC _ (cs.getD 5 undef) 6) _); rw [c5]; exact f5.frs) (by show ∀ i y, _ → g_tag_Entry _ (Qq _ (cs.getD 5 undef) 6 i) y; rw [c5]; exact f5.el), fun d => ?_⟩
 have hd : szD d ents ≤ bk y4.1 := by
  cases d with
  | zero => exact Nat.zero_le _
  | succ d => exact m5 d
 have h0 := K.one x0.1
 simp only [List.map_cons, List.map_nil, List.sum_cons, List.sum_nil] at hsum hsum2
 unfold szE
 show 1 + text.length + ints.length + rats.length + szD d ents ≤ _
 omega
theorem opr_41 {H : Type} {enc : TypeId × Value → H} {w : World} {base : Nat} {spare : Nat → Bool} {held : Bool} {bk : DataW H → Nat} (K : BKS bk) (n : Nat) (cs : List Value) (x : DataW H × List MemPlace) (h : DataW.trod enc Tryz.prog w base spare held n 41 cs = some x) : ∃ l : List Ta, gs_tag_Entry (fun b => w.heap[b]?) (fun j => cs.getD j undef) l ∧ ∀ d, szD d l ≤ bk x.1 := by
 obtain ⟨v, l, rfl, f, _, m⟩ := Ji2 K (δ := Nat) (m := szE) (G := g_tag_Entry) Tryz.underlying41 (by kernel_rfl : Tryz.prog.cellsOf 83 = 6) rfl (fun n' cs x hn' hl h => opr_83 K n' cs x hl h) h
 refine ⟨l, f, fun d => ?_⟩
 cases d with
 | zero => exact Nat.zero_le _
 | succ d => exact m d
theorem opr_24 {H : Type} {enc : TypeId × Value → H} {w : World} {base : Nat} {spare : Nat → Bool} {held : Bool} {bk : DataW H → Nat} (K : BKS bk) (n : Nat) (cs : List Value) (x : DataW H × List MemPlace) (hl : cs.length = 2) (h : DataW.trod enc Tryz.prog w base spare held n 24 cs = some x) : ∃ (a : Td) (v : Value), cs = [.bool a.Big, v] ∧ FrN (fun b => w.heap[b]?) 1 v gs_tag_Entry a.kag ∧ a.kag.length ≤ bk x.1 ∧ ∀ d, (a.kag.map (szD d)).sum ≤ bk x.1 := by
 obtain ⟨n1, xs, hn1, hlen, hsum, hp⟩ := Jhq K Tryz.underlying24 h
 obtain ⟨x0, x1, rfl⟩ : ∃ a b, xs = [a, b] := by
  match xs, hlen with
  | [a, b], _ => exact ⟨a, b, rfl⟩
 have p0 : DataW.trod enc Tryz.prog w base spare held n1 4 ((cs.drop 0).take 1) = some x0 := hp 0 _ 1 rfl (by kernel_rfl)
 have p1 : DataW.trod enc Tryz.prog w base spare held n1 22 ((cs.drop 1).take 1) = some x1 := hp 1 _ 1 rfl (by kernel_rfl)
 obtain ⟨big, t0⟩ := op_bool Tryz.underlying4 p0
 obtain ⟨v, l, t1, f, m0, m⟩ := Ji2 K (δ := Nat) (m := szD) (G := gs_tag_Entry) Tryz.underlying22 (by kernel_rfl : Tryz.prog.cellsOf 41 = 1) rfl (fun n' cs x hn' hl h => opr_41 K n' cs x h) p1
 simp only [List.map_cons, List.map_nil, List.sum_cons, List.sum_nil] at hsum
 refine ⟨⟨big, l⟩, v, ?_, f, by simp only; omega, fun d => by have := m d; simp only; omega⟩
 have e0 : cs.take 1 = [.bool big] := by simpa using t0
 have e1 : cs.drop 1 = [v] := by rw [← List.take_of_length_le (l := cs.drop 1) (i := 1) (by rw [List.length_drop, hl]; omega)]; exact t1
 rw [← List.take_append_drop 1 cs, e0, e1]; rfl
theorem op_9 {H : Type} {enc : TypeId × Value → H} {w : World} {base : Nat} {spare : Nat → Bool} {held : Bool} {bk : DataW H → Nat} (K : BK bk) {B : Nat} (n : Nat) (cs : List Value) (x : DataW H × List MemPlace) (hB : bk x.1 ≤ B) (hl : cs.length = 1) (h : DataW.trod enc Tryz.prog w base spare held n 9 cs = some x) : ∃ a : (List UInt8), cs = Jz a ∧ (a.length ≤ 9223372036854775807 ∧ a.length ≤ B) := by
 obtain ⟨a, h1, h2, h3⟩ := Jj5 K Tryz.underlying9 h
 exact ⟨a, h1, h2, Nat.le_trans h3 hB⟩
theorem own : ownKnob Tryz.prog.godebug = none := by kernel_rfl
theorem laidOut : laidOutB Tryz.prog = true := by kernel_rfl
theorem Jj9 {H : Type} (d : DataW H) : ∀ es : List (DataW H), d ∈ es → Rows.uptoBulk d ≤ Rows.uptoBulkAll es
 | [], h => by cases h
 | x :: r, h => by
  rw [Rows.uptoBulkAll]
  rcases List.mem_cons.1 h with h | h
  ·subst h; omega
  ·have := Jj9 d r h; omega
theorem bk (H : Type) : BK (Rows.uptoBulk (H := H)) :=
 ⟨fun es rs d h => by rw [Rows.uptoBulk.eq_def (.slice es rs)]; have := Jj9 d es h; simp only; omega, fun es d h => by rw [Rows.uptoBulk.eq_def (.agg es)]; have := Jj9 d es h; simp only; omega, fun bs => by rw [Rows.uptoBulk.eq_def]; simp only; omega⟩
theorem bulk_one {H : Type} (d : DataW H) : 1 ≤ Rows.uptoBulk d := by cases d <;> first | (rw [Rows.uptoBulk.eq_def]; simp only; omega) | (rename_i x; cases x <;> rw [Rows.uptoBulk.eq_def] <;> simp only <;> omega)
theorem bulk_len {H : Type} : ∀ es : List (DataW H), es.length ≤ Rows.uptoBulkAll es
 | [] => Nat.zero_le _
 | x :: r => by rw [Rows.uptoBulkAll, List.length_cons]; have := bulk_one x; have := bulk_len r; omega
theorem bkl (H : Type) : BKL (Rows.uptoBulk (H := H)) := ⟨bk H, fun es rs => by rw [Rows.uptoBulk.eq_def (.slice es rs)]; have := bulk_len es; simp only; omega⟩
theorem Jko {H : Type} : ∀ es : List (DataW H), (es.map Rows.uptoBulk).sum ≤ Rows.uptoBulkAll es
 | [] => Nat.le_refl _
 | x :: r => by rw [Rows.uptoBulkAll, List.map_cons, List.sum_cons]; have := Jko r; omega
theorem bulk_one1 {H : Type} (d : DataW H) : 1 ≤ Rows.uptoBulk d := by cases d <;> first | (rw [Rows.uptoBulk.eq_def]; simp only; omega) | (rename_i x; cases x <;> rw [Rows.uptoBulk.eq_def] <;> simp only <;> omega)
theorem bks (H : Type) : BKS (Rows.uptoBulk (H := H)) :=
 ⟨fun es rs => by rw [Rows.uptoBulk.eq_def (.slice es rs)]; have := Jko es; simp only; omega, fun es => by rw [Rows.uptoBulk.eq_def (.agg es)]; have := Jko es; simp only; omega, fun bs => by rw [Rows.uptoBulk.eq_def]; simp only; omega, bulk_one1⟩
theorem door_met (os : Os) (args : Array Value) : laidMetH Tryz.prog Rows.tagTextsUptoRow.laid ((World.laidAll Tryz.prog os Rows.tagTextsUptoRow.laid).forCall (fun _ _ => 0) ⟨#[], args, []⟩).memory := by
 rw [MakeChecks.laidMetH_plain _ _ _ (by kernel_rfl)]; exact laidMet_laidAll _ (by kernel_rfl) (by kernel_rfl)
def sp : OpenSpec := Rows.OpenSpec.upto Rows.tagTextsSpec
theorem lifted (os : Os) (started : os.Started) (H : Type) (enc : TypeId × Value → H) (F0 : Stop.Interp) :
  ReturnsInHanded {} Tryz.checked os 3 .any (fun w args => (OpenSpec.pre enc Tryz.prog Tryz.f3 sp [] false w args ∧ laidMetH Tryz.prog Rows.tagTextsUptoRow.laid w) ∧ sizedMet enc Tryz.prog Tryz.f3 sp false w args) ((sp.at F0).post enc Tryz.prog Tryz.f3 false true false false) := by
 refine Jiv (C := Tryz.checked) (s := sp) (k := Rows.uptoSmall) (X := fun w => laidMetH Tryz.prog Rows.tagTextsUptoRow.laid w) rfl (fun _ _ hh h => h.of_heap hh) own started (by kernel_rfl) Tryz.func3
  (Jhw (enc := enc) (C := Tryz.checked) (os := os) (s := sp) (k := Rows.uptoSmall) (X := fun w => laidMetH Tryz.prog Rows.tagTextsUptoRow.laid w) rfl false (World.laidAll Tryz.prog os Rows.tagTextsUptoRow.laid) #[.agg #[.bool false, z0s], str []] 8 (World.laidAll_os _ _ _) (World.shaped_of_ZipB (by kernel_rfl) (by kernel_rfl)) (by kernel_rfl)
   (x := ([.agg [.lit (.bool false), .nil], .lit (.string [])], [], [])) (by kernel_rfl) (by kernel_rfl) (of_decide_eq_true rfl |> fun h => decide_eq_true h) (by kernel_rfl) (door_met os _)) ?_
 intro W base args ds gs before hval0 hW hcnd hk hL _
 have hval : ∀ (j : Nat) t v, Tryz.f3.params[j]? = some t → args[j]? = some v → Value.okWide Tryz.prog W .any base t v := hval0
 have hW' := hW
 obtain ⟨p, q, hA0, hV, rfl, hfz, hnd⟩ := hW
 have hA : DataW.TrodAll enc Tryz.prog W 0 (fun _ => true) true Tryz.f3.params.toList args.toList ds p := hA0
 rw [Tryz.params3] at hA hval
 obtain ⟨v0, vs0, d0, ds0, p0, q0, hargs, rfl, rfl, h0, r0⟩ := trodAll_cons hA
 obtain ⟨v1, vs1, d1, ds1, p1, q1, rfl, rfl, rfl, h1, r1⟩ := trodAll_cons r0
 obtain ⟨rfl, rfl, rfl⟩ := trodAll_nil r1
 obtain rfl : args = #[v0, v1] := by cases args; simp_all
 obtain ⟨rfl, rfl⟩ := trodVars_none hV
 have kt0 := h0
 have lt0 : ∀ x ∈ p0, x.block < W.heap.size := by obtain ⟨m, hm⟩ := kt0; exact DataW.trod_lt m _ _ _ hm
 have kt1 := h1
 have lt1 : ∀ x ∈ p1, x.block < W.heap.size := by obtain ⟨m, hm⟩ := kt1; exact DataW.trod_lt m _ _ _ hm
 have hk0 := of_decide_eq_true (show decide (_ ≤ 1048576) = true from hk)
 simp only [List.append_nil, List.cons_append, List.nil_append, Rows.uptoBulkAll] at hk0
 have K0 := bkl H
 have K := K0.toBK
 have KS := bks H
 have hb0 : Rows.uptoBulk (d0, p0).1 ≤ 1048576 := by show Rows.uptoBulk d0 ≤ _; omega
 have hb1 : Rows.uptoBulk (d1, p1).1 ≤ 1048576 := by show Rows.uptoBulk d1 ≤ _; omega
 obtain ⟨n0, hf0⟩ := h0
 obtain ⟨c0, rfl, hc0, hl0⟩ := val_struct Tryz.underlying24 (hval 0 24 v0 rfl rfl)
 rw [hc0] at hf0
 rw [(by kernel_rfl : Tryz.prog.cellsOf 24 = 2)] at hl0
 obtain ⟨a0, u0, rfl, f0, m0, ms0⟩ := opr_24 KS _ _ _ hl0 hf0
 obtain ⟨n1, hf1⟩ := h1
 have hv1 : v1.cells.toList = [v1] := val_cell (by kernel_rfl) (hval 1 9 v1 rfl rfl)
 rw [hv1] at hf1
 obtain ⟨a1, hu1, w1⟩ := op_9 K _ _ _ hb1 rfl hf1
 simp only [List.cons.injEq, and_true] at hu1
 subst hu1
 clear hA0 hval0
 have tb_pow10 : TabH Tryz.prog (fun b => W.heap[b]?) "internal/strconv.uint64pow10" .u64 Lib.pow10Tab := tab_at 2 (by kernel_rfl : Tryz.prog.globalNamed "internal/strconv.uint64pow10" = some 1) (by kernel_rfl) Tryz.underlying222 Tryz.underlying170 (by kernel_rfl) (by kernel_rfl) hL (by kernel_rfl) (by kernel_rfl)
 have q0 := k3 (a0 := a0) (a1 := a1) (Ju W) f0 tb_pow10 (tagTextsS a0 a1 (fileB_of (Nat.le_trans m0 hb0) (Nat.le_trans (ms0 5) hb0)) w1)
 refine Calls.mono q0 fun e W' hq => ?_
 obtain ⟨v, he, hv, bel⟩ := hq
 subst he hv
 exact ⟨_, rfl, _, _, _, [], _, [], hW', trodAll_mk1 (shut_bool Tryz.underlying4 _), (trodAll_cons_mk (Below.trod laidOut (by kernel_rfl) (of_decide_eq_true (by kernel_rfl)) kt0 bel lt0) (trodAll_cons_mk (Below.trod laidOut (by kernel_rfl) (of_decide_eq_true (by kernel_rfl)) kt1 bel lt1) trodAll_mk0)), rfl, bel.frame _, fun h => by cases h⟩
theorem over : Rows.tagTextsUptoRow.holds Tryz.pinned sp :=
 OpenClaim.holds_of_cond 3 Tryz.f3 rfl rfl rfl rfl rfl rfl rfl ⟨rfl, rfl, rfl, rfl, rfl⟩ rfl rfl rfl rfl rfl (by kernel_rfl) Tryz.func3 (by kernel_rfl)
  (of_decide_eq_true (by kernel_rfl)) (by unfold Func.isWrapper; first | (rw [if_pos (by decide +kernel)]; kernel_rfl) | (rw [if_neg (by decide +kernel)]; exact ⟨rfl, rfl⟩))
  (fun os started H enc _ F0 => lifted os started H enc F0)
theorem card : Rows.TagTextsUptoCardSaid :=
 Claim7.holds_tied_plain_at .later [] [.data, .data, .data, .data, .sentinel, .sentinel, .pinned] true (true, "4f4693078e72ca56790f6a3b3e924644f9a2ca10ffcd899c2798ac5a7483e602") true
  over (fun _ h => by cases h) (by kernel_rfl) (fun _ h => by cases h) tagTextsUpto_row_tie rfl ⟨rfl, rfl⟩ (by kernel_rfl) rfl
  (fun f fn hf hfn => by
   obtain rfl : f = 3 := Option.some.inj ((show Tryz.prog.funcNamed "tintype/tintlaw2.TagTexts" = some 3 from (by kernel_rfl)).symm.trans hf) |>.symm
   obtain rfl : fn = Tryz.f3 := (Option.some.inj (Tryz.func3.symm.trans hfn)).symm
   exact ⟨(by kernel_rfl), fun j t ht => by
    rw [Tryz.params3] at ht
    have hm : t ∈ [24, 9] := by simpa using Array.mem_of_getElem? ht
    have hall : ([24, 9].all fun u => !Tryz.prog.wantsStandIn u) = true := (by kernel_rfl)
    exact (show Tryz.prog.wantsStandIn t = false by simpa using List.all_eq_true.1 hall t hm)⟩)
  (by kernel_rfl)
end Go.Proofs.YtkbiccgjkiifpaaGreatDoor.tagTextsDone
namespace Go.Proofs.YtkbiccgjkiifpaaGreatDoor
theorem tagTexts_holds : Rows.TagTextsUptoCardSaid := tagTextsDone.card
#print axioms tagTexts_holds
end Go.Proofs.YtkbiccgjkiifpaaGreatDoor
