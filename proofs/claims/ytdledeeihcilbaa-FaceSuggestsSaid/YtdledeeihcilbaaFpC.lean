/- The closure that compares two matches, walked with the kit's own tactics: what it returns, and that it only draws and lays blocks. Conditions: none. -/
import Derived.Test.YtdledeeihcilbaaProg
import Derived.Tactics
import Derived.Tactics2
import Derived.StillTactics
import Derived.LoopTactic
import Derived.Laws.Pointers
import Derived.WalkKit
import Derived.StillTailTactics
import Derived.Deep.RegionHeld3
import Derived.Shelf.SlSortCmp.WholeK
import Derived.Shelf.SlGeneric
import Derived.Shelf.SlicesG.Cmp
import Derived.Shelf.Small.Bits
import Derived.Ground.SlsfProg
import Derived.Ground.SlgcProg
import Derived.Test.YtdledeeihcilbaaMFs
namespace Go.Proofs
open Go
theorem Try.cmpOr (blk : Nat) (a b r : Int) (hr1 : a ≠ 0 → r = a) (hr2 : a = 0 → r = b) (w : World) (h0 : w.cell? ⟨blk, 0, none⟩ = some (.int .i64 a)) (h1 : w.cell? ⟨blk, 1, none⟩ = some (.int .i64 b)) :
    Calls Try.prog 38 #[.slice (some ⟨blk, 0, none⟩) 2 2] w fun e w' => e = .returned (.int .i64 r) ∧ w' = w := by
  go_enter Try.func38, Try.ntmps38
  go_wp2
  go_loop [8] (fun i => (i = .int .i64 0) ∨ (i = .int .i64 1 ∧ a = 0) ∨ (i = .int .i64 2 ∧ a = 0 ∧ b = 0)) (fun i => match i with | .int _ n => 2 - n.toNat | _ => 0)
  case atStart => exact .inl rfl
  case round =>
    rcases hrel with rfl | ⟨rfl, ha⟩ | ⟨rfl, ha, hb⟩
    · go_wp2
      all_goals first
        | (go_ret; exact ⟨by first | rfl | (rw [hr1 (by simp_all)]; rfl), rfl⟩)
        | (simp; rename_i hz; simpa using hz)
    · go_wp2
      all_goals first
        | (go_ret; exact ⟨by first | rfl | (rw [hr2 ha]; rfl), rfl⟩)
        | (simp; rename_i hz; exact ⟨ha, by simpa using hz⟩)
    · go_wp2
      go_ret
      exact ⟨by first | rfl | (rw [hr2 ha, hb]; rfl) | simp_all, rfl⟩

open Go.Sort
set_option maxRecDepth 100000 in
set_option maxHeartbeats 2000000 in
theorem Try.closure53 (a b c d r : Int) (W : World) (hcmp : ∀ (x y : Int) (W' : World), Calls Try.prog 39 #[.int .i64 x, .int .i64 y] W' fun e w' => e = .returned (.int .i64 (Lib.compareInt x y)) ∧ w' = W')
    (hr1 : Lib.compareInt b d ≠ 0 → r = Lib.compareInt b d) (hr2 : Lib.compareInt b d = 0 → r = Lib.compareInt a c) :
    Calls Try.prog 37 #[.agg #[.int .i64 a, .int .i64 b], .agg #[.int .i64 c, .int .i64 d]] W fun e w' => e = .returned (.int .i64 r) ∧ ∃ q os', w' = Go.Sort.grow (W.drewN q) os' := by
  have h1 := fun W' => hcmp b d W'
  have h2 := fun W' => hcmp a c W'
  have hor := fun (blk : Nat) (w : World) h0 h1 => Try.cmpOr blk (Lib.compareInt b d) (Lib.compareInt a c) r hr1 hr2 w h0 h1
  clear hr1 hr2 hcmp
  generalize Lib.compareInt b d = p at *
  generalize Lib.compareInt a c = s at *
  go_enter Try.func37, Try.ntmps37
  go_wp2
  refine wp_region_still_tail 10 (by kernel_rfl) (by kernel_rfl) ?_
  simp only [List.take_succ_cons, List.take_zero, List.drop_succ_cons, List.drop_zero]
  generalize hw1 : ({ heap := _, tape := _, drawn := _, os := _, output := _ } : World) = w1
  have eh : w1.heap = (W.heap.push (.cells #[.int .i64 a, .int .i64 b] 30 (0, 0))).push (.cells #[.int .i64 c, .int .i64 d] 30 (0, 0)) := by subst hw1; rfl
  have c0 : w1.cell? ⟨W.heap.size, 0, none⟩ = some (.int .i64 a) := by simp [World.cell?, eh, Array.getElem?_push, Array.getElem_push]
  have c1 : w1.cell? ⟨W.heap.size, 1, none⟩ = some (.int .i64 b) := by simp [World.cell?, eh, Array.getElem?_push, Array.getElem_push]
  have c2 : w1.cell? ⟨W.heap.size + 1, 0, none⟩ = some (.int .i64 c) := by simp [World.cell?, eh, Array.getElem?_push, Array.getElem_push]
  have c3 : w1.cell? ⟨W.heap.size + 1, 1, none⟩ = some (.int .i64 d) := by simp [World.cell?, eh, Array.getElem?_push, Array.getElem_push]
  have hg : ∃ q os', w1 = Go.Sort.grow (W.drewN q) os' := ⟨1, #[.cells #[.int .i64 a, .int .i64 b] 30 (0, 0), .cells #[.int .i64 c, .int .i64 d] 30 (0, 0)], by
    subst hw1
    unfold Go.Sort.grow World.drewN
    congr 1⟩
  clear eh
  clear hw1
  repeat still_step
  still_call (h1 w1)
  repeat still_step
  still_call (h2 w1)
  repeat still_step
  refine wpStill_nil ?_
  clear c0 c1 c2 c3 h1 h2
  have e0 : (w1.alloc (.cells #[.int .i64 p, .int .i64 s] 3)).cell? ⟨w1.heap.size, 0, none⟩ = some (.int .i64 p) := by
    show (match (w1.heap.push (.cells #[.int .i64 p, .int .i64 s] 3 (0, 0)))[w1.heap.size]? with | some (.cells c _ _) => c[0]? | _ => none) = _
    simp
  have e1 : (w1.alloc (.cells #[.int .i64 p, .int .i64 s] 3)).cell? ⟨w1.heap.size, 1, none⟩ = some (.int .i64 s) := by
    show (match (w1.heap.push (.cells #[.int .i64 p, .int .i64 s] 3 (0, 0)))[w1.heap.size]? with | some (.cells c _ _) => c[1]? | _ => none) = _
    simp
  have hor2 := hor _ _ e0 e1
  clear hor e0 e1
  go_wp2_with (go_at_call 38; refine hor2.mono ?_; rintro e w' ⟨rfl, rfl⟩)
  go_ret
  obtain ⟨q0, os0, rfl⟩ := hg
  exact ⟨rfl, q0, os0 ++ #[.cells #[.int .i64 p, .int .i64 s] 3 (0, 0)], by rw [Go.Sort.alloc_eq_grow, Go.Sort.grow_grow]⟩
end Go.Proofs

/-
  DERIVED: THE SHELF's CONTRACTS AT THIS DUMP, IN PLAIN WORDS (tools/lay-plain.mjs out of 'YtdledeeihcilbaaSrf.lean', which tools/lay-shelf.mjs wrote): THE SAME DECLARATIONS UNDER THE SAME NAMES: 'import', 'namespace', 'open', 'def', 'theorem' AND NOTHING ELSE: no command of the shelf's: FOR A HAND-IN. Each laying: the table of numbers ('.._ren') and one theorem, a field a fact of the dump's own or the kernel's comparison; each contract: ONE APPLICATION.
-/
namespace Go.Proofs
open Go.Shelf
def Try.sortF52_ren : Go.Shelf.Ren := ⟨fun | 6 => 36 | 15 => 58 | 14 => 57 | 28 => 77 | 29 => 78 | 20 => 69 | 21 => 70 | 22 => 71 | 23 => 72 | 24 => 73 | 25 => 74 | 26 => 75 | 27 => 76 | 46 => 88 | 47 => 89 | 48 => 90 | 49 => 91 | 50 => 92 | 57 => 96 | n => n, fun | 22 => 25 | 24 => 30 | 25 => 74 | 3 => 3 | 39 => 88 | 0 => 0 | 53 => 108 | 55 => 110 | 4 => 4 | 46 => 102 | 45 => 101 | 50 => 41 | 5 => 5 | 9 => 9 | 66 => 117 | 70 => 121 | 76 => 125 | 77 => 126 | n => n, fun | n => n⟩
theorem Try.sortF52 : Go.Proofs.SlLaysF0.n6 Try.prog Try.sortF52_ren := {
  mixed := by kernel_rfl
  f6 := ⟨Try.f36.name, by decide, Try.func36.trans (congrArg some (by kernel_rfl))⟩
  f14 := ⟨Try.f57.name, by decide, Try.func57.trans (congrArg some (by kernel_rfl))⟩
  f15 := Try.func58.trans (congrArg some (by kernel_rfl))
  f20 := ⟨Try.f69.name, by decide, Try.func69.trans (congrArg some (by kernel_rfl))⟩
  f21 := ⟨Try.f70.name, by decide, Try.func70.trans (congrArg some (by kernel_rfl))⟩
  f22 := ⟨Try.f71.name, by decide, Try.func71.trans (congrArg some (by kernel_rfl))⟩
  f23 := ⟨Try.f72.name, by decide, Try.func72.trans (congrArg some (by kernel_rfl))⟩
  f24 := ⟨Try.f73.name, by decide, Try.func73.trans (congrArg some (by kernel_rfl))⟩
  f25 := ⟨Try.f74.name, by decide, Try.func74.trans (congrArg some (by kernel_rfl))⟩
  f26 := ⟨Try.f75.name, by decide, Try.func75.trans (congrArg some (by kernel_rfl))⟩
  f27 := ⟨Try.f76.name, by decide, Try.func76.trans (congrArg some (by kernel_rfl))⟩
  f28 := Try.func77.trans (congrArg some (by kernel_rfl))
  f29 := Try.func78.trans (congrArg some (by kernel_rfl))
  f46 := ⟨Try.f88.name, by decide, Try.func88.trans (congrArg some (by kernel_rfl))⟩
  f47 := Try.func89.trans (congrArg some (by kernel_rfl))
  f48 := Try.func90.trans (congrArg some (by kernel_rfl))
  f49 := ⟨Try.f91.name, by decide, Try.func91.trans (congrArg some (by kernel_rfl))⟩
  f50 := ⟨Try.f92.name, by decide, Try.func92.trans (congrArg some (by kernel_rfl))⟩
  f57 := ⟨Try.f96.name, by decide, Try.func96.trans (congrArg some (by kernel_rfl))⟩
  t0 := Try.underlying0
  a0 := Try.isAgg0
  z0 := Try.sizeOf0
  v0 := Try.zeroValue0
  t3 := Try.underlying3
  a3 := Try.isAgg3
  z3 := Try.sizeOf3
  v3 := Try.zeroValue3
  t4 := Try.underlying4
  a4 := Try.isAgg4
  z4 := Try.sizeOf4
  v4 := Try.zeroValue4
  t5 := Try.underlying5
  a5 := Try.isAgg5
  z5 := Try.sizeOf5
  v5 := Try.zeroValue5
  t9 := Try.underlying9
  a9 := Try.isAgg9
  z9 := Try.sizeOf9
  v9 := Try.zeroValue9
  t22 := Try.underlying25
  a22 := Try.isAgg25
  z22 := Try.sizeOf25
  v22 := Try.zeroValue25
  t25 := Try.underlying74
  a25 := Try.isAgg74
  z25 := Try.sizeOf74
  v25 := Try.zeroValue74
  t39 := Try.underlying88
  a39 := Try.isAgg88
  z39 := Try.sizeOf88
  v39 := Try.zeroValue88
  t45 := Try.underlying101
  a45 := Try.isAgg101
  z45 := Try.sizeOf101
  v45 := Try.zeroValue101
  t46 := Try.underlying102
  a46 := Try.isAgg102
  z46 := Try.sizeOf102
  v46 := Try.zeroValue102
  t50 := Try.underlying41
  a50 := Try.isAgg41
  z50 := Try.sizeOf41
  v50 := Try.zeroValue41
  t53 := Try.underlying108
  a53 := Try.isAgg108
  z53 := Try.sizeOf108
  v53 := Try.zeroValue108
  t55 := Try.underlying110
  a55 := Try.isAgg110
  z55 := Try.sizeOf110
  v55 := Try.zeroValue110
  t66 := Try.underlying117
  a66 := Try.isAgg117
  z66 := Try.sizeOf117
  v66 := Try.zeroValue117
  t70 := Try.underlying121
  a70 := Try.isAgg121
  z70 := Try.sizeOf121
  v70 := Try.zeroValue121
  t76 := Try.underlying125
  a76 := Try.isAgg125
  z76 := Try.sizeOf125
  v76 := Try.zeroValue125
  t77 := Try.underlying126
  a77 := Try.isAgg126
  z77 := Try.sizeOf126
  v77 := Try.zeroValue126 }
def Try.cmpI55_ren : Go.Shelf.Ren := ⟨fun | 5 => 39 | 7 => 59 | n => n, fun | 22 => 3 | 3 => 3 | 4 => 4 | n => n, fun | n => n⟩
theorem Try.cmpI55 : Go.Proofs.SlLaysC2.n5 Try.prog Try.cmpI55_ren := {
  mixed := by kernel_rfl
  f5 := ⟨Try.f39.name, by decide, Try.func39.trans (congrArg some (by kernel_rfl))⟩
  f7 := ⟨Try.f59.name, by decide, Try.func59.trans (congrArg some (by kernel_rfl))⟩
  t3 := Try.underlying3
  a3 := Try.isAgg3
  z3 := Try.sizeOf3
  v3 := Try.zeroValue3
  t4 := Try.underlying4
  a4 := Try.isAgg4
  z4 := Try.sizeOf4
  v4 := Try.zeroValue4
  t22 := Try.underlying3
  a22 := Try.isAgg3
  z22 := Try.sizeOf3
  v22 := Try.zeroValue3 }
end Go.Proofs

/- The closure that compares two matches against its model; the shelf's contracts at this program. Conditions: none. -/
namespace Go.Proofs
open Go Go.Md Go.M

theorem Try.compare_model (a b : Int) : cmp_Compare_int a b = some (Lib.compareInt a b) := by
  unfold cmp_Compare_int cmp_isNaN_int Lib.compareInt
  simp only [bnd_pure, ne_eq, not_true_eq_false, decide_false, cnd_false]
  by_cases h1 : a < b
  · simp [h1]
  · by_cases h2 : b < a <;> simp [h1, h2]

theorem Try.or_model (p s : Int) : cmp_Or_int [p, s] = some (if p ≠ 0 then p else s) := by
  unfold cmp_Or_int
  by_cases h : p = 0
  · subst h
    rw [fix_goto (b := (1 : Int)) (fun next => by simp [cmp_Or_int_l1, gAt, gI])]
    by_cases h2 : s = 0
    · subst h2
      rw [fix_goto (b := (2 : Int)) (fun next => by simp [cmp_Or_int_l1, gAt, gI])]
      rw [fix_done (o := some 0) (fun next => by simp [cmp_Or_int_l1])]
      rfl
    · rw [fix_done (o := some s) (fun next => by simp [cmp_Or_int_l1, gAt, h2])]
      simp
  · rw [fix_done (o := some p) (fun next => by simp [cmp_Or_int_l1, gAt, h])]
    simp [h]

theorem Try.matches_model (x y : T_face_Match) : face_matches_1 x y = some (if Lib.compareInt x.Far y.Far ≠ 0 then Lib.compareInt x.Far y.Far else Lib.compareInt x.Person y.Person) := by
  unfold face_matches_1
  rw [Try.compare_model, bnd_pure, Try.compare_model, bnd_pure, Try.or_model, bnd_pure]

theorem Try.cmpM (x y : T_face_Match) (v : Int) (W : World) (hv : face_matches_1 x y = some v) :
    Calls Try.prog 37 #[.agg #[.int .i64 x.Person, .int .i64 x.Far], .agg #[.int .i64 y.Person, .int .i64 y.Far]] W fun e w' => e = .returned (.int .i64 v) ∧ ∃ q os', w' = Go.Sort.grow (W.drewN q) os' := by
  rw [Try.matches_model] at hv
  cases hv
  refine Try.closure53 x.Person x.Far y.Person y.Far _ W (fun a b W' => ?_) (fun h => if_pos h) (fun h => if_neg (by simpa using h))
  exact AnyG.cmp_Compare_int Try.cmpI55 a b W'

theorem Try.enters53 (args : Array Value) (w : World) : (callFunc 37 args).run Try.prog w = .ok (.enter 37 args) w := enters_of Try.func37 (by kernel_rfl) rfl args w
end Go.Proofs
