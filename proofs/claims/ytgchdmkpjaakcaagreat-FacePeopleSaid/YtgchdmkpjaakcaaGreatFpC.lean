/- The closure that compares two matches, walked with the kit's own tactics: what it returns, and that it only draws and lays blocks. Conditions: none. -/
import Derived.Test.YtgchdmkpjaakcaaGreatProg
import Derived.Tactics
import Derived.Tactics2
import Derived.StillTactics
import Derived.LoopTactic
import Derived.Laws.Pointers
import Derived.WalkKit
import Derived.StillTailTactics
import Derived.Deep.RegionHeld3
import Derived.Shelf.SlSortCmp.WholeK
import Derived.Shelf.SlGeneric
import Derived.Shelf.SlicesG.Cmp
import Derived.Shelf.Small.Bits
import Derived.Ground.SlsfProg
import Derived.Ground.SlgcProg
import Derived.Test.YtgchdmkpjaakcaaGreatMFp
namespace Go.Proofs
open Go
theorem Tryz.cmpOr (blk : Nat) (a b r : Int) (hr1 : a ≠ 0 → r = a) (hr2 : a = 0 → r = b) (w : World) (h0 : w.cell? ⟨blk, 0, none⟩ = some (.int .i64 a)) (h1 : w.cell? ⟨blk, 1, none⟩ = some (.int .i64 b)) :
    Calls Tryz.prog 54 #[.slice (some ⟨blk, 0, none⟩) 2 2] w fun e w' => e = .returned (.int .i64 r) ∧ w' = w := by
  go_enter Tryz.func54, Tryz.ntmps54
  go_wp2
  go_loop [8] (fun i => (i = .int .i64 0) ∨ (i = .int .i64 1 ∧ a = 0) ∨ (i = .int .i64 2 ∧ a = 0 ∧ b = 0)) (fun i => match i with | .int _ n => 2 - n.toNat | _ => 0)
  case atStart => exact .inl rfl
  case round =>
    rcases hrel with rfl | ⟨rfl, ha⟩ | ⟨rfl, ha, hb⟩
    · go_wp2
      all_goals first
        | (go_ret; exact ⟨by first | rfl | (rw [hr1 (by simp_all)]; rfl), rfl⟩)
        | (simp; rename_i hz; simpa using hz)
    · go_wp2
      all_goals first
        | (go_ret; exact ⟨by first | rfl | (rw [hr2 ha]; rfl), rfl⟩)
        | (simp; rename_i hz; exact ⟨ha, by simpa using hz⟩)
    · go_wp2
      go_ret
      exact ⟨by first | rfl | (rw [hr2 ha, hb]; rfl) | simp_all, rfl⟩

open Go.Sort
set_option maxRecDepth 100000 in
set_option maxHeartbeats 2000000 in
theorem Tryz.closure53 (a b c d r : Int) (W : World) (hcmp : ∀ (x y : Int) (W' : World), Calls Tryz.prog 55 #[.int .i64 x, .int .i64 y] W' fun e w' => e = .returned (.int .i64 (Lib.compareInt x y)) ∧ w' = W')
    (hr1 : Lib.compareInt b d ≠ 0 → r = Lib.compareInt b d) (hr2 : Lib.compareInt b d = 0 → r = Lib.compareInt a c) :
    Calls Tryz.prog 53 #[.agg #[.int .i64 a, .int .i64 b], .agg #[.int .i64 c, .int .i64 d]] W fun e w' => e = .returned (.int .i64 r) ∧ ∃ q os', w' = Go.Sort.grow (W.drewN q) os' := by
  have h1 := fun W' => hcmp b d W'
  have h2 := fun W' => hcmp a c W'
  have hor := fun (blk : Nat) (w : World) h0 h1 => Tryz.cmpOr blk (Lib.compareInt b d) (Lib.compareInt a c) r hr1 hr2 w h0 h1
  clear hr1 hr2 hcmp
  generalize Lib.compareInt b d = p at *
  generalize Lib.compareInt a c = s at *
  go_enter Tryz.func53, Tryz.ntmps53
  go_wp2
  refine wp_region_still_tail 10 (by kernel_rfl) (by kernel_rfl) ?_
  simp only [List.take_succ_cons, List.take_zero, List.drop_succ_cons, List.drop_zero]
  generalize hw1 : ({ heap := _, tape := _, drawn := _, os := _, output := _ } : World) = w1
  have eh : w1.heap = (W.heap.push (.cells #[.int .i64 a, .int .i64 b] 42 (0, 0))).push (.cells #[.int .i64 c, .int .i64 d] 42 (0, 0)) := by subst hw1; rfl
  have c0 : w1.cell? ⟨W.heap.size, 0, none⟩ = some (.int .i64 a) := by simp [World.cell?, eh, Array.getElem?_push, Array.getElem_push]
  have c1 : w1.cell? ⟨W.heap.size, 1, none⟩ = some (.int .i64 b) := by simp [World.cell?, eh, Array.getElem?_push, Array.getElem_push]
  have c2 : w1.cell? ⟨W.heap.size + 1, 0, none⟩ = some (.int .i64 c) := by simp [World.cell?, eh, Array.getElem?_push, Array.getElem_push]
  have c3 : w1.cell? ⟨W.heap.size + 1, 1, none⟩ = some (.int .i64 d) := by simp [World.cell?, eh, Array.getElem?_push, Array.getElem_push]
  have hg : ∃ q os', w1 = Go.Sort.grow (W.drewN q) os' := ⟨1, #[.cells #[.int .i64 a, .int .i64 b] 42 (0, 0), .cells #[.int .i64 c, .int .i64 d] 42 (0, 0)], by
    subst hw1
    unfold Go.Sort.grow World.drewN
    congr 1⟩
  clear eh
  clear hw1
  repeat still_step
  still_call (h1 w1)
  repeat still_step
  still_call (h2 w1)
  repeat still_step
  refine wpStill_nil ?_
  clear c0 c1 c2 c3 h1 h2
  have e0 : (w1.alloc (.cells #[.int .i64 p, .int .i64 s] 3)).cell? ⟨w1.heap.size, 0, none⟩ = some (.int .i64 p) := by
    show (match (w1.heap.push (.cells #[.int .i64 p, .int .i64 s] 3 (0, 0)))[w1.heap.size]? with | some (.cells c _ _) => c[0]? | _ => none) = _
    simp
  have e1 : (w1.alloc (.cells #[.int .i64 p, .int .i64 s] 3)).cell? ⟨w1.heap.size, 1, none⟩ = some (.int .i64 s) := by
    show (match (w1.heap.push (.cells #[.int .i64 p, .int .i64 s] 3 (0, 0)))[w1.heap.size]? with | some (.cells c _ _) => c[1]? | _ => none) = _
    simp
  have hor2 := hor _ _ e0 e1
  clear hor e0 e1
  go_wp2_with (go_at_call 54; refine hor2.mono ?_; rintro e w' ⟨rfl, rfl⟩)
  go_ret
  obtain ⟨q0, os0, rfl⟩ := hg
  exact ⟨rfl, q0, os0 ++ #[.cells #[.int .i64 p, .int .i64 s] 3 (0, 0)], by rw [Go.Sort.alloc_eq_grow, Go.Sort.grow_grow]⟩
end Go.Proofs

/-
  DERIVED: THE SHELF's CONTRACTS AT THIS DUMP, IN PLAIN WORDS (tools/lay-plain.mjs out of 'YtgchdmkpjaakcaaGreatSrf.lean', which tools/lay-shelf.mjs wrote): THE SAME DECLARATIONS UNDER THE SAME NAMES: 'import', 'namespace', 'open', 'def', 'theorem' AND NOTHING ELSE: no command of the shelf's: FOR A HAND-IN. Each laying: the table of numbers ('.._ren') and one theorem, a field a fact of the dump's own or the kernel's comparison; each contract: ONE APPLICATION.
-/
namespace Go.Proofs
open Go.Shelf
def Tryz.sortF52_ren : Go.Shelf.Ren := ⟨fun | 6 => 52 | 15 => 46 | 14 => 78 | 28 => 75 | 29 => 76 | 20 => 90 | 21 => 91 | 22 => 92 | 23 => 93 | 24 => 94 | 25 => 95 | 26 => 96 | 27 => 97 | 46 => 101 | 47 => 85 | 48 => 86 | 49 => 102 | 50 => 103 | 57 => 105 | n => n, fun | 22 => 37 | 24 => 42 | 25 => 82 | 3 => 3 | 39 => 74 | 0 => 0 | 53 => 94 | 55 => 96 | 4 => 4 | 46 => 87 | 45 => 86 | 50 => 50 | 5 => 5 | 9 => 9 | 66 => 103 | 70 => 107 | 76 => 115 | 77 => 116 | n => n, fun | n => n⟩
theorem Tryz.sortF52 : Go.Proofs.SlLaysF0.n6 Tryz.prog Tryz.sortF52_ren := {
  mixed := by kernel_rfl
  f6 := ⟨Tryz.f52.name, by decide, Tryz.func52.trans (congrArg some (by kernel_rfl))⟩
  f14 := ⟨Tryz.f78.name, by decide, Tryz.func78.trans (congrArg some (by kernel_rfl))⟩
  f15 := Tryz.func46.trans (congrArg some (by kernel_rfl))
  f20 := ⟨Tryz.f90.name, by decide, Tryz.func90.trans (congrArg some (by kernel_rfl))⟩
  f21 := ⟨Tryz.f91.name, by decide, Tryz.func91.trans (congrArg some (by kernel_rfl))⟩
  f22 := ⟨Tryz.f92.name, by decide, Tryz.func92.trans (congrArg some (by kernel_rfl))⟩
  f23 := ⟨Tryz.f93.name, by decide, Tryz.func93.trans (congrArg some (by kernel_rfl))⟩
  f24 := ⟨Tryz.f94.name, by decide, Tryz.func94.trans (congrArg some (by kernel_rfl))⟩
  f25 := ⟨Tryz.f95.name, by decide, Tryz.func95.trans (congrArg some (by kernel_rfl))⟩
  f26 := ⟨Tryz.f96.name, by decide, Tryz.func96.trans (congrArg some (by kernel_rfl))⟩
  f27 := ⟨Tryz.f97.name, by decide, Tryz.func97.trans (congrArg some (by kernel_rfl))⟩
  f28 := Tryz.func75.trans (congrArg some (by kernel_rfl))
  f29 := Tryz.func76.trans (congrArg some (by kernel_rfl))
  f46 := ⟨Tryz.f101.name, by decide, Tryz.func101.trans (congrArg some (by kernel_rfl))⟩
  f47 := Tryz.func85.trans (congrArg some (by kernel_rfl))
  f48 := Tryz.func86.trans (congrArg some (by kernel_rfl))
  f49 := ⟨Tryz.f102.name, by decide, Tryz.func102.trans (congrArg some (by kernel_rfl))⟩
  f50 := ⟨Tryz.f103.name, by decide, Tryz.func103.trans (congrArg some (by kernel_rfl))⟩
  f57 := ⟨Tryz.f105.name, by decide, Tryz.func105.trans (congrArg some (by kernel_rfl))⟩
  t0 := Tryz.underlying0
  a0 := Tryz.isAgg0
  z0 := Tryz.sizeOf0
  v0 := Tryz.zeroValue0
  t3 := Tryz.underlying3
  a3 := Tryz.isAgg3
  z3 := Tryz.sizeOf3
  v3 := Tryz.zeroValue3
  t4 := Tryz.underlying4
  a4 := Tryz.isAgg4
  z4 := Tryz.sizeOf4
  v4 := Tryz.zeroValue4
  t5 := Tryz.underlying5
  a5 := Tryz.isAgg5
  z5 := Tryz.sizeOf5
  v5 := Tryz.zeroValue5
  t9 := Tryz.underlying9
  a9 := Tryz.isAgg9
  z9 := Tryz.sizeOf9
  v9 := Tryz.zeroValue9
  t22 := Tryz.underlying37
  a22 := Tryz.isAgg37
  z22 := Tryz.sizeOf37
  v22 := Tryz.zeroValue37
  t25 := Tryz.underlying82
  a25 := Tryz.isAgg82
  z25 := Tryz.sizeOf82
  v25 := Tryz.zeroValue82
  t39 := Tryz.underlying74
  a39 := Tryz.isAgg74
  z39 := Tryz.sizeOf74
  v39 := Tryz.zeroValue74
  t45 := Tryz.underlying86
  a45 := Tryz.isAgg86
  z45 := Tryz.sizeOf86
  v45 := Tryz.zeroValue86
  t46 := Tryz.underlying87
  a46 := Tryz.isAgg87
  z46 := Tryz.sizeOf87
  v46 := Tryz.zeroValue87
  t50 := Tryz.underlying50
  a50 := Tryz.isAgg50
  z50 := Tryz.sizeOf50
  v50 := Tryz.zeroValue50
  t53 := Tryz.underlying94
  a53 := Tryz.isAgg94
  z53 := Tryz.sizeOf94
  v53 := Tryz.zeroValue94
  t55 := Tryz.underlying96
  a55 := Tryz.isAgg96
  z55 := Tryz.sizeOf96
  v55 := Tryz.zeroValue96
  t66 := Tryz.underlying103
  a66 := Tryz.isAgg103
  z66 := Tryz.sizeOf103
  v66 := Tryz.zeroValue103
  t70 := Tryz.underlying107
  a70 := Tryz.isAgg107
  z70 := Tryz.sizeOf107
  v70 := Tryz.zeroValue107
  t76 := Tryz.underlying115
  a76 := Tryz.isAgg115
  z76 := Tryz.sizeOf115
  v76 := Tryz.zeroValue115
  t77 := Tryz.underlying116
  a77 := Tryz.isAgg116
  z77 := Tryz.sizeOf116
  v77 := Tryz.zeroValue116 }
def Tryz.cmpI55_ren : Go.Shelf.Ren := ⟨fun | 5 => 55 | 7 => 79 | n => n, fun | 22 => 3 | 3 => 3 | 4 => 4 | n => n, fun | n => n⟩
theorem Tryz.cmpI55 : Go.Proofs.SlLaysC2.n5 Tryz.prog Tryz.cmpI55_ren := {
  mixed := by kernel_rfl
  f5 := ⟨Tryz.f55.name, by decide, Tryz.func55.trans (congrArg some (by kernel_rfl))⟩
  f7 := ⟨Tryz.f79.name, by decide, Tryz.func79.trans (congrArg some (by kernel_rfl))⟩
  t3 := Tryz.underlying3
  a3 := Tryz.isAgg3
  z3 := Tryz.sizeOf3
  v3 := Tryz.zeroValue3
  t4 := Tryz.underlying4
  a4 := Tryz.isAgg4
  z4 := Tryz.sizeOf4
  v4 := Tryz.zeroValue4
  t22 := Tryz.underlying3
  a22 := Tryz.isAgg3
  z22 := Tryz.sizeOf3
  v22 := Tryz.zeroValue3 }
end Go.Proofs

/- The closure that compares two matches against its model; the shelf's contracts at this program. Conditions: none. -/
namespace Go.Proofs
open Go Go.Md Go.M

theorem Tryz.compare_model (a b : Int) : cmp_Compare_int a b = some (Lib.compareInt a b) := by
  unfold cmp_Compare_int cmp_isNaN_int Lib.compareInt
  simp only [bnd_pure, ne_eq, not_true_eq_false, decide_false, cnd_false]
  by_cases h1 : a < b
  · simp [h1]
  · by_cases h2 : b < a <;> simp [h1, h2]

theorem Tryz.or_model (p s : Int) : cmp_Or_int [p, s] = some (if p ≠ 0 then p else s) := by
  unfold cmp_Or_int
  by_cases h : p = 0
  · subst h
    rw [fix_goto (b := (1 : Int)) (fun next => by simp [cmp_Or_int_l1, gAt, gI])]
    by_cases h2 : s = 0
    · subst h2
      rw [fix_goto (b := (2 : Int)) (fun next => by simp [cmp_Or_int_l1, gAt, gI])]
      rw [fix_done (o := some 0) (fun next => by simp [cmp_Or_int_l1])]
      rfl
    · rw [fix_done (o := some s) (fun next => by simp [cmp_Or_int_l1, gAt, h2])]
      simp
  · rw [fix_done (o := some p) (fun next => by simp [cmp_Or_int_l1, gAt, h])]
    simp [h]

theorem Tryz.matches_model (x y : T_face_Match) : face_matches_1 x y = some (if Lib.compareInt x.Far y.Far ≠ 0 then Lib.compareInt x.Far y.Far else Lib.compareInt x.Person y.Person) := by
  unfold face_matches_1
  rw [Tryz.compare_model, bnd_pure, Tryz.compare_model, bnd_pure, Tryz.or_model, bnd_pure]

theorem Tryz.cmpM (x y : T_face_Match) (v : Int) (W : World) (hv : face_matches_1 x y = some v) :
    Calls Tryz.prog 53 #[.agg #[.int .i64 x.Person, .int .i64 x.Far], .agg #[.int .i64 y.Person, .int .i64 y.Far]] W fun e w' => e = .returned (.int .i64 v) ∧ ∃ q os', w' = Go.Sort.grow (W.drewN q) os' := by
  rw [Tryz.matches_model] at hv
  cases hv
  refine Tryz.closure53 x.Person x.Far y.Person y.Far _ W (fun a b W' => ?_) (fun h => if_pos h) (fun h => if_neg (by simpa using h))
  exact AnyG.cmp_Compare_int Tryz.cmpI55 a b W'

theorem Tryz.enters53 (args : Array Value) (w : World) : (callFunc 53 args).run Tryz.prog w = .ok (.enter 53 args) w := enters_of Tryz.func53 (by kernel_rfl) rfl args w
end Go.Proofs
