/- The closure that compares two matches, walked with the kit's own tactics: what it returns, and that it only draws and lays blocks. Conditions: none. -/
import Derived.Test.YthhaabhnlndnoaaGreatProg
import Derived.Tactics
import Derived.Tactics2
import Derived.StillTactics
import Derived.LoopTactic
import Derived.Laws.Pointers
import Derived.WalkKit
import Derived.StillTailTactics
import Derived.Deep.RegionHeld3
import Derived.Shelf.SlSortCmp.WholeK
import Derived.Shelf.SlGeneric
import Derived.Shelf.SlicesG.Cmp
import Derived.Shelf.Small.Bits
import Derived.Ground.SlsfProg
import Derived.Ground.SlgcProg
import Derived.Test.YthhaabhnlndnoaaGreatMFh
namespace Go.Proofs
open Go
theorem Tryz.cmpOr (blk : Nat) (a b r : Int) (hr1 : a ≠ 0 → r = a) (hr2 : a = 0 → r = b) (w : World) (h0 : w.cell? ⟨blk, 0, none⟩ = some (.int .i64 a)) (h1 : w.cell? ⟨blk, 1, none⟩ = some (.int .i64 b)) :
  Calls Tryz.prog 30 #[.slice (some ⟨blk, 0, none⟩) 2 2] w fun e w' => e = .returned (.int .i64 r) ∧ w' = w := by
 go_enter Tryz.func30, Tryz.ntmps30
 go_wp2
 go_loop [8] (fun i => (i = .int .i64 0) ∨ (i = .int .i64 1 ∧ a = 0) ∨ (i = .int .i64 2 ∧ a = 0 ∧ b = 0)) (fun i => match i with | .int _ n => 2 - n.toNat | _ => 0)
 case atStart => exact .inl rfl
 case round =>
  rcases hrel with rfl | ⟨rfl, ha⟩ | ⟨rfl, ha, hb⟩
  ·go_wp2
   all_goals first
    | (go_ret; exact ⟨by first | rfl | (rw [hr1 (by simp_all)]; rfl), rfl⟩)
    | (simp; rename_i hz; simpa using hz)
  ·go_wp2
   all_goals first
    | (go_ret; exact ⟨by first | rfl | (rw [hr2 ha]; rfl), rfl⟩)
    | (simp; rename_i hz; exact ⟨ha, by simpa using hz⟩)
  ·go_wp2
   go_ret
   exact ⟨by first | rfl | (rw [hr2 ha, hb]; rfl) | simp_all, rfl⟩
open Go.Sort
set_option maxRecDepth 100000 in
set_option maxHeartbeats 2000000 in
theorem Tryz.closure53 (a b c d r : Int) (W : World) (hcmp : ∀ (x y : Int) (W' : World), Calls Tryz.prog 31 #[.int .i64 x, .int .i64 y] W' fun e w' => e = .returned (.int .i64 (Lib.compareInt x y)) ∧ w' = W')
  (hr1 : Lib.compareInt b d ≠ 0 → r = Lib.compareInt b d) (hr2 : Lib.compareInt b d = 0 → r = Lib.compareInt a c) :
  Calls Tryz.prog 77 #[.agg #[.int .i64 a, .int .i64 b], .agg #[.int .i64 c, .int .i64 d]] W fun e w' => e = .returned (.int .i64 r) ∧ ∃ q os', w' = Go.Sort.grow (W.drewN q) os' := by
 have h1 := fun W' => hcmp b d W'
 have h2 := fun W' => hcmp a c W'
 have hor := fun (blk : Nat) (w : World) h0 h1 => Tryz.cmpOr blk (Lib.compareInt b d) (Lib.compareInt a c) r hr1 hr2 w h0 h1
 clear hr1 hr2 hcmp
 generalize Lib.compareInt b d = p at *
 generalize Lib.compareInt a c = s at *
 go_enter Tryz.func77, Tryz.ntmps77
 go_wp2
 refine wp_region_still_tail 10 (by kernel_rfl) (by kernel_rfl) ?_
 simp only [List.take_succ_cons, List.take_zero, List.drop_succ_cons, List.drop_zero]
 generalize hw1 : ({ heap := _, tape := _, drawn := _, os := _, output := _ } : World) = w1
 have eh : w1.heap = (W.heap.push (.cells #[.int .i64 a, .int .i64 b] 56 (0, 0))).push (.cells #[.int .i64 c, .int .i64 d] 56 (0, 0)) := by subst hw1; rfl
 have c0 : w1.cell? ⟨W.heap.size, 0, none⟩ = some (.int .i64 a) := by simp [World.cell?, eh, Array.getElem?_push, Array.getElem_push]
 have c1 : w1.cell? ⟨W.heap.size, 1, none⟩ = some (.int .i64 b) := by simp [World.cell?, eh, Array.getElem?_push, Array.getElem_push]
 have c2 : w1.cell? ⟨W.heap.size + 1, 0, none⟩ = some (.int .i64 c) := by simp [World.cell?, eh, Array.getElem?_push, Array.getElem_push]
 have c3 : w1.cell? ⟨W.heap.size + 1, 1, none⟩ = some (.int .i64 d) := by simp [World.cell?, eh, Array.getElem?_push, Array.getElem_push]
 have hg : ∃ q os', w1 = Go.Sort.grow (W.drewN q) os' := ⟨1, #[.cells #[.int .i64 a, .int .i64 b] 56 (0, 0), .cells #[.int .i64 c, .int .i64 d] 56 (0, 0)], by
  subst hw1
  unfold Go.Sort.grow World.drewN
  congr 1⟩
 clear eh
 clear hw1
 repeat still_step
 still_call (h1 w1)
 repeat still_step
 still_call (h2 w1)
 repeat still_step
 refine wpStill_nil ?_
 clear c0 c1 c2 c3 h1 h2
 have e0 : (w1.alloc (.cells #[.int .i64 p, .int .i64 s] 3)).cell? ⟨w1.heap.size, 0, none⟩ = some (.int .i64 p) := by
  show (match (w1.heap.push (.cells #[.int .i64 p, .int .i64 s] 3 (0, 0)))[w1.heap.size]? with | some (.cells c _ _) => c[0]? | _ => none) = _
  simp
 have e1 : (w1.alloc (.cells #[.int .i64 p, .int .i64 s] 3)).cell? ⟨w1.heap.size, 1, none⟩ = some (.int .i64 s) := by
  show (match (w1.heap.push (.cells #[.int .i64 p, .int .i64 s] 3 (0, 0)))[w1.heap.size]? with | some (.cells c _ _) => c[1]? | _ => none) = _
  simp
 have hor2 := hor _ _ e0 e1
 clear hor e0 e1
 go_wp2_with (go_at_call 30; refine hor2.mono ?_; rintro e w' ⟨rfl, rfl⟩)
 go_ret
 obtain ⟨q0, os0, rfl⟩ := hg
 exact ⟨rfl, q0, os0 ++ #[.cells #[.int .i64 p, .int .i64 s] 3 (0, 0)], by rw [Go.Sort.alloc_eq_grow, Go.Sort.grow_grow]⟩
end Go.Proofs

/-
 DERIVED: THE SHELF's CONTRACTS AT THIS DUMP, IN PLAIN WORDS (tools/lay-plain.mjs out of 'YthhaabhnlndnoaaGreatSrf.lean', which tools/lay-shelf.mjs wrote): THE SAME DECLARATIONS UNDER THE SAME NAMES: 'import', 'namespace', 'open', 'def', 'theorem' AND NOTHING ELSE: no command of the shelf's: FOR A HAND-IN. Each laying: the table of numbers ('.._ren') and one theorem, a field a fact of the dump's own or the kernel's comparison; each contract: ONE APPLICATION.
-/
namespace Go.Proofs
open Go.Shelf
def Tryz.sortF52_ren : Go.Shelf.Ren := ⟨fun | 6 => 76 | 15 => 79 | 14 => 115 | 28 => 124 | 29 => 125 | 20 => 153 | 21 => 154 | 22 => 155 | 23 => 156 | 24 => 157 | 25 => 158 | 26 => 159 | 27 => 160 | 46 => 183 | 47 => 162 | 48 => 163 | 49 => 184 | 50 => 185 | 57 => 193 | n => n, fun | 22 => 53 | 24 => 56 | 25 => 103 | 3 => 3 | 39 => 106 | 0 => 0 | 53 => 133 | 55 => 135 | 4 => 4 | 46 => 127 | 45 => 126 | 50 => 64 | 5 => 5 | 9 => 9 | 66 => 159 | 70 => 163 | 76 => 178 | 77 => 179 | n => n, fun | n => n⟩
theorem Tryz.sortF52 : Go.Proofs.SlLaysF0.n6 Tryz.prog Tryz.sortF52_ren := {
 mixed := by kernel_rfl
 f6 := ⟨Tryz.f76.name, by decide, Tryz.func76.trans (congrArg some (by kernel_rfl))⟩
 f14 := ⟨Tryz.f115.name, by decide, Tryz.func115.trans (congrArg some (by kernel_rfl))⟩
 f15 := Tryz.func79.trans (congrArg some (by kernel_rfl))
 f20 := ⟨Tryz.f153.name, by decide, Tryz.func153.trans (congrArg some (by kernel_rfl))⟩
 f21 := ⟨Tryz.f154.name, by decide, Tryz.func154.trans (congrArg some (by kernel_rfl))⟩
 f22 := ⟨Tryz.f155.name, by decide, Tryz.func155.trans (congrArg some (by kernel_rfl))⟩
 f23 := ⟨Tryz.f156.name, by decide, Tryz.func156.trans (congrArg some (by kernel_rfl))⟩
 f24 := ⟨Tryz.f157.name, by decide, Tryz.func157.trans (congrArg some (by kernel_rfl))⟩
 f25 := ⟨Tryz.f158.name, by decide, Tryz.func158.trans (congrArg some (by kernel_rfl))⟩
 f26 := ⟨Tryz.f159.name, by decide, Tryz.func159.trans (congrArg some (by kernel_rfl))⟩
 f27 := ⟨Tryz.f160.name, by decide, Tryz.func160.trans (congrArg some (by kernel_rfl))⟩
 f28 := Tryz.func124.trans (congrArg some (by kernel_rfl))
 f29 := Tryz.func125.trans (congrArg some (by kernel_rfl))
 f46 := ⟨Tryz.f183.name, by decide, Tryz.func183.trans (congrArg some (by kernel_rfl))⟩
 f47 := Tryz.func162.trans (congrArg some (by kernel_rfl))
 f48 := Tryz.func163.trans (congrArg some (by kernel_rfl))
 f49 := ⟨Tryz.f184.name, by decide, Tryz.func184.trans (congrArg some (by kernel_rfl))⟩
 f50 := ⟨Tryz.f185.name, by decide, Tryz.func185.trans (congrArg some (by kernel_rfl))⟩
 f57 := ⟨Tryz.f193.name, by decide, Tryz.func193.trans (congrArg some (by kernel_rfl))⟩
 t0 := Tryz.underlying0
 a0 := Tryz.isAgg0
 z0 := Tryz.sizeOf0
 v0 := Tryz.zeroValue0
 t3 := Tryz.underlying3
 a3 := Tryz.isAgg3
 z3 := Tryz.sizeOf3
 v3 := Tryz.zeroValue3
 t4 := Tryz.underlying4
 a4 := Tryz.isAgg4
 z4 := Tryz.sizeOf4
 v4 := Tryz.zeroValue4
 t5 := Tryz.underlying5
 a5 := Tryz.isAgg5
 z5 := Tryz.sizeOf5
 v5 := Tryz.zeroValue5
 t9 := Tryz.underlying9
 a9 := Tryz.isAgg9
 z9 := Tryz.sizeOf9
 v9 := Tryz.zeroValue9
 t22 := Tryz.underlying53
 a22 := Tryz.isAgg53
 z22 := Tryz.sizeOf53
 v22 := Tryz.zeroValue53
 t25 := Tryz.underlying103
 a25 := Tryz.isAgg103
 z25 := Tryz.sizeOf103
 v25 := Tryz.zeroValue103
 t39 := Tryz.underlying106
 a39 := Tryz.isAgg106
 z39 := Tryz.sizeOf106
 v39 := Tryz.zeroValue106
 t45 := Tryz.underlying126
 a45 := Tryz.isAgg126
 z45 := Tryz.sizeOf126
 v45 := Tryz.zeroValue126
 t46 := Tryz.underlying127
 a46 := Tryz.isAgg127
 z46 := Tryz.sizeOf127
 v46 := Tryz.zeroValue127
 t50 := Tryz.underlying64
 a50 := Tryz.isAgg64
 z50 := Tryz.sizeOf64
 v50 := Tryz.zeroValue64
 t53 := Tryz.underlying133
 a53 := Tryz.isAgg133
 z53 := Tryz.sizeOf133
 v53 := Tryz.zeroValue133
 t55 := Tryz.underlying135
 a55 := Tryz.isAgg135
 z55 := Tryz.sizeOf135
 v55 := Tryz.zeroValue135
 t66 := Tryz.underlying159
 a66 := Tryz.isAgg159
 z66 := Tryz.sizeOf159
 v66 := Tryz.zeroValue159
 t70 := Tryz.underlying163
 a70 := Tryz.isAgg163
 z70 := Tryz.sizeOf163
 v70 := Tryz.zeroValue163
 t76 := Tryz.underlying178
 a76 := Tryz.isAgg178
 z76 := Tryz.sizeOf178
 v76 := Tryz.zeroValue178
 t77 := Tryz.underlying179
 a77 := Tryz.isAgg179
 z77 := Tryz.sizeOf179
 v77 := Tryz.zeroValue179 }
def Tryz.cmpI55_ren : Go.Shelf.Ren := ⟨fun | 5 => 31 | 7 => 80 | n => n, fun | 22 => 3 | 3 => 3 | 4 => 4 | n => n, fun | n => n⟩
theorem Tryz.cmpI55 : Go.Proofs.SlLaysC2.n5 Tryz.prog Tryz.cmpI55_ren := {
 mixed := by kernel_rfl
 f5 := ⟨Tryz.f31.name, by decide, Tryz.func31.trans (congrArg some (by kernel_rfl))⟩
 f7 := ⟨Tryz.f80.name, by decide, Tryz.func80.trans (congrArg some (by kernel_rfl))⟩
 t3 := Tryz.underlying3
 a3 := Tryz.isAgg3
 z3 := Tryz.sizeOf3
 v3 := Tryz.zeroValue3
 t4 := Tryz.underlying4
 a4 := Tryz.isAgg4
 z4 := Tryz.sizeOf4
 v4 := Tryz.zeroValue4
 t22 := Tryz.underlying3
 a22 := Tryz.isAgg3
 z22 := Tryz.sizeOf3
 v22 := Tryz.zeroValue3 }
def Tryz.sortFO_ren : Go.Shelf.Ren := ⟨fun | 6 => 28 | 15 => 79 | 14 => 78 | 28 => 124 | 29 => 125 | 20 => 116 | 21 => 117 | 22 => 118 | 23 => 119 | 24 => 120 | 25 => 121 | 26 => 122 | 27 => 123 | 46 => 161 | 47 => 162 | 48 => 163 | 49 => 164 | 50 => 165 | 57 => 186 | n => n, fun | 22 => 49 | 24 => 58 | 25 => 62 | 3 => 3 | 39 => 106 | 0 => 0 | 53 => 133 | 55 => 135 | 4 => 4 | 46 => 127 | 45 => 126 | 50 => 64 | 5 => 5 | 9 => 9 | 66 => 159 | 70 => 163 | 76 => 178 | 77 => 179 | n => n, fun | n => n⟩
theorem Tryz.sortFO : Go.Proofs.SlLaysF0.n6 Tryz.prog Tryz.sortFO_ren := {
 mixed := by kernel_rfl
 f6 := ⟨Tryz.f28.name, by decide, Tryz.func28.trans (congrArg some (by kernel_rfl))⟩
 f14 := ⟨Tryz.f78.name, by decide, Tryz.func78.trans (congrArg some (by kernel_rfl))⟩
 f15 := Tryz.func79.trans (congrArg some (by kernel_rfl))
 f20 := ⟨Tryz.f116.name, by decide, Tryz.func116.trans (congrArg some (by kernel_rfl))⟩
 f21 := ⟨Tryz.f117.name, by decide, Tryz.func117.trans (congrArg some (by kernel_rfl))⟩
 f22 := ⟨Tryz.f118.name, by decide, Tryz.func118.trans (congrArg some (by kernel_rfl))⟩
 f23 := ⟨Tryz.f119.name, by decide, Tryz.func119.trans (congrArg some (by kernel_rfl))⟩
 f24 := ⟨Tryz.f120.name, by decide, Tryz.func120.trans (congrArg some (by kernel_rfl))⟩
 f25 := ⟨Tryz.f121.name, by decide, Tryz.func121.trans (congrArg some (by kernel_rfl))⟩
 f26 := ⟨Tryz.f122.name, by decide, Tryz.func122.trans (congrArg some (by kernel_rfl))⟩
 f27 := ⟨Tryz.f123.name, by decide, Tryz.func123.trans (congrArg some (by kernel_rfl))⟩
 f28 := Tryz.func124.trans (congrArg some (by kernel_rfl))
 f29 := Tryz.func125.trans (congrArg some (by kernel_rfl))
 f46 := ⟨Tryz.f161.name, by decide, Tryz.func161.trans (congrArg some (by kernel_rfl))⟩
 f47 := Tryz.func162.trans (congrArg some (by kernel_rfl))
 f48 := Tryz.func163.trans (congrArg some (by kernel_rfl))
 f49 := ⟨Tryz.f164.name, by decide, Tryz.func164.trans (congrArg some (by kernel_rfl))⟩
 f50 := ⟨Tryz.f165.name, by decide, Tryz.func165.trans (congrArg some (by kernel_rfl))⟩
 f57 := ⟨Tryz.f186.name, by decide, Tryz.func186.trans (congrArg some (by kernel_rfl))⟩
 t0 := Tryz.underlying0
 a0 := Tryz.isAgg0
 z0 := Tryz.sizeOf0
 v0 := Tryz.zeroValue0
 t3 := Tryz.underlying3
 a3 := Tryz.isAgg3
 z3 := Tryz.sizeOf3
 v3 := Tryz.zeroValue3
 t4 := Tryz.underlying4
 a4 := Tryz.isAgg4
 z4 := Tryz.sizeOf4
 v4 := Tryz.zeroValue4
 t5 := Tryz.underlying5
 a5 := Tryz.isAgg5
 z5 := Tryz.sizeOf5
 v5 := Tryz.zeroValue5
 t9 := Tryz.underlying9
 a9 := Tryz.isAgg9
 z9 := Tryz.sizeOf9
 v9 := Tryz.zeroValue9
 t22 := Tryz.underlying49
 a22 := Tryz.isAgg49
 z22 := Tryz.sizeOf49
 v22 := Tryz.zeroValue49
 t25 := Tryz.underlying62
 a25 := Tryz.isAgg62
 z25 := Tryz.sizeOf62
 v25 := Tryz.zeroValue62
 t39 := Tryz.underlying106
 a39 := Tryz.isAgg106
 z39 := Tryz.sizeOf106
 v39 := Tryz.zeroValue106
 t45 := Tryz.underlying126
 a45 := Tryz.isAgg126
 z45 := Tryz.sizeOf126
 v45 := Tryz.zeroValue126
 t46 := Tryz.underlying127
 a46 := Tryz.isAgg127
 z46 := Tryz.sizeOf127
 v46 := Tryz.zeroValue127
 t50 := Tryz.underlying64
 a50 := Tryz.isAgg64
 z50 := Tryz.sizeOf64
 v50 := Tryz.zeroValue64
 t53 := Tryz.underlying133
 a53 := Tryz.isAgg133
 z53 := Tryz.sizeOf133
 v53 := Tryz.zeroValue133
 t55 := Tryz.underlying135
 a55 := Tryz.isAgg135
 z55 := Tryz.sizeOf135
 v55 := Tryz.zeroValue135
 t66 := Tryz.underlying159
 a66 := Tryz.isAgg159
 z66 := Tryz.sizeOf159
 v66 := Tryz.zeroValue159
 t70 := Tryz.underlying163
 a70 := Tryz.isAgg163
 z70 := Tryz.sizeOf163
 v70 := Tryz.zeroValue163
 t76 := Tryz.underlying178
 a76 := Tryz.isAgg178
 z76 := Tryz.sizeOf178
 v76 := Tryz.zeroValue178
 t77 := Tryz.underlying179
 a77 := Tryz.isAgg179
 z77 := Tryz.sizeOf179
 v77 := Tryz.zeroValue179 }
def Tryz.sortFN_ren : Go.Shelf.Ren := ⟨fun | 6 => 68 | 15 => 79 | 14 => 114 | 28 => 124 | 29 => 125 | 20 => 145 | 21 => 146 | 22 => 147 | 23 => 148 | 24 => 149 | 25 => 150 | 26 => 151 | 27 => 152 | 46 => 180 | 47 => 162 | 48 => 163 | 49 => 181 | 50 => 182 | 57 => 192 | n => n, fun | 22 => 23 | 24 => 32 | 25 => 95 | 3 => 3 | 39 => 106 | 0 => 0 | 53 => 133 | 55 => 135 | 4 => 4 | 46 => 127 | 45 => 126 | 50 => 64 | 5 => 5 | 9 => 9 | 66 => 159 | 70 => 163 | 76 => 178 | 77 => 179 | n => n, fun | n => n⟩
theorem Tryz.sortFN : Go.Proofs.SlLaysF0.n6 Tryz.prog Tryz.sortFN_ren := {
 mixed := by kernel_rfl
 f6 := ⟨Tryz.f68.name, by decide, Tryz.func68.trans (congrArg some (by kernel_rfl))⟩
 f14 := ⟨Tryz.f114.name, by decide, Tryz.func114.trans (congrArg some (by kernel_rfl))⟩
 f15 := Tryz.func79.trans (congrArg some (by kernel_rfl))
 f20 := ⟨Tryz.f145.name, by decide, Tryz.func145.trans (congrArg some (by kernel_rfl))⟩
 f21 := ⟨Tryz.f146.name, by decide, Tryz.func146.trans (congrArg some (by kernel_rfl))⟩
 f22 := ⟨Tryz.f147.name, by decide, Tryz.func147.trans (congrArg some (by kernel_rfl))⟩
 f23 := ⟨Tryz.f148.name, by decide, Tryz.func148.trans (congrArg some (by kernel_rfl))⟩
 f24 := ⟨Tryz.f149.name, by decide, Tryz.func149.trans (congrArg some (by kernel_rfl))⟩
 f25 := ⟨Tryz.f150.name, by decide, Tryz.func150.trans (congrArg some (by kernel_rfl))⟩
 f26 := ⟨Tryz.f151.name, by decide, Tryz.func151.trans (congrArg some (by kernel_rfl))⟩
 f27 := ⟨Tryz.f152.name, by decide, Tryz.func152.trans (congrArg some (by kernel_rfl))⟩
 f28 := Tryz.func124.trans (congrArg some (by kernel_rfl))
 f29 := Tryz.func125.trans (congrArg some (by kernel_rfl))
 f46 := ⟨Tryz.f180.name, by decide, Tryz.func180.trans (congrArg some (by kernel_rfl))⟩
 f47 := Tryz.func162.trans (congrArg some (by kernel_rfl))
 f48 := Tryz.func163.trans (congrArg some (by kernel_rfl))
 f49 := ⟨Tryz.f181.name, by decide, Tryz.func181.trans (congrArg some (by kernel_rfl))⟩
 f50 := ⟨Tryz.f182.name, by decide, Tryz.func182.trans (congrArg some (by kernel_rfl))⟩
 f57 := ⟨Tryz.f192.name, by decide, Tryz.func192.trans (congrArg some (by kernel_rfl))⟩
 t0 := Tryz.underlying0
 a0 := Tryz.isAgg0
 z0 := Tryz.sizeOf0
 v0 := Tryz.zeroValue0
 t3 := Tryz.underlying3
 a3 := Tryz.isAgg3
 z3 := Tryz.sizeOf3
 v3 := Tryz.zeroValue3
 t4 := Tryz.underlying4
 a4 := Tryz.isAgg4
 z4 := Tryz.sizeOf4
 v4 := Tryz.zeroValue4
 t5 := Tryz.underlying5
 a5 := Tryz.isAgg5
 z5 := Tryz.sizeOf5
 v5 := Tryz.zeroValue5
 t9 := Tryz.underlying9
 a9 := Tryz.isAgg9
 z9 := Tryz.sizeOf9
 v9 := Tryz.zeroValue9
 t22 := Tryz.underlying23
 a22 := Tryz.isAgg23
 z22 := Tryz.sizeOf23
 v22 := Tryz.zeroValue23
 t25 := Tryz.underlying95
 a25 := Tryz.isAgg95
 z25 := Tryz.sizeOf95
 v25 := Tryz.zeroValue95
 t39 := Tryz.underlying106
 a39 := Tryz.isAgg106
 z39 := Tryz.sizeOf106
 v39 := Tryz.zeroValue106
 t45 := Tryz.underlying126
 a45 := Tryz.isAgg126
 z45 := Tryz.sizeOf126
 v45 := Tryz.zeroValue126
 t46 := Tryz.underlying127
 a46 := Tryz.isAgg127
 z46 := Tryz.sizeOf127
 v46 := Tryz.zeroValue127
 t50 := Tryz.underlying64
 a50 := Tryz.isAgg64
 z50 := Tryz.sizeOf64
 v50 := Tryz.zeroValue64
 t53 := Tryz.underlying133
 a53 := Tryz.isAgg133
 z53 := Tryz.sizeOf133
 v53 := Tryz.zeroValue133
 t55 := Tryz.underlying135
 a55 := Tryz.isAgg135
 z55 := Tryz.sizeOf135
 v55 := Tryz.zeroValue135
 t66 := Tryz.underlying159
 a66 := Tryz.isAgg159
 z66 := Tryz.sizeOf159
 v66 := Tryz.zeroValue159
 t70 := Tryz.underlying163
 a70 := Tryz.isAgg163
 z70 := Tryz.sizeOf163
 v70 := Tryz.zeroValue163
 t76 := Tryz.underlying178
 a76 := Tryz.isAgg178
 z76 := Tryz.sizeOf178
 v76 := Tryz.zeroValue178
 t77 := Tryz.underlying179
 a77 := Tryz.isAgg179
 z77 := Tryz.sizeOf179
 v77 := Tryz.zeroValue179 }
def Tryz.sortFP_ren : Go.Shelf.Ren := ⟨fun | 6 => 65 | 15 => 79 | 14 => 113 | 28 => 124 | 29 => 125 | 20 => 137 | 21 => 138 | 22 => 139 | 23 => 140 | 24 => 141 | 25 => 142 | 26 => 143 | 27 => 144 | 46 => 177 | 47 => 162 | 48 => 163 | 49 => 178 | 50 => 179 | 57 => 191 | n => n, fun | 22 => 88 | 24 => 90 | 25 => 92 | 3 => 3 | 39 => 106 | 0 => 0 | 53 => 133 | 55 => 135 | 4 => 4 | 46 => 127 | 45 => 126 | 50 => 64 | 5 => 5 | 9 => 9 | 66 => 159 | 70 => 163 | 76 => 178 | 77 => 179 | n => n, fun | n => n⟩
theorem Tryz.sortFP : Go.Proofs.SlLaysF0.n6 Tryz.prog Tryz.sortFP_ren := {
 mixed := by kernel_rfl
 f6 := ⟨Tryz.f65.name, by decide, Tryz.func65.trans (congrArg some (by kernel_rfl))⟩
 f14 := ⟨Tryz.f113.name, by decide, Tryz.func113.trans (congrArg some (by kernel_rfl))⟩
 f15 := Tryz.func79.trans (congrArg some (by kernel_rfl))
 f20 := ⟨Tryz.f137.name, by decide, Tryz.func137.trans (congrArg some (by kernel_rfl))⟩
 f21 := ⟨Tryz.f138.name, by decide, Tryz.func138.trans (congrArg some (by kernel_rfl))⟩
 f22 := ⟨Tryz.f139.name, by decide, Tryz.func139.trans (congrArg some (by kernel_rfl))⟩
 f23 := ⟨Tryz.f140.name, by decide, Tryz.func140.trans (congrArg some (by kernel_rfl))⟩
 f24 := ⟨Tryz.f141.name, by decide, Tryz.func141.trans (congrArg some (by kernel_rfl))⟩
 f25 := ⟨Tryz.f142.name, by decide, Tryz.func142.trans (congrArg some (by kernel_rfl))⟩
 f26 := ⟨Tryz.f143.name, by decide, Tryz.func143.trans (congrArg some (by kernel_rfl))⟩
 f27 := ⟨Tryz.f144.name, by decide, Tryz.func144.trans (congrArg some (by kernel_rfl))⟩
 f28 := Tryz.func124.trans (congrArg some (by kernel_rfl))
 f29 := Tryz.func125.trans (congrArg some (by kernel_rfl))
 f46 := ⟨Tryz.f177.name, by decide, Tryz.func177.trans (congrArg some (by kernel_rfl))⟩
 f47 := Tryz.func162.trans (congrArg some (by kernel_rfl))
 f48 := Tryz.func163.trans (congrArg some (by kernel_rfl))
 f49 := ⟨Tryz.f178.name, by decide, Tryz.func178.trans (congrArg some (by kernel_rfl))⟩
 f50 := ⟨Tryz.f179.name, by decide, Tryz.func179.trans (congrArg some (by kernel_rfl))⟩
 f57 := ⟨Tryz.f191.name, by decide, Tryz.func191.trans (congrArg some (by kernel_rfl))⟩
 t0 := Tryz.underlying0
 a0 := Tryz.isAgg0
 z0 := Tryz.sizeOf0
 v0 := Tryz.zeroValue0
 t3 := Tryz.underlying3
 a3 := Tryz.isAgg3
 z3 := Tryz.sizeOf3
 v3 := Tryz.zeroValue3
 t4 := Tryz.underlying4
 a4 := Tryz.isAgg4
 z4 := Tryz.sizeOf4
 v4 := Tryz.zeroValue4
 t5 := Tryz.underlying5
 a5 := Tryz.isAgg5
 z5 := Tryz.sizeOf5
 v5 := Tryz.zeroValue5
 t9 := Tryz.underlying9
 a9 := Tryz.isAgg9
 z9 := Tryz.sizeOf9
 v9 := Tryz.zeroValue9
 t22 := Tryz.underlying88
 a22 := Tryz.isAgg88
 z22 := Tryz.sizeOf88
 v22 := Tryz.zeroValue88
 t25 := Tryz.underlying92
 a25 := Tryz.isAgg92
 z25 := Tryz.sizeOf92
 v25 := Tryz.zeroValue92
 t39 := Tryz.underlying106
 a39 := Tryz.isAgg106
 z39 := Tryz.sizeOf106
 v39 := Tryz.zeroValue106
 t45 := Tryz.underlying126
 a45 := Tryz.isAgg126
 z45 := Tryz.sizeOf126
 v45 := Tryz.zeroValue126
 t46 := Tryz.underlying127
 a46 := Tryz.isAgg127
 z46 := Tryz.sizeOf127
 v46 := Tryz.zeroValue127
 t50 := Tryz.underlying64
 a50 := Tryz.isAgg64
 z50 := Tryz.sizeOf64
 v50 := Tryz.zeroValue64
 t53 := Tryz.underlying133
 a53 := Tryz.isAgg133
 z53 := Tryz.sizeOf133
 v53 := Tryz.zeroValue133
 t55 := Tryz.underlying135
 a55 := Tryz.isAgg135
 z55 := Tryz.sizeOf135
 v55 := Tryz.zeroValue135
 t66 := Tryz.underlying159
 a66 := Tryz.isAgg159
 z66 := Tryz.sizeOf159
 v66 := Tryz.zeroValue159
 t70 := Tryz.underlying163
 a70 := Tryz.isAgg163
 z70 := Tryz.sizeOf163
 v70 := Tryz.zeroValue163
 t76 := Tryz.underlying178
 a76 := Tryz.isAgg178
 z76 := Tryz.sizeOf178
 v76 := Tryz.zeroValue178
 t77 := Tryz.underlying179
 a77 := Tryz.isAgg179
 z77 := Tryz.sizeOf179
 v77 := Tryz.zeroValue179 }
end Go.Proofs

/- The closure that compares two matches against its model; the shelf's contracts at this program. Conditions: none. -/
namespace Go.Proofs
open Go Go.Md Go.M
theorem Tryz.compare_model (a b : Int) : cmp_Compare_int a b = some (Lib.compareInt a b) := by
 unfold cmp_Compare_int Wv Lib.compareInt
 simp only [Jb, ne_eq, not_true_eq_false, decide_false, Ji]
 by_cases h1 : a < b
 ·simp [h1]
 ·by_cases h2 : b < a <;> simp [h1, h2]
theorem Tryz.or_model (p s : Int) : W2 [p, s] = some (if p ≠ 0 then p else s) := by
 unfold W2
 by_cases h : p = 0
 ·subst h
  rw [Yr (b := (1 : Int)) (fun next => by simp [Q4, Jk, gI])]
  by_cases h2 : s = 0
  ·subst h2
   rw [Yr (b := (2 : Int)) (fun next => by simp [Q4, Jk, gI])]
   rw [Q8 (o := some 0) (fun next => by simp [Q4])]
   rfl
  ·rw [Q8 (o := some s) (fun next => by simp [Q4, Jk, h2])]
   simp
 ·rw [Q8 (o := some p) (fun next => by simp [Q4, Jk, h])]
  simp [h]
theorem Tryz.matches_model (x y : T_face_Match) : Z8 x y = some (if Lib.compareInt x.Far y.Far ≠ 0 then Lib.compareInt x.Far y.Far else Lib.compareInt x.Person y.Person) := by
 unfold Z8
 rw [Tryz.compare_model, Jb, Tryz.compare_model, Jb, Tryz.or_model, Jb]
theorem Tryz.cmpM (x y : T_face_Match) (v : Int) (W : World) (hv : Z8 x y = some v) :
  Calls Tryz.prog 77 #[.agg #[.int .i64 x.Person, .int .i64 x.Far], .agg #[.int .i64 y.Person, .int .i64 y.Far]] W fun e w' => e = .returned (.int .i64 v) ∧ ∃ q os', w' = Go.Sort.grow (W.drewN q) os' := by
 rw [Tryz.matches_model] at hv
 cases hv
 refine Tryz.closure53 x.Person x.Far y.Person y.Far _ W (fun a b W' => ?_) (fun h => if_pos h) (fun h => if_neg (by simpa using h))
 exact AnyG.cmp_Compare_int Tryz.cmpI55 a b W'
theorem Tryz.enters53 (args : Array Value) (w : World) : (callFunc 77 args).run Tryz.prog w = .ok (.enter 77 args) w := enters_of Tryz.func77 (by kernel_rfl) rfl args w
end Go.Proofs

/- The closure that compares two offers, walked with the kit's own tactics: what it returns, and that it only draws and lays blocks. Conditions: none. -/
namespace Go.Proofs
open Go
theorem Tryz.cmpOr3 (blk : Nat) (a b c r : Int) (hr1 : a ≠ 0 → r = a) (hr2 : a = 0 → b ≠ 0 → r = b) (hr3 : a = 0 → b = 0 → r = c) (w : World) (h0 : w.cell? ⟨blk, 0, none⟩ = some (.int .i64 a)) (h1 : w.cell? ⟨blk, 1, none⟩ = some (.int .i64 b)) (h2 : w.cell? ⟨blk, 2, none⟩ = some (.int .i64 c)) :
  Calls Tryz.prog 30 #[.slice (some ⟨blk, 0, none⟩) 3 3] w fun e w' => e = .returned (.int .i64 r) ∧ w' = w := by
 go_enter Tryz.func30, Tryz.ntmps30
 go_wp2
 go_loop [8] (fun i => (i = .int .i64 0) ∨ (i = .int .i64 1 ∧ a = 0) ∨ (i = .int .i64 2 ∧ a = 0 ∧ b = 0) ∨ (i = .int .i64 3 ∧ a = 0 ∧ b = 0 ∧ c = 0)) (fun i => match i with | .int _ n => 3 - n.toNat | _ => 0)
 case atStart => exact .inl rfl
 case round =>
  rcases hrel with rfl | ⟨rfl, ha⟩ | ⟨rfl, ha, hb⟩ | ⟨rfl, ha, hb, hc⟩
  ·go_wp2
   all_goals first
    | (go_ret; exact ⟨by first | rfl | (rw [hr1 (by simp_all)]; rfl), rfl⟩)
    | (simp; rename_i hz; simpa using hz)
  ·go_wp2
   all_goals first
    | (go_ret; exact ⟨by first | rfl | (rw [hr2 ha (by simp_all)]; rfl), rfl⟩)
    | (simp; rename_i hz; exact ⟨ha, by simpa using hz⟩)
  ·go_wp2
   all_goals first
    | (go_ret; exact ⟨by first | rfl | (rw [hr3 ha hb]; rfl), rfl⟩)
    | (simp; rename_i hz; exact ⟨ha, hb, by simpa using hz⟩)
  ·go_wp2
   go_ret
   exact ⟨by first | rfl | (rw [hr3 ha hb, hc]; rfl) | simp_all, rfl⟩
open Go.Sort
set_option maxRecDepth 100000 in
set_option maxHeartbeats 2000000 in
theorem Tryz.closureO (a1 a2 a3 b1 b2 b3 r : Int) (W : World) (hcmp : ∀ (x y : Int) (W' : World), Calls Tryz.prog 31 #[.int .i64 x, .int .i64 y] W' fun e w' => e = .returned (.int .i64 (Lib.compareInt x y)) ∧ w' = W')
  (hr1 : Lib.compareInt a3 b3 ≠ 0 → r = Lib.compareInt a3 b3) (hr2 : Lib.compareInt a3 b3 = 0 → Lib.compareInt a1 b1 ≠ 0 → r = Lib.compareInt a1 b1) (hr3 : Lib.compareInt a3 b3 = 0 → Lib.compareInt a1 b1 = 0 → r = Lib.compareInt a2 b2) :
  Calls Tryz.prog 29 #[.agg #[.int .i64 a1, .int .i64 a2, .int .i64 a3], .agg #[.int .i64 b1, .int .i64 b2, .int .i64 b3]] W fun e w' => e = .returned (.int .i64 r) ∧ ∃ q os', w' = Go.Sort.grow (W.drewN q) os' := by
 have h1 := fun W' => hcmp a3 b3 W'
 have h2 := fun W' => hcmp a1 b1 W'
 have h3 := fun W' => hcmp a2 b2 W'
 have hor := fun (blk : Nat) (w : World) h0 h1 h2 => Tryz.cmpOr3 blk (Lib.compareInt a3 b3) (Lib.compareInt a1 b1) (Lib.compareInt a2 b2) r hr1 hr2 hr3 w h0 h1 h2
 clear hr1 hr2 hr3 hcmp
 generalize Lib.compareInt a3 b3 = p at *
 generalize Lib.compareInt a1 b1 = s at *
 generalize Lib.compareInt a2 b2 = u at *
 go_enter Tryz.func29, Tryz.ntmps29
 go_wp2
 refine wp_region_still_tail 15 (by kernel_rfl) (by kernel_rfl) ?_
 simp only [List.take_succ_cons, List.take_zero, List.drop_succ_cons, List.drop_zero]
 generalize hw1 : ({ heap := _, tape := _, drawn := _, os := _, output := _ } : World) = w1
 have eh : w1.heap = (W.heap.push (.cells #[.int .i64 a1, .int .i64 a2, .int .i64 a3] 58 (0, 0))).push (.cells #[.int .i64 b1, .int .i64 b2, .int .i64 b3] 58 (0, 0)) := by subst hw1; rfl
 have c0 : w1.cell? ⟨W.heap.size, 0, none⟩ = some (.int .i64 a1) := by simp [World.cell?, eh, Array.getElem?_push, Array.getElem_push]
 have c1 : w1.cell? ⟨W.heap.size, 1, none⟩ = some (.int .i64 a2) := by simp [World.cell?, eh, Array.getElem?_push, Array.getElem_push]
 have c2 : w1.cell? ⟨W.heap.size, 2, none⟩ = some (.int .i64 a3) := by simp [World.cell?, eh, Array.getElem?_push, Array.getElem_push]
 have c3 : w1.cell? ⟨W.heap.size + 1, 0, none⟩ = some (.int .i64 b1) := by simp [World.cell?, eh, Array.getElem?_push, Array.getElem_push]
 have c4 : w1.cell? ⟨W.heap.size + 1, 1, none⟩ = some (.int .i64 b2) := by simp [World.cell?, eh, Array.getElem?_push, Array.getElem_push]
 have c5 : w1.cell? ⟨W.heap.size + 1, 2, none⟩ = some (.int .i64 b3) := by simp [World.cell?, eh, Array.getElem?_push, Array.getElem_push]
 have hg : ∃ q os', w1 = Go.Sort.grow (W.drewN q) os' := ⟨1, #[.cells #[.int .i64 a1, .int .i64 a2, .int .i64 a3] 58 (0, 0), .cells #[.int .i64 b1, .int .i64 b2, .int .i64 b3] 58 (0, 0)], by
  subst hw1
  unfold Go.Sort.grow World.drewN
  congr 1⟩
 clear eh
 clear hw1
 repeat still_step
 still_call (h1 w1)
 repeat still_step
 still_call (h2 w1)
 repeat still_step
 still_call (h3 w1)
 repeat still_step
 refine wpStill_nil ?_
 clear c0 c1 c2 c3 c4 c5 h1 h2 h3
 have e0 : (w1.alloc (.cells #[.int .i64 p, .int .i64 s, .int .i64 u] 3)).cell? ⟨w1.heap.size, 0, none⟩ = some (.int .i64 p) := by
  show (match (w1.heap.push (.cells #[.int .i64 p, .int .i64 s, .int .i64 u] 3 (0, 0)))[w1.heap.size]? with | some (.cells c _ _) => c[0]? | _ => none) = _
  simp
 have e1 : (w1.alloc (.cells #[.int .i64 p, .int .i64 s, .int .i64 u] 3)).cell? ⟨w1.heap.size, 1, none⟩ = some (.int .i64 s) := by
  show (match (w1.heap.push (.cells #[.int .i64 p, .int .i64 s, .int .i64 u] 3 (0, 0)))[w1.heap.size]? with | some (.cells c _ _) => c[1]? | _ => none) = _
  simp
 have e2 : (w1.alloc (.cells #[.int .i64 p, .int .i64 s, .int .i64 u] 3)).cell? ⟨w1.heap.size, 2, none⟩ = some (.int .i64 u) := by
  show (match (w1.heap.push (.cells #[.int .i64 p, .int .i64 s, .int .i64 u] 3 (0, 0)))[w1.heap.size]? with | some (.cells c _ _) => c[2]? | _ => none) = _
  simp
 have hor2 := hor _ _ e0 e1 e2
 clear hor e0 e1 e2
 go_wp2_with (go_at_call 30; refine hor2.mono ?_; rintro e w' ⟨rfl, rfl⟩)
 go_ret
 obtain ⟨q0, os0, rfl⟩ := hg
 exact ⟨rfl, q0, os0 ++ #[.cells #[.int .i64 p, .int .i64 s, .int .i64 u] 3 (0, 0)], by rw [Go.Sort.alloc_eq_grow, Go.Sort.grow_grow]⟩
end Go.Proofs

/- The closure that compares two offers against its model. Conditions: none. -/
namespace Go.Proofs
open Go Go.Md Go.M
theorem Tryz.or_model3 (p s u : Int) : W2 [p, s, u] = some (if p ≠ 0 then p else if s ≠ 0 then s else u) := by
 unfold W2
 by_cases h : p = 0
 ·subst h
  rw [Yr (b := (1 : Int)) (fun next => by simp [Q4, Jk, gI])]
  by_cases h2 : s = 0
  ·subst h2
   rw [Yr (b := (2 : Int)) (fun next => by simp [Q4, Jk, gI])]
   by_cases h3 : u = 0
   ·subst h3
    rw [Yr (b := (3 : Int)) (fun next => by simp [Q4, Jk, gI])]
    rw [Q8 (o := some 0) (fun next => by simp [Q4])]
    rfl
   ·rw [Q8 (o := some u) (fun next => by simp [Q4, Jk, h3])]
    simp
  ·rw [Q8 (o := some s) (fun next => by simp [Q4, Jk, h2])]
   simp [h2]
 ·rw [Q8 (o := some p) (fun next => by simp [Q4, Jk, h])]
  simp [h]
theorem Tryz.offers_model (x y : T_face_offer) : Wu x y = some (if Lib.compareInt x.far_ y.far_ ≠ 0 then Lib.compareInt x.far_ y.far_ else if Lib.compareInt x.id_ y.id_ ≠ 0 then Lib.compareInt x.id_ y.id_ else Lib.compareInt x.person_ y.person_) := by
 unfold Wu
 rw [Tryz.compare_model, Jb, Tryz.compare_model, Jb, Tryz.compare_model, Jb, Tryz.or_model3, Jb]
theorem Tryz.cmpO (x y : T_face_offer) (v : Int) (W : World) (hv : Wu x y = some v) :
  Calls Tryz.prog 29 #[.agg #[.int .i64 x.id_, .int .i64 x.person_, .int .i64 x.far_], .agg #[.int .i64 y.id_, .int .i64 y.person_, .int .i64 y.far_]] W fun e w' => e = .returned (.int .i64 v) ∧ ∃ q os', w' = Go.Sort.grow (W.drewN q) os' := by
 rw [Tryz.offers_model] at hv
 cases hv
 refine Tryz.closureO x.id_ x.person_ x.far_ y.id_ y.person_ y.far_ _ W (fun a b W' => ?_) (fun h => if_pos h) (fun h h2 => by rw [if_neg (by simpa using h), if_pos h2]) (fun h h2 => by rw [if_neg (by simpa using h), if_neg (by simpa using h2)])
 exact AnyG.cmp_Compare_int Tryz.cmpI55 a b W'
theorem Tryz.entersO (args : Array Value) (w : World) : (callFunc 29 args).run Tryz.prog w = .ok (.enter 29 args) w := enters_of Tryz.func29 (by kernel_rfl) rfl args w
end Go.Proofs

/- The closure that compares two pairs of the reference, walked with the kit's own tactics. Conditions: none. -/
namespace Go.Proofs
open Go
open Go.Sort
set_option maxRecDepth 100000 in
set_option maxHeartbeats 2000000 in
theorem Tryz.closureR (a1 a2 a3 b1 b2 b3 r : Int) (W : World) (hcmp : ∀ (x y : Int) (W' : World), Calls Tryz.prog 31 #[.int .i64 x, .int .i64 y] W' fun e w' => e = .returned (.int .i64 (Lib.compareInt x y)) ∧ w' = W')
  (hr1 : Lib.compareInt a1 b1 ≠ 0 → r = Lib.compareInt a1 b1) (hr2 : Lib.compareInt a1 b1 = 0 → Lib.compareInt a2 b2 ≠ 0 → r = Lib.compareInt a2 b2) (hr3 : Lib.compareInt a1 b1 = 0 → Lib.compareInt a2 b2 = 0 → r = Lib.compareInt a3 b3) :
  Calls Tryz.prog 66 #[.agg #[.int .i64 a1, .int .i64 a2, .int .i64 a3], .agg #[.int .i64 b1, .int .i64 b2, .int .i64 b3]] W fun e w' => e = .returned (.int .i64 r) ∧ ∃ q os', w' = Go.Sort.grow (W.drewN q) os' := by
 have h1 := fun W' => hcmp a1 b1 W'
 have h2 := fun W' => hcmp a2 b2 W'
 have h3 := fun W' => hcmp a3 b3 W'
 have hor := fun (blk : Nat) (w : World) h0 h1 h2 => Tryz.cmpOr3 blk (Lib.compareInt a1 b1) (Lib.compareInt a2 b2) (Lib.compareInt a3 b3) r hr1 hr2 hr3 w h0 h1 h2
 clear hr1 hr2 hr3 hcmp
 generalize Lib.compareInt a1 b1 = p at *
 generalize Lib.compareInt a2 b2 = s at *
 generalize Lib.compareInt a3 b3 = u at *
 go_enter Tryz.func66, Tryz.ntmps66
 go_wp2
 refine wp_region_still_tail 15 (by kernel_rfl) (by kernel_rfl) ?_
 simp only [List.take_succ_cons, List.take_zero, List.drop_succ_cons, List.drop_zero]
 generalize hw1 : ({ heap := _, tape := _, drawn := _, os := _, output := _ } : World) = w1
 have eh : w1.heap = (W.heap.push (.cells #[.int .i64 a1, .int .i64 a2, .int .i64 a3] 90 (0, 0))).push (.cells #[.int .i64 b1, .int .i64 b2, .int .i64 b3] 90 (0, 0)) := by subst hw1; rfl
 have c0 : w1.cell? ⟨W.heap.size, 0, none⟩ = some (.int .i64 a1) := by simp [World.cell?, eh, Array.getElem?_push, Array.getElem_push]
 have c1 : w1.cell? ⟨W.heap.size, 1, none⟩ = some (.int .i64 a2) := by simp [World.cell?, eh, Array.getElem?_push, Array.getElem_push]
 have c2 : w1.cell? ⟨W.heap.size, 2, none⟩ = some (.int .i64 a3) := by simp [World.cell?, eh, Array.getElem?_push, Array.getElem_push]
 have c3 : w1.cell? ⟨W.heap.size + 1, 0, none⟩ = some (.int .i64 b1) := by simp [World.cell?, eh, Array.getElem?_push, Array.getElem_push]
 have c4 : w1.cell? ⟨W.heap.size + 1, 1, none⟩ = some (.int .i64 b2) := by simp [World.cell?, eh, Array.getElem?_push, Array.getElem_push]
 have c5 : w1.cell? ⟨W.heap.size + 1, 2, none⟩ = some (.int .i64 b3) := by simp [World.cell?, eh, Array.getElem?_push, Array.getElem_push]
 have hg : ∃ q os', w1 = Go.Sort.grow (W.drewN q) os' := ⟨1, #[.cells #[.int .i64 a1, .int .i64 a2, .int .i64 a3] 90 (0, 0), .cells #[.int .i64 b1, .int .i64 b2, .int .i64 b3] 90 (0, 0)], by
  subst hw1
  unfold Go.Sort.grow World.drewN
  congr 1⟩
 clear eh
 clear hw1
 repeat still_step
 still_call (h1 w1)
 repeat still_step
 still_call (h2 w1)
 repeat still_step
 still_call (h3 w1)
 repeat still_step
 refine wpStill_nil ?_
 clear c0 c1 c2 c3 c4 c5 h1 h2 h3
 have e0 : (w1.alloc (.cells #[.int .i64 p, .int .i64 s, .int .i64 u] 3)).cell? ⟨w1.heap.size, 0, none⟩ = some (.int .i64 p) := by
  show (match (w1.heap.push (.cells #[.int .i64 p, .int .i64 s, .int .i64 u] 3 (0, 0)))[w1.heap.size]? with | some (.cells c _ _) => c[0]? | _ => none) = _
  simp
 have e1 : (w1.alloc (.cells #[.int .i64 p, .int .i64 s, .int .i64 u] 3)).cell? ⟨w1.heap.size, 1, none⟩ = some (.int .i64 s) := by
  show (match (w1.heap.push (.cells #[.int .i64 p, .int .i64 s, .int .i64 u] 3 (0, 0)))[w1.heap.size]? with | some (.cells c _ _) => c[1]? | _ => none) = _
  simp
 have e2 : (w1.alloc (.cells #[.int .i64 p, .int .i64 s, .int .i64 u] 3)).cell? ⟨w1.heap.size, 2, none⟩ = some (.int .i64 u) := by
  show (match (w1.heap.push (.cells #[.int .i64 p, .int .i64 s, .int .i64 u] 3 (0, 0)))[w1.heap.size]? with | some (.cells c _ _) => c[2]? | _ => none) = _
  simp
 have hor2 := hor _ _ e0 e1 e2
 clear hor e0 e1 e2
 go_wp2_with (go_at_call 30; refine hor2.mono ?_; rintro e w' ⟨rfl, rfl⟩)
 go_ret
 obtain ⟨q0, os0, rfl⟩ := hg
 exact ⟨rfl, q0, os0 ++ #[.cells #[.int .i64 p, .int .i64 s, .int .i64 u] 3 (0, 0)], by rw [Go.Sort.alloc_eq_grow, Go.Sort.grow_grow]⟩
end Go.Proofs

/- The closure that compares two pairs of the reference against its model. Conditions: none. -/
namespace Go.Proofs
open Go Go.Md Go.M
theorem Tryz.pairs_model (x y : T_tintref2_pair) : Jb8 x y = some (if Lib.compareInt x.far_ y.far_ ≠ 0 then Lib.compareInt x.far_ y.far_ else if Lib.compareInt x.like_ y.like_ ≠ 0 then Lib.compareInt x.like_ y.like_ else Lib.compareInt x.person_ y.person_) := by
 unfold Jb8
 rw [Tryz.compare_model, Jb, Tryz.compare_model, Jb, Tryz.compare_model, Jb, Tryz.or_model3, Jb]
theorem Tryz.cmpP (x y : T_tintref2_pair) (v : Int) (W : World) (hv : Jb8 x y = some v) :
  Calls Tryz.prog 66 #[.agg #[.int .i64 x.far_, .int .i64 x.like_, .int .i64 x.person_], .agg #[.int .i64 y.far_, .int .i64 y.like_, .int .i64 y.person_]] W fun e w' => e = .returned (.int .i64 v) ∧ ∃ q os', w' = Go.Sort.grow (W.drewN q) os' := by
 rw [Tryz.pairs_model] at hv
 cases hv
 refine Tryz.closureR x.far_ x.like_ x.person_ y.far_ y.like_ y.person_ _ W (fun a b W' => ?_) (fun h => if_pos h) (fun h h2 => by rw [if_neg (by simpa using h), if_pos h2]) (fun h h2 => by rw [if_neg (by simpa using h), if_neg (by simpa using h2)])
 exact AnyG.cmp_Compare_int Tryz.cmpI55 a b W'
theorem Tryz.entersP (args : Array Value) (w : World) : (callFunc 66 args).run Tryz.prog w = .ok (.enter 66 args) w := enters_of Tryz.func66 (by kernel_rfl) rfl args w
end Go.Proofs

/- The closure that compares two people by their numbers, walked with the kit's own tactics. Conditions: the numbers' difference is an int. -/
namespace Go.Proofs
open Go Go.Sort
set_option maxRecDepth 100000 in
set_option maxHeartbeats 2000000 in
theorem Tryz.closureN (i1 i2 : Int) (s1 s2 : ByteArray) (a1 b1 a2 b2 : Option Addr) (n1 c1 m1 d1 n2 c2 m2 d2 : Nat) (W : World) (hr : -9223372036854775808 ≤ i1 - i2 ∧ i1 - i2 ≤ 9223372036854775807) :
  Calls Tryz.prog 69 #[.agg #[.int .i64 i1, .string s1, .slice a1 n1 c1, .slice b1 m1 d1], .agg #[.int .i64 i2, .string s2, .slice a2 n2 c2, .slice b2 m2 d2]] W fun e w' => e = .returned (.int .i64 (i1 - i2)) ∧ ∃ q os', w' = Go.Sort.grow (W.drewN q) os' := by
 have hw : IntKind.i64.wrap (i1 - i2) = i1 - i2 := IntWalk.i64_in _ hr
 go_enter Tryz.func69, Tryz.ntmps69
 go_wp2
 go_ret
 exact ⟨rfl, 0, #[.cells #[.int .i64 i1, .string s1, .slice a1 n1 c1, .slice b1 m1 d1] 32 (0, 0), .cells #[.int .i64 i2, .string s2, .slice a2 n2 c2, .slice b2 m2 d2] 32 (0, 0)], by rw [Go.Sort.alloc_eq_grow, Go.Sort.alloc_eq_grow, show W.drewN 0 = W from rfl]; first | rw [Go.Sort.grow_grow]; rfl | rfl⟩
theorem Tryz.entersN (args : Array Value) (w : World) : (callFunc 69 args).run Tryz.prog w = .ok (.enter 69 args) w := enters_of Tryz.func69 (by kernel_rfl) rfl args w
end Go.Proofs
