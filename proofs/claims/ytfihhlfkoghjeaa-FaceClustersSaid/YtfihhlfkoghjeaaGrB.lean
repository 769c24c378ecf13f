/- Tables: the walks of merge and newTable. Conditions: the model yields a value. -/
import Derived.Test.YtfihhlfkoghjeaaLx15
import Derived.Shelf.SlGeneric
import Derived.Shelf.SlIterI.Nil
import Derived.Ground.GgzProg
import Derived.Test.YtfihhlfkoghjeaaProg
set_option linter.unusedVariables false
namespace Go.Proofs.Ytfihhlfkoghjeaa
open Go Go.Vc Go.Md Go.M Go.Lx
set_option maxRecDepth 100000
set_option maxHeartbeats 4000000
set_option linter.unusedVariables false

theorem sq_at {α : Type} {n : Nat} {t : List (List α)} (h : sqT n t) {a : Nat} (ha : a < n) : ∃ xs, t[a]? = some xs ∧ xs.length = n := by
  have hl : a < t.length := by rw [h.1]; exact ha
  exact ⟨t[a], List.getElem?_eq_getElem hl, h.2 _ (List.getElem_mem hl)⟩
theorem get2_at {α : Type} {z : α} {t : List (List α)} {a k : Nat} {xs : List α} (hx : t[a]? = some xs) (hk : k < xs.length) : get2 z t a k = xs[k] := by
  unfold get2
  simp only [List.getD_eq_getElem?_getD, hx, Option.getD_some, List.getElem?_eq_getElem hk]
theorem set2_at {α : Type} {t : List (List α)} {a b : Nat} {v : α} {xs : List α} (hx : t[a]? = some xs) : set2 t a b v = t.set a (xs.set b v) := by
  unfold set2
  apply List.ext_getElem?
  intro i
  rw [List.getElem?_modify, List.getElem?_set]
  by_cases h : a = i
  · subst h
    obtain ⟨h1, h2⟩ := List.getElem?_eq_some_iff.1 hx
    simp [h1, h2]
  · simp [h]
theorem sq_set2 {α : Type} {n : Nat} {t : List (List α)} (h : sqT n t) (a b : Nat) (v : α) : sqT n (set2 t a b v) := by
  unfold set2
  refine ⟨by rw [List.length_modify]; exact h.1, fun r hr => ?_⟩
  obtain ⟨i, hi⟩ := List.mem_iff_getElem?.1 hr
  rw [List.getElem?_modify] at hi
  cases ht : t[i]? with
  | none => rw [ht] at hi; cases hi
  | some x =>
    rw [ht] at hi
    have hx := h.2 x (List.mem_of_getElem? ht)
    split at hi
    · simp at hi; rw [← hi]; simpa using hx
    · simp at hi; rw [← hi]; exact hx
theorem rows_set2 {α : Type} {us : List (Option Addr × Nat)} {t : List (List α)} {a b : Nat} {v : α} : rowsG us (set2 t a b v) = rowsG us t := by
  cases hx : t[a]? with
  | none =>
    have : set2 t a b v = t := by
      unfold set2
      apply List.ext_getElem?
      intro i
      rw [List.getElem?_modify]
      by_cases h : a = i
      · subst h; simp [hx]
      · simp [h]
    rw [this]
  | some xs => rw [set2_at hx]; exact rowsG_same hx (by simp)
theorem kid_len {cx : Cx} {L : List Chunk} {w : World} {i E : Nat} {α : Type} {en : α → List Value} {us : List (Option Addr × Nat)} {xss : List (List α)} (hS : Sat cx w L) (hL : L[i]? = some (kidsC E en us xss)) : us.length = xss.length := by
  obtain ⟨S, ⟨hp, ⟨bs, ⟨hl, _⟩, _⟩, _⟩, _⟩ := hS.at hL
  exact hl
def tabC (p q : Option Addr × Nat) (us vs : List (Option Addr × Nat)) (n : Nat) (t : T_face_table) : Chunk := bothC (rowV 30 1 (.slice p.1 n p.2) n (rowsG us t.gap_)) (bothC (kidsC 3 e_i64 us t.gap_) (bothC (rowV 78 1 (.slice q.1 n q.2) n (rowsG vs t.apart_)) (kidsC 4 e_bool vs t.apart_)))
def tabN (a b : Nat) (t : T_face_table) (i : Nat) : T_face_table := (List.range i).foldl (mergeT a b) t
theorem tabN_succ (a b : Nat) (t : T_face_table) (i : Nat) : tabN a b t (i + 1) = mergeT a b (tabN a b t i) i := by
  unfold tabN; rw [List.range_succ, List.foldl_append]; rfl
theorem tabN_inv {n a b : Nat} {t : T_face_table} {us vs : List (Option Addr × Nat)} (h1 : sqT n t.gap_) (h2 : sqT n t.apart_) : ∀ i, sqT n (tabN a b t i).gap_ ∧ sqT n (tabN a b t i).apart_ ∧ rowsG us (tabN a b t i).gap_ = rowsG us t.gap_ ∧ rowsG vs (tabN a b t i).apart_ = rowsG vs t.apart_
  | 0 => ⟨h1, h2, rfl, rfl⟩
  | i + 1 => by
    obtain ⟨i1, i2, i3, i4⟩ := tabN_inv (us := us) (vs := vs) h1 h2 i
    rw [tabN_succ]
    exact ⟨sq_set2 (sq_set2 i1 _ _ _) _ _ _, sq_set2 (sq_set2 i2 _ _ _) _ _ _, by show rowsG us (set2 (set2 _ _ _ _) _ _ _) = _; rw [rows_set2, rows_set2, i3], by show rowsG vs (set2 (set2 _ _ _ _) _ _ _) = _; rw [rows_set2, rows_set2, i4]⟩
theorem capOf {cx : Cx} {L : List Chunk} {w : World} {i E n c : Nat} {a : Option Addr} {xs : List (List Value)} (hS : Sat cx w L) (hL : L[i]? = some (rowV E 1 (.slice a n c) n xs)) : n ≤ 9223372036854775807 := by
  obtain ⟨S, ⟨⟨h1, h2, h3⟩, _⟩, _⟩ := hS.at hL
  rcases h1.2 with ⟨e, h0⟩ | ⟨g, cap, cur, hv, _, _, hnc, hcap, _⟩
  · omega
  · have : cap ≤ 9223372036854775807 := by simpa [maxLen] using hcap
    omega
theorem us_at {n a : Nat} {us : List (Option Addr × Nat)} (h : us.length = n) (ha : a < n) : ∃ u, us[a]? = some u := ⟨us[a]'(by omega), List.getElem?_eq_getElem _⟩
theorem gAt_some' {α : Type} {l : List α} {k : Nat} {x : α} (h : l[k]? = some x) : gAt l ((k : Nat) : Int) = some x := by
  obtain ⟨h1, h2⟩ := List.getElem?_eq_some_iff.1 h
  rw [gAt_nat h1, h2]
theorem k54 {p q : Option Addr × Nat} {us vs : List (Option Addr × Nat)} {n : Nat} {a0 r : T_face_table} {a1 a2 : Int} {w : World} {h : Heap} {S : Nat → Prop} (hcs : (tabC p q us vs n a0).P S w) (hlt : ∀ b, S b → b < w.heap.size) (hw : Know h w S) (hn : n = a0.gap_.length) (H : face_table_merge a0 a1 a2 = some r) :
    Does Try.prog 54 (List.toArray [.agg #[.slice p.1 n p.2, .slice q.1 n q.2], .int .i64 a1, .int .i64 a2]) w (fun v w' => ∃ x : Unit, v = .tuple #[] ∧ Turn w w' S (tabC p q us vs n r)) := by
 unfold face_table_merge at H
 split at H
 case isFalse => cases H
 rename_i hc
 obtain rfl := Option.some.inj H
 rw [← hn] at hc
 obtain ⟨sq1, sq2, ha0, ha1, hb0, hb1⟩ := hc
 have ea : a1 = ((a1.toNat : Nat) : Int) := (Int.toNat_of_nonneg ha0).symm
 have eb : a2 = ((a2.toNat : Nat) : Int) := (Int.toNat_of_nonneg hb0).symm
 generalize a1.toNat = a at ea
 generalize a2.toNat = b at eb
 subst ea eb
 rw [← hn]
 have hal : a < n := by omega
 have hbl : b < n := by omega
 have hnm : n ≤ 9223372036854775807 ∨ True := .inr trivial
 refine enter (n := 83) Try.func54 rfl rfl rfl S [tabC p q us vs n a0] (Sat.one hcs hlt) ?_
 refine c_split 0 rfl ?_
 refine c_split 1 rfl ?_
 refine c_split 2 rfl ?_
 try dsimp only [z1, z2, z3, z4, z5, z6, z7, z8]
 refine c_know (fun w hF hS => And.intro (kid_len (i := 1) hS rfl) (And.intro (kid_len (i := 3) hS rfl) (capOf (i := 0) hS rfl))) (fun hul => ?_)
 obtain ⟨hu1, hu2, hcap⟩ := hul
 rw [sq1.1] at hu1
 rw [sq2.1] at hu2
 refine c_seq ?_
 refine c_region ?_
 refine l_box (cs := [.slice p.1 n p.2, .slice q.1 n q.2]) rfl rfl rfl rfl (fun b3 => ?_)
 refine l_nil ?_
 try dsimp only [z1, z2, z3, z4, z5, z6, z7, z8]
 refine c_seq ?_
 refine c_region ?_
 refine l_val rfl rfl rfl (r_field Try.runUnderlying94 rfl Try.sizeOf25 rfl rfl) ?_
 refine l_load1 (i := 4) (v := (.slice p.1 n p.2)) Try.isAgg25 rfl rfl rfl rfl rfl ?_
 refine l_val rfl rfl rfl (r_len Try.underlying25 rfl) ?_
 refine l_val rfl rfl rfl (r_move (v := .int .i64 0) rfl) ?_
 refine l_nil ?_
 try dsimp only [z1, z2, z3, z4, z5, z6, z7, z8]
 refine c_block ?_
 refine c_loop (σ := Nat) (fun s => [(1, .int .i64 (a : Int)), (2, .int .i64 (b : Int)), (3, .pointer (some ⟨b3, 0, none⟩)), (11, .int .i64 (n : Int)), (12, .int .i64 (s : Int))]) (fun s => [rowV 30 1 (.slice p.1 n p.2) n (rowsG us a0.gap_), kidsC 3 e_i64 us (tabN a b a0 s).gap_, rowV 78 1 (.slice q.1 n q.2) n (rowsG vs a0.apart_), kidsC 4 e_bool vs (tabN a b a0 s).apart_, cellsC b3 [.slice p.1 n p.2, .slice q.1 n q.2] 94]) (fun s => s ≤ n) (fun s => n - s) 0 [0, 1, 2, 3, 4] (Nat.zero_le _) (by exact ⟨rfl, rfl, rfl, rfl, rfl, trivial⟩) (by decide) (by kernel_rfl) ?_
 intro k g hkn
 try dsimp only at hkn
 try dsimp only
 refine c_seq ?_
 refine c_region ?_
 refine l_val rfl rfl rfl (r_lss rfl rfl) ?_
 refine l_nil ?_
 refine c_seq ?_
 refine c_if (b := decide ((k : Int) < (n : Int))) rfl (fun hb => ?_) (fun hb => ?_)
 · have hkl : k < n := by have := of_decide_eq_true hb; omega
   obtain ⟨i1, i2, i3, i4⟩ := tabN_inv (a := a) (b := b) (us := us) (vs := vs) sq1 sq2 k
   have hstep := tabN_succ a b a0 k
   rw [← i3, ← i4]
   have hRg : n = (rowsG us (tabN a b a0 k).gap_).length := by rw [rowsG_len (by rw [hu1, i1.1]), i1.1]
   have hRa : n = (rowsG vs (tabN a b a0 k).apart_).length := by rw [rowsG_len (by rw [hu2, i2.1]), i2.1]
   generalize hnext : tabN a b a0 (k + 1) = T1 at hstep
   generalize hT : tabN a b a0 k = T0 at *
   subst hstep
   obtain ⟨g0, p0⟩ := T0
   try dsimp only at i1 i2 i3 i4 hRg hRa
   try dsimp only
   obtain ⟨xa, hxa, lxa⟩ := sq_at i1 hal
   obtain ⟨u0a, hu0a⟩ := us_at hu1 hal
   have rxa := gAt_some' (rowsG_at hu0a hxa)
   obtain ⟨xb, hxb, lxb⟩ := sq_at i1 hbl
   obtain ⟨u0b, hu0b⟩ := us_at hu1 hbl
   have rxb := gAt_some' (rowsG_at hu0b hxb)
   obtain ⟨xk, hxk, lxk⟩ := sq_at i1 hkl
   obtain ⟨u0k, hu0k⟩ := us_at hu1 hkl
   have rxk := gAt_some' (rowsG_at hu0k hxk)
   have cxa := gAt_nat (xs := xa) (k := k) (by omega)
   have exa := get2_at (z := 0) hxa (k := k) (by omega)
   generalize hxav : xa[k] = vxa at cxa exa
   have cxb := gAt_nat (xs := xb) (k := k) (by omega)
   have exb := get2_at (z := 0) hxb (k := k) (by omega)
   generalize hxbv : xb[k] = vxb at cxb exb
   obtain ⟨ya, hya, lya⟩ := sq_at i2 hal
   obtain ⟨u1a, hu1a⟩ := us_at hu2 hal
   have rya := gAt_some' (rowsG_at hu1a hya)
   obtain ⟨yb, hyb, lyb⟩ := sq_at i2 hbl
   obtain ⟨u1b, hu1b⟩ := us_at hu2 hbl
   have ryb := gAt_some' (rowsG_at hu1b hyb)
   obtain ⟨yk, hyk, lyk⟩ := sq_at i2 hkl
   obtain ⟨u1k, hu1k⟩ := us_at hu2 hkl
   have ryk := gAt_some' (rowsG_at hu1k hyk)
   have cya := gAt_nat (xs := ya) (k := k) (by omega)
   have eya := get2_at (z := false) hya (k := k) (by omega)
   generalize hyav : ya[k] = vya at cya eya
   have cyb := gAt_nat (xs := yb) (k := k) (by omega)
   have eyb := get2_at (z := false) hyb (k := k) (by omega)
   generalize hybv : yb[k] = vyb at cyb eyb
   refine c_skip ?_
   refine c_seq ?_
   refine c_block ?_
   refine c_seq ?_
   refine c_region ?_
   refine l_val rfl rfl rfl (r_move (v := .int .i64 (k : Int)) rfl) ?_
   refine l_val rfl rfl rfl (r_assign (v := .int .i64 (k : Int)) rfl) ?_
   refine l_nil ?_
   refine c_seq ?_
   refine c_regionD (Kd.p :: Kd.d [4] (.slice p.1 n p.2) :: Kd.p :: Kd.d [0] (ptrAt p.1 (Int.toNat ((a : Nat) : Int) * 1)) :: Kd.d [0] (slvG u0a xa) :: Kd.p :: Kd.d [1] (ptrAt u0a.1 (Int.toNat ((k : Nat) : Int) * 1)) :: Kd.d [1] (.int .i64 vxa) :: Kd.p :: Kd.d [4] (.slice p.1 n p.2) :: Kd.p :: Kd.d [0] (ptrAt p.1 (Int.toNat ((b : Nat) : Int) * 1)) :: Kd.d [0] (slvG u0b xb) :: Kd.p :: Kd.d [1] (ptrAt u0b.1 (Int.toNat ((k : Nat) : Int) * 1)) :: Kd.d [1] (.int .i64 vxb) :: Kd.p :: Kd.p :: []) 0 mixed ?_ (by kernel_rfl)
   refine d_val rfl rfl (r_field Try.runUnderlying94 rfl Try.sizeOf25 rfl rfl) ?_
   refine d_load1 (i := 4) (v := (.slice p.1 n p.2)) Try.isAgg25 rfl rfl rfl rfl ?_
   refine d_val rfl rfl (r_move (v := .int .i64 (a : Int)) rfl) ?_
   refine d_readD (fun w L' hF hS hi => run_indexO Try.underlying25 Try.sizeOf30 rfl rfl (rowOfI (i := 0) (E := 30) (sz := 1) (n := n) (a := p.1) (c := p.2) hS ((hi 0 (by simp)).trans rfl)) hRg rxa) rfl rfl ?_
   refine d_readD (fun w L' hF hS hi => run_loadG1 (f := idC) (i := ((a : Nat) : Int)) (sz := 1) (j := 0) (v := slvG u0a xa) Try.isAgg30 rfl rfl (rowOfI (i := 0) (E := 30) (sz := 1) (n := n) (a := p.1) (c := p.2) hS ((hi 0 (by simp)).trans rfl)) rxa rfl) rfl rfl ?_
   refine d_val rfl rfl (r_move (v := .int .i64 (k : Int)) rfl) ?_
   refine d_readD (fun w L' hF hS hi => run_indexO Try.underlying30 Try.sizeOf3 rfl rfl (kidRow (i := 1) (E := 3) (en := e_i64) hS ((hi 1 (by simp)).trans rfl) hu0a hxa) rfl cxa) rfl rfl ?_
   refine d_readD (fun w L' hF hS hi => run_loadG1 (f := e_i64) (i := ((k : Nat) : Int)) (sz := 1) (j := 0) (v := .int .i64 vxa) Try.isAgg3 rfl rfl (kidRow (i := 1) (E := 3) (en := e_i64) hS ((hi 1 (by simp)).trans rfl) hu0a hxa) cxa rfl) rfl rfl ?_
   refine d_val rfl rfl (r_field Try.runUnderlying94 rfl Try.sizeOf25 rfl rfl) ?_
   refine d_load1 (i := 4) (v := (.slice p.1 n p.2)) Try.isAgg25 rfl rfl rfl rfl ?_
   refine d_val rfl rfl (r_move (v := .int .i64 (b : Int)) rfl) ?_
   refine d_readD (fun w L' hF hS hi => run_indexO Try.underlying25 Try.sizeOf30 rfl rfl (rowOfI (i := 0) (E := 30) (sz := 1) (n := n) (a := p.1) (c := p.2) hS ((hi 0 (by simp)).trans rfl)) hRg rxb) rfl rfl ?_
   refine d_readD (fun w L' hF hS hi => run_loadG1 (f := idC) (i := ((b : Nat) : Int)) (sz := 1) (j := 0) (v := slvG u0b xb) Try.isAgg30 rfl rfl (rowOfI (i := 0) (E := 30) (sz := 1) (n := n) (a := p.1) (c := p.2) hS ((hi 0 (by simp)).trans rfl)) rxb rfl) rfl rfl ?_
   refine d_val rfl rfl (r_move (v := .int .i64 (k : Int)) rfl) ?_
   refine d_readD (fun w L' hF hS hi => run_indexO Try.underlying30 Try.sizeOf3 rfl rfl (kidRow (i := 1) (E := 3) (en := e_i64) hS ((hi 1 (by simp)).trans rfl) hu0b hxb) rfl cxb) rfl rfl ?_
   refine d_readD (fun w L' hF hS hi => run_loadG1 (f := e_i64) (i := ((k : Nat) : Int)) (sz := 1) (j := 0) (v := .int .i64 vxb) Try.isAgg3 rfl rfl (kidRow (i := 1) (E := 3) (en := e_i64) hS ((hi 1 (by simp)).trans rfl) hu0b hxb) cxb rfl) rfl rfl ?_
   refine d_val rfl rfl (r_min rfl rfl) ?_
   refine d_val rfl rfl (r_assign (v := .int .i64 (min vxa vxb)) rfl) ?_
   refine d_nil ?_
   try dsimp only [z1, z2, z3, z4, z5, z6, z7, z8]
   have s01 : set2 g0 a k (min vxa vxb) = g0.set a (xa.set k (min vxa vxb)) := set2_at hxa
   have q01 := sq_set2 i1 a k (min vxa vxb)
   obtain ⟨z0, hz0, lz0⟩ := sq_at q01 hkl
   have s02 : set2 (set2 g0 a k (min vxa vxb)) k a (min vxa vxb) = (g0.set a (xa.set k (min vxa vxb))).set k (z0.set a (min vxa vxb)) := by rw [set2_at hz0, s01]
   rw [s01] at hz0
   have cz0 := gAt_nat (xs := z0) (k := a) (by omega)
   have lk0 : xk.length = z0.length := by omega
   refine c_seq ?_
   refine c_regionD (Kd.p :: Kd.d [4] (.slice p.1 n p.2) :: Kd.p :: Kd.d [0] (ptrAt p.1 (Int.toNat ((a : Nat) : Int) * 1)) :: Kd.d [0] (slvG u0a xa) :: Kd.p :: Kd.p :: Kd.d [4] (.slice p.1 n p.2) :: Kd.p :: Kd.d [0] (ptrAt p.1 (Int.toNat ((k : Nat) : Int) * 1)) :: Kd.d [0] (slvG u0k xk) :: Kd.p :: Kd.p :: Kd.p :: Kd.d [1] (ptrAt u0a.1 (Int.toNat ((k : Nat) : Int) * 1)) :: Kd.sr 1 (kidsC 3 e_i64 us (g0.set a (xa.set k (min vxa vxb)))) :: Kd.d [1] (ptrAt u0k.1 (Int.toNat ((a : Nat) : Int) * 1)) :: Kd.sr 1 (kidsC 3 e_i64 us ((g0.set a (xa.set k (min vxa vxb))).set k (z0.set a (min vxa vxb)))) :: []) 0 mixed ?_ (by kernel_rfl)
   refine d_val rfl rfl (r_field Try.runUnderlying94 rfl Try.sizeOf25 rfl rfl) ?_
   refine d_load1 (i := 4) (v := (.slice p.1 n p.2)) Try.isAgg25 rfl rfl rfl rfl ?_
   refine d_val rfl rfl (r_move (v := .int .i64 (a : Int)) rfl) ?_
   refine d_readD (fun w L' hF hS hi => run_indexO Try.underlying25 Try.sizeOf30 rfl rfl (rowOfI (i := 0) (E := 30) (sz := 1) (n := n) (a := p.1) (c := p.2) hS ((hi 0 (by simp)).trans rfl)) hRg rxa) rfl rfl ?_
   refine d_readD (fun w L' hF hS hi => run_loadG1 (f := idC) (i := ((a : Nat) : Int)) (sz := 1) (j := 0) (v := slvG u0a xa) Try.isAgg30 rfl rfl (rowOfI (i := 0) (E := 30) (sz := 1) (n := n) (a := p.1) (c := p.2) hS ((hi 0 (by simp)).trans rfl)) rxa rfl) rfl rfl ?_
   refine d_val rfl rfl (r_move (v := .int .i64 (k : Int)) rfl) ?_
   refine d_val rfl rfl (r_field Try.runUnderlying94 rfl Try.sizeOf25 rfl rfl) ?_
   refine d_load1 (i := 4) (v := (.slice p.1 n p.2)) Try.isAgg25 rfl rfl rfl rfl ?_
   refine d_val rfl rfl (r_move (v := .int .i64 (k : Int)) rfl) ?_
   refine d_readD (fun w L' hF hS hi => run_indexO Try.underlying25 Try.sizeOf30 rfl rfl (rowOfI (i := 0) (E := 30) (sz := 1) (n := n) (a := p.1) (c := p.2) hS ((hi 0 (by simp)).trans rfl)) hRg rxk) rfl rfl ?_
   refine d_readD (fun w L' hF hS hi => run_loadG1 (f := idC) (i := ((k : Nat) : Int)) (sz := 1) (j := 0) (v := slvG u0k xk) Try.isAgg30 rfl rfl (rowOfI (i := 0) (E := 30) (sz := 1) (n := n) (a := p.1) (c := p.2) hS ((hi 0 (by simp)).trans rfl)) rxk rfl) rfl rfl ?_
   refine d_val rfl rfl (r_move (v := .int .i64 (a : Int)) rfl) ?_
   refine d_val rfl rfl (r_move (v := .int .i64 (min vxa vxb)) rfl) ?_
   refine d_val rfl rfl (r_move (v := .int .i64 (min vxa vxb)) rfl) ?_
   refine d_readD (fun w L' hF hS hi => run_indexO Try.underlying30 Try.sizeOf3 rfl rfl (kidRow (i := 1) (E := 3) (en := e_i64) hS ((hi 1 (by simp)).trans rfl) hu0a hxa) rfl cxa) rfl rfl ?_
   refine d_storeK (turns_storeKid (i := 1) (j := k) (y := (min vxa vxb)) (u := u0a) (en := e_i64) (rds := []) Try.sizeOf3 rfl rfl rfl rfl (fun _ => rfl) rfl hu0a hxa (by omega)) rfl rfl ?_
   refine d_readD (fun w L' hF hS hi => run_indexO Try.underlying30 Try.sizeOf3 rfl rfl (kidRow (i := 1) (E := 3) (en := e_i64) hS ((hi 1 (by simp)).trans rfl) hu0k hz0) lk0 cz0) rfl rfl ?_
   refine d_storeK (turns_storeKid (i := 1) (j := a) (y := (min vxa vxb)) (u := u0k) (en := e_i64) (rds := []) Try.sizeOf3 rfl rfl rfl rfl (fun _ => rfl) rfl hu0k hz0 (by omega)) rfl rfl ?_
   refine d_nil ?_
   try dsimp only [z1, z2, z3, z4, z5, z6, z7, z8]
   refine c_seq ?_
   refine c_region ?_
   refine l_val rfl rfl rfl (r_field Try.runUnderlying94 rfl Try.sizeOf77 rfl rfl) ?_
   refine l_load1 (i := 4) (v := (.slice q.1 n q.2)) Try.isAgg77 rfl rfl rfl rfl rfl ?_
   refine l_val rfl rfl rfl (r_move (v := .int .i64 (a : Int)) rfl) ?_
   refine l_read (fun w hF hS => run_indexO Try.underlying77 Try.sizeOf78 rfl rfl (rowOfI (i := 2) (E := 78) (sz := 1) (n := n) (a := q.1) (c := q.2) hS rfl) hRa rya) rfl rfl rfl ?_
   refine l_read (fun w hF hS => run_loadG1 (f := idC) (i := ((a : Nat) : Int)) (sz := 1) (j := 0) (v := slvG u1a ya) Try.isAgg78 rfl rfl (rowOfI (i := 2) (E := 78) (sz := 1) (n := n) (a := q.1) (c := q.2) hS rfl) rya rfl) rfl rfl rfl ?_
   refine l_val rfl rfl rfl (r_move (v := .int .i64 (k : Int)) rfl) ?_
   refine l_read (fun w hF hS => run_indexO Try.underlying78 Try.sizeOf4 rfl rfl (kidRow (i := 3) (E := 4) (en := e_bool) hS rfl hu1a hya) rfl cya) rfl rfl rfl ?_
   refine l_read (fun w hF hS => run_loadG1 (f := e_bool) (i := ((k : Nat) : Int)) (sz := 1) (j := 0) (v := .bool vya) Try.isAgg4 rfl rfl (kidRow (i := 3) (E := 4) (en := e_bool) hS rfl hu1a hya) cya rfl) rfl rfl rfl ?_
   refine l_val rfl rfl rfl (r_move (v := .bool vya) rfl) ?_
   refine split (fun hv => ?_) (fun hv => ?_)
   · refine l_passed rfl rfl rfl ?_
     refine l_passed rfl rfl rfl ?_
     refine l_passed rfl rfl rfl ?_
     refine l_passed rfl rfl rfl ?_
     refine l_passed rfl rfl rfl ?_
     refine l_passed rfl rfl rfl ?_
     refine l_passed rfl rfl rfl ?_
     refine l_passed rfl rfl rfl ?_
     refine l_val rfl rfl rfl (r_pickT (v := .bool true) rfl rfl) ?_
     have hor : (vya || vyb) = true := by rw [hv]; rfl
     refine l_val rfl rfl rfl (r_assign (v := .bool (vya || vyb)) (by rw [hor]; rfl)) ?_
     refine l_nil ?_
     try dsimp only [z1, z2, z3, z4, z5, z6, z7, z8]
     have s11 : set2 p0 a k (vya || vyb) = p0.set a (ya.set k (vya || vyb)) := set2_at hya
     have q11 := sq_set2 i2 a k (vya || vyb)
     obtain ⟨z1, hz1, lz1⟩ := sq_at q11 hkl
     have s12 : set2 (set2 p0 a k (vya || vyb)) k a (vya || vyb) = (p0.set a (ya.set k (vya || vyb))).set k (z1.set a (vya || vyb)) := by rw [set2_at hz1, s11]
     rw [s11] at hz1
     have cz1 := gAt_nat (xs := z1) (k := a) (by omega)
     have lk1 : yk.length = z1.length := by omega
     refine c_regionD (Kd.p :: Kd.d [4] (.slice q.1 n q.2) :: Kd.p :: Kd.d [2] (ptrAt q.1 (Int.toNat ((a : Nat) : Int) * 1)) :: Kd.d [2] (slvG u1a ya) :: Kd.p :: Kd.p :: Kd.d [4] (.slice q.1 n q.2) :: Kd.p :: Kd.d [2] (ptrAt q.1 (Int.toNat ((k : Nat) : Int) * 1)) :: Kd.d [2] (slvG u1k yk) :: Kd.p :: Kd.p :: Kd.p :: Kd.d [3] (ptrAt u1a.1 (Int.toNat ((k : Nat) : Int) * 1)) :: Kd.sr 3 (kidsC 4 e_bool vs (p0.set a (ya.set k (vya || vyb)))) :: Kd.d [3] (ptrAt u1k.1 (Int.toNat ((a : Nat) : Int) * 1)) :: Kd.sr 3 (kidsC 4 e_bool vs ((p0.set a (ya.set k (vya || vyb))).set k (z1.set a (vya || vyb)))) :: []) 0 mixed ?_ (by kernel_rfl)
     refine d_val rfl rfl (r_field Try.runUnderlying94 rfl Try.sizeOf77 rfl rfl) ?_
     refine d_load1 (i := 4) (v := (.slice q.1 n q.2)) Try.isAgg77 rfl rfl rfl rfl ?_
     refine d_val rfl rfl (r_move (v := .int .i64 (a : Int)) rfl) ?_
     refine d_readD (fun w L' hF hS hi => run_indexO Try.underlying77 Try.sizeOf78 rfl rfl (rowOfI (i := 2) (E := 78) (sz := 1) (n := n) (a := q.1) (c := q.2) hS ((hi 2 (by simp)).trans rfl)) hRa rya) rfl rfl ?_
     refine d_readD (fun w L' hF hS hi => run_loadG1 (f := idC) (i := ((a : Nat) : Int)) (sz := 1) (j := 0) (v := slvG u1a ya) Try.isAgg78 rfl rfl (rowOfI (i := 2) (E := 78) (sz := 1) (n := n) (a := q.1) (c := q.2) hS ((hi 2 (by simp)).trans rfl)) rya rfl) rfl rfl ?_
     refine d_val rfl rfl (r_move (v := .int .i64 (k : Int)) rfl) ?_
     refine d_val rfl rfl (r_field Try.runUnderlying94 rfl Try.sizeOf77 rfl rfl) ?_
     refine d_load1 (i := 4) (v := (.slice q.1 n q.2)) Try.isAgg77 rfl rfl rfl rfl ?_
     refine d_val rfl rfl (r_move (v := .int .i64 (k : Int)) rfl) ?_
     refine d_readD (fun w L' hF hS hi => run_indexO Try.underlying77 Try.sizeOf78 rfl rfl (rowOfI (i := 2) (E := 78) (sz := 1) (n := n) (a := q.1) (c := q.2) hS ((hi 2 (by simp)).trans rfl)) hRa ryk) rfl rfl ?_
     refine d_readD (fun w L' hF hS hi => run_loadG1 (f := idC) (i := ((k : Nat) : Int)) (sz := 1) (j := 0) (v := slvG u1k yk) Try.isAgg78 rfl rfl (rowOfI (i := 2) (E := 78) (sz := 1) (n := n) (a := q.1) (c := q.2) hS ((hi 2 (by simp)).trans rfl)) ryk rfl) rfl rfl ?_
     refine d_val rfl rfl (r_move (v := .int .i64 (a : Int)) rfl) ?_
     refine d_val rfl rfl (r_move (v := .bool (vya || vyb)) rfl) ?_
     refine d_val rfl rfl (r_move (v := .bool (vya || vyb)) rfl) ?_
     refine d_readD (fun w L' hF hS hi => run_indexO Try.underlying78 Try.sizeOf4 rfl rfl (kidRow (i := 3) (E := 4) (en := e_bool) hS ((hi 3 (by simp)).trans rfl) hu1a hya) rfl cya) rfl rfl ?_
     refine d_storeK (turns_storeKid (i := 3) (j := k) (y := (vya || vyb)) (u := u1a) (en := e_bool) (rds := []) Try.sizeOf4 rfl rfl rfl rfl (fun _ => rfl) rfl hu1a hya (by omega)) rfl rfl ?_
     refine d_readD (fun w L' hF hS hi => run_indexO Try.underlying78 Try.sizeOf4 rfl rfl (kidRow (i := 3) (E := 4) (en := e_bool) hS ((hi 3 (by simp)).trans rfl) hu1k hz1) lk1 cz1) rfl rfl ?_
     refine d_storeK (turns_storeKid (i := 3) (j := a) (y := (vya || vyb)) (u := u1k) (en := e_bool) (rds := []) Try.sizeOf4 rfl rfl rfl rfl (fun _ => rfl) rfl hu1k hz1 (by omega)) rfl rfl ?_
     refine d_nil ?_
     try dsimp only [z1, z2, z3, z4, z5, z6, z7, z8]
     refine c_region ?_
     refine l_val rfl rfl rfl (r_addG rfl rfl (gI_ok (by omega))) ?_
     refine l_val rfl rfl rfl (r_move (v := .int .i64 ((k : Int) + 1)) rfl) ?_
     refine l_nil ?_
     refine c_round (k + 1) [0, 1, 2, 3, 4] (by exact ⟨rfl, rfl, rfl, rfl, rfl, trivial⟩) (by decide) ?_ (by show k + 1 ≤ n; omega) (by show n - (k + 1) < n - k; omega)
     rw [hnext]
     have e1 : (mergeT a b ⟨g0, p0⟩ k).gap_ = (g0.set a (xa.set k (min vxa vxb))).set k (z0.set a (min vxa vxb)) := by
       show set2 (set2 g0 a k (min (get2 0 g0 a k) (get2 0 g0 b k))) k a (min (get2 0 g0 a k) (get2 0 g0 b k)) = _
       rw [exa, exb, s02]
     have e2 : (mergeT a b ⟨g0, p0⟩ k).apart_ = (p0.set a (ya.set k (vya || vyb))).set k (z1.set a (vya || vyb)) := by
       show set2 (set2 p0 a k (get2 false p0 a k || get2 false p0 b k)) k a (get2 false p0 a k || get2 false p0 b k) = _
       rw [eya, eyb, s12]
     rw [e1, e2, i3, i4]
     rfl
   · refine l_val rfl rfl rfl (r_field Try.runUnderlying94 rfl Try.sizeOf77 rfl rfl) ?_
     refine l_load1 (i := 4) (v := (.slice q.1 n q.2)) Try.isAgg77 rfl rfl rfl rfl rfl ?_
     refine l_val rfl rfl rfl (r_move (v := .int .i64 (b : Int)) rfl) ?_
     refine l_read (fun w hF hS => run_indexO Try.underlying77 Try.sizeOf78 rfl rfl (rowOfI (i := 2) (E := 78) (sz := 1) (n := n) (a := q.1) (c := q.2) hS rfl) hRa ryb) rfl rfl rfl ?_
     refine l_read (fun w hF hS => run_loadG1 (f := idC) (i := ((b : Nat) : Int)) (sz := 1) (j := 0) (v := slvG u1b yb) Try.isAgg78 rfl rfl (rowOfI (i := 2) (E := 78) (sz := 1) (n := n) (a := q.1) (c := q.2) hS rfl) ryb rfl) rfl rfl rfl ?_
     refine l_val rfl rfl rfl (r_move (v := .int .i64 (k : Int)) rfl) ?_
     refine l_read (fun w hF hS => run_indexO Try.underlying78 Try.sizeOf4 rfl rfl (kidRow (i := 3) (E := 4) (en := e_bool) hS rfl hu1b hyb) rfl cyb) rfl rfl rfl ?_
     refine l_read (fun w hF hS => run_loadG1 (f := e_bool) (i := ((k : Nat) : Int)) (sz := 1) (j := 0) (v := .bool vyb) Try.isAgg4 rfl rfl (kidRow (i := 3) (E := 4) (en := e_bool) hS rfl hu1b hyb) cyb rfl) rfl rfl rfl ?_
     refine l_val rfl rfl rfl (r_pickF (v := .bool vyb) rfl rfl) ?_
     have hor : (vya || vyb) = vyb := by rw [hv]; rfl
     refine l_val rfl rfl rfl (r_assign (v := .bool (vya || vyb)) (by rw [hor]; rfl)) ?_
     refine l_nil ?_
     try dsimp only [z1, z2, z3, z4, z5, z6, z7, z8]
     have s11 : set2 p0 a k (vya || vyb) = p0.set a (ya.set k (vya || vyb)) := set2_at hya
     have q11 := sq_set2 i2 a k (vya || vyb)
     obtain ⟨z1, hz1, lz1⟩ := sq_at q11 hkl
     have s12 : set2 (set2 p0 a k (vya || vyb)) k a (vya || vyb) = (p0.set a (ya.set k (vya || vyb))).set k (z1.set a (vya || vyb)) := by rw [set2_at hz1, s11]
     rw [s11] at hz1
     have cz1 := gAt_nat (xs := z1) (k := a) (by omega)
     have lk1 : yk.length = z1.length := by omega
     refine c_regionD (Kd.p :: Kd.d [4] (.slice q.1 n q.2) :: Kd.p :: Kd.d [2] (ptrAt q.1 (Int.toNat ((a : Nat) : Int) * 1)) :: Kd.d [2] (slvG u1a ya) :: Kd.p :: Kd.p :: Kd.d [4] (.slice q.1 n q.2) :: Kd.p :: Kd.d [2] (ptrAt q.1 (Int.toNat ((k : Nat) : Int) * 1)) :: Kd.d [2] (slvG u1k yk) :: Kd.p :: Kd.p :: Kd.p :: Kd.d [3] (ptrAt u1a.1 (Int.toNat ((k : Nat) : Int) * 1)) :: Kd.sr 3 (kidsC 4 e_bool vs (p0.set a (ya.set k (vya || vyb)))) :: Kd.d [3] (ptrAt u1k.1 (Int.toNat ((a : Nat) : Int) * 1)) :: Kd.sr 3 (kidsC 4 e_bool vs ((p0.set a (ya.set k (vya || vyb))).set k (z1.set a (vya || vyb)))) :: []) 0 mixed ?_ (by kernel_rfl)
     refine d_val rfl rfl (r_field Try.runUnderlying94 rfl Try.sizeOf77 rfl rfl) ?_
     refine d_load1 (i := 4) (v := (.slice q.1 n q.2)) Try.isAgg77 rfl rfl rfl rfl ?_
     refine d_val rfl rfl (r_move (v := .int .i64 (a : Int)) rfl) ?_
     refine d_readD (fun w L' hF hS hi => run_indexO Try.underlying77 Try.sizeOf78 rfl rfl (rowOfI (i := 2) (E := 78) (sz := 1) (n := n) (a := q.1) (c := q.2) hS ((hi 2 (by simp)).trans rfl)) hRa rya) rfl rfl ?_
     refine d_readD (fun w L' hF hS hi => run_loadG1 (f := idC) (i := ((a : Nat) : Int)) (sz := 1) (j := 0) (v := slvG u1a ya) Try.isAgg78 rfl rfl (rowOfI (i := 2) (E := 78) (sz := 1) (n := n) (a := q.1) (c := q.2) hS ((hi 2 (by simp)).trans rfl)) rya rfl) rfl rfl ?_
     refine d_val rfl rfl (r_move (v := .int .i64 (k : Int)) rfl) ?_
     refine d_val rfl rfl (r_field Try.runUnderlying94 rfl Try.sizeOf77 rfl rfl) ?_
     refine d_load1 (i := 4) (v := (.slice q.1 n q.2)) Try.isAgg77 rfl rfl rfl rfl ?_
     refine d_val rfl rfl (r_move (v := .int .i64 (k : Int)) rfl) ?_
     refine d_readD (fun w L' hF hS hi => run_indexO Try.underlying77 Try.sizeOf78 rfl rfl (rowOfI (i := 2) (E := 78) (sz := 1) (n := n) (a := q.1) (c := q.2) hS ((hi 2 (by simp)).trans rfl)) hRa ryk) rfl rfl ?_
     refine d_readD (fun w L' hF hS hi => run_loadG1 (f := idC) (i := ((k : Nat) : Int)) (sz := 1) (j := 0) (v := slvG u1k yk) Try.isAgg78 rfl rfl (rowOfI (i := 2) (E := 78) (sz := 1) (n := n) (a := q.1) (c := q.2) hS ((hi 2 (by simp)).trans rfl)) ryk rfl) rfl rfl ?_
     refine d_val rfl rfl (r_move (v := .int .i64 (a : Int)) rfl) ?_
     refine d_val rfl rfl (r_move (v := .bool (vya || vyb)) rfl) ?_
     refine d_val rfl rfl (r_move (v := .bool (vya || vyb)) rfl) ?_
     refine d_readD (fun w L' hF hS hi => run_indexO Try.underlying78 Try.sizeOf4 rfl rfl (kidRow (i := 3) (E := 4) (en := e_bool) hS ((hi 3 (by simp)).trans rfl) hu1a hya) rfl cya) rfl rfl ?_
     refine d_storeK (turns_storeKid (i := 3) (j := k) (y := (vya || vyb)) (u := u1a) (en := e_bool) (rds := []) Try.sizeOf4 rfl rfl rfl rfl (fun _ => rfl) rfl hu1a hya (by omega)) rfl rfl ?_
     refine d_readD (fun w L' hF hS hi => run_indexO Try.underlying78 Try.sizeOf4 rfl rfl (kidRow (i := 3) (E := 4) (en := e_bool) hS ((hi 3 (by simp)).trans rfl) hu1k hz1) lk1 cz1) rfl rfl ?_
     refine d_storeK (turns_storeKid (i := 3) (j := a) (y := (vya || vyb)) (u := u1k) (en := e_bool) (rds := []) Try.sizeOf4 rfl rfl rfl rfl (fun _ => rfl) rfl hu1k hz1 (by omega)) rfl rfl ?_
     refine d_nil ?_
     try dsimp only [z1, z2, z3, z4, z5, z6, z7, z8]
     refine c_region ?_
     refine l_val rfl rfl rfl (r_addG rfl rfl (gI_ok (by omega))) ?_
     refine l_val rfl rfl rfl (r_move (v := .int .i64 ((k : Int) + 1)) rfl) ?_
     refine l_nil ?_
     refine c_round (k + 1) [0, 1, 2, 3, 4] (by exact ⟨rfl, rfl, rfl, rfl, rfl, trivial⟩) (by decide) ?_ (by show k + 1 ≤ n; omega) (by show n - (k + 1) < n - k; omega)
     rw [hnext]
     have e1 : (mergeT a b ⟨g0, p0⟩ k).gap_ = (g0.set a (xa.set k (min vxa vxb))).set k (z0.set a (min vxa vxb)) := by
       show set2 (set2 g0 a k (min (get2 0 g0 a k) (get2 0 g0 b k))) k a (min (get2 0 g0 a k) (get2 0 g0 b k)) = _
       rw [exa, exb, s02]
     have e2 : (mergeT a b ⟨g0, p0⟩ k).apart_ = (p0.set a (ya.set k (vya || vyb))).set k (z1.set a (vya || vyb)) := by
       show set2 (set2 p0 a k (get2 false p0 a k || get2 false p0 b k)) k a (get2 false p0 a k || get2 false p0 b k) = _
       rw [eya, eyb, s12]
     rw [e1, e2, i3, i4]
     rfl
 · have : k = n := by have := of_decide_eq_false hb; omega
   subst this
   obtain ⟨i1, i2, i3, i4⟩ := tabN_inv (a := a) (b := b) (us := us) (vs := vs) sq1 sq2 k
   refine c_exit ?_
   rw [← i3, ← i4]
   refine c_both 2 3 rfl rfl (by decide) ?_
   try dsimp only [z1, z2, z3, z4, z5, z6, z7, z8]
   refine c_both 1 2 rfl rfl (by decide) ?_
   try dsimp only [z1, z2, z3, z4, z5, z6, z7, z8]
   refine c_both 0 1 rfl rfl (by decide) ?_
   exact ret0n rfl (finX () (i := 0) rfl rfl (Imp.refl _))

theorem makes_rep {P : Program} {cx : Cx} {e : Env} {L : List Chunk} {d : Nat} {ty : TypeId} {pos : String} {af : Array Edge} {g : Option (Nat × Bool)} {α : Type} {N C : Operand} {t E : TypeId} {I : TypeInfo} {z : Value} {sz by_ : Nat} {n : Nat} {rds : List Nat} {f : α → List Value} {zz : α} (ht : P.underlying t = some (.slice E)) (hi : P.info? E = some I) (hz : I.zero = some z) (hsize : I.size = sz) (hby : I.bytes = by_)
    (hzs : z.cells.toList = f zz) (hsz : Nat.blt 0 sz = true) (hl : (f zz).length = sz) (hnc : ev e N = .int .i64 (n : Int) ∧ ev e C = .int .i64 (n : Int)) (hn : n ≤ 1000000) (hb : by_ ≤ 1000) :
    Makes P cx e ⟨some d, .makeSlice t N C, ty, pos, af, g⟩ L rds (fun p : Option Addr × Nat => .slice p.1 n p.2) (fun p => rowV E sz (.slice p.1 n p.2) n ((List.replicate n zz).map f)) := by
  have hm : gMake by_ (n : Int) zz = some (List.replicate n zz) := by
    unfold gMake
    have : by_ * n ≤ 1000 * 1000000 := Nat.mul_le_mul hb hn
    rw [Int.toNat_natCast, if_pos ⟨by omega, by omega, by omega⟩]
  have h := makes_makeG (P := P) (cx := cx) (e := e) (L := L) (d := d) (ty := ty) (pos := pos) (af := af) (g := g) (rds := rds) (N := N) (C := C) ht hi hz hsize hby hzs hsz hl hnc hm
  simp only [List.length_replicate] at h
  exact h
theorem rows_rep {α : Type} (n : Nat) : rowsG (List.replicate n (none, 0)) (List.replicate n ([] : List α)) = (List.replicate n [Value.slice none 0 0]).map idC := by
  rw [map_idC]
  unfold rowsG
  induction n with
  | zero => rfl
  | succ n ih => rw [List.replicate_succ, List.replicate_succ, List.replicate_succ, List.zipWith_cons_cons, ih]; rfl
def iniT {α : Type} (n i : Nat) (z : List α) : List (List α) := List.replicate i z ++ List.replicate (n - i) []
theorem iniT_set {α : Type} {n i : Nat} {z : List α} (h : i < n) : (iniT n i z).set i z = iniT n (i + 1) z := by
  unfold iniT
  rw [List.set_append_right _ _ (by simp), List.length_replicate, Nat.sub_self, show n - i = (n - (i + 1)) + 1 by omega, List.replicate_succ, List.set_cons_zero, List.replicate_succ']
  simp
theorem iniT_len {α : Type} {n i : Nat} {z : List α} (h : i ≤ n) : (iniT n i z).length = n := by unfold iniT; simp; omega
theorem iniT_0 {α : Type} {n : Nat} {z : List α} : iniT n 0 z = List.replicate n [] := by unfold iniT; simp
theorem iniT_n {α : Type} {n : Nat} {z : List α} : iniT n n z = List.replicate n z := by unfold iniT; simp
theorem sq_rep {α : Type} {n : Nat} {z : α} : sqT n (List.replicate n (List.replicate n z)) := ⟨by simp, fun r hr => by rw [List.eq_of_mem_replicate hr]; simp⟩
theorem ofs_len {g : List (Int × List Int)} {n : Nat} : (ofsG g n).length = n := by unfold ofsG; simp
theorem ofs_at {g : List (Int × List Int)} {n i : Nat} (h : i < n) : (ofsG g n)[i]? = some ((face_groups_of g (Int.ofNat i)).getD (-1)) := by
  unfold ofsG; rw [List.getElem?_map, List.getElem?_range h]; rfl
theorem k49 {a0 : List T_face_Likeness} {v0 : Value} {a1 : List (Int × List Int)} {v1 : Value} {a2 : List (Nat → Int)} {v2 : Value} {r : T_face_table} {w : World} {h : Heap} (hw : Know h w noS) (f0 : FrS h 14 v0 (a0.map e_face_Likeness)) (f1 : FrG h e_i64 v1 a1) (f2 : FrS h 2 v2 (a2.map e_2_int)) (H : face_newTable a0 a1 a2 = some r) :
    Does Try.prog 49 (List.toArray [v0, v1, v2]) w (fun v w' => ∃ x : ((Option Addr × Nat) × (Option Addr × Nat)) × (List (Option Addr × Nat) × List (Option Addr × Nat)), v = .agg #[.slice x.1.1.1 r.gap_.length x.1.1.2, .slice x.1.2.1 r.gap_.length x.1.2.2] ∧ Turn w w' noS (tabC x.1.1 x.1.2 x.2.1 x.2.2 r.gap_.length r)) := by
 unfold face_newTable at H
 split at H
 case isFalse => cases H
 rename_i hc
 obtain ⟨hg, hcov, hno, hsz⟩ := hc
 obtain ⟨G, h_G, H1⟩ := bnd_some H
 clear H
 obtain rfl := Option.some.inj H1
 generalize hofs : ofsG a1 a0.length = ofs at *
 generalize hn : a0.length = n at *
 have hol : ofs.length = n := by rw [← hofs]; exact ofs_len
 obtain ⟨ms, ⟨bm, es, clock, rfl, hb, hst, hen⟩, hk, hrow⟩ := f1.out
 have hbw : ∀ w', Fr ⟨w, noS⟩ w' → w'.heap[bm]? = some (.map es clock) := fun w' hF => hw.now hF bm _ hb
 refine enter (n := 163) Try.func49 rfl rfl rfl noS [] (Sat.nil _ _) ?_
 refine c_seq ?_
 refine c_region ?_
 refine l_alloc (cs := [.slice none 0 0, .slice none 0 0]) Try.zeroValue94 rfl rfl rfl (fun b6 => ?_)
 refine l_nil ?_
 try dsimp only [z1, z2, z3, z4, z5, z6, z7, z8]
 refine c_seq ?_
 refine c_regionD (Kd.p :: Kd.p :: Kd.t 1 [] (fun x : Option Addr × Nat => .slice x.1 n x.2) (fun v => rowV 30 1 v n ((List.replicate n [Value.slice none 0 0]).map idC)) :: Kd.p :: Kd.p :: Kd.t 2 [] (fun x : Option Addr × Nat => .slice x.1 n x.2) (fun v => rowV 78 1 v n ((List.replicate n [Value.slice none 0 0]).map idC)) :: Kd.p :: Kd.nw 3 [.slice none 0 0, .slice none 0 0] 94 :: Kd.sv 7 29 3 (fun v => v.cells.toList) 94 :: []) 3 mixed ?_ (by kernel_rfl)
 refine d_val rfl rfl (r_move (v := v0) rfl) ?_
 refine d_val (v := .int .i64 (n : Int)) rfl rfl (fun w => (r_lenF Try.underlying22 rfl f0 rfl w).trans (by rw [hn])) ?_
 refine d_make (Cv := fun v => rowV 30 1 v n ((List.replicate n [Value.slice none 0 0]).map idC)) (none, 0) (makes_rep (E := 30) (sz := 1) (f := idC) (zz := [Value.slice none 0 0]) Try.underlying25 (info_of Try.typeInfo30) rfl rfl rfl rfl rfl rfl ⟨rfl, rfl⟩ hsz (by decide)) (fun _ => rfl) rfl rfl rfl (fun p => ?_)
 refine d_val rfl rfl (r_move (v := v0) rfl) ?_
 refine d_val (v := .int .i64 (n : Int)) rfl rfl (fun w => (r_lenF Try.underlying22 rfl f0 rfl w).trans (by rw [hn])) ?_
 refine d_make (Cv := fun v => rowV 78 1 v n ((List.replicate n [Value.slice none 0 0]).map idC)) (none, 0) (makes_rep (E := 78) (sz := 1) (f := idC) (zz := [Value.slice none 0 0]) Try.underlying77 (info_of Try.typeInfo78) rfl rfl rfl rfl rfl rfl ⟨rfl, rfl⟩ hsz (by decide)) (fun _ => rfl) rfl rfl rfl (fun q => ?_)
 refine d_val rfl rfl (r_build (pl := #[(0, 1), (1, 1)]) (ps := [(0, .slice p.1 n p.2), (1, .slice q.1 n q.2)]) (cells := #[.slice p.1 n p.2, .slice q.1 n q.2]) Try.zeroValue94 Try.runUnderlying94 (fun w => by kernel_rfl) rfl rfl) ?_
 refine d_new rfl rfl (run_alloc (cs := [.slice none 0 0, .slice none 0 0]) Try.zeroValue94 rfl) rfl (fun b7 => ?_)
 refine d_storeV (i := 3) (vs := [.slice p.1 n p.2, .slice q.1 n q.2]) (cs' := fun v => v.cells.toList) Try.sizeOf94 rfl rfl rfl rfl rfl rfl rfl rfl rfl ?_
 refine d_nil ?_
 try dsimp only [z1, z2, z3, z4, z5, z6, z7, z8]
 refine c_imp 3 rfl (Imp.refl (cellsC b7 [.slice p.1 n p.2, .slice q.1 n q.2] 94)) ?_
 try dsimp only [z1, z2, z3, z4, z5, z6, z7, z8]
 refine c_imp 1 rfl (show Imp _ (rowV 30 1 (.slice p.1 n p.2) n (rowsG (List.replicate n (none, 0)) (iniT n 0 (List.replicate n (774193 : Int))))) from by rw [iniT_0, rows_rep]; exact Imp.refl _) ?_
 refine c_imp 2 rfl (show Imp _ (rowV 78 1 (.slice q.1 n q.2) n (rowsG (List.replicate n (none, 0)) (iniT n 0 (List.replicate n false)))) from by rw [iniT_0, rows_rep]; exact Imp.refl _) ?_
 try dsimp only [z1, z2, z3, z4, z5, z6, z7, z8]
 refine c_seq ?_
 refine c_region ?_
 refine l_val rfl rfl rfl (r_move (v := v0) rfl) ?_
 refine l_val (v := .int .i64 (n : Int)) rfl rfl rfl (fun w => (r_lenF Try.underlying22 rfl f0 rfl w).trans (by rw [hn])) ?_
 refine l_make (rds := []) (makes_rep (E := 3) (sz := 1) (f := e_i64) (zz := (0 : Int)) Try.underlying30 (info_of Try.typeInfo3) rfl rfl rfl rfl rfl rfl ⟨rfl, rfl⟩ hsz (by decide)) rfl rfl rfl (fun po => ?_)
 refine l_val rfl rfl rfl (r_assign (v := .slice po.1 n po.2) rfl) ?_
 refine l_nil ?_
 refine c_emp ?_
 try dsimp only [z1, z2, z3, z4, z5, z6, z7, z8]
 refine c_imp 5 rfl (show Imp empC (kidsC 3 e_i64 (List.replicate n (none, 0)) (iniT n 0 (List.replicate n (774193 : Int)))) from by rw [iniT_0]; exact imp_kids0 n) ?_
 refine c_emp ?_
 try dsimp only [z1, z2, z3, z4, z5, z6, z7, z8]
 refine c_imp 6 rfl (show Imp empC (kidsC 4 e_bool (List.replicate n (none, 0)) (iniT n 0 (List.replicate n false))) from by rw [iniT_0]; exact imp_kids0 n) ?_
 try dsimp only [z1, z2, z3, z4, z5, z6, z7, z8]
 refine c_seq ?_
 refine c_seq ?_
 refine c_region ?_
 refine l_val rfl rfl rfl (r_move (v := .map (some bm)) rfl) ?_
 refine l_make (rds := []) (makes_rangeF (fk := fkG) (fv := id) (xs := ms) Try.underlying87 rfl hbw hen) rfl rfl rfl (fun bi => ?_)
 refine l_nil ?_
 try dsimp only [z1, z2, z3, z4, z5, z6, z7, z8]
 have hown : ∀ x ∈ a1, ∀ m : Nat, m < n → (m : Int) ∈ x.2 → ofs[m]? = some x.1 := fun x hx m hm hmx => by
  obtain ⟨y, hy, _⟩ := hcov m hm
  rw [← hofs, ofs_at hm, hy]
  exact congrArg some ((of_pick hy).1 x hx hmx).symm
 have hinit : ∀ m : Nat, m < n → ∃ q ∈ ms, ∃ x ∈ a1, x.1 = q.1 ∧ (m : Int) ∈ x.2 := fun m hm => by
  obtain ⟨y, hy, h0⟩ := hcov m hm
  by_cases hh : ∃ x ∈ a1, (m : Int) ∈ x.2
  · obtain ⟨x, hx, hmx⟩ := hh
    have : x.1 ∈ ms.map (·.1) := by rw [hk]; exact List.mem_map.2 ⟨x, hx, rfl⟩
    obtain ⟨q, hq, e⟩ := List.mem_map.1 this
    exact ⟨q, hq, x, hx, e.symm, hmx⟩
  · have := (of_pick hy).2 fun x hx hmx => hh ⟨x, hx, hmx⟩
    omega
 refine c_block ?_
 refine c_loop (σ := List (Int × Value) × List Int) (fun s => [(0, v0), (2, v2), (6, .pointer (some ⟨b6, 0, none⟩)), (7, .pointer (some ⟨b7, 0, none⟩)), (8, .slice po.1 n po.2), (34, .pointer (some ⟨bi, 0, none⟩))]) (fun s => [cellsC b6 [.slice none 0 0, .slice none 0 0] 94, rowV 30 1 (.slice p.1 n p.2) n (rowsG (List.replicate n (none, 0)) (iniT n 0 (List.replicate n (774193 : Int)))), rowV 78 1 (.slice q.1 n q.2) n (rowsG (List.replicate n (none, 0)) (iniT n 0 (List.replicate n false))), cellsC b7 [.slice p.1 n p.2, .slice q.1 n q.2] 94, rowV 3 1 (.slice po.1 n po.2) n (s.2.map e_i64), kidsC 3 e_i64 (List.replicate n (none, 0)) (iniT n 0 (List.replicate n (774193 : Int))), kidsC 4 e_bool (List.replicate n (none, 0)) (iniT n 0 (List.replicate n false)), mitF fkG id es clock bm bi s.1 none])
   (fun s => (∀ q ∈ s.1, q ∈ ms) ∧ s.2.length = n ∧ ∀ m : Nat, m < n → s.2[m]? = ofs[m]? ∨ ∃ q ∈ s.1, ∃ x ∈ a1, x.1 = q.1 ∧ (m : Int) ∈ x.2) (fun s => s.1.length) (ms, List.replicate n 0) [0, 1, 2, 3, 4, 5, 6, 7] ⟨fun q hq => hq, by simp, fun m hm => .inr (hinit m hm)⟩ (by exact ⟨rfl, rfl, rfl, rfl, rfl, rfl, trivial⟩) (by decide) (by kernel_rfl) ?_
 · rintro ⟨s, of0⟩ gg ⟨I1, I2, I3⟩
   try dsimp only at I1 I2 I3
   try dsimp only
   refine c_seq ?_
   refine c_region ?_
   refine caseB (!s.isEmpty) (fun hb => ?_) (fun hb => ?_)
   · refine l_nextF (i := 7) hbw hst rfl rfl hb rfl rfl (fun pe rest hp => ?_)
     refine l_val rfl rfl rfl (r_extract (v := .bool true) rfl rfl) ?_
     refine l_nil ?_
     refine c_seq ?_
     refine c_true rfl ?_
     refine c_skip ?_
     obtain ⟨x, hx, hxk, hxr⟩ := row_of_pick hk hrow (I1 pe hp.mem)
     have hin : ∀ m ∈ x.2, 0 ≤ m ∧ m < (n : Int) := fun m hm => (hg x hx).2 m hm
     refine c_block ?_
     refine c_seq ?_
     refine c_region ?_
     refine l_read (fun w hF hS => r_entryF (i := 7) (hbw _ hF) hst hS rfl rfl) rfl rfl rfl ?_
     refine c_imp 7 rfl (imp_mitF _) ?_
     refine l_val rfl rfl rfl (r_extract (v := .int .i64 pe.1) rfl rfl) ?_
     refine l_val rfl rfl rfl (r_extract (v := pe.2) rfl rfl) ?_
     refine l_val rfl rfl rfl (r_assign (v := .int .i64 pe.1) rfl) ?_
     refine l_val rfl rfl rfl (r_assign (v := pe.2) rfl) ?_
     refine l_nil ?_
     refine c_seq ?_
     refine c_region ?_
     refine l_val rfl rfl rfl (r_move (v := pe.2) rfl) ?_
     refine l_val rfl rfl rfl (r_lenF Try.underlying30 rfl hxr rfl) ?_
     refine l_val rfl rfl rfl (r_move (v := .int .i64 0) rfl) ?_
     refine l_nil ?_
     try dsimp only [z1, z2, z3, z4, z5, z6, z7, z8]
     have hxl : x.2.length ≤ 9223372036854775807 := by
       obtain ⟨_, c, _, h1, h2, _⟩ := hxr.out
       rw [List.length_map] at h1
       omega
     refine c_block ?_
     refine c_loop (σ := Nat × List Int) (fun s => [(0, v0), (2, v2), (6, .pointer (some ⟨b6, 0, none⟩)), (7, .pointer (some ⟨b7, 0, none⟩)), (8, .slice po.1 n po.2), (9, .int .i64 pe.1), (34, .pointer (some ⟨bi, 0, none⟩)), (40, pe.2), (41, .int .i64 (x.2.length : Int)), (42, .int .i64 (s.1 : Int))]) (fun s => [cellsC b6 [.slice none 0 0, .slice none 0 0] 94, rowV 30 1 (.slice p.1 n p.2) n (rowsG (List.replicate n (none, 0)) (iniT n 0 (List.replicate n (774193 : Int)))), rowV 78 1 (.slice q.1 n q.2) n (rowsG (List.replicate n (none, 0)) (iniT n 0 (List.replicate n false))), cellsC b7 [.slice p.1 n p.2, .slice q.1 n q.2] 94, rowV 3 1 (.slice po.1 n po.2) n (s.2.map e_i64), kidsC 3 e_i64 (List.replicate n (none, 0)) (iniT n 0 (List.replicate n (774193 : Int))), kidsC 4 e_bool (List.replicate n (none, 0)) (iniT n 0 (List.replicate n false)), mitF fkG id es clock bm bi rest none])
       (fun s => s.1 ≤ x.2.length ∧ s.2.length = n ∧ ∀ m : Nat, m < n → s.2[m]? = ofs[m]? ∨ (∃ q ∈ rest, ∃ x ∈ a1, x.1 = q.1 ∧ (m : Int) ∈ x.2) ∨ (m : Int) ∈ x.2.drop s.1) (fun s => x.2.length - s.1) (0, of0) [0, 1, 2, 3, 4, 5, 6, 7] ⟨Nat.zero_le _, I2, fun m hm => ?_⟩ (by exact ⟨rfl, rfl, rfl, rfl, rfl, rfl, rfl, rfl, rfl, rfl, trivial⟩) (by decide) (by kernel_rfl) ?_
     · rcases I3 m hm with h | ⟨q', hq', x', hx', e', hm'⟩
       · exact .inl h
       · rcases List.mem_cons.1 (hp.perm.subset hq') with rfl | h
         · have := keys_one hst hen hk hx hx' (hxk.trans e'.symm)
           subst this
           exact .inr (.inr hm')
         · exact .inr (.inl ⟨q', h, x', hx', e', hm'⟩)
     rintro ⟨k, of1⟩ gg2 ⟨J1, J2, J3⟩
     try dsimp only at J1 J2 J3
     try dsimp only
     refine c_seq ?_
     refine c_region ?_
     refine l_val rfl rfl rfl (r_lss rfl rfl) ?_
     refine l_nil ?_
     refine c_seq ?_
     refine c_if (b := decide ((k : Int) < (x.2.length : Int))) rfl (fun hb2 => ?_) (fun hb2 => ?_)
     · have hlt : k < x.2.length := by have := of_decide_eq_true hb2; omega
       have h_m := gAt_nat hlt
       have hdrop := List.drop_eq_getElem_cons hlt
       have hmem := List.getElem_mem hlt
       generalize x.2[k] = m0 at h_m hdrop hmem
       obtain ⟨m1, m2⟩ := hin m0 hmem
       obtain ⟨c0, hc0⟩ : ∃ c0, gAt of1 m0 = some c0 := ⟨of1[m0.toNat]'(by omega), gAt_ok m1 (by omega)⟩
       refine c_skip ?_
       refine c_seq ?_
       refine c_block ?_
       refine c_seq ?_
       refine c_region ?_
       refine l_val rfl rfl rfl (r_indexF Try.underlying30 Try.sizeOf3 rfl rfl hxr h_m) ?_
       refine l_read (fun w hF hS => run_loadG1 (f := e_i64) (i := (k : Int)) (sz := 1) (j := 0) (v := .int .i64 m0) Try.isAgg3 rfl rfl (hxr.row (hw.now hF)) h_m rfl) rfl rfl rfl ?_
       refine l_val rfl rfl rfl (r_assign (v := .int .i64 m0) rfl) ?_
       refine l_nil ?_
       refine c_region ?_
       refine l_val rfl rfl rfl (r_move (v := .slice po.1 n po.2) rfl) ?_
       refine l_val rfl rfl rfl (r_move (v := .int .i64 m0) rfl) ?_
       refine l_val rfl rfl rfl (r_move (v := .int .i64 pe.1) rfl) ?_
       refine l_read (fun w hF hS => run_indexO Try.underlying30 Try.sizeOf3 rfl rfl (rowOf (i := 4) (E := 3) (sz := 1) (n := n) (a := po.1) (c := po.2) hS rfl) J2.symm hc0) rfl rfl rfl ?_
       refine l_turn0 (turns_storeRow (i := 4) (k := Int.toNat m0) (x := .int .i64 pe.1) (rds := []) Try.sizeOf3 rfl rfl rfl rfl rfl (by rw [List.length_map]; omega)) rfl rfl (fun _ => ?_)
       refine l_nil ?_
       try dsimp only [z1, z2, z3, z4, z5, z6, z7, z8]
       refine c_imp 4 rfl (show Imp _ (rowV 3 1 (.slice po.1 n po.2) n ((of1.set m0.toNat pe.1).map e_i64)) from by rw [List.map_set]; exact Imp.refl _) ?_
       try dsimp only [z1, z2, z3, z4, z5, z6, z7, z8]
       refine c_region ?_
       refine l_val rfl rfl rfl (r_addG rfl rfl (gI_ok (by omega))) ?_
       refine l_val rfl rfl rfl (r_move (v := .int .i64 ((k : Int) + 1)) rfl) ?_
       refine l_nil ?_
       refine c_round (k + 1, of1.set m0.toNat pe.1) [0, 1, 2, 3, 4, 5, 6, 7] (by exact ⟨rfl, rfl, rfl, rfl, rfl, rfl, rfl, rfl, rfl, rfl, trivial⟩) (by decide) (by kernel_rfl) ⟨hlt, by simpa using J2, fun m hm => ?_⟩ (by show x.2.length - (k + 1) < x.2.length - k; omega)
       try dsimp only
       by_cases hmm : m0.toNat = m
       · refine .inl ?_
         have e : (m : Int) = m0 := by omega
         rw [List.getElem?_set, if_pos hmm, if_pos (by omega), hown x hx m hm (by rw [e]; exact hmem), hxk]
       · rw [List.getElem?_set, if_neg hmm]
         rcases J3 m hm with h | h | h
         · exact .inl h
         · exact .inr (.inl h)
         · rw [hdrop] at h
           rcases List.mem_cons.1 h with h | h
           · omega
           · exact .inr (.inr h)
     · have : k = x.2.length := by have := of_decide_eq_false hb2; omega
       subst this
       refine c_exit ?_
       refine c_round (rest, of1) [0, 1, 2, 3, 4, 5, 6, 7] (by exact ⟨rfl, rfl, rfl, rfl, rfl, rfl, trivial⟩) (by decide) (by kernel_rfl) ⟨fun q' hq' => I1 q' (hp.sub q' hq'), J2, fun m hm => ?_⟩ (by show rest.length < s.length; have := hp.len; omega)
       rcases J3 m hm with h | h | h
       · exact .inl h
       · exact .inr h
       · rw [List.drop_length] at h; cases h
   · refine l_read (fun w hF hS => r_nextOverF (i := 7) (hbw _ hF) hst hS rfl rfl hb) rfl rfl rfl ?_
     refine l_val rfl rfl rfl (r_extract (v := .bool false) rfl rfl) ?_
     refine l_nil ?_
     refine c_seq ?_
     refine c_false rfl ?_
     refine c_exit ?_
     obtain rfl : s = [] := by simpa using hb
     obtain rfl : ofs = of0 := by
       apply List.ext_getElem?
       intro m
       by_cases hm : m < n
       · rcases I3 m hm with h | ⟨_, h, _⟩
         · exact h.symm
         · cases h
       · rw [List.getElem?_eq_none (by omega), List.getElem?_eq_none (by omega)]
     have hval : ∀ m : Nat, m < n → ∃ A : Nat, ofs[m]? = some (A : Int) ∧ A < n := fun m hm => by
       obtain ⟨q', _, x, hx, _, hmx⟩ := hinit m hm
       obtain ⟨⟨g1, g2⟩, _⟩ := hg x hx
       exact ⟨x.1.toNat, by rw [hown x hx m hm hmx, Int.toNat_of_nonneg g1], by omega⟩
     refine c_seq ?_
     refine c_seq ?_
     refine c_region ?_
     refine l_val rfl rfl rfl (r_move (v := v0) rfl) ?_
     refine l_val (v := .int .i64 (n : Int)) rfl rfl rfl (fun w => (r_lenF Try.underlying22 rfl f0 rfl w).trans (by rw [hn])) ?_
     refine l_val rfl rfl rfl (r_move (v := .int .i64 0) rfl) ?_
     refine l_nil ?_
     refine c_block ?_
     refine c_loop (σ := Nat × List (Option Addr × Nat) × List (Option Addr × Nat)) (fun s => [(0, v0), (2, v2), (6, .pointer (some ⟨b6, 0, none⟩)), (7, .pointer (some ⟨b7, 0, none⟩)), (8, .slice po.1 n po.2), (52, .int .i64 (n : Int)), (53, .int .i64 (s.1 : Int))]) (fun s => [cellsC b6 [.slice none 0 0, .slice none 0 0] 94, rowV 30 1 (.slice p.1 n p.2) n (rowsG s.2.1 (iniT n s.1 (List.replicate n (774193 : Int)))), rowV 78 1 (.slice q.1 n q.2) n (rowsG s.2.2 (iniT n s.1 (List.replicate n false))), cellsC b7 [.slice p.1 n p.2, .slice q.1 n q.2] 94, rowV 3 1 (.slice po.1 n po.2) n (ofs.map e_i64), kidsC 3 e_i64 s.2.1 (iniT n s.1 (List.replicate n (774193 : Int))), kidsC 4 e_bool s.2.2 (iniT n s.1 (List.replicate n false))]) (fun s => s.1 ≤ n ∧ s.2.1.length = n ∧ s.2.2.length = n) (fun s => n - s.1) (0, List.replicate n (none, 0), List.replicate n (none, 0)) [0, 1, 2, 3, 4, 5, 6] ⟨Nat.zero_le _, by simp, by simp⟩ (by exact ⟨rfl, rfl, rfl, rfl, rfl, rfl, rfl, trivial⟩) (by decide) (by kernel_rfl) ?_
     rintro ⟨i, us, vs⟩ gg4 ⟨I1, I2, I3⟩
     try dsimp only at I1 I2 I3
     try dsimp only
     refine c_seq ?_
     refine c_region ?_
     refine l_val rfl rfl rfl (r_lss rfl rfl) ?_
     refine l_nil ?_
     refine c_seq ?_
     refine c_if (b := decide ((i : Int) < (n : Int))) rfl (fun hb => ?_) (fun hb => ?_)
     · have hlt : i < n := by have := of_decide_eq_true hb; omega
       have hRg : (rowsG us (iniT n i (List.replicate n (774193 : Int)))).length = n := by rw [rowsG_len (by rw [I2, iniT_len I1]), iniT_len I1]
       have hRa : (rowsG vs (iniT n i (List.replicate n false))).length = n := by rw [rowsG_len (by rw [I3, iniT_len I1]), iniT_len I1]
       have hatg := gAt_nat (xs := rowsG us (iniT n i (List.replicate n (774193 : Int)))) (k := i) (by omega)
       have hata := gAt_nat (xs := rowsG vs (iniT n i (List.replicate n false))) (k := i) (by omega)
       refine c_skip ?_
       refine c_seq ?_
       refine c_block ?_
       refine c_seq ?_
       refine c_region ?_
       refine l_val rfl rfl rfl (r_move (v := .int .i64 (i : Int)) rfl) ?_
       refine l_val rfl rfl rfl (r_assign (v := .int .i64 (i : Int)) rfl) ?_
       refine l_nil ?_
       refine c_seq ?_
       refine c_regionD (Kd.p :: Kd.d [3] (.slice p.1 n p.2) :: Kd.p :: Kd.p :: Kd.d [3] (.slice q.1 n q.2) :: Kd.p :: Kd.p :: Kd.p :: Kd.t 7 [] (fun x : Option Addr × Nat => .slice x.1 n x.2) (fun v => rowV 3 1 v n ((List.replicate n (0 : Int)).map e_i64)) :: Kd.p :: Kd.p :: Kd.t 8 [] (fun x : Option Addr × Nat => .slice x.1 n x.2) (fun v => rowV 4 1 v n ((List.replicate n false).map e_bool)) :: Kd.d [1] (ptrAt p.1 (Int.toNat ((i : Nat) : Int) * 1)) :: Kd.sp 68 64 1 (fun v => rowV 30 1 (.slice p.1 n p.2) n ((rowsG us (iniT n i (List.replicate n (774193 : Int)))).set i [v])) :: Kd.d [2] (ptrAt q.1 (Int.toNat ((i : Nat) : Int) * 1)) :: Kd.sp 69 67 2 (fun v => rowV 78 1 (.slice q.1 n q.2) n ((rowsG vs (iniT n i (List.replicate n false))).set i [v])) :: []) 2 mixed ?_ (by kernel_rfl)
       refine d_val rfl rfl (r_field Try.runUnderlying94 rfl Try.sizeOf25 rfl rfl) ?_
       refine d_load1 (i := 3) (v := .slice p.1 n p.2) Try.isAgg25 rfl rfl rfl rfl ?_
       refine d_val rfl rfl (r_move (v := .int .i64 (i : Int)) rfl) ?_
       refine d_val rfl rfl (r_field Try.runUnderlying94 rfl Try.sizeOf77 rfl rfl) ?_
       refine d_load1 (i := 3) (v := .slice q.1 n q.2) Try.isAgg77 rfl rfl rfl rfl ?_
       refine d_val rfl rfl (r_move (v := .int .i64 (i : Int)) rfl) ?_
       refine d_val rfl rfl (r_move (v := v0) rfl) ?_
       refine d_val (v := .int .i64 (n : Int)) rfl rfl (fun w => (r_lenF Try.underlying22 rfl f0 rfl w).trans (by rw [hn])) ?_
       refine d_make (Cv := fun v => rowV 3 1 v n ((List.replicate n (0 : Int)).map e_i64)) (none, 0) (makes_rep (E := 3) (sz := 1) (f := e_i64) (zz := (0 : Int)) Try.underlying30 (info_of Try.typeInfo3) rfl rfl rfl rfl rfl rfl ⟨rfl, rfl⟩ hsz (by decide)) (fun _ => rfl) rfl rfl rfl (fun pr => ?_)
       refine d_val rfl rfl (r_move (v := v0) rfl) ?_
       refine d_val (v := .int .i64 (n : Int)) rfl rfl (fun w => (r_lenF Try.underlying22 rfl f0 rfl w).trans (by rw [hn])) ?_
       refine d_make (Cv := fun v => rowV 4 1 v n ((List.replicate n false).map e_bool)) (none, 0) (makes_rep (E := 4) (sz := 1) (f := e_bool) (zz := false) Try.underlying78 (info_of Try.typeInfo4) rfl rfl rfl rfl rfl rfl ⟨rfl, rfl⟩ hsz (by decide)) (fun _ => rfl) rfl rfl rfl (fun qr => ?_)
       refine d_readD (fun w L' hF hS hi => run_indexO Try.underlying25 Try.sizeOf30 rfl rfl (rowOfI (i := 1) (E := 30) (sz := 1) (n := n) (a := p.1) (c := p.2) hS ((hi 1 (by simp)).trans rfl)) hRg.symm hatg) rfl rfl ?_
       refine d_storeP (turns_storeRow (i := 1) (k := i) (rds := []) (a := p.1) Try.sizeOf30 rfl rfl rfl rfl rfl (by omega)) rfl rfl ?_
       refine d_readD (fun w L' hF hS hi => run_indexO Try.underlying77 Try.sizeOf78 rfl rfl (rowOfI (i := 2) (E := 78) (sz := 1) (n := n) (a := q.1) (c := q.2) hS ((hi 2 (by simp)).trans rfl)) hRa.symm hata) rfl rfl ?_
       refine d_storeP (turns_storeRow (i := 2) (k := i) (rds := []) (a := q.1) Try.sizeOf78 rfl rfl rfl rfl rfl (by omega)) rfl rfl ?_
       refine d_nil ?_
       try dsimp only [z1, z2, z3, z4, z5, z6, z7, z8]
       refine c_both 5 7 rfl rfl (by decide) ?_
       try dsimp only [z1, z2, z3, z4, z5, z6, z7, z8]
       refine c_imp 5 rfl (imp_kidPut (k := i) (u := pr) (xs := List.replicate n (0 : Int)) (by rw [iniT_len I1]; exact hlt) (List.length_replicate).symm) ?_
       try dsimp only [z1, z2, z3, z4, z5, z6, z7, z8]
       refine c_both 6 8 rfl rfl (by decide) ?_
       try dsimp only [z1, z2, z3, z4, z5, z6, z7, z8]
       refine c_imp 6 rfl (imp_kidPut (k := i) (u := qr) (xs := List.replicate n false) (by rw [iniT_len I1]; exact hlt) (List.length_replicate).symm) ?_
       try dsimp only [z1, z2, z3, z4, z5, z6, z7, z8]
       have eg : (rowsG us (iniT n i (List.replicate n (774193 : Int)))).set i [.slice pr.1 n pr.2] = rowsG (us.set i pr) ((iniT n i (List.replicate n (774193 : Int))).set i (List.replicate n (0 : Int))) := by rw [rowsG_set]; unfold slvG; rw [List.length_replicate]
       have ea : (rowsG vs (iniT n i (List.replicate n false))).set i [.slice qr.1 n qr.2] = rowsG (vs.set i qr) (iniT n (i + 1) (List.replicate n false)) := by rw [← iniT_set hlt, rowsG_set]; unfold slvG; rw [List.length_replicate]
       refine c_imp 1 rfl (show Imp _ (rowV 30 1 (.slice p.1 n p.2) n (rowsG (us.set i pr) ((iniT n i (List.replicate n (774193 : Int))).set i (List.replicate n (0 : Int))))) from by rw [← eg]; exact Imp.refl _) ?_
       refine c_imp 2 rfl (show Imp _ (rowV 78 1 (.slice q.1 n q.2) n (rowsG (vs.set i qr) (iniT n (i + 1) (List.replicate n false)))) from by rw [← ea]; exact Imp.refl _) ?_
       refine c_imp 6 rfl (show Imp _ (kidsC 4 e_bool (vs.set i qr) (iniT n (i + 1) (List.replicate n false))) from by rw [iniT_set hlt]; exact Imp.refl _) ?_
       try dsimp only [z1, z2, z3, z4, z5, z6, z7, z8]
       refine c_seq ?_
       refine c_region ?_
       refine l_val rfl rfl rfl (r_move (v := v0) rfl) ?_
       refine l_val (v := .int .i64 (n : Int)) rfl rfl rfl (fun w => (r_lenF Try.underlying22 rfl f0 rfl w).trans (by rw [hn])) ?_
       refine l_val rfl rfl rfl (r_move (v := .int .i64 0) rfl) ?_
       refine l_nil ?_
       try dsimp only [z1, z2, z3, z4, z5, z6, z7, z8]
       refine c_block ?_
       have hul : (us.set i pr).length = n := by simpa using I2
       have hui : (us.set i pr)[i]? = some pr := List.getElem?_set_self (by omega)
       generalize us.set i pr = us' at *
       generalize hvs : vs.set i qr = vs' at *
       have hvl : vs'.length = n := by rw [← hvs]; simpa using I3
       have hX : ∀ z : List Int, ((iniT n i (List.replicate n (774193 : Int))).set i z)[i]? = some z := fun z => List.getElem?_set_self (by rw [iniT_len I1]; exact hlt)
       refine c_loop (σ := Nat) (fun k => [(0, v0), (2, v2), (6, .pointer (some ⟨b6, 0, none⟩)), (7, .pointer (some ⟨b7, 0, none⟩)), (8, .slice po.1 n po.2), (13, .int .i64 (i : Int)), (52, .int .i64 (n : Int)), (53, .int .i64 (i : Int)), (71, .int .i64 (n : Int)), (72, .int .i64 (k : Int))]) (fun k => [cellsC b6 [.slice none 0 0, .slice none 0 0] 94, rowV 30 1 (.slice p.1 n p.2) n (rowsG us' ((iniT n i (List.replicate n (774193 : Int))).set i (List.replicate n (0 : Int)))), rowV 78 1 (.slice q.1 n q.2) n (rowsG vs' (iniT n (i + 1) (List.replicate n false))), cellsC b7 [.slice p.1 n p.2, .slice q.1 n q.2] 94, rowV 3 1 (.slice po.1 n po.2) n (ofs.map e_i64), kidsC 3 e_i64 us' ((iniT n i (List.replicate n (774193 : Int))).set i (List.replicate k (774193 : Int) ++ List.replicate (n - k) (0 : Int))), kidsC 4 e_bool vs' (iniT n (i + 1) (List.replicate n false))]) (fun k => k ≤ n) (fun k => n - k) 0 [0, 1, 2, 3, 4, 5, 6] (Nat.zero_le _) (by exact ⟨rfl, rfl, rfl, rfl, rfl, rfl, rfl, rfl, rfl, rfl, trivial⟩) (by decide) (by kernel_rfl) ?_
       intro k gg6 K1
       try dsimp only at K1
       try dsimp only
       refine c_seq ?_
       refine c_region ?_
       refine l_val rfl rfl rfl (r_lss rfl rfl) ?_
       refine l_nil ?_
       refine c_seq ?_
       refine c_if (b := decide ((k : Int) < (n : Int))) rfl (fun hb => ?_) (fun hb => ?_)
       · have hkl : k < n := by have := of_decide_eq_true hb; omega
         have hxl : (List.replicate k (774193 : Int) ++ List.replicate (n - k) (0 : Int)).length = n := by simp; omega
         have hrr : rowsG us' ((iniT n i (List.replicate n (774193 : Int))).set i (List.replicate n (0 : Int))) = rowsG us' ((iniT n i (List.replicate n (774193 : Int))).set i (List.replicate k (774193 : Int) ++ List.replicate (n - k) (0 : Int))) := by
           have := rowsG_same (us := us') (xss := (iniT n i (List.replicate n (774193 : Int))).set i (List.replicate n (0 : Int))) (k := i) (ys := (List.replicate k (774193 : Int) ++ List.replicate (n - k) (0 : Int))) (hX _) (by rw [hxl, List.length_replicate])
           rw [List.set_set] at this
           exact this.symm
         have hRg : n = (rowsG us' ((iniT n i (List.replicate n (774193 : Int))).set i (List.replicate k (774193 : Int) ++ List.replicate (n - k) (0 : Int)))).length := by rw [rowsG_len (by rw [hul, List.length_set, iniT_len I1]), List.length_set, iniT_len I1]
         have hat1 := gAt_some' (rowsG_at hui (hX (List.replicate k (774193 : Int) ++ List.replicate (n - k) (0 : Int))))
         have hat2 := gAt_nat (xs := (List.replicate k (774193 : Int) ++ List.replicate (n - k) (0 : Int))) (k := k) (by omega)
         rw [hrr]
         refine c_skip ?_
         refine c_seq ?_
         refine c_block ?_
         refine c_seq ?_
         refine c_region ?_
         refine l_val rfl rfl rfl (r_move (v := .int .i64 (k : Int)) rfl) ?_
         refine l_val rfl rfl rfl (r_assign (v := .int .i64 (k : Int)) rfl) ?_
         refine l_nil ?_
         refine c_region ?_
         refine l_val rfl rfl rfl (r_field Try.runUnderlying94 rfl Try.sizeOf25 rfl rfl) ?_
         refine l_load1 (i := 3) (v := (.slice p.1 n p.2)) Try.isAgg25 rfl rfl rfl rfl rfl ?_
         refine l_val rfl rfl rfl (r_move (v := .int .i64 (i : Int)) rfl) ?_
         refine l_read (fun w hF hS => run_indexO Try.underlying25 Try.sizeOf30 rfl rfl (rowOfI (i := 1) (E := 30) (sz := 1) (n := n) (a := p.1) (c := p.2) hS rfl) hRg hat1) rfl rfl rfl ?_
         refine l_read (fun w hF hS => run_loadG1 (f := idC) (i := ((i : Nat) : Int)) (sz := 1) (j := 0) (v := slvG pr (List.replicate k (774193 : Int) ++ List.replicate (n - k) (0 : Int))) Try.isAgg30 rfl rfl (rowOfI (i := 1) (E := 30) (sz := 1) (n := n) (a := p.1) (c := p.2) hS rfl) hat1 rfl) rfl rfl rfl ?_
         refine l_val rfl rfl rfl (r_move (v := .int .i64 (k : Int)) rfl) ?_
         refine l_read (fun w hF hS => run_indexO Try.underlying30 Try.sizeOf3 rfl rfl (kidRow (i := 5) (E := 3) (en := e_i64) hS rfl hui (hX _)) rfl hat2) rfl rfl rfl ?_
         refine l_turn0 (turns_storeKid (i := 5) (j := k) (y := (774193 : Int)) (u := pr) (en := e_i64) (rds := []) Try.sizeOf3 rfl rfl rfl rfl (fun _ => rfl) rfl hui (hX _) (by omega)) rfl rfl (fun _ => ?_)
         refine l_nil ?_
         try dsimp only [z1, z2, z3, z4, z5, z6, z7, z8]
         refine c_region ?_
         refine l_val rfl rfl rfl (r_addG rfl rfl (gI_ok (by omega))) ?_
         refine l_val rfl rfl rfl (r_move (v := .int .i64 ((k : Int) + 1)) rfl) ?_
         refine l_nil ?_
         have hset : (List.replicate k (774193 : Int) ++ List.replicate (n - k) (0 : Int)).set k (774193 : Int) = List.replicate (k + 1) (774193 : Int) ++ List.replicate (n - (k + 1)) (0 : Int) := by
           rw [List.set_append_right _ _ (by simp), List.length_replicate, Nat.sub_self, show n - k = (n - (k + 1)) + 1 by omega, List.replicate_succ, List.set_cons_zero, List.replicate_succ', List.append_assoc]
           rfl
         refine c_round (k + 1) [0, 1, 2, 3, 4, 5, 6] (by exact ⟨rfl, rfl, rfl, rfl, rfl, rfl, rfl, rfl, rfl, rfl, trivial⟩) (by decide) ?_ (by show k + 1 ≤ n; omega) (by show n - (k + 1) < n - k; omega)
         rw [← hset, ← hrr, List.set_set]
         rfl
       · obtain rfl : n = k := by have := of_decide_eq_false hb; omega
         refine c_exit ?_
         refine c_region ?_
         refine l_val rfl rfl rfl (r_addG rfl rfl (gI_ok (by omega))) ?_
         refine l_val rfl rfl rfl (r_move (v := .int .i64 ((i : Int) + 1)) rfl) ?_
         refine l_nil ?_
         have e1 : (iniT n i (List.replicate n (774193 : Int))).set i (List.replicate n (774193 : Int) ++ List.replicate (n - n) (0 : Int)) = (iniT n (i + 1) (List.replicate n (774193 : Int))) := by rw [Nat.sub_self, List.replicate_zero, List.append_nil, iniT_set hlt]
         have e2 : rowsG us' ((iniT n i (List.replicate n (774193 : Int))).set i (List.replicate n (0 : Int))) = rowsG us' (iniT n (i + 1) (List.replicate n (774193 : Int))) := by
           have := rowsG_same (us := us') (xss := (iniT n i (List.replicate n (774193 : Int))).set i (List.replicate n (0 : Int))) (k := i) (ys := List.replicate n (774193 : Int)) (hX _) (by rw [List.length_replicate, List.length_replicate])
           rw [List.set_set, iniT_set hlt] at this
           exact this.symm
         rw [e1, e2]
         refine c_round (i + 1, us', vs') [0, 1, 2, 3, 4, 5, 6] (by exact ⟨rfl, rfl, rfl, rfl, rfl, rfl, rfl, trivial⟩) (by decide) (by kernel_rfl) ⟨hlt, hul, hvl⟩ (by show n - (i + 1) < n - i; omega)
     · obtain rfl : n = i := by have := of_decide_eq_false hb; omega
       rw [iniT_n, iniT_n]
       refine c_exit ?_
       have hfold : (List.range' 0 (n - 0)).foldlM (fun t i => (List.range n).foldlM (gapT a0 ofs i) t) (List.replicate n (List.replicate n (774193 : Int))) = some G := by rw [Nat.sub_zero, ← List.range_eq_range']; exact h_G
       refine c_seq ?_
       refine c_seq ?_
       refine c_region ?_
       refine l_val rfl rfl rfl (r_move (v := v0) rfl) ?_
       refine l_val (v := .int .i64 (n : Int)) rfl rfl rfl (fun w => (r_lenF Try.underlying22 rfl f0 rfl w).trans (by rw [hn])) ?_
       refine l_val rfl rfl rfl (r_move (v := .int .i64 0) rfl) ?_
       refine l_nil ?_
       refine c_block ?_
       refine c_loop (σ := Nat × List (List Int)) (fun s => [(0, v0), (2, v2), (6, .pointer (some ⟨b6, 0, none⟩)), (7, .pointer (some ⟨b7, 0, none⟩)), (8, .slice po.1 n po.2), (85, .int .i64 (n : Int)), (86, .int .i64 (s.1 : Int))]) (fun s => [cellsC b6 [.slice none 0 0, .slice none 0 0] 94, rowV 30 1 (.slice p.1 n p.2) n (rowsG us (List.replicate n (List.replicate n (774193 : Int)))), rowV 78 1 (.slice q.1 n q.2) n (rowsG vs (List.replicate n (List.replicate n false))), cellsC b7 [.slice p.1 n p.2, .slice q.1 n q.2] 94, rowV 3 1 (.slice po.1 n po.2) n (ofs.map e_i64), kidsC 3 e_i64 us s.2, kidsC 4 e_bool vs (List.replicate n (List.replicate n false))]) (fun s => s.1 ≤ n ∧ sqT n s.2 ∧ rowsG us s.2 = (rowsG us (List.replicate n (List.replicate n (774193 : Int)))) ∧ (List.range' s.1 (n - s.1)).foldlM (fun t i => (List.range n).foldlM (gapT a0 ofs i) t) s.2 = some G) (fun s => n - s.1) (0, List.replicate n (List.replicate n (774193 : Int))) [0, 1, 2, 3, 4, 5, 6] ⟨Nat.zero_le _, sq_rep, rfl, hfold⟩ (by exact ⟨rfl, rfl, rfl, rfl, rfl, rfl, rfl, trivial⟩) (by decide) (by kernel_rfl) ?_
       rintro ⟨i, t0⟩ gg8 ⟨F1, F2, F3, F4⟩
       try dsimp only at F1 F2 F3 F4
       try dsimp only
       refine c_seq ?_
       refine c_region ?_
       refine l_val rfl rfl rfl (r_lss rfl rfl) ?_
       refine l_nil ?_
       refine c_seq ?_
       refine c_if (b := decide ((i : Int) < (n : Int))) rfl (fun hb => ?_) (fun hb => ?_)
       · have hlt : i < n := by have := of_decide_eq_true hb; omega
         rw [show n - i = (n - (i + 1)) + 1 by omega, List.range'_succ, List.foldlM_cons] at F4
         obtain ⟨t1, h_t1, F5⟩ := Option.bind_eq_some_iff.1 F4
         have h_in : (List.range' 0 (n - 0)).foldlM (gapT a0 ofs i) t0 = some t1 := by rw [Nat.sub_zero, ← List.range_eq_range']; exact h_t1
         refine c_skip ?_
         refine c_seq ?_
         refine c_block ?_
         refine c_seq ?_
         refine c_region ?_
         refine l_val rfl rfl rfl (r_move (v := .int .i64 (i : Int)) rfl) ?_
         refine l_val rfl rfl rfl (r_assign (v := .int .i64 (i : Int)) rfl) ?_
         refine l_nil ?_
         refine c_seq ?_
         refine c_region ?_
         refine l_val rfl rfl rfl (r_move (v := v0) rfl) ?_
         refine l_val (v := .int .i64 (n : Int)) rfl rfl rfl (fun w => (r_lenF Try.underlying22 rfl f0 rfl w).trans (by rw [hn])) ?_
         refine l_val rfl rfl rfl (r_move (v := .int .i64 0) rfl) ?_
         refine l_nil ?_
         refine c_block ?_
         refine c_loop (σ := Nat × List (List Int)) (fun s => [(0, v0), (2, v2), (6, .pointer (some ⟨b6, 0, none⟩)), (7, .pointer (some ⟨b7, 0, none⟩)), (8, .slice po.1 n po.2), (15, .int .i64 (i : Int)), (85, .int .i64 (n : Int)), (86, .int .i64 (i : Int)), (90, .int .i64 (n : Int)), (91, .int .i64 (s.1 : Int))]) (fun s => [cellsC b6 [.slice none 0 0, .slice none 0 0] 94, rowV 30 1 (.slice p.1 n p.2) n (rowsG us (List.replicate n (List.replicate n (774193 : Int)))), rowV 78 1 (.slice q.1 n q.2) n (rowsG vs (List.replicate n (List.replicate n false))), cellsC b7 [.slice p.1 n p.2, .slice q.1 n q.2] 94, rowV 3 1 (.slice po.1 n po.2) n (ofs.map e_i64), kidsC 3 e_i64 us s.2, kidsC 4 e_bool vs (List.replicate n (List.replicate n false))]) (fun s => s.1 ≤ n ∧ sqT n s.2 ∧ rowsG us s.2 = (rowsG us (List.replicate n (List.replicate n (774193 : Int)))) ∧ (List.range' s.1 (n - s.1)).foldlM (gapT a0 ofs i) s.2 = some t1) (fun s => n - s.1) (0, t0) [0, 1, 2, 3, 4, 5, 6] ⟨Nat.zero_le _, F2, F3, h_in⟩ (by exact ⟨rfl, rfl, rfl, rfl, rfl, rfl, rfl, rfl, rfl, rfl, trivial⟩) (by decide) (by kernel_rfl) ?_
         rintro ⟨k, tk⟩ gg10 ⟨E1, E2, E3, E4⟩
         try dsimp only at E1 E2 E3 E4
         try dsimp only
         refine c_seq ?_
         refine c_region ?_
         refine l_val rfl rfl rfl (r_lss rfl rfl) ?_
         refine l_nil ?_
         refine c_seq ?_
         refine c_if (b := decide ((k : Int) < (n : Int))) rfl (fun hb => ?_) (fun hb => ?_)
         · have hkl : k < n := by have := of_decide_eq_true hb; omega
           rw [show n - k = (n - (k + 1)) + 1 by omega, List.range'_succ, List.foldlM_cons] at E4
           obtain ⟨t2, h_t2, E5⟩ := Option.bind_eq_some_iff.1 E4
           obtain ⟨A, hA, hAl⟩ := hval i hlt
           obtain ⟨B, hB, hBl⟩ := hval k hkl
           have hli : i < a0.length := by omega
           have hlk : k < a0.length := by omega
           have h_li := gAt_nat hli
           have h_lk := gAt_nat hlk
           unfold gapT at h_t2
           rw [List.getElem?_eq_getElem hli, List.getElem?_eq_getElem hlk] at h_t2
           generalize a0[i] = li at h_li h_t2
           generalize a0[k] = lk at h_lk h_t2
           obtain ⟨dd, h_d, h_t3⟩ := bnd_some h_t2
           obtain rfl := Option.some.inj h_t3
           have eA : (ofs.getD i 0).toNat = A := by rw [List.getD_eq_getElem?_getD, hA]; rfl
           have eB : (ofs.getD k 0).toNat = B := by rw [List.getD_eq_getElem?_getD, hB]; rfl
           rw [eA, eB] at E5
           have hoA := gAt_some' hA
           have hoB := gAt_some' hB
           obtain ⟨xA, hxA, lxA⟩ := sq_at E2 hAl
           obtain ⟨uA, huA⟩ := us_at I2 hAl
           have rA := gAt_some' (rowsG_at huA hxA)
           have cB := gAt_nat (xs := xA) (k := B) (by omega)
           have eB2 := get2_at (z := (0 : Int)) hxA (k := B) (by omega)
           generalize xA[B] = vB at cB eB2
           have hRg : n = (rowsG us tk).length := by rw [rowsG_len (by rw [I2, E2.1]), E2.1]
           have eset := set2_at (b := B) (v := min vB dd) hxA
           have sq2 := sq_set2 E2 A B (min vB dd)
           have rr2 := rows_set2 (us := us) (t := tk) (a := A) (b := B) (v := min vB dd)
           rw [eB2] at E5
           rw [eset] at sq2 rr2 E5
           have E3' := E3
           rw [← E3]
           refine c_skip ?_
           refine c_seq ?_
           refine c_block ?_
           refine c_seq ?_
           refine c_region ?_
           refine l_val rfl rfl rfl (r_move (v := .int .i64 (k : Int)) rfl) ?_
           refine l_val rfl rfl rfl (r_assign (v := .int .i64 (k : Int)) rfl) ?_
           refine l_nil ?_
           refine c_seq ?_
           refine c_regionD (Kd.p :: Kd.p :: Kd.d [4] (ptrAt po.1 (Int.toNat ((i : Nat) : Int) * 1)) :: Kd.d [4] (.int .i64 ((A : Nat) : Int)) :: Kd.p :: Kd.p :: Kd.d [4] (ptrAt po.1 (Int.toNat ((k : Nat) : Int) * 1)) :: Kd.d [4] (.int .i64 ((B : Nat) : Int)) :: Kd.p :: Kd.p :: []) 0 mixed ?_ (by kernel_rfl)
           refine d_val rfl rfl (r_move (v := .slice po.1 n po.2) rfl) ?_
           refine d_val rfl rfl (r_move (v := .int .i64 (i : Int)) rfl) ?_
           refine d_readD (fun w L' hF hS hi => run_indexO Try.underlying30 Try.sizeOf3 rfl rfl (rowOf (i := 4) (E := 3) (sz := 1) (n := n) (a := po.1) (c := po.2) hS ((hi 4 (by simp)).trans rfl)) hol.symm hoA) rfl rfl ?_
           refine d_readD (fun w L' hF hS hi => run_loadG1 (f := e_i64) (i := ((i : Nat) : Int)) (sz := 1) (j := 0) (v := .int .i64 ((A : Nat) : Int)) Try.isAgg3 rfl rfl (rowOf (i := 4) (E := 3) (sz := 1) (n := n) (a := po.1) (c := po.2) hS ((hi 4 (by simp)).trans rfl)) hoA rfl) rfl rfl ?_
           refine d_val rfl rfl (r_move (v := .slice po.1 n po.2) rfl) ?_
           refine d_val rfl rfl (r_move (v := .int .i64 (k : Int)) rfl) ?_
           refine d_readD (fun w L' hF hS hi => run_indexO Try.underlying30 Try.sizeOf3 rfl rfl (rowOf (i := 4) (E := 3) (sz := 1) (n := n) (a := po.1) (c := po.2) hS ((hi 4 (by simp)).trans rfl)) hol.symm hoB) rfl rfl ?_
           refine d_readD (fun w L' hF hS hi => run_loadG1 (f := e_i64) (i := ((k : Nat) : Int)) (sz := 1) (j := 0) (v := .int .i64 ((B : Nat) : Int)) Try.isAgg3 rfl rfl (rowOf (i := 4) (E := 3) (sz := 1) (n := n) (a := po.1) (c := po.2) hS ((hi 4 (by simp)).trans rfl)) hoB rfl) rfl rfl ?_
           refine d_val rfl rfl (r_assign (v := .int .i64 ((A : Nat) : Int)) rfl) ?_
           refine d_val rfl rfl (r_assign (v := .int .i64 ((B : Nat) : Int)) rfl) ?_
           refine d_nil ?_
           try dsimp only [z1, z2, z3, z4, z5, z6, z7, z8]
           refine c_regionD (Kd.p :: Kd.d [3] (.slice p.1 n p.2) :: Kd.p :: Kd.d [1] (ptrAt p.1 (Int.toNat ((A : Nat) : Int) * 1)) :: Kd.d [1] (slvG uA xA) :: Kd.p :: Kd.p :: Kd.d [3] (.slice p.1 n p.2) :: Kd.p :: Kd.d [1] (ptrAt p.1 (Int.toNat ((A : Nat) : Int) * 1)) :: Kd.d [1] (slvG uA xA) :: Kd.p :: Kd.d [5] (ptrAt uA.1 (Int.toNat ((B : Nat) : Int) * 1)) :: Kd.d [5] (.int .i64 vB) :: Kd.p :: Kd.p :: Kd.p :: Kd.p :: Kd.d [] (.agg #[.int .i64 (li.Vec 0), .int .i64 (li.Vec 1), .int .i64 (li.Vec 2), .int .i64 (li.Vec 3), .int .i64 (li.Vec 4), .int .i64 (li.Vec 5), .int .i64 (li.Vec 6), .int .i64 (li.Vec 7), .int .i64 (li.Vec 8), .int .i64 (li.Vec 9), .int .i64 (li.Vec 10), .int .i64 (li.Vec 11)]) :: Kd.p :: Kd.p :: Kd.p :: Kd.p :: Kd.d [] (.agg #[.int .i64 (lk.Vec 0), .int .i64 (lk.Vec 1), .int .i64 (lk.Vec 2), .int .i64 (lk.Vec 3), .int .i64 (lk.Vec 4), .int .i64 (lk.Vec 5), .int .i64 (lk.Vec 6), .int .i64 (lk.Vec 7), .int .i64 (lk.Vec 8), .int .i64 (lk.Vec 9), .int .i64 (lk.Vec 10), .int .i64 (lk.Vec 11)]) :: Kd.d [] (.int .i64 dd) :: Kd.p :: Kd.d [5] (ptrAt uA.1 (Int.toNat ((B : Nat) : Int) * 1)) :: Kd.sr 5 (kidsC 3 e_i64 us (tk.set A (xA.set B (min vB dd)))) :: []) 0 mixed ?_ (by kernel_rfl)
           refine d_val rfl rfl (r_field Try.runUnderlying94 rfl Try.sizeOf25 rfl rfl) ?_
           refine d_load1 (i := 3) (v := (.slice p.1 n p.2)) Try.isAgg25 rfl rfl rfl rfl ?_
           refine d_val rfl rfl (r_move (v := .int .i64 ((A : Nat) : Int)) rfl) ?_
           refine d_readD (fun w L' hF hS hi => run_indexO Try.underlying25 Try.sizeOf30 rfl rfl (rowOfI (i := 1) (E := 30) (sz := 1) (n := n) (a := p.1) (c := p.2) hS ((hi 1 (by simp)).trans rfl)) hRg rA) rfl rfl ?_
           refine d_readD (fun w L' hF hS hi => run_loadG1 (f := idC) (i := ((A : Nat) : Int)) (sz := 1) (j := 0) (v := slvG uA xA) Try.isAgg30 rfl rfl (rowOfI (i := 1) (E := 30) (sz := 1) (n := n) (a := p.1) (c := p.2) hS ((hi 1 (by simp)).trans rfl)) rA rfl) rfl rfl ?_
           refine d_val rfl rfl (r_move (v := .int .i64 ((B : Nat) : Int)) rfl) ?_
           refine d_val rfl rfl (r_field Try.runUnderlying94 rfl Try.sizeOf25 rfl rfl) ?_
           refine d_load1 (i := 3) (v := (.slice p.1 n p.2)) Try.isAgg25 rfl rfl rfl rfl ?_
           refine d_val rfl rfl (r_move (v := .int .i64 ((A : Nat) : Int)) rfl) ?_
           refine d_readD (fun w L' hF hS hi => run_indexO Try.underlying25 Try.sizeOf30 rfl rfl (rowOfI (i := 1) (E := 30) (sz := 1) (n := n) (a := p.1) (c := p.2) hS ((hi 1 (by simp)).trans rfl)) hRg rA) rfl rfl ?_
           refine d_readD (fun w L' hF hS hi => run_loadG1 (f := idC) (i := ((A : Nat) : Int)) (sz := 1) (j := 0) (v := slvG uA xA) Try.isAgg30 rfl rfl (rowOfI (i := 1) (E := 30) (sz := 1) (n := n) (a := p.1) (c := p.2) hS ((hi 1 (by simp)).trans rfl)) rA rfl) rfl rfl ?_
           refine d_val rfl rfl (r_move (v := .int .i64 ((B : Nat) : Int)) rfl) ?_
           refine d_readD (fun w L' hF hS hi => run_indexO Try.underlying30 Try.sizeOf3 rfl rfl (kidRow (i := 5) (E := 3) (en := e_i64) hS ((hi 5 (by simp)).trans rfl) huA hxA) rfl cB) rfl rfl ?_
           refine d_readD (fun w L' hF hS hi => run_loadG1 (f := e_i64) (i := ((B : Nat) : Int)) (sz := 1) (j := 0) (v := .int .i64 vB) Try.isAgg3 rfl rfl (kidRow (i := 5) (E := 3) (en := e_i64) hS ((hi 5 (by simp)).trans rfl) huA hxA) cB rfl) rfl rfl ?_
           refine d_val rfl rfl (r_move (v := v0) rfl) ?_
           refine d_val rfl rfl (r_move (v := .int .i64 ((i : Nat) : Int)) rfl) ?_
           refine d_val rfl rfl (r_indexF Try.underlying22 Try.sizeOf64 rfl rfl f0 h_li) ?_
           refine d_val rfl rfl (r_fieldP Try.runUnderlying64 rfl Try.sizeOf52 rfl rfl (some_of_at f0 h_li)) ?_
           refine d_read (fun w hF => run_loadGN (f := e_face_Likeness) (i := ((i : Nat) : Int)) (sz := 14) (j := 2) (vs := [.int .i64 (li.Vec 0), .int .i64 (li.Vec 1), .int .i64 (li.Vec 2), .int .i64 (li.Vec 3), .int .i64 (li.Vec 4), .int .i64 (li.Vec 5), .int .i64 (li.Vec 6), .int .i64 (li.Vec 7), .int .i64 (li.Vec 8), .int .i64 (li.Vec 9), .int .i64 (li.Vec 10), .int .i64 (li.Vec 11)]) Try.isAgg52 Try.sizeOf52 rfl rfl (f0.row (hw.now hF)) h_li rfl) rfl rfl ?_
           refine d_val rfl rfl (r_move (v := v0) rfl) ?_
           refine d_val rfl rfl (r_move (v := .int .i64 ((k : Nat) : Int)) rfl) ?_
           refine d_val rfl rfl (r_indexF Try.underlying22 Try.sizeOf64 rfl rfl f0 h_lk) ?_
           refine d_val rfl rfl (r_fieldP Try.runUnderlying64 rfl Try.sizeOf52 rfl rfl (some_of_at f0 h_lk)) ?_
           refine d_read (fun w hF => run_loadGN (f := e_face_Likeness) (i := ((k : Nat) : Int)) (sz := 14) (j := 2) (vs := [.int .i64 (lk.Vec 0), .int .i64 (lk.Vec 1), .int .i64 (lk.Vec 2), .int .i64 (lk.Vec 3), .int .i64 (lk.Vec 4), .int .i64 (lk.Vec 5), .int .i64 (lk.Vec 6), .int .i64 (lk.Vec 7), .int .i64 (lk.Vec 8), .int .i64 (lk.Vec 9), .int .i64 (lk.Vec 10), .int .i64 (lk.Vec 11)]) Try.isAgg52 Try.sizeOf52 rfl rfl (f0.row (hw.now hF)) h_lk rfl) rfl rfl ?_
           refine d_call (k28 h_d) Try.call28 rfl rfl ?_
           refine d_val rfl rfl (r_min rfl rfl) ?_
           refine d_readD (fun w L' hF hS hi => run_indexO Try.underlying30 Try.sizeOf3 rfl rfl (kidRow (i := 5) (E := 3) (en := e_i64) hS ((hi 5 (by simp)).trans rfl) huA hxA) rfl cB) rfl rfl ?_
           refine d_storeK (turns_storeKid (i := 5) (j := B) (y := (min vB dd)) (u := uA) (en := e_i64) (rds := []) Try.sizeOf3 rfl rfl rfl rfl (fun _ => rfl) rfl huA hxA (by omega)) rfl rfl ?_
           refine d_nil ?_
           try dsimp only [z1, z2, z3, z4, z5, z6, z7, z8]
           refine c_region ?_
           refine l_val rfl rfl rfl (r_addG rfl rfl (gI_ok (by omega))) ?_
           refine l_val rfl rfl rfl (r_move (v := .int .i64 ((k : Int) + 1)) rfl) ?_
           refine l_nil ?_
           refine c_round (k + 1, tk.set A (xA.set B (min vB dd))) [0, 1, 2, 3, 4, 5, 6] (by exact ⟨rfl, rfl, rfl, rfl, rfl, rfl, rfl, rfl, rfl, rfl, trivial⟩) (by decide) ?_ ⟨hkl, sq2, rr2.trans rfl, E5⟩ (by show n - (k + 1) < n - k; omega)
           rfl
         · obtain rfl : n = k := by have := of_decide_eq_false hb; omega
           rw [Nat.sub_self] at E4
           obtain rfl := Option.some.inj E4
           refine c_exit ?_
           refine c_region ?_
           refine l_val rfl rfl rfl (r_addG rfl rfl (gI_ok (by omega))) ?_
           refine l_val rfl rfl rfl (r_move (v := .int .i64 ((i : Int) + 1)) rfl) ?_
           refine l_nil ?_
           refine c_round (i + 1, tk) [0, 1, 2, 3, 4, 5, 6] (by exact ⟨rfl, rfl, rfl, rfl, rfl, rfl, rfl, trivial⟩) (by decide) (by kernel_rfl) ⟨hlt, E2, E3, F5⟩ (by show n - (i + 1) < n - i; omega)
       · obtain rfl : n = i := by have := of_decide_eq_false hb; omega
         rw [Nat.sub_self] at F4
         obtain rfl := Option.some.inj F4
         refine c_exit ?_
         have sqG := F2
         have hAP : ∀ j, sqT n ((a2.take j).foldl (apartT ofs) (List.replicate n (List.replicate n false))) ∧ rowsG vs ((a2.take j).foldl (apartT ofs) (List.replicate n (List.replicate n false))) = (rowsG vs (List.replicate n (List.replicate n false))) := fun j => by
           generalize a2.take j = l
           have key : ∀ (l : List (Nat → Int)) (t : List (List Bool)), sqT n t → sqT n (l.foldl (apartT ofs) t) ∧ rowsG vs (l.foldl (apartT ofs) t) = rowsG vs t := by
             intro l
             induction l with
             | nil => intro t ht; exact ⟨ht, rfl⟩
             | cons m l ih =>
               intro t ht
               obtain ⟨h1, h2⟩ := ih (apartT ofs t m) (sq_set2 (sq_set2 ht _ _ _) _ _ _)
               refine ⟨h1, h2.trans ?_⟩
               unfold apartT
               rw [rows_set2, rows_set2]
           exact key l _ sq_rep
         have hnl : a2.length ≤ 9223372036854775807 := by
           obtain ⟨_, c, _, h1, h2, _⟩ := f2.out
           rw [List.length_map] at h1
           omega
         refine c_seq ?_
         refine c_seq ?_
         refine c_region ?_
         refine l_val rfl rfl rfl (r_move (v := v2) rfl) ?_
         refine l_val rfl rfl rfl (r_lenF Try.underlying55 rfl f2 rfl) ?_
         refine l_val rfl rfl rfl (r_move (v := .int .i64 0) rfl) ?_
         refine l_nil ?_
         refine c_block ?_
         refine c_loop (σ := Nat) (fun s => [(6, .pointer (some ⟨b6, 0, none⟩)), (7, .pointer (some ⟨b7, 0, none⟩)), (8, .slice po.1 n po.2), (131, v2), (132, .int .i64 (a2.length : Int)), (133, .int .i64 (s : Int))]) (fun s => [cellsC b6 [.slice none 0 0, .slice none 0 0] 94, rowV 30 1 (.slice p.1 n p.2) n (rowsG us (List.replicate n (List.replicate n (774193 : Int)))), rowV 78 1 (.slice q.1 n q.2) n (rowsG vs (List.replicate n (List.replicate n false))), cellsC b7 [.slice p.1 n p.2, .slice q.1 n q.2] 94, rowV 3 1 (.slice po.1 n po.2) n (ofs.map e_i64), kidsC 3 e_i64 us t0, kidsC 4 e_bool vs ((a2.take s).foldl (apartT ofs) (List.replicate n (List.replicate n false)))]) (fun s => s ≤ a2.length) (fun s => a2.length - s) 0 [0, 1, 2, 3, 4, 5, 6] (Nat.zero_le _) (by exact ⟨rfl, rfl, rfl, rfl, rfl, rfl, trivial⟩) (by decide) (by kernel_rfl) ?_
         intro j gg12 N1
         try dsimp only at N1
         try dsimp only
         refine c_seq ?_
         refine c_region ?_
         refine l_val rfl rfl rfl (r_lss rfl rfl) ?_
         refine l_nil ?_
         refine c_seq ?_
         refine c_if (b := decide ((j : Int) < (a2.length : Int))) rfl (fun hb => ?_) (fun hb => ?_)
         · have hlt : j < a2.length := by have := of_decide_eq_true hb; omega
           obtain ⟨sqA, rrA⟩ := hAP j
           have hnext : ((a2.take (j + 1)).foldl (apartT ofs) (List.replicate n (List.replicate n false))) = apartT ofs ((a2.take j).foldl (apartT ofs) (List.replicate n (List.replicate n false))) a2[j] := by rw [List.take_succ_eq_append_getElem hlt, List.foldl_append]; rfl
           have h_m := gAt_nat hlt
           obtain ⟨⟨m1, m2⟩, m3, m4⟩ := hno a2[j] (List.getElem_mem hlt)
           generalize a2[j] = m at hnext h_m m1 m2 m3 m4
           obtain ⟨A, hA, hAl⟩ := hval (m 0).toNat (by omega)
           obtain ⟨B, hB, hBl⟩ := hval (m 1).toNat (by omega)
           have hoA : gAt ofs (m 0) = some ((A : Nat) : Int) := by have := gAt_some' hA; rwa [Int.toNat_of_nonneg m1] at this
           have hoB : gAt ofs (m 1) = some ((B : Nat) : Int) := by have := gAt_some' hB; rwa [Int.toNat_of_nonneg m3] at this
           have eA : (ofs.getD (m 0).toNat 0).toNat = A := by rw [List.getD_eq_getElem?_getD, hA]; rfl
           have eB : (ofs.getD (m 1).toNat 0).toNat = B := by rw [List.getD_eq_getElem?_getD, hB]; rfl
           rw [← rrA]
           generalize hnx : ((a2.take (j + 1)).foldl (apartT ofs) (List.replicate n (List.replicate n false))) = ap1 at hnext
           generalize ((a2.take j).foldl (apartT ofs) (List.replicate n (List.replicate n false))) = ap at sqA rrA hnext
           unfold apartT at hnext
           rw [eA, eB] at hnext
           obtain ⟨yA, hyA, lyA⟩ := sq_at sqA hAl
           obtain ⟨yB, hyB, lyB⟩ := sq_at sqA hBl
           obtain ⟨uA, huA⟩ := us_at I3 hAl
           obtain ⟨uB, huB⟩ := us_at I3 hBl
           have rA := gAt_some' (rowsG_at huA hyA)
           have rB := gAt_some' (rowsG_at huB hyB)
           have cB := gAt_nat (xs := yA) (k := B) (by omega)
           have s1 : set2 ap A B true = ap.set A (yA.set B true) := set2_at hyA
           have q1 := sq_set2 sqA A B true
           obtain ⟨z, hz, lz⟩ := sq_at q1 hBl
           have s2 : set2 (set2 ap A B true) B A true = (ap.set A (yA.set B true)).set B (z.set A true) := by rw [set2_at hz, s1]
           rw [s1] at hz
           have cz := gAt_nat (xs := z) (k := A) (by omega)
           have lk : yB.length = z.length := by omega
           have hRa : n = (rowsG vs ap).length := by rw [rowsG_len (by rw [I3, sqA.1]), sqA.1]
           refine c_skip ?_
           refine c_seq ?_
           refine c_block ?_
           refine c_seq ?_
           refine c_region ?_
           refine l_val rfl rfl rfl (r_indexF Try.underlying55 Try.sizeOf36 rfl rfl f2 h_m) ?_
           refine l_read (fun w hF hS => run_loadGN (f := e_2_int) (i := (j : Int)) (sz := 2) (j := 0) (vs := [.int .i64 (m 0), .int .i64 (m 1)]) Try.isAgg36 Try.sizeOf36 rfl rfl (f2.row (hw.now hF)) h_m rfl) rfl rfl rfl ?_
           refine l_alloc (cs := [.int .i64 0, .int .i64 0]) Try.zeroValue36 rfl rfl rfl (fun b20 => ?_)
           refine l_store (i := 7) (vs := [.int .i64 (m 0), .int .i64 (m 1)]) (cs' := [.int .i64 (m 0), .int .i64 (m 1)]) Try.sizeOf36 rfl rfl rfl rfl rfl rfl rfl rfl rfl ?_
           refine l_nil ?_
           try dsimp only [z1, z2, z3, z4, z5, z6, z7, z8]
           refine c_seq ?_
           refine c_regionD (Kd.p :: Kd.p :: Kd.d [7] (.int .i64 (m 0)) :: Kd.d [4] (ptrAt po.1 (Int.toNat (m 0) * 1)) :: Kd.d [4] (.int .i64 ((A : Nat) : Int)) :: Kd.p :: Kd.p :: Kd.d [7] (.int .i64 (m 1)) :: Kd.d [4] (ptrAt po.1 (Int.toNat (m 1) * 1)) :: Kd.d [4] (.int .i64 ((B : Nat) : Int)) :: Kd.p :: Kd.p :: []) 0 mixed ?_ (by kernel_rfl)
           refine d_val rfl rfl (r_move (v := .slice po.1 n po.2) rfl) ?_
           refine d_val rfl rfl (r_indexPA Try.runUnderlying36 Try.sizeOf3 rfl rfl (by decide) (by decide)) ?_
           refine d_load1 (i := 7) (v := .int .i64 (m 0)) Try.isAgg3 rfl rfl rfl rfl ?_
           refine d_readD (fun w L' hF hS hi => run_indexO Try.underlying30 Try.sizeOf3 rfl rfl (rowOf (i := 4) (E := 3) (sz := 1) (n := n) (a := po.1) (c := po.2) hS ((hi 4 (by simp)).trans rfl)) hol.symm hoA) rfl rfl ?_
           refine d_readD (fun w L' hF hS hi => run_loadG1 (f := e_i64) (i := (m 0)) (sz := 1) (j := 0) (v := .int .i64 ((A : Nat) : Int)) Try.isAgg3 rfl rfl (rowOf (i := 4) (E := 3) (sz := 1) (n := n) (a := po.1) (c := po.2) hS ((hi 4 (by simp)).trans rfl)) hoA rfl) rfl rfl ?_
           refine d_val rfl rfl (r_move (v := .slice po.1 n po.2) rfl) ?_
           refine d_val rfl rfl (r_indexPA Try.runUnderlying36 Try.sizeOf3 rfl rfl (by decide) (by decide)) ?_
           refine d_load1 (i := 7) (v := .int .i64 (m 1)) Try.isAgg3 rfl rfl rfl rfl ?_
           refine d_readD (fun w L' hF hS hi => run_indexO Try.underlying30 Try.sizeOf3 rfl rfl (rowOf (i := 4) (E := 3) (sz := 1) (n := n) (a := po.1) (c := po.2) hS ((hi 4 (by simp)).trans rfl)) hol.symm hoB) rfl rfl ?_
           refine d_readD (fun w L' hF hS hi => run_loadG1 (f := e_i64) (i := (m 1)) (sz := 1) (j := 0) (v := .int .i64 ((B : Nat) : Int)) Try.isAgg3 rfl rfl (rowOf (i := 4) (E := 3) (sz := 1) (n := n) (a := po.1) (c := po.2) hS ((hi 4 (by simp)).trans rfl)) hoB rfl) rfl rfl ?_
           refine d_val rfl rfl (r_assign (v := .int .i64 ((A : Nat) : Int)) rfl) ?_
           refine d_val rfl rfl (r_assign (v := .int .i64 ((B : Nat) : Int)) rfl) ?_
           refine d_nil ?_
           try dsimp only [z1, z2, z3, z4, z5, z6, z7, z8]
           refine c_regionD (Kd.p :: Kd.d [3] (.slice q.1 n q.2) :: Kd.p :: Kd.d [2] (ptrAt q.1 (Int.toNat ((A : Nat) : Int) * 1)) :: Kd.d [2] (slvG uA yA) :: Kd.p :: Kd.p :: Kd.d [3] (.slice q.1 n q.2) :: Kd.p :: Kd.d [2] (ptrAt q.1 (Int.toNat ((B : Nat) : Int) * 1)) :: Kd.d [2] (slvG uB yB) :: Kd.p :: Kd.d [6] (ptrAt uA.1 (Int.toNat ((B : Nat) : Int) * 1)) :: Kd.sr 6 (kidsC 4 e_bool vs (ap.set A (yA.set B true))) :: Kd.d [6] (ptrAt uB.1 (Int.toNat ((A : Nat) : Int) * 1)) :: Kd.sr 6 (kidsC 4 e_bool vs ((ap.set A (yA.set B true)).set B (z.set A true))) :: []) 0 mixed ?_ (by kernel_rfl)
           refine d_val rfl rfl (r_field Try.runUnderlying94 rfl Try.sizeOf77 rfl rfl) ?_
           refine d_load1 (i := 3) (v := (.slice q.1 n q.2)) Try.isAgg77 rfl rfl rfl rfl ?_
           refine d_val rfl rfl (r_move (v := .int .i64 ((A : Nat) : Int)) rfl) ?_
           refine d_readD (fun w L' hF hS hi => run_indexO Try.underlying77 Try.sizeOf78 rfl rfl (rowOfI (i := 2) (E := 78) (sz := 1) (n := n) (a := q.1) (c := q.2) hS ((hi 2 (by simp)).trans rfl)) hRa rA) rfl rfl ?_
           refine d_readD (fun w L' hF hS hi => run_loadG1 (f := idC) (i := ((A : Nat) : Int)) (sz := 1) (j := 0) (v := slvG uA yA) Try.isAgg78 rfl rfl (rowOfI (i := 2) (E := 78) (sz := 1) (n := n) (a := q.1) (c := q.2) hS ((hi 2 (by simp)).trans rfl)) rA rfl) rfl rfl ?_
           refine d_val rfl rfl (r_move (v := .int .i64 ((B : Nat) : Int)) rfl) ?_
           refine d_val rfl rfl (r_field Try.runUnderlying94 rfl Try.sizeOf77 rfl rfl) ?_
           refine d_load1 (i := 3) (v := (.slice q.1 n q.2)) Try.isAgg77 rfl rfl rfl rfl ?_
           refine d_val rfl rfl (r_move (v := .int .i64 ((B : Nat) : Int)) rfl) ?_
           refine d_readD (fun w L' hF hS hi => run_indexO Try.underlying77 Try.sizeOf78 rfl rfl (rowOfI (i := 2) (E := 78) (sz := 1) (n := n) (a := q.1) (c := q.2) hS ((hi 2 (by simp)).trans rfl)) hRa rB) rfl rfl ?_
           refine d_readD (fun w L' hF hS hi => run_loadG1 (f := idC) (i := ((B : Nat) : Int)) (sz := 1) (j := 0) (v := slvG uB yB) Try.isAgg78 rfl rfl (rowOfI (i := 2) (E := 78) (sz := 1) (n := n) (a := q.1) (c := q.2) hS ((hi 2 (by simp)).trans rfl)) rB rfl) rfl rfl ?_
           refine d_val rfl rfl (r_move (v := .int .i64 ((A : Nat) : Int)) rfl) ?_
           refine d_readD (fun w L' hF hS hi => run_indexO Try.underlying78 Try.sizeOf4 rfl rfl (kidRow (i := 6) (E := 4) (en := e_bool) hS ((hi 6 (by simp)).trans rfl) huA hyA) rfl cB) rfl rfl ?_
           refine d_storeK (turns_storeKid (i := 6) (j := B) (y := true) (u := uA) (en := e_bool) (rds := []) Try.sizeOf4 rfl rfl rfl rfl (fun _ => rfl) rfl huA hyA (by omega)) rfl rfl ?_
           refine d_readD (fun w L' hF hS hi => run_indexO Try.underlying78 Try.sizeOf4 rfl rfl (kidRow (i := 6) (E := 4) (en := e_bool) hS ((hi 6 (by simp)).trans rfl) huB hz) lk cz) rfl rfl ?_
           refine d_storeK (turns_storeKid (i := 6) (j := A) (y := true) (u := uB) (en := e_bool) (rds := []) Try.sizeOf4 rfl rfl rfl rfl (fun _ => rfl) rfl huB hz (by omega)) rfl rfl ?_
           refine d_nil ?_
           try dsimp only [z1, z2, z3, z4, z5, z6, z7, z8]
           refine c_region ?_
           refine l_val rfl rfl rfl (r_addG rfl rfl (gI_ok (by omega))) ?_
           refine l_val rfl rfl rfl (r_move (v := .int .i64 ((j : Int) + 1)) rfl) ?_
           refine l_nil ?_
           rw [hnext, s2] at hnx
           refine c_round (j + 1) [0, 1, 2, 3, 4, 5, 6] (by exact ⟨rfl, rfl, rfl, rfl, rfl, rfl, trivial⟩) (by decide) ?_ hlt (by show a2.length - (j + 1) < a2.length - j; omega)
           rw [hnx, rrA]
           rfl
         · obtain rfl : j = a2.length := by have := of_decide_eq_false hb; omega
           refine c_exit ?_
           rw [List.take_length]
           obtain ⟨sqA, rrA⟩ := hAP a2.length
           rw [List.take_length] at sqA rrA
           refine c_seq ?_
           refine c_region ?_
           refine l_loadN (i := 3) (vs := [.slice p.1 n p.2, .slice q.1 n q.2]) Try.isAgg94 Try.sizeOf94 rfl rfl rfl rfl rfl ?_
           refine l_store (i := 0) (vs := [.slice p.1 n p.2, .slice q.1 n q.2]) (cs' := [.slice p.1 n p.2, .slice q.1 n q.2]) Try.sizeOf94 rfl rfl rfl rfl rfl rfl rfl rfl rfl ?_
           refine l_nil ?_
           try dsimp only [z1, z2, z3, z4, z5, z6, z7, z8]
           refine c_ret ?_
           refine c_both 2 6 rfl rfl (by decide) ?_
           try dsimp only [z1, z2, z3, z4, z5, z6, z7, z8]
           refine c_both 5 2 rfl rfl (by decide) ?_
           try dsimp only [z1, z2, z3, z4, z5, z6, z7, z8]
           refine c_both 1 5 rfl rfl (by decide) ?_
           try dsimp only [z1, z2, z3, z4, z5, z6, z7, z8]
           refine retC (i := 0) (vs := [.slice p.1 n p.2, .slice q.1 n q.2]) Try.isAgg94 Try.sizeOf94 rfl rfl rfl rfl (finX ((p, q), (us, vs)) (i := 1) rfl (by simp only [sqG.1]) ?_)
           try dsimp only
           rw [sqG.1, ← F3, ← rrA]
           exact Imp.refl _
end Go.Proofs.Ytfihhlfkoghjeaa

namespace Go.Proofs
open Go.Shelf
def Try.keysA_ren : Go.Shelf.Ren := ⟨fun | 7 => 52 | 10 => 71 | n => n, fun | 23 => 87 | 26 => 3 | 3 => 30 | 28 => 100 | 0 => 0 | 27 => 99 | 33 => 65 | 4 => 4 | n => n, fun | n => n⟩
theorem Try.keysA : Go.Proofs.SlLaysZI.n7 Try.prog Try.keysA_ren := {
  mixed := by kernel_rfl
  f7 := ⟨Try.f52.name, by decide, Try.func52.trans (congrArg some (by kernel_rfl))⟩
  f10 := ⟨Try.f71.name, by decide, Try.func71.trans (congrArg some (by kernel_rfl))⟩
  t0 := Try.underlying0
  a0 := Try.isAgg0
  z0 := Try.sizeOf0
  v0 := Try.zeroValue0
  t4 := Try.underlying4
  a4 := Try.isAgg4
  z4 := Try.sizeOf4
  v4 := Try.zeroValue4
  t23 := Try.underlying87
  a23 := Try.isAgg87
  z23 := Try.sizeOf87
  v23 := Try.zeroValue87
  t26 := Try.underlying3
  a26 := Try.isAgg3
  z26 := Try.sizeOf3
  v26 := Try.zeroValue3
  t27 := Try.underlying99
  a27 := Try.isAgg99
  z27 := Try.sizeOf99
  v27 := Try.zeroValue99
  t28 := Try.underlying100
  a28 := Try.isAgg100
  z28 := Try.sizeOf100
  v28 := Try.zeroValue100
  t33 := Try.underlying65
  a33 := Try.isAgg65
  z33 := Try.sizeOf65
  v33 := Try.zeroValue65 }
def Try.sortedA_ren : Go.Shelf.Ren := ⟨fun | 6 => 51 | 8 => 70 | 9 => 40 | 11 => 91 | 13 => 66 | 12 => 67 | 23 => 80 | 24 => 81 | 14 => 82 | 15 => 83 | 16 => 84 | 17 => 85 | 18 => 86 | 19 => 87 | 20 => 24 | 21 => 88 | 22 => 89 | 25 => 97 | 26 => 93 | 27 => 94 | 28 => 98 | 29 => 99 | 30 => 57 | 31 => 101 | n => n, fun | 26 => 3 | 28 => 100 | 24 => 30 | 0 => 0 | 3 => 3 | 37 => 112 | 48 => 124 | 50 => 126 | 4 => 4 | 40 => 118 | 39 => 117 | 45 => 32 | 5 => 5 | 9 => 9 | 51 => 134 | 55 => 138 | 57 => 142 | 58 => 143 | 33 => 65 | n => n, fun | n => n⟩
theorem Try.sortedA : Go.Proofs.SlLaysZI.n6 Try.prog Try.sortedA_ren := {
  mixed := by kernel_rfl
  f6 := ⟨Try.f51.name, by decide, Try.func51.trans (congrArg some (by kernel_rfl))⟩
  f8 := ⟨Try.f70.name, by decide, Try.func70.trans (congrArg some (by kernel_rfl))⟩
  f11 := ⟨Try.f91.name, by decide, Try.func91.trans (congrArg some (by kernel_rfl))⟩
  t0 := Try.underlying0
  a0 := Try.isAgg0
  z0 := Try.sizeOf0
  v0 := Try.zeroValue0
  t24 := Try.underlying30
  a24 := Try.isAgg30
  z24 := Try.sizeOf30
  v24 := Try.zeroValue30
  t26 := Try.underlying3
  a26 := Try.isAgg3
  z26 := Try.sizeOf3
  v26 := Try.zeroValue3
  t28 := Try.underlying100
  a28 := Try.isAgg100
  z28 := Try.sizeOf100
  v28 := Try.zeroValue100
  i26 := by kernel_rfl }
end Go.Proofs

namespace Go.Proofs.Ytfihhlfkoghjeaa
open Go Go.Vc Go.Md Go.M Go.Lx Go.Shelf Go.Sort Go.Maps
open Go.WideElems (Fit rd rg rg_of)
set_option maxRecDepth 100000
set_option maxHeartbeats 400000
set_option linter.unusedVariables false

theorem sortsA (m : Nat) : Go.Proofs.AnyZI.SortsIn Try.prog Go.Proofs.Try.sortedA_ren Fence.wide m :=
  ⟨fun blk off cap ss W hH hblk hsz => callsIn_wide.2 (Go.Proofs.Any.slices_Sort_int Go.Proofs.Try.lays189 blk off cap ss W hH hblk hsz),
   fun p cap W => callsIn_wide.2 (Go.Proofs.Any.slices_Sort_int_none Go.Proofs.Try.lays189 p cap W)⟩
def noR : Value → Option (DataW Unit × List MemPlace) := fun _ => some (.nil, [])
theorem keyed_i {x : Int} (h : -9223372036854775808 ≤ x ∧ x ≤ 9223372036854775807) : keyOf Try.prog 3 (.int .i64 x) = some (.int .i64 x) := by
  have hw : (Lit.int .i64 x).wf = true := by
    show (decide _ && decide _) = true
    simp [IntKind.min, IntKind.max, IntKind.bits, IntKind.signed]; omega
  simp [keyOf, Try.underlying3, mapKey, hw]
theorem k52 {b : Nat} {w : World} : Does Try.prog 52 (List.toArray [.map (some b)]) w (fun v w' => ∃ x : Nat, v = .func (.func 71) #[] #[.pointer (some ⟨x, 0, none⟩)] ∧ Turn w w' noS (cellsC x [.map (some b)] 87)) := by
  have h := Go.Proofs.AnyZI.keys_in Go.Proofs.Try.keysA Fence.wide 5 trivial rfl (some b) w
  refine Calls.mono (callsIn_wide.1 h) ?_
  rintro e w' ⟨rfl, rfl⟩
  have gr := grow_alloc w (.cells #[.map (some b)] 87)
  exact ⟨_, rfl, w.heap.size, rfl, gr.os, gr.tape, gr.output, gr.size, fun b hb _ => gr.block b hb, fun x => x = w.heap.size, ⟨fun _ => Iff.rfl, Go.heap_alloc_new w _⟩, fun x hx => by subst hx; exact ⟨by simp, .inr (Nat.le_refl _)⟩⟩
theorem k51 {b bb : Nat} {ms : List (Int × Value)} {w : World} (hbox : w.heap[bb]? = some (.cells #[.map (some b)] 87 (0, 0))) (hm : FrM (fun c => w.heap[c]?) fkG id (.map (some b)) ms) (hkb : ∀ p ∈ ms, -9223372036854775808 ≤ p.1 ∧ p.1 ≤ 9223372036854775807) (hl : ms.length ≤ 1000000) :
    Does Try.prog 51 (List.toArray [.func (.func 71) #[] #[.pointer (some ⟨bb, 0, none⟩)]]) w (fun v w' => ∃ x : Option Addr × Nat, v = .slice x.1 ms.length x.2 ∧ Turn w w' noS (rowV 3 1 (.slice x.1 ms.length x.2) ms.length (((ms.map (·.1)).mergeSort fun x y => decide (x ≤ y)).map e_i64))) := by
  obtain ⟨b', es, clock, e, hb, hst, hen⟩ := hm.out
  cases e
  have hes : es.size = ms.length := by have := hen.len; simpa using this
  have hkey : ∀ x ∈ es.toList, ∃ p ∈ ms, x.key = .int .i64 p.1 := fun x hx => by
    obtain ⟨j, hj⟩ := List.mem_iff_getElem?.1 hx
    obtain ⟨p, hp, h1, _⟩ := hen.at hj
    exact ⟨p, List.mem_of_getElem? hp, h1⟩
  have hrd : ∀ x ∈ es.toList, ∀ p : Int, x.key = .int .i64 p → -9223372036854775808 ≤ p ∧ p ≤ 9223372036854775807 → rd Try.prog 3 noR x = some (.int .i64 p, .nil) := fun x hx p hp hb => by
    unfold WideElems.rd
    rw [hp, keyed_i hb]; rfl
  have hfit : Fit Try.prog 3 noR es clock := ⟨by rw [hes]; simp [maxLen]; omega, hst, fun x hx => by
    obtain ⟨p, hp, h1⟩ := hkey x hx
    exact ⟨_, hrd x hx p.1 h1 (hkb p hp)⟩⟩
  have hown : w.ownsMap Try.prog 3 noR b es.size (.map ((es.toList.map (rg Try.prog 3 noR)).foldr DataW.insert [])) := ⟨es, clock, hb, hfit, Nat.le_refl _, rfl⟩
  have hkeys : (intKeys (DataW.map ((es.toList.map (rg Try.prog 3 noR)).foldr DataW.insert []))).Perm (ms.map (·.1)) := by
    show (((es.toList.map (rg Try.prog 3 noR)).foldr DataW.insert []).map fun p => Go.intOf p.1).Perm _
    refine ((Go.WideShapes.sorted_perm (es.toList.map (rg Try.prog 3 noR))).map _).trans ?_
    have : (es.toList.map (rg Try.prog 3 noR)).map (fun p => Go.intOf p.1) = ms.map (·.1) := by
      rw [List.map_map]
      apply List.ext_getElem?
      intro j
      rw [List.getElem?_map, List.getElem?_map]
      cases hx : es.toList[j]? with
      | none =>
        have : es.toList.length ≤ j := List.getElem?_eq_none_iff.1 hx
        rw [List.getElem?_eq_none (by rw [← hen.len]; exact this)]; rfl
      | some x =>
        obtain ⟨p, hp, h1, _⟩ := hen.at hx
        have hxm := List.mem_of_getElem? hx
        have hpm := List.mem_of_getElem? hp
        rw [hp]
        simp only [Option.map_some, Function.comp_apply, rg_of (hrd x hxm p.1 h1 (hkb p hpm))]
        rfl
    rw [this]
  have hsz : Maps.size (DataW.map ((es.toList.map (rg Try.prog 3 noR)).foldr DataW.insert [])) ≤ es.size := hown.size_le
  have hbl : bb < w.heap.size := (Array.getElem?_eq_some_iff.1 hbox).1
  have hseq := Go.Proofs.AnyZI.keys_gives (ρ := Go.Proofs.Try.keysA_ren) { Go.Proofs.Try.keysA with } Fence.wide 2 trivial rfl (by omega) bb b es.size _ w hbl (by simp [World.cell?, hbox]) hown
  have cS := Go.Proofs.AnyZI.sorted_in Go.Proofs.Try.sortedA Fence.wide 5 trivial trivial trivial trivial rfl (by omega) (sortsA _) (enters_of Try.func40 (by kernel_rfl) rfl) 71 #[.pointer (some ⟨bb, 0, none⟩)] trivial (enters_of Try.func71 (by kernel_rfl) rfl) _ _ (by simp [maxLen]; omega) (by omega) w hseq
  refine Calls.mono (callsIn_wide.1 cS) ?_
  rintro e w' ⟨v, ss, rfl, hS, hrow, hnil, hbelow⟩
  have hperm : ss.Perm (ms.map (·.1)) := hS.trans hkeys
  have hsl : ss.length = ms.length := by rw [hperm.length_eq, List.length_map]
  have hsort : ss.mergeSort (fun x y => decide (x ≤ y)) = (ms.map (·.1)).mergeSort (fun x y => decide (x ≤ y)) := mergeSort_of_perm_i hperm
  rw [hsort, hsl] at hrow
  have hall : ∀ x ∈ (((ms.map (·.1)).mergeSort fun x y => decide (x ≤ y)).map e_i64), x.length = 1 := fun x hx => by
    obtain ⟨z, _, rfl⟩ := List.mem_map.1 hx; rfl
  have hlen : (((ms.map (·.1)).mergeSort fun x y => decide (x ≤ y)).map e_i64).length = ms.length := by
    rw [List.length_map, List.length_mergeSort, List.length_map]
  have hT : ∀ x : Option Addr × Nat, v = .slice x.1 ms.length x.2 → Turn w w' noS (rowV 3 1 (.slice x.1 ms.length x.2) ms.length (((ms.map (·.1)).mergeSort fun x y => decide (x ≤ y)).map e_i64)) := fun x hx => by
    subst hx
    have h0 : w'.ownsRow 0 3 1 (.slice x.1 ms.length x.2) ms.length ((((ms.map (·.1)).mergeSort fun x y => decide (x ≤ y)).map e_i64)).flatten := by
      have : (((ms.map (·.1)).mergeSort fun x y => decide (x ≤ y)).map e_i64).flatten = ((ms.map (·.1)).mergeSort fun x y => decide (x ≤ y)).map encZ := flat1 _ _
      rw [this]
      exact ⟨hrow.1, hrow.2.imp id fun ⟨g, cap, cur, h1, h2, h3⟩ => ⟨g, cap, cur, h1, Nat.zero_le _, h3⟩⟩
    refine ⟨hbelow.os, hbelow.tape, hbelow.output, hbelow.size, fun q hq _ => hbelow.block q hq, fun q => (Value.slice x.1 ms.length x.2).ownBlock = some q, ⟨⟨h0, hlen, hall⟩, fun q hq => hq⟩, fun q hq => ?_⟩
    rcases hrow.2 with ⟨e, _⟩ | ⟨g, cap, cur, e, h2, h3, _⟩
    · rw [e] at hq; cases hq
    · rw [e] at hq
      simp [Value.ownBlock] at hq
      subst hq
      exact ⟨(Array.getElem?_eq_some_iff.1 h3).1, .inr h2⟩
  rcases hrow.2 with ⟨e, e0⟩ | ⟨g, cap, cur, e, _⟩
  · exact ⟨v, rfl, (none, 0), by rw [e, e0], hT _ (by rw [e, e0])⟩
  · exact ⟨v, rfl, (some ⟨g, 0, none⟩, cap), e, hT _ e⟩
end Go.Proofs.Ytfihhlfkoghjeaa

namespace Go.Proofs.Ytfihhlfkoghjeaa
open Go Go.Vc Go.Md Go.M Go.Lx
set_option maxRecDepth 100000
set_option maxHeartbeats 4000000
set_option linter.unusedVariables false

def capB (v : Value) : Nat := match v with
  | .func _ _ cs => match (cs.toList : List Value) with
    | [.pointer (some a)] => a.block
    | _ => 0
  | _ => 0
theorem keysB_some {g : List (Int × List Int)} {ks : List Int} (h : keysB g = some ks) : ks = keysS g ∧ (∀ p ∈ g, 0 ≤ p.1 ∧ p.1 ≤ 1000000) ∧ g.length ≤ 1000000 := by
  unfold keysB at h
  split at h
  · rename_i hc
    exact ⟨(Option.some.inj h).symm, hc⟩
  · cases h
theorem kG51 {b bb : Nat} {g : List (Int × List Int)} {ks : List Int} {w : World} (hbox : w.heap[bb]? = some (.cells #[.map (some b)] 87 (0, 0))) (hm : FrG (fun c => w.heap[c]?) e_i64 (.map (some b)) g) (H : keysB g = some ks) :
    Does Try.prog 51 (List.toArray [.func (.func 71) #[] #[.pointer (some ⟨bb, 0, none⟩)]]) w (fun v w' => ∃ x : Option Addr × Nat, v = .slice x.1 ks.length x.2 ∧ Turn w w' noS (rowV 3 1 (.slice x.1 ks.length x.2) ks.length (ks.map e_i64))) := by
  obtain ⟨rfl, hb, hl⟩ := keysB_some H
  obtain ⟨ms, h1, h2, _⟩ := hm.out
  have hml : ms.length = g.length := by have := congrArg List.length h2; simpa using this
  have hkl : (keysS g).length = ms.length := by unfold keysS; rw [List.length_mergeSort, List.length_map, hml]
  have h := k51 hbox h1 (fun p hp => by
    have : p.1 ∈ g.map (·.1) := by rw [← h2]; exact List.mem_map.2 ⟨p, hp, rfl⟩
    obtain ⟨x, hx, e⟩ := List.mem_map.1 this
    have := hb x hx
    omega) (by omega)
  rw [h2] at h
  rw [hkl]
  exact h
theorem merge_len {t r : T_face_table} {a b : Int} (H : face_table_merge t a b = some r) : r.gap_.length = t.gap_.length := by
  unfold face_table_merge at H
  split at H
  · rename_i hc
    obtain rfl := Option.some.inj H
    exact (tabN_inv (us := []) (vs := []) (a := a.toNat) (b := b.toNat) hc.1 hc.2.1 t.gap_.length).1.1
  · cases H
theorem tab_frn {p q : Option Addr × Nat} {us vs : List (Option Addr × Nat)} {n : Nat} {t : T_face_table} {S : Nat → Prop} {w : World} {h : Heap} (hH : ∀ b o, S b → w.heap[b]? = some o → h b = some o) (k : (tabC p q us vs n t).P S w) :
    FrN h 1 (.slice p.1 n p.2) gs_int t.gap_ ∧ FrN h 1 (.slice q.1 n q.2) gs_bool t.apart_ := by
  obtain ⟨S1, S2, r1, ⟨S3, S4, k1, ⟨S5, S6, r2, k2, s5, s6, _⟩, s3, s4, _⟩, s1, s2, _⟩ := k
  obtain ⟨hp1, ⟨b1, ⟨_, f1⟩, _, _⟩, p1⟩ := k1
  obtain ⟨hp2, ⟨b2, ⟨_, f2⟩, _, _⟩, p2⟩ := k2
  have l1 : ∀ b o, hp1 b = some o → h b = some o := fun b o ho => (p1.2 b o ho).elim (fun h => by cases h) fun h => hH b o (s2 b (s3 b h.1)) h.2
  have l2 : ∀ b o, hp2 b = some o → h b = some o := fun b o ho => (p2.2 b o ho).elim (fun h => by cases h) fun h => hH b o (s2 b (s4 b (s6 b h.1))) h.2
  obtain ⟨⟨o1, n1, a1⟩, w1⟩ := r1
  obtain ⟨⟨o2, n2, a2⟩, w2⟩ := r2
  have F1 := (row_FrS o1 n1 a1).sub (S := S1) w1 fun b o hs hb => hH b o (s1 b hs) hb
  have F2 := (row_FrS o2 n2 a2).sub (S := S5) w2 fun b o hs hb => hH b o (s2 b (s4 b (s5 b hs))) hb
  refine ⟨frn_of (by rw [map_idC]; exact F1) ((f1.allC (G := gs_int) (sz := 1) fun c x b ⟨u, e, r, _⟩ => ?_).mono l1), frn_of (by rw [map_idC]; exact F2) ((f2.allC (G := gs_bool) (sz := 1) fun c x b ⟨u, e, r, _⟩ => ?_).mono l2)⟩
  · subst e; exact ⟨rfl, r.frs⟩
  · subst e; exact ⟨rfl, r.frs⟩
theorem tab_at {cx : Cx} {L : List Chunk} {w : World} {i : Nat} {p q : Option Addr × Nat} {us vs : List (Option Addr × Nat)} {n : Nat} {t : T_face_table} (hS : Sat cx w L) (hL : L[i]? = some (tabC p q us vs n t)) : FrN (fun b => w.heap[b]?) 1 (.slice p.1 n p.2) gs_int t.gap_ ∧ FrN (fun b => w.heap[b]?) 1 (.slice q.1 n q.2) gs_bool t.apart_ := by
  obtain ⟨S, k, _⟩ := hS.at hL
  exact tab_frn (fun b o _ h => h) k
theorem imp_rowNil {E : Nat} {α : Type} {en : α → List Value} : Imp empC (rowV E 1 (.slice none 0 0) 0 (([] : List α).map en)) := ⟨fun S w h => ⟨⟨⟨by simp, .inl ⟨rfl, rfl⟩⟩, rfl, by simp⟩, fun b hb => by cases hb⟩⟩
theorem gkLen {cx : Cx} {L : List Chunk} {w : World} {i j E : Nat} {α : Type} {en : α → List Value} {ms : List (Int × Value)} {xs : List (Int × List α)} {k : Int} {v : Value} {ys : List α} (hS : Sat cx w L) (hL : L[i]? = some (gkC E en ms xs)) (hm : ms[j]? = some (k, v)) (hx : xs[j]? = some (k, ys)) : ys.length ≤ 9223372036854775807 := by
  obtain ⟨S, h, _⟩ := hS.at hL
  obtain ⟨S1, S2, _, h2, _⟩ := (imp_grpTake hm hx).out _ _ h
  obtain ⟨⟨h1, _, _⟩, _⟩ := h2
  rcases h1.2 with ⟨e, h0⟩ | ⟨g, cap, cur, hv, _, _, hnc, hcap, _⟩
  · omega
  · have : cap ≤ 9223372036854775807 := by simpa [maxLen] using hcap
    omega
theorem imp_rowD0 {E : Nat} {α : Type} {G : Heap → (Nat → Value) → α → Prop} : Imp empC (rowD E 1 G (.slice none 0 0) 0 []) := ⟨fun S w k => ⟨noH, [], AllC.nil, rfl, S, S, ⟨noH_le, fun b o h => by cases h⟩, (imp_rowNil (E := E) (en := idC)).out S w k, fun b h => h, fun b h => h, fun b h => absurd h (k b)⟩⟩
theorem imp_outPush {hp : Heap} {css : List (List Value)} {xss : List (List Int)} {u : Value} {pz : Option Addr × Nat} {ids : List Int} {m n : Nat} (hA : AllC gs_int hp 1 css xss) (hn : n = css.length + 1) :
    Imp (bothC (bothC (poolC noH hp) (roV 1 u m (ids.map e_i64))) (rowV 30 1 (.slice pz.1 n pz.2) n ((css ++ [[u]]).map idC))) (rowD 30 1 gs_int (.slice pz.1 n pz.2) n (xss ++ [ids])) := ⟨fun S w => by
  rintro ⟨S1, S2, ⟨S3, S4, p1, r1, s3, s4, sd1⟩, r2, s1, s2, sd⟩
  have q1 : ∀ b o, hp b = some o → S3 b ∧ w.heap[b]? = some o := fun b o h => (p1.2 b o h).elim (fun h => by cases h) id
  have l1 : ∀ b o, hp b = some o → restr w S1 b = some o := fun b o h => restr_some.2 ⟨s3 b (q1 b o h).1, (q1 b o h).2⟩
  have f : FrS (restr w S1) 1 u (ids.map e_i64) := r1.2.1.sub (S := S4) r1.2.2 fun b o hs h => restr_some.2 ⟨s4 b hs, h⟩
  exact ⟨restr w S1, css ++ [[u]], (hA.mono l1).append (cs2 := [[u]]) (ys := [ids]) ⟨rfl, fun i c x hc hx => by
    cases i with
    | zero => cases hc; cases hx; exact ⟨rfl, f⟩
    | succ i => simp at hc⟩, by simpa using hn, S1, S2, restr_pool w S1, r2, s1, s2, sd⟩⟩
theorem k22 {a0 : List T_face_Likeness} {v0 : Value} {a1 : T_face_bonds} {v1_0 v1_1 : Value} {a2 : Int} {r : List (List Int)} {w : World} {h : Heap} (hw : Know h w noS) (f0 : FrS h 14 v0 (a0.map e_face_Likeness)) (f1_0 : FrS h 2 v1_0 (a1.musts_.map e_2_int)) (f1_1 : FrS h 2 v1_1 (a1.nots_.map e_2_int)) (H : face_clustered a0 a1 a2 = some r) :
    Does Try.prog 22 (List.toArray [v0, .agg #[v1_0, v1_1], .int .i64 a2]) w (fun v w' => ∃ x : (Option Addr × Nat), v = .slice x.1 r.length x.2 ∧ Turn w w' noS (roD 1 gs_int (.slice x.1 r.length x.2) r.length r)) := by
 unfold face_clustered at H
 obtain ⟨g1, h_g1, H1⟩ := bnd_some H
 obtain ⟨t1, h_t1, H2⟩ := bnd_some H1
 obtain ⟨g2, h_g2, H3⟩ := bnd_some H2
 obtain ⟨ks, h_ks, H4⟩ := bnd_some H3
 clear H H1 H2 H3
 refine enter (n := 80) Try.func22 rfl rfl rfl noS [] (Sat.nil _ _) ?_
 refine c_seq ?_
 refine c_region ?_
 refine l_box (cs := [v1_0, v1_1]) rfl rfl rfl rfl (fun b4 => ?_)
 refine l_val rfl rfl rfl (r_assign (v := .slice none 0 0) rfl) ?_
 refine l_nil ?_
 try dsimp only [z1, z2, z3, z4, z5, z6, z7, z8]
 refine c_seq ?_
 refine c_region ?_
 refine l_loadN (i := 0) (vs := [v1_0, v1_1]) Try.isAgg57 Try.sizeOf57 rfl rfl rfl rfl rfl ?_
 refine l_val rfl rfl rfl (r_move (v := v0) rfl) ?_
 refine l_val rfl rfl rfl (r_lenF Try.underlying22 rfl f0 rfl) ?_
 refine l_make (makes_call (rds := []) (G := fun x : Nat => .map (some x)) (C := fun x : Nat => grpC 3 e_i64 x g1) (fun w L' hF hS hi => k44 (know_all w) (f1_0.mono (hw.now hF)) (f1_1.mono (hw.now hF)) h_g1) Try.call44 rfl) rfl rfl rfl (fun bg => ?_)
 refine l_val rfl rfl rfl (r_assign (v := .map (some bg)) rfl) ?_
 refine l_nil ?_
 try dsimp only [z1, z2, z3, z4, z5, z6, z7, z8]
 refine c_seq ?_
 refine c_region ?_
 refine l_val rfl rfl rfl (r_move (v := v0) rfl) ?_
 refine l_val rfl rfl rfl (r_move (v := .map (some bg)) rfl) ?_
 refine l_val rfl rfl rfl (r_field Try.runUnderlying57 rfl Try.sizeOf55 rfl rfl) ?_
 refine l_load1 (i := 0) (v := v1_1) Try.isAgg55 rfl rfl rfl rfl rfl ?_
 refine l_make (makes_call (rds := [1]) (G := fun x : ((Option Addr × Nat) × (Option Addr × Nat)) × (List (Option Addr × Nat) × List (Option Addr × Nat)) => .agg #[.slice x.1.1.1 t1.gap_.length x.1.1.2, .slice x.1.2.1 t1.gap_.length x.1.2.2]) (C := fun x => tabC x.1.1 x.1.2 x.2.1 x.2.2 t1.gap_.length t1) (fun w L' hF hS hi => k49 (know_all w) (f0.mono (hw.now hF)) (frs_grp (E := 3) (en := e_i64) (i := 1) hS ((hi 1 (by simp)).trans rfl)) (f1_1.mono (hw.now hF)) h_t1) Try.call49 rfl) rfl rfl rfl (fun ⟨⟨p, q⟩, ⟨us, vs⟩⟩ => ?_)
 generalize hn : t1.gap_.length = n
 refine l_alloc (cs := [.slice none 0 0, .slice none 0 0]) Try.zeroValue94 rfl rfl rfl (fun b8 => ?_)
 refine l_store (i := 3) (vs := [.slice p.1 n p.2, .slice q.1 n q.2]) (cs' := [.slice p.1 n p.2, .slice q.1 n q.2]) Try.sizeOf94 rfl rfl rfl rfl rfl rfl rfl rfl rfl ?_
 refine l_nil ?_
 try dsimp only [z1, z2, z3, z4, z5, z6, z7, z8]
 refine c_seq ?_
 refine c_block ?_
 refine c_fix (σ := List (Int × List Int) × T_face_table) (τ := Unit) (face_cluL a2) (fun s t => [(0, v0), (2, .int .i64 a2), (7, .map (some bg)), (8, .pointer (some ⟨b8, 0, none⟩))]) (fun s t => [grpC 3 e_i64 bg s.1, tabC p q us vs n s.2, cellsC b8 [.slice p.1 n p.2, .slice q.1 n q.2] 94]) (fun s t => s.2.gap_.length = n) (g1, t1) () [1, 2, 3] h_g2 hn (by exact ⟨rfl, rfl, rfl, rfl, trivial⟩) (by decide) (by kernel_rfl) ?_
 · rintro ⟨g, t⟩ _ m gg HH hgl
   try dsimp only at hgl
   try dsimp only
   replace HH : face_cluL a2 (it (face_cluL a2) m) (g, t) = some g2 := HH
   unfold face_cluL at HH
   obtain ⟨kk, h_kk, HH1⟩ := bnd_some HH
   obtain ⟨qq, h_q, HH2⟩ := bnd_some HH1
   clear HH HH1
   refine c_block ?_
   refine c_seq ?_
   refine c_regionD (Kd.d [2] (.agg #[.slice p.1 n p.2, .slice q.1 n q.2]) :: Kd.p :: Kd.t 3 [] (fun x : Nat => .func (.func 71) #[] #[.pointer (some ⟨x, 0, none⟩)]) (fun v => cellsC (capB v) [.map (some bg)] 87) :: Kd.t 4 [0, 3] (fun x : Option Addr × Nat => .slice x.1 kk.length x.2) (fun v => rowV 3 1 v kk.length (kk.map e_i64)) :: Kd.p :: Kd.d [1, 4] (.tuple #[.int .i64 qq.1, .int .i64 qq.2.1, .bool qq.2.2]) :: Kd.p :: Kd.p :: Kd.p :: Kd.p :: Kd.p :: Kd.p :: Kd.p :: []) 2 mixed ?_ (by kernel_rfl)
   refine d_loadN (i := 2) (vs := [.slice p.1 n p.2, .slice q.1 n q.2]) Try.isAgg94 Try.sizeOf94 rfl rfl rfl rfl ?_
   refine d_val rfl rfl (r_move (v := .map (some bg)) rfl) ?_
   refine d_make (Cv := fun v => cellsC (capB v) [.map (some bg)] 87) 0 (makes_call (rds := []) (G := fun x : Nat => .func (.func 71) #[] #[.pointer (some ⟨x, 0, none⟩)]) (C := fun x : Nat => cellsC x [.map (some bg)] 87) (fun w L' hF hS hi => k52) Try.call52 rfl) (fun _ => rfl) rfl rfl rfl (fun bk => ?_)
   refine d_make (Cv := fun v => rowV 3 1 v kk.length (kk.map e_i64)) (none, 0) (makes_call (rds := [0, 3]) (G := fun x : Option Addr × Nat => .slice x.1 kk.length x.2) (C := fun x => rowV 3 1 (.slice x.1 kk.length x.2) kk.length (kk.map e_i64)) (fun w L' hF hS hi => kG51 (sat_cell (i := 3) hS ((hi 3 (by simp)).trans rfl)) (frs_grp (E := 3) (en := e_i64) (i := 0) hS ((hi 0 (by simp)).trans rfl)) h_kk) Try.call51 rfl) (fun _ => rfl) rfl rfl rfl (fun pk => ?_)
   refine d_val rfl rfl (r_move (v := .int .i64 a2) rfl) ?_
   refine d_callD (fun w L' hF hS hi => k50 (know_all w) (tab_at (i := 1) hS ((hi 1 (by simp)).trans rfl)).1 (tab_at (i := 1) hS ((hi 1 (by simp)).trans rfl)).2 (frs_own (i := 4) rfl hS ((hi 4 (by simp)).trans rfl)) h_q) Try.call50 rfl rfl ?_
   refine d_val rfl rfl (r_move (v := .tuple #[.int .i64 qq.1, .int .i64 qq.2.1, .bool qq.2.2]) rfl) ?_
   refine d_val rfl rfl (r_extract (v := .int .i64 qq.1) rfl rfl) ?_
   refine d_val rfl rfl (r_extract (v := .int .i64 qq.2.1) rfl rfl) ?_
   refine d_val rfl rfl (r_extract (v := .bool qq.2.2) rfl rfl) ?_
   refine d_val rfl rfl (r_assign (v := .int .i64 qq.1) rfl) ?_
   refine d_val rfl rfl (r_assign (v := .int .i64 qq.2.1) rfl) ?_
   refine d_val rfl rfl (r_assign (v := .bool qq.2.2) rfl) ?_
   refine d_nil ?_
   try dsimp only [z1, z2, z3, z4, z5, z6, z7, z8]
   refine c_seq ?_
   refine c_seq ?_
   refine c_region ?_
   refine l_val rfl rfl rfl (r_move (v := .bool qq.2.2) rfl) ?_
   refine l_val rfl rfl rfl (r_not rfl) ?_
   refine l_nil ?_
   refine c_if (b := !qq.2.2) rfl (fun hb => ?_) (fun hb => ?_)
   · have HH3 := cnd_t hb HH2
     obtain rfl := Option.some.inj HH3
     refine c_exit ?_
     refine c_seq ?_
     refine c_region ?_
     refine l_val rfl rfl rfl (r_assign (v := .slice none 0 0) rfl) ?_
     refine l_nil ?_
     refine c_seq ?_
     refine c_seq ?_
     refine c_region ?_
     refine l_val rfl rfl rfl (r_move (v := .map (some bg)) rfl) ?_
     refine l_make (makes_call (rds := []) (G := fun x : Nat => .func (.func 71) #[] #[.pointer (some ⟨x, 0, none⟩)]) (C := fun x : Nat => cellsC x [.map (some bg)] 87) (fun w L' hF hS hi => k52) Try.call52 rfl) rfl rfl rfl (fun bk2 => ?_)
     refine l_make (makes_call (rds := [0, 5]) (G := fun x : Option Addr × Nat => .slice x.1 ks.length x.2) (C := fun x => rowV 3 1 (.slice x.1 ks.length x.2) ks.length (ks.map e_i64)) (fun w L' hF hS hi => kG51 (sat_cell (i := 5) hS ((hi 5 (by simp)).trans rfl)) (frs_grp (E := 3) (en := e_i64) (i := 0) hS ((hi 0 (by simp)).trans rfl)) h_ks) Try.call51 rfl) rfl rfl rfl (fun pk2 => ?_)
     refine l_val rfl rfl rfl (r_len Try.underlying30 rfl) ?_
     refine l_val rfl rfl rfl (r_move (v := .int .i64 0) rfl) ?_
     refine l_nil ?_
     try dsimp only [z1, z2, z3, z4, z5, z6, z7, z8]
     refine c_emp ?_
     try dsimp only [z1, z2, z3, z4, z5, z6, z7, z8]
     refine c_imp 7 rfl (imp_rowD0 (E := 30) (G := gs_int)) ?_
     try dsimp only [z1, z2, z3, z4, z5, z6, z7, z8]
     refine c_know (fun w hF hS => Go.Vc.capOf (i := 6) hS rfl) (fun hkc => ?_)
     have hkl : ks.length ≤ 1000000 := by
       obtain ⟨rfl, _, hl⟩ := keysB_some h_ks
       unfold keysS; rw [List.length_mergeSort, List.length_map]; exact hl
     refine c_block ?_
     refine c_loop (σ := Nat × List (List Int) × (Option Addr × Nat)) (fun s => [(0, v0), (7, .map (some bg)), (12, .slice s.2.2.1 s.2.1.length s.2.2.2), (49, .slice pk2.1 ks.length pk2.2), (50, .int .i64 (ks.length : Int)), (51, .int .i64 (s.1 : Int))]) (fun s => [grpC 3 e_i64 bg g, rowV 3 1 (.slice pk2.1 ks.length pk2.2) ks.length (ks.map e_i64), rowD 30 1 gs_int (.slice s.2.2.1 s.2.1.length s.2.2.2) s.2.1.length s.2.1]) (fun s => s.1 ≤ ks.length ∧ face_outL a0 g (ks.drop s.1) s.2.1 = some r) (fun s => ks.length - s.1) (0, [], (none, 0)) [0, 6, 7] ⟨Nat.zero_le _, H4⟩ (by exact ⟨rfl, rfl, rfl, rfl, rfl, rfl, trivial⟩) (by decide) (by kernel_rfl) ?_
     rintro ⟨j, out, po⟩ gg2 ⟨I1, I2⟩
     try dsimp only at I1 I2
     try dsimp only
     refine c_seq ?_
     refine c_region ?_
     refine l_val rfl rfl rfl (r_lss rfl rfl) ?_
     refine l_nil ?_
     refine c_seq ?_
     refine c_if (b := decide ((j : Int) < (ks.length : Int))) rfl (fun hb => ?_) (fun hb => ?_)
     · have hlt : j < ks.length := by have := of_decide_eq_true hb; omega
       rw [List.drop_eq_getElem_cons hlt] at I2
       have h_k := gAt_nat hlt
       generalize ks[j] = k at I2 h_k
       obtain ⟨ns, h_ns, I3⟩ := bnd_some I2
       obtain ⟨idsF, h_ids, I4⟩ := bnd_some I3
       obtain ⟨out', h_out, I5⟩ := bnd_some I4
       obtain ⟨ja, hja⟩ := mGet_idx h_ns
       refine c_skip ?_
       refine c_seq ?_
       refine c_block ?_
       refine c_seq ?_
       refine c_region ?_
       refine l_read (fun w hF hS => run_indexO Try.underlying30 Try.sizeOf3 rfl rfl (rowOf (i := 1) hS rfl) rfl h_k) rfl rfl rfl ?_
       refine l_read (fun w hF hS => run_loadG1 (f := e_i64) (i := (j : Int)) (sz := 1) (j := 0) (v := .int .i64 k) Try.isAgg3 rfl rfl (rowOf (i := 1) hS rfl) h_k rfl) rfl rfl rfl ?_
       refine l_val rfl rfl rfl (r_assign (v := .int .i64 k) rfl) ?_
       refine l_nil ?_
       refine c_seq ?_
       refine c_region ?_
       refine l_val rfl rfl rfl (r_assign (v := .slice none 0 0) rfl) ?_
       refine l_nil ?_
       try dsimp only [z1, z2, z3, z4, z5, z6, z7, z8]
       refine c_ex 0 rfl fun ms => ?_
       refine c_split 0 rfl ?_
       try dsimp only [z1, z2, z3, z4, z5, z6, z7, z8]
       refine c_know (fun w hF hS => map_nodup (i := 0) hS rfl) (fun hnd => ?_)
       refine c_gk (E := 3) (en := e_i64) (ms := ms) (xs := g) 3 rfl (fun hkk hss => ?_)
       obtain ⟨pa, hma⟩ := pair_at hkk hss hja
       have hga := (mGet_at hnd hma).1
       refine c_know (fun w hF hS => gkLen (i := 3) hS rfl hma hja) (fun hnsl => ?_)
       refine c_seq ?_
       refine c_seq ?_
       refine c_region ?_
       refine l_val rfl rfl rfl (r_move (v := .map (some bg)) rfl) ?_
       refine l_val rfl rfl rfl (r_move (v := .int .i64 k) rfl) ?_
       refine l_read (v := .slice pa.1 ns.length pa.2) (fun w hF hS => (run_lookup (i := 0) (fk := fkG) (fv := (id : Value → Value)) (k := k) (z := .slice none 0 0) keyF_int Try.underlying87 Try.underlying3 Try.zeroValue30 rfl rfl hS rfl).trans (by rw [hga]; rfl)) rfl rfl rfl ?_
       refine l_val rfl rfl rfl (r_len Try.underlying30 rfl) ?_
       refine l_val rfl rfl rfl (r_move (v := .int .i64 0) rfl) ?_
       refine l_nil ?_
       refine c_emp ?_
       try dsimp only [z1, z2, z3, z4, z5, z6, z7, z8]
       refine c_imp 4 rfl (imp_rowNil (E := 3) (en := e_i64)) ?_
       try dsimp only [z1, z2, z3, z4, z5, z6, z7, z8]
       refine c_block ?_
       refine c_loop (σ := Nat × List Int × (Option Addr × Nat)) (fun s => [(0, v0), (7, .map (some bg)), (12, .slice po.1 out.length po.2), (15, .slice s.2.2.1 s.2.1.length s.2.2.2), (49, .slice pk2.1 ks.length pk2.2), (50, .int .i64 (ks.length : Int)), (51, .int .i64 (j : Int)), (57, .slice pa.1 ns.length pa.2), (58, .int .i64 (ns.length : Int)), (59, .int .i64 (s.1 : Int))]) (fun s => [mapC fkG id bg ms, rowV 3 1 (.slice pk2.1 ks.length pk2.2) ks.length (ks.map e_i64), rowD 30 1 gs_int (.slice po.1 out.length po.2) out.length out, gkC 3 e_i64 ms g, rowV 3 1 (.slice s.2.2.1 s.2.1.length s.2.2.2) s.2.1.length (s.2.1.map e_i64)]) (fun s => s.1 ≤ ns.length ∧ face_idsL a0 (ns.drop s.1) s.2.1 = some idsF) (fun s => ns.length - s.1) (0, [], (none, 0)) [0, 1, 2, 3, 4] ⟨Nat.zero_le _, h_ids⟩ (by exact ⟨rfl, rfl, rfl, rfl, rfl, rfl, rfl, rfl, rfl, rfl, trivial⟩) (by decide) (by kernel_rfl) ?_
       rintro ⟨i, ids, pi⟩ gg3 ⟨J1, J2⟩
       try dsimp only at J1 J2
       try dsimp only
       refine c_seq ?_
       refine c_region ?_
       refine l_val rfl rfl rfl (r_lss rfl rfl) ?_
       refine l_nil ?_
       refine c_seq ?_
       refine c_if (b := decide ((i : Int) < (ns.length : Int))) rfl (fun hb2 => ?_) (fun hb2 => ?_)
       · have hlt2 : i < ns.length := by have := of_decide_eq_true hb2; omega
         rw [List.drop_eq_getElem_cons hlt2] at J2
         have h_n := gAt_nat hlt2
         generalize ns[i] = nn at J2 h_n
         obtain ⟨lk, h_lk, J3⟩ := bnd_some J2
         obtain ⟨ids', h_app, J4⟩ := bnd_some J3
         refine c_skip ?_
         refine c_seq ?_
         refine c_block ?_
         refine c_seq ?_
         refine c_region ?_
         refine l_read (fun w hF hS => run_indexO Try.underlying30 Try.sizeOf3 rfl rfl (gkRow (i := 3) hS rfl hma hja) rfl h_n) rfl rfl rfl ?_
         refine l_read (fun w hF hS => run_loadG1 (f := e_i64) (i := (i : Int)) (sz := 1) (j := 0) (v := .int .i64 nn) Try.isAgg3 rfl rfl (gkRow (i := 3) hS rfl hma hja) h_n rfl) rfl rfl rfl ?_
         refine l_val rfl rfl rfl (r_assign (v := .int .i64 nn) rfl) ?_
         refine l_nil ?_
         refine c_region ?_
         refine l_val rfl rfl rfl (r_move (v := .slice pi.1 ids.length pi.2) rfl) ?_
         refine l_val rfl rfl rfl (r_move (v := v0) rfl) ?_
         refine l_val rfl rfl rfl (r_move (v := .int .i64 nn) rfl) ?_
         refine l_val rfl rfl rfl (r_indexF Try.underlying22 Try.sizeOf64 rfl rfl f0 h_lk) ?_
         refine l_val rfl rfl rfl (r_fieldP Try.runUnderlying64 rfl Try.sizeOf3 rfl rfl (some_of_at f0 h_lk)) ?_
         refine l_read (fun w hF hS => run_loadG1 (f := e_face_Likeness) (i := nn) (sz := 14) (j := 0) (v := .int .i64 lk.Id) Try.isAgg3 rfl rfl (f0.row (hw.now hF)) h_lk rfl) rfl rfl rfl ?_
         refine l_buildSlice (vs := [.int .i64 lk.Id]) Try.underlying30 Try.sizeOf3 Try.zeroValue3 rfl rfl rfl rfl rfl rfl rfl (fun b1 => ?_)
         try dsimp only [z1, z2, z3, z4, z5, z6, z7, z8]
         refine l_turn (turns_appG (i := 4) (hn := rfl) (rds := [5]) (p := pi) (sz := 1) (by_ := 8) (f := e_i64) (ys := ids) (ls := ([lk.Id] : List Int)) (V := .slice (some ⟨b1, 0, none⟩) 1 1) Try.underlying30 (info_of Try.typeInfo3) rfl rfl rfl rfl rfl rfl rfl rfl rfl rfl (fun w L' hF hS hi => row_box (i := 5) hS ((hi 5 (by simp)).trans rfl) rfl rfl) (fun _ => rfl) (fun _ => rfl) h_app) rfl rfl rfl (fun pi' => ?_)
         refine l_val rfl rfl rfl (r_assign (v := .slice pi'.1 ids'.length pi'.2) rfl) ?_
         refine l_nil ?_
         try dsimp only [z1, z2, z3, z4, z5, z6, z7, z8]
         refine c_region ?_
         refine l_val rfl rfl rfl (r_addG rfl rfl (gI_ok (by omega))) ?_
         refine l_val rfl rfl rfl (r_move (v := .int .i64 ((i : Int) + 1)) rfl) ?_
         refine l_nil ?_
         exact c_round (i + 1, ids', pi') [0, 1, 2, 3, 4] (by exact ⟨rfl, rfl, rfl, rfl, rfl, rfl, rfl, rfl, rfl, rfl, trivial⟩) (by decide) (by kernel_rfl) ⟨hlt2, J4⟩ (by show ns.length - (i + 1) < ns.length - i; omega)
       · obtain rfl : i = ns.length := by have := of_decide_eq_false hb2; omega
         rw [List.drop_length] at J2
         obtain rfl := Option.some.inj J2
         refine c_exit ?_
         refine c_region ?_
         refine l_val rfl rfl rfl (r_move (v := .slice po.1 out.length po.2) rfl) ?_
         refine l_val rfl rfl rfl (r_move (v := .slice pi.1 ids.length pi.2) rfl) ?_
         refine l_callG (fun w hF hS => k55 (Go.Vc.capOf (i := 4) hS rfl) w) Try.call55 rfl rfl rfl ?_
         refine l_buildSlice (vs := [.slice (cutA pi.1 0 ids.length 1) ids.length ids.length]) Try.underlying25 Try.sizeOf30 Try.zeroValue30 rfl rfl rfl rfl rfl rfl rfl (fun b1 => ?_)
         try dsimp only [z1, z2, z3, z4, z5, z6, z7, z8]
         refine c_imp 4 rfl (imp_clipO 3 1 pi.1 ids.length pi.2 _) ?_
         try dsimp only [z1, z2, z3, z4, z5, z6, z7, z8]
         refine c_rowD 2 rfl (fun hp css hnc hA => ?_)
         try dsimp only [z1, z2, z3, z4, z5, z6, z7, z8]
         refine c_split 2 rfl ?_
         try dsimp only [z1, z2, z3, z4, z5, z6, z7, z8]
         have h_app2 : gApp 24 css [[Value.slice (cutA pi.1 0 ids.length 1) ids.length ids.length]] = some (css ++ [[Value.slice (cutA pi.1 0 ids.length 1) ids.length ids.length]]) := by
           obtain ⟨_, h1, h2⟩ := gApp_some h_out
           exact gApp_ok ⟨by rw [← hnc]; exact h1, by rw [← hnc]; exact h2⟩
         obtain ⟨rfl, _, _⟩ := gApp_some h_out
         refine l_turn (turns_appGm (i := 6) (hn := hnc) (rds := [5]) (p := po) (sz := 1) (by_ := 24) (f := idC) (ys := css) (ls := [[Value.slice (cutA pi.1 0 ids.length 1) ids.length ids.length]]) (V := .slice (some ⟨b1, 0, none⟩) 1 1) Try.underlying25 (info_of Try.typeInfo30) rfl rfl rfl rfl rfl rfl rfl rfl rfl rfl (fun w L' hF hS hi => row_box (i := 5) hS ((hi 5 (by simp)).trans rfl) rfl rfl) (fun x hx => by obtain rfl := List.mem_singleton.1 hx; rfl) (fun x hx => by obtain rfl := List.mem_singleton.1 hx; rfl) h_app2) rfl rfl rfl (fun pz => ?_)
         have hlz : (css ++ [[Value.slice (cutA pi.1 0 ids.length 1) ids.length ids.length]]).length = (out ++ [ids]).length := by simp [hnc]
         rw [hlz]
         refine l_val rfl rfl rfl (r_assign (v := .slice pz.1 (out ++ [ids]).length pz.2) rfl) ?_
         refine l_nil ?_
         try dsimp only [z1, z2, z3, z4, z5, z6, z7, z8]
         refine c_both 2 4 rfl rfl (by decide) ?_
         try dsimp only [z1, z2, z3, z4, z5, z6, z7, z8]
         refine c_both 2 6 rfl rfl (by decide) ?_
         try dsimp only [z1, z2, z3, z4, z5, z6, z7, z8]
         refine c_imp 2 rfl (imp_outPush hA (by simp [hnc])) ?_
         try dsimp only [z1, z2, z3, z4, z5, z6, z7, z8]
         refine c_both 0 3 rfl rfl (by decide) ?_
         try dsimp only [z1, z2, z3, z4, z5, z6, z7, z8]
         refine c_imp 0 rfl imp_grp ?_
         try dsimp only [z1, z2, z3, z4, z5, z6, z7, z8]
         refine c_region ?_
         refine l_val rfl rfl rfl (r_addG rfl rfl (gI_ok (by omega))) ?_
         refine l_val rfl rfl rfl (r_move (v := .int .i64 ((j : Int) + 1)) rfl) ?_
         refine l_nil ?_
         exact c_round (j + 1, out ++ [ids], pz) [0, 1, 2] (by exact ⟨rfl, rfl, rfl, rfl, rfl, rfl, trivial⟩) (by decide) (by kernel_rfl) ⟨hlt, I5⟩ (by show ks.length - (j + 1) < ks.length - j; omega)
     · obtain rfl : j = ks.length := by have := of_decide_eq_false hb; omega
       rw [List.drop_length] at I2
       obtain rfl := Option.some.inj I2
       refine c_exit ?_
       refine c_rowD 2 rfl (fun hp css hnc hA => ?_)
       try dsimp only [z1, z2, z3, z4, z5, z6, z7, z8]
       refine c_split 2 rfl ?_
       try dsimp only [z1, z2, z3, z4, z5, z6, z7, z8]
       refine c_seq ?_
       refine c_region ?_
       refine l_val rfl rfl rfl (r_move (v := .slice po.1 out.length po.2) rfl) ?_
       refine l_callG (fun w hF hS => k56 (Go.Vc.capOf (i := 3) hS rfl) w) Try.call56 rfl rfl rfl ?_
       refine l_val rfl rfl rfl (r_assign (v := .slice (cutA po.1 0 out.length 1) out.length out.length) rfl) ?_
       refine l_nil ?_
       try dsimp only [z1, z2, z3, z4, z5, z6, z7, z8]
       refine c_ret ?_
       refine c_both 2 3 rfl rfl (by decide) ?_
       exact ret1 (v := .slice (cutA po.1 0 out.length 1) out.length out.length) rfl rfl (finX ((cutA po.1 0 out.length 1, out.length) : Option Addr × Nat) (i := 2) rfl rfl (imp_trans (imp_bothM (Imp.refl _) (imp_clipO _ 1 _ _ _ _)) (imp_roD (p := (cutA po.1 0 out.length 1, out.length)) hnc hA)))
   · have HH3 := cnd_f hb HH2
     obtain ⟨g', h_g', HH4⟩ := bnd_some HH3
     obtain ⟨t', h_t', HH5⟩ := bnd_some HH4
     refine c_skip ?_
     refine c_seq ?_
     refine c_region ?_
     refine l_val rfl rfl rfl (r_move (v := .map (some bg)) rfl) ?_
     refine l_val rfl rfl rfl (r_move (v := .int .i64 qq.1) rfl) ?_
     refine l_val rfl rfl rfl (r_move (v := .int .i64 qq.2.1) rfl) ?_
     refine l_turn (turns_callB (i := 0) (rds := []) (G := fun _ : Unit => .tuple #[]) (C := fun _ : Unit => grpC 3 e_i64 bg g') rfl (fun w L' S hF hS hi hp hlt ho hA => k53 hp hlt (know_but w S) h_g') Try.call53 rfl) rfl rfl rfl (fun _ => ?_)
     refine l_nil ?_
     try dsimp only [z1, z2, z3, z4, z5, z6, z7, z8]
     refine c_region ?_
     refine l_loadN (i := 2) (vs := [.slice p.1 n p.2, .slice q.1 n q.2]) Try.isAgg94 Try.sizeOf94 rfl rfl rfl rfl rfl ?_
     refine l_val rfl rfl rfl (r_move (v := .int .i64 qq.1) rfl) ?_
     refine l_val rfl rfl rfl (r_move (v := .int .i64 qq.2.1) rfl) ?_
     refine l_turn (turns_callB (i := 1) (rds := []) (G := fun _ : Unit => .tuple #[]) (C := fun _ : Unit => tabC p q us vs n t') rfl (fun w L' S hF hS hi hp hlt ho hA => k54 hp hlt (know_but w S) hgl.symm h_t') Try.call54 rfl) rfl rfl rfl (fun _ => ?_)
     refine l_nil ?_
     try dsimp only [z1, z2, z3, z4, z5, z6, z7, z8]
     exact c_close (g', t') () m [0, 1, 2] (by exact ⟨rfl, rfl, rfl, rfl, trivial⟩) (by decide) (by kernel_rfl) (by exact ⟨HH5, (merge_len h_t').trans hgl⟩) (Nat.lt_succ_self _)
end Go.Proofs.Ytfihhlfkoghjeaa

namespace Go.Proofs.Ytfihhlfkoghjeaa
open Go Go.Vc Go.Md Go.M Go.Lx
set_option maxRecDepth 100000
set_option maxHeartbeats 4000000
set_option linter.unusedVariables false

theorem k48 {a0 : (List (Nat → Int))} {v0 : Value} {r : Int} {w : World} {h : Heap} (hw : Know h w noS) (f0 : FrS h 12 v0 (a0.map e_face_Vec)) (H : face_checkVecs a0 = some r) : Does Try.prog 48 (List.toArray [v0]) w (fun v w' => v = (.int .i64 r) ∧ Grow w w') := by
 refine enter (n := 18) Try.func48 rfl rfl rfl noS [] (Sat.nil _ _) ?_
 refine c_seq ?_
 refine c_region ?_
 refine l_val rfl rfl rfl (r_assign (v := .int .i64 0) rfl) ?_
 refine l_nil ?_
 refine c_seq ?_
 refine c_seq ?_
 refine c_region ?_
 refine l_val rfl rfl rfl (r_move (v := v0) rfl) ?_
 refine l_val rfl rfl rfl (r_lenF Try.underlying115 rfl f0 rfl) ?_
 refine l_val rfl rfl rfl (r_move (v := .int .i64 0) rfl) ?_
 refine l_nil ?_
 refine c_block ?_
 refine c_fix (σ := Int) (τ := Unit) (fun next1 s => face_checkVecs_l1 a0 next1 s) (fun s t => [(6, v0), (7, .int .i64 (a0.length : Int)), (8, .int .i64 s)]) (fun s t => []) (fun s t => True) 0 () [] H (by exact trivial) (by exact ⟨rfl, rfl, rfl, trivial⟩) (by decide) rfl ?_
 rintro x8_2 _ m1 gg H9 _
 clear H
 replace H9 : face_checkVecs_l1 a0 (it (fun next1 s => face_checkVecs_l1 a0 next1 s) m1) x8_2 = some r := H9
 generalize hn1 : it (fun next1 s => face_checkVecs_l1 a0 next1 s) m1 = next1 at H9
 refine c_tidyF [(6, v0), (7, .int .i64 (a0.length : Int)), (8, .int .i64 x8_2)] [] rfl rfl ?_
 refine c_seq ?_
 refine c_region ?_
 refine l_val rfl rfl rfl (r_lss rfl rfl) ?_
 refine l_nil ?_
 refine c_seq ?_
 refine c_if (b := (decide (x8_2 < (a0.length : Int)))) rfl (fun hb => ?_) (fun hb => ?_)
 ·have H10 := cnd_t hb H9; clear H9
  refine c_skip ?_
  refine c_seq ?_
  refine c_block ?_
  refine c_seq ?_
  refine c_region ?_
  obtain ⟨t10, h_t10, H11⟩ := bnd_some H10; clear H10
  refine l_val rfl rfl rfl (r_indexF Try.underlying115 Try.sizeOf52 rfl rfl f0 h_t10) ?_
  refine l_read (fun w hF hS => run_loadGN (f := e_face_Vec) (i := x8_2) (sz := 12) (j := 0) (vs := [.int .i64 (t10 0), .int .i64 (t10 1), .int .i64 (t10 2), .int .i64 (t10 3), .int .i64 (t10 4), .int .i64 (t10 5), .int .i64 (t10 6), .int .i64 (t10 7), .int .i64 (t10 8), .int .i64 (t10 9), .int .i64 (t10 10), .int .i64 (t10 11)]) Try.isAgg52 Try.sizeOf52 rfl rfl (f0.row (hw.now hF)) h_t10 rfl) rfl rfl rfl ?_
  refine l_alloc (cs := [.int .i64 0, .int .i64 0, .int .i64 0, .int .i64 0, .int .i64 0, .int .i64 0, .int .i64 0, .int .i64 0, .int .i64 0, .int .i64 0, .int .i64 0, .int .i64 0]) Try.zeroValue52 rfl rfl rfl (fun b1 => ?_)
  refine l_store (i := 0) (vs := [.int .i64 (t10 0), .int .i64 (t10 1), .int .i64 (t10 2), .int .i64 (t10 3), .int .i64 (t10 4), .int .i64 (t10 5), .int .i64 (t10 6), .int .i64 (t10 7), .int .i64 (t10 8), .int .i64 (t10 9), .int .i64 (t10 10), .int .i64 (t10 11)]) (cs' := [.int .i64 (t10 0), .int .i64 (t10 1), .int .i64 (t10 2), .int .i64 (t10 3), .int .i64 (t10 4), .int .i64 (t10 5), .int .i64 (t10 6), .int .i64 (t10 7), .int .i64 (t10 8), .int .i64 (t10 9), .int .i64 (t10 10), .int .i64 (t10 11)]) Try.sizeOf52 rfl rfl rfl rfl rfl rfl rfl rfl rfl ?_
  refine l_nil ?_
  refine c_seq ?_
  refine c_region ?_
  refine l_loadN (i := 0) (vs := [.int .i64 (t10 0), .int .i64 (t10 1), .int .i64 (t10 2), .int .i64 (t10 3), .int .i64 (t10 4), .int .i64 (t10 5), .int .i64 (t10 6), .int .i64 (t10 7), .int .i64 (t10 8), .int .i64 (t10 9), .int .i64 (t10 10), .int .i64 (t10 11)]) Try.isAgg52 Try.sizeOf52 rfl rfl rfl rfl rfl ?_
  obtain ⟨t13, h_t13, H12⟩ := bnd_some H11; clear H11
  refine l_call (k58 h_t13) Try.call58 rfl rfl rfl ?_
  refine l_val rfl rfl rfl (r_assign (v := .int .i64 t13) rfl) ?_
  refine l_nil ?_
  refine c_seq ?_
  refine c_region ?_
  refine l_val rfl rfl rfl (r_move (v := .int .i64 t13) rfl) ?_
  refine l_val rfl rfl rfl (r_neq rfl rfl) ?_
  refine l_nil ?_
  refine c_if (b := (decide (t13 ≠ 0))) rfl (fun hb => ?_) (fun hb => ?_)
  ·have H13 := cnd_t hb H12; clear H12
   refine c_seq ?_
   refine c_region ?_
   refine l_val rfl rfl rfl (r_move (v := .int .i64 t13) rfl) ?_
   refine l_val rfl rfl rfl (r_assign (v := .int .i64 t13) rfl) ?_
   refine l_nil ?_
   refine c_ret ?_
   obtain rfl := Option.some.inj H13
   refine ret1 (v := .int .i64 t13) rfl rfl (fin rfl)
  ·have H14 := cnd_f hb H12; clear H12
   refine c_skip ?_
   refine c_region ?_
   obtain ⟨t17, h_t17, H15⟩ := bnd_some H14; clear H14
   refine l_val rfl rfl rfl (r_addG rfl rfl h_t17) ?_
   refine l_val rfl rfl rfl (r_move (v := .int .i64 t17) rfl) ?_
   refine l_nil ?_
   refine c_close t17 () m1 [] (by exact ⟨rfl, rfl, rfl, trivial⟩) (by decide) (by kernel_rfl) (by exact ⟨(by subst hn1; exact H15), trivial⟩) (Nat.lt_succ_self _)
 ·have H16 := cnd_f hb H9; clear H9
  refine c_exit ?_
  refine c_seq ?_
  refine c_region ?_
  refine l_val rfl rfl rfl (r_assign (v := .int .i64 0) rfl) ?_
  refine l_nil ?_
  refine c_ret ?_
  obtain rfl := Option.some.inj H16
  refine ret1 (v := .int .i64 0) rfl rfl (fin rfl)
theorem k20 {a0 : (Nat → Int)} {a1 : (Nat → Int)} {r : Int × Int} (H : face_Far a0 a1 = some r) : Ret Try.prog 20 [.agg #[.int .i64 (a0 0), .int .i64 (a0 1), .int .i64 (a0 2), .int .i64 (a0 3), .int .i64 (a0 4), .int .i64 (a0 5), .int .i64 (a0 6), .int .i64 (a0 7), .int .i64 (a0 8), .int .i64 (a0 9), .int .i64 (a0 10), .int .i64 (a0 11)], .agg #[.int .i64 (a1 0), .int .i64 (a1 1), .int .i64 (a1 2), .int .i64 (a1 3), .int .i64 (a1 4), .int .i64 (a1 5), .int .i64 (a1 6), .int .i64 (a1 7), .int .i64 (a1 8), .int .i64 (a1 9), .int .i64 (a1 10), .int .i64 (a1 11)]] (.tuple #[.int .i64 r.1, .int .i64 r.2]) := by
 refine enterRet (n := 17) Try.func20 rfl rfl rfl (fun wd => ?_)
 refine c_seq ?_
 refine c_region ?_
 refine l_box (cs := [.int .i64 (a0 0), .int .i64 (a0 1), .int .i64 (a0 2), .int .i64 (a0 3), .int .i64 (a0 4), .int .i64 (a0 5), .int .i64 (a0 6), .int .i64 (a0 7), .int .i64 (a0 8), .int .i64 (a0 9), .int .i64 (a0 10), .int .i64 (a0 11)]) rfl rfl rfl rfl (fun b3 => ?_)
 refine l_box (cs := [.int .i64 (a1 0), .int .i64 (a1 1), .int .i64 (a1 2), .int .i64 (a1 3), .int .i64 (a1 4), .int .i64 (a1 5), .int .i64 (a1 6), .int .i64 (a1 7), .int .i64 (a1 8), .int .i64 (a1 9), .int .i64 (a1 10), .int .i64 (a1 11)]) rfl rfl rfl rfl (fun b4 => ?_)
 refine l_val rfl rfl rfl (r_assign (v := .int .i64 0) rfl) ?_
 refine l_val rfl rfl rfl (r_assign (v := .int .i64 0) rfl) ?_
 refine l_nil ?_
 refine c_seq ?_
 refine c_seq ?_
 refine c_region ?_
 refine l_loadN (i := 0) (vs := [.int .i64 (a0 0), .int .i64 (a0 1), .int .i64 (a0 2), .int .i64 (a0 3), .int .i64 (a0 4), .int .i64 (a0 5), .int .i64 (a0 6), .int .i64 (a0 7), .int .i64 (a0 8), .int .i64 (a0 9), .int .i64 (a0 10), .int .i64 (a0 11)]) Try.isAgg52 Try.sizeOf52 rfl rfl rfl rfl rfl ?_
 refine l_loadN (i := 1) (vs := [.int .i64 (a1 0), .int .i64 (a1 1), .int .i64 (a1 2), .int .i64 (a1 3), .int .i64 (a1 4), .int .i64 (a1 5), .int .i64 (a1 6), .int .i64 (a1 7), .int .i64 (a1 8), .int .i64 (a1 9), .int .i64 (a1 10), .int .i64 (a1 11)]) Try.isAgg52 Try.sizeOf52 rfl rfl rfl rfl rfl ?_
 refine l_buildSlice (vs := [.agg #[.int .i64 (a0 0), .int .i64 (a0 1), .int .i64 (a0 2), .int .i64 (a0 3), .int .i64 (a0 4), .int .i64 (a0 5), .int .i64 (a0 6), .int .i64 (a0 7), .int .i64 (a0 8), .int .i64 (a0 9), .int .i64 (a0 10), .int .i64 (a0 11)], .agg #[.int .i64 (a1 0), .int .i64 (a1 1), .int .i64 (a1 2), .int .i64 (a1 3), .int .i64 (a1 4), .int .i64 (a1 5), .int .i64 (a1 6), .int .i64 (a1 7), .int .i64 (a1 8), .int .i64 (a1 9), .int .i64 (a1 10), .int .i64 (a1 11)]]) (cs := [.int .i64 (a0 0), .int .i64 (a0 1), .int .i64 (a0 2), .int .i64 (a0 3), .int .i64 (a0 4), .int .i64 (a0 5), .int .i64 (a0 6), .int .i64 (a0 7), .int .i64 (a0 8), .int .i64 (a0 9), .int .i64 (a0 10), .int .i64 (a0 11), .int .i64 (a1 0), .int .i64 (a1 1), .int .i64 (a1 2), .int .i64 (a1 3), .int .i64 (a1 4), .int .i64 (a1 5), .int .i64 (a1 6), .int .i64 (a1 7), .int .i64 (a1 8), .int .i64 (a1 9), .int .i64 (a1 10), .int .i64 (a1 11)]) Try.underlying115 Try.sizeOf52 Try.zeroValue52 rfl rfl rfl rfl rfl rfl rfl (fun b5 => ?_)
 obtain ⟨t10, h_t10, H5⟩ := bnd_some H; clear H
 refine l_callG (fun w hF hS => k48 (know_all w) (frs_box (i := 2) (xs := ([a0, a1] : List (Nat → Int))) (f := e_face_Vec) hS rfl rfl rfl rfl rfl) h_t10) Try.call48 rfl rfl rfl ?_
 refine l_val rfl rfl rfl (r_assign (v := .int .i64 t10) rfl) ?_
 refine l_nil ?_
 refine c_seq ?_
 refine c_region ?_
 refine l_val rfl rfl rfl (r_move (v := .int .i64 t10) rfl) ?_
 refine l_val rfl rfl rfl (r_neq rfl rfl) ?_
 refine l_nil ?_
 refine c_if (b := (decide (t10 ≠ 0))) rfl (fun hb => ?_) (fun hb => ?_)
 ·have H6 := cnd_t hb H5; clear H5
  refine c_seq ?_
  refine c_region ?_
  refine l_val rfl rfl rfl (r_move (v := .int .i64 t10) rfl) ?_
  refine l_val rfl rfl rfl (r_assign (v := .int .i64 0) rfl) ?_
  refine l_val rfl rfl rfl (r_assign (v := .int .i64 t10) rfl) ?_
  refine l_nil ?_
  refine c_ret ?_
  obtain rfl := Option.some.inj H6
  refine ret2 (v1 := .int .i64 0) (v2 := .int .i64 t10) rfl rfl rfl (fin rfl)
 ·have H7 := cnd_f hb H5; clear H5
  refine c_skip ?_
  refine c_seq ?_
  refine c_region ?_
  refine l_loadN (i := 0) (vs := [.int .i64 (a0 0), .int .i64 (a0 1), .int .i64 (a0 2), .int .i64 (a0 3), .int .i64 (a0 4), .int .i64 (a0 5), .int .i64 (a0 6), .int .i64 (a0 7), .int .i64 (a0 8), .int .i64 (a0 9), .int .i64 (a0 10), .int .i64 (a0 11)]) Try.isAgg52 Try.sizeOf52 rfl rfl rfl rfl rfl ?_
  refine l_loadN (i := 1) (vs := [.int .i64 (a1 0), .int .i64 (a1 1), .int .i64 (a1 2), .int .i64 (a1 3), .int .i64 (a1 4), .int .i64 (a1 5), .int .i64 (a1 6), .int .i64 (a1 7), .int .i64 (a1 8), .int .i64 (a1 9), .int .i64 (a1 10), .int .i64 (a1 11)]) Try.isAgg52 Try.sizeOf52 rfl rfl rfl rfl rfl ?_
  obtain ⟨t16, h_t16, H8⟩ := bnd_some H7; clear H7
  refine l_call (k28 h_t16) Try.call28 rfl rfl rfl ?_
  refine l_val rfl rfl rfl (r_assign (v := .int .i64 t16) rfl) ?_
  refine l_val rfl rfl rfl (r_assign (v := .int .i64 0) rfl) ?_
  refine l_nil ?_
  refine c_ret ?_
  obtain rfl := Option.some.inj H8
  refine ret2 (v1 := .int .i64 t16) (v2 := .int .i64 0) rfl rfl rfl (fin rfl)
theorem k5 {r : Bool} (H : Keep_awakeFace = some r) : Ret Try.prog 5 [] (.bool r) := by
 refine enterRet (n := 15) Try.func5 rfl rfl rfl (fun wd => ?_)
 refine c_seq ?_
 refine c_region ?_
 refine l_val rfl rfl rfl (r_assign (v := .bool false) rfl) ?_
 refine l_nil ?_
 refine c_seq ?_
 refine c_region ?_
 refine l_val rfl rfl rfl (r_buildA (ps := []) (cells := #[.int .i64 0, .int .i64 0, .int .i64 0, .int .i64 0, .int .i64 0, .int .i64 0, .int .i64 0, .int .i64 0, .int .i64 0, .int .i64 0, .int .i64 0, .int .i64 0]) Try.zeroValue52 Try.runUnderlying52 Try.sizeOf3 rfl rfl) ?_
 refine l_val rfl rfl rfl (r_buildA (ps := [(0, .int .i64 3)]) (cells := #[.int .i64 3, .int .i64 0, .int .i64 0, .int .i64 0, .int .i64 0, .int .i64 0, .int .i64 0, .int .i64 0, .int .i64 0, .int .i64 0, .int .i64 0, .int .i64 0]) Try.zeroValue52 Try.runUnderlying52 Try.sizeOf3 rfl rfl) ?_
 obtain ⟨t6, h_t6, H4⟩ := bnd_some H; clear H
 refine l_call (k20 h_t6) Try.call20 rfl rfl rfl ?_
 refine l_val rfl rfl rfl (r_move (v := .tuple #[.int .i64 t6.1, .int .i64 t6.2]) rfl) ?_
 refine l_val rfl rfl rfl (r_extract (v := .int .i64 t6.1) rfl rfl) ?_
 refine l_val rfl rfl rfl (r_extract (v := .int .i64 t6.2) rfl rfl) ?_
 refine l_val rfl rfl rfl (r_assign (v := .int .i64 t6.1) rfl) ?_
 refine l_val rfl rfl rfl (r_assign (v := .int .i64 t6.2) rfl) ?_
 refine l_nil ?_
 refine c_seq ?_
 refine c_region ?_
 refine l_val rfl rfl rfl (r_move (v := .int .i64 t6.2) rfl) ?_
 refine l_val rfl rfl rfl (r_eql rfl rfl) ?_
 refine l_val rfl rfl rfl (r_move (v := .bool (decide (t6.2 = 0))) rfl) ?_
 refine split (fun hb => ?_) (fun hb => ?_)
 ·have H5 := cnd_t hb H4; clear H4
  refine l_val rfl rfl rfl (r_move (v := .int .i64 t6.1) rfl) ?_
  refine l_val rfl rfl rfl (r_eql rfl rfl) ?_
  refine l_val rfl rfl rfl (r_pickT (v := .bool (decide (t6.1 = 9))) rfl rfl) ?_
  refine l_val rfl rfl rfl (r_assign (v := .bool (decide (t6.1 = 9))) rfl) ?_
  refine l_nil ?_
  refine c_ret ?_
  obtain rfl := Option.some.inj H5
  refine ret1 (v := .bool (decide (t6.1 = 9))) rfl rfl (fin rfl)
 ·have H6 := cnd_f hb H4; clear H4
  refine l_passed rfl rfl rfl ?_
  refine l_passed rfl rfl rfl ?_
  refine l_val rfl rfl rfl (r_pickF (v := .bool false) rfl rfl) ?_
  refine l_val rfl rfl rfl (r_assign (v := .bool false) rfl) ?_
  refine l_nil ?_
  refine c_ret ?_
  obtain rfl := Option.some.inj H6
  refine ret1 (v := .bool false) rfl rfl (fin rfl)
theorem k17 {a0 : (List T_face_Likeness)} {v0 : Value} {a1 : (List T_face_Bond)} {v1 : Value} {r : Int} {w : World} {h : Heap} (hw : Know h w noS) (f0 : FrS h 14 v0 (a0.map e_face_Likeness)) (f1 : FrS h 3 v1 (a1.map e_face_Bond)) (H : face_CheckBonds a0 a1 = some r) : Does Try.prog 17 (List.toArray [v0, v1]) w (fun v w' => v = (.int .i64 r) ∧ Grow w w') := by
 refine enter (n := 119) Try.func17 rfl rfl rfl noS [] (Sat.nil _ _) ?_
 refine c_seq ?_
 refine c_region ?_
 refine l_val rfl rfl rfl (r_assign (v := .int .i64 0) rfl) ?_
 refine l_nil ?_
 refine c_seq ?_
 refine c_seq ?_
 refine c_region ?_
 refine l_val rfl rfl rfl (r_move (v := v0) rfl) ?_
 obtain ⟨t17, h_t17, H46⟩ := bnd_some H; clear H
 refine l_callG (fun w hF hS => k25 (know_all w) (f0.mono (hw.now hF)) h_t17) Try.call25 rfl rfl rfl ?_
 refine l_val rfl rfl rfl (r_assign (v := .int .i64 t17) rfl) ?_
 refine l_nil ?_
 refine c_seq ?_
 refine c_region ?_
 refine l_val rfl rfl rfl (r_move (v := .int .i64 t17) rfl) ?_
 refine l_val rfl rfl rfl (r_neq rfl rfl) ?_
 refine l_nil ?_
 refine c_if (b := (decide (t17 ≠ 0))) rfl (fun hb => ?_) (fun hb => ?_)
 ·have H47 := cnd_t hb H46; clear H46
  refine c_seq ?_
  refine c_region ?_
  refine l_val rfl rfl rfl (r_move (v := .int .i64 t17) rfl) ?_
  refine l_val rfl rfl rfl (r_assign (v := .int .i64 t17) rfl) ?_
  refine l_nil ?_
  refine c_ret ?_
  obtain rfl := Option.some.inj H47
  refine ret1 (v := .int .i64 t17) rfl rfl (fin rfl)
 ·have H48 := cnd_f hb H46; clear H46
  refine c_skip ?_
  refine c_seq ?_
  refine c_seq ?_
  refine c_region ?_
  refine l_val rfl rfl rfl (r_move (v := v1) rfl) ?_
  refine l_val rfl rfl rfl (r_lenF Try.underlying23 rfl f1 rfl) ?_
  refine l_val rfl rfl rfl (r_gtr rfl rfl) ?_
  refine l_nil ?_
  refine c_if (b := (decide (1000 < (a1.length : Int)))) rfl (fun hb => ?_) (fun hb => ?_)
  ·have H49 := cnd_t hb H48; clear H48
   refine c_seq ?_
   refine c_region ?_
   refine l_val rfl rfl rfl (r_assign (v := .int .i64 4) rfl) ?_
   refine l_nil ?_
   refine c_ret ?_
   obtain rfl := Option.some.inj H49
   refine ret1 (v := .int .i64 4) rfl rfl (fin rfl)
  ·have H50 := cnd_f hb H48; clear H48
   refine c_skip ?_
   refine c_meet (r := r) (σ := Unit) (τ := Unit) (fun s => face_CheckBonds_j1 a0 a1) (fun s t => [(0, v0), (1, v1)]) (fun s t => []) (fun s t => True) ?_ ?_
   ·refine c_seq ?_
    refine c_region ?_
    refine l_val rfl rfl rfl (r_move (v := v1) rfl) ?_
    refine l_val rfl rfl rfl (r_lenF Try.underlying23 rfl f1 rfl) ?_
    refine l_val rfl rfl rfl (r_move (v := .int .i64 0) rfl) ?_
    refine l_nil ?_
    refine c_block ?_
    refine c_fix (σ := Int) (τ := Unit) (fun next3 s => face_CheckBonds_l3 a0 a1 next3 s) (fun s t => [(0, v0), (1, v1), (24, v1), (25, .int .i64 (a1.length : Int)), (26, .int .i64 s)]) (fun s t => []) (fun s t => True) 0 () [] H50 (by exact trivial) (by exact ⟨rfl, rfl, rfl, rfl, rfl, trivial⟩) (by decide) rfl ?_
    rintro x26_2 _ m3 gg H63 _
    clear H50
    replace H63 : face_CheckBonds_l3 a0 a1 (it (fun next3 s => face_CheckBonds_l3 a0 a1 next3 s) m3) x26_2 = some r := H63
    generalize hn3 : it (fun next3 s => face_CheckBonds_l3 a0 a1 next3 s) m3 = next3 at H63
    refine c_tidyF [(0, v0), (1, v1), (24, v1), (25, .int .i64 (a1.length : Int)), (26, .int .i64 x26_2)] [] rfl rfl ?_
    refine c_seq ?_
    refine c_region ?_
    refine l_val rfl rfl rfl (r_lss rfl rfl) ?_
    refine l_nil ?_
    refine c_seq ?_
    refine c_if (b := (decide (x26_2 < (a1.length : Int)))) rfl (fun hb => ?_) (fun hb => ?_)
    ·have H64 := cnd_t hb H63; clear H63
     refine c_skip ?_
     refine c_meet (r := r) (σ := Bool × Bool) (τ := Unit) (fun s => face_CheckBonds_j4 x26_2 next3 s.1 s.2) (fun s t => [(0, v0), (1, v1), (24, v1), (25, .int .i64 (a1.length : Int)), (26, .int .i64 x26_2), (49, .bool s.1), (50, .bool s.2)]) (fun s t => []) (fun s t => True) ?_ ?_
     ·refine c_block ?_
      refine c_seq ?_
      refine c_region ?_
      refine l_val rfl rfl rfl (r_move (v := .int .i64 x26_2) rfl) ?_
      obtain ⟨t29, h_t29, H67⟩ := bnd_some H64; clear H64
      refine l_val rfl rfl rfl (r_indexF Try.underlying23 Try.sizeOf35 rfl rfl f1 h_t29) ?_
      refine l_read (fun w hF hS => run_loadGN (f := e_face_Bond) (i := x26_2) (sz := 3) (j := 0) (vs := [.int .i64 t29.A, .int .i64 t29.B, .bool t29.Must]) Try.isAgg35 Try.sizeOf35 rfl rfl (f1.row (hw.now hF)) h_t29 rfl) rfl rfl rfl ?_
      refine l_alloc (cs := [.int .i64 0, .int .i64 0, .bool false]) Try.zeroValue35 rfl rfl rfl (fun b5 => ?_)
      refine l_val rfl rfl rfl (r_assign (v := .int .i64 x26_2) rfl) ?_
      refine l_store (i := 0) (vs := [.int .i64 t29.A, .int .i64 t29.B, .bool t29.Must]) (cs' := [.int .i64 t29.A, .int .i64 t29.B, .bool t29.Must]) Try.sizeOf35 rfl rfl rfl rfl rfl rfl rfl rfl rfl ?_
      refine l_nil ?_
      refine c_seq ?_
      refine c_region ?_
      refine l_val rfl rfl rfl (r_move (v := v0) rfl) ?_
      refine l_val rfl rfl rfl (r_field Try.runUnderlying35 rfl Try.sizeOf3 rfl rfl) ?_
      refine l_load1 (i := 0) (v := .int .i64 t29.A) Try.isAgg3 rfl rfl rfl rfl rfl ?_
      obtain ⟨t35, h_t35, H68⟩ := bnd_some H67; clear H67
      refine l_callG (fun w hF hS => k27 (know_all w) (f0.mono (hw.now hF)) h_t35) Try.call27 rfl rfl rfl ?_
      refine l_val rfl rfl rfl (r_move (v := .tuple #[.int .i64 t35.1, .bool t35.2]) rfl) ?_
      refine l_val rfl rfl rfl (r_extract (v := .int .i64 t35.1) rfl rfl) ?_
      refine l_val rfl rfl rfl (r_extract (v := .bool t35.2) rfl rfl) ?_
      refine l_val rfl rfl rfl (r_assign (v := .int .i64 t35.1) rfl) ?_
      refine l_val rfl rfl rfl (r_assign (v := .bool t35.2) rfl) ?_
      refine l_nil ?_
      refine c_seq ?_
      refine c_region ?_
      refine l_val rfl rfl rfl (r_move (v := v0) rfl) ?_
      refine l_val rfl rfl rfl (r_field Try.runUnderlying35 rfl Try.sizeOf3 rfl rfl) ?_
      refine l_load1 (i := 0) (v := .int .i64 t29.B) Try.isAgg3 rfl rfl rfl rfl rfl ?_
      obtain ⟨t42, h_t42, H69⟩ := bnd_some H68; clear H68
      refine l_callG (fun w hF hS => k27 (know_all w) (f0.mono (hw.now hF)) h_t42) Try.call27 rfl rfl rfl ?_
      refine l_val rfl rfl rfl (r_move (v := .tuple #[.int .i64 t42.1, .bool t42.2]) rfl) ?_
      refine l_val rfl rfl rfl (r_extract (v := .int .i64 t42.1) rfl rfl) ?_
      refine l_val rfl rfl rfl (r_extract (v := .bool t42.2) rfl rfl) ?_
      refine l_val rfl rfl rfl (r_assign (v := .int .i64 t42.1) rfl) ?_
      refine l_val rfl rfl rfl (r_assign (v := .bool t42.2) rfl) ?_
      refine l_nil ?_
      refine c_block ?_
      refine c_seq ?_
      refine c_region ?_
      refine l_val rfl rfl rfl (r_move (v := .bool t35.2) rfl) ?_
      refine l_val rfl rfl rfl (r_not rfl) ?_
      refine l_val rfl rfl rfl (r_move (v := .bool (!t35.2)) rfl) ?_
      refine split (fun hb => ?_) (fun hb => ?_)
      ·have H70 := cnd_t hb H69; clear H69
       refine l_passed rfl rfl rfl ?_
       refine l_passed rfl rfl rfl ?_
       refine l_val rfl rfl rfl (r_pickT (v := .bool true) rfl rfl) ?_
       refine l_val rfl rfl rfl (r_assign (v := .bool true) rfl) ?_
       refine l_nil ?_
       refine c_true rfl ?_
       refine c_seq ?_
       refine c_region ?_
       refine l_val rfl rfl rfl (r_assign (v := .int .i64 7) rfl) ?_
       refine l_nil ?_
       refine c_ret ?_
       obtain rfl := Option.some.inj H70
       refine ret1 (v := .int .i64 7) rfl rfl (fin rfl)
      ·have H71 := cnd_f hb H69; clear H69
       refine l_val rfl rfl rfl (r_move (v := .bool t42.2) rfl) ?_
       refine l_val rfl rfl rfl (r_not rfl) ?_
       refine l_val rfl rfl rfl (r_pickF (v := .bool (!t42.2)) rfl rfl) ?_
       refine l_val rfl rfl rfl (r_assign (v := .bool (!t42.2)) rfl) ?_
       refine l_nil ?_
       refine c_if (b := (!t42.2)) rfl (fun hb => ?_) (fun hb => ?_)
       ·have H72 := cnd_t hb H71; clear H71
        refine c_seq ?_
        refine c_region ?_
        refine l_val rfl rfl rfl (r_assign (v := .int .i64 7) rfl) ?_
        refine l_nil ?_
        refine c_ret ?_
        obtain rfl := Option.some.inj H72
        refine ret1 (v := .int .i64 7) rfl rfl (fin rfl)
       ·have H73 := cnd_f hb H71; clear H71
        refine c_seq ?_
        refine c_region ?_
        refine l_val rfl rfl rfl (r_field Try.runUnderlying35 rfl Try.sizeOf3 rfl rfl) ?_
        refine l_load1 (i := 0) (v := .int .i64 t29.A) Try.isAgg3 rfl rfl rfl rfl rfl ?_
        refine l_val rfl rfl rfl (r_field Try.runUnderlying35 rfl Try.sizeOf3 rfl rfl) ?_
        refine l_load1 (i := 0) (v := .int .i64 t29.B) Try.isAgg3 rfl rfl rfl rfl rfl ?_
        refine l_val rfl rfl rfl (r_geq rfl rfl) ?_
        refine l_val rfl rfl rfl (r_assign (v := .bool (decide (t29.B ≤ t29.A))) rfl) ?_
        refine l_nil ?_
        refine c_if (b := (decide (t29.B ≤ t29.A))) rfl (fun hb => ?_) (fun hb => ?_)
        ·have H74 := cnd_t hb H73; clear H73
         refine c_seq ?_
         refine c_region ?_
         refine l_val rfl rfl rfl (r_assign (v := .int .i64 1) rfl) ?_
         refine l_nil ?_
         refine c_ret ?_
         obtain rfl := Option.some.inj H74
         refine ret1 (v := .int .i64 1) rfl rfl (fin rfl)
        ·have H75 := cnd_f hb H73; clear H73
         refine c_seq ?_
         exact c_regionD (Kd.p :: Kd.p :: Kd.p :: Kd.p :: Kd.d [0] _ :: Kd.p :: Kd.p :: Kd.p :: Kd.p :: Kd.p :: Kd.d [] _ :: Kd.p :: Kd.p :: Kd.p :: Kd.d [0] _ :: Kd.p :: Kd.p :: Kd.p :: Kd.p :: Kd.p :: Kd.d [] _ :: Kd.p :: Kd.p :: Kd.p :: Kd.d [0] _ :: Kd.p :: Kd.p :: Kd.p :: Kd.p :: Kd.p :: Kd.d [] _ :: Kd.p :: Kd.p :: Kd.p :: Kd.p :: Kd.p :: []) 0 mixed (by
          refine d_val rfl rfl (r_move (v := .int .i64 x26_2) rfl) ?_
          refine d_val rfl rfl (r_gtr rfl rfl) ?_
          refine d_val rfl rfl (r_move (v := .bool (decide (0 < x26_2))) rfl) ?_
          refine splitS (fun hb => ?_) (fun hb => ?_)
          ·have H76 := cnd_t hb H75
           refine d_val rfl rfl (r_field Try.runUnderlying35 rfl Try.sizeOf3 rfl rfl) ?_
           refine d_load1 (i := 0) (v := .int .i64 t29.A) Try.isAgg3 rfl rfl rfl rfl ?_
           refine d_val rfl rfl (r_move (v := v1) rfl) ?_
           refine d_val rfl rfl (r_move (v := .int .i64 x26_2) rfl) ?_
           have h_t66 := bnd_val H76
           have H77 := bnd_rest H76
           refine d_val rfl rfl (r_subG rfl rfl h_t66) ?_
           have h_t67 := bnd_val H77
           have H78 := bnd_rest H77
           refine d_val rfl rfl (r_indexF Try.underlying23 Try.sizeOf35 rfl rfl f1 h_t67) ?_
           refine d_val rfl rfl (r_fieldP Try.runUnderlying35 rfl Try.sizeOf3 rfl rfl (some_of_at f1 h_t67)) ?_
           refine d_read (fun w hF => run_loadG1 (f := e_face_Bond) (i := (val (gI (x26_2 - 1)))) (sz := 3) (j := 0) (v := .int .i64 (val (gAt a1 (val (gI (x26_2 - 1))))).A) Try.isAgg3 rfl rfl (f1.row (hw.now hF)) h_t67 rfl) rfl rfl ?_
           refine d_val rfl rfl (r_lss rfl rfl) ?_
           refine d_val rfl rfl (r_move (v := .bool (decide (t29.A < (val (gAt a1 (val (gI (x26_2 - 1))))).A))) rfl) ?_
           refine splitS (fun hb => ?_) (fun hb => ?_)
           ·have H79 := cnd_t hb H78
            refine d_pass rfl rfl ?_
            refine d_pass rfl rfl ?_
            refine d_pass rfl rfl ?_
            refine d_pass rfl rfl ?_
            refine d_pass rfl rfl ?_
            refine d_pass rfl rfl ?_
            refine d_pass rfl rfl ?_
            refine d_pass rfl rfl ?_
            refine d_pass rfl rfl ?_
            refine d_pass rfl rfl ?_
            refine d_pass rfl rfl ?_
            refine d_pass rfl rfl ?_
            refine d_pass rfl rfl ?_
            refine d_pass rfl rfl ?_
            refine d_pass rfl rfl ?_
            refine d_pass rfl rfl ?_
            refine d_pass rfl rfl ?_
            refine d_pass rfl rfl ?_
            refine d_pass rfl rfl ?_
            refine d_pass rfl rfl ?_
            refine d_val rfl rfl (r_pickT (v := .bool true) rfl rfl) ?_
            refine d_val rfl rfl (r_pickT (v := .bool true) rfl rfl) ?_
            refine d_val rfl rfl (r_assign (v := .bool true) rfl) ?_
            refine d_nil ?_
            refine c_true rfl ?_
            refine c_seq ?_
            refine c_region ?_
            refine l_val rfl rfl rfl (r_assign (v := .int .i64 5) rfl) ?_
            refine l_nil ?_
            refine c_ret ?_
            obtain rfl := Option.some.inj H79
            refine ret1 (v := .int .i64 5) rfl rfl (fin rfl)
           ·have H80 := cnd_f hb H78
            refine d_val rfl rfl (r_field Try.runUnderlying35 rfl Try.sizeOf3 rfl rfl) ?_
            refine d_load1 (i := 0) (v := .int .i64 t29.A) Try.isAgg3 rfl rfl rfl rfl ?_
            refine d_val rfl rfl (r_move (v := v1) rfl) ?_
            refine d_val rfl rfl (r_move (v := .int .i64 x26_2) rfl) ?_
            have h_t76 := bnd_val H80
            have H81 := bnd_rest H80
            refine d_val rfl rfl (r_subG rfl rfl h_t76) ?_
            have h_t77 := bnd_val H81
            have H82 := bnd_rest H81
            refine d_val rfl rfl (r_indexF Try.underlying23 Try.sizeOf35 rfl rfl f1 h_t77) ?_
            refine d_val rfl rfl (r_fieldP Try.runUnderlying35 rfl Try.sizeOf3 rfl rfl (some_of_at f1 h_t77)) ?_
            refine d_read (fun w hF => run_loadG1 (f := e_face_Bond) (i := (val (gI (x26_2 - 1)))) (sz := 3) (j := 0) (v := .int .i64 (val (gAt a1 (val (gI (x26_2 - 1))))).A) Try.isAgg3 rfl rfl (f1.row (hw.now hF)) h_t77 rfl) rfl rfl ?_
            refine d_val rfl rfl (r_eql rfl rfl) ?_
            refine d_val rfl rfl (r_move (v := .bool (decide (t29.A = (val (gAt a1 (val (gI (x26_2 - 1))))).A))) rfl) ?_
            refine splitS (fun hb => ?_) (fun hb => ?_)
            ·have H83 := cnd_t hb H82
             refine d_val rfl rfl (r_field Try.runUnderlying35 rfl Try.sizeOf3 rfl rfl) ?_
             refine d_load1 (i := 0) (v := .int .i64 t29.B) Try.isAgg3 rfl rfl rfl rfl ?_
             refine d_val rfl rfl (r_move (v := v1) rfl) ?_
             refine d_val rfl rfl (r_move (v := .int .i64 x26_2) rfl) ?_
             have h_t86 := bnd_val H83
             have H84 := bnd_rest H83
             refine d_val rfl rfl (r_subG rfl rfl h_t86) ?_
             have h_t87 := bnd_val H84
             have H85 := bnd_rest H84
             refine d_val rfl rfl (r_indexF Try.underlying23 Try.sizeOf35 rfl rfl f1 h_t87) ?_
             refine d_val rfl rfl (r_fieldP Try.runUnderlying35 rfl Try.sizeOf3 rfl rfl (some_of_at f1 h_t87)) ?_
             refine d_read (fun w hF => run_loadG1 (f := e_face_Bond) (i := (val (gI (x26_2 - 1)))) (sz := 3) (j := 1) (v := .int .i64 (val (gAt a1 (val (gI (x26_2 - 1))))).B) Try.isAgg3 rfl rfl (f1.row (hw.now hF)) h_t87 rfl) rfl rfl ?_
             refine d_val rfl rfl (r_leq rfl rfl) ?_
             refine d_val rfl rfl (r_pickT (v := .bool (decide (t29.B ≤ (val (gAt a1 (val (gI (x26_2 - 1))))).B))) rfl rfl) ?_
             refine d_val rfl rfl (r_pickF (v := .bool (decide (t29.B ≤ (val (gAt a1 (val (gI (x26_2 - 1))))).B))) rfl rfl) ?_
             refine d_val rfl rfl (r_pickT (v := .bool (decide (t29.B ≤ (val (gAt a1 (val (gI (x26_2 - 1))))).B))) rfl rfl) ?_
             refine d_val rfl rfl (r_assign (v := .bool (decide (t29.B ≤ (val (gAt a1 (val (gI (x26_2 - 1))))).B))) rfl) ?_
             refine d_nil ?_
             refine c_if (b := (decide (t29.B ≤ (val (gAt a1 (val (gI (x26_2 - 1))))).B))) rfl (fun hb => ?_) (fun hb => ?_)
             ·have H86 := cnd_t hb H85; clear H85
              refine c_seq ?_
              refine c_region ?_
              refine l_val rfl rfl rfl (r_assign (v := .int .i64 5) rfl) ?_
              refine l_nil ?_
              refine c_ret ?_
              obtain rfl := Option.some.inj H86
              refine ret1 (v := .int .i64 5) rfl rfl (fin rfl)
             ·have H87 := cnd_f hb H85; clear H85
              refine c_skip ?_
              refine c_close (t42.2, (!t42.2)) () 0 [] (by exact ⟨rfl, rfl, rfl, rfl, rfl, rfl, rfl, trivial⟩) (by decide) (by kernel_rfl) (by exact ⟨H87, trivial⟩) (Nat.lt_succ_self _)
            ·have H88 := cnd_f hb H82
             refine d_pass rfl rfl ?_
             refine d_pass rfl rfl ?_
             refine d_pass rfl rfl ?_
             refine d_pass rfl rfl ?_
             refine d_pass rfl rfl ?_
             refine d_pass rfl rfl ?_
             refine d_pass rfl rfl ?_
             refine d_pass rfl rfl ?_
             refine d_pass rfl rfl ?_
             refine d_val rfl rfl (r_pickF (v := .bool false) rfl rfl) ?_
             refine d_val rfl rfl (r_pickF (v := .bool false) rfl rfl) ?_
             refine d_val rfl rfl (r_pickT (v := .bool false) rfl rfl) ?_
             refine d_val rfl rfl (r_assign (v := .bool false) rfl) ?_
             refine d_nil ?_
             refine c_false rfl ?_
             refine c_skip ?_
             refine c_close (t42.2, (!t42.2)) () 0 [] (by exact ⟨rfl, rfl, rfl, rfl, rfl, rfl, rfl, trivial⟩) (by decide) (by kernel_rfl) (by exact ⟨H88, trivial⟩) (Nat.lt_succ_self _)
          ·have H89 := cnd_f hb H75
           refine d_pass rfl rfl ?_
           refine d_pass rfl rfl ?_
           refine d_pass rfl rfl ?_
           refine d_pass rfl rfl ?_
           refine d_pass rfl rfl ?_
           refine d_pass rfl rfl ?_
           refine d_pass rfl rfl ?_
           refine d_pass rfl rfl ?_
           refine d_pass rfl rfl ?_
           refine d_pass rfl rfl ?_
           refine d_pass rfl rfl ?_
           refine d_pass rfl rfl ?_
           refine d_pass rfl rfl ?_
           refine d_pass rfl rfl ?_
           refine d_pass rfl rfl ?_
           refine d_pass rfl rfl ?_
           refine d_pass rfl rfl ?_
           refine d_pass rfl rfl ?_
           refine d_pass rfl rfl ?_
           refine d_pass rfl rfl ?_
           refine d_pass rfl rfl ?_
           refine d_pass rfl rfl ?_
           refine d_pass rfl rfl ?_
           refine d_pass rfl rfl ?_
           refine d_pass rfl rfl ?_
           refine d_pass rfl rfl ?_
           refine d_pass rfl rfl ?_
           refine d_pass rfl rfl ?_
           refine d_pass rfl rfl ?_
           refine d_pass rfl rfl ?_
           refine d_pass rfl rfl ?_
           refine d_val rfl rfl (r_pickF (v := .bool false) rfl rfl) ?_
           refine d_val rfl rfl (r_assign (v := .bool false) rfl) ?_
           refine d_nil ?_
           refine c_false rfl ?_
           refine c_skip ?_
           refine c_close (t42.2, (!t42.2)) () 0 [] (by exact ⟨rfl, rfl, rfl, rfl, rfl, rfl, rfl, trivial⟩) (by decide) (by kernel_rfl) (by exact ⟨H89, trivial⟩) (Nat.lt_succ_self _)
          ) (by kernel_rfl)
     ·rintro ⟨x49, x50⟩ _ gg H65 _
      replace H65 : face_CheckBonds_j4 x26_2 next3 x49 x50 = some r := H65
      refine c_tidyF [(0, v0), (1, v1), (24, v1), (25, .int .i64 (a1.length : Int)), (26, .int .i64 x26_2), (49, .bool x49), (50, .bool x50)] [] rfl rfl ?_
      refine c_region ?_
      obtain ⟨t94, h_t94, H66⟩ := bnd_some H65; clear H65
      refine l_val rfl rfl rfl (r_addG rfl rfl h_t94) ?_
      refine l_val rfl rfl rfl (r_move (v := .int .i64 t94) rfl) ?_
      refine l_nil ?_
      refine c_close t94 () m3 [] (by exact ⟨rfl, rfl, rfl, rfl, rfl, trivial⟩) (by decide) (by kernel_rfl) (by exact ⟨(by subst hn3; exact H66), trivial⟩) (Nat.lt_succ_self _)
    ·have H90 := cnd_f hb H63; clear H63
     refine c_exit ?_
     refine c_close () () 0 [] (by exact ⟨rfl, rfl, trivial⟩) (by decide) (by kernel_rfl) (by exact ⟨H90, trivial⟩) (Nat.lt_succ_self _)
   ·rintro _ _ gg H51 _
    replace H51 : face_CheckBonds_j1 a0 a1 = some r := H51
    refine c_tidyF [(0, v0), (1, v1)] [] rfl rfl ?_
    refine c_seq ?_
    refine c_region ?_
    refine l_val rfl rfl rfl (r_move (v := v0) rfl) ?_
    refine l_val rfl rfl rfl (r_move (v := v1) rfl) ?_
    obtain ⟨t97, h_t97, H52⟩ := bnd_some H51; clear H51
    refine l_make (makes_call (rds := []) (G := fun x : (Option Addr × Nat) × (Option Addr × Nat) => .agg #[.slice x.1.1 t97.musts_.length x.1.2, .slice x.2.1 t97.nots_.length x.2.2]) (C := fun x : (Option Addr × Nat) × (Option Addr × Nat) => bothC (rowV 36 2 (.slice x.1.1 t97.musts_.length x.1.2) t97.musts_.length (t97.musts_.map e_2_int)) (rowV 36 2 (.slice x.2.1 t97.nots_.length x.2.2) t97.nots_.length (t97.nots_.map e_2_int))) (fun w L' hF hS hi => k23 (know_all w) (f0.mono (hw.now hF)) (f1.mono (hw.now hF)) h_t97) Try.call23 rfl) rfl rfl rfl (fun ⟨p, p_2⟩ => ?_)
    refine c_split 0 rfl ?_
    refine l_alloc (cs := [.slice none 0 0, .slice none 0 0]) Try.zeroValue57 rfl rfl rfl (fun b3 => ?_)
    refine l_store (i := 2) (vs := [.slice p.1 t97.musts_.length p.2, .slice p_2.1 t97.nots_.length p_2.2]) (cs' := [.slice p.1 t97.musts_.length p.2, .slice p_2.1 t97.nots_.length p_2.2]) Try.sizeOf57 rfl rfl rfl rfl rfl rfl rfl rfl rfl ?_
    refine l_nil ?_
    refine c_seq ?_
    refine c_region ?_
    refine l_loadN (i := 2) (vs := [.slice p.1 t97.musts_.length p.2, .slice p_2.1 t97.nots_.length p_2.2]) Try.isAgg57 Try.sizeOf57 rfl rfl rfl rfl rfl ?_
    refine l_val rfl rfl rfl (r_move (v := v0) rfl) ?_
    refine l_val rfl rfl rfl (r_lenF Try.underlying22 rfl f0 rfl) ?_
    obtain ⟨t101, h_t101, H53⟩ := bnd_some H52; clear H52
    refine l_make (makes_call (rds := [0, 1]) (G := fun x : Nat => .map (some x)) (C := fun x : Nat => grpC 3 e_i64 x t101) (fun w L' hF hS hi => k44 (know_all w) (frs_own (i := 0) rfl hS ((hi 0 (by simp)).trans rfl)) (frs_own (i := 1) rfl hS ((hi 1 (by simp)).trans rfl)) h_t101) Try.call44 rfl) rfl rfl rfl (fun p_3 => ?_)
    refine l_val rfl rfl rfl (r_assign (v := .map (some p_3)) rfl) ?_
    refine l_nil ?_
    refine c_seq ?_
    refine c_seq ?_
    refine c_region ?_
    refine l_val rfl rfl rfl (r_field Try.runUnderlying57 rfl Try.sizeOf55 rfl rfl) ?_
    refine l_load1 (i := 2) (v := .slice p_2.1 t97.nots_.length p_2.2) Try.isAgg55 rfl rfl rfl rfl rfl ?_
    refine l_val rfl rfl rfl (r_len Try.underlying55 rfl) ?_
    refine l_val rfl rfl rfl (r_move (v := .int .i64 0) rfl) ?_
    refine l_nil ?_
    refine c_block ?_
    refine c_sel [1, 3] [rowV 36 2 (.slice p_2.1 t97.nots_.length p_2.2) t97.nots_.length (t97.nots_.map e_2_int), grpC 3 e_i64 p_3 t101] rfl (by decide) ?_
    refine c_fix (σ := Int) (τ := Unit) (fun next2 s => face_CheckBonds_l2 t97 t101 next2 s) (fun s t => [(13, .map (some p_3)), (103, .slice p_2.1 t97.nots_.length p_2.2), (104, .int .i64 (t97.nots_.length : Int)), (105, .int .i64 s)]) (fun s t => [rowV 36 2 (.slice p_2.1 t97.nots_.length p_2.2) t97.nots_.length (t97.nots_.map e_2_int), grpC 3 e_i64 p_3 t101]) (fun s t => True) 0 () [0, 1] H53 (by exact trivial) (by exact ⟨rfl, rfl, rfl, rfl, trivial⟩) (by decide) rfl ?_
    rintro x105_2 _ m2 gg H54 _
    clear H53
    replace H54 : face_CheckBonds_l2 t97 t101 (it (fun next2 s => face_CheckBonds_l2 t97 t101 next2 s) m2) x105_2 = some r := H54
    generalize hn2 : it (fun next2 s => face_CheckBonds_l2 t97 t101 next2 s) m2 = next2 at H54
    refine c_tidyF [(13, .map (some p_3)), (103, .slice p_2.1 t97.nots_.length p_2.2), (104, .int .i64 (t97.nots_.length : Int)), (105, .int .i64 x105_2)] [rowV 36 2 (.slice p_2.1 t97.nots_.length p_2.2) t97.nots_.length (t97.nots_.map e_2_int), grpC 3 e_i64 p_3 t101] rfl rfl ?_
    refine c_seq ?_
    refine c_region ?_
    refine l_val rfl rfl rfl (r_lss rfl rfl) ?_
    refine l_nil ?_
    refine c_seq ?_
    refine c_if (b := (decide (x105_2 < (t97.nots_.length : Int)))) rfl (fun hb => ?_) (fun hb => ?_)
    ·have H55 := cnd_t hb H54; clear H54
     refine c_skip ?_
     refine c_seq ?_
     refine c_block ?_
     refine c_seq ?_
     refine c_region ?_
     obtain ⟨t107, h_t107, H56⟩ := bnd_some H55; clear H55
     refine l_read (fun w hF hS => run_indexO Try.underlying55 Try.sizeOf36 rfl rfl (rowOf (i := 0) hS rfl) rfl h_t107) rfl rfl rfl ?_
     refine l_read (fun w hF hS => run_loadGN (f := e_2_int) (i := x105_2) (sz := 2) (j := 0) (vs := [.int .i64 (t107 0), .int .i64 (t107 1)]) Try.isAgg36 Try.sizeOf36 rfl rfl (rowOf (i := 0) hS rfl) h_t107 rfl) rfl rfl rfl ?_
     refine l_alloc (cs := [.int .i64 0, .int .i64 0]) Try.zeroValue36 rfl rfl rfl (fun b4 => ?_)
     refine l_store (i := 2) (vs := [.int .i64 (t107 0), .int .i64 (t107 1)]) (cs' := [.int .i64 (t107 0), .int .i64 (t107 1)]) Try.sizeOf36 rfl rfl rfl rfl rfl rfl rfl rfl rfl ?_
     refine l_nil ?_
     refine c_seq ?_
     exact c_regionD (Kd.p :: Kd.p :: Kd.d [2] _ :: Kd.d [1] _ :: Kd.p :: Kd.p :: Kd.d [2] _ :: Kd.d [1] _ :: Kd.p :: []) 0 mixed (by
      refine d_val rfl rfl (r_move (v := .map (some p_3)) rfl) ?_
      refine d_val rfl rfl (r_indexPA Try.runUnderlying36 Try.sizeOf3 rfl rfl (by decide) (by decide)) ?_
      refine d_load1 (i := 2) (v := .int .i64 (t107 0)) Try.isAgg3 rfl rfl rfl rfl ?_
      have h_t112 := bnd_val H56
      have H57 := bnd_rest H56
      refine d_callD (fun w L' hF hS hi => k45 (know_all w) (frs_grp (E := 3) (en := e_i64) (i := 1) hS ((hi 1 (by simp)).trans rfl)) h_t112) Try.call45 rfl rfl ?_
      refine d_val rfl rfl (r_move (v := .map (some p_3)) rfl) ?_
      refine d_val rfl rfl (r_indexPA Try.runUnderlying36 Try.sizeOf3 rfl rfl (by decide) (by decide)) ?_
      refine d_load1 (i := 2) (v := .int .i64 (t107 1)) Try.isAgg3 rfl rfl rfl rfl ?_
      have h_t116 := bnd_val H57
      have H58 := bnd_rest H57
      refine d_callD (fun w L' hF hS hi => k45 (know_all w) (frs_grp (E := 3) (en := e_i64) (i := 1) hS ((hi 1 (by simp)).trans rfl)) h_t116) Try.call45 rfl rfl ?_
      refine d_val rfl rfl (r_eql rfl rfl) ?_
      refine d_nil ?_
      refine c_if (b := (decide ((val (face_groups_of t101 (t107 0))) = (val (face_groups_of t101 (t107 1)))))) rfl (fun hb => ?_) (fun hb => ?_)
      ·have H59 := cnd_t hb H58; clear H58
       refine c_seq ?_
       refine c_region ?_
       refine l_val rfl rfl rfl (r_assign (v := .int .i64 11) rfl) ?_
       refine l_nil ?_
       refine c_ret ?_
       obtain rfl := Option.some.inj H59
       refine ret1 (v := .int .i64 11) rfl rfl (fin rfl)
      ·have H60 := cnd_f hb H58; clear H58
       refine c_skip ?_
       refine c_region ?_
       obtain ⟨t118, h_t118, H61⟩ := bnd_some H60; clear H60
       refine l_val rfl rfl rfl (r_addG rfl rfl h_t118) ?_
       refine l_val rfl rfl rfl (r_move (v := .int .i64 t118) rfl) ?_
       refine l_nil ?_
       refine c_close t118 () m2 [0, 1] (by exact ⟨rfl, rfl, rfl, rfl, trivial⟩) (by decide) (by kernel_rfl) (by exact ⟨(by subst hn2; exact H61), trivial⟩) (Nat.lt_succ_self _)
      ) (by kernel_rfl)
    ·have H62 := cnd_f hb H54; clear H54
     refine c_exit ?_
     refine c_seq ?_
     refine c_region ?_
     refine l_val rfl rfl rfl (r_assign (v := .int .i64 0) rfl) ?_
     refine l_nil ?_
     refine c_ret ?_
     obtain rfl := Option.some.inj H62
     refine ret1 (v := .int .i64 0) rfl rfl (fin rfl)
theorem k6 {a0 : (List T_face_Likeness)} {v0 : Value} {a1 : (List T_face_Bond)} {v1 : Value} {a2 : Int} {r : (List (List Int)) × Int} {w : World} {h : Heap} (hw : Know h w noS) (f0 : FrS h 14 v0 (a0.map e_face_Likeness)) (f1 : FrS h 3 v1 (a1.map e_face_Bond)) (H : face_Cluster a0 a1 a2 = some r) : Does Try.prog 6 (List.toArray [v0, v1, .int .i64 a2]) w (fun v w' => ∃ x : (Option Addr × Nat), v = (.tuple #[.slice x.1 r.1.length x.2, .int .i64 r.2]) ∧ Turn w w' noS (roD 1 gs_int (.slice x.1 r.1.length x.2) r.1.length r.1)) := by
 refine enter (n := 23) Try.func6 rfl rfl rfl noS [] (Sat.nil _ _) ?_
 refine c_poolNew noH ?_
 refine c_seq ?_
 refine c_region ?_
 refine l_val rfl rfl rfl (r_assign (v := .slice none 0 0) rfl) ?_
 refine l_val rfl rfl rfl (r_assign (v := .int .i64 0) rfl) ?_
 refine l_nil ?_
 refine c_seq ?_
 refine c_seq ?_
 refine c_region ?_
 refine l_val rfl rfl rfl (r_move (v := v0) rfl) ?_
 refine l_val rfl rfl rfl (r_move (v := v1) rfl) ?_
 obtain ⟨t11, h_t11, H17⟩ := bnd_some H; clear H
 refine l_callG (fun w hF hS => k17 (know_all w) (f0.mono (hw.now hF)) (f1.mono (hw.now hF)) h_t11) Try.call17 rfl rfl rfl ?_
 refine l_val rfl rfl rfl (r_assign (v := .int .i64 t11) rfl) ?_
 refine l_nil ?_
 refine c_seq ?_
 refine c_region ?_
 refine l_val rfl rfl rfl (r_move (v := .int .i64 t11) rfl) ?_
 refine l_val rfl rfl rfl (r_neq rfl rfl) ?_
 refine l_nil ?_
 refine c_if (b := (decide (t11 ≠ 0))) rfl (fun hb => ?_) (fun hb => ?_)
 ·have H18 := cnd_t hb H17; clear H17
  refine c_seq ?_
  refine c_region ?_
  refine l_val rfl rfl rfl (r_move (v := .int .i64 t11) rfl) ?_
  refine l_val rfl rfl rfl (r_assign (v := .slice none 0 0) rfl) ?_
  refine l_val rfl rfl rfl (r_assign (v := .int .i64 t11) rfl) ?_
  refine l_nil ?_
  refine c_ret ?_
  refine c_nilRow 30 1 ?_
  obtain rfl := Option.some.inj H18
  refine c_imp 1 rfl (row_ro _ _ _ _ _) ?_
  refine c_both 0 1 rfl rfl (by decide) ?_
  refine c_imp 0 rfl (imp_roD (p := ((none, 0) : Option Addr × Nat)) rfl (AllC.nil (G := gs_int) (h := noH) (sz := 1))) ?_
  refine ret2 (v1 := .slice ((none, 0) : Option Addr × Nat).1 (([] : List (List Value)).length) ((none, 0) : Option Addr × Nat).2) (v2 := .int .i64 t11) rfl rfl rfl (finX ((none, 0) : Option Addr × Nat) (i := 0) rfl (by first | rfl | rw [(show (([] : List (List Value)).length) = ([] : List (List Int)).length from (AllC.nil (G := gs_int) (h := noH) (sz := 1)).len)]) (by first | exact Imp.refl _ | exact Imp.of (by rw [(show (([] : List (List Value)).length) = ([] : List (List Int)).length from (AllC.nil (G := gs_int) (h := noH) (sz := 1)).len)] <;> rfl)))
 ·have H19 := cnd_f hb H17; clear H17
  refine c_skip ?_
  refine c_seq ?_
  refine c_seq ?_
  refine c_region ?_
  refine l_val rfl rfl rfl (r_move (v := .int .i64 a2) rfl) ?_
  obtain ⟨t16, h_t16, H20⟩ := bnd_some H19; clear H19
  refine l_call (k21 h_t16) Try.call21 rfl rfl rfl ?_
  refine l_nil ?_
  refine c_if (b := t16) rfl (fun hb => ?_) (fun hb => ?_)
  ·have H21 := cnd_t hb H20; clear H20
   refine c_seq ?_
   refine c_region ?_
   refine l_val rfl rfl rfl (r_assign (v := .slice none 0 0) rfl) ?_
   refine l_val rfl rfl rfl (r_assign (v := .int .i64 2) rfl) ?_
   refine l_nil ?_
   refine c_ret ?_
   refine c_nilRow 30 1 ?_
   obtain rfl := Option.some.inj H21
   refine c_imp 1 rfl (row_ro _ _ _ _ _) ?_
   refine c_both 0 1 rfl rfl (by decide) ?_
   refine c_imp 0 rfl (imp_roD (p := ((none, 0) : Option Addr × Nat)) rfl (AllC.nil (G := gs_int) (h := noH) (sz := 1))) ?_
   refine ret2 (v1 := .slice ((none, 0) : Option Addr × Nat).1 (([] : List (List Value)).length) ((none, 0) : Option Addr × Nat).2) (v2 := .int .i64 2) rfl rfl rfl (finX ((none, 0) : Option Addr × Nat) (i := 0) rfl (by first | rfl | rw [(show (([] : List (List Value)).length) = ([] : List (List Int)).length from (AllC.nil (G := gs_int) (h := noH) (sz := 1)).len)]) (by first | exact Imp.refl _ | exact Imp.of (by rw [(show (([] : List (List Value)).length) = ([] : List (List Int)).length from (AllC.nil (G := gs_int) (h := noH) (sz := 1)).len)] <;> rfl)))
  ·have H22 := cnd_f hb H20; clear H20
   refine c_skip ?_
   refine c_seq ?_
   refine c_region ?_
   refine l_val rfl rfl rfl (r_move (v := v0) rfl) ?_
   refine l_val rfl rfl rfl (r_move (v := v0) rfl) ?_
   refine l_val rfl rfl rfl (r_move (v := v1) rfl) ?_
   obtain ⟨t20, h_t20, H23⟩ := bnd_some H22; clear H22
   refine l_make (makes_call (rds := []) (G := fun x : (Option Addr × Nat) × (Option Addr × Nat) => .agg #[.slice x.1.1 t20.musts_.length x.1.2, .slice x.2.1 t20.nots_.length x.2.2]) (C := fun x : (Option Addr × Nat) × (Option Addr × Nat) => bothC (rowV 36 2 (.slice x.1.1 t20.musts_.length x.1.2) t20.musts_.length (t20.musts_.map e_2_int)) (rowV 36 2 (.slice x.2.1 t20.nots_.length x.2.2) t20.nots_.length (t20.nots_.map e_2_int))) (fun w L' hF hS hi => k23 (know_all w) (f0.mono (hw.now hF)) (f1.mono (hw.now hF)) h_t20) Try.call23 rfl) rfl rfl rfl (fun ⟨p, p_2⟩ => ?_)
   refine c_split 1 rfl ?_
   refine l_val rfl rfl rfl (r_move (v := .int .i64 a2) rfl) ?_
   obtain ⟨t22, h_t22, H24⟩ := bnd_some H23; clear H23
   refine l_make (makes_call (rds := [1, 2]) (G := fun x : (Option Addr × Nat) => .slice x.1 t22.length x.2) (C := fun x : (Option Addr × Nat) => roD 1 gs_int (.slice x.1 t22.length x.2) t22.length t22) (fun w L' hF hS hi => k22 (know_all w) (f0.mono (hw.now hF)) (frs_own (i := 1) rfl hS ((hi 1 (by simp)).trans rfl)) (frs_own (i := 2) rfl hS ((hi 2 (by simp)).trans rfl)) h_t22) Try.call22 rfl) rfl rfl rfl (fun p_3 => ?_)
   refine c_roD 3 rfl (fun hp css hn pf => ?_)
   refine c_split 3 rfl ?_
   refine c_poolJoin 0 3 rfl rfl (by decide) (fun _ _ => noH_le) (fun hp_2 hle hle_2 => ?_)
   refine l_val rfl rfl rfl (r_assign (v := .slice p_3.1 t22.length p_3.2) rfl) ?_
   refine l_val rfl rfl rfl (r_assign (v := .int .i64 0) rfl) ?_
   refine l_nil ?_
   refine c_sel [0, 1, 2, 3, 4] [poolC noH hp_2, rowV 36 2 (.slice p.1 t20.musts_.length p.2) t20.musts_.length (t20.musts_.map e_2_int), rowV 36 2 (.slice p_2.1 t20.nots_.length p_2.2) t20.nots_.length (t20.nots_.map e_2_int), _, roV 1 (.slice p_3.1 t22.length p_3.2) t22.length (css.map idC)] rfl (by decide) ?_
   refine c_ret ?_
   obtain rfl := Option.some.inj H24
   refine c_both 0 4 rfl rfl (by decide) ?_
   refine c_imp 0 rfl (imp_roD (p := p_3) hn (pf.mono hle_2)) ?_
   refine ret2 (v1 := .slice p_3.1 t22.length p_3.2) (v2 := .int .i64 0) rfl rfl rfl (finX p_3 (i := 0) rfl rfl (Imp.refl _))
theorem k57 {a0 : Int} {r : Bool} (H : cmp_isNaN_int a0 = some r) : Ret Try.prog 57 [.int .i64 a0] (.bool r) := by
 refine enterRet (n := 6) Try.func57 rfl rfl rfl (fun wd => ?_)
 refine c_seq ?_
 refine c_region ?_
 refine l_val rfl rfl rfl (r_assign (v := .bool false) rfl) ?_
 refine l_nil ?_
 refine c_seq ?_
 refine c_region ?_
 refine l_val rfl rfl rfl (r_move (v := .int .i64 a0) rfl) ?_
 refine l_val rfl rfl rfl (r_move (v := .int .i64 a0) rfl) ?_
 refine l_val rfl rfl rfl (r_neq rfl rfl) ?_
 refine l_val rfl rfl rfl (r_assign (v := .bool (decide (a0 ≠ a0))) rfl) ?_
 refine l_nil ?_
 refine c_ret ?_
 obtain rfl := Option.some.inj H
 refine ret1 (v := .bool (decide (a0 ≠ a0))) rfl rfl (fin rfl)
theorem k24 {a0 : Int} {a1 : Int} {r : Bool} (H : cmp_Less_int a0 a1 = some r) : Ret Try.prog 24 [.int .i64 a0, .int .i64 a1] (.bool r) := by
 refine enterRet (n := 17) Try.func24 rfl rfl rfl (fun wd => ?_)
 refine c_seq ?_
 refine c_region ?_
 refine l_val rfl rfl rfl (r_assign (v := .bool false) rfl) ?_
 refine l_nil ?_
 refine c_seq ?_
 refine c_region ?_
 refine l_val rfl rfl rfl (r_move (v := .int .i64 a0) rfl) ?_
 obtain ⟨t6, h_t6, H7⟩ := bnd_some H; clear H
 refine l_call (k57 h_t6) Try.call57 rfl rfl rfl ?_
 refine l_val rfl rfl rfl (r_move (v := .bool t6) rfl) ?_
 refine split (fun hb => ?_) (fun hb => ?_)
 ·have H8 := cnd_t hb H7; clear H7
  refine l_val rfl rfl rfl (r_move (v := .int .i64 a1) rfl) ?_
  obtain ⟨t9, h_t9, H9⟩ := bnd_some H8; clear H8
  refine l_call (k57 h_t9) Try.call57 rfl rfl rfl ?_
  refine l_val rfl rfl rfl (r_not rfl) ?_
  refine l_val rfl rfl rfl (r_pickT (v := .bool (!t9)) rfl rfl) ?_
  refine l_val rfl rfl rfl (r_move (v := .bool (!t9)) rfl) ?_
  refine split (fun hb => ?_) (fun hb => ?_)
  ·have H10 := cnd_t hb H9; clear H9
   refine l_passed rfl rfl rfl ?_
   refine l_passed rfl rfl rfl ?_
   refine l_passed rfl rfl rfl ?_
   refine l_val rfl rfl rfl (r_pickT (v := .bool true) rfl rfl) ?_
   refine l_val rfl rfl rfl (r_assign (v := .bool true) rfl) ?_
   refine l_nil ?_
   refine c_ret ?_
   obtain rfl := Option.some.inj H10
   refine ret1 (v := .bool true) rfl rfl (fin rfl)
  ·have H11 := cnd_f hb H9; clear H9
   refine l_val rfl rfl rfl (r_move (v := .int .i64 a0) rfl) ?_
   refine l_val rfl rfl rfl (r_move (v := .int .i64 a1) rfl) ?_
   refine l_val rfl rfl rfl (r_lss rfl rfl) ?_
   refine l_val rfl rfl rfl (r_pickF (v := .bool (decide (a0 < a1))) rfl rfl) ?_
   refine l_val rfl rfl rfl (r_assign (v := .bool (decide (a0 < a1))) rfl) ?_
   refine l_nil ?_
   refine c_ret ?_
   obtain rfl := Option.some.inj H11
   refine ret1 (v := .bool (decide (a0 < a1))) rfl rfl (fin rfl)
 ·have H12 := cnd_f hb H7; clear H7
  refine l_passed rfl rfl rfl ?_
  refine l_passed rfl rfl rfl ?_
  refine l_passed rfl rfl rfl ?_
  refine l_val rfl rfl rfl (r_pickF (v := .bool false) rfl rfl) ?_
  refine l_val rfl rfl rfl (r_move (v := .bool false) rfl) ?_
  refine l_val rfl rfl rfl (r_move (v := .int .i64 a0) rfl) ?_
  refine l_val rfl rfl rfl (r_move (v := .int .i64 a1) rfl) ?_
  refine l_val rfl rfl rfl (r_lss rfl rfl) ?_
  refine l_val rfl rfl rfl (r_pickF (v := .bool (decide (a0 < a1))) rfl rfl) ?_
  refine l_val rfl rfl rfl (r_assign (v := .bool (decide (a0 < a1))) rfl) ?_
  refine l_nil ?_
  refine c_ret ?_
  obtain rfl := Option.some.inj H12
  refine ret1 (v := .bool (decide (a0 < a1))) rfl rfl (fin rfl)
theorem k7 {a0 : (List Int)} {v0 : Value} {r : Bool} {w : World} {h : Heap} (hw : Know h w noS) (f0 : FrS h 1 v0 (a0.map e_i64)) (H : slices_IsSorted_int a0 = some r) : Does Try.prog 7 (List.toArray [v0]) w (fun v w' => v = (.bool r) ∧ Grow w w') := by
 refine enter (n := 21) Try.func7 rfl rfl rfl noS [] (Sat.nil _ _) ?_
 refine c_seq ?_
 refine c_region ?_
 refine l_val rfl rfl rfl (r_assign (v := .bool false) rfl) ?_
 refine l_nil ?_
 refine c_seq ?_
 refine c_seq ?_
 refine c_region ?_
 refine l_val rfl rfl rfl (r_move (v := v0) rfl) ?_
 refine l_val rfl rfl rfl (r_lenF Try.underlying30 rfl f0 rfl) ?_
 obtain ⟨t6, h_t6, H12⟩ := bnd_some H; clear H
 refine l_val rfl rfl rfl (r_subG rfl rfl h_t6) ?_
 refine l_val rfl rfl rfl (r_assign (v := .int .i64 t6) rfl) ?_
 refine l_nil ?_
 refine c_block ?_
 refine c_fix (σ := Int) (τ := Unit) (fun next1 s => slices_IsSorted_int_l1 a0 next1 s) (fun s t => [(0, v0), (3, .int .i64 s)]) (fun s t => []) (fun s t => True) t6 () [] H12 (by exact trivial) (by exact ⟨rfl, rfl, trivial⟩) (by decide) rfl ?_
 rintro x3_2 _ m1 gg H13 _
 clear H12
 replace H13 : slices_IsSorted_int_l1 a0 (it (fun next1 s => slices_IsSorted_int_l1 a0 next1 s) m1) x3_2 = some r := H13
 generalize hn1 : it (fun next1 s => slices_IsSorted_int_l1 a0 next1 s) m1 = next1 at H13
 refine c_tidyF [(0, v0), (3, .int .i64 x3_2)] [] rfl rfl ?_
 refine c_seq ?_
 refine c_seq ?_
 refine c_region ?_
 refine l_val rfl rfl rfl (r_move (v := .int .i64 x3_2) rfl) ?_
 refine l_val rfl rfl rfl (r_gtr rfl rfl) ?_
 refine l_nil ?_
 refine c_if (b := (decide (0 < x3_2))) rfl (fun hb => ?_) (fun hb => ?_)
 ·have H14 := cnd_t hb H13; clear H13
  refine c_skip ?_
  refine c_seq ?_
  refine c_block ?_
  refine c_seq ?_
  exact c_regionD (Kd.p :: Kd.p :: Kd.p :: Kd.d [] _ :: Kd.p :: Kd.p :: Kd.p :: Kd.p :: Kd.d [] _ :: Kd.d [] _ :: []) 0 mixed (by
   refine d_val rfl rfl (r_move (v := v0) rfl) ?_
   refine d_val rfl rfl (r_move (v := .int .i64 x3_2) rfl) ?_
   have h_t13 := bnd_val H14
   have H15 := bnd_rest H14
   refine d_val rfl rfl (r_indexF Try.underlying30 Try.sizeOf3 rfl rfl f0 h_t13) ?_
   refine d_read (fun w hF => run_loadG1 (f := e_i64) (i := x3_2) (sz := 1) (j := 0) (v := .int .i64 (val (gAt a0 x3_2))) Try.isAgg3 rfl rfl (f0.row (hw.now hF)) h_t13 rfl) rfl rfl ?_
   refine d_val rfl rfl (r_move (v := v0) rfl) ?_
   refine d_val rfl rfl (r_move (v := .int .i64 x3_2) rfl) ?_
   have h_t17 := bnd_val H15
   have H16 := bnd_rest H15
   refine d_val rfl rfl (r_subG rfl rfl h_t17) ?_
   have h_t18 := bnd_val H16
   have H17 := bnd_rest H16
   refine d_val rfl rfl (r_indexF Try.underlying30 Try.sizeOf3 rfl rfl f0 h_t18) ?_
   refine d_read (fun w hF => run_loadG1 (f := e_i64) (i := (val (gI (x3_2 - 1)))) (sz := 1) (j := 0) (v := .int .i64 (val (gAt a0 (val (gI (x3_2 - 1)))))) Try.isAgg3 rfl rfl (f0.row (hw.now hF)) h_t18 rfl) rfl rfl ?_
   have h_t20 := bnd_val H17
   have H18 := bnd_rest H17
   refine d_call (k24 h_t20) Try.call24 rfl rfl ?_
   refine d_nil ?_
   refine c_if (b := (val (cmp_Less_int (val (gAt a0 x3_2)) (val (gAt a0 (val (gI (x3_2 - 1)))))))) rfl (fun hb => ?_) (fun hb => ?_)
   ·have H19 := cnd_t hb H18; clear H18
    refine c_seq ?_
    refine c_region ?_
    refine l_val rfl rfl rfl (r_assign (v := .bool false) rfl) ?_
    refine l_nil ?_
    refine c_ret ?_
    obtain rfl := Option.some.inj H19
    refine ret1 (v := .bool false) rfl rfl (fin rfl)
   ·have H20 := cnd_f hb H18; clear H18
    refine c_skip ?_
    refine c_region ?_
    refine l_val rfl rfl rfl (r_move (v := .int .i64 x3_2) rfl) ?_
    obtain ⟨t10, h_t10, H21⟩ := bnd_some H20; clear H20
    refine l_val rfl rfl rfl (r_subG rfl rfl h_t10) ?_
    refine l_val rfl rfl rfl (r_assign (v := .int .i64 t10) rfl) ?_
    refine l_nil ?_
    refine c_close t10 () m1 [] (by exact ⟨rfl, rfl, trivial⟩) (by decide) (by kernel_rfl) (by exact ⟨(by subst hn1; exact H21), trivial⟩) (Nat.lt_succ_self _)
   ) (by kernel_rfl)
 ·have H22 := cnd_f hb H13; clear H13
  refine c_exit ?_
  refine c_seq ?_
  refine c_region ?_
  refine l_val rfl rfl rfl (r_assign (v := .bool true) rfl) ?_
  refine l_nil ?_
  refine c_ret ?_
  obtain rfl := Option.some.inj H22
  refine ret1 (v := .bool true) rfl rfl (fin rfl)
theorem k59 {n : Int} {u : Nat} (hg : gGroC 8 n = some u) (w : World) : Does Try.prog 59 (List.toArray [.slice none 0 0, .int .i64 n]) w (fun v w' => ∃ p : Option Addr × Nat, v = .slice p.1 0 p.2 ∧ Turn w w' noS (rowC 3 1 (.slice p.1 0 p.2) 0 [] u)) := by
  obtain ⟨rfl, h0, h1, h2⟩ := gGroC_some hg
  obtain ⟨m, rfl⟩ : ∃ m : Nat, n = (m : Int) := ⟨n.toNat, (Int.toNat_of_nonneg h0).symm⟩
  rw [Int.toNat_natCast] at h2 ⊢
  refine enter (n := 27) Try.func59 rfl rfl rfl noS [] (Sat.nil _ _) ?_
  refine c_seq ?_
  refine c_region ?_
  refine l_val rfl rfl rfl (r_assign (v := .slice none 0 0) rfl) ?_
  refine l_nil ?_
  refine c_seq ?_
  refine c_seq ?_
  refine c_region ?_
  refine l_val rfl rfl rfl (r_move (v := .int .i64 (m : Int)) rfl) ?_
  refine l_val rfl rfl rfl (r_decF (r_lss rfl rfl) (by omega)) ?_
  refine l_nil ?_
  refine c_false rfl ?_
  refine c_skip ?_
  refine c_seq ?_
  refine c_seq ?_
  refine c_region ?_
  refine l_val rfl rfl rfl (r_move (v := .int .i64 (m : Int)) rfl) ?_
  refine l_val rfl rfl rfl (r_move (v := .slice none 0 0) rfl) ?_
  refine l_val rfl rfl rfl (r_cap (c := 0) Try.underlying30 rfl) ?_
  refine l_val rfl rfl rfl (r_move (v := .slice none 0 0) rfl) ?_
  refine l_val rfl rfl rfl (r_len (m := 0) Try.underlying30 rfl) ?_
  refine l_val rfl rfl rfl (r_subG (z := 0) rfl rfl (by decide)) ?_
  refine l_val rfl rfl rfl (r_subG (z := (m : Int)) rfl rfl (by rw [Int.sub_zero]; exact gI_ok (by omega))) ?_
  refine l_val rfl rfl rfl (r_assign (v := .int .i64 (m : Int)) rfl) ?_
  refine l_nil ?_
  refine c_seq ?_
  refine c_region ?_
  refine l_val rfl rfl rfl (r_move (v := .int .i64 (m : Int)) rfl) ?_
  rcases Nat.eq_zero_or_pos m with hm | hm
  · refine l_val rfl rfl rfl (r_decF (r_gtr rfl rfl) (by omega)) ?_
    refine l_nil ?_
    refine c_false rfl ?_
    refine c_skip ?_
    refine c_seq ?_
    refine c_region ?_
    refine l_val rfl rfl rfl (r_move (v := .slice none 0 0) rfl) ?_
    refine l_val rfl rfl rfl (r_assign (v := .slice none 0 0) rfl) ?_
    refine l_nil ?_
    refine c_ret ?_
    subst hm
    refine c_nilRow 3 1 ?_
    refine c_imp 0 rfl (imp_C0 3 1 _) ?_
    exact ret1 (v := .slice none 0 0) rfl rfl (finX ((none, 0) : Option Addr × Nat) (i := 0) rfl rfl (Imp.refl _))
  · refine l_val rfl rfl rfl (r_decT (r_gtr rfl rfl) (by omega)) ?_
    refine l_nil ?_
    refine c_true rfl ?_
    refine c_region ?_
    refine l_val rfl rfl rfl (r_move (v := .slice none 0 0) rfl) ?_
    refine l_val rfl rfl rfl (r_move (v := .slice none 0 0) rfl) ?_
    refine l_val rfl rfl rfl (r_cap (c := 0) Try.underlying30 rfl) ?_
    refine l_val rfl rfl rfl (r_sliceH (a := none) (m := 0) (c := 0) (h := 0) Try.underlying30 Try.sizeOf3 rfl rfl (by decide) (by decide)) ?_
    refine l_val rfl rfl rfl (r_move (v := .int .i64 (m : Int)) rfl) ?_
    refine l_make (rds := []) (makes_zerosC (E := 3) (sz := 1) (by_ := 8) (m := m) Try.underlying30 Try.underlying3 (info_of Try.typeInfo3) rfl rfl rfl rfl rfl rfl rfl hm (by omega) h2) rfl rfl rfl (fun ⟨g0, c0⟩ => ?_)
    refine l_val rfl rfl rfl (r_move (v := .slice none 0 0) rfl) ?_
    refine l_val rfl rfl rfl (r_len (m := 0) Try.underlying30 rfl) ?_
    refine l_val rfl rfl rfl (r_sliceH0 (g0 := g0) (c := c0) Try.underlying30 Try.sizeOf3 rfl rfl) ?_
    refine l_val rfl rfl rfl (r_assign (v := .slice (some ⟨g0, 0, none⟩) 0 c0) rfl) ?_
    refine l_nil ?_
    refine c_seq ?_
    refine c_region ?_
    refine l_val rfl rfl rfl (r_move (v := .slice (some ⟨g0, 0, none⟩) 0 c0) rfl) ?_
    refine l_val rfl rfl rfl (r_assign (v := .slice (some ⟨g0, 0, none⟩) 0 c0) rfl) ?_
    refine l_nil ?_
    refine c_ret ?_
    exact ret1 (v := .slice (some ⟨g0, 0, none⟩) 0 c0) rfl rfl (finX ((some ⟨g0, 0, none⟩, c0) : Option Addr × Nat) (i := 0) rfl rfl (Imp.refl _))

theorem k26 {a0 : (List (List Int))} {v0 : Value} {r : (List Int)} {w : World} {h : Heap} (hw : Know h w noS) (f0 : FrN h 1 v0 gs_int a0) (H : slices_Concat_int a0 = some r) : Does Try.prog 26 (List.toArray [v0]) w (fun v w' => ∃ x : (Option Addr × Nat), v = (.slice x.1 r.length x.2) ∧ Turn w w' noS (rowV 3 1 (.slice x.1 r.length x.2) r.length (r.map e_i64))) := by
 refine enter (n := 36) Try.func26 rfl rfl rfl noS [] (Sat.nil _ _) ?_
 refine c_seq ?_
 refine c_region ?_
 refine l_val rfl rfl rfl (r_assign (v := .slice none 0 0) rfl) ?_
 refine l_nil ?_
 refine c_seq ?_
 refine c_region ?_
 refine l_val rfl rfl rfl (r_assign (v := .int .i64 0) rfl) ?_
 refine l_nil ?_
 refine c_meet (r := r) (σ := Int) (τ := Unit) (fun s => slices_Concat_int_j1 a0 s) (fun s t => [(0, v0), (3, .int .i64 s)]) (fun s t => []) (fun s t => True) ?_ ?_
 ·refine c_seq ?_
  refine c_region ?_
  refine l_val rfl rfl rfl (r_move (v := v0) rfl) ?_
  refine l_val rfl rfl rfl (r_lenFN Try.underlying25 rfl f0) ?_
  refine l_val rfl rfl rfl (r_move (v := .int .i64 0) rfl) ?_
  refine l_nil ?_
  refine c_block ?_
  refine c_fix (σ := Int × Int) (τ := Unit) (fun next3 s => slices_Concat_int_l3 a0 next3 s.1 s.2) (fun s t => [(0, v0), (3, .int .i64 s.1), (9, v0), (10, .int .i64 (a0.length : Int)), (11, .int .i64 s.2)]) (fun s t => []) (fun s t => True) (0, 0) () [] H (by exact trivial) (by exact ⟨rfl, rfl, rfl, rfl, rfl, trivial⟩) (by decide) rfl ?_
  rintro ⟨x3_3, x11_2⟩ _ m3 gg H25 _
  clear H
  replace H25 : slices_Concat_int_l3 a0 (it (fun next3 s => slices_Concat_int_l3 a0 next3 s.1 s.2) m3) x3_3 x11_2 = some r := H25
  generalize hn3 : it (fun next3 s => slices_Concat_int_l3 a0 next3 s.1 s.2) m3 = next3 at H25
  refine c_tidyF [(0, v0), (3, .int .i64 x3_3), (9, v0), (10, .int .i64 (a0.length : Int)), (11, .int .i64 x11_2)] [] rfl rfl ?_
  refine c_seq ?_
  refine c_region ?_
  refine l_val rfl rfl rfl (r_lss rfl rfl) ?_
  refine l_nil ?_
  refine c_seq ?_
  refine c_if (b := (decide (x11_2 < (a0.length : Int)))) rfl (fun hb => ?_) (fun hb => ?_)
  ·have H26 := cnd_t hb H25; clear H25
   refine c_skip ?_
   refine c_seq ?_
   refine c_block ?_
   refine c_seq ?_
   refine c_region ?_
   obtain ⟨t13, h_t13, H27⟩ := bnd_some H26; clear H26
   refine l_val rfl rfl rfl (r_indexF Try.underlying25 Try.sizeOf30 rfl rfl f0.frs (f0.ix h_t13)) ?_
   refine l_read (fun w hF hS => run_loadG1 (f := (elC h v0 1)) (i := x11_2) (sz := 1) (j := 0) (v := (elH h v0 1 (Int.toNat x11_2) 0)) Try.isAgg30 rfl rfl (f0.frs.row (hw.now hF)) (f0.ix h_t13) (rg_of (cgs_int (f0.at h_t13)) rfl)) rfl rfl rfl ?_
   refine l_val rfl rfl rfl (r_assign (v := (elH h v0 1 (Int.toNat x11_2) 0)) rfl) ?_
   refine l_nil ?_
   refine c_seq ?_
   refine c_region ?_
   refine l_val rfl rfl rfl (r_move (v := .int .i64 x3_3) rfl) ?_
   refine l_val rfl rfl rfl (r_move (v := (elH h v0 1 (Int.toNat x11_2) 0)) rfl) ?_
   refine l_val rfl rfl rfl (r_lenF Try.underlying30 rfl (show FrS h 1 (elH h v0 1 (Int.toNat x11_2) 0) (t13.map e_i64) from (f0.at h_t13)) rfl) ?_
   obtain ⟨t18, h_t18, H28⟩ := bnd_some H27; clear H27
   refine l_val rfl rfl rfl (r_addG rfl rfl h_t18) ?_
   refine l_val rfl rfl rfl (r_assign (v := .int .i64 t18) rfl) ?_
   refine l_nil ?_
   refine c_seq ?_
   refine c_region ?_
   refine l_val rfl rfl rfl (r_move (v := .int .i64 t18) rfl) ?_
   refine l_val rfl rfl rfl (r_lss rfl rfl) ?_
   refine l_nil ?_
   refine c_if (b := (decide (t18 < 0))) rfl (fun hb => ?_) (fun hb => ?_)
   ·have H29 := cnd_t hb H28; clear H28
    exact absurd (show (none : Option ((List Int))) = some r from H29) (fun h => by cases h)
   ·have H30 := cnd_f hb H28; clear H28
    refine c_skip ?_
    refine c_region ?_
    obtain ⟨t22, h_t22, H31⟩ := bnd_some H30; clear H30
    refine l_val rfl rfl rfl (r_addG rfl rfl h_t22) ?_
    refine l_val rfl rfl rfl (r_move (v := .int .i64 t22) rfl) ?_
    refine l_nil ?_
    refine c_close (t18, t22) () m3 [] (by exact ⟨rfl, rfl, rfl, rfl, rfl, trivial⟩) (by decide) (by kernel_rfl) (by exact ⟨(by subst hn3; exact H31), trivial⟩) (Nat.lt_succ_self _)
  ·have H32 := cnd_f hb H25; clear H25
   refine c_exit ?_
   refine c_close x3_3 () 0 [] (by exact ⟨rfl, rfl, trivial⟩) (by decide) (by kernel_rfl) (by exact ⟨H32, trivial⟩) (Nat.lt_succ_self _)
 ·rintro x3 _ gg H17 _
  replace H17 : slices_Concat_int_j1 a0 x3 = some r := H17
  refine c_tidyF [(0, v0), (3, .int .i64 x3)] [] rfl rfl ?_
  refine c_seq ?_
  refine c_region ?_
  refine l_val rfl rfl rfl (r_move (v := .int .i64 x3) rfl) ?_
  obtain ⟨u24, h_u24, H18⟩ := bnd_some H17; clear H17
  refine l_make (makes_call (rds := []) (G := fun x : (Option Addr × Nat) => .slice x.1 ([] : List Int).length x.2) (C := fun x : (Option Addr × Nat) => rowC 3 1 (.slice x.1 ([] : List Int).length x.2) ([] : List Int).length (([] : List Int).map e_i64) u24) (fun w L' hF hS hi => k59 h_u24 w) Try.call59 rfl) rfl rfl rfl (fun p => ?_)
  refine l_val rfl rfl rfl (r_assign (v := .slice p.1 ([] : List Int).length p.2) rfl) ?_
  refine l_nil ?_
  refine c_seq ?_
  refine c_seq ?_
  refine c_region ?_
  refine l_val rfl rfl rfl (r_move (v := v0) rfl) ?_
  refine l_val rfl rfl rfl (r_lenFN Try.underlying25 rfl f0) ?_
  refine l_val rfl rfl rfl (r_move (v := .int .i64 0) rfl) ?_
  refine l_nil ?_
  refine c_block ?_
  refine c_fix (σ := Int × (List Int)) (τ := (Option Addr × Nat)) (fun next2 s => slices_Concat_int_l2 a0 u24 next2 s.1 s.2) (fun s t => [(6, .slice t.1 s.2.length t.2), (25, v0), (26, .int .i64 (a0.length : Int)), (27, .int .i64 s.1)]) (fun s t => [rowC 3 1 (.slice t.1 s.2.length t.2) s.2.length (s.2.map e_i64) u24]) (fun s t => True) (0, ([] : List Int)) p [0] H18 (by exact trivial) (by exact ⟨rfl, rfl, rfl, rfl, trivial⟩) (by decide) rfl ?_
  rintro ⟨x27_2, l_2⟩ p_2 m2 gg H19 _
  clear H18
  replace H19 : slices_Concat_int_l2 a0 u24 (it (fun next2 s => slices_Concat_int_l2 a0 u24 next2 s.1 s.2) m2) x27_2 l_2 = some r := H19
  generalize hn2 : it (fun next2 s => slices_Concat_int_l2 a0 u24 next2 s.1 s.2) m2 = next2 at H19
  refine c_tidyF [(6, .slice p_2.1 l_2.length p_2.2), (25, v0), (26, .int .i64 (a0.length : Int)), (27, .int .i64 x27_2)] [rowC 3 1 (.slice p_2.1 l_2.length p_2.2) l_2.length (l_2.map e_i64) u24] rfl rfl ?_
  refine c_seq ?_
  refine c_region ?_
  refine l_val rfl rfl rfl (r_lss rfl rfl) ?_
  refine l_nil ?_
  refine c_seq ?_
  refine c_if (b := (decide (x27_2 < (a0.length : Int)))) rfl (fun hb => ?_) (fun hb => ?_)
  ·have H20 := cnd_t hb H19; clear H19
   refine c_skip ?_
   refine c_seq ?_
   refine c_block ?_
   refine c_seq ?_
   refine c_region ?_
   obtain ⟨t29, h_t29, H21⟩ := bnd_some H20; clear H20
   refine l_val rfl rfl rfl (r_indexF Try.underlying25 Try.sizeOf30 rfl rfl f0.frs (f0.ix h_t29)) ?_
   refine l_read (fun w hF hS => run_loadG1 (f := (elC h v0 1)) (i := x27_2) (sz := 1) (j := 0) (v := (elH h v0 1 (Int.toNat x27_2) 0)) Try.isAgg30 rfl rfl (f0.frs.row (hw.now hF)) (f0.ix h_t29) (rg_of (cgs_int (f0.at h_t29)) rfl)) rfl rfl rfl ?_
   refine l_val rfl rfl rfl (r_assign (v := (elH h v0 1 (Int.toNat x27_2) 0)) rfl) ?_
   refine l_nil ?_
   refine c_region ?_
   refine l_val rfl rfl rfl (r_move (v := .slice p_2.1 l_2.length p_2.2) rfl) ?_
   refine l_val rfl rfl rfl (r_move (v := (elH h v0 1 (Int.toNat x27_2) 0)) rfl) ?_
   obtain ⟨l33, h_l33, H22⟩ := bnd_some H21; clear H21
   refine l_turn (turns_appC (i := 0) (hn := rfl) (rds := []) (p := p_2) (sz := 1) (by_ := 8) (f := e_i64) (ys := l_2) (ls := t29) (V := (elH h v0 1 (Int.toNat x27_2) 0)) Try.underlying30 (info_of Try.typeInfo3) rfl rfl rfl rfl rfl rfl rfl rfl (show FrS h 1 (elH h v0 1 (Int.toNat x27_2) 0) (t29.map e_i64) from (f0.at h_t29)).eq (List.length_map _) (fun w L' hF hS hi => ((show FrS h 1 (elH h v0 1 (Int.toNat x27_2) 0) (t29.map e_i64) from (f0.at h_t29))).row (hw.now hF)) (fun _ => rfl) (fun _ => rfl) h_l33) rfl rfl rfl (fun p_3 => ?_)
   refine l_val rfl rfl rfl (r_assign (v := .slice p_3.1 l33.length p_3.2) rfl) ?_
   refine l_nil ?_
   refine c_region ?_
   obtain ⟨t34, h_t34, H23⟩ := bnd_some H22; clear H22
   refine l_val rfl rfl rfl (r_addG rfl rfl h_t34) ?_
   refine l_val rfl rfl rfl (r_move (v := .int .i64 t34) rfl) ?_
   refine l_nil ?_
   refine c_close (t34, l33) p_3 m2 [0] (by exact ⟨rfl, rfl, rfl, rfl, trivial⟩) (by decide) (by kernel_rfl) (by exact ⟨(by subst hn2; exact H23), trivial⟩) (Nat.lt_succ_self _)
  ·have H24 := cnd_f hb H19; clear H19
   refine c_exit ?_
   refine c_seq ?_
   refine c_region ?_
   refine l_val rfl rfl rfl (r_move (v := .slice p_2.1 l_2.length p_2.2) rfl) ?_
   refine l_val rfl rfl rfl (r_assign (v := .slice p_2.1 l_2.length p_2.2) rfl) ?_
   refine l_nil ?_
   refine c_ret ?_
   obtain rfl := Option.some.inj H24
   refine c_imp 0 rfl (imp_rowC _ _ _ _ _ _) ?_
   refine ret1 (v := .slice p_2.1 l_2.length p_2.2) rfl rfl (finX p_2 (i := 0) rfl rfl (Imp.refl _))
theorem k8 {a0 : (List T_face_Likeness)} {v0 : Value} {a1 : (List Int)} {v1 : Value} {a2 : (List Int)} {v2 : Value} {r : Int × Int} {w : World} {h : Heap} (hw : Know h w noS) (f0 : FrS h 14 v0 (a0.map e_face_Likeness)) (f1 : FrS h 1 v1 (a1.map e_i64)) (f2 : FrS h 1 v2 (a2.map e_i64)) (H : face_Gap a0 a1 a2 = some r) : Does Try.prog 8 (List.toArray [v0, v1, v2]) w (fun v w' => v = (.tuple #[.int .i64 r.1, .int .i64 r.2]) ∧ Grow w w') := by
 refine enter (n := 93) Try.func8 rfl rfl rfl noS [] (Sat.nil _ _) ?_
 refine c_seq ?_
 refine c_region ?_
 refine l_val rfl rfl rfl (r_assign (v := .int .i64 0) rfl) ?_
 refine l_val rfl rfl rfl (r_assign (v := .int .i64 0) rfl) ?_
 refine l_nil ?_
 refine c_seq ?_
 refine c_seq ?_
 refine c_region ?_
 refine l_val rfl rfl rfl (r_move (v := v0) rfl) ?_
 obtain ⟨t23, h_t23, H34⟩ := bnd_some H; clear H
 refine l_callG (fun w hF hS => k25 (know_all w) (f0.mono (hw.now hF)) h_t23) Try.call25 rfl rfl rfl ?_
 refine l_val rfl rfl rfl (r_assign (v := .int .i64 t23) rfl) ?_
 refine l_nil ?_
 refine c_seq ?_
 refine c_region ?_
 refine l_val rfl rfl rfl (r_move (v := .int .i64 t23) rfl) ?_
 refine l_val rfl rfl rfl (r_neq rfl rfl) ?_
 refine l_nil ?_
 refine c_if (b := (decide (t23 ≠ 0))) rfl (fun hb => ?_) (fun hb => ?_)
 ·have H35 := cnd_t hb H34; clear H34
  refine c_seq ?_
  refine c_region ?_
  refine l_val rfl rfl rfl (r_move (v := .int .i64 t23) rfl) ?_
  refine l_val rfl rfl rfl (r_assign (v := .int .i64 0) rfl) ?_
  refine l_val rfl rfl rfl (r_assign (v := .int .i64 t23) rfl) ?_
  refine l_nil ?_
  refine c_ret ?_
  obtain rfl := Option.some.inj H35
  refine ret2 (v1 := .int .i64 0) (v2 := .int .i64 t23) rfl rfl rfl (fin rfl)
 ·have H36 := cnd_f hb H34; clear H34
  refine c_skip ?_
  refine c_meet (r := r) (σ := Unit) (τ := Unit) (fun s => face_Gap_j1 a0 a1 a2) (fun s t => [(0, v0), (1, v1), (2, v2)]) (fun s t => []) (fun s t => True) ?_ ?_
  ·refine c_seq ?_
   refine c_region ?_
   refine l_val rfl rfl rfl (r_move (v := v1) rfl) ?_
   refine l_val rfl rfl rfl (r_move (v := v2) rfl) ?_
   refine l_buildSlice (vs := [v1, v2]) (cs := [v1, v2]) Try.underlying25 Try.sizeOf30 Try.zeroValue30 rfl rfl rfl rfl (by simp only [List.all_cons, List.all_nil, cells_sz f1.cells, cells_sz f2.cells] <;> rfl) rfl (by simp only [List.flatMap_cons, List.flatMap_nil, f1.cells, f2.cells] <;> rfl) (fun b1 => ?_)
   obtain ⟨t30, h_t30, H58⟩ := bnd_some H36; clear H36
   refine l_make (makes_call (rds := [0]) (G := fun x : (Option Addr × Nat) => .slice x.1 t30.length x.2) (C := fun x : (Option Addr × Nat) => rowV 3 1 (.slice x.1 t30.length x.2) t30.length (t30.map e_i64)) (fun w L' hF hS hi => k26 (know_all w) (frn_box (G := gs_int) (sz := 1) (xs := ([a1, a2] : List (List Int))) (i := 0) hS ((hi 0 (by simp)).trans rfl) rfl rfl rfl ⟨(f1.mono (hw.now hF)), (f2.mono (hw.now hF)), rfl⟩) h_t30) Try.call26 rfl) rfl rfl rfl (fun p => ?_)
   refine l_val rfl rfl rfl (r_len Try.underlying30 rfl) ?_
   refine l_val rfl rfl rfl (r_move (v := .int .i64 0) rfl) ?_
   refine l_nil ?_
   refine c_block ?_
   refine c_sel [1] [rowV 3 1 (.slice p.1 t30.length p.2) t30.length (t30.map e_i64)] rfl (by decide) ?_
   refine c_fix (σ := Int) (τ := Unit) (fun next5 s => face_Gap_l5 a0 a1 a2 t30 next5 s) (fun s t => [(0, v0), (1, v1), (2, v2), (30, .slice p.1 t30.length p.2), (31, .int .i64 (t30.length : Int)), (32, .int .i64 s)]) (fun s t => [rowV 3 1 (.slice p.1 t30.length p.2) t30.length (t30.map e_i64)]) (fun s t => True) 0 () [0] H58 (by exact trivial) (by exact ⟨rfl, rfl, rfl, rfl, rfl, rfl, trivial⟩) (by decide) rfl ?_
   rintro x32_2 _ m5 gg H59 _
   clear H58
   replace H59 : face_Gap_l5 a0 a1 a2 t30 (it (fun next5 s => face_Gap_l5 a0 a1 a2 t30 next5 s) m5) x32_2 = some r := H59
   generalize hn5 : it (fun next5 s => face_Gap_l5 a0 a1 a2 t30 next5 s) m5 = next5 at H59
   refine c_tidyF [(0, v0), (1, v1), (2, v2), (30, .slice p.1 t30.length p.2), (31, .int .i64 (t30.length : Int)), (32, .int .i64 x32_2)] [rowV 3 1 (.slice p.1 t30.length p.2) t30.length (t30.map e_i64)] rfl rfl ?_
   refine c_seq ?_
   refine c_region ?_
   refine l_val rfl rfl rfl (r_lss rfl rfl) ?_
   refine l_nil ?_
   refine c_seq ?_
   refine c_if (b := (decide (x32_2 < (t30.length : Int)))) rfl (fun hb => ?_) (fun hb => ?_)
   ·have H60 := cnd_t hb H59; clear H59
    refine c_skip ?_
    refine c_seq ?_
    refine c_block ?_
    refine c_seq ?_
    refine c_region ?_
    obtain ⟨t34, h_t34, H61⟩ := bnd_some H60; clear H60
    refine l_read (fun w hF hS => run_indexO Try.underlying30 Try.sizeOf3 rfl rfl (rowOf (i := 0) hS rfl) rfl h_t34) rfl rfl rfl ?_
    refine l_read (fun w hF hS => run_loadG1 (f := e_i64) (i := x32_2) (sz := 1) (j := 0) (v := .int .i64 t34) Try.isAgg3 rfl rfl (rowOf (i := 0) hS rfl) h_t34 rfl) rfl rfl rfl ?_
    refine l_val rfl rfl rfl (r_assign (v := .int .i64 t34) rfl) ?_
    refine l_nil ?_
    refine c_seq ?_
    refine c_region ?_
    refine l_val rfl rfl rfl (r_move (v := v0) rfl) ?_
    refine l_val rfl rfl rfl (r_move (v := .int .i64 t34) rfl) ?_
    obtain ⟨t39, h_t39, H62⟩ := bnd_some H61; clear H61
    refine l_callG (fun w hF hS => k27 (know_all w) (f0.mono (hw.now hF)) h_t39) Try.call27 rfl rfl rfl ?_
    refine l_val rfl rfl rfl (r_move (v := .tuple #[.int .i64 t39.1, .bool t39.2]) rfl) ?_
    refine l_val rfl rfl rfl (r_extract (v := .int .i64 t39.1) rfl rfl) ?_
    refine l_val rfl rfl rfl (r_extract (v := .bool t39.2) rfl rfl) ?_
    refine l_val rfl rfl rfl (r_assign (v := .int .i64 t39.1) rfl) ?_
    refine l_val rfl rfl rfl (r_assign (v := .bool t39.2) rfl) ?_
    refine l_nil ?_
    refine c_seq ?_
    refine c_region ?_
    refine l_val rfl rfl rfl (r_move (v := .bool t39.2) rfl) ?_
    refine l_val rfl rfl rfl (r_not rfl) ?_
    refine l_nil ?_
    refine c_if (b := (!t39.2)) rfl (fun hb => ?_) (fun hb => ?_)
    ·have H63 := cnd_t hb H62; clear H62
     refine c_seq ?_
     refine c_region ?_
     refine l_val rfl rfl rfl (r_assign (v := .int .i64 0) rfl) ?_
     refine l_val rfl rfl rfl (r_assign (v := .int .i64 7) rfl) ?_
     refine l_nil ?_
     refine c_ret ?_
     obtain rfl := Option.some.inj H63
     refine ret2 (v1 := .int .i64 0) (v2 := .int .i64 7) rfl rfl rfl (fin rfl)
    ·have H64 := cnd_f hb H62; clear H62
     refine c_skip ?_
     refine c_region ?_
     obtain ⟨t44, h_t44, H65⟩ := bnd_some H64; clear H64
     refine l_val rfl rfl rfl (r_addG rfl rfl h_t44) ?_
     refine l_val rfl rfl rfl (r_move (v := .int .i64 t44) rfl) ?_
     refine l_nil ?_
     refine c_close t44 () m5 [0] (by exact ⟨rfl, rfl, rfl, rfl, rfl, rfl, trivial⟩) (by decide) (by kernel_rfl) (by exact ⟨(by subst hn5; exact H65), trivial⟩) (Nat.lt_succ_self _)
   ·have H66 := cnd_f hb H59; clear H59
    refine c_exit ?_
    refine c_close () () 0 [] (by exact ⟨rfl, rfl, rfl, trivial⟩) (by decide) (by kernel_rfl) (by exact ⟨H66, trivial⟩) (Nat.lt_succ_self _)
  ·rintro _ _ gg H37 _
   replace H37 : face_Gap_j1 a0 a1 a2 = some r := H37
   refine c_tidyF [(0, v0), (1, v1), (2, v2)] [] rfl rfl ?_
   refine c_seq ?_
   refine c_seq ?_
   refine c_region ?_
   refine l_val rfl rfl rfl (r_move (v := v1) rfl) ?_
   refine l_val rfl rfl rfl (r_lenF Try.underlying30 rfl f1 rfl) ?_
   refine l_val rfl rfl rfl (r_eql rfl rfl) ?_
   refine l_val rfl rfl rfl (r_move (v := .bool (decide ((a1.length : Int) = 0))) rfl) ?_
   refine split (fun hb => ?_) (fun hb => ?_)
   ·have H38 := cnd_t hb H37; clear H37
    refine l_passed rfl rfl rfl ?_
    refine l_passed rfl rfl rfl ?_
    refine l_passed rfl rfl rfl ?_
    refine l_val rfl rfl rfl (r_pickT (v := .bool true) rfl rfl) ?_
    refine l_nil ?_
    refine c_true rfl ?_
    refine c_seq ?_
    refine c_region ?_
    refine l_val rfl rfl rfl (r_assign (v := .int .i64 0) rfl) ?_
    refine l_val rfl rfl rfl (r_assign (v := .int .i64 7) rfl) ?_
    refine l_nil ?_
    refine c_ret ?_
    obtain rfl := Option.some.inj H38
    refine ret2 (v1 := .int .i64 0) (v2 := .int .i64 7) rfl rfl rfl (fin rfl)
   ·have H39 := cnd_f hb H37; clear H37
    refine l_val rfl rfl rfl (r_move (v := v2) rfl) ?_
    refine l_val rfl rfl rfl (r_lenF Try.underlying30 rfl f2 rfl) ?_
    refine l_val rfl rfl rfl (r_eql rfl rfl) ?_
    refine l_val rfl rfl rfl (r_pickF (v := .bool (decide ((a2.length : Int) = 0))) rfl rfl) ?_
    refine l_nil ?_
    refine c_if (b := (decide ((a2.length : Int) = 0))) rfl (fun hb => ?_) (fun hb => ?_)
    ·have H40 := cnd_t hb H39; clear H39
     refine c_seq ?_
     refine c_region ?_
     refine l_val rfl rfl rfl (r_assign (v := .int .i64 0) rfl) ?_
     refine l_val rfl rfl rfl (r_assign (v := .int .i64 7) rfl) ?_
     refine l_nil ?_
     refine c_ret ?_
     obtain rfl := Option.some.inj H40
     refine ret2 (v1 := .int .i64 0) (v2 := .int .i64 7) rfl rfl rfl (fin rfl)
    ·have H41 := cnd_f hb H39; clear H39
     refine c_skip ?_
     refine c_seq ?_
     refine c_region ?_
     refine l_val rfl rfl rfl (r_assign (v := .int .i64 774192) rfl) ?_
     refine l_nil ?_
     refine c_seq ?_
     refine c_seq ?_
     refine c_region ?_
     refine l_val rfl rfl rfl (r_move (v := v1) rfl) ?_
     refine l_val rfl rfl rfl (r_lenF Try.underlying30 rfl f1 rfl) ?_
     refine l_val rfl rfl rfl (r_move (v := .int .i64 0) rfl) ?_
     refine l_nil ?_
     refine c_block ?_
     refine c_fix (σ := Int × Int) (τ := Unit) (fun next2 s => face_Gap_l2 a0 a1 a2 next2 s.1 s.2) (fun s t => [(0, v0), (2, v2), (13, .int .i64 s.1), (53, v1), (54, .int .i64 (a1.length : Int)), (55, .int .i64 s.2)]) (fun s t => []) (fun s t => True) (774192, 0) () [] H41 (by exact trivial) (by exact ⟨rfl, rfl, rfl, rfl, rfl, rfl, trivial⟩) (by decide) rfl ?_
     rintro ⟨x13_2, x55_2⟩ _ m2 gg H42 _
     clear H41
     replace H42 : face_Gap_l2 a0 a1 a2 (it (fun next2 s => face_Gap_l2 a0 a1 a2 next2 s.1 s.2) m2) x13_2 x55_2 = some r := H42
     generalize hn2 : it (fun next2 s => face_Gap_l2 a0 a1 a2 next2 s.1 s.2) m2 = next2 at H42
     refine c_tidyF [(0, v0), (2, v2), (13, .int .i64 x13_2), (53, v1), (54, .int .i64 (a1.length : Int)), (55, .int .i64 x55_2)] [] rfl rfl ?_
     refine c_seq ?_
     refine c_region ?_
     refine l_val rfl rfl rfl (r_lss rfl rfl) ?_
     refine l_nil ?_
     refine c_seq ?_
     refine c_if (b := (decide (x55_2 < (a1.length : Int)))) rfl (fun hb => ?_) (fun hb => ?_)
     ·have H43 := cnd_t hb H42; clear H42
      refine c_skip ?_
      refine c_meet (r := r) (σ := Int) (τ := Unit) (fun s => face_Gap_j3 x55_2 next2 s) (fun s t => [(0, v0), (2, v2), (13, .int .i64 s), (53, v1), (54, .int .i64 (a1.length : Int)), (55, .int .i64 x55_2)]) (fun s t => []) (fun s t => True) ?_ ?_
      ·refine c_block ?_
       refine c_seq ?_
       refine c_region ?_
       obtain ⟨t57, h_t57, H46⟩ := bnd_some H43; clear H43
       refine l_val rfl rfl rfl (r_indexF Try.underlying30 Try.sizeOf3 rfl rfl f1 h_t57) ?_
       refine l_read (fun w hF hS => run_loadG1 (f := e_i64) (i := x55_2) (sz := 1) (j := 0) (v := .int .i64 t57) Try.isAgg3 rfl rfl (f1.row (hw.now hF)) h_t57 rfl) rfl rfl rfl ?_
       refine l_val rfl rfl rfl (r_assign (v := .int .i64 t57) rfl) ?_
       refine l_nil ?_
       refine c_seq ?_
       refine c_region ?_
       refine l_val rfl rfl rfl (r_move (v := v2) rfl) ?_
       refine l_val rfl rfl rfl (r_lenF Try.underlying30 rfl f2 rfl) ?_
       refine l_val rfl rfl rfl (r_move (v := .int .i64 0) rfl) ?_
       refine l_nil ?_
       refine c_block ?_
       refine c_fix (σ := Int × Int) (τ := Unit) (fun next4 s => face_Gap_l4 a0 a2 x55_2 next2 t57 next4 s.1 s.2) (fun s t => [(0, v0), (2, v2), (13, .int .i64 s.1), (15, .int .i64 t57), (53, v1), (54, .int .i64 (a1.length : Int)), (55, .int .i64 x55_2), (59, v2), (60, .int .i64 (a2.length : Int)), (61, .int .i64 s.2)]) (fun s t => []) (fun s t => True) (x13_2, 0) () [] H46 (by exact trivial) (by exact ⟨rfl, rfl, rfl, rfl, rfl, rfl, rfl, rfl, rfl, rfl, trivial⟩) (by decide) rfl ?_
       rintro ⟨x13_5, x61_2⟩ _ m4 gg H47 _
       clear H46
       replace H47 : face_Gap_l4 a0 a2 x55_2 next2 t57 (it (fun next4 s => face_Gap_l4 a0 a2 x55_2 next2 t57 next4 s.1 s.2) m4) x13_5 x61_2 = some r := H47
       generalize hn4 : it (fun next4 s => face_Gap_l4 a0 a2 x55_2 next2 t57 next4 s.1 s.2) m4 = next4 at H47
       refine c_tidyF [(0, v0), (2, v2), (13, .int .i64 x13_5), (15, .int .i64 t57), (53, v1), (54, .int .i64 (a1.length : Int)), (55, .int .i64 x55_2), (59, v2), (60, .int .i64 (a2.length : Int)), (61, .int .i64 x61_2)] [] rfl rfl ?_
       refine c_seq ?_
       refine c_region ?_
       refine l_val rfl rfl rfl (r_lss rfl rfl) ?_
       refine l_nil ?_
       refine c_seq ?_
       refine c_if (b := (decide (x61_2 < (a2.length : Int)))) rfl (fun hb => ?_) (fun hb => ?_)
       ·have H48 := cnd_t hb H47; clear H47
        refine c_skip ?_
        refine c_seq ?_
        refine c_block ?_
        refine c_seq ?_
        refine c_region ?_
        obtain ⟨t63, h_t63, H49⟩ := bnd_some H48; clear H48
        refine l_val rfl rfl rfl (r_indexF Try.underlying30 Try.sizeOf3 rfl rfl f2 h_t63) ?_
        refine l_read (fun w hF hS => run_loadG1 (f := e_i64) (i := x61_2) (sz := 1) (j := 0) (v := .int .i64 t63) Try.isAgg3 rfl rfl (f2.row (hw.now hF)) h_t63 rfl) rfl rfl rfl ?_
        refine l_val rfl rfl rfl (r_assign (v := .int .i64 t63) rfl) ?_
        refine l_nil ?_
        refine c_seq ?_
        refine c_region ?_
        refine l_val rfl rfl rfl (r_move (v := v0) rfl) ?_
        refine l_val rfl rfl rfl (r_move (v := .int .i64 t57) rfl) ?_
        obtain ⟨t68, h_t68, H50⟩ := bnd_some H49; clear H49
        refine l_callG (fun w hF hS => k27 (know_all w) (f0.mono (hw.now hF)) h_t68) Try.call27 rfl rfl rfl ?_
        refine l_val rfl rfl rfl (r_move (v := .tuple #[.int .i64 t68.1, .bool t68.2]) rfl) ?_
        refine l_val rfl rfl rfl (r_extract (v := .int .i64 t68.1) rfl rfl) ?_
        refine l_val rfl rfl rfl (r_extract (v := .bool t68.2) rfl rfl) ?_
        refine l_val rfl rfl rfl (r_assign (v := .int .i64 t68.1) rfl) ?_
        refine l_val rfl rfl rfl (r_assign (v := .bool t68.2) rfl) ?_
        refine l_nil ?_
        refine c_seq ?_
        refine c_region ?_
        refine l_val rfl rfl rfl (r_move (v := v0) rfl) ?_
        refine l_val rfl rfl rfl (r_move (v := .int .i64 t63) rfl) ?_
        obtain ⟨t74, h_t74, H51⟩ := bnd_some H50; clear H50
        refine l_callG (fun w hF hS => k27 (know_all w) (f0.mono (hw.now hF)) h_t74) Try.call27 rfl rfl rfl ?_
        refine l_val rfl rfl rfl (r_move (v := .tuple #[.int .i64 t74.1, .bool t74.2]) rfl) ?_
        refine l_val rfl rfl rfl (r_extract (v := .int .i64 t74.1) rfl rfl) ?_
        refine l_val rfl rfl rfl (r_extract (v := .bool t74.2) rfl rfl) ?_
        refine l_val rfl rfl rfl (r_assign (v := .int .i64 t74.1) rfl) ?_
        refine l_val rfl rfl rfl (r_assign (v := .bool t74.2) rfl) ?_
        refine l_nil ?_
        exact c_regionD (Kd.p :: Kd.p :: Kd.p :: Kd.p :: Kd.p :: Kd.d [] _ :: Kd.p :: Kd.p :: Kd.p :: Kd.p :: Kd.d [] _ :: Kd.d [] _ :: Kd.p :: Kd.p :: []) 0 mixed (by
         refine d_val rfl rfl (r_move (v := .int .i64 x13_5) rfl) ?_
         refine d_val rfl rfl (r_move (v := v0) rfl) ?_
         refine d_val rfl rfl (r_move (v := .int .i64 t68.1) rfl) ?_
         have h_t80 := bnd_val H51
         have H52 := bnd_rest H51
         refine d_val rfl rfl (r_indexF Try.underlying22 Try.sizeOf64 rfl rfl f0 h_t80) ?_
         refine d_val rfl rfl (r_fieldP Try.runUnderlying64 rfl Try.sizeOf52 rfl rfl (some_of_at f0 h_t80)) ?_
         refine d_read (fun w hF => run_loadGN (f := e_face_Likeness) (i := t68.1) (sz := 14) (j := 2) (vs := [.int .i64 ((val (gAt a0 t68.1)).Vec 0), .int .i64 ((val (gAt a0 t68.1)).Vec 1), .int .i64 ((val (gAt a0 t68.1)).Vec 2), .int .i64 ((val (gAt a0 t68.1)).Vec 3), .int .i64 ((val (gAt a0 t68.1)).Vec 4), .int .i64 ((val (gAt a0 t68.1)).Vec 5), .int .i64 ((val (gAt a0 t68.1)).Vec 6), .int .i64 ((val (gAt a0 t68.1)).Vec 7), .int .i64 ((val (gAt a0 t68.1)).Vec 8), .int .i64 ((val (gAt a0 t68.1)).Vec 9), .int .i64 ((val (gAt a0 t68.1)).Vec 10), .int .i64 ((val (gAt a0 t68.1)).Vec 11)]) Try.isAgg52 Try.sizeOf52 rfl rfl (f0.row (hw.now hF)) h_t80 rfl) rfl rfl ?_
         refine d_val rfl rfl (r_move (v := v0) rfl) ?_
         refine d_val rfl rfl (r_move (v := .int .i64 t74.1) rfl) ?_
         have h_t85 := bnd_val H52
         have H53 := bnd_rest H52
         refine d_val rfl rfl (r_indexF Try.underlying22 Try.sizeOf64 rfl rfl f0 h_t85) ?_
         refine d_val rfl rfl (r_fieldP Try.runUnderlying64 rfl Try.sizeOf52 rfl rfl (some_of_at f0 h_t85)) ?_
         refine d_read (fun w hF => run_loadGN (f := e_face_Likeness) (i := t74.1) (sz := 14) (j := 2) (vs := [.int .i64 ((val (gAt a0 t74.1)).Vec 0), .int .i64 ((val (gAt a0 t74.1)).Vec 1), .int .i64 ((val (gAt a0 t74.1)).Vec 2), .int .i64 ((val (gAt a0 t74.1)).Vec 3), .int .i64 ((val (gAt a0 t74.1)).Vec 4), .int .i64 ((val (gAt a0 t74.1)).Vec 5), .int .i64 ((val (gAt a0 t74.1)).Vec 6), .int .i64 ((val (gAt a0 t74.1)).Vec 7), .int .i64 ((val (gAt a0 t74.1)).Vec 8), .int .i64 ((val (gAt a0 t74.1)).Vec 9), .int .i64 ((val (gAt a0 t74.1)).Vec 10), .int .i64 ((val (gAt a0 t74.1)).Vec 11)]) Try.isAgg52 Try.sizeOf52 rfl rfl (f0.row (hw.now hF)) h_t85 rfl) rfl rfl ?_
         have h_t88 := bnd_val H53
         have H54 := bnd_rest H53
         refine d_call (k28 h_t88) Try.call28 rfl rfl ?_
         refine d_val rfl rfl (r_min rfl rfl) ?_
         refine d_val rfl rfl (r_assign (v := .int .i64 (min x13_5 (val (face_far (val (gAt a0 t68.1)).Vec (val (gAt a0 t74.1)).Vec)))) rfl) ?_
         refine d_nil ?_
         refine c_region ?_
         obtain ⟨t90, h_t90, H55⟩ := bnd_some H54; clear H54
         refine l_val rfl rfl rfl (r_addG rfl rfl h_t90) ?_
         refine l_val rfl rfl rfl (r_move (v := .int .i64 t90) rfl) ?_
         refine l_nil ?_
         refine c_close ((min x13_5 (val (face_far (val (gAt a0 t68.1)).Vec (val (gAt a0 t74.1)).Vec))), t90) () m4 [] (by exact ⟨rfl, rfl, rfl, rfl, rfl, rfl, rfl, rfl, rfl, rfl, trivial⟩) (by decide) (by kernel_rfl) (by exact ⟨(by subst hn4; exact H55), trivial⟩) (Nat.lt_succ_self _)
         ) (by kernel_rfl)
       ·have H56 := cnd_f hb H47; clear H47
        refine c_exit ?_
        refine c_close x13_5 () 0 [] (by exact ⟨rfl, rfl, rfl, rfl, rfl, rfl, trivial⟩) (by decide) (by kernel_rfl) (by exact ⟨H56, trivial⟩) (Nat.lt_succ_self _)
      ·rintro x13_3 _ gg H44 _
       replace H44 : face_Gap_j3 x55_2 next2 x13_3 = some r := H44
       refine c_tidyF [(0, v0), (2, v2), (13, .int .i64 x13_3), (53, v1), (54, .int .i64 (a1.length : Int)), (55, .int .i64 x55_2)] [] rfl rfl ?_
       refine c_region ?_
       obtain ⟨t91, h_t91, H45⟩ := bnd_some H44; clear H44
       refine l_val rfl rfl rfl (r_addG rfl rfl h_t91) ?_
       refine l_val rfl rfl rfl (r_move (v := .int .i64 t91) rfl) ?_
       refine l_nil ?_
       refine c_close (x13_3, t91) () m2 [] (by exact ⟨rfl, rfl, rfl, rfl, rfl, rfl, trivial⟩) (by decide) (by kernel_rfl) (by exact ⟨(by subst hn2; exact H45), trivial⟩) (Nat.lt_succ_self _)
     ·have H57 := cnd_f hb H42; clear H42
      refine c_exit ?_
      refine c_seq ?_
      refine c_region ?_
      refine l_val rfl rfl rfl (r_move (v := .int .i64 x13_2) rfl) ?_
      refine l_val rfl rfl rfl (r_assign (v := .int .i64 x13_2) rfl) ?_
      refine l_val rfl rfl rfl (r_assign (v := .int .i64 0) rfl) ?_
      refine l_nil ?_
      refine c_ret ?_
      obtain rfl := Option.some.inj H57
      refine ret2 (v1 := .int .i64 x13_2) (v2 := .int .i64 0) rfl rfl rfl (fin rfl)
theorem k3 {a0 : (List T_face_Likeness)} {v0 : Value} {a1 : (List T_face_Bond)} {v1 : Value} {a2 : Int} {r : Bool} {w : World} {h : Heap} (hw : Know h w noS) (f0 : FrS h 14 v0 (a0.map e_face_Likeness)) (f1 : FrS h 3 v1 (a1.map e_face_Bond)) (H : Keep_FaceClusters a0 a1 a2 = some r) : Does Try.prog 3 (List.toArray [v0, v1, .int .i64 a2]) w (fun v w' => v = (.bool r) ∧ Grow w w') := by
 refine enter (n := 164) Try.func3 rfl rfl rfl noS [] (Sat.nil _ _) ?_
 refine c_poolNew noH ?_
 refine c_seq ?_
 refine c_region ?_
 refine l_val rfl rfl rfl (r_assign (v := .bool false) rfl) ?_
 refine l_nil ?_
 refine c_seq ?_
 refine c_seq ?_
 refine c_region ?_
 obtain ⟨t25, h_t25, H67⟩ := bnd_some H; clear H
 refine l_call (k5 h_t25) Try.call5 rfl rfl rfl ?_
 refine l_val rfl rfl rfl (r_not rfl) ?_
 refine l_nil ?_
 refine c_if (b := (!t25)) rfl (fun hb => ?_) (fun hb => ?_)
 ·have H68 := cnd_t hb H67; clear H67
  refine c_seq ?_
  refine c_region ?_
  refine l_val rfl rfl rfl (r_assign (v := .bool false) rfl) ?_
  refine l_nil ?_
  refine c_ret ?_
  obtain rfl := Option.some.inj H68
  refine ret1 (v := .bool false) rfl rfl (fin rfl)
 ·have H69 := cnd_f hb H67; clear H67
  refine c_skip ?_
  refine c_seq ?_
  refine c_region ?_
  refine l_val rfl rfl rfl (r_move (v := v0) rfl) ?_
  refine l_val rfl rfl rfl (r_move (v := v1) rfl) ?_
  refine l_val rfl rfl rfl (r_move (v := .int .i64 a2) rfl) ?_
  obtain ⟨t31, h_t31, H70⟩ := bnd_some H69; clear H69
  refine l_make (makes_call (rds := []) (G := fun x : (Option Addr × Nat) => .tuple #[.slice x.1 t31.1.length x.2, .int .i64 t31.2]) (C := fun x : (Option Addr × Nat) => roD 1 gs_int (.slice x.1 t31.1.length x.2) t31.1.length t31.1) (fun w L' hF hS hi => k6 (know_all w) (f0.mono (hw.now hF)) (f1.mono (hw.now hF)) h_t31) Try.call6 rfl) rfl rfl rfl (fun p => ?_)
  refine c_roD 1 rfl (fun hp css hn pf => ?_)
  refine c_split 1 rfl ?_
  refine c_poolJoin 0 1 rfl rfl (by decide) (fun _ _ => noH_le) (fun hp_2 hle hle_2 => ?_)
  refine l_val rfl rfl rfl (r_move (v := .tuple #[.slice p.1 t31.1.length p.2, .int .i64 t31.2]) rfl) ?_
  refine l_val rfl rfl rfl (r_extract (v := .slice p.1 t31.1.length p.2) rfl rfl) ?_
  refine l_val rfl rfl rfl (r_extract (v := .int .i64 t31.2) rfl rfl) ?_
  refine l_val rfl rfl rfl (r_assign (v := .slice p.1 t31.1.length p.2) rfl) ?_
  refine l_val rfl rfl rfl (r_assign (v := .int .i64 t31.2) rfl) ?_
  refine l_nil ?_
  refine c_sel [0, 1, 2] [poolC noH hp_2, _, roV 1 (.slice p.1 t31.1.length p.2) t31.1.length (css.map idC)] rfl (by decide) ?_
  refine c_seq ?_
  refine c_seq ?_
  refine c_region ?_
  refine l_val rfl rfl rfl (r_move (v := .int .i64 t31.2) rfl) ?_
  refine l_val rfl rfl rfl (r_neq rfl rfl) ?_
  refine l_nil ?_
  refine c_sel [0, 1, 2] [poolC noH hp_2, _, roV 1 (.slice p.1 t31.1.length p.2) t31.1.length (css.map idC)] rfl (by decide) ?_
  refine c_if (b := (decide (t31.2 ≠ 0))) rfl (fun hb => ?_) (fun hb => ?_)
  ·have H71 := cnd_t hb H70; clear H70
   refine c_seq ?_
   refine c_region ?_
   refine l_val rfl rfl rfl (r_assign (v := .bool true) rfl) ?_
   refine l_nil ?_
   refine c_sel [0, 1, 2] [poolC noH hp_2, _, roV 1 (.slice p.1 t31.1.length p.2) t31.1.length (css.map idC)] rfl (by decide) ?_
   refine c_ret ?_
   obtain rfl := Option.some.inj H71
   refine ret1 (v := .bool true) rfl rfl (fin rfl)
  ·have H72 := cnd_f hb H70; clear H70
   refine c_skip ?_
   refine c_seq ?_
   refine c_region ?_
   refine l_make (rds := []) (makes_map (fk := (fun x_ : Int => .int .i64 x_)) (fv := (fun x_ : Int => .int .i64 x_))) rfl rfl rfl (fun b3 => ?_)
   refine l_val rfl rfl rfl (r_assign (v := .map (some b3)) rfl) ?_
   refine l_nil ?_
   refine c_sel [0, 1, 2, 3] [poolC noH hp_2, _, roV 1 (.slice p.1 t31.1.length p.2) t31.1.length (css.map idC), mapC (fun x_ : Int => .int .i64 x_) (fun x_ : Int => .int .i64 x_) b3 ([] : (List (Int × Int)))] rfl (by decide) ?_
   refine c_meet (r := r) (σ := (List (Int × Int))) (τ := Unit) (fun s => Keep_FaceClusters_j1 a0 a1 a2 t31 s) (fun s t => [(0, v0), (1, v1), (2, .int .i64 a2), (7, .slice p.1 t31.1.length p.2), (9, .map (some b3))]) (fun s t => [poolC noH hp_2, roV 1 (.slice p.1 t31.1.length p.2) t31.1.length (css.map idC), mapC (fun x_ : Int => .int .i64 x_) (fun x_ : Int => .int .i64 x_) b3 s]) (fun s t => AllC gs_int hp_2 1 css t31.1) ?_ ?_
   ·refine c_seq ?_
    refine c_region ?_
    refine l_val rfl rfl rfl (r_move (v := .slice p.1 t31.1.length p.2) rfl) ?_
    refine l_val rfl rfl rfl (r_len Try.underlying25 rfl) ?_
    refine l_val rfl rfl rfl (r_move (v := .int .i64 0) rfl) ?_
    refine l_nil ?_
    refine c_sel [0, 1, 2, 3] [poolC noH hp_2, _, roV 1 (.slice p.1 t31.1.length p.2) t31.1.length (css.map idC), mapC (fun x_ : Int => .int .i64 x_) (fun x_ : Int => .int .i64 x_) b3 ([] : (List (Int × Int)))] rfl (by decide) ?_
    refine c_block ?_
    refine c_sel [0, 2, 3] [poolC noH hp_2, roV 1 (.slice p.1 t31.1.length p.2) t31.1.length (css.map idC), mapC (fun x_ : Int => .int .i64 x_) (fun x_ : Int => .int .i64 x_) b3 ([] : (List (Int × Int)))] rfl (by decide) ?_
    refine c_fix (σ := Int × (List (Int × Int))) (τ := Unit) (fun next9 s => Keep_FaceClusters_l9 a0 a1 a2 t31 next9 s.1 s.2) (fun s t => [(0, v0), (1, v1), (2, .int .i64 a2), (7, .slice p.1 t31.1.length p.2), (9, .map (some b3)), (37, .slice p.1 t31.1.length p.2), (38, .int .i64 (t31.1.length : Int)), (39, .int .i64 s.1)]) (fun s t => [poolC noH hp_2, roV 1 (.slice p.1 t31.1.length p.2) t31.1.length (css.map idC), mapC (fun x_ : Int => .int .i64 x_) (fun x_ : Int => .int .i64 x_) b3 s.2]) (fun s t => True) (0, ([] : (List (Int × Int)))) () [0, 1, 2] H72 (by exact trivial) (by exact ⟨rfl, rfl, rfl, rfl, rfl, rfl, rfl, rfl, trivial⟩) (by decide) rfl ?_
    rintro ⟨x39_2, mp_7⟩ _ m9 gg H106 _
    clear H72
    replace H106 : Keep_FaceClusters_l9 a0 a1 a2 t31 (it (fun next9 s => Keep_FaceClusters_l9 a0 a1 a2 t31 next9 s.1 s.2) m9) x39_2 mp_7 = some r := H106
    generalize hn9 : it (fun next9 s => Keep_FaceClusters_l9 a0 a1 a2 t31 next9 s.1 s.2) m9 = next9 at H106
    refine c_tidyF [(0, v0), (1, v1), (2, .int .i64 a2), (7, .slice p.1 t31.1.length p.2), (9, .map (some b3)), (37, .slice p.1 t31.1.length p.2), (38, .int .i64 (t31.1.length : Int)), (39, .int .i64 x39_2)] [poolC noH hp_2, roV 1 (.slice p.1 t31.1.length p.2) t31.1.length (css.map idC), mapC (fun x_ : Int => .int .i64 x_) (fun x_ : Int => .int .i64 x_) b3 mp_7] rfl rfl ?_
    refine c_seq ?_
    refine c_region ?_
    refine l_val rfl rfl rfl (r_lss rfl rfl) ?_
    refine l_nil ?_
    refine c_sel [0, 1, 2] [poolC noH hp_2, roV 1 (.slice p.1 t31.1.length p.2) t31.1.length (css.map idC), mapC (fun x_ : Int => .int .i64 x_) (fun x_ : Int => .int .i64 x_) b3 mp_7] rfl (by decide) ?_
    refine c_seq ?_
    refine c_if (b := (decide (x39_2 < (t31.1.length : Int)))) rfl (fun hb => ?_) (fun hb => ?_)
    ·have H107 := cnd_t hb H106; clear H106
     refine c_skip ?_
     refine c_meet (r := r) (σ := (List Int) × Bool × Bool × Bool × Bool × (List (Int × Int))) (τ := Value) (fun s => Keep_FaceClusters_j10 x39_2 next9 s.1 s.2.1 s.2.2.1 s.2.2.2.1 s.2.2.2.2.1 s.2.2.2.2.2) (fun s t => [(0, v0), (1, v1), (2, .int .i64 a2), (7, .slice p.1 t31.1.length p.2), (9, .map (some b3)), (37, .slice p.1 t31.1.length p.2), (38, .int .i64 (t31.1.length : Int)), (39, .int .i64 x39_2), (48, t), (49, .bool s.2.1), (50, .bool s.2.2.1), (53, .int .i64 x39_2), (54, .bool (decide (0 < x39_2))), (55, .bool s.2.2.2.1), (67, .bool s.2.2.2.2.1)]) (fun s t => [poolC noH hp_2, roV 1 (.slice p.1 t31.1.length p.2) t31.1.length (css.map idC), mapC (fun x_ : Int => .int .i64 x_) (fun x_ : Int => .int .i64 x_) b3 s.2.2.2.2.2]) (fun s t => FrS hp_2 1 t (s.1.map e_i64)) ?_ ?_
     ·refine c_block ?_
      refine c_seq ?_
      refine c_region ?_
      refine l_val rfl rfl rfl (r_move (v := .int .i64 x39_2) rfl) ?_
      obtain ⟨t42, h_t42, H110⟩ := bnd_some H107; clear H107
      refine l_read (fun w hF hS => run_indexO Try.underlying25 Try.sizeOf30 rfl rfl (roOf (i := 1) hS rfl) hn ((pf.mono hle_2).ix h_t42)) rfl rfl rfl ?_
      refine l_read (fun w hF hS => run_loadG1 (f := idC) (i := x39_2) (sz := 1) (j := 0) (v := (List.getD (List.getD css (Int.toNat x39_2) []) 0 undef)) Try.isAgg30 rfl rfl (roOf (i := 1) hS rfl) ((pf.mono hle_2).ix h_t42) (rg_of (((pf.mono hle_2).eta h_t42).trans (cgs_int ((pf.mono hle_2).at h_t42))) rfl)) rfl rfl rfl ?_
      refine l_val rfl rfl rfl (r_assign (v := .int .i64 x39_2) rfl) ?_
      refine l_val rfl rfl rfl (r_assign (v := (List.getD (List.getD css (Int.toNat x39_2) []) 0 undef)) rfl) ?_
      refine l_nil ?_
      refine c_sel [0, 1, 2] [poolC noH hp_2, roV 1 (.slice p.1 t31.1.length p.2) t31.1.length (css.map idC), mapC (fun x_ : Int => .int .i64 x_) (fun x_ : Int => .int .i64 x_) b3 mp_7] rfl (by decide) ?_
      refine c_meet (r := r) (σ := Bool × Bool × Bool × Bool) (τ := Unit) (fun s => Keep_FaceClusters_j11 x39_2 mp_7 next9 t42 s.1 s.2.1 s.2.2.1 s.2.2.2) (fun s t => [(0, v0), (1, v1), (2, .int .i64 a2), (7, .slice p.1 t31.1.length p.2), (9, .map (some b3)), (10, .int .i64 x39_2), (11, (List.getD (List.getD css (Int.toNat x39_2) []) 0 undef)), (37, .slice p.1 t31.1.length p.2), (38, .int .i64 (t31.1.length : Int)), (39, .int .i64 x39_2), (48, (List.getD (List.getD css (Int.toNat x39_2) []) 0 undef)), (49, .bool s.1), (50, .bool s.2.1), (53, .int .i64 x39_2), (54, .bool (decide (0 < x39_2))), (55, .bool s.2.2.1), (67, .bool s.2.2.2)]) (fun s t => [poolC noH hp_2, roV 1 (.slice p.1 t31.1.length p.2) t31.1.length (css.map idC), mapC (fun x_ : Int => .int .i64 x_) (fun x_ : Int => .int .i64 x_) b3 mp_7]) (fun s t => True) ?_ ?_
      ·refine c_seq ?_
       exact c_regionD (Kd.p :: Kd.p :: Kd.p :: Kd.p :: Kd.p :: Kd.d [0] _ :: Kd.p :: Kd.p :: Kd.p :: Kd.p :: Kd.p :: Kd.p :: Kd.p :: Kd.p :: Kd.p :: Kd.d [1] _ :: Kd.d [1] _ :: Kd.p :: Kd.d [0] _ :: Kd.p :: Kd.p :: Kd.d [0] _ :: Kd.p :: Kd.p :: Kd.p :: []) 0 mixed (by
        refine d_val rfl rfl (r_move (v := (List.getD (List.getD css (Int.toNat x39_2) []) 0 undef)) rfl) ?_
        refine d_val rfl rfl (r_lenF Try.underlying30 rfl (show FrS hp_2 1 (List.getD (List.getD css (Int.toNat x39_2) []) 0 undef) (t42.map e_i64) from ((pf.mono hle_2).at h_t42)) rfl) ?_
        refine d_val rfl rfl (r_eql rfl rfl) ?_
        refine d_val rfl rfl (r_move (v := .bool (decide ((t42.length : Int) = 0))) rfl) ?_
        refine splitS (fun hb => ?_) (fun hb => ?_)
        ·have H119 := cnd_t hb H110
         refine d_pass rfl rfl ?_
         refine d_pass rfl rfl ?_
         refine d_pass rfl rfl ?_
         refine d_val rfl rfl (r_pickT (v := .bool true) rfl rfl) ?_
         refine d_val rfl rfl (r_move (v := .bool true) rfl) ?_
         refine d_pass rfl rfl ?_
         refine d_pass rfl rfl ?_
         refine d_pass rfl rfl ?_
         refine d_pass rfl rfl ?_
         refine d_pass rfl rfl ?_
         refine d_pass rfl rfl ?_
         refine d_pass rfl rfl ?_
         refine d_pass rfl rfl ?_
         refine d_pass rfl rfl ?_
         refine d_pass rfl rfl ?_
         refine d_pass rfl rfl ?_
         refine d_pass rfl rfl ?_
         refine d_pass rfl rfl ?_
         refine d_pass rfl rfl ?_
         refine d_pass rfl rfl ?_
         refine d_val rfl rfl (r_pickT (v := .bool true) rfl rfl) ?_
         refine d_nil ?_
         refine c_sel [0, 1, 2] [poolC noH hp_2, roV 1 (.slice p.1 t31.1.length p.2) t31.1.length (css.map idC), mapC (fun x_ : Int => .int .i64 x_) (fun x_ : Int => .int .i64 x_) b3 mp_7] rfl (by decide) ?_
         refine c_true rfl ?_
         refine c_seq ?_
         refine c_region ?_
         refine l_val rfl rfl rfl (r_assign (v := .bool false) rfl) ?_
         refine l_nil ?_
         refine c_sel [0, 1, 2] [poolC noH hp_2, roV 1 (.slice p.1 t31.1.length p.2) t31.1.length (css.map idC), mapC (fun x_ : Int => .int .i64 x_) (fun x_ : Int => .int .i64 x_) b3 mp_7] rfl (by decide) ?_
         refine c_ret ?_
         obtain rfl := Option.some.inj H119
         refine ret1 (v := .bool false) rfl rfl (fin rfl)
        ·have H120 := cnd_f hb H110
         refine d_val rfl rfl (r_move (v := (List.getD (List.getD css (Int.toNat x39_2) []) 0 undef)) rfl) ?_
         have h_t49 := bnd_val H120
         have H121 := bnd_rest H120
         refine d_callD (fun w L' hF hS hi => k7 (know_all w) ((show FrS hp_2 1 (List.getD (List.getD css (Int.toNat x39_2) []) 0 undef) (t42.map e_i64) from ((pf.mono hle_2).at h_t42)).mono (pool_now (i := 0) hS ((hi 0 (by simp)).trans rfl) noH_le)) h_t49) Try.call7 rfl rfl ?_
         refine d_val rfl rfl (r_not rfl) ?_
         refine d_val rfl rfl (r_pickF (v := .bool (!(val (slices_IsSorted_int t42)))) rfl rfl) ?_
         refine d_val rfl rfl (r_move (v := .bool (!(val (slices_IsSorted_int t42)))) rfl) ?_
         refine splitS (fun hb => ?_) (fun hb => ?_)
         ·have H122 := cnd_t hb H121
          refine d_pass rfl rfl ?_
          refine d_pass rfl rfl ?_
          refine d_pass rfl rfl ?_
          refine d_pass rfl rfl ?_
          refine d_pass rfl rfl ?_
          refine d_pass rfl rfl ?_
          refine d_pass rfl rfl ?_
          refine d_pass rfl rfl ?_
          refine d_pass rfl rfl ?_
          refine d_pass rfl rfl ?_
          refine d_pass rfl rfl ?_
          refine d_pass rfl rfl ?_
          refine d_pass rfl rfl ?_
          refine d_pass rfl rfl ?_
          refine d_pass rfl rfl ?_
          refine d_val rfl rfl (r_pickT (v := .bool true) rfl rfl) ?_
          refine d_nil ?_
          refine c_sel [0, 1, 2] [poolC noH hp_2, roV 1 (.slice p.1 t31.1.length p.2) t31.1.length (css.map idC), mapC (fun x_ : Int => .int .i64 x_) (fun x_ : Int => .int .i64 x_) b3 mp_7] rfl (by decide) ?_
          refine c_true rfl ?_
          refine c_seq ?_
          refine c_region ?_
          refine l_val rfl rfl rfl (r_assign (v := .bool false) rfl) ?_
          refine l_nil ?_
          refine c_sel [0, 1, 2] [poolC noH hp_2, roV 1 (.slice p.1 t31.1.length p.2) t31.1.length (css.map idC), mapC (fun x_ : Int => .int .i64 x_) (fun x_ : Int => .int .i64 x_) b3 mp_7] rfl (by decide) ?_
          refine c_ret ?_
          obtain rfl := Option.some.inj H122
          refine ret1 (v := .bool false) rfl rfl (fin rfl)
         ·have H123 := cnd_f hb H121
          refine d_val rfl rfl (r_move (v := .int .i64 x39_2) rfl) ?_
          refine d_val rfl rfl (r_gtr rfl rfl) ?_
          refine d_val rfl rfl (r_move (v := .bool (decide (0 < x39_2))) rfl) ?_
          refine splitS (fun hb => ?_) (fun hb => ?_)
          ·have H124 := cnd_t hb H123
           refine d_val rfl rfl (r_move (v := .slice p.1 t31.1.length p.2) rfl) ?_
           refine d_val rfl rfl (r_move (v := .int .i64 x39_2) rfl) ?_
           have h_t58 := bnd_val H124
           have H125 := bnd_rest H124
           refine d_val rfl rfl (r_subG rfl rfl h_t58) ?_
           have h_t59 := bnd_val H125
           have H126 := bnd_rest H125
           refine d_readD (fun w L' hF hS hi => run_indexO Try.underlying25 Try.sizeOf30 rfl rfl (roOf (i := 1) hS ((hi 1 (by simp)).trans rfl)) hn ((pf.mono hle_2).ix h_t59)) rfl rfl ?_
           refine d_readD (fun w L' hF hS hi => run_loadG1 (f := idC) (i := (val (gI (x39_2 - 1)))) (sz := 1) (j := 0) (v := (List.getD (List.getD css (Int.toNat (val (gI (x39_2 - 1)))) []) 0 undef)) Try.isAgg30 rfl rfl (roOf (i := 1) hS ((hi 1 (by simp)).trans rfl)) ((pf.mono hle_2).ix h_t59) (rg_of (((pf.mono hle_2).eta h_t59).trans (cgs_int ((pf.mono hle_2).at h_t59))) rfl)) rfl rfl ?_
           have h_t61 := bnd_val H126
           have H127 := bnd_rest H126
           refine d_val rfl rfl (r_indexF Try.underlying30 Try.sizeOf3 rfl rfl (show FrS hp_2 1 (List.getD (List.getD css (Int.toNat (val (gI (x39_2 - 1)))) []) 0 undef) ((val (gAt t31.1 (val (gI (x39_2 - 1))))).map e_i64) from ((pf.mono hle_2).at h_t59)) h_t61) ?_
           refine d_readD (fun w L' hF hS hi => run_loadG1 (f := e_i64) (i := 0) (sz := 1) (j := 0) (v := .int .i64 (val (gAt (val (gAt t31.1 (val (gI (x39_2 - 1))))) 0))) Try.isAgg3 rfl rfl ((show FrS hp_2 1 (List.getD (List.getD css (Int.toNat (val (gI (x39_2 - 1)))) []) 0 undef) ((val (gAt t31.1 (val (gI (x39_2 - 1))))).map e_i64) from ((pf.mono hle_2).at h_t59)).row (pool_now (i := 0) hS ((hi 0 (by simp)).trans rfl) noH_le)) h_t61 rfl) rfl rfl ?_
           refine d_val rfl rfl (r_move (v := (List.getD (List.getD css (Int.toNat x39_2) []) 0 undef)) rfl) ?_
           have h_t64 := bnd_val H127
           have H128 := bnd_rest H127
           refine d_val rfl rfl (r_indexF Try.underlying30 Try.sizeOf3 rfl rfl (show FrS hp_2 1 (List.getD (List.getD css (Int.toNat x39_2) []) 0 undef) (t42.map e_i64) from ((pf.mono hle_2).at h_t42)) h_t64) ?_
           refine d_readD (fun w L' hF hS hi => run_loadG1 (f := e_i64) (i := 0) (sz := 1) (j := 0) (v := .int .i64 (val (gAt t42 0))) Try.isAgg3 rfl rfl ((show FrS hp_2 1 (List.getD (List.getD css (Int.toNat x39_2) []) 0 undef) (t42.map e_i64) from ((pf.mono hle_2).at h_t42)).row (pool_now (i := 0) hS ((hi 0 (by simp)).trans rfl) noH_le)) h_t64 rfl) rfl rfl ?_
           refine d_val rfl rfl (r_geq rfl rfl) ?_
           refine d_val rfl rfl (r_pickT (v := .bool (decide ((val (gAt t42 0)) ≤ (val (gAt (val (gAt t31.1 (val (gI (x39_2 - 1))))) 0))))) rfl rfl) ?_
           refine d_val rfl rfl (r_pickF (v := .bool (decide ((val (gAt t42 0)) ≤ (val (gAt (val (gAt t31.1 (val (gI (x39_2 - 1))))) 0))))) rfl rfl) ?_
           refine d_nil ?_
           refine c_sel [0, 1, 2] [poolC noH hp_2, roV 1 (.slice p.1 t31.1.length p.2) t31.1.length (css.map idC), mapC (fun x_ : Int => .int .i64 x_) (fun x_ : Int => .int .i64 x_) b3 mp_7] rfl (by decide) ?_
           refine c_if (b := (decide ((val (gAt t42 0)) ≤ (val (gAt (val (gAt t31.1 (val (gI (x39_2 - 1))))) 0))))) rfl (fun hb => ?_) (fun hb => ?_)
           ·have H129 := cnd_t hb H128; clear H128
            refine c_seq ?_
            refine c_region ?_
            refine l_val rfl rfl rfl (r_assign (v := .bool false) rfl) ?_
            refine l_nil ?_
            refine c_sel [0, 1, 2] [poolC noH hp_2, roV 1 (.slice p.1 t31.1.length p.2) t31.1.length (css.map idC), mapC (fun x_ : Int => .int .i64 x_) (fun x_ : Int => .int .i64 x_) b3 mp_7] rfl (by decide) ?_
            refine c_ret ?_
            obtain rfl := Option.some.inj H129
            refine ret1 (v := .bool false) rfl rfl (fin rfl)
           ·have H130 := cnd_f hb H128; clear H128
            refine c_skip ?_
            refine c_close ((val (slices_IsSorted_int t42)), (!(val (slices_IsSorted_int t42))), true, (decide ((val (gAt t42 0)) ≤ (val (gAt (val (gAt t31.1 (val (gI (x39_2 - 1))))) 0))))) () 0 [0, 1, 2] (by exact ⟨rfl, rfl, rfl, rfl, rfl, rfl, rfl, rfl, rfl, rfl, rfl, rfl, rfl, rfl, rfl, rfl, rfl, trivial⟩) (by decide) (by kernel_rfl) (by exact ⟨H130, trivial⟩) (Nat.lt_succ_self _)
          ·have H131 := cnd_f hb H123
           refine d_pass rfl rfl ?_
           refine d_pass rfl rfl ?_
           refine d_pass rfl rfl ?_
           refine d_pass rfl rfl ?_
           refine d_pass rfl rfl ?_
           refine d_pass rfl rfl ?_
           refine d_pass rfl rfl ?_
           refine d_pass rfl rfl ?_
           refine d_pass rfl rfl ?_
           refine d_pass rfl rfl ?_
           refine d_pass rfl rfl ?_
           refine d_val rfl rfl (r_pickF (v := .bool false) rfl rfl) ?_
           refine d_val rfl rfl (r_pickF (v := .bool false) rfl rfl) ?_
           refine d_nil ?_
           refine c_sel [0, 1, 2] [poolC noH hp_2, roV 1 (.slice p.1 t31.1.length p.2) t31.1.length (css.map idC), mapC (fun x_ : Int => .int .i64 x_) (fun x_ : Int => .int .i64 x_) b3 mp_7] rfl (by decide) ?_
           refine c_false rfl ?_
           refine c_skip ?_
           refine c_close ((val (slices_IsSorted_int t42)), (!(val (slices_IsSorted_int t42))), false, false) () 0 [0, 1, 2] (by exact ⟨rfl, rfl, rfl, rfl, rfl, rfl, rfl, rfl, rfl, rfl, rfl, rfl, rfl, rfl, rfl, rfl, rfl, trivial⟩) (by decide) (by kernel_rfl) (by exact ⟨H131, trivial⟩) (Nat.lt_succ_self _)
        ) (by kernel_rfl)
      ·rintro ⟨x49_2, x50_2, x55_2, x67_2⟩ _ gg H111 _
       replace H111 : Keep_FaceClusters_j11 x39_2 mp_7 next9 t42 x49_2 x50_2 x55_2 x67_2 = some r := H111
       refine c_tidyF [(0, v0), (1, v1), (2, .int .i64 a2), (7, .slice p.1 t31.1.length p.2), (9, .map (some b3)), (10, .int .i64 x39_2), (11, (List.getD (List.getD css (Int.toNat x39_2) []) 0 undef)), (37, .slice p.1 t31.1.length p.2), (38, .int .i64 (t31.1.length : Int)), (39, .int .i64 x39_2), (48, (List.getD (List.getD css (Int.toNat x39_2) []) 0 undef)), (49, .bool x49_2), (50, .bool x50_2), (53, .int .i64 x39_2), (54, .bool (decide (0 < x39_2))), (55, .bool x55_2), (67, .bool x67_2)] [poolC noH hp_2, roV 1 (.slice p.1 t31.1.length p.2) t31.1.length (css.map idC), mapC (fun x_ : Int => .int .i64 x_) (fun x_ : Int => .int .i64 x_) b3 mp_7] rfl rfl ?_
       refine c_seq ?_
       refine c_region ?_
       refine l_val rfl rfl rfl (r_move (v := (List.getD (List.getD css (Int.toNat x39_2) []) 0 undef)) rfl) ?_
       refine l_val rfl rfl rfl (r_lenF Try.underlying30 rfl (show FrS hp_2 1 (List.getD (List.getD css (Int.toNat x39_2) []) 0 undef) (t42.map e_i64) from ((pf.mono hle_2).at h_t42)) rfl) ?_
       refine l_val rfl rfl rfl (r_move (v := .int .i64 0) rfl) ?_
       refine l_nil ?_
       refine c_sel [0, 1, 2] [poolC noH hp_2, roV 1 (.slice p.1 t31.1.length p.2) t31.1.length (css.map idC), mapC (fun x_ : Int => .int .i64 x_) (fun x_ : Int => .int .i64 x_) b3 mp_7] rfl (by decide) ?_
       refine c_block ?_
       refine c_fix (σ := Int × (List (Int × Int))) (τ := Unit) (fun next12 s => Keep_FaceClusters_l12 x39_2 next9 t42 x49_2 x50_2 x55_2 x67_2 next12 s.1 s.2) (fun s t => [(0, v0), (1, v1), (2, .int .i64 a2), (7, .slice p.1 t31.1.length p.2), (9, .map (some b3)), (10, .int .i64 x39_2), (37, .slice p.1 t31.1.length p.2), (38, .int .i64 (t31.1.length : Int)), (39, .int .i64 x39_2), (48, (List.getD (List.getD css (Int.toNat x39_2) []) 0 undef)), (49, .bool x49_2), (50, .bool x50_2), (53, .int .i64 x39_2), (54, .bool (decide (0 < x39_2))), (55, .bool x55_2), (67, .bool x67_2), (69, (List.getD (List.getD css (Int.toNat x39_2) []) 0 undef)), (70, .int .i64 (t42.length : Int)), (71, .int .i64 s.1)]) (fun s t => [poolC noH hp_2, roV 1 (.slice p.1 t31.1.length p.2) t31.1.length (css.map idC), mapC (fun x_ : Int => .int .i64 x_) (fun x_ : Int => .int .i64 x_) b3 s.2]) (fun s t => True) (0, mp_7) () [0, 1, 2] H111 (by exact trivial) (by exact ⟨rfl, rfl, rfl, rfl, rfl, rfl, rfl, rfl, rfl, rfl, rfl, rfl, rfl, rfl, rfl, rfl, rfl, rfl, rfl, trivial⟩) (by decide) rfl ?_
       rintro ⟨x71_2, mp_10⟩ _ m12 gg H112 _
       clear H111
       replace H112 : Keep_FaceClusters_l12 x39_2 next9 t42 x49_2 x50_2 x55_2 x67_2 (it (fun next12 s => Keep_FaceClusters_l12 x39_2 next9 t42 x49_2 x50_2 x55_2 x67_2 next12 s.1 s.2) m12) x71_2 mp_10 = some r := H112
       generalize hn12 : it (fun next12 s => Keep_FaceClusters_l12 x39_2 next9 t42 x49_2 x50_2 x55_2 x67_2 next12 s.1 s.2) m12 = next12 at H112
       refine c_tidyF [(0, v0), (1, v1), (2, .int .i64 a2), (7, .slice p.1 t31.1.length p.2), (9, .map (some b3)), (10, .int .i64 x39_2), (37, .slice p.1 t31.1.length p.2), (38, .int .i64 (t31.1.length : Int)), (39, .int .i64 x39_2), (48, (List.getD (List.getD css (Int.toNat x39_2) []) 0 undef)), (49, .bool x49_2), (50, .bool x50_2), (53, .int .i64 x39_2), (54, .bool (decide (0 < x39_2))), (55, .bool x55_2), (67, .bool x67_2), (69, (List.getD (List.getD css (Int.toNat x39_2) []) 0 undef)), (70, .int .i64 (t42.length : Int)), (71, .int .i64 x71_2)] [poolC noH hp_2, roV 1 (.slice p.1 t31.1.length p.2) t31.1.length (css.map idC), mapC (fun x_ : Int => .int .i64 x_) (fun x_ : Int => .int .i64 x_) b3 mp_10] rfl rfl ?_
       refine c_seq ?_
       refine c_region ?_
       refine l_val rfl rfl rfl (r_lss rfl rfl) ?_
       refine l_nil ?_
       refine c_sel [0, 1, 2] [poolC noH hp_2, roV 1 (.slice p.1 t31.1.length p.2) t31.1.length (css.map idC), mapC (fun x_ : Int => .int .i64 x_) (fun x_ : Int => .int .i64 x_) b3 mp_10] rfl (by decide) ?_
       refine c_seq ?_
       refine c_if (b := (decide (x71_2 < (t42.length : Int)))) rfl (fun hb => ?_) (fun hb => ?_)
       ·have H113 := cnd_t hb H112; clear H112
        refine c_skip ?_
        refine c_seq ?_
        refine c_block ?_
        refine c_seq ?_
        refine c_region ?_
        obtain ⟨t73, h_t73, H114⟩ := bnd_some H113; clear H113
        refine l_val rfl rfl rfl (r_indexF Try.underlying30 Try.sizeOf3 rfl rfl (show FrS hp_2 1 (List.getD (List.getD css (Int.toNat x39_2) []) 0 undef) (t42.map e_i64) from ((pf.mono hle_2).at h_t42)) h_t73) ?_
        refine l_read (fun w hF hS => run_loadG1 (f := e_i64) (i := x71_2) (sz := 1) (j := 0) (v := .int .i64 t73) Try.isAgg3 rfl rfl ((show FrS hp_2 1 (List.getD (List.getD css (Int.toNat x39_2) []) 0 undef) (t42.map e_i64) from ((pf.mono hle_2).at h_t42)).row (pool_now (i := 0) hS rfl noH_le)) h_t73 rfl) rfl rfl rfl ?_
        refine l_val rfl rfl rfl (r_assign (v := .int .i64 t73) rfl) ?_
        refine l_nil ?_
        refine c_sel [0, 1, 2] [poolC noH hp_2, roV 1 (.slice p.1 t31.1.length p.2) t31.1.length (css.map idC), mapC (fun x_ : Int => .int .i64 x_) (fun x_ : Int => .int .i64 x_) b3 mp_10] rfl (by decide) ?_
        refine c_seq ?_
        refine c_seq ?_
        refine c_region ?_
        refine l_val rfl rfl rfl (r_move (v := .map (some b3)) rfl) ?_
        refine l_val rfl rfl rfl (r_move (v := .int .i64 t73) rfl) ?_
        refine l_read (fun w hF hS => run_lookupOk (i := 2) (fk := (fun x_ : Int => .int .i64 x_)) (fv := (fun x_ : Int => .int .i64 x_)) (k := t73) (z := 0) keyF_int Try.underlying29 Try.underlying3 Try.zeroValue3 rfl rfl hS rfl) rfl rfl rfl ?_
        refine l_val rfl rfl rfl (r_move (v := .tuple #[.int .i64 ((mGet mp_10 t73).getD 0), .bool (mHas mp_10 t73)]) rfl) ?_
        refine l_val rfl rfl rfl (r_extract (v := .int .i64 ((mGet mp_10 t73).getD 0)) rfl rfl) ?_
        refine l_val rfl rfl rfl (r_extract (v := .bool (mHas mp_10 t73)) rfl rfl) ?_
        refine l_val rfl rfl rfl (r_assign (v := .int .i64 ((mGet mp_10 t73).getD 0)) rfl) ?_
        refine l_val rfl rfl rfl (r_assign (v := .bool (mHas mp_10 t73)) rfl) ?_
        refine l_nil ?_
        refine c_sel [0, 1, 2] [poolC noH hp_2, roV 1 (.slice p.1 t31.1.length p.2) t31.1.length (css.map idC), mapC (fun x_ : Int => .int .i64 x_) (fun x_ : Int => .int .i64 x_) b3 mp_10] rfl (by decide) ?_
        refine c_seq ?_
        refine c_region ?_
        refine l_val rfl rfl rfl (r_move (v := .bool (mHas mp_10 t73)) rfl) ?_
        refine l_nil ?_
        refine c_sel [0, 1, 2] [poolC noH hp_2, roV 1 (.slice p.1 t31.1.length p.2) t31.1.length (css.map idC), mapC (fun x_ : Int => .int .i64 x_) (fun x_ : Int => .int .i64 x_) b3 mp_10] rfl (by decide) ?_
        refine c_if (b := (mHas mp_10 t73)) rfl (fun hb => ?_) (fun hb => ?_)
        ·have H115 := cnd_t hb H114; clear H114
         refine c_seq ?_
         refine c_region ?_
         refine l_val rfl rfl rfl (r_assign (v := .bool false) rfl) ?_
         refine l_nil ?_
         refine c_sel [0, 1, 2] [poolC noH hp_2, roV 1 (.slice p.1 t31.1.length p.2) t31.1.length (css.map idC), mapC (fun x_ : Int => .int .i64 x_) (fun x_ : Int => .int .i64 x_) b3 mp_10] rfl (by decide) ?_
         refine c_ret ?_
         obtain rfl := Option.some.inj H115
         refine ret1 (v := .bool false) rfl rfl (fin rfl)
        ·have H116 := cnd_f hb H114; clear H114
         refine c_skip ?_
         refine c_region ?_
         refine l_val rfl rfl rfl (r_move (v := .map (some b3)) rfl) ?_
         refine l_val rfl rfl rfl (r_move (v := .int .i64 t73) rfl) ?_
         refine l_val rfl rfl rfl (r_move (v := .int .i64 x39_2) rfl) ?_
         refine l_turn0 (turns_mset (u := true) (i := 2) (rds := []) (fk := (fun x_ : Int => .int .i64 x_)) (fv := (fun x_ : Int => .int .i64 x_)) (k := t73) (v := x39_2) keyF_int (.inr rfl) Try.underlying29 Try.underlying3 rfl rfl rfl rfl) rfl rfl (fun _ => ?_)
         refine l_nil ?_
         refine c_sel [0, 1, 2] [poolC noH hp_2, roV 1 (.slice p.1 t31.1.length p.2) t31.1.length (css.map idC), mapC (fun x_ : Int => .int .i64 x_) (fun x_ : Int => .int .i64 x_) b3 (mSet mp_10 t73 x39_2)] rfl (by decide) ?_
         refine c_region ?_
         obtain ⟨t85, h_t85, H117⟩ := bnd_some H116; clear H116
         refine l_val rfl rfl rfl (r_addG rfl rfl h_t85) ?_
         refine l_val rfl rfl rfl (r_move (v := .int .i64 t85) rfl) ?_
         refine l_nil ?_
         refine c_sel [0, 1, 2] [poolC noH hp_2, roV 1 (.slice p.1 t31.1.length p.2) t31.1.length (css.map idC), mapC (fun x_ : Int => .int .i64 x_) (fun x_ : Int => .int .i64 x_) b3 (mSet mp_10 t73 x39_2)] rfl (by decide) ?_
         refine c_close (t85, (mSet mp_10 t73 x39_2)) () m12 [0, 1, 2] (by exact ⟨rfl, rfl, rfl, rfl, rfl, rfl, rfl, rfl, rfl, rfl, rfl, rfl, rfl, rfl, rfl, rfl, rfl, rfl, rfl, trivial⟩) (by decide) (by kernel_rfl) (by exact ⟨(by subst hn12; exact H117), trivial⟩) (Nat.lt_succ_self _)
       ·have H118 := cnd_f hb H112; clear H112
        refine c_exit ?_
        refine c_close (t42, x49_2, x50_2, x55_2, x67_2, mp_10) (List.getD (List.getD css (Int.toNat x39_2) []) 0 undef) 0 [0, 1, 2] (by exact ⟨rfl, rfl, rfl, rfl, rfl, rfl, rfl, rfl, rfl, rfl, rfl, rfl, rfl, rfl, rfl, trivial⟩) (by decide) (by kernel_rfl) (by exact ⟨H118, (show FrS hp_2 1 (List.getD (List.getD css (Int.toNat x39_2) []) 0 undef) (t42.map e_i64) from ((pf.mono hle_2).at h_t42))⟩) (Nat.lt_succ_self _)
     ·rintro ⟨x48, x49, x50, x55, x67, mp_8⟩ gv gg H108 gf
      replace H108 : Keep_FaceClusters_j10 x39_2 next9 x48 x49 x50 x55 x67 mp_8 = some r := H108
      refine c_tidyF [(0, v0), (1, v1), (2, .int .i64 a2), (7, .slice p.1 t31.1.length p.2), (9, .map (some b3)), (37, .slice p.1 t31.1.length p.2), (38, .int .i64 (t31.1.length : Int)), (39, .int .i64 x39_2), (48, gv), (49, .bool x49), (50, .bool x50), (53, .int .i64 x39_2), (54, .bool (decide (0 < x39_2))), (55, .bool x55), (67, .bool x67)] [poolC noH hp_2, roV 1 (.slice p.1 t31.1.length p.2) t31.1.length (css.map idC), mapC (fun x_ : Int => .int .i64 x_) (fun x_ : Int => .int .i64 x_) b3 mp_8] rfl rfl ?_
      refine c_region ?_
      obtain ⟨t86, h_t86, H109⟩ := bnd_some H108; clear H108
      refine l_val rfl rfl rfl (r_addG rfl rfl h_t86) ?_
      refine l_val rfl rfl rfl (r_move (v := .int .i64 t86) rfl) ?_
      refine l_nil ?_
      refine c_sel [0, 1, 2] [poolC noH hp_2, roV 1 (.slice p.1 t31.1.length p.2) t31.1.length (css.map idC), mapC (fun x_ : Int => .int .i64 x_) (fun x_ : Int => .int .i64 x_) b3 mp_8] rfl (by decide) ?_
      refine c_close (t86, mp_8) () m9 [0, 1, 2] (by exact ⟨rfl, rfl, rfl, rfl, rfl, rfl, rfl, rfl, trivial⟩) (by decide) (by kernel_rfl) (by exact ⟨(by subst hn9; exact H109), trivial⟩) (Nat.lt_succ_self _)
    ·have H132 := cnd_f hb H106; clear H106
     refine c_exit ?_
     refine c_close mp_7 () 0 [0, 1, 2] (by exact ⟨rfl, rfl, rfl, rfl, rfl, trivial⟩) (by decide) (by kernel_rfl) (by exact ⟨H132, (pf.mono hle_2)⟩) (Nat.lt_succ_self _)
   ·rintro mp _ gg H73 pf_2
    replace H73 : Keep_FaceClusters_j1 a0 a1 a2 t31 mp = some r := H73
    refine c_tidyF [(0, v0), (1, v1), (2, .int .i64 a2), (7, .slice p.1 t31.1.length p.2), (9, .map (some b3))] [poolC noH hp_2, roV 1 (.slice p.1 t31.1.length p.2) t31.1.length (css.map idC), mapC (fun x_ : Int => .int .i64 x_) (fun x_ : Int => .int .i64 x_) b3 mp] rfl rfl ?_
    refine c_seq ?_
    refine c_seq ?_
    refine c_region ?_
    refine l_val rfl rfl rfl (r_move (v := .map (some b3)) rfl) ?_
    refine l_read (fun w hF hS => run_lenMap (i := 2) (fk := (fun x_ : Int => .int .i64 x_)) (fv := (fun x_ : Int => .int .i64 x_)) Try.underlying29 rfl hS rfl rfl) rfl rfl rfl ?_
    refine l_val rfl rfl rfl (r_move (v := v0) rfl) ?_
    refine l_val rfl rfl rfl (r_lenF Try.underlying22 rfl f0 rfl) ?_
    refine l_val rfl rfl rfl (r_neq rfl rfl) ?_
    refine l_nil ?_
    refine c_sel [0, 1, 2] [poolC noH hp_2, roV 1 (.slice p.1 t31.1.length p.2) t31.1.length (css.map idC), mapC (fun x_ : Int => .int .i64 x_) (fun x_ : Int => .int .i64 x_) b3 mp] rfl (by decide) ?_
    refine c_if (b := (decide ((mp.length : Int) ≠ (a0.length : Int)))) rfl (fun hb => ?_) (fun hb => ?_)
    ·have H74 := cnd_t hb H73; clear H73
     refine c_seq ?_
     refine c_region ?_
     refine l_val rfl rfl rfl (r_assign (v := .bool false) rfl) ?_
     refine l_nil ?_
     refine c_sel [0, 1, 2] [poolC noH hp_2, roV 1 (.slice p.1 t31.1.length p.2) t31.1.length (css.map idC), mapC (fun x_ : Int => .int .i64 x_) (fun x_ : Int => .int .i64 x_) b3 mp] rfl (by decide) ?_
     refine c_ret ?_
     obtain rfl := Option.some.inj H74
     refine ret1 (v := .bool false) rfl rfl (fin rfl)
    ·have H75 := cnd_f hb H73; clear H73
     refine c_skip ?_
     refine c_seq ?_
     refine c_region ?_
     refine l_make (rds := []) (makes_map (fk := (fun x_ : (Int × Int) => .agg #[.int .i64 x_.1, .int .i64 x_.2])) (fv := (fun x_ : Bool => .bool x_))) rfl rfl rfl (fun b4 => ?_)
     refine l_val rfl rfl rfl (r_assign (v := .map (some b4)) rfl) ?_
     refine l_nil ?_
     refine c_sel [0, 1, 2, 3] [poolC noH hp_2, roV 1 (.slice p.1 t31.1.length p.2) t31.1.length (css.map idC), mapC (fun x_ : Int => .int .i64 x_) (fun x_ : Int => .int .i64 x_) b3 mp, mapC (fun x_ : (Int × Int) => .agg #[.int .i64 x_.1, .int .i64 x_.2]) (fun x_ : Bool => .bool x_) b4 ([] : (List ((Int × Int) × Bool)))] rfl (by decide) ?_
     refine c_meet (r := r) (σ := (List ((Int × Int) × Bool))) (τ := Unit) (fun s => Keep_FaceClusters_j2 a0 a2 t31 s) (fun s t => [(0, v0), (2, .int .i64 a2), (7, .slice p.1 t31.1.length p.2), (16, .map (some b4))]) (fun s t => [poolC noH hp_2, roV 1 (.slice p.1 t31.1.length p.2) t31.1.length (css.map idC), mapC (fun x_ : (Int × Int) => .agg #[.int .i64 x_.1, .int .i64 x_.2]) (fun x_ : Bool => .bool x_) b4 s]) (fun s t => True) ?_ ?_
     ·refine c_seq ?_
      refine c_region ?_
      refine l_val rfl rfl rfl (r_move (v := v1) rfl) ?_
      refine l_val rfl rfl rfl (r_lenF Try.underlying23 rfl f1 rfl) ?_
      refine l_val rfl rfl rfl (r_move (v := .int .i64 0) rfl) ?_
      refine l_nil ?_
      refine c_sel [0, 1, 2, 3] [poolC noH hp_2, roV 1 (.slice p.1 t31.1.length p.2) t31.1.length (css.map idC), mapC (fun x_ : Int => .int .i64 x_) (fun x_ : Int => .int .i64 x_) b3 mp, mapC (fun x_ : (Int × Int) => .agg #[.int .i64 x_.1, .int .i64 x_.2]) (fun x_ : Bool => .bool x_) b4 ([] : (List ((Int × Int) × Bool)))] rfl (by decide) ?_
      refine c_block ?_
      refine c_fix (σ := Int × (List ((Int × Int) × Bool))) (τ := Unit) (fun next7 s => Keep_FaceClusters_l7 a0 a1 a2 t31 mp next7 s.1 s.2) (fun s t => [(0, v0), (2, .int .i64 a2), (7, .slice p.1 t31.1.length p.2), (9, .map (some b3)), (16, .map (some b4)), (93, v1), (94, .int .i64 (a1.length : Int)), (95, .int .i64 s.1)]) (fun s t => [poolC noH hp_2, roV 1 (.slice p.1 t31.1.length p.2) t31.1.length (css.map idC), mapC (fun x_ : Int => .int .i64 x_) (fun x_ : Int => .int .i64 x_) b3 mp, mapC (fun x_ : (Int × Int) => .agg #[.int .i64 x_.1, .int .i64 x_.2]) (fun x_ : Bool => .bool x_) b4 s.2]) (fun s t => True) (0, ([] : (List ((Int × Int) × Bool)))) () [0, 1, 2, 3] H75 (by exact trivial) (by exact ⟨rfl, rfl, rfl, rfl, rfl, rfl, rfl, rfl, trivial⟩) (by decide) rfl ?_
      rintro ⟨x95_2, mp_4⟩ _ m7 gg H96 _
      clear H75
      replace H96 : Keep_FaceClusters_l7 a0 a1 a2 t31 mp (it (fun next7 s => Keep_FaceClusters_l7 a0 a1 a2 t31 mp next7 s.1 s.2) m7) x95_2 mp_4 = some r := H96
      generalize hn7 : it (fun next7 s => Keep_FaceClusters_l7 a0 a1 a2 t31 mp next7 s.1 s.2) m7 = next7 at H96
      refine c_tidyF [(0, v0), (2, .int .i64 a2), (7, .slice p.1 t31.1.length p.2), (9, .map (some b3)), (16, .map (some b4)), (93, v1), (94, .int .i64 (a1.length : Int)), (95, .int .i64 x95_2)] [poolC noH hp_2, roV 1 (.slice p.1 t31.1.length p.2) t31.1.length (css.map idC), mapC (fun x_ : Int => .int .i64 x_) (fun x_ : Int => .int .i64 x_) b3 mp, mapC (fun x_ : (Int × Int) => .agg #[.int .i64 x_.1, .int .i64 x_.2]) (fun x_ : Bool => .bool x_) b4 mp_4] rfl rfl ?_
      refine c_seq ?_
      refine c_region ?_
      refine l_val rfl rfl rfl (r_lss rfl rfl) ?_
      refine l_nil ?_
      refine c_sel [0, 1, 2, 3] [poolC noH hp_2, roV 1 (.slice p.1 t31.1.length p.2) t31.1.length (css.map idC), mapC (fun x_ : Int => .int .i64 x_) (fun x_ : Int => .int .i64 x_) b3 mp, mapC (fun x_ : (Int × Int) => .agg #[.int .i64 x_.1, .int .i64 x_.2]) (fun x_ : Bool => .bool x_) b4 mp_4] rfl (by decide) ?_
      refine c_seq ?_
      refine c_if (b := (decide (x95_2 < (a1.length : Int)))) rfl (fun hb => ?_) (fun hb => ?_)
      ·have H97 := cnd_t hb H96; clear H96
       refine c_skip ?_
       refine c_meet (r := r) (σ := (List ((Int × Int) × Bool))) (τ := Unit) (fun s => Keep_FaceClusters_j8 x95_2 next7 s) (fun s t => [(0, v0), (2, .int .i64 a2), (7, .slice p.1 t31.1.length p.2), (9, .map (some b3)), (16, .map (some b4)), (93, v1), (94, .int .i64 (a1.length : Int)), (95, .int .i64 x95_2)]) (fun s t => [poolC noH hp_2, roV 1 (.slice p.1 t31.1.length p.2) t31.1.length (css.map idC), mapC (fun x_ : Int => .int .i64 x_) (fun x_ : Int => .int .i64 x_) b3 mp, mapC (fun x_ : (Int × Int) => .agg #[.int .i64 x_.1, .int .i64 x_.2]) (fun x_ : Bool => .bool x_) b4 s]) (fun s t => True) ?_ ?_
       ·refine c_block ?_
        refine c_seq ?_
        refine c_region ?_
        obtain ⟨t97, h_t97, H100⟩ := bnd_some H97; clear H97
        refine l_val rfl rfl rfl (r_indexF Try.underlying23 Try.sizeOf35 rfl rfl f1 h_t97) ?_
        refine l_read (fun w hF hS => run_loadGN (f := e_face_Bond) (i := x95_2) (sz := 3) (j := 0) (vs := [.int .i64 t97.A, .int .i64 t97.B, .bool t97.Must]) Try.isAgg35 Try.sizeOf35 rfl rfl (f1.row (hw.now hF)) h_t97 rfl) rfl rfl rfl ?_
        refine l_alloc (cs := [.int .i64 0, .int .i64 0, .bool false]) Try.zeroValue35 rfl rfl rfl (fun b5 => ?_)
        refine l_store (i := 4) (vs := [.int .i64 t97.A, .int .i64 t97.B, .bool t97.Must]) (cs' := [.int .i64 t97.A, .int .i64 t97.B, .bool t97.Must]) Try.sizeOf35 rfl rfl rfl rfl rfl rfl rfl rfl rfl ?_
        refine l_nil ?_
        refine c_sel [0, 1, 2, 3, 4] [poolC noH hp_2, roV 1 (.slice p.1 t31.1.length p.2) t31.1.length (css.map idC), mapC (fun x_ : Int => .int .i64 x_) (fun x_ : Int => .int .i64 x_) b3 mp, mapC (fun x_ : (Int × Int) => .agg #[.int .i64 x_.1, .int .i64 x_.2]) (fun x_ : Bool => .bool x_) b4 mp_4, cellsC b5 [.int .i64 t97.A, .int .i64 t97.B, .bool t97.Must] 35] rfl (by decide) ?_
        refine c_seq ?_
        exact c_regionD (Kd.p :: Kd.p :: Kd.d [4] _ :: Kd.d [2] _ :: Kd.p :: Kd.p :: Kd.d [4] _ :: Kd.d [2] _ :: Kd.p :: Kd.p :: []) 0 mixed (by
         refine d_val rfl rfl (r_move (v := .map (some b3)) rfl) ?_
         refine d_val rfl rfl (r_field Try.runUnderlying35 rfl Try.sizeOf3 rfl rfl) ?_
         refine d_load1 (i := 4) (v := .int .i64 t97.A) Try.isAgg3 rfl rfl rfl rfl ?_
         refine d_readD (fun w L' hF hS hi => run_lookup (i := 2) (fk := (fun x_ : Int => .int .i64 x_)) (fv := (fun x_ : Int => .int .i64 x_)) (k := t97.A) (z := 0) keyF_int Try.underlying29 Try.underlying3 Try.zeroValue3 rfl rfl hS ((hi 2 (by simp)).trans rfl)) rfl rfl ?_
         refine d_val rfl rfl (r_move (v := .map (some b3)) rfl) ?_
         refine d_val rfl rfl (r_field Try.runUnderlying35 rfl Try.sizeOf3 rfl rfl) ?_
         refine d_load1 (i := 4) (v := .int .i64 t97.B) Try.isAgg3 rfl rfl rfl rfl ?_
         refine d_readD (fun w L' hF hS hi => run_lookup (i := 2) (fk := (fun x_ : Int => .int .i64 x_)) (fv := (fun x_ : Int => .int .i64 x_)) (k := t97.B) (z := 0) keyF_int Try.underlying29 Try.underlying3 Try.zeroValue3 rfl rfl hS ((hi 2 (by simp)).trans rfl)) rfl rfl ?_
         refine d_val rfl rfl (r_assign (v := .int .i64 ((mGet mp t97.A).getD 0)) rfl) ?_
         refine d_val rfl rfl (r_assign (v := .int .i64 ((mGet mp t97.B).getD 0)) rfl) ?_
         refine d_nil ?_
         refine c_sel [0, 1, 2, 3, 4] [poolC noH hp_2, roV 1 (.slice p.1 t31.1.length p.2) t31.1.length (css.map idC), mapC (fun x_ : Int => .int .i64 x_) (fun x_ : Int => .int .i64 x_) b3 mp, mapC (fun x_ : (Int × Int) => .agg #[.int .i64 x_.1, .int .i64 x_.2]) (fun x_ : Bool => .bool x_) b4 mp_4, cellsC b5 [.int .i64 t97.A, .int .i64 t97.B, .bool t97.Must] 35] rfl (by decide) ?_
         refine c_seq ?_
         refine c_seq ?_
         refine c_region ?_
         refine l_val rfl rfl rfl (r_field Try.runUnderlying35 rfl Try.sizeOf4 rfl rfl) ?_
         refine l_load1 (i := 4) (v := .bool t97.Must) Try.isAgg4 rfl rfl rfl rfl rfl ?_
         refine l_val rfl rfl rfl (r_move (v := .int .i64 ((mGet mp t97.A).getD 0)) rfl) ?_
         refine l_val rfl rfl rfl (r_move (v := .int .i64 ((mGet mp t97.B).getD 0)) rfl) ?_
         refine l_val rfl rfl rfl (r_eql rfl rfl) ?_
         refine l_val rfl rfl rfl (r_neqB Try.underlying4 rfl rfl) ?_
         refine l_nil ?_
         refine c_sel [0, 1, 2, 3, 4] [poolC noH hp_2, roV 1 (.slice p.1 t31.1.length p.2) t31.1.length (css.map idC), mapC (fun x_ : Int => .int .i64 x_) (fun x_ : Int => .int .i64 x_) b3 mp, mapC (fun x_ : (Int × Int) => .agg #[.int .i64 x_.1, .int .i64 x_.2]) (fun x_ : Bool => .bool x_) b4 mp_4, cellsC b5 [.int .i64 t97.A, .int .i64 t97.B, .bool t97.Must] 35] rfl (by decide) ?_
         refine c_if (b := (decide (t97.Must ≠ (decide (((mGet mp t97.A).getD 0) = ((mGet mp t97.B).getD 0)))))) rfl (fun hb => ?_) (fun hb => ?_)
         ·have H101 := cnd_t hb H100; clear H100
          refine c_seq ?_
          refine c_region ?_
          refine l_val rfl rfl rfl (r_assign (v := .bool false) rfl) ?_
          refine l_nil ?_
          refine c_sel [0, 1, 2, 3, 4] [poolC noH hp_2, roV 1 (.slice p.1 t31.1.length p.2) t31.1.length (css.map idC), mapC (fun x_ : Int => .int .i64 x_) (fun x_ : Int => .int .i64 x_) b3 mp, mapC (fun x_ : (Int × Int) => .agg #[.int .i64 x_.1, .int .i64 x_.2]) (fun x_ : Bool => .bool x_) b4 mp_4, cellsC b5 [.int .i64 t97.A, .int .i64 t97.B, .bool t97.Must] 35] rfl (by decide) ?_
          refine c_ret ?_
          obtain rfl := Option.some.inj H101
          refine ret1 (v := .bool false) rfl rfl (fin rfl)
         ·have H102 := cnd_f hb H100; clear H100
          refine c_skip ?_
          refine c_seq ?_
          refine c_region ?_
          refine l_val rfl rfl rfl (r_field Try.runUnderlying35 rfl Try.sizeOf4 rfl rfl) ?_
          refine l_load1 (i := 4) (v := .bool t97.Must) Try.isAgg4 rfl rfl rfl rfl rfl ?_
          refine l_val rfl rfl rfl (r_not rfl) ?_
          refine l_nil ?_
          refine c_sel [0, 1, 2, 3, 4] [poolC noH hp_2, roV 1 (.slice p.1 t31.1.length p.2) t31.1.length (css.map idC), mapC (fun x_ : Int => .int .i64 x_) (fun x_ : Int => .int .i64 x_) b3 mp, mapC (fun x_ : (Int × Int) => .agg #[.int .i64 x_.1, .int .i64 x_.2]) (fun x_ : Bool => .bool x_) b4 mp_4, cellsC b5 [.int .i64 t97.A, .int .i64 t97.B, .bool t97.Must] 35] rfl (by decide) ?_
          refine c_if (b := (!t97.Must)) rfl (fun hb => ?_) (fun hb => ?_)
          ·have H103 := cnd_t hb H102; clear H102
           refine c_region ?_
           refine l_val rfl rfl rfl (r_move (v := .map (some b4)) rfl) ?_
           refine l_val rfl rfl rfl (r_move (v := .int .i64 ((mGet mp t97.A).getD 0)) rfl) ?_
           refine l_val rfl rfl rfl (r_move (v := .int .i64 ((mGet mp t97.B).getD 0)) rfl) ?_
           refine l_val rfl rfl rfl (r_min rfl rfl) ?_
           refine l_val rfl rfl rfl (r_move (v := .int .i64 ((mGet mp t97.A).getD 0)) rfl) ?_
           refine l_val rfl rfl rfl (r_move (v := .int .i64 ((mGet mp t97.B).getD 0)) rfl) ?_
           refine l_val rfl rfl rfl (r_max rfl rfl) ?_
           refine l_val rfl rfl rfl (r_buildA (ps := [(0, .int .i64 (min ((mGet mp t97.A).getD 0) ((mGet mp t97.B).getD 0))), (1, .int .i64 (max ((mGet mp t97.A).getD 0) ((mGet mp t97.B).getD 0)))]) (cells := #[.int .i64 (min ((mGet mp t97.A).getD 0) ((mGet mp t97.B).getD 0)), .int .i64 (max ((mGet mp t97.A).getD 0) ((mGet mp t97.B).getD 0))]) Try.zeroValue36 Try.runUnderlying36 Try.sizeOf3 rfl rfl) ?_
           refine l_turn0 (turns_msetG (u := true) (i := 3) (rds := []) (fk := (fun x_ : (Int × Int) => .agg #[.int .i64 x_.1, .int .i64 x_.2])) (fv := (fun x_ : Bool => .bool x_)) (k := ((min ((mGet mp t97.A).getD 0) ((mGet mp t97.B).getD 0)), (max ((mGet mp t97.A).getD 0) ((mGet mp t97.B).getD 0)))) (v := true) (keyG_arr2 Try.underlying36 Try.underlying3 Try.isAgg3 Try.sizeOf3) (.inr rfl) Try.underlying33  rfl rfl rfl rfl) rfl rfl (fun _ => ?_)
           refine l_nil ?_
           refine c_sel [0, 1, 2, 3, 4] [poolC noH hp_2, roV 1 (.slice p.1 t31.1.length p.2) t31.1.length (css.map idC), mapC (fun x_ : Int => .int .i64 x_) (fun x_ : Int => .int .i64 x_) b3 mp, mapC (fun x_ : (Int × Int) => .agg #[.int .i64 x_.1, .int .i64 x_.2]) (fun x_ : Bool => .bool x_) b4 (mSet mp_4 ((min ((mGet mp t97.A).getD 0) ((mGet mp t97.B).getD 0)), (max ((mGet mp t97.A).getD 0) ((mGet mp t97.B).getD 0))) true), cellsC b5 [.int .i64 t97.A, .int .i64 t97.B, .bool t97.Must] 35] rfl (by decide) ?_
           refine c_close (mSet mp_4 ((min ((mGet mp t97.A).getD 0) ((mGet mp t97.B).getD 0)), (max ((mGet mp t97.A).getD 0) ((mGet mp t97.B).getD 0))) true) () 0 [0, 1, 2, 3] (by exact ⟨rfl, rfl, rfl, rfl, rfl, rfl, rfl, rfl, trivial⟩) (by decide) (by kernel_rfl) (by exact ⟨H103, trivial⟩) (Nat.lt_succ_self _)
          ·have H104 := cnd_f hb H102; clear H102
           refine c_skip ?_
           refine c_close mp_4 () 0 [0, 1, 2, 3] (by exact ⟨rfl, rfl, rfl, rfl, rfl, rfl, rfl, rfl, trivial⟩) (by decide) (by kernel_rfl) (by exact ⟨H104, trivial⟩) (Nat.lt_succ_self _)
         ) (by kernel_rfl)
       ·rintro mp_5 _ gg H98 _
        replace H98 : Keep_FaceClusters_j8 x95_2 next7 mp_5 = some r := H98
        refine c_tidyF [(0, v0), (2, .int .i64 a2), (7, .slice p.1 t31.1.length p.2), (9, .map (some b3)), (16, .map (some b4)), (93, v1), (94, .int .i64 (a1.length : Int)), (95, .int .i64 x95_2)] [poolC noH hp_2, roV 1 (.slice p.1 t31.1.length p.2) t31.1.length (css.map idC), mapC (fun x_ : Int => .int .i64 x_) (fun x_ : Int => .int .i64 x_) b3 mp, mapC (fun x_ : (Int × Int) => .agg #[.int .i64 x_.1, .int .i64 x_.2]) (fun x_ : Bool => .bool x_) b4 mp_5] rfl rfl ?_
        refine c_region ?_
        obtain ⟨t124, h_t124, H99⟩ := bnd_some H98; clear H98
        refine l_val rfl rfl rfl (r_addG rfl rfl h_t124) ?_
        refine l_val rfl rfl rfl (r_move (v := .int .i64 t124) rfl) ?_
        refine l_nil ?_
        refine c_sel [0, 1, 2, 3] [poolC noH hp_2, roV 1 (.slice p.1 t31.1.length p.2) t31.1.length (css.map idC), mapC (fun x_ : Int => .int .i64 x_) (fun x_ : Int => .int .i64 x_) b3 mp, mapC (fun x_ : (Int × Int) => .agg #[.int .i64 x_.1, .int .i64 x_.2]) (fun x_ : Bool => .bool x_) b4 mp_5] rfl (by decide) ?_
        refine c_close (t124, mp_5) () m7 [0, 1, 2, 3] (by exact ⟨rfl, rfl, rfl, rfl, rfl, rfl, rfl, rfl, trivial⟩) (by decide) (by kernel_rfl) (by exact ⟨(by subst hn7; exact H99), trivial⟩) (Nat.lt_succ_self _)
      ·have H105 := cnd_f hb H96; clear H96
       refine c_exit ?_
       refine c_close mp_4 () 0 [0, 1, 3] (by exact ⟨rfl, rfl, rfl, rfl, trivial⟩) (by decide) (by kernel_rfl) (by exact ⟨H105, trivial⟩) (Nat.lt_succ_self _)
     ·rintro mp_2 _ gg H76 _
      replace H76 : Keep_FaceClusters_j2 a0 a2 t31 mp_2 = some r := H76
      refine c_tidyF [(0, v0), (2, .int .i64 a2), (7, .slice p.1 t31.1.length p.2), (16, .map (some b4))] [poolC noH hp_2, roV 1 (.slice p.1 t31.1.length p.2) t31.1.length (css.map idC), mapC (fun x_ : (Int × Int) => .agg #[.int .i64 x_.1, .int .i64 x_.2]) (fun x_ : Bool => .bool x_) b4 mp_2] rfl rfl ?_
      refine c_seq ?_
      refine c_seq ?_
      refine c_region ?_
      refine l_val rfl rfl rfl (r_move (v := .slice p.1 t31.1.length p.2) rfl) ?_
      refine l_val rfl rfl rfl (r_len Try.underlying25 rfl) ?_
      refine l_val rfl rfl rfl (r_move (v := .int .i64 0) rfl) ?_
      refine l_nil ?_
      refine c_sel [0, 1, 2] [poolC noH hp_2, roV 1 (.slice p.1 t31.1.length p.2) t31.1.length (css.map idC), mapC (fun x_ : (Int × Int) => .agg #[.int .i64 x_.1, .int .i64 x_.2]) (fun x_ : Bool => .bool x_) b4 mp_2] rfl (by decide) ?_
      refine c_block ?_
      refine c_fix (σ := Int) (τ := Unit) (fun next3 s => Keep_FaceClusters_l3 a0 a2 t31 mp_2 next3 s) (fun s t => [(0, v0), (2, .int .i64 a2), (7, .slice p.1 t31.1.length p.2), (16, .map (some b4)), (126, .int .i64 (t31.1.length : Int)), (127, .int .i64 s)]) (fun s t => [poolC noH hp_2, roV 1 (.slice p.1 t31.1.length p.2) t31.1.length (css.map idC), mapC (fun x_ : (Int × Int) => .agg #[.int .i64 x_.1, .int .i64 x_.2]) (fun x_ : Bool => .bool x_) b4 mp_2]) (fun s t => True) 0 () [0, 1, 2] H76 (by exact trivial) (by exact ⟨rfl, rfl, rfl, rfl, rfl, rfl, trivial⟩) (by decide) rfl ?_
      rintro x127_2 _ m3 gg H77 _
      clear H76
      replace H77 : Keep_FaceClusters_l3 a0 a2 t31 mp_2 (it (fun next3 s => Keep_FaceClusters_l3 a0 a2 t31 mp_2 next3 s) m3) x127_2 = some r := H77
      generalize hn3 : it (fun next3 s => Keep_FaceClusters_l3 a0 a2 t31 mp_2 next3 s) m3 = next3 at H77
      refine c_tidyF [(0, v0), (2, .int .i64 a2), (7, .slice p.1 t31.1.length p.2), (16, .map (some b4)), (126, .int .i64 (t31.1.length : Int)), (127, .int .i64 x127_2)] [poolC noH hp_2, roV 1 (.slice p.1 t31.1.length p.2) t31.1.length (css.map idC), mapC (fun x_ : (Int × Int) => .agg #[.int .i64 x_.1, .int .i64 x_.2]) (fun x_ : Bool => .bool x_) b4 mp_2] rfl rfl ?_
      refine c_seq ?_
      refine c_region ?_
      refine l_val rfl rfl rfl (r_lss rfl rfl) ?_
      refine l_nil ?_
      refine c_sel [0, 1, 2] [poolC noH hp_2, roV 1 (.slice p.1 t31.1.length p.2) t31.1.length (css.map idC), mapC (fun x_ : (Int × Int) => .agg #[.int .i64 x_.1, .int .i64 x_.2]) (fun x_ : Bool => .bool x_) b4 mp_2] rfl (by decide) ?_
      refine c_seq ?_
      refine c_if (b := (decide (x127_2 < (t31.1.length : Int)))) rfl (fun hb => ?_) (fun hb => ?_)
      ·have H78 := cnd_t hb H77; clear H77
       refine c_skip ?_
       refine c_meet (r := r) (σ := Unit) (τ := Unit) (fun s => Keep_FaceClusters_j4 x127_2 next3) (fun s t => [(0, v0), (2, .int .i64 a2), (7, .slice p.1 t31.1.length p.2), (16, .map (some b4)), (126, .int .i64 (t31.1.length : Int)), (127, .int .i64 x127_2)]) (fun s t => [poolC noH hp_2, roV 1 (.slice p.1 t31.1.length p.2) t31.1.length (css.map idC), mapC (fun x_ : (Int × Int) => .agg #[.int .i64 x_.1, .int .i64 x_.2]) (fun x_ : Bool => .bool x_) b4 mp_2]) (fun s t => True) ?_ ?_
       ·refine c_block ?_
        refine c_seq ?_
        refine c_region ?_
        refine l_val rfl rfl rfl (r_move (v := .int .i64 x127_2) rfl) ?_
        refine l_val rfl rfl rfl (r_assign (v := .int .i64 x127_2) rfl) ?_
        refine l_nil ?_
        refine c_sel [0, 1, 2] [poolC noH hp_2, roV 1 (.slice p.1 t31.1.length p.2) t31.1.length (css.map idC), mapC (fun x_ : (Int × Int) => .agg #[.int .i64 x_.1, .int .i64 x_.2]) (fun x_ : Bool => .bool x_) b4 mp_2] rfl (by decide) ?_
        refine c_seq ?_
        refine c_region ?_
        refine l_val rfl rfl rfl (r_move (v := .int .i64 x127_2) rfl) ?_
        refine l_val rfl rfl rfl (r_move (v := .int .i64 0) rfl) ?_
        refine l_nil ?_
        refine c_sel [0, 1, 2] [poolC noH hp_2, roV 1 (.slice p.1 t31.1.length p.2) t31.1.length (css.map idC), mapC (fun x_ : (Int × Int) => .agg #[.int .i64 x_.1, .int .i64 x_.2]) (fun x_ : Bool => .bool x_) b4 mp_2] rfl (by decide) ?_
        refine c_block ?_
        refine c_fix (σ := Int) (τ := Unit) (fun next5 s => Keep_FaceClusters_l5 a0 a2 t31 mp_2 x127_2 next3 next5 s) (fun s t => [(0, v0), (2, .int .i64 a2), (7, .slice p.1 t31.1.length p.2), (16, .map (some b4)), (21, .int .i64 x127_2), (126, .int .i64 (t31.1.length : Int)), (127, .int .i64 x127_2), (130, .int .i64 x127_2), (131, .int .i64 s)]) (fun s t => [poolC noH hp_2, roV 1 (.slice p.1 t31.1.length p.2) t31.1.length (css.map idC), mapC (fun x_ : (Int × Int) => .agg #[.int .i64 x_.1, .int .i64 x_.2]) (fun x_ : Bool => .bool x_) b4 mp_2]) (fun s t => True) 0 () [0, 1, 2] H78 (by exact trivial) (by exact ⟨rfl, rfl, rfl, rfl, rfl, rfl, rfl, rfl, rfl, trivial⟩) (by decide) rfl ?_
        rintro x131_2 _ m5 gg H81 _
        clear H78
        replace H81 : Keep_FaceClusters_l5 a0 a2 t31 mp_2 x127_2 next3 (it (fun next5 s => Keep_FaceClusters_l5 a0 a2 t31 mp_2 x127_2 next3 next5 s) m5) x131_2 = some r := H81
        generalize hn5 : it (fun next5 s => Keep_FaceClusters_l5 a0 a2 t31 mp_2 x127_2 next3 next5 s) m5 = next5 at H81
        refine c_tidyF [(0, v0), (2, .int .i64 a2), (7, .slice p.1 t31.1.length p.2), (16, .map (some b4)), (21, .int .i64 x127_2), (126, .int .i64 (t31.1.length : Int)), (127, .int .i64 x127_2), (130, .int .i64 x127_2), (131, .int .i64 x131_2)] [poolC noH hp_2, roV 1 (.slice p.1 t31.1.length p.2) t31.1.length (css.map idC), mapC (fun x_ : (Int × Int) => .agg #[.int .i64 x_.1, .int .i64 x_.2]) (fun x_ : Bool => .bool x_) b4 mp_2] rfl rfl ?_
        refine c_seq ?_
        refine c_region ?_
        refine l_val rfl rfl rfl (r_lss rfl rfl) ?_
        refine l_nil ?_
        refine c_sel [0, 1, 2] [poolC noH hp_2, roV 1 (.slice p.1 t31.1.length p.2) t31.1.length (css.map idC), mapC (fun x_ : (Int × Int) => .agg #[.int .i64 x_.1, .int .i64 x_.2]) (fun x_ : Bool => .bool x_) b4 mp_2] rfl (by decide) ?_
        refine c_seq ?_
        refine c_if (b := (decide (x131_2 < x127_2))) rfl (fun hb => ?_) (fun hb => ?_)
        ·have H82 := cnd_t hb H81; clear H81
         refine c_skip ?_
         refine c_meet (r := r) (σ := Int × Bool × Bool × Bool) (τ := Unit) (fun s => Keep_FaceClusters_j6 x131_2 next5 s.1 s.2.1 s.2.2.1 s.2.2.2) (fun s t => [(0, v0), (2, .int .i64 a2), (7, .slice p.1 t31.1.length p.2), (16, .map (some b4)), (21, .int .i64 x127_2), (126, .int .i64 (t31.1.length : Int)), (127, .int .i64 x127_2), (130, .int .i64 x127_2), (131, .int .i64 x131_2), (150, .int .i64 s.1), (151, .int .i64 a2), (152, .bool s.2.1), (153, .bool s.2.2.1), (160, .bool s.2.2.2)]) (fun s t => [poolC noH hp_2, roV 1 (.slice p.1 t31.1.length p.2) t31.1.length (css.map idC), mapC (fun x_ : (Int × Int) => .agg #[.int .i64 x_.1, .int .i64 x_.2]) (fun x_ : Bool => .bool x_) b4 mp_2]) (fun s t => True) ?_ ?_
         ·refine c_block ?_
          refine c_seq ?_
          refine c_region ?_
          refine l_val rfl rfl rfl (r_move (v := .int .i64 x131_2) rfl) ?_
          refine l_val rfl rfl rfl (r_assign (v := .int .i64 x131_2) rfl) ?_
          refine l_nil ?_
          refine c_sel [0, 1, 2] [poolC noH hp_2, roV 1 (.slice p.1 t31.1.length p.2) t31.1.length (css.map idC), mapC (fun x_ : (Int × Int) => .agg #[.int .i64 x_.1, .int .i64 x_.2]) (fun x_ : Bool => .bool x_) b4 mp_2] rfl (by decide) ?_
          refine c_seq ?_
          exact c_regionD (Kd.p :: Kd.p :: Kd.p :: Kd.d [1] _ :: Kd.d [1] _ :: Kd.p :: Kd.p :: Kd.d [1] _ :: Kd.d [1] _ :: Kd.d [0] _ :: Kd.p :: Kd.p :: Kd.p :: Kd.p :: Kd.p :: []) 0 mixed (by
           refine d_val rfl rfl (r_move (v := v0) rfl) ?_
           refine d_val rfl rfl (r_move (v := .slice p.1 t31.1.length p.2) rfl) ?_
           refine d_val rfl rfl (r_move (v := .int .i64 x131_2) rfl) ?_
           have h_t138 := bnd_val H82
           have H85 := bnd_rest H82
           refine d_readD (fun w L' hF hS hi => run_indexO Try.underlying25 Try.sizeOf30 rfl rfl (roOf (i := 1) hS ((hi 1 (by simp)).trans rfl)) hn (pf_2.ix h_t138)) rfl rfl ?_
           refine d_readD (fun w L' hF hS hi => run_loadG1 (f := idC) (i := x131_2) (sz := 1) (j := 0) (v := (List.getD (List.getD css (Int.toNat x131_2) []) 0 undef)) Try.isAgg30 rfl rfl (roOf (i := 1) hS ((hi 1 (by simp)).trans rfl)) (pf_2.ix h_t138) (rg_of ((pf_2.eta h_t138).trans (cgs_int (pf_2.at h_t138))) rfl)) rfl rfl ?_
           refine d_val rfl rfl (r_move (v := .slice p.1 t31.1.length p.2) rfl) ?_
           refine d_val rfl rfl (r_move (v := .int .i64 x127_2) rfl) ?_
           have h_t142 := bnd_val H85
           have H86 := bnd_rest H85
           refine d_readD (fun w L' hF hS hi => run_indexO Try.underlying25 Try.sizeOf30 rfl rfl (roOf (i := 1) hS ((hi 1 (by simp)).trans rfl)) hn (pf_2.ix h_t142)) rfl rfl ?_
           refine d_readD (fun w L' hF hS hi => run_loadG1 (f := idC) (i := x127_2) (sz := 1) (j := 0) (v := (List.getD (List.getD css (Int.toNat x127_2) []) 0 undef)) Try.isAgg30 rfl rfl (roOf (i := 1) hS ((hi 1 (by simp)).trans rfl)) (pf_2.ix h_t142) (rg_of ((pf_2.eta h_t142).trans (cgs_int (pf_2.at h_t142))) rfl)) rfl rfl ?_
           have h_t144 := bnd_val H86
           have H87 := bnd_rest H86
           refine d_callD (fun w L' hF hS hi => k8 (know_all w) (f0.mono (hw.now hF)) ((show FrS hp_2 1 (List.getD (List.getD css (Int.toNat x131_2) []) 0 undef) ((val (gAt t31.1 x131_2)).map e_i64) from (pf_2.at h_t138)).mono (pool_now (i := 0) hS ((hi 0 (by simp)).trans rfl) noH_le)) ((show FrS hp_2 1 (List.getD (List.getD css (Int.toNat x127_2) []) 0 undef) ((val (gAt t31.1 x127_2)).map e_i64) from (pf_2.at h_t142)).mono (pool_now (i := 0) hS ((hi 0 (by simp)).trans rfl) noH_le)) h_t144) Try.call8 rfl rfl ?_
           refine d_val rfl rfl (r_move (v := .tuple #[.int .i64 (val (face_Gap a0 (val (gAt t31.1 x131_2)) (val (gAt t31.1 x127_2)))).1, .int .i64 (val (face_Gap a0 (val (gAt t31.1 x131_2)) (val (gAt t31.1 x127_2)))).2]) rfl) ?_
           refine d_val rfl rfl (r_extract (v := .int .i64 (val (face_Gap a0 (val (gAt t31.1 x131_2)) (val (gAt t31.1 x127_2)))).1) rfl rfl) ?_
           refine d_val rfl rfl (r_extract (v := .int .i64 (val (face_Gap a0 (val (gAt t31.1 x131_2)) (val (gAt t31.1 x127_2)))).2) rfl rfl) ?_
           refine d_val rfl rfl (r_assign (v := .int .i64 (val (face_Gap a0 (val (gAt t31.1 x131_2)) (val (gAt t31.1 x127_2)))).1) rfl) ?_
           refine d_val rfl rfl (r_assign (v := .int .i64 (val (face_Gap a0 (val (gAt t31.1 x131_2)) (val (gAt t31.1 x127_2)))).2) rfl) ?_
           refine d_nil ?_
           refine c_sel [0, 1, 2] [poolC noH hp_2, roV 1 (.slice p.1 t31.1.length p.2) t31.1.length (css.map idC), mapC (fun x_ : (Int × Int) => .agg #[.int .i64 x_.1, .int .i64 x_.2]) (fun x_ : Bool => .bool x_) b4 mp_2] rfl (by decide) ?_
           refine c_seq ?_
           refine c_region ?_
           refine l_val rfl rfl rfl (r_move (v := .int .i64 (val (face_Gap a0 (val (gAt t31.1 x131_2)) (val (gAt t31.1 x127_2)))).2) rfl) ?_
           refine l_val rfl rfl rfl (r_neq rfl rfl) ?_
           refine l_val rfl rfl rfl (r_move (v := .bool (decide ((val (face_Gap a0 (val (gAt t31.1 x131_2)) (val (gAt t31.1 x127_2)))).2 ≠ 0))) rfl) ?_
           refine split (fun hb => ?_) (fun hb => ?_)
           ·have H88 := cnd_t hb H87; clear H87
            refine l_passed rfl rfl rfl ?_
            refine l_passed rfl rfl rfl ?_
            refine l_passed rfl rfl rfl ?_
            refine l_passed rfl rfl rfl ?_
            refine l_passed rfl rfl rfl ?_
            refine l_passed rfl rfl rfl ?_
            refine l_passed rfl rfl rfl ?_
            refine l_passed rfl rfl rfl ?_
            refine l_passed rfl rfl rfl ?_
            refine l_passed rfl rfl rfl ?_
            refine l_passed rfl rfl rfl ?_
            refine l_val rfl rfl rfl (r_pickT (v := .bool true) rfl rfl) ?_
            refine l_nil ?_
            refine c_sel [0, 1, 2] [poolC noH hp_2, roV 1 (.slice p.1 t31.1.length p.2) t31.1.length (css.map idC), mapC (fun x_ : (Int × Int) => .agg #[.int .i64 x_.1, .int .i64 x_.2]) (fun x_ : Bool => .bool x_) b4 mp_2] rfl (by decide) ?_
            refine c_true rfl ?_
            refine c_seq ?_
            refine c_region ?_
            refine l_val rfl rfl rfl (r_assign (v := .bool false) rfl) ?_
            refine l_nil ?_
            refine c_sel [0, 1, 2] [poolC noH hp_2, roV 1 (.slice p.1 t31.1.length p.2) t31.1.length (css.map idC), mapC (fun x_ : (Int × Int) => .agg #[.int .i64 x_.1, .int .i64 x_.2]) (fun x_ : Bool => .bool x_) b4 mp_2] rfl (by decide) ?_
            refine c_ret ?_
            obtain rfl := Option.some.inj H88
            refine ret1 (v := .bool false) rfl rfl (fin rfl)
           ·have H89 := cnd_f hb H87; clear H87
            refine l_val rfl rfl rfl (r_move (v := .int .i64 (val (face_Gap a0 (val (gAt t31.1 x131_2)) (val (gAt t31.1 x127_2)))).1) rfl) ?_
            refine l_val rfl rfl rfl (r_move (v := .int .i64 a2) rfl) ?_
            refine l_val rfl rfl rfl (r_leq rfl rfl) ?_
            refine l_val rfl rfl rfl (r_move (v := .bool (decide ((val (face_Gap a0 (val (gAt t31.1 x131_2)) (val (gAt t31.1 x127_2)))).1 ≤ a2))) rfl) ?_
            refine split (fun hb => ?_) (fun hb => ?_)
            ·have H90 := cnd_t hb H89; clear H89
             refine l_val rfl rfl rfl (r_move (v := .map (some b4)) rfl) ?_
             refine l_val rfl rfl rfl (r_move (v := .int .i64 x131_2) rfl) ?_
             refine l_val rfl rfl rfl (r_move (v := .int .i64 x127_2) rfl) ?_
             refine l_val rfl rfl rfl (r_buildA (ps := [(0, .int .i64 x131_2), (1, .int .i64 x127_2)]) (cells := #[.int .i64 x131_2, .int .i64 x127_2]) Try.zeroValue36 Try.runUnderlying36 Try.sizeOf3 rfl rfl) ?_
             refine l_read (fun w hF hS => run_lookupG (i := 2) (fk := (fun x_ : (Int × Int) => .agg #[.int .i64 x_.1, .int .i64 x_.2])) (fv := (fun x_ : Bool => .bool x_)) (k := (x131_2, x127_2)) (z := false) (keyG_arr2 Try.underlying36 Try.underlying3 Try.isAgg3 Try.sizeOf3) Try.underlying33  Try.zeroValue4 rfl rfl hS rfl) rfl rfl rfl ?_
             refine l_val rfl rfl rfl (r_not rfl) ?_
             refine l_val rfl rfl rfl (r_pickT (v := .bool (!((mGet mp_2 (x131_2, x127_2)).getD false))) rfl rfl) ?_
             refine l_val rfl rfl rfl (r_pickF (v := .bool (!((mGet mp_2 (x131_2, x127_2)).getD false))) rfl rfl) ?_
             refine l_nil ?_
             refine c_sel [0, 1, 2] [poolC noH hp_2, roV 1 (.slice p.1 t31.1.length p.2) t31.1.length (css.map idC), mapC (fun x_ : (Int × Int) => .agg #[.int .i64 x_.1, .int .i64 x_.2]) (fun x_ : Bool => .bool x_) b4 mp_2] rfl (by decide) ?_
             refine c_if (b := (!((mGet mp_2 (x131_2, x127_2)).getD false))) rfl (fun hb => ?_) (fun hb => ?_)
             ·have H91 := cnd_t hb H90; clear H90
              refine c_seq ?_
              refine c_region ?_
              refine l_val rfl rfl rfl (r_assign (v := .bool false) rfl) ?_
              refine l_nil ?_
              refine c_sel [0, 1, 2] [poolC noH hp_2, roV 1 (.slice p.1 t31.1.length p.2) t31.1.length (css.map idC), mapC (fun x_ : (Int × Int) => .agg #[.int .i64 x_.1, .int .i64 x_.2]) (fun x_ : Bool => .bool x_) b4 mp_2] rfl (by decide) ?_
              refine c_ret ?_
              obtain rfl := Option.some.inj H91
              refine ret1 (v := .bool false) rfl rfl (fin rfl)
             ·have H92 := cnd_f hb H90; clear H90
              refine c_skip ?_
              refine c_close ((val (face_Gap a0 (val (gAt t31.1 x131_2)) (val (gAt t31.1 x127_2)))).1, (decide ((val (face_Gap a0 (val (gAt t31.1 x131_2)) (val (gAt t31.1 x127_2)))).1 ≤ a2)), true, (!((mGet mp_2 (x131_2, x127_2)).getD false))) () 0 [0, 1, 2] (by exact ⟨rfl, rfl, rfl, rfl, rfl, rfl, rfl, rfl, rfl, rfl, rfl, rfl, rfl, rfl, trivial⟩) (by decide) (by kernel_rfl) (by exact ⟨H92, trivial⟩) (Nat.lt_succ_self _)
            ·have H93 := cnd_f hb H89; clear H89
             refine l_passed rfl rfl rfl ?_
             refine l_passed rfl rfl rfl ?_
             refine l_passed rfl rfl rfl ?_
             refine l_passed rfl rfl rfl ?_
             refine l_passed rfl rfl rfl ?_
             refine l_passed rfl rfl rfl ?_
             refine l_val rfl rfl rfl (r_pickF (v := .bool false) rfl rfl) ?_
             refine l_val rfl rfl rfl (r_pickF (v := .bool false) rfl rfl) ?_
             refine l_nil ?_
             refine c_sel [0, 1, 2] [poolC noH hp_2, roV 1 (.slice p.1 t31.1.length p.2) t31.1.length (css.map idC), mapC (fun x_ : (Int × Int) => .agg #[.int .i64 x_.1, .int .i64 x_.2]) (fun x_ : Bool => .bool x_) b4 mp_2] rfl (by decide) ?_
             refine c_false rfl ?_
             refine c_skip ?_
             refine c_close ((val (face_Gap a0 (val (gAt t31.1 x131_2)) (val (gAt t31.1 x127_2)))).1, (decide ((val (face_Gap a0 (val (gAt t31.1 x131_2)) (val (gAt t31.1 x127_2)))).1 ≤ a2)), false, false) () 0 [0, 1, 2] (by exact ⟨rfl, rfl, rfl, rfl, rfl, rfl, rfl, rfl, rfl, rfl, rfl, rfl, rfl, rfl, trivial⟩) (by decide) (by kernel_rfl) (by exact ⟨H93, trivial⟩) (Nat.lt_succ_self _)
           ) (by kernel_rfl)
         ·rintro ⟨x150, x152, x153, x160⟩ _ gg H83 _
          replace H83 : Keep_FaceClusters_j6 x131_2 next5 x150 x152 x153 x160 = some r := H83
          refine c_tidyF [(0, v0), (2, .int .i64 a2), (7, .slice p.1 t31.1.length p.2), (16, .map (some b4)), (21, .int .i64 x127_2), (126, .int .i64 (t31.1.length : Int)), (127, .int .i64 x127_2), (130, .int .i64 x127_2), (131, .int .i64 x131_2), (150, .int .i64 x150), (151, .int .i64 a2), (152, .bool x152), (153, .bool x153), (160, .bool x160)] [poolC noH hp_2, roV 1 (.slice p.1 t31.1.length p.2) t31.1.length (css.map idC), mapC (fun x_ : (Int × Int) => .agg #[.int .i64 x_.1, .int .i64 x_.2]) (fun x_ : Bool => .bool x_) b4 mp_2] rfl rfl ?_
          refine c_region ?_
          obtain ⟨t162, h_t162, H84⟩ := bnd_some H83; clear H83
          refine l_val rfl rfl rfl (r_addG rfl rfl h_t162) ?_
          refine l_val rfl rfl rfl (r_move (v := .int .i64 t162) rfl) ?_
          refine l_nil ?_
          refine c_sel [0, 1, 2] [poolC noH hp_2, roV 1 (.slice p.1 t31.1.length p.2) t31.1.length (css.map idC), mapC (fun x_ : (Int × Int) => .agg #[.int .i64 x_.1, .int .i64 x_.2]) (fun x_ : Bool => .bool x_) b4 mp_2] rfl (by decide) ?_
          refine c_close t162 () m5 [0, 1, 2] (by exact ⟨rfl, rfl, rfl, rfl, rfl, rfl, rfl, rfl, rfl, trivial⟩) (by decide) (by kernel_rfl) (by exact ⟨(by subst hn5; exact H84), trivial⟩) (Nat.lt_succ_self _)
        ·have H94 := cnd_f hb H81; clear H81
         refine c_exit ?_
         refine c_close () () 0 [0, 1, 2] (by exact ⟨rfl, rfl, rfl, rfl, rfl, rfl, trivial⟩) (by decide) (by kernel_rfl) (by exact ⟨H94, trivial⟩) (Nat.lt_succ_self _)
       ·rintro _ _ gg H79 _
        replace H79 : Keep_FaceClusters_j4 x127_2 next3 = some r := H79
        refine c_tidyF [(0, v0), (2, .int .i64 a2), (7, .slice p.1 t31.1.length p.2), (16, .map (some b4)), (126, .int .i64 (t31.1.length : Int)), (127, .int .i64 x127_2)] [poolC noH hp_2, roV 1 (.slice p.1 t31.1.length p.2) t31.1.length (css.map idC), mapC (fun x_ : (Int × Int) => .agg #[.int .i64 x_.1, .int .i64 x_.2]) (fun x_ : Bool => .bool x_) b4 mp_2] rfl rfl ?_
        refine c_region ?_
        obtain ⟨t163, h_t163, H80⟩ := bnd_some H79; clear H79
        refine l_val rfl rfl rfl (r_addG rfl rfl h_t163) ?_
        refine l_val rfl rfl rfl (r_move (v := .int .i64 t163) rfl) ?_
        refine l_nil ?_
        refine c_sel [0, 1, 2] [poolC noH hp_2, roV 1 (.slice p.1 t31.1.length p.2) t31.1.length (css.map idC), mapC (fun x_ : (Int × Int) => .agg #[.int .i64 x_.1, .int .i64 x_.2]) (fun x_ : Bool => .bool x_) b4 mp_2] rfl (by decide) ?_
        refine c_close t163 () m3 [0, 1, 2] (by exact ⟨rfl, rfl, rfl, rfl, rfl, rfl, trivial⟩) (by decide) (by kernel_rfl) (by exact ⟨(by subst hn3; exact H80), trivial⟩) (Nat.lt_succ_self _)
      ·have H95 := cnd_f hb H77; clear H77
       refine c_exit ?_
       refine c_seq ?_
       refine c_region ?_
       refine l_val rfl rfl rfl (r_assign (v := .bool true) rfl) ?_
       refine l_nil ?_
       refine c_sel [0, 1, 2] [poolC noH hp_2, roV 1 (.slice p.1 t31.1.length p.2) t31.1.length (css.map idC), mapC (fun x_ : (Int × Int) => .agg #[.int .i64 x_.1, .int .i64 x_.2]) (fun x_ : Bool => .bool x_) b4 mp_2] rfl (by decide) ?_
       refine c_ret ?_
       obtain rfl := Option.some.inj H95
       refine ret1 (v := .bool true) rfl rfl (fin rfl)
end Go.Proofs.Ytfihhlfkoghjeaa
