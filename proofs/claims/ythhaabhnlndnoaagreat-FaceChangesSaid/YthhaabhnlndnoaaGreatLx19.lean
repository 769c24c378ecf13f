/- Rules: rows of one's own that are known to have room: append within it. Conditions: none. -/
import Derived.Test.YthhaabhnlndnoaaGreatLx
import Derived.Test.YthhaabhnlndnoaaGreatMd
import Derived.Lib.ConvBytes
import Derived.Maps.RangeRun
import Derived.Shelf.Sort.Plain
import Derived.Shelf.Slices.In.SortNone
import Derived.Sort.OwnSortedInts
import Derived.Shelf.Slices.CompactS
import Derived.Sort.OwnSorted
import Derived.Shelf.Slices.CompactI
import Derived.Shelf.SlSortCmp.WholeK
import Derived.Shelf.SlSortCmp.NoneTotal
import Derived.ArgAppend
namespace Go.Lx
open Go Go.Vc Go.Md
section rules
variable {P : Program} {cx : Cx} {ops : Array Oper} {F : Zk → List Chunk → Prop} {ss : List Kd} {rest : List Oper} {e : Zk} {L : List Chunk}
end rules
def rowC (E : TypeId) (sz : Nat) (v : Value) (n : Nat) (xs : List (List Value)) (c : Nat) : Chunk where
 P S w := (J5 E sz v n xs).P S w ∧ c ≤ sc v
 loc S w w' h := fun ⟨h1, h2⟩ => ⟨(J5 E sz v n xs).loc S w w' h h1, h2⟩
theorem imp_rowC (E : TypeId) (sz : Nat) (v : Value) (n : Nat) (xs : List (List Value)) (c : Nat) : Imp (rowC E sz v n xs c) (J5 E sz v n xs) := ⟨fun _ _ h => h.1⟩
theorem imp_C0 (E : TypeId) (sz : Nat) (v : Value) : Imp (J5 E sz v 0 []) (rowC E sz v 0 [] 0) := ⟨fun _ _ h => ⟨h, Nat.zero_le _⟩⟩
section rules
variable {P : Program} {n : Nat} {cx : Cx} {e : Zk} {L : List Chunk} {d : Nat} {ty : TypeId} {pos : String} {af : Array Edge} {g : Option (Nat × Bool)}
theorem run_append_in {S X : Operand} {t E : TypeId} {I : TypeInfo} {sz : Nat} {w : World} {v : Value} {m : Nat} {xs : List Value} {ad : Addr} {q c : Nat} {news : List Value}
  (ht : P.underlying t = some (.slice E)) (hi : P.info? E = some I) (hsize : I.size = sz)
  (hs : ev e S = v) (hown : w.ownsRow 0 E sz v m xs) (hx : ev e X = .slice (some ad) q c) (hl : news.length = q * sz) (hnews : ∀ j u, news[j]? = some u → w.cell? (ad.add j) = some u) (h1 : ∀ u ∈ news, u.oneCell' = true) (hroom : m + q ≤ sc v) :
  ∃ v' w', (execOp (ev e) ⟨some d, .call ⟨.builtin .append, #[S, X], #[t, t]⟩, ty, pos, af, g⟩).run P w = .ok (.value v') w' ∧ w'.ownsRow 0 E sz v' (m + q) (xs ++ news) ∧ w.grownBy w' v.ownBlock ∧ v'.ownBlock = v.ownBlock ∧ sc v' = sc v := by
 subst hsize
 have hlen : (xs ++ news).length = (m + q) * I.size := by rw [List.length_append, hown.1, hl, Nat.add_mul]
 rcases hown.2 with ⟨rfl, rfl⟩ | ⟨g0, cap, cur, rfl, hbg, hg, hnc, hcm, hcs, htake⟩
 ·have hq : q = 0 := by simp only [sc] at hroom; omega
  subst hq
  have hn : news = [] := List.eq_nil_of_length_eq_zero (by simpa using hl)
  subst hn
  have hxs : xs = [] := List.eq_nil_of_length_eq_zero (by simpa using hown.1)
  subst hxs
  refine ⟨.slice none 0 0, w, ?_, World.ownsRow_nil w 0 E I.size, ⟨rfl, rfl, rfl, Nat.le_refl _, fun _ _ _ => rfl⟩, rfl, rfl⟩
  have hr : (Builtin.append_ #[t, t] ty #[.slice none 0 0, .slice (some ad) 0 c]).run P w = .ok (.slice none 0 0) w := by
   simp [Builtin.append_, run_underlying ht, sizeOf, typeInfo, hi, Builtin.lenOf, Builtin.firstCells, loadCells, loadCellsFrom]
  simp only [execOp, resolve, invoke, builtin, Sem.run_bind, Sem.run_pure, Result.andThen_ok, List.map_toArray, List.map_cons, List.map_nil, hs, hx, hr]
 ·simp only [sc] at hroom
  have hfit : m * I.size + news.length ≤ cur.size := by rw [hl, hcs, ← Nat.add_mul]; exact Nat.mul_le_mul_right _ hroom
  have hr := run_append_room (P := P) w t ty E I ht hi g0 m cap cur hg ad q c news hl hnews h1 hroom hfit
  have he : (execOp (ev e) ⟨some d, .call ⟨.builtin .append, #[S, X], #[t, t]⟩, ty, pos, af, g⟩).run P w = .ok (.value (.slice (some ⟨g0, 0, none⟩) (m + q) cap)) (w.setRow g0 (cur.toList.take (m * I.size) ++ news ++ cur.toList.drop (m * I.size + news.length)).toArray) := by
   simp only [execOp, resolve, invoke, builtin, Sem.run_bind, Sem.run_pure, Result.andThen_ok, List.map_toArray, List.map_cons, List.map_nil, hs, hx, hr]
  refine ⟨_, _, he, ⟨hlen, .inr ⟨g0, cap, _, rfl, hbg, setRow_heap w g0 cur _ E _ hg, hroom, hcm, ?_, ?_⟩⟩, ⟨rfl, rfl, rfl, by simp, fun k _ hk => setRow_other w g0 k _ (fun e => hk (by simp [Value.ownBlock, e]))⟩, rfl, rfl⟩
  ·simp only [List.size_toArray, List.length_append, List.length_take, List.length_drop, Array.length_toList]
   omega
  ·rw [htake, ← hlen]
   exact List.take_left
theorem turns_appC {α : Type} {f : α → List Value} {ys ls zs : List α} {i : Nat} {S X : Operand} {t E : TypeId} {I : TypeInfo} {z : Value} {sz by_ : Nat} {p : Option Addr × Nat} {rds : List Nat} {V : Value} {a : Option Addr} {c m q cp : Nat} (hn : m = ys.length)
  (ht : P.underlying t = some (.slice E)) (hi : P.info? E = some I) (_hz : I.zero = some z) (hsize : I.size = sz) (_hby : I.bytes = by_) (_hzs : z.cells.size = sz) (_hsz : Nat.blt 0 sz = true)
  (hL : L[i]? = some (rowC E sz (.slice p.1 m p.2) m (ys.map f) cp)) (hs : ev e S = .slice p.1 m p.2) (hx : ev e X = V) (hV : V = .slice a q c) (hq : q = ls.length)
  (hnews : ∀ w L', Fr cx w → Sat cx w L' → (∀ j, j ∈ rds → L'[j]? = L[j]?) → Row w a sz (ls.map f)) (hf : ∀ x, (f x).length = sz) (h1 : ∀ x, (f x).all Value.oneCell' = true) (hg : gApC cp ys ls = some zs) :
  Turns P cx e ⟨some d, .call ⟨.builtin .append, #[S, X], #[t, t]⟩, ty, pos, af, g⟩ L i rds (fun p' : Option Addr × Nat => .slice p'.1 zs.length p'.2) (fun p' => rowC E sz (.slice p'.1 zs.length p'.2) zs.length (zs.map f) cp) := by
 subst hn hq
 obtain ⟨rfl, hb1⟩ := gApC_some hg
 intro w L' hF hS hl hi'
 have hr := hnews w L' hF hS fun j hj => hi' j (.inl hj)
 have hL' := (hi' i (.inr rfl)).trans hL
 obtain ⟨S0, ⟨⟨⟨ho, hlen, hlx⟩, hob⟩, hcp⟩, _⟩ := hS.at hL'
 cases ha : a with
 | some ad =>
  subst ha
  have hnl : ∀ x ∈ ls.map f, x.length = sz := fun x hx => by obtain ⟨y, _, rfl⟩ := List.mem_map.1 hx; exact hf y
  have hfl : (ls.map f).flatten.length = ls.length * sz := by rw [Vx (ls.map f) hnl, List.length_map]
  have hcell : ∀ j u, (ls.map f).flatten[j]? = some u → w.cell? (ad.add j) = some u := by
   intro j u hj
   obtain ⟨i', k', x, g1, g2, g3⟩ := flat_get (ls.map f) hnl j u hj
   rcases hr with h | ⟨b, off, ha, h⟩
   ·rw [h] at g1; simp at g1
   ·cases ha
    have := (h i' x g1).2 k' u g2
    rw [Addr.add_lit, g3, ← Nat.add_assoc]
    exact this
  obtain ⟨v', w', hrun, h2, h3, h5, h6⟩ := run_append_in (P := P) (ty := ty) (pos := pos) (af := af) (g := g) (d := d) ht hi hsize hs ho (hx.trans hV) hfl hcell (by
   intro u hu
   obtain ⟨x, hx, hux⟩ := List.mem_flatten.1 hu
   obtain ⟨y, _, rfl⟩ := List.mem_map.1 hx
   exact List.all_eq_true.1 (h1 y) u hux) (Nat.le_trans hb1.1 hcp)
  obtain ⟨p', rfl⟩ := Jct h2
  rw [← List.flatten_append] at h2
  have hlc : (zs_ : List α) → zs_ = ys ++ ls → True := fun _ _ => trivial
  obtain ⟨hF', hS'⟩ := hS.turnOf hF hL' (C := rowC E sz (.slice p'.1 (ys.length + ls.length) p'.2) (ys.length + ls.length) ((ys.map f) ++ (ls.map f)) cp) fun S1 hp => by
   have ht := Ug hp.1.2 h2 h3 (.inl h5) (by simp) (by
    intro x hx
    rcases List.mem_append.1 hx with h | h
    ·exact hlx x h
    ·exact hnl x h)
   obtain ⟨k1, k2, k3, k4, k5, S2, k6, k7⟩ := ht
   exact ⟨k1, k2, k3, k4, k5, S2, ⟨k6, by rw [h6]; exact hcp⟩, k7⟩
  unfold RunsTo
  rw [hrun]
  refine ⟨p', by rw [List.length_append], hF', ?_⟩
  rw [List.length_append, List.map_append]
  exact hS'
 | none =>
  subst ha
  have hls : ls = [] := by
   rcases hr with h | ⟨b, off, h, _⟩
   ·simpa using h
   ·cases h
  subst hls
  have he : (execOp (ev e) ⟨some d, .call ⟨.builtin .append, #[S, X], #[t, t]⟩, ty, pos, af, g⟩).run P w = .ok (.value (.slice p.1 ys.length p.2)) w := by
   simp only [execOp, resolve, invoke, builtin, Sem.run_bind, Sem.run_pure, Result.andThen_ok, List.map_toArray, List.map_cons, List.map_nil, hs, hx, hV, List.length_nil, run_append_none_cap t ty E I sz ht hi _ _ _ c ho]
  unfold RunsTo
  rw [he]
  refine ⟨p, by simp, hF, ?_⟩
  have : L'.set i (rowC E sz (.slice p.1 (ys.length + 0) p.2) (ys.length + 0) ((ys ++ []).map f) cp) = L' := by
   rw [List.append_nil, Nat.add_zero]
   refine List.ext_getElem? fun j => ?_
   rw [List.getElem?_set]
   split
   ·rename_i h; subst h
    split
    ·exact hL'.symm
    ·rename_i h; rw [List.getElem?_eq_none (by omega)]
   ·rfl
  rw [List.append_nil] at this ⊢
  rw [show ys.length + 0 = ys.length from rfl] at this
  rw [this]
  exact hS
theorem makes_zerosC {S N : Operand} {t tn E : TypeId} {I : TypeInfo} {z : Value} {sz by_ m : Nat} {k kn : IntKind} {rds : List Nat} (ht : P.underlying t = some (.slice E)) (htn : P.underlying tn = some (.int kn)) (hi : P.info? E = some I) (hz : I.zero = some z) (hsize : I.size = sz) (hby : I.bytes = by_) (hzs : z.cells.size = sz) (hsz : Nat.blt 0 sz = true)
  (hs : ev e S = .slice none 0 0) (hn : ev e N = .int k (m : Int)) (h0 : 0 < m) (hm : m ≤ 281474976710656) (hb : by_ * m ≤ 281474976710656) :
  Makes P cx e ⟨some d, .call ⟨.builtin .append, #[S, N], #[t, tn]⟩, ty, pos, af, g⟩ L rds (fun x : Nat × Nat => .slice (some ⟨x.1, 0, none⟩) m x.2) (fun x => rowC E sz (.slice (some ⟨x.1, 0, none⟩) 0 x.2) 0 [] m) := fun w L' hF hS hi' => by
 subst hsize hby
 have hr := Lib.run_append_nil_zeros (P := P) w t tn ty E I z k kn ht htn hi hz m h0 (by simpa using hsz) (by omega) (by rw [Nat.mul_comm]; omega)
 have hge := grownCap_ge w m 0 E
 have hcm : grownCap w m 0 E ≤ maxLen := grownCap_le_maxLen w m 0 E (by simp only [maxLen]; omega)
 have he : (execOp (ev e) ⟨some d, .call ⟨.builtin .append, #[S, N], #[t, tn]⟩, ty, pos, af, g⟩).run P w = .ok (.value (.slice (some ⟨w.heap.size, 0, none⟩) m (grownCap w m 0 E))) (w.drew.alloc (.cells (Builtin.zeroCells z.cells m ++ Builtin.zeroCells z.cells (grownCap w m 0 E - m)) E)) := by
  simp only [execOp, resolve, invoke, builtin, Sem.run_bind, Sem.run_pure, Result.andThen_ok, List.map_toArray, List.map_cons, List.map_nil, hs, hn, hr]
 unfold RunsTo
 rw [he]
 have hby := grown_by w (.cells (Builtin.zeroCells z.cells m ++ Builtin.zeroCells z.cells (grownCap w m 0 E - m)) E) none
 refine ⟨(w.heap.size, grownCap w m 0 E), rfl, hby.os, hby.tape, hby.output, hby.size, fun b hb _ => hby.block b hb (by simp), fun b => b = w.heap.size, ⟨⟨⟨⟨by simp, .inr ⟨w.heap.size, _, _, rfl, Nat.zero_le _, heap_alloc_new w.drew _, Nat.zero_le _, hcm, ?_, by simp⟩⟩, rfl, by simp⟩, fun b hb => ?_⟩, hge⟩, fun b hb => ?_⟩
 ·simp only [Array.size_append, size_zeroCells, hzs]
  rw [← Nat.add_mul]
  congr 1
  omega
 ·simp [Value.ownBlock] at hb; exact hb.symm
 ·subst hb
  exact ⟨by simp, .inr (Nat.le_refl _)⟩
end rules
end Go.Lx

/- Taking elements out of a row of one's own: append(s[:a], s[b:]...) at one row. Conditions: none. -/
namespace Go.Lx
open Go Go.Vc Go.Md
section rules
variable {P : Program} {n : Nat} {cx : Cx} {e : Zk} {L : List Chunk} {d : Nat} {ty : TypeId} {pos : String} {af : Array Edge} {g : Option (Nat × Bool)}
theorem owns_take {w : World} {E : TypeId} {sz m a : Nat} {p : Option Addr × Nat} {xs : List Value} (h : w.ownsRow 0 E sz (.slice p.1 m p.2) m xs) (ha : a ≤ m) : w.ownsRow 0 E sz (.slice p.1 a p.2) a (xs.take (a * sz)) := by
 have hle : a * sz ≤ m * sz := Nat.mul_le_mul_right _ ha
 refine ⟨by rw [List.length_take, h.1]; omega, ?_⟩
 rcases h.2 with ⟨hv, hm⟩ | ⟨g0, cap, cur, hv, hbg, hg, hnc, hcm, hcs, htake⟩
 ·injection hv with h1 h2 h3
  subst h2
  have : a = 0 := by omega
  subst this
  exact .inl ⟨by rw [h1, h3], by simp⟩
 ·injection hv with h1 h2 h3
  refine .inr ⟨g0, cap, cur, by rw [h1, h3], hbg, hg, by omega, hcm, hcs, ?_⟩
  rw [← htake, List.take_take, Nat.min_eq_left hle]
theorem ownBlock_len (x : Option Addr) (a m c : Nat) : (Value.slice x a c).ownBlock = (Value.slice x m c).ownBlock := by cases x <;> rfl
theorem flat_takeN {sz : Nat} : ∀ {xs : List (List Value)} (a : Nat), (∀ x ∈ xs, x.length = sz) → xs.flatten.take (a * sz) = (xs.take a).flatten
 | [], a, _ => by simp
 | x :: xs, 0, _ => by simp
 | x :: xs, a + 1, h => by
  have hx := h x (by simp)
  rw [List.take_succ_cons, List.flatten_cons, List.flatten_cons, Nat.succ_mul, List.take_append, hx, List.take_of_length_le (by omega), show a * sz + sz - sz = a * sz from by omega, flat_takeN a fun y hy => h y (by simp [hy])]
theorem zero_one {z : Value} {q : Nat} (h1 : z.cells.toList.all Value.oneCell' = true) : ∀ v ∈ (Builtin.zeroCells z.cells q).toList, v.oneCell' = true := by
 intro v hv
 unfold Builtin.zeroCells at hv
 simp only [Array.toList_map, Array.toList_range, List.mem_map, List.mem_range] at hv
 obtain ⟨j, hj, rfl⟩ := hv
 have hs : 0 < z.cells.size := by
  rcases Nat.eq_zero_or_pos z.cells.size with h | h
  ·rw [h] at hj; simp at hj
  ·exact h
 have hm : j % z.cells.size < z.cells.size := Nat.mod_lt _ hs
 rw [getElem!_pos z.cells _ hm]
 exact List.all_eq_true.1 h1 _ (by rw [← Array.getElem_toList]; exact List.getElem_mem _)
end rules
end Go.Lx

/- Rules: the beginning of a row of one's own as a row, slices with three indices, clear of a part of a row. Conditions: none. -/
namespace Go.Lx
open Go Go.Vc Go.Md
theorem cutA_zero (a : Option Addr) (m sz : Nat) : Za a 0 m sz = a := by
 unfold Za
 split
 ·rfl
 ·cases a with
  | none => rfl
  | some x => obtain ⟨b, o, f⟩ := x; simp [Addr.add]
theorem Row.cut0G {α : Type} {w : World} {a : Option Addr} {m c sz : Nat} {f : α → List Value} {xs ys : List α} {q : Int} (h : Row w a sz (xs.map f)) (hm : m = xs.length) (hc : m ≤ c) (e : Ux xs 0 q = some ys) : Row w a sz (ys.map f) := by
 have := Row.cutG h hm hc e
 rwa [show (0 : Int).toNat = 0 from rfl, cutA_zero] at this
section ops
variable {P : Program} {e : Zk} {d : Option Nat} {ty : TypeId} {pos : String} {af : Array Edge} {g : Option (Nat × Bool)}
theorem Jbb {α : Type} {X B : Operand} {a : Option Addr} {m c : Nat} {t u sz : Nat} {kb : IntKind} {q : Int} {xs ys : List α} {w : World} (hu : P.underlying t = some (.slice u)) (hs : ∀ w, (sizeOf u).run P w = .ok sz w)
  (hx : ev e X = .slice a m c) (hb : ev e B = .int kb q) (hm : m = xs.length) (hc : m ≤ c) (hg : Ux xs 0 q = some ys) :
  (execOp (ev e) ⟨d, .slice t X none (some B) none, ty, pos, af, g⟩).run P w = .ok (.value (.slice a ys.length c)) w := by
 obtain ⟨g0, g1, g2, _⟩ := Wz hg
 have hl := gCut_len hg
 rw [r_sliceH hu hs hx hb g1 (by omega) w, hl, cutA_zero]; rfl
theorem run_slice3O {α : Type} {X A B M : Operand} {a : Option Addr} {m c : Nat} {t u sz : Nat} {ka kb km : IntKind} {l q : Int} {xs ys : List α} {w : World} (hu : P.underlying t = some (.slice u)) (hs : ∀ w, (sizeOf u).run P w = .ok sz w)
  (hx : ev e X = .slice a m c) (ha : ev e A = .int ka l) (hb : ev e B = .int kb q) (hmx : ev e M = .int km (xs.length : Int)) (hm : m = xs.length) (hc : m ≤ c) (hg : Ux xs l q = some ys) :
  (execOp (ev e) ⟨d, .slice t X (some A) (some B) (some M), ty, pos, af, g⟩).run P w = .ok (.value (.slice (Za a l.toNat m sz) ys.length (m - l.toNat))) w := by
 obtain ⟨g0, g1, g2, _⟩ := Wz hg
 have hl := gCut_len hg
 have hu' : P.underlying t = some (.slice (P.elem t)) := by rw [elem_of hu]; exact hu
 subst hm
 simp only [execOp, Option.map_some, Option.map_none, hx, ha, hb, hmx, Sem.run_bind, run_sliceAt_slice w t _ _ _ _ hu', run_slice_lhm w t a _ c hu' ka kb km l q _ g0 g1 g2 (Int.ofNat_le.2 hc), elem_of hu, hs, Result.andThen_ok, Sem.run_pure, sliced, Za, Int.toNat_natCast, hl]
theorem run_sliceRoom {X A B : Operand} {a : Option Addr} {m c : Nat} {t u sz : Nat} {ka kb : IntKind} {q : Int} {w : World} (hu : P.underlying t = some (.slice u)) (hs : ∀ w, (sizeOf u).run P w = .ok sz w)
  (hx : ev e X = .slice a m c) (ha : ev e A = .int ka (m : Int)) (hb : ev e B = .int kb q) (h1 : (m : Int) ≤ q) (h2 : q ≤ c) :
  (execOp (ev e) ⟨d, .slice t X (some A) (some B) none, ty, pos, af, g⟩).run P w = .ok (.value (.slice (Za a m c sz) (q.toNat - m) (c - m))) w := by
 have := r_sliceLH (d := d) (ty := ty) (pos := pos) (af := af) (g := g) hu hs hx ha hb (Int.natCast_nonneg m) h1 h2 w
 rwa [Int.toNat_natCast] at this
end ops
section rules
variable {P : Program} {n : Nat} {cx : Cx} {e : Zk} {L : List Chunk} {d : Nat} {ty : TypeId} {pos : String} {af : Array Edge} {g : Option (Nat × Bool)}
theorem someOf {α : Type} {w : World} {i E sz n c : Nat} {a : Option Addr} {f : α → List Value} {xs : List α} {k : Int} {x : α} (hS : Sat cx w L) (hL : L[i]? = some (J5 E sz (.slice a n c) n (xs.map f))) (hg : Jk xs k = some x) : ∃ b off, a = some ⟨b, off, none⟩ := by
 obtain ⟨S, ⟨⟨h1, h2, h3⟩, _⟩, _⟩ := hS.at hL
 have := (Ye hg).2.1
 rcases h1.2 with ⟨hv, h0⟩ | ⟨g, cap, cur, hv, _, hh, hnc, _⟩
 ·rw [List.length_map] at h2; omega
 ·simp only [Value.slice.injEq] at hv; exact ⟨g, 0, hv.1⟩
theorem imp_shrink {α : Type} {E sz m : Nat} {p : Option Addr × Nat} {f : α → List Value} {xs ys : List α} {q : Int} (hm : m = xs.length) (g : Ux xs 0 q = some ys) :
  Imp (J5 E sz (.slice p.1 m p.2) m (xs.map f)) (rowC E sz (.slice p.1 ys.length p.2) ys.length (ys.map f) xs.length) := by
 refine ⟨fun S w => ?_⟩
 obtain ⟨g0, g1, g2, rfl⟩ := Wz g
 subst hm
 rintro ⟨⟨ho, hlen, hlx⟩, hob⟩
 have hl : ((xs.drop (0 : Int).toNat).take (q.toNat - (0 : Int).toNat)).length = q.toNat := by rw [List.length_take, List.length_drop]; simp; omega
 rw [hl]
 have hoa := owns_take ho (a := q.toNat) (by omega)
 rw [flat_takeN q.toNat hlx, ← List.map_take] at hoa
 have e : (xs.drop (0 : Int).toNat).take (q.toNat - (0 : Int).toNat) = xs.take q.toNat := by simp
 rw [e]
 refine ⟨⟨⟨hoa, by rw [List.length_map, List.length_take]; omega, fun x hx => ?_⟩, fun b hb => hob b ((ownBlock_len _ _ _ _) ▸ hb)⟩, ?_⟩
 ·obtain ⟨y, hy, rfl⟩ := List.mem_map.1 hx
  exact hlx _ (List.mem_map_of_mem (List.mem_of_mem_take hy))
 ·rcases ho.2 with ⟨hv, h0⟩ | ⟨g, cap, cur, hv, _, hh, hnc, _⟩
  ·simp only [Value.slice.injEq] at hv; simp only [sc]; omega
  ·simp only [Value.slice.injEq] at hv; simp only [sc]; omega
theorem Turns.pre {σ : Type} {o : Oper} {i : Nat} {rds : List Nat} {G : σ → Value} {D : σ → Chunk} {C C' : Chunk} (hI : Imp C C') (hL : L[i]? = some C) (hr : i ∉ rds) (h : Turns P cx e o (L.set i C') i rds G D) : Turns P cx e o L i rds G D := by
 intro w L' hF hS hl hi
 have hLi := (hi i (.inr rfl)).trans hL
 have hS' : Sat cx w (L'.set i C') := hS.set hF hLi (Nat.le_refl _) fun S hp hb => ⟨S, hI.out S w hp, fun b hs => ⟨(hb b hs).1, .inl hs⟩, fun _ _ _ => rfl⟩
 have hil : i < L.length := by
  rcases Nat.lt_or_ge i L.length with h | h
  ·exact h
  ·rw [List.getElem?_eq_none h] at hL; cases hL
 have := h w (L'.set i C') hF hS' (by simp [hl]) fun j hj => by
  by_cases hji : j = i
  ·subst hji; rw [List.getElem?_set_self (by omega), List.getElem?_set_self hil]
  ·rw [List.getElem?_set_ne (fun e => hji e.symm), List.getElem?_set_ne (fun e => hji e.symm)]
   exact hi j (hj.imp_right fun h => h)
 simpa [List.set_set] using this
theorem flat_dropN {sz : Nat} : ∀ {xs : List (List Value)} (a : Nat), (∀ x ∈ xs, x.length = sz) → xs.flatten.drop (a * sz) = (xs.drop a).flatten
 | [], a, _ => by simp
 | x :: xs, 0, _ => by simp
 | x :: xs, a + 1, h => by
  have hx := h x (by simp)
  rw [List.drop_succ_cons, List.flatten_cons, Nat.succ_mul, List.drop_append, hx, List.drop_eq_nil_of_le (by omega), List.nil_append, show a * sz + sz - sz = a * sz from by omega, flat_dropN a fun y hy => h y (by simp [hy])]
theorem splice_take {β : Type} (cl Z : List β) (A N : Nat) (h1 : A + Z.length ≤ N) (h2 : N ≤ cl.length) : (cl.take A ++ Z ++ cl.drop (A + Z.length)).take N = (cl.take N).take A ++ (Z ++ (cl.take N).drop (A + Z.length)) := by
 have e1 : min A cl.length = A := by omega
 rw [List.append_assoc, List.take_append, List.length_take, e1, List.take_of_length_le (l := cl.take A) (by rw [List.length_take]; omega), List.take_append, List.take_of_length_le (l := Z) (by omega), List.take_take, Nat.min_eq_left (show A ≤ N by omega), List.drop_take, Nat.sub_sub]
theorem zeros_flat {z : Value} {cs : List Value} (hz : z.cells.toList = cs) (q : Nat) : (Builtin.zeroCells z.cells q).toList = (List.replicate q cs).flatten := by
 subst hz
 unfold Builtin.zeroCells
 simp only [Array.toList_map, Array.toList_range]
 have key : ∀ q, (List.range (q * z.cells.size)).map (fun j => z.cells[j % z.cells.size]!) = (List.replicate q z.cells.toList).flatten := by
  intro q
  induction q with
  | zero => simp
  | succ q ih =>
   rw [List.replicate_succ', List.flatten_concat, Nat.succ_mul, List.range_add, List.map_append, ih, List.map_map]
   congr 1
   apply List.ext_getElem
   ·simp
   ·intro j h1 h2
    simp only [List.length_map, List.length_range] at h1
    simp only [List.getElem_map, List.getElem_range, Function.comp, Nat.add_comm, Nat.add_mul_mod_self_right, Nat.mod_eq_of_lt h1, Array.getElem_toList]
    rw [getElem!_pos z.cells _ h1]
 exact key q
theorem turns_clearV {α : Type} {f : α → List Value} {ys ts : List α} {z0 : α} {i : Nat} {X : Operand} {t E : TypeId} {z : Value} {sz : Nat} {p : Option Addr × Nat} {rds : List Nat} {c m : Nat} {a q : Int} (hm : m = ys.length)
  (ht : P.underlying t = some (.slice E)) (hz : ∀ w, (zeroValue E).run P w = .ok z w) (hzs : z.cells.toList = f z0) (hf : ∀ x, (f x).length = sz) (h1 : ∀ x, (f x).all Value.oneCell' = true)
  (hL : L[i]? = some (J5 E sz (.slice p.1 m p.2) m (ys.map f))) (hg : Ux ys a q = some ts) (hx : ev e X = .slice (Za p.1 a.toNat p.2 sz) ts.length c) {dst : Option Nat} :
  Turns P cx e ⟨dst, .call ⟨.builtin .clear, #[X], #[t]⟩, ty, pos, af, g⟩ L i rds (fun _ : Unit => .tuple #[]) (fun _ => J5 E sz (.slice p.1 m p.2) m ((clrL ys a q z0).map f)) := by
 subst hm
 intro w L' hF hS hl hi'
 have hL' := (hi' i (.inr rfl)).trans hL
 obtain ⟨S0, ⟨⟨ho, hlen, hlx⟩, hob⟩, _⟩ := hS.at hL'
 have hn := gCut_len hg
 obtain ⟨g0, g1, g2, hts⟩ := Wz hg
 have hset : ∀ C, L'[i]? = some C → L'.set i C = L' := by
  intro C hC
  refine List.ext_getElem? fun j => ?_
  rw [List.getElem?_set]
  split
  ·rename_i h; subst h
   split
   ·exact hC.symm
   ·rename_i h; rw [List.getElem?_eq_none (by omega)]
  ·rfl
 rcases Nat.eq_zero_or_pos ts.length with hq0 | hq0
 ·rw [hq0] at hx
  have he : (execOp (ev e) ⟨dst, .call ⟨.builtin .clear, #[X], #[t]⟩, ty, pos, af, g⟩).run P w = .ok (.value (.tuple #[])) w := by
   have hr : (Builtin.clear_ #[t] ty #[.slice (Za p.1 a.toNat p.2 sz) 0 c]).run P w = .ok (.tuple #[]) w := by
    cases Za p.1 a.toNat p.2 sz <;> simp [Builtin.clear_, run_underlying ht]
   simp only [execOp, resolve, invoke, builtin, Sem.run_bind, Sem.run_pure, Result.andThen_ok, List.map_toArray, List.map_cons, List.map_nil, hx, hr]
  have hc : clrL ys a q z0 = ys := by
   unfold clrL
   have : q.toNat = a.toNat := by omega
   rw [this, Nat.sub_self, List.replicate_zero, List.nil_append, List.take_append_drop]
  unfold RunsTo
  rw [he, hc]
  exact ⟨(), rfl, hF, by rw [hset _ hL']; exact hS⟩
 ·rcases ho.2 with ⟨hv, hm⟩ | ⟨b0, cap, cur, hv, hbg, hg0, hnc, hcm, hcs, htake⟩
  ·injection hv with e1 e2 e3
   omega
  ·have hv' := hv
   injection hv with e1 e2 e3
   have hcut : Za p.1 a.toNat p.2 sz = some ⟨b0, a.toNat * sz, none⟩ := by
    unfold Za
    rw [if_neg (by omega), e1]; simp [Addr.add]; try omega
   rw [hcut] at hx
   have hzc := zeros_flat hzs ts.length
   have hzl : (Builtin.zeroCells z.cells ts.length).toList.length = ts.length * sz := by rw [hzc, Vx (sz := sz) _ (fun x hx => by rw [(List.mem_replicate.1 hx).2]; exact hf z0), List.length_replicate]
   have hz1 : ∀ v ∈ (Builtin.zeroCells z.cells ts.length).toList, v.oneCell' = true := by
    intro v hv
    rw [hzc] at hv
    obtain ⟨l, hl, hvl⟩ := List.mem_flatten.1 hv
    rw [(List.mem_replicate.1 hl).2] at hvl
    exact List.all_eq_true.1 (h1 z0) v hvl
   have hle : a.toNat * sz + ts.length * sz ≤ ys.length * sz := by rw [← Nat.add_mul]; exact Nat.mul_le_mul_right _ (by omega)
   have hle2 : ys.length * sz ≤ cur.size := by rw [hcs]; exact Nat.mul_le_mul_right _ (by omega)
   have hfit : a.toNat * sz + 0 + (Builtin.zeroCells z.cells ts.length).toList.length ≤ cur.size := by rw [hzl]; omega
   have hst := run_storeCells_at (P := P) b0 (a.toNat * sz) E (Builtin.zeroCells z.cells ts.length).toList 0 cur w hg0 hfit hz1
   have hflat : (clrL ys a q z0).map f = (ys.map f).take a.toNat ++ (List.replicate ts.length (f z0) ++ (ys.map f).drop q.toNat) := by
    unfold clrL
    rw [hn]; simp [List.map_append, List.map_take, List.map_drop, List.map_replicate]
   have hnew : (cur.toList.take (a.toNat * sz + 0) ++ (Builtin.zeroCells z.cells ts.length).toList ++ cur.toList.drop (a.toNat * sz + 0 + (Builtin.zeroCells z.cells ts.length).toList.length)).take (ys.length * sz) = ((clrL ys a q z0).map f).flatten := by
    have e4 : q.toNat * sz = a.toNat * sz + ts.length * sz := by rw [← Nat.add_mul]; congr 1; omega
    rw [Nat.add_zero, splice_take _ _ _ _ (by rw [hzl]; omega) (by rw [Array.length_toList]; omega), htake, hflat, List.flatten_append, List.flatten_append, ← hzc, ← flat_takeN a.toNat hlx, ← flat_dropN q.toNat hlx, hzl, e4]
   have he : (execOp (ev e) ⟨dst, .call ⟨.builtin .clear, #[X], #[t]⟩, ty, pos, af, g⟩).run P w = .ok (.value (.tuple #[])) (w.setRow b0 (cur.toList.take (a.toNat * sz + 0) ++ (Builtin.zeroCells z.cells ts.length).toList ++ cur.toList.drop (a.toNat * sz + 0 + (Builtin.zeroCells z.cells ts.length).toList.length)).toArray) := by
    have hr : (Builtin.clear_ #[t] ty #[.slice (some ⟨b0, a.toNat * sz, none⟩) ts.length c]).run P w = .ok (.tuple #[]) (w.setRow b0 (cur.toList.take (a.toNat * sz + 0) ++ (Builtin.zeroCells z.cells ts.length).toList ++ cur.toList.drop (a.toNat * sz + 0 + (Builtin.zeroCells z.cells ts.length).toList.length)).toArray) := by
     obtain ⟨q', hq'⟩ : ∃ q', ts.length = q' + 1 := ⟨ts.length - 1, by omega⟩
     rw [hq'] at hst ⊢
     simp only [Builtin.clear_, Sem.run_bind, run_underlying ht, Result.andThen_ok, hz, hst, Sem.run_pure, List.getElem?_toArray, List.getElem?_cons_zero]
    simp only [execOp, resolve, invoke, builtin, Sem.run_bind, Sem.run_pure, Result.andThen_ok, List.map_toArray, List.map_cons, List.map_nil, hx, hr]
   have hlc : ∀ x ∈ (clrL ys a q z0).map f, x.length = sz := fun x hx => by obtain ⟨y, _, rfl⟩ := List.mem_map.1 hx; exact hf y
   have hown : (w.setRow b0 (cur.toList.take (a.toNat * sz + 0) ++ (Builtin.zeroCells z.cells ts.length).toList ++ cur.toList.drop (a.toNat * sz + 0 + (Builtin.zeroCells z.cells ts.length).toList.length)).toArray).ownsRow 0 E sz (.slice p.1 ys.length p.2) ys.length ((clrL ys a q z0).map f).flatten := by
    refine ⟨by rw [Vx _ hlc, List.length_map, clrL_len hg], .inr ⟨b0, cap, _, hv', hbg, setRow_heap w b0 cur _ E _ hg0, hnc, hcm, ?_, ?_⟩⟩
    ·have hf2 := hfit
     simp only [List.size_toArray, List.length_append, List.length_take, List.length_drop, Array.length_toList] at hf2 ⊢
     omega
    ·exact hnew
   obtain ⟨hF', hS'⟩ := hS.turnOf hF hL' (C := J5 E sz (.slice p.1 ys.length p.2) ys.length ((clrL ys a q z0).map f)) fun S1 hp => by
    exact Ug (w := w) (v := .slice p.1 ys.length p.2) (v' := .slice p.1 ys.length p.2) (fun b hb => hp.2 b hb) hown ⟨rfl, rfl, rfl, by simp, fun k _ hk => setRow_other w b0 k _ (fun e => hk (by rw [e1]; simp [Value.ownBlock, e]))⟩ (.inl rfl) (by rw [List.length_map, clrL_len hg]) hlc
   unfold RunsTo
   rw [he]
   exact ⟨(), rfl, hF', hS'⟩
end rules
end Go.Lx

/- Rules: rows out of strings (their block bears a mark behind its cells), appended to; append of something to a row that may be full. Conditions: none. -/
namespace Go.Lx
open Go Go.Vc Go.Md
section plain
variable {P : Program}
end plain
def markR (w : World) (E sz : Nat) (v : Value) (n : Nat) (xs : List (List Value)) : Prop :=
 ∃ g cap cur k, v = .slice (some ⟨g, 0, none⟩) n cap ∧ w.heap[g]? = some (.cells cur E k) ∧ cur.size ≤ k.1 ∧ n ≤ cap ∧ cap ≤ maxLen ∧ cur.size = cap * sz ∧ cur.toList.take (n * sz) = xs.flatten
def mkC (w : World) (E sz : Nat) (v : Value) (n : Nat) (xs : List (List Value)) : Prop :=
 (apC w E sz v n xs ∨ markR w E sz v n xs) ∧ xs.length = n ∧ ∀ x ∈ xs, x.length = sz
theorem markR.frs {w : World} {E sz : Nat} {v : Value} {n : Nat} {xs : List (List Value)} (h : markR w E sz v n xs) (hn : xs.length = n) (hl : ∀ x ∈ xs, x.length = sz) : FrS (fun b => w.heap[b]?) sz v xs := by
 obtain ⟨g, cap, cur, k, rfl, hh, _, hnc, hm, hcs, ht⟩ := h
 subst hn
 refine ⟨some ⟨g, 0, none⟩, cap, rfl, hnc, by simpa [maxLen] using hm, .inr ⟨g, 0, cur, E, k, rfl, hh, fun i x hx => ⟨hl x (List.mem_of_getElem? hx), fun j v hv => ?_⟩⟩⟩
 have hi : i < xs.length := by
  rcases Nat.lt_or_ge i xs.length with h | h
  ·exact h
  ·rw [List.getElem?_eq_none h] at hx; cases hx
 have hj : j < sz := by
  have := hl x (List.mem_of_getElem? hx)
  rcases Nat.lt_or_ge j x.length with h | h
  ·omega
  ·rw [List.getElem?_eq_none h] at hv; cases hv
 have hr := row_get xs i x (List.all_eq_true.2 fun x hx => by simpa using hl x hx) hx j v hv
 rw [← ht, List.getElem?_take] at hr
 split at hr
 ·rw [Nat.zero_add, ← Array.getElem?_toList]; exact hr
 ·cases hr
theorem mkC.frs {w : World} {E sz : Nat} {v : Value} {n : Nat} {xs : List (List Value)} (h : mkC w E sz v n xs) : FrS (fun b => w.heap[b]?) sz v xs :=
 h.1.elim (fun h1 => h1.frs) (fun h1 => h1.frs h.2.1 h.2.2)
theorem mkC.lt {w : World} {E sz : Nat} {v : Value} {n : Nat} {xs : List (List Value)} (h : mkC w E sz v n xs) (b : Nat) (hb : v.ownBlock = some b) : b < w.heap.size := by
 rcases h.1 with h1 | ⟨g, cap, cur, k, rfl, h1, _⟩
 ·exact h1.lt b hb
 ·simp [Value.ownBlock] at hb
  subst hb
  exact (Array.getElem?_eq_some_iff.1 h1).1
theorem mkC.slice {w : World} {E sz : Nat} {v : Value} {n : Nat} {xs : List (List Value)} (h : mkC w E sz v n xs) : ∃ p : Option Addr × Nat, v = .slice p.1 n p.2 := by
 rcases h.1 with h1 | ⟨g, cap, cur, k, rfl, _⟩
 ·exact h1.slice
 ·exact ⟨(some ⟨g, 0, none⟩, cap), rfl⟩
def mkV (E : TypeId) (sz : Nat) (v : Value) (n : Nat) (xs : List (List Value)) : Chunk where
 P S w := mkC w E sz v n xs ∧ ∀ b, v.ownBlock = some b → S b
 loc S w w' h := by
  rintro ⟨⟨h1 | ⟨g, cap, cur, k, rfl, hh, hr⟩, h3⟩, h4⟩
  ·exact ⟨⟨.inl ((apV E sz v n xs).loc S w w' h ⟨h1, h4⟩).1, h3⟩, h4⟩
  ·exact ⟨⟨.inr ⟨g, cap, cur, k, rfl, (h g (h4 g rfl)).trans hh, hr⟩, h3⟩, h4⟩
section rules
variable {P : Program} {n : Nat} {cx : Cx} {e : Zk} {L : List Chunk} {d : Nat} {ty : TypeId} {pos : String} {af : Array Edge} {g : Option (Nat × Bool)}
theorem frs_mk {α : Type} {w : World} {i E sz m : Nat} {v : Value} {xs : List α} {f : α → List Value} (hS : Sat cx w L) (hL : L[i]? = some (mkV E sz v m (xs.map f))) : FrS (fun b => w.heap[b]?) sz v (xs.map f) := by
 obtain ⟨S, ⟨h, _⟩, _⟩ := hS.at hL
 exact h.frs
theorem bytes_flat {f : Int → List Value} (hf : ∀ x, f x = [.int .u8 x]) (s : List UInt8) : ((ofStr s).map f).flatten = s.map fun b => Value.int .u8 (b.toNat : Int) := by
 unfold ofStr
 induction s with
 | nil => rfl
 | cons c s ih => simp only [List.map_cons, List.flatten_cons, hf, List.singleton_append, List.cons.injEq, true_and]; simpa using ih
theorem makes_bytes {f : Int → List Value} {X : Operand} {src dst E : TypeId} {s : List UInt8} {rds : List Nat} (hs : P.underlying src = some .string) (hd : P.underlying dst = some (.slice E)) (he : P.underlying E = some (.int .u8)) (hx : ev e X = Xt s) (hf : ∀ x, f x = [.int .u8 x]) (hl : s.length ≤ 9223372036854775807) :
  Makes P cx e ⟨some d, .convert src dst X, ty, pos, af, g⟩ L rds (fun p : Option Addr × Nat => .slice p.1 (ofStr s).length p.2) (fun p => mkV E 1 (.slice p.1 (ofStr s).length p.2) (ofStr s).length ((ofStr s).map f)) := fun w L' hF hS hi' => by
 have hr := Lib.run_convert_string_bytes (P := P) w src dst E ⟨s.toArray⟩ hs hd he
 have hsz : (⟨s.toArray⟩ : ByteArray).size = s.length := strSize s
 have hlen : (ofStr s).length = s.length := by unfold ofStr; simp
 have hcs : (Lib.bytesCells w E ⟨s.toArray⟩).size = grownCap w s.length 0 E := by
  have := grownCap_ge w s.length 0 E
  unfold Lib.bytesCells
  rw [hsz]; simp; omega
 have hx' : (execOp (ev e) ⟨some d, .convert src dst X, ty, pos, af, g⟩).run P w = .ok (.value (.slice (some ⟨w.heap.size, 0, none⟩) s.length (grownCap w s.length 0 E))) (Lib.bytesWorld w E ⟨s.toArray⟩) := by
  have hr' : (convert src dst (Xt s)).run P w = .ok (.slice (some ⟨w.heap.size, 0, none⟩) s.length (grownCap w s.length 0 E)) (Lib.bytesWorld w E ⟨s.toArray⟩) := by
   rw [hsz] at hr; exact hr
  simp only [execOp, Sem.run_bind, hx, hr', Result.andThen_ok, Sem.run_pure]
 unfold RunsTo
 rw [hx']
 refine ⟨(some ⟨w.heap.size, 0, none⟩, grownCap w s.length 0 E), by rw [hlen], ?_⟩
 have hsize := Lib.bytesWorld_size w E ⟨s.toArray⟩
 rw [hlen]
 refine ⟨by simp [Lib.bytesWorld, World.freeze, World.alloc, World.drew, -World.alloc_eq, -World.drew_eq], by simp [Lib.bytesWorld, World.freeze, World.alloc, World.drew, -World.alloc_eq, -World.drew_eq], by simp [Lib.bytesWorld, World.freeze, World.alloc, World.drew, -World.alloc_eq, -World.drew_eq], by rw [hsize]; omega, fun b hb _ => Lib.bytesWorld_at_old w E _ b hb, fun b => b = w.heap.size, ⟨⟨.inr ?_, by rw [List.length_map, hlen], fun x hx => ?_⟩, fun b hb => ?_⟩, fun b hb => ?_⟩
 ·refine ⟨w.heap.size, _, _, _, rfl, Lib.bytesWorld_at_new w E ⟨s.toArray⟩, Nat.le_refl _, grownCap_ge w _ 0 E, grownCap_le_maxLen w _ 0 E (by simp only [maxLen]; exact hl), by rw [hcs, Nat.mul_one], ?_⟩
  rw [bytes_flat hf, Nat.mul_one]
  unfold Lib.bytesCells
  simp
 ·obtain ⟨y, _, rfl⟩ := List.mem_map.1 hx
  rw [hf]; rfl
 ·simp [Value.ownBlock] at hb; exact hb.symm
 ·subst hb
  exact ⟨by rw [hsize]; omega, .inr (Nat.le_refl _)⟩
theorem makes_byt {f : Int → List Value} {X : Operand} {src dst E : TypeId} {s : List UInt8} {xs : List Int} {rds : List Nat} (hs : P.underlying src = some .string) (hd : P.underlying dst = some (.slice E)) (he : P.underlying E = some (.int .u8)) (hx : ev e X = Xt s) (hf : ∀ x, f x = [.int .u8 x]) (hg : gByt s = some xs) :
  Makes P cx e ⟨some d, .convert src dst X, ty, pos, af, g⟩ L rds (fun p : Option Addr × Nat => .slice p.1 xs.length p.2) (fun p => mkV E 1 (.slice p.1 xs.length p.2) xs.length (xs.map f)) := by
 obtain ⟨rfl, hl⟩ := gByt_some hg
 exact makes_bytes hs hd he hx hf hl
end rules
end Go.Lx

/- Rules: maps of one's own: made, read, written, ranged over in whatever order. Conditions: those that each rule names. -/
namespace Go.Lx
open Go Go.Vc Go.Md
open Go.MapKept (IsKey Stamped)
structure KeyF {κ : Type} (d : TypeDesc) (fk : κ → Value) : Prop where
 isKey : ∀ k, IsKey d (fk k)
 inj : ∀ a b, fk a = fk b → a = b
theorem keyF_int {k : IntKind} : KeyF (.int k) (fun x : Int => Value.int k x) := ⟨fun x => by simp [IsKey], fun a b h => by simpa using h⟩
def Ents {κ ν : Type} (fk : κ → Value) (fv : ν → Value) (es : List MapEntry) (xs : List (κ × ν)) : Prop := es.map (fun e => (e.key, e.val)) = xs.map (fun p => (fk p.1, fv p.2))
def mapC {κ ν : Type} (fk : κ → Value) (fv : ν → Value) (b : Nat) (xs : List (κ × ν)) : Chunk where
 P S w := (∀ x, S x ↔ x = b) ∧ ∃ es clock, w.heap[b]? = some (.map es clock) ∧ Stamped es clock ∧ Ents fk fv es.toList xs
 loc S w w' h hp := ⟨hp.1, by rw [h b ((hp.1 b).2 rfl)]; exact hp.2⟩
theorem Ents.len {κ ν : Type} {fk : κ → Value} {fv : ν → Value} {es : List MapEntry} {xs : List (κ × ν)} (h : Ents fk fv es xs) : es.length = xs.length := by
 have := congrArg List.length h; simpa using this
theorem Ents.keys {κ ν : Type} {fk : κ → Value} {fv : ν → Value} {es : List MapEntry} {xs : List (κ × ν)} (h : Ents fk fv es xs) : es.map (·.key) = xs.map (fun p => fk p.1) := by
 have := congrArg (List.map Prod.fst) h; simpa [Function.comp_def] using this
theorem Ents.isKey {κ ν : Type} {d : TypeDesc} {fk : κ → Value} {fv : ν → Value} (K : KeyF d fk) {es : List MapEntry} {xs : List (κ × ν)} (h : Ents fk fv es xs) : ∀ x ∈ es, IsKey d x.key := by
 intro x hx
 have : x.key ∈ es.map (·.key) := List.mem_map.2 ⟨x, hx, rfl⟩
 rw [h.keys] at this
 obtain ⟨p, _, hp⟩ := List.mem_map.1 this
 rw [← hp]; exact K.isKey _
theorem Ents.at {κ ν : Type} {fk : κ → Value} {fv : ν → Value} {es : List MapEntry} {xs : List (κ × ν)} (h : Ents fk fv es xs) {j : Nat} {e : MapEntry} (he : es[j]? = some e) : ∃ p, xs[j]? = some p ∧ e.key = fk p.1 ∧ e.val = fv p.2 := by
 have := congrArg (fun l => l[j]?) h
 simp only [List.getElem?_map, he, Option.map_some] at this
 cases hx : xs[j]? with
 | none => rw [hx] at this; simp at this
 | some p => rw [hx] at this; simp at this; exact ⟨p, rfl, this.1, this.2⟩
section find
variable {κ ν : Type} [DecidableEq κ] {d : TypeDesc} {fk : κ → Value} {fv : ν → Value}
theorem mGet_none {xs : List (κ × ν)} {k : κ} (h : ∀ p ∈ xs, p.1 ≠ k) : mGet xs k = none ∧ mHas xs k = false := by
 constructor
 ·unfold mGet
  rw [List.find?_eq_none.2 (fun p hp => by simpa using h p hp)]; rfl
 ·unfold mHas
  rw [List.any_eq_false]
  intro p hp; simpa using h p hp
theorem mGet_at : ∀ {xs : List (κ × ν)} {k : κ} {j : Nat} {v : ν}, (xs.map (·.1)).Nodup → xs[j]? = some (k, v) → mGet xs k = some v ∧ mHas xs k = true
 | [], _, j, _, _, h => by simp at h
 | p :: xs, k, 0, v, _, h => by simp at h; subst h; simp [mGet, mHas]
 | p :: xs, k, j + 1, v, hn, h => by
  simp only [List.getElem?_cons_succ] at h
  simp only [List.map_cons, List.nodup_cons] at hn
  have hne : p.1 ≠ k := fun q => hn.1 (q ▸ List.mem_map.2 ⟨(k, v), List.mem_of_getElem? h, rfl⟩)
  obtain ⟨h1, h2⟩ := mGet_at hn.2 h
  constructor
  ·unfold mGet at h1 ⊢
   rw [List.find?_cons_of_neg (by simpa using hne)]; exact h1
  ·unfold mHas at h2 ⊢
   simp only [List.any_cons, h2, Bool.or_true]
omit [DecidableEq κ] in
theorem nodup_of (K : KeyF d fk) {es : List MapEntry} {xs : List (κ × ν)} (h : Ents fk fv es xs) (hn : (es.map (·.key)).Nodup) : (xs.map (·.1)).Nodup := by
 rw [h.keys] at hn
 have : xs.map (fun p => fk p.1) = (xs.map (·.1)).map fk := by simp
 rw [this] at hn
 exact (List.pairwise_map.1 hn).imp fun h q => h (congrArg fk q)
theorem find_map (K : KeyF d fk) {es : List MapEntry} {xs : List (κ × ν)} (h : Ents fk fv es xs) (hn : (es.map (·.key)).Nodup) (k : κ) :
  (Instr.findNow d (fk k) es 0 = some none ∧ (∀ x ∈ es, x.key ≠ fk k) ∧ mGet xs k = none ∧ mHas xs k = false) ∨
  ∃ j e v, Instr.findNow d (fk k) es 0 = some (some (j, e.val)) ∧ es[j]? = some e ∧ e.key = fk k ∧ e.val = fv v ∧ xs[j]? = some (k, v) ∧ mGet xs k = some v ∧ mHas xs k = true := by
 rcases Go.MapKept.findNow_spec (K.isKey k) es 0 (h.isKey K) with ⟨h1, h2⟩ | ⟨j, e, h1, h2, h3⟩
 ·refine .inl ⟨h1, h2, mGet_none fun p hp q => ?_⟩
  have : fk p.1 ∈ es.map (·.key) := by rw [h.keys]; exact List.mem_map.2 ⟨p, hp, rfl⟩
  obtain ⟨x, hx, hk⟩ := List.mem_map.1 this
  exact h2 x hx (by rw [hk, q])
 ·obtain ⟨p, hp, e1, e2⟩ := h.at h2
  have hk : p.1 = k := K.inj _ _ (e1.symm.trans h3)
  have hp' : xs[j]? = some (k, p.2) := by rw [hp, ← hk]
  have := mGet_at (nodup_of K h hn) hp'
  exact .inr ⟨j, e, p.2, by simpa using h1, h2, h3, e2, hp', this.1, this.2⟩
end find
theorem ents_modify {κ ν : Type} [DecidableEq κ] {fk : κ → Value} {fv : ν → Value} {es : Array MapEntry} {xs : List (κ × ν)} {j : Nat} {k : κ} {v v0 : ν} (h : Ents fk fv es.toList xs) (hn : (xs.map (·.1)).Nodup) (hj : xs[j]? = some (k, v0)) (hh : mHas xs k = true) :
  Ents fk fv (es.modify j fun e => { e with key := fk k, val := fv v }).toList (mSet xs k v) := by
 have hm : mSet xs k v = xs.map fun p => if p.1 = k then (k, v) else p := by unfold mSet; rw [if_pos hh]
 rw [hm]
 unfold Ents
 apply List.ext_getElem?
 intro i
 have hi := congrArg (fun l => l[i]?) h
 simp only [List.getElem?_map, Array.getElem?_toList, Array.getElem?_modify] at hi ⊢
 by_cases hij : j = i
 ·subst hij
  rw [hj] at hi ⊢
  simp only [if_true, Option.map_some, Option.map_map]
  cases he : es[j]? with
  | none => rw [he] at hi; simp at hi
  | some e => simp
 ·rw [if_neg hij, hi]
  cases hx : xs[i]? with
  | none => rfl
  | some p =>
   have hne : p.1 ≠ k := by
    intro q
    have hil : i < xs.length := by
     rcases Nat.lt_or_ge i xs.length with h | h
     ·exact h
     ·rw [List.getElem?_eq_none h] at hx; cases hx
    have hjl : j < xs.length := by
     rcases Nat.lt_or_ge j xs.length with h | h
     ·exact h
     ·rw [List.getElem?_eq_none h] at hj; cases hj
    have H := List.pairwise_iff_getElem.1 hn
    have ej : (xs.map (·.1))[j]'(by simpa using hjl) = k := by
     have := (List.getElem?_eq_some_iff.1 hj).2; simp [this]
    have ei : (xs.map (·.1))[i]'(by simpa using hil) = k := by
     have := (List.getElem?_eq_some_iff.1 hx).2; simp [this, q]
    rcases Nat.lt_trichotomy j i with l | l | l
    ·exact H j i (by simpa using hjl) (by simpa using hil) l (ej.trans ei.symm)
    ·exact hij l
    ·exact H i j (by simpa using hil) (by simpa using hjl) l (ei.trans ej.symm)
   simp [hne]
theorem ents_push {κ ν : Type} [DecidableEq κ] {fk : κ → Value} {fv : ν → Value} {es : Array MapEntry} {xs : List (κ × ν)} {k : κ} {v : ν} {c : Nat} (h : Ents fk fv es.toList xs) (hh : mHas xs k = false) :
  Ents fk fv (es.push { key := fk k, val := fv v, born := c }).toList (mSet xs k v) := by
 have hm : mSet xs k v = xs ++ [(k, v)] := by unfold mSet; rw [if_neg (by simp [hh])]
 rw [hm]
 unfold Ents at h ⊢
 simp [h]
section ops
variable {P : Program} {cx : Cx} {e : Zk} {L : List Chunk} {ty : TypeId} {pos : String} {af : Array Edge} {g : Option (Nat × Bool)}
variable {κ ν : Type} [DecidableEq κ] {fk : κ → Value} {fv : ν → Value}
omit [DecidableEq κ] in
theorem makes_map {t d : Nat} {rds : List Nat} : Makes P cx e ⟨some d, .makeMap t none, ty, pos, af, g⟩ L rds (fun b : Nat => .map (some b)) (fun b => mapC fk fv b ([] : List (κ × ν))) := fun w L' hF hS _ => by
 unfold RunsTo
 have hr : (execOp (ev e) ⟨some d, .makeMap t none, ty, pos, af, g⟩).run P w = .ok (.value (.map (some w.heap.size))) (w.alloc (.map #[] 0)) := by
  simp [execOp, Instr.makeMap]
 rw [hr]
 have gr := Jb9 w (.map #[] 0)
 exact ⟨w.heap.size, rfl, gr.os, gr.tape, gr.output, gr.size, fun b hb _ => gr.block b hb, fun x => x = w.heap.size, ⟨fun _ => Iff.rfl, #[], 0, Go.heap_alloc_new w _, Go.MapKept.stamped_empty 0, rfl⟩, fun b hb => by subst hb; exact ⟨by simp, .inr (Nat.le_refl _)⟩⟩
theorem run_lookup {d : Option Nat} {dk : TypeDesc} {t kt et : TypeId} {X I : Operand} {b i : Nat} {xs : List (κ × ν)} {k : κ} {z : ν} {w : World} (K : KeyF dk fk) (ht : P.underlying t = some (.map kt et)) (hk : P.underlying kt = some dk) (hz : ∀ w, (zeroValue et).run P w = .ok (fv z) w)
  (hx : ev e X = .map (some b)) (hi : ev e I = fk k) (hS : Sat cx w L) (hL : L[i]? = some (mapC fk fv b xs)) :
  (execOp (ev e) ⟨d, .lookup t X I false, ty, pos, af, g⟩).run P w = .ok (.value (fv ((mGet xs k).getD z))) w := by
 obtain ⟨S, ⟨_, es, clock, hb, hst, hen⟩, _⟩ := hS.at hL
 rcases find_map K hen hst.2.2 k with ⟨h1, _, h3, _⟩ | ⟨j, e0, v, h1, _, _, h4, _, h6, _⟩
 ·simp [execOp, Instr.lookup, hx, hi, run_underlying ht, Go.MapKept.run_getObj_map hb, Go.MapKept.run_checkKey hk (K.isKey k), Go.MapKept.run_findKey hk h1, hz w, h3, Result.andThen]
 ·simp [execOp, Instr.lookup, hx, hi, run_underlying ht, Go.MapKept.run_getObj_map hb, Go.MapKept.run_checkKey hk (K.isKey k), Go.MapKept.run_findKey hk h1, h6, h4, Result.andThen]
theorem turns_mset {u : Bool} {dk : TypeDesc} {t kt et : TypeId} {M I X : Operand} {b i : Nat} {xs : List (κ × ν)} {k : κ} {v : ν} {rds : List Nat} {o : Op} (K : KeyF dk fk) (ho : o = .insert t M I X ∨ o = .mapUpdate t M I X) (ht : P.underlying t = some (.map kt et)) (hk : P.underlying kt = some dk)
  (hm : ev e M = .map (some b)) (hi : ev e I = fk k) (hx : ev e X = fv v) (hL : L[i]? = some (mapC fk fv b xs)) {dst : Option Nat} :
  Turns P cx e ⟨dst, o, ty, pos, af, g⟩ L i rds (fun _ : Unit => undef) (fun _ => mapC fk fv b (mSet xs k v)) := fun w L' hF hS _ hi' => by
 have hL' := (hi' i (.inr rfl)).trans hL
 obtain ⟨S, ⟨_, es, clock, hb, hst, hen⟩, _⟩ := hS.at hL'
 have hlt : b < w.heap.size := (Array.getElem?_eq_some_iff.1 hb).1
 obtain ⟨es', clock', hrun, hst', hen'⟩ : ∃ es' clock', (execOp (ev e) ⟨dst, o, ty, pos, af, g⟩).run P w = .ok .skip { w with heap := w.heap.setIfInBounds b (.map es' clock') } ∧ Stamped es' clock' ∧ Ents fk fv es'.toList (mSet xs k v) := by
  rcases find_map K hen hst.2.2 k with ⟨h1, h2, _, h4⟩ | ⟨j, e0, v0, h1, h2, h3, _, h5, _, h7⟩
  ·refine ⟨_, _, ?_, Go.MapKept.stamped_push hst h2, ents_push (v := v) hen h4⟩
   rcases ho with rfl | rfl <;> simp [execOp, Instr.mapUpdate, hm, hi, hx, run_underlying ht, Go.MapKept.run_getObj_map hb, Go.MapKept.run_checkKey hk (K.isKey k), Go.MapKept.run_findKey hk h1, Go.MapKept.run_setObj_map _ hb, Result.andThen]
  ·have h2' : es[j]? = some e0 := by simpa using h2
   refine ⟨es.modify j fun e => { e with key := fk k, val := fv v }, clock, ?_, Go.MapKept.stamped_modify hst j _ (fun _ _ => rfl) (fun x _ hx => by rw [h2'] at hx; cases hx; exact h3.symm), ents_modify (v := v) hen (nodup_of K hen hst.2.2) h5 h7⟩
   rcases ho with rfl | rfl <;> simp [execOp, Instr.mapUpdate, hm, hi, hx, run_underlying ht, Go.MapKept.run_getObj_map hb, Go.MapKept.run_checkKey hk (K.isKey k), Go.MapKept.run_findKey hk h1, h2', h3, Go.MapKept.run_keyThatStays (K.isKey k), Go.MapKept.run_setObj_map _ hb, Result.andThen]
 unfold RunsTo
 rw [hrun]
 have hS' := hS.turnOf (w' := { w with heap := w.heap.setIfInBounds b (.map es' clock') }) hF hL' (C := mapC fk fv b (mSet xs k v)) fun S1 hp1 =>
  ⟨rfl, rfl, rfl, by simp, fun x _ hx => by rw [Array.getElem?_setIfInBounds_ne (fun h => hx ((hp1.1 x).2 h.symm))], S1, ⟨hp1.1, es', clock', by simp [hlt], hst', hen'⟩, fun x hx => ⟨by rw [(hp1.1 x).1 hx]; simpa using hlt, .inl hx⟩⟩
 exact ⟨(), rfl, hS'.1, hS'.2⟩
end ops
section rules
variable {P : Program} {n : Nat} {cx : Cx} {Q : Post} {e : Zk} {L : List Chunk} {ops : Array Oper} {rest_ : List Oper} {ty : TypeId} {pos : String} {af : Array Edge} {g : Option (Nat × Bool)} {κ ν : Type} {fk : κ → Value} {fv : ν → Value}
end rules
end Go.Lx

/- The kit's contracts of slices.Sort at rows of one's own: the row is sorted in place. Conditions: the row is shorter than 2^62. -/
namespace Go.Vc
open Go Go.Md Go.Shelf Go.Sort Go.Proofs
theorem flat1 {α : Type} (f : α → Value) (l : List α) : (l.map fun x => [f x]).flatten = l.map f := by
 induction l with
 | nil => rfl
 | cons x l ih => simp [ih]
theorem sort_ints {P : Program} {ρ : Ren} (Ly : Lays.n189 P ρ) {E : TypeId} {a0 r : List Int} {p0 : Option Addr × Nat} {n0 : Nat} {w : World} {S : Nat → Prop}
  (hcs : (J5 E 1 (.slice p0.1 n0 p0.2) n0 (a0.map fun x => [.int .i64 x])).P S w) (hlt : ∀ b, S b → b < w.heap.size) (hn0 : n0 = a0.length) (H : gSortI a0 = some r) :
  Does P (ρ.f 189) (List.toArray [.slice p0.1 n0 p0.2]) w (fun v w' => ∃ _ : Unit, v = .tuple #[] ∧ Turn w w' S (J5 E 1 (.slice p0.1 n0 p0.2) n0 (r.map fun x => [.int .i64 x]))) := by
 obtain ⟨p, c⟩ := p0
 unfold gSortI at H
 split at H
 case isFalse => cases H
 rename_i hsz
 cases H
 subst hn0
 have hcs0 := hcs
 obtain ⟨⟨hown, hlen, hall⟩, hb⟩ := hcs
 rw [flat1] at hown
 rcases hown.2 with ⟨h0, h1⟩ | ⟨g, cap, cur, hv, hbase, hh, h1, h2, h3, h4⟩
 ·have hnil : a0 = [] := List.eq_nil_of_length_eq_zero h1
  subst hnil
  refine Calls.mono (Any.slices_Sort_int_none Ly p c w) ?_
  rintro e w' ⟨rfl, rfl⟩
  exact ⟨_, rfl, (), rfl, ⟨rfl, rfl, rfl, Nat.le_refl _, fun _ _ _ => rfl, S, by simpa using hcs0, fun b h => ⟨hlt b h, .inl h⟩⟩⟩
 ·simp only [Value.slice.injEq] at hv
  obtain ⟨hv1, -, hv2⟩ := hv
  subst hv1 hv2
  have hgl : g < w.heap.size := (Array.getElem?_eq_some_iff.1 hh).1
  have hH : Holds (Value.int .i64) w g 0 a0.toArray := holds_of_blockI hh (by simpa using h4)
  refine Calls.mono (Any.slices_Sort_int Ly g 0 c a0 w hH hgl hsz) ?_
  rintro e w' ⟨rfl, n, os, rfl⟩
  have hl : (a0.mergeSort fun x y => decide (x ≤ y)).length = a0.length := List.length_mergeSort _
  have hG := grownBy_sortedI (w := w) (g := g) (n := n) (os := os) (a0.mergeSort fun x y => decide (x ≤ y)).toArray
  obtain ⟨g1, g2, g3, g4, g5⟩ := hG
  have hR := ownsRow_sortedI (base := 0) (w := w) (n := n) (os := os) hl (Nat.zero_le _) hh h1 h2 h3
  have hSg : S g := hb g rfl
  refine ⟨_, rfl, (), rfl, ⟨g1, g2, g3, g4, fun b hbl hnb => g5 b hbl (fun h => hnb (by cases h; exact hSg)), S, ⟨⟨by rw [flat1]; exact hR, by simp [hl], fun x hx => ?_⟩, hb⟩, fun b h => ⟨Nat.lt_of_lt_of_le (hlt b h) g4, .inl h⟩⟩⟩
  obtain ⟨y, _, rfl⟩ := List.mem_map.1 hx
  rfl
end Go.Vc

/- The kit's contract of slices.Compact at rows of one's own. Conditions: none. -/
namespace Go.Vc
open Go Go.Md Go.Shelf Go.Sort Go.Proofs
theorem cmpL_snoc {α : Type} [DecidableEq α] : ∀ (l : List α) (x : α), cmpL (l ++ [x]) = cmpL l ++ (if l.getLast? = some x then [] else [x]) := by
 have key : ∀ (l : List α) (p x : α), Zy p (l ++ [x]) = Zy p l ++ (if (p :: l).getLast? = some x then [] else [x]) := by
  intro l
  induction l with
  | nil =>
   intro p x
   by_cases h : x = p
   ·simp [Zy, h]
   ·have h' : ¬ p = x := fun e => h e.symm
    simp [Zy, h, h']
  | cons y l ih =>
   intro p x
   by_cases h : y = p
   ·subst h
    simp only [List.cons_append, Zy, if_true, ih]
    simp
   ·simp only [List.cons_append, Zy, h, if_false, ih]
    simp
 intro l x
 cases l with
 | nil => simp [cmpL, Zy]
 | cons y l => simp only [List.cons_append, cmpL, key]
theorem getLast?_at {α : Type} [Inhabited α] (l : List α) (m : Nat) (hm : m + 1 ≤ l.length) : (l.take (m + 1)).getLast? = some l.toArray[m]! := by
 rw [List.getLast?_eq_getElem?, List.length_take, Nat.min_eq_left hm, List.getElem?_take, if_pos (by omega)]
 have h : m < l.length := by omega
 simp [List.getElem?_eq_getElem h, getElem!_pos, h]
theorem compact_lib {α : Type} [Inhabited α] [DecidableEq α] (l : List α) : Lib.compact l = cmpL l := by
 have key : ∀ m, m ≤ l.length → Lib.compactUpTo l.toArray m = cmpL (l.take m) := by
  intro m
  induction m with
  | zero => intro _; simp [Lib.compactUpTo, cmpL]
  | succ m ih =>
   intro hm
   have h : m < l.length := by omega
   rw [Lib.compactUpTo_succ, ih (by omega), List.take_add_one, List.getElem?_eq_getElem h, Option.toList_some, cmpL_snoc]
   congr 1
   have e : l.toArray[m]! = l[m] := by simp [getElem!_pos, h]
   rw [e]
   cases m with
   | zero => simp [Lib.keeps]
   | succ m =>
    rw [getLast?_at l m (by omega)]
    by_cases hk : l.toArray[m]! = l[m + 1]
    ·rw [Lib.keeps_neg (by omega) (by rw [e]; exact hk.symm), hk, if_pos rfl]; rfl
    ·rw [Lib.keeps_pos (by rw [e]; exact fun h => hk h.symm), if_pos rfl, if_neg (fun h => hk (Option.some.inj h))]
 have := key l.length (Nat.le_refl _)
 rw [List.take_length] at this
 exact this
theorem cmpL_len {α : Type} [DecidableEq α] (l : List α) : (cmpL l).length ≤ l.length := by
 have key : ∀ (l : List α) (p : α), (Zy p l).length ≤ l.length := by
  intro l
  induction l with
  | nil => intro p; simp [Zy]
  | cons y l ih =>
   intro p
   simp only [Zy]
   split
   ·have := ih p; simp only [List.length_cons]; omega
   ·have := ih y; simp only [List.length_cons]; omega
 cases l with
 | nil => simp [cmpL]
 | cons y l => have := key l y; simp only [cmpL, List.length_cons]; omega
end Go.Vc
namespace Go.Lx
open Go Go.Vc
section ops
variable {P : Program} {e : Zk} {d : Option Nat} {ty : TypeId} {pos : String} {af : Array Edge} {g : Option (Nat × Bool)}
end ops
end Go.Lx

/- Rules: maps that are only read; the kit's contract of slices.Compact at []int. Conditions: none. -/
namespace Go.Lx
open Go Go.Vc Go.Md
open Go.MapKept (IsKey Stamped)
structure FrM {κ ν : Type} (h : Qg) (fk : κ → Value) (fv : ν → Value) (v : Value) (xs : List (κ × ν)) : Prop where
 out : ∃ b es clock, v = .map (some b) ∧ h b = some (.map es clock) ∧ Stamped es clock ∧ Ents fk fv es.toList xs
section
variable {κ ν : Type} {fk : κ → Value} {fv : ν → Value} {h h' : Qg} {v : Value} {xs : List (κ × ν)}
theorem FrM.mono (f : FrM h fk fv v xs) (k : ∀ b o, h b = some o → h' b = some o) : FrM h' fk fv v xs := by
 obtain ⟨b, es, c, h1, h2, h3, h4⟩ := f.out
 exact ⟨b, es, c, h1, k _ _ h2, h3, h4⟩
theorem FrM.cells (f : FrM h fk fv v xs) : v.cells.toList = [v] := by
 obtain ⟨b, es, c, rfl, _⟩ := f.out; rfl
theorem FrM.one (f : FrM h fk fv v xs) : v.oneCell' = true := by
 obtain ⟨b, es, c, rfl, _⟩ := f.out; rfl
end
section
variable {P : Program} {cx : Cx} {e : Zk} {L : List Chunk} {ty : TypeId} {pos : String} {af : Array Edge} {g : Option (Nat × Bool)}
variable {κ ν : Type} {fk : κ → Value} {fv : ν → Value}
theorem frs_map {w : World} {i b : Nat} {xs : List (κ × ν)} (hS : Sat cx w L) (hL : L[i]? = some (mapC fk fv b xs)) : FrM (fun b => w.heap[b]?) fk fv (.map (some b)) xs := by
 obtain ⟨S, ⟨_, es, c, hb, hst, hen⟩, _⟩ := hS.at hL
 exact ⟨b, es, c, rfl, hb, hst, hen⟩
theorem run_lookupF [DecidableEq κ] {d : Option Nat} {dk : TypeDesc} {t kt et : TypeId} {X I : Operand} {v : Value} {xs : List (κ × ν)} {k : κ} {z : ν} {w : World} (K : KeyF dk fk) (ht : P.underlying t = some (.map kt et)) (hk : P.underlying kt = some dk) (hz : ∀ w, (zeroValue et).run P w = .ok (fv z) w)
  (hx : ev e X = v) (hi : ev e I = fk k) (f : FrM (fun b => w.heap[b]?) fk fv v xs) :
  (execOp (ev e) ⟨d, .lookup t X I false, ty, pos, af, g⟩).run P w = .ok (.value (fv ((mGet xs k).getD z))) w := by
 obtain ⟨b, es, clock, rfl, hb, hst, hen⟩ := f.out
 rcases find_map K hen hst.2.2 k with ⟨h1, _, h3, _⟩ | ⟨j, e0, v, h1, _, _, h4, _, h6, _⟩
 ·simp [execOp, Instr.lookup, hx, hi, run_underlying ht, Go.MapKept.run_getObj_map hb, Go.MapKept.run_checkKey hk (K.isKey k), Go.MapKept.run_findKey hk h1, hz w, h3, Result.andThen]
 ·simp [execOp, Instr.lookup, hx, hi, run_underlying ht, Go.MapKept.run_getObj_map hb, Go.MapKept.run_checkKey hk (K.isKey k), Go.MapKept.run_findKey hk h1, h6, h4, Result.andThen]
end
end Go.Lx
namespace Go.Vc
open Go Go.Md Go.Shelf Go.Sort Go.Proofs
theorem compact_ints {P : Program} {ρ : Ren} (Ly : Lays2.n20 P ρ) {E : TypeId} {a0 r : List Int} {p0 : Option Addr × Nat} {n0 : Nat} {w : World} {S : Nat → Prop}
  (hcs : (J5 E 1 (.slice p0.1 n0 p0.2) n0 (a0.map fun x => [.int .i64 x])).P S w) (hlt : ∀ b, S b → b < w.heap.size) (hn0 : n0 = a0.length) (H : gCmpI a0 = some r) :
  Does P (ρ.f 20) (List.toArray [.slice p0.1 n0 p0.2]) w (fun v w' => ∃ x : Option Addr × Nat, v = .slice x.1 r.length x.2 ∧ Turn w w' S (J5 E 1 (.slice x.1 r.length x.2) r.length (r.map fun x => [.int .i64 x]))) := by
 obtain ⟨p, c⟩ := p0
 unfold gCmpI at H
 split at H
 case isFalse => cases H
 rename_i hsz
 cases H
 subst hn0
 have hcs0 := hcs
 obtain ⟨⟨hown, hlen, hall⟩, hb⟩ := hcs
 rw [flat1] at hown
 rcases hown.2 with ⟨h0, h1⟩ | ⟨g, cap, cur, hv, hbase, hh, h1, h2, h3, h4⟩
 ·have hnil : a0 = [] := List.eq_nil_of_length_eq_zero h1
  subst hnil
  refine Calls.mono (Any.slices_Compact_int_empty Ly p c w) ?_
  rintro e w' ⟨rfl, rfl⟩
  exact ⟨_, rfl, (p, c), rfl, ⟨rfl, rfl, rfl, Nat.le_refl _, fun _ _ _ => rfl, S, by simpa [cmpL] using hcs0, fun b h => ⟨hlt b h, .inl h⟩⟩⟩
 ·simp only [Value.slice.injEq] at hv
  obtain ⟨hv1, -, hv2⟩ := hv
  subst hv1 hv2
  have hgl : g < w.heap.size := (Array.getElem?_eq_some_iff.1 hh).1
  have hH : Holds (Value.int .i64) w g 0 a0.toArray := holds_of_blockI hh (by simpa using h4)
  refine Calls.mono (Any.slices_Compact_int Ly g 0 c a0 w hH (by omega) h1) ?_
  rintro e w' ⟨rfl, q, rfl⟩
  rw [compact_lib]
  have hle := cmpL_len a0
  generalize hz : cmpL a0 = z at hle
  have hts : (z ++ List.replicate (a0.length - z.length) 0).length = a0.length := by simp; omega
  have hG := grownBy_sortedI (w := w) (g := g) (n := q) (os := #[]) (z ++ List.replicate (a0.length - z.length) 0).toArray
  have hR := ownsRow_sortedI (base := 0) (w := w) (n := q) (os := #[]) hts (Nat.zero_le _) hh h1 h2 h3
  have hgr : ∀ W : World, Go.Sort.grow W #[] = W := fun W => by cases W; simp [Go.Sort.grow]
  rw [hgr] at hG hR
  obtain ⟨g1, g2, g3, g4, g5⟩ := hG
  have hSg : S g := hb g rfl
  rcases hR.2 with ⟨h0, _⟩ | ⟨g', cap', cur', hv', hbase', hh', k1, k2, k3, k4⟩
  ·cases h0
  ·simp only [Value.slice.injEq, Option.some.injEq, Addr.mk.injEq, and_true, true_and] at hv'
   obtain ⟨rfl, rfl⟩ := hv'
   refine ⟨_, rfl, (some ⟨g, 0, none⟩, c), rfl, ⟨g1, g2, g3, g4, fun b hbl hnb => g5 b hbl (fun h => hnb (by cases h; exact hSg)), S, ⟨⟨?_, by simp, fun x hx => ?_⟩, fun b h => by cases h; exact hSg⟩, fun b h => ⟨Nat.lt_of_lt_of_le (hlt b h) g4, .inl h⟩⟩⟩
   ·rw [flat1]
    refine ⟨by simp, .inr ⟨g, c, cur', rfl, Nat.zero_le _, hh', by omega, k2, k3, ?_⟩⟩
    have := congrArg (List.take z.length) k4
    have e2 : (List.map (Value.int .i64) (z ++ List.replicate (a0.length - z.length) 0)).take z.length = z.map (Value.int .i64) := by
     rw [List.map_append, List.take_append_of_le_length (by simp)]; exact List.take_of_length_le (by simp)
    rw [List.take_take, Nat.min_eq_left (by omega), e2] at this
    rw [Nat.mul_one]; exact this
   ·obtain ⟨y, _, rfl⟩ := List.mem_map.1 hx
    rfl
end Go.Vc

/- The kit's contract of slices.SortFunc at rows of one's own of structs: the row is sorted in place. Conditions: the row is shorter than 2^62; the comparing function is a total order. -/
namespace Go.Vc
open Go Go.Md Go.Shelf Go.Sort Go.Proofs
theorem flatE_len {α : Type} (enc : α → List Value) (k : Nat) (hk : ∀ x, (enc x).length = k) (l : List α) : (l.map enc).flatten.length = l.length * k := by
 induction l with
 | nil => simp
 | cons x l ih => simp [ih, hk, Nat.add_mul]; omega
theorem flatE_get {α : Type} [Inhabited α] (enc : α → List Value) (k : Nat) (hk : ∀ x, (enc x).length = k) : ∀ (l : List α) (t : Nat), t < l.length * k → (l.map enc).flatten[t]? = some (enc (l[t / k]!))[t % k]!
 | [], t, h => by simp at h
 | x :: l, t, h => by
  have k0 : 0 < k := by rcases Nat.eq_zero_or_pos k with h0 | h0
                        ·subst h0; simp at h
                        ·exact h0
  rw [List.map_cons, List.flatten_cons]
  rcases Nat.lt_or_ge t k with h1 | h1
  ·rw [List.getElem?_append_left (by rw [hk]; exact h1), Nat.div_eq_of_lt h1, Nat.mod_eq_of_lt h1, List.getElem!_cons_zero, List.getElem?_eq_getElem (by rw [hk]; exact h1), getElem!_pos _ t (by rw [hk]; exact h1)]
  ·rw [List.getElem?_append_right (by rw [hk]; exact h1), hk, flatE_get enc k hk l (t - k) (by simp only [List.length_cons, Nat.add_mul, Nat.one_mul] at h; omega)]
   have e1 : t / k = (t - k) / k + 1 := by rw [← Nat.sub_add_cancel h1]; simp [Nat.add_div_right _ k0]
   have e2 : t % k = (t - k) % k := by rw [Nat.mod_eq_sub_mod h1]
   rw [e1, e2, List.getElem!_cons_succ]
theorem flatK_toList {α : Type} [Inhabited α] (enc : α → List Value) (k : Nat) (hk : ∀ x, (enc x).length = k) (d : Array α) : (flatK enc k d).toList = (d.toList.map enc).flatten := by
 apply List.ext_getElem?
 intro t
 by_cases h : t < d.size * k
 ·have h2 := flatE_get enc k hk d.toList t (by simpa using h)
  have k0 : 0 < k := by rcases Nat.eq_zero_or_pos k with h0 | h0
                        ·subst h0; simp at h
                        ·exact h0
  have hlt : t / k < d.size := (Nat.div_lt_iff_lt_mul k0).2 h
  have e0 : d.toList[t / k]! = d[t / k]! := by rw [getElem!_pos d.toList (t / k) (by simpa using hlt), getElem!_pos d (t / k) hlt]; simp
  rw [h2, Array.getElem?_toList, Array.getElem?_eq_getElem (by simpa using h), ← getElem!_pos _ t (by simpa using h), get_flatK _ _ _ _ h, e0]
 ·rw [List.getElem?_eq_none (by simpa using h), List.getElem?_eq_none (by rw [flatE_len enc k hk]; simpa using h)]
theorem holds_of_cells {w : World} {g : Nat} {cur : Array Value} {e : TypeId} {F : Array Value} (hb : w.heap[g]? = some (.cells cur e (0, 0))) (ht : cur.toList.take F.size = F.toList) : Holds id w g 0 F := by
 intro j hj
 refine ⟨?_, by simp [World.frozen?, hb]⟩
 have h1 : (cur.toList.take F.size)[j]? = F.toList[j]? := by rw [ht]
 rw [List.getElem?_take_of_lt hj] at h1
 simp only [World.cell?, hb, Nat.zero_add]
 simp only [Option.isSome_none, Bool.false_eq_true, if_false]
 rw [← Array.getElem?_toList, h1]
 simp [hj]
theorem heap_sortedV {w : World} {g n : Nat} {os : Array Obj} {cur : Array Value} {e : TypeId} {fr : Nat × Nat} (F : Array Value) (hb : w.heap[g]? = some (.cells cur e fr)) :
  (grow (putRow id (Sort.ahead w n) g 0 F) os).heap[g]? = some (.cells (putCells id 0 F cur) e fr) := by
 have hg : g < w.heap.size := (Array.getElem?_eq_some_iff.1 hb).1
 rw [heap_grow_old _ _ (by simpa using hg)]
 simp [putRow, mapBlock, Sort.ahead, Array.getElem?_modify, hb, onCells]
theorem grownBy_sortedV {w : World} {g n : Nat} {os : Array Obj} (F : Array Value) : w.grownBy (grow (putRow id (Sort.ahead w n) g 0 F) os) (some g) := by
 refine ⟨rfl, rfl, rfl, by simp, fun k hk hne => ?_⟩
 rw [heap_grow_old _ _ (by simpa using hk)]
 have : g ≠ k := fun e => hne (by rw [e])
 simp [putRow, mapBlock, Sort.ahead, Array.getElem?_modify, this]
theorem take_putCellsV (cur : Array Value) (F : Array Value) (h : F.size ≤ cur.size) : (putCells id 0 F cur).toList.take F.size = F.toList := by
 apply List.ext_getElem?
 intro j
 by_cases hj : j < F.size
 ·rw [List.getElem?_take_of_lt hj, Array.getElem?_toList]
  simp [putCells, hj, show j < cur.size by omega]
 ·rw [List.getElem?_take_eq_none (by omega), List.getElem?_eq_none (by simp; omega)]
theorem swo_of {α : Type} {cmp : α → α → Option Int} (c : CmpOk cmp) : SWO (ltOf fun x y => (cmp x y).getD 0) where
 irrefl x := by have := c.flip x x; unfold ltOf; simp; omega
 trans x y z h1 h2 := by
  unfold ltOf at *
  simp at *
  have a1 := c.flip x y
  have a2 := c.flip y z
  have a3 := c.flip z x
  have a4 := c.flip y x
  have a5 := c.flip z y
  have a6 := c.flip x z
  have t := c.trans y z x
  have t2 := c.trans x y z (by omega) (by omega)
  rcases Int.lt_or_le ((cmp x z).getD 0) 0 with h | h
  ·exact h
  ·have e0 : (cmp x z).getD 0 = 0 := by omega
   have := c.anti x z e0
   subst this
   omega
 ntrans x y z h1 h2 := by
  unfold ltOf at *
  simp at *
  have a1 := c.flip x y
  have a2 := c.flip y z
  have a3 := c.flip z x
  have a4 := c.flip y x
  have a5 := c.flip z y
  have a6 := c.flip x z
  have t := c.trans z y x (by omega) (by omega)
  omega
theorem sort_func {P : Program} {ρ : Ren} (Ly : SlLaysF0.n6 P ρ) {α : Type} {k : Nat} (aE : ∀ w, (isAgg (ρ.t 24)).run P w = .ok true w) (zE : ∀ w, (Go.sizeOf (ρ.t 24)).run P w = .ok k w) (enc : α → List Value) (hk : ∀ x, (enc x).length = k)
  (h1 : ∀ x, ∀ v ∈ enc x, v.oneCell' = true) {cf : α → α → Option Int} {g : Nat} (eg : ∀ args w, (callFunc g args).run P w = .ok (.enter g args) w)
  (hcl : ∀ (x y : α) (v : Int) (W : World), cf x y = some v → Calls P g #[.agg (enc x).toArray, .agg (enc y).toArray] W fun e w' => e = .returned (.int .i64 v) ∧ ∃ q os', w' = Go.Sort.grow (W.drewN q) os')
  {E : TypeId} {a0 r : List α} {p0 : Option Addr × Nat} {n0 : Nat} {w : World} {S : Nat → Prop}
  (hcs : (J5 E k (.slice p0.1 n0 p0.2) n0 (a0.map enc)).P S w) (hlt : ∀ b, S b → b < w.heap.size) (hn0 : n0 = a0.length) (H : gSortF a0 cf = some r) :
  Does P (ρ.f 6) (List.toArray [.slice p0.1 n0 p0.2, .func (.func g) #[] #[]]) w (fun v w' => ∃ _ : Unit, v = .tuple #[] ∧ Turn w w' S (J5 E k (.slice p0.1 n0 p0.2) n0 (r.map enc))) := by
 obtain ⟨p, c⟩ := p0
 unfold gSortF at H
 split at H
 case isFalse => cases H
 rename_i hh
 obtain ⟨hsz, hok⟩ := hh
 cases H
 subst hn0
 have hcs0 := hcs
 obtain ⟨⟨hown, hlen, hall⟩, hb⟩ := hcs
 rcases hown.2 with ⟨h0, h1'⟩ | ⟨b, cap, cur, hv, hbase, hh, q1, q2, q3, q4⟩
 ·have hnil : a0 = [] := List.eq_nil_of_length_eq_zero h1'
  subst hnil
  refine Calls.mono (AnyF.slices_SortFunc_none { Ly with } p c (.func (.func g) #[] #[]) w) ?_
  rintro e w' ⟨rfl, rfl⟩
  exact ⟨_, rfl, (), rfl, ⟨rfl, rfl, rfl, Nat.le_refl _, fun _ _ _ => rfl, S, by simpa using hcs0, fun b h => ⟨hlt b h, .inl h⟩⟩⟩
 ·simp only [Value.slice.injEq] at hv
  obtain ⟨hv1, -, hv2⟩ := hv
  subst hv1 hv2
  rcases List.eq_nil_or_concat a0 with rfl | ⟨_, x0, _⟩
  ·refine Calls.mono (AnyF.slices_SortFunc_none { Ly with } _ c (.func (.func g) #[] #[]) w) ?_
   rintro e w' ⟨rfl, rfl⟩
   exact ⟨_, rfl, (), rfl, ⟨rfl, rfl, rfl, Nat.le_refl _, fun _ _ _ => rfl, S, by simpa using hcs0, fun b h => ⟨hlt b h, .inl h⟩⟩⟩
  haveI : Inhabited α := ⟨x0⟩
  have hgl : b < w.heap.size := (Array.getElem?_eq_some_iff.1 hh).1
  have hfs : ∀ l : List α, (flatK enc k l.toArray).toList = (l.map enc).flatten := fun l => flatK_toList enc k hk l.toArray
  have hH : HoldsK enc k w b 0 a0.toArray := by
   refine holds_of_cells hh ?_
   rw [hfs, size_flatK, ← q4]
   simp
  have hcmp : CmpLays P g #[] enc k (fun x y => (cf x y).getD 0) b 0 a0.toArray.size w := fun m os dk _ x y => by
   obtain ⟨v, hv⟩ := hok.tot x y
   have := hcl x y v (sortWorldK enc k w b 0 m dk os) hv
   have e : (cf x y).getD 0 = v := by rw [hv]; rfl
   simp only [e]
   exact this
  have main := AnyQ.slices_SortFunc Ly k aE zE enc hk h1 (fun x y => (cf x y).getD 0) (swo_of hok) g #[] b 0 c a0.toArray w eg hcmp hH hgl (by simpa using hsz)
  rw [show a0.toArray.size = a0.length by simp] at main
  refine Calls.mono main ?_
  rintro e w' ⟨rfl, d', n, os, hperm, hsorted, rfl⟩
  have hds : d'.size = a0.length := by simpa using hperm.1
  have hp : d'.toList.Perm a0 := by
   have := hperm.2.2
   have z1 : (d'.extract 0 a0.length).toList = d'.toList := by rw [← hds]; simp
   have z2 : (a0.toArray.extract 0 a0.length).toList = a0 := by simp
   rw [z1, z2] at this
   exact this
  have hd : d'.toList = a0.mergeSort (leC cf) := by
   refine sortF_is hok hp ?_
   rw [List.pairwise_iff_getElem]
   intro i j hi hj hij
   have := hsorted i j (Nat.zero_le _) hij (by simpa [hds] using hj)
   rw [getElem!_pos d' j (by simpa using hj), getElem!_pos d' i (by simpa using hi)] at this
   unfold ltOf at this
   unfold leC
   have a1 := hok.flip d'[j] d'[i]
   have a2 := hok.flip d'[i] d'[j]
   simp at this ⊢
   simp at hi hj
   omega
  have hflat : (flatK enc k d').toList = ((a0.mergeSort (leC cf)).map enc).flatten := by rw [flatK_toList enc k hk, hd]
  have hG := grownBy_sortedV (w := w) (g := b) (n := n) (os := os) (flatK enc k d')
  obtain ⟨g1, g2, g3, g4, g5⟩ := hG
  have hSg : S b := hb b rfl
  have hll : (a0.mergeSort (leC cf)).length = a0.length := List.length_mergeSort _
  refine ⟨_, rfl, (), rfl, ⟨g1, g2, g3, g4, fun z hz hnz => g5 z hz (fun h => hnz (by cases h; exact hSg)), S, ⟨⟨⟨by rw [flatE_len enc k hk]; simp [hll], .inr ⟨b, c, _, rfl, hbase, heap_sortedV _ hh, q1, q2, by simp [putCells, q3], ?_⟩⟩, by simp [hll], fun x hx => ?_⟩, hb⟩, fun z h => ⟨Nat.lt_of_lt_of_le (hlt z h) g4, .inl h⟩⟩⟩
  ·rw [← hflat]
   have := take_putCellsV cur (flatK enc k d') (by rw [size_flatK, q3, hds]; exact Nat.mul_le_mul_right k q1)
   rw [size_flatK, hds] at this
   exact this
  ·obtain ⟨y, _, rfl⟩ := List.mem_map.1 hx
   exact hk y
end Go.Vc

/- Rules: results that are pointers, nil or to new memory. Conditions: none. -/
namespace Go.Lx
open Go Go.Vc Go.Md
section rules
variable {cx : Cx} {K : Zk → World → Prop} {e : Zk} {L : List Chunk}
end rules
section ops
variable {P : Program} {cx : Cx} {e : Zk} {L : List Chunk} {d : Option Nat} {ty : TypeId} {pos : String} {af : Array Edge} {g : Option (Nat × Bool)}
end ops
section rules
variable {P : Program} {cx : Cx} {ops : Array Oper} {F : Zk → List Chunk → Prop} {rest : List Oper} {ss : List Kd} {e : Zk} {L : List Chunk} {d : Nat}
end rules
end Go.Lx

/- Rules: slices of slices in boxes; parts of them, also such as begin further on; literals and appends of slices that a drawn region makes. Conditions: those that each rule names. -/
namespace Go.Lx
open Go Go.Vc Go.Md
def cutL {β : Type} (xs : List β) (l q : Int) : List β := (xs.drop l.toNat).take (q.toNat - l.toNat)
section allc
variable {α : Type} {G : Qg → (Nat → Value) → α → Prop} {h : Qg} {sz : Nat} {css : List (List Value)} {xs ys : List α} {l q : Int}
theorem AllC.cutG (p : AllC G h sz css xs) (g : Ux xs l q = some ys) : Ux css l q = some (cutL css l q) := by
 obtain ⟨g0, g1, g2, _⟩ := Wz g
 exact gCut_ok ⟨g0, g1, by rw [p.len]; exact g2⟩
theorem AllC.cut (p : AllC G h sz css xs) (g : Ux xs l q = some ys) : AllC G h sz (cutL css l q) ys := by
 obtain ⟨g0, g1, g2, rfl⟩ := Wz g
 refine ⟨by simp [cutL, p.len], fun i cs x h1 h2 => ?_⟩
 unfold cutL at h1
 rw [List.getElem?_take] at h1 h2
 split at h1
 ·rename_i hi
  rw [if_pos hi] at h2
  rw [List.getElem?_drop] at h1 h2
  exact p.el _ cs x h1 h2
 ·cases h1
theorem AllC.append {cs2 : List (List Value)} (p : AllC G h sz css xs) (q : AllC G h sz cs2 ys) : AllC G h sz (css ++ cs2) (xs ++ ys) := by
 refine ⟨by simp [p.len, q.len], fun i c x hc hx => ?_⟩
 have hl := p.len
 by_cases hi : i < css.length
 ·rw [List.getElem?_append_left hi] at hc
  rw [List.getElem?_append_left (by omega)] at hx
  exact p.el i c x hc hx
 ·rw [List.getElem?_append_right (by omega)] at hc
  rw [List.getElem?_append_right (by omega), ← hl] at hx
  exact q.el _ c x hc hx
end allc
section rules
variable {P : Program} {n : Nat} {cx : Cx} {e : Zk} {L : List Chunk} {d : Nat} {ty : TypeId} {pos : String} {af : Array Edge} {g : Option (Nat × Bool)}
def offR (w : World) (E sz : Nat) (v : Value) (n : Nat) (xs : List (List Value)) : Prop :=
 ∃ g off cap cur, v = .slice (some ⟨g, off, none⟩) n cap ∧ w.heap[g]? = some (.cells cur E (0, 0)) ∧ n ≤ cap ∧ cap ≤ maxLen ∧ off + cap * sz ≤ cur.size ∧ (cur.toList.drop off).take (n * sz) = xs.flatten
def Vn (E sz : Nat) (v : Value) (n : Nat) (xs : List (List Value)) : Chunk where
 P S w := ((w.ownsRow 0 E sz v n xs.flatten ∨ offR w E sz v n xs) ∧ xs.length = n ∧ ∀ x ∈ xs, x.length = sz) ∧ ∀ b, v.ownBlock = some b → S b
 loc S w w' h := by
  rintro ⟨⟨h2, h3⟩, h4⟩
  refine ⟨⟨?_, h3⟩, h4⟩
  rcases h2 with h2 | ⟨g, off, cap, cur, rfl, hh, hr⟩
  ·exact .inl ((J5 E sz v n xs).loc S w w' h ⟨⟨h2, h3⟩, h4⟩).1.1
  ·exact .inr ⟨g, off, cap, cur, rfl, (h g (h4 g rfl)).trans hh, hr⟩
theorem Zs (E sz : Nat) (v : Value) (n : Nat) (xs : List (List Value)) : Imp (J5 E sz v n xs) (Vn E sz v n xs) := ⟨fun _ _ ⟨⟨h1, h2⟩, h3⟩ => ⟨⟨.inl h1, h2⟩, h3⟩⟩
theorem offR.frs {w : World} {E sz : Nat} {v : Value} {n : Nat} {xs : List (List Value)} (h : offR w E sz v n xs) (hn : xs.length = n) (hl : ∀ x ∈ xs, x.length = sz) : FrS (fun b => w.heap[b]?) sz v xs := by
 obtain ⟨g, off, cap, cur, rfl, hh, hnc, hm, hcs, ht⟩ := h
 subst hn
 refine ⟨some ⟨g, off, none⟩, cap, rfl, hnc, by simpa [maxLen] using hm, .inr ⟨g, off, cur, E, (0, 0), rfl, hh, fun i x hx => ⟨hl x (List.mem_of_getElem? hx), fun j v hv => ?_⟩⟩⟩
 have hr := row_get xs i x (List.all_eq_true.2 fun x hx => by simpa using hl x hx) hx j v hv
 rw [← ht, List.getElem?_take] at hr
 split at hr
 ·rw [List.getElem?_drop, Array.getElem?_toList] at hr
  rw [← hr, Nat.add_assoc]
 ·cases hr
theorem rowO_frs0 {w : World} {E sz : Nat} {v : Value} {n : Nat} {xs : List (List Value)} {S : Nat → Prop} (h : (Vn E sz v n xs).P S w) : FrS (fun b => w.heap[b]?) sz v xs := by
 obtain ⟨⟨h1, h2, h3⟩, _⟩ := h
 exact h1.elim (fun h => row_FrS h h2 h3) (fun h => h.frs h2 h3)
theorem Jbg {α : Type} {w : World} {i E sz n : Nat} {p : Option Addr × Nat} {xs : List α} {f : α → List Value} (_ : n = xs.length) (hS : Sat cx w L) (hL : L[i]? = some (Vn E sz (.slice p.1 n p.2) n (xs.map f))) : FrS (fun b => w.heap[b]?) sz (.slice p.1 n p.2) (xs.map f) := by
 obtain ⟨S, h, _⟩ := hS.at hL
 exact rowO_frs0 h
theorem Zm {w : World} {i E sz n c : Nat} {a : Option Addr} {xs : List (List Value)} (hS : Sat cx w L) (hL : L[i]? = some (Vn E sz (.slice a n c) n xs)) : Row w a sz xs := by
 obtain ⟨S, h, _⟩ := hS.at hL
 obtain ⟨a', c', hv, _, _, r⟩ := (rowO_frs0 h).out
 simp only [Value.slice.injEq] at hv
 obtain ⟨rfl, _, rfl⟩ := hv
 exact r.row fun _ _ h => h
theorem own0 {w : World} {base E sz n : Nat} {v : Value} {xs : List Value} (h : w.ownsRow base E sz v n xs) : w.ownsRow 0 E sz v n xs :=
 ⟨h.1, h.2.imp id fun ⟨g, cap, cur, h1, _, h3⟩ => ⟨g, cap, cur, h1, Nat.zero_le _, h3⟩⟩
theorem turns_appendO {i : Nat} {S X : Operand} {t E : TypeId} {I : TypeInfo} {z : Value} {sz by_ : Nat} {p : Option Addr × Nat} {m : Nat} {xs : List (List Value)} {ad : Addr} {q c : Nat} {news : List (List Value)} {rds : List Nat}
  (ht : P.underlying t = some (.slice E)) (hi : P.info? E = some I) (hz : I.zero = some z) (hsize : I.size = sz) (hby : I.bytes = by_) (hzs : z.cells.size = sz) (hsz : Nat.blt 0 sz = true)
  (hL : L[i]? = some (Vn E sz (.slice p.1 m p.2) m xs)) (hs : ev e S = .slice p.1 m p.2) (hx : ev e X = .slice (some ad) q c) (hq : news.length = q) (hnl : ∀ x ∈ news, x.length = sz)
  (hnews : ∀ w L', Fr cx w → Sat cx w L' → (∀ j, j ∈ rds → L'[j]? = L[j]?) → Row w (some ad) sz news) (h1 : ∀ x ∈ news, ∀ u ∈ x, u.oneCell' = true)
  (h63 : m + q ≤ maxLen) (hbytes : (m + q) * by_ ≤ 140737488355328) :
  Turns P cx e ⟨some d, .call ⟨.builtin .append, #[S, X], #[t, t]⟩, ty, pos, af, g⟩ L i rds (fun p' : Option Addr × Nat => .slice p'.1 (m + q) p'.2) (fun p' => Vn E sz (.slice p'.1 (m + q) p'.2) (m + q) (xs ++ news)) := fun w L' hF hS hl hi' => by
 subst hsize
 have hL' := (hi' i (.inr rfl)).trans hL
 obtain ⟨S0, ⟨⟨ho, hlen, hlx⟩, hob⟩, hS0⟩ := hS.at hL'
 have hsz' : 0 < I.size := by simpa using hsz
 have hfl : news.flatten.length = q * I.size := by rw [Vx news hnl, hq]
 have hle : (xs ++ news).length = m + q := by simp [hlen, hq]
 have hcell : ∀ j u, news.flatten[j]? = some u → w.cell? (ad.add j) = some u := by
  intro j u hj
  obtain ⟨i', k', x, g1, g2, g3⟩ := flat_get news hnl j u hj
  rcases hnews w L' hF hS (fun j hj => hi' j (.inl hj)) with h | ⟨b, off, ha, h⟩
  ·subst h; simp at g1
  ·cases ha
   have := (h i' x g1).2 k' u g2
   rw [Addr.add_lit, g3, ← Nat.add_assoc]
   exact this
 have hone : ∀ u ∈ news.flatten, u.oneCell' = true := fun u hu => by
  obtain ⟨x, hx, hux⟩ := List.mem_flatten.1 hu
  exact h1 x hx u hux
 have hall : ∀ x ∈ xs ++ news, x.length = I.size := fun x hx => by
  rcases List.mem_append.1 hx with h | h
  ·exact hlx x h
  ·exact hnl x h
 have hflat : (xs ++ news).flatten = xs.flatten ++ news.flatten := List.flatten_append
 rcases ho with ho | ⟨g0, off, cap, cur, hv, hh, hnc, hcm, hfit, htk⟩
 ·obtain ⟨v', w', hr, h2, h3, h5⟩ := run_append_at (P := P) (ty := ty) (pos := pos) (af := af) (g := g) (d := some d) ht hi hz rfl hby hzs hsz' hs ho hx hfl hcell hone h63 hbytes
  obtain ⟨p', rfl⟩ := Jct h2
  rw [← hflat] at h2
  obtain ⟨hF', hS'⟩ := hS.turnOf hF hL' (C := Vn E I.size (.slice p'.1 (m + q) p'.2) (m + q) (xs ++ news)) fun S1 hp => by
   have t1 := Ug (xs' := xs ++ news) hp.2 h2 h3 h5 hle hall
   obtain ⟨S2, k1, k2⟩ := t1.out
   exact ⟨t1.os, t1.tape, t1.output, t1.size, t1.block, S2, (Zs _ _ _ _ _).out _ _ k1, k2⟩
  unfold RunsTo
  rw [hr]
  exact ⟨p', rfl, hF', hS'⟩
 ·simp only [Value.slice.injEq] at hv
  obtain ⟨e1, _, e2⟩ := hv
  have hs' : ev e S = .slice (some ⟨g0, off, none⟩) m cap := by rw [hs, e1, e2]
  have hexec : ∀ v w', (Builtin.append_ #[t, t] ty #[.slice (some ⟨g0, off, none⟩) m cap, .slice (some ad) q c]).run P w = .ok v w' → (execOp (ev e) ⟨some d, .call ⟨.builtin .append, #[S, X], #[t, t]⟩, ty, pos, af, g⟩).run P w = .ok (.value v) w' := by
   intro v w' hr
   simp only [execOp, resolve, invoke, builtin, Sem.run_bind, Sem.run_pure, Result.andThen_ok, List.map_toArray, List.map_cons, List.map_nil, hs', hx, hr]
  have hcur : cur.toList.length = cur.size := Array.length_toList
  by_cases hroom : m + q ≤ cap
  ·have hfit' : off + m * I.size + news.flatten.length ≤ cur.size := by
    have : (m + q) * I.size ≤ cap * I.size := Nat.mul_le_mul_right _ hroom
    rw [Nat.add_mul] at this; omega
   have hfc := run_firstCells_some (P := P) w I.size q ad q c news.flatten hfl hcell
   have hst := run_storeCells_at (P := P) g0 (off + m * I.size) E news.flatten 0 cur w hh (by simpa using hfit') hone
   simp only [Nat.add_zero] at hst
   have hr2 : (Builtin.append_ #[t, t] ty #[.slice (some ⟨g0, off, none⟩) m cap, .slice (some ad) q c]).run P w = .ok (.slice (some ⟨g0, off, none⟩) (m + q) cap) (w.setRow g0 (cur.toList.take (off + m * I.size) ++ news.flatten ++ cur.toList.drop (off + m * I.size + news.flatten.length)).toArray) := by
    simp [Builtin.append_, run_underlying ht, sizeOf, typeInfo, hi, Builtin.lenOf, hroom, hfc, Addr.add_lit, hst]
   have hr := hexec _ _ hr2
   have hlen2 : (cur.toList.take (off + m * I.size) ++ news.flatten ++ cur.toList.drop (off + m * I.size + news.flatten.length)).length = cur.size := by
    simp only [List.length_append, List.length_take, List.length_drop, hcur]; omega
   obtain ⟨hF', hS'⟩ := hS.turnOf hF hL' (C := Vn E I.size (.slice (some ⟨g0, off, none⟩) (m + q) cap) (m + q) (xs ++ news)) (w' := w.setRow g0 (cur.toList.take (off + m * I.size) ++ news.flatten ++ cur.toList.drop (off + m * I.size + news.flatten.length)).toArray) fun S1 hp => by
    have hg1 : S1 g0 := hp.2 g0 (by rw [e1]; rfl)
    refine ⟨rfl, rfl, rfl, by simp [World.setRow], fun b' hb' hn => ?_, (fun x => x = g0), ⟨⟨.inr ⟨g0, off, cap, _, rfl, setRow_heap w g0 cur _ E _ hh, hroom, hcm, by rw [List.size_toArray, hlen2]; exact hfit, ?_⟩, hle, hall⟩, fun b' hb' => by cases hb'; rfl⟩, fun b' hb' => ⟨?_, .inl (by rw [hb']; exact hg1)⟩⟩
    ·exact setRow_other w g0 b' _ fun h => hn (by rw [h]; exact hg1)
    ·rw [hflat]
     have hd : (cur.toList.take (off + m * I.size) ++ news.flatten ++ cur.toList.drop (off + m * I.size + news.flatten.length)).drop off = ((cur.toList.drop off).take (m * I.size) ++ news.flatten) ++ cur.toList.drop (off + m * I.size + news.flatten.length) := by
      rw [List.append_assoc, List.drop_append_of_le_length (by rw [List.length_take, hcur]; omega), List.drop_take, Nat.add_sub_cancel_left, List.append_assoc]
     have hl2 : ((cur.toList.drop off).take (m * I.size) ++ news.flatten).length = (m + q) * I.size := by
      rw [List.length_append, List.length_take, List.length_drop, hcur, Nat.add_mul, Nat.min_eq_left (by omega)]; omega
     show ((cur.toList.take (off + m * I.size) ++ news.flatten ++ cur.toList.drop (off + m * I.size + news.flatten.length)).toArray.toList.drop off).take _ = _
     rw [List.toList_toArray, hd, ← hl2, List.take_left, htk]
    ·rw [hb', setRow_size]; exact (Array.getElem?_eq_some_iff.1 hh).1
   unfold RunsTo
   rw [hr]
   exact ⟨(some ⟨g0, off, none⟩, cap), rfl, hF', hS'⟩
  ·have hgr := run_append_arg_grows (P := P) w t ty E I z I.size by_ ht hi hz rfl hby hzs hsz' ⟨g0, off, none⟩ m cap xs.flatten (by rw [Vx xs hlx, hlen]) (fun j u hj => ?_) ad q c news.flatten hfl hcell (by omega) h63 hbytes
   ·obtain ⟨v', w', hr, h2, h3⟩ := hgr
    have hr := hexec _ _ hr
    obtain ⟨p', rfl⟩ := Jct (own0 h2)
    rw [← hflat] at h2
    obtain ⟨hF', hS'⟩ := hS.turnOf hF hL' (C := Vn E I.size (.slice p'.1 (m + q) p'.2) (m + q) (xs ++ news)) fun S1 hp => by
     refine ⟨h3.os, h3.tape, h3.output, h3.size, fun b' hb' _ => h3.block b' hb' (by simp), fun b' => (Value.slice p'.1 (m + q) p'.2).ownBlock = some b', ⟨⟨.inl (own0 h2), hle, hall⟩, fun _ h => h⟩, fun b' hb' => ⟨(h2.lt b' hb').2, .inr (h2.lt b' hb').1⟩⟩
    unfold RunsTo
    rw [hr]
    exact ⟨p', rfl, hF', hS'⟩
   ·obtain ⟨i', k', x, g1, g2, g3⟩ := flat_get xs hlx j u hj
    have hr := (offR.frs ⟨g0, off, cap, cur, rfl, hh, hnc, hcm, hfit, htk⟩ hlen hlx).out
    obtain ⟨a', c', hv', _, _, r⟩ := hr
    simp only [Value.slice.injEq] at hv'
    obtain ⟨rfl, _, rfl⟩ := hv'
    rcases r.row (w := w) (fun _ _ h => h) with h | ⟨b', off', ha, h⟩
    ·subst h; simp at g1
    ·cases ha
     have := (h i' x g1).2 k' u g2
     rw [Addr.add_lit, g3, ← Nat.add_assoc]
     exact this
theorem imp_clipR (E sz : Nat) (a : Option Addr) (n c : Nat) (xs : List (List Value)) : Imp (J5 E sz (.slice a n c) n xs) (Vn E sz (.slice (Za a 0 n sz) n n) n xs) := ⟨fun S w h => by
 obtain ⟨⟨h1, h2, h3⟩, hob⟩ := h
 rw [cutA_zero]
 refine ⟨⟨?_, h2, h3⟩, fun b hb => hob b (by rw [← hb]; cases a <;> rfl)⟩
 rcases h1.2 with ⟨hv, h0⟩ | ⟨g, cap, cur, hv, _, hh, hnc, hm, hcs, ht⟩
 ·simp only [Value.slice.injEq] at hv
  obtain ⟨rfl, rfl, rfl⟩ := hv
  exact .inl h1
 ·simp only [Value.slice.injEq] at hv
  obtain ⟨rfl, _, rfl⟩ := hv
  refine .inr ⟨g, 0, n, cur, rfl, hh, Nat.le_refl _, by omega, ?_, by simpa using ht⟩
  have := Nat.mul_le_mul_right sz hnc
  omega⟩
end rules
noncomputable def os0 : Os := by constructor <;> exact default
section rules
variable {P : Program} {cx : Cx} {ops : Array Oper} {F : Zk → List Chunk → Prop} {rest : List Oper} {ss : List Kd} {e : Zk} {L : List Chunk} {d : Nat}
end rules
end Go.Lx

/- Rules: stores of slices that a region makes into elements of nested rows. Conditions: none. -/
namespace Go.Lx
open Go Go.Vc Go.Md
def setR (css : List (List Value)) (i : Int) (j : Nat) (v : Value) : List (List Value) := css.set i.toNat ((css.getD i.toNat []).set j v)
def updF (c : Nat → Value) (j : Nat) (v : Value) (q : Nat) : Value := cond (Nat.beq q j) v (c q)
theorem Qt (css : List (List Value)) (i : Int) (j : Nat) (v : Value) : (setR css i j v).length = css.length := by simp [setR]
theorem lenR {α : Type} {css : List (List Value)} {xs ys : List α} {i : Int} {j : Nat} {v : Value} {x : α} (h : css.length = xs.length) (g : Q6 xs i x = some ys) : (setR css i j v).length = ys.length := by
 obtain ⟨_, _, rfl⟩ := gSet_some g
 rw [Qt, h, List.length_set]
theorem ixR {α : Type} {css : List (List Value)} {xs : List α} {i : Int} {x : α} (h : css.length = xs.length) (g : Jk xs i = some x) : Jk css i = some (css.getD i.toNat []) := by
 obtain ⟨h0, h1, _⟩ := Ye g
 unfold Jk
 rw [if_pos h0, List.getD_eq_getElem?_getD, List.getElem?_eq_getElem (by rw [h]; exact h1)]; rfl
theorem AllC.setR {α : Type} {G : Qg → (Nat → Value) → α → Prop} {h : Qg} {sz : Nat} {css : List (List Value)} {xs ys : List α} (p : AllC G h sz css xs) {i : Int} {x x' : α} {j : Nat} {v : Value} (g : Jk xs i = some x) (g2 : Q6 xs i x' = some ys) (hj : Nat.blt j sz = true)
  (hG : G h (updF (fun q => (css.getD i.toNat []).getD q undef) j v) x') : AllC G h sz (Go.Lx.setR css i j v) ys := by
 have hj' : j < sz := by simpa using hj
 obtain ⟨h0, h1, rfl⟩ := gSet_some g2
 have hget := p.get g
 have hl := (p.el _ _ _ hget (Ye g).2.2).1
 refine ⟨by rw [Qt, p.len, List.length_set], fun k c y hc hy => ?_⟩
 unfold Go.Lx.setR at hc
 rw [List.getElem?_set] at hc hy
 by_cases hk : i.toNat = k
 ·subst hk
  rw [if_pos rfl, if_pos (by rw [p.len]; exact h1)] at hc
  rw [if_pos rfl, if_pos h1] at hy
  cases hc; cases hy
  refine ⟨by rw [List.length_set]; exact hl, ?_⟩
  have : (fun q => ((css.getD i.toNat []).set j v).getD q undef) = updF (fun q => (css.getD i.toNat []).getD q undef) j v := by
   funext q
   unfold updF
   simp only [List.getD_eq_getElem?_getD, List.getElem?_set]
   by_cases hq : j = q
   ·subst hq
    have : Nat.beq j j = true := by simp
    simp only [List.getD_eq_getElem?_getD] at hl
    rw [this, if_pos rfl, if_pos (by rw [hl]; exact hj')]; rfl
   ·have : Nat.beq q j = false := by
     cases hb : Nat.beq q j with
     | false => rfl
     | true => exact absurd (Nat.eq_of_beq_eq_true hb).symm hq
    rw [this, if_neg hq]; rfl
  rw [this]; exact hG
 ·rw [if_neg hk] at hc hy
  exact p.el k c y hc hy
theorem wr_set {y : List Value} {j : Nat} {v : Value} (h : j < y.length) : wr y j [v] = some (y.set j v) := by
 induction y generalizing j with
 | nil => simp at h
 | cons a y ih =>
  cases j with
  | zero => simp [wr, wrn]
  | succ j =>
   show (wr y j [v]).map (a :: ·) = _
   rw [ih (by simpa using h)]; rfl
end Go.Lx
namespace Go.Lx
open Go Go.Vc Go.Md
theorem flatten_setR (sz j : Nat) (x : Value) : ∀ (css : List (List Value)) (i : Nat), (∀ y ∈ css, y.length = sz) → i < css.length → j < sz → (css.set i ((css.getD i []).set j x)).flatten = css.flatten.set (i * sz + j) x
 | [], i, _, h, _ => by simp at h
 | y :: css, 0, hl, _, hj => by
  have hy := hl y (by simp)
  simp only [List.set_cons_zero, List.getD_cons_zero, List.flatten_cons, Nat.zero_mul, Nat.zero_add]
  rw [List.set_append_left _ _ (by rw [hy]; exact hj)]
 | y :: css, i + 1, hl, h, hj => by
  have hy := hl y (by simp)
  have ih := flatten_setR sz j x css i (fun z hz => hl z (List.mem_cons_of_mem _ hz)) (by simpa using h) hj
  simp only [List.set_cons_succ, List.getD_cons_succ, List.flatten_cons]
  rw [ih, List.set_append_right _ _ (by rw [hy, Nat.add_mul]; omega), hy]
  congr 2
  rw [Nat.add_mul]; omega
theorem rowO_of_turn {w w' : World} {S : Nat → Prop} {E sz n : Nat} {v : Value} {xs : List (List Value)} (h : Turn w w' S (J5 E sz v n xs)) : Turn w w' S (Vn E sz v n xs) := by
 obtain ⟨a, b, c, d, e, S', h1, h2⟩ := h
 exact ⟨a, b, c, d, e, S', (Zs E sz v n xs).out _ _ h1, h2⟩
section rules
variable {P : Program} {n : Nat} {cx : Cx} {e : Zk} {L : List Chunk} {ops : Array Oper} {rest : List Oper} {F : Zk → List Chunk → Prop} {ss : List Kd} {ty : TypeId} {pos : String} {af : Array Edge} {g : Option (Nat × Bool)}
theorem run_storeO {T j sz k m c E i : Nat} {A X : Operand} {x : Value} {a : Option Addr} {css : List (List Value)} {w : World} {S : Nat → Prop} (hs : ∀ w, (sizeOf T).run P w = .ok 1 w) (hp : ev e A = Zn a k) (hk : k = i * sz + j) (hx : ev e X = x) (hc : x.cells.toList = [x])
  (hone : [x].all Value.oneCell' = true) (hj : j < sz) (hi : i < css.length) (h : (Vn E sz (.slice a m c) m css).P S w) (hlt : ∀ b, S b → b < w.heap.size) :
  ∃ w', (execOp (ev e) ⟨none, .store T A X, ty, pos, af, g⟩).run P w = .ok .skip w' ∧ Turn w w' S (Vn E sz (.slice a m c) m (css.set i ((css.getD i []).set j x))) := by
 obtain ⟨⟨h1, hlen, hlx⟩, hb⟩ := h
 have hget : css[i]? = some (css.getD i []) := by rw [List.getD_eq_getElem?_getD, List.getElem?_eq_getElem hi]; rfl
 have hyl := hlx _ (List.mem_of_getElem? hget)
 have hl2 : ∀ x' ∈ css.set i ((css.getD i []).set j x), x'.length = sz := fun z' hz => by
  rcases List.mem_or_eq_of_mem_set hz with h | h
  ·exact hlx z' h
  ·subst h; rw [List.length_set]; exact hyl
 rcases h1 with ho | ⟨b, off, cap, cur, hv, hh, q1, q2, q3, q4⟩
 ·have hv' : wr (css.getD i []) j [x] = some ((css.getD i []).set j x) := wr_set (by rw [hyl]; exact hj)
  obtain ⟨w', hr, h2, h3⟩ := run_storeR (P := P) (ty := ty) (pos := pos) (af := af) (g := g) hs hp hk hx hc rfl rfl hone hget hv' ho hlen hlx
  exact ⟨w', hr, rowO_of_turn (Ug hb h2 h3 (.inl rfl) (by simp [hlen]) hl2)⟩
 ·simp only [Value.slice.injEq] at hv
  obtain ⟨rfl, -, rfl⟩ := hv
  have hbound : i * sz + j < m * sz := by
   have := Nat.mul_le_mul_right sz (show i + 1 ≤ m by omega)
   rw [Nat.add_mul, Nat.one_mul] at this; omega
  have hcs : off + (i * sz + j) < cur.size := by
   have := Nat.mul_le_mul_right sz q1
   omega
  have hp' : ev e A = .pointer (some ⟨b, off + (i * sz + j), none⟩) := by rw [hp, hk]; rfl
  have hw := wr_set (y := cur.toList) (j := off + (i * sz + j)) (v := x) (by simpa using hcs)
  have hb' : w.heap[b]? = some (.cells cur.toList.toArray E (0, 0)) := by rw [hh]
  refine ⟨_, Go.Vc.run_store hs hp' hx hc rfl rfl hone hw hb', ?_⟩
  have hset := setRow_heap w b cur.toList.toArray (cur.toList.set (off + (i * sz + j)) x).toArray E (0, 0) hb'
  have hSb : S b := hb b rfl
  refine ⟨rfl, rfl, rfl, by simp, fun d hd hn => setRow_other w b d _ (fun e => hn (e ▸ hSb)), S, ⟨⟨.inr ⟨b, off, c, _, rfl, hset, q1, q2, by simpa using q3, ?_⟩, by simp [hlen], hl2⟩, hb⟩, fun d hd => ⟨by simpa using hlt d hd, .inl hd⟩⟩
  rw [flatten_setR sz j x css i hlx hi hj, ← q4]
  show ((cur.toList.set (off + (i * sz + j)) x).drop off).take (m * sz) = _
  rw [List.drop_set, if_neg (by omega), Nat.add_sub_cancel_left, List.take_set]
end rules
end Go.Lx
namespace Go.Lx
open Go Go.Vc Go.Md
def rofD {α : Type} (k : Bool) (E sz : Nat) (G : Qg → (Nat → Value) → α → Prop) (v : Value) (n : Nat) (xs : List α) : Chunk where
 P S w := ∃ (hp : Qg) (css : List (List Value)), AllC G hp sz css xs ∧ n = css.length ∧ (k = true → ∃ a, v = .slice a n n) ∧ (bothC (Yx Yo hp) (Vn E sz v n (css.map idC))).P S w
 loc S w w' h := by
  rintro ⟨hp, css, h1, h2, h4, h3⟩
  exact ⟨hp, css, h1, h2, h4, Chunk.loc _ _ _ _ h h3⟩
theorem Zc {α : Type} {k : Bool} {G : Qg → (Nat → Value) → α → Prop} {hp : Qg} {E sz n : Nat} {p : Option Addr × Nat} {css : List (List Value)} {xs : List α} (hn : n = css.length) (hc : k = true → p.2 = n) (f : AllC G hp sz css xs) :
  Imp (bothC (Yx Yo hp) (Vn E sz (.slice p.1 n p.2) n (css.map idC))) (rofD k E sz G (.slice p.1 n p.2) n xs) := ⟨fun S w h => ⟨hp, css, f, hn, fun hk => ⟨p.1, by rw [hc hk]⟩, h⟩⟩
section
variable {cx : Cx} {K : Zk → World → Prop} {e : Zk} {L : List Chunk}
theorem c_rofD {α : Type} {kc : Bool} {G : Qg → (Nat → Value) → α → Prop} {E sz n : Nat} {p : Option Addr × Nat} {xs : List α} (i : Nat) (hi : L[i]? = some (rofD kc E sz G (.slice p.1 n p.2) n xs))
  (k : ∀ (hp : Qg) (css : List (List Value)), n = css.length → (kc = true → p.2 = n) → AllC G hp sz css xs → At cx K e (L.set i (bothC (Yx Yo hp) (Vn E sz (.slice p.1 n p.2) n (css.map idC))))) : At cx K e L :=
 c_show (τ := Qg × List (List Value)) (D := fun t => bothC (Yx Yo t.1) (Vn E sz (.slice p.1 n p.2) n (t.2.map idC))) (φ := fun t => n = t.2.length ∧ (kc = true → p.2 = n) ∧ AllC G t.1 sz t.2 xs) i hi (fun S w ⟨hp, css, h1, h2, h5, h3⟩ => ⟨(hp, css), ⟨h2, fun hk => by obtain ⟨_, h4⟩ := h5 hk; simp only [Value.slice.injEq] at h4; exact h4.2.2, h1⟩, h3⟩) fun t ht => k t.1 t.2 ht.1 ht.2.1 ht.2.2
end
end Go.Lx
namespace Go.Lx
open Go Go.Vc Go.Md
section
variable {P : Program} {n : Nat} {cx : Cx} {e : Zk} {L : List Chunk} {ops : Array Oper} {rest : List Oper} {F : Zk → List Chunk → Prop} {ss : List Kd} {ty : TypeId} {pos : String} {af : Array Edge} {g : Option (Nat × Bool)}
theorem Y5 {o : Oper} {d : Nat} {v : Value} {rds : List Nat} (hw : Zu ops o e = true) (hd : o.dst = some d) (hr : ∀ w L', Fr cx w → Sat cx w L' → (∀ i ∈ rds, L'[i]? = L[i]?) → (execOp (ev e) o).run P w = .ok (.value v) w)
  (k : Sq P cx ops F rest ss (upd e d v) L) : Sq P cx ops F (o :: rest) (.d rds v :: ss) e L := Qc hr hw hd k
theorem Xn {α : Type} {f : α → List Value} {xs : List α} {x' : α} {i : Int} {d : Option Nat} {T fld k fo ft fsz bo : Nat} {a : Option Addr} {nm tg pk : String} {em : Bool} {X : Operand} {fs : Array Field} {sz' : Nat} {w : World} (hu : ∀ w, (underlying T).run P w = .ok (.struct fs) w)
  (hf : fs[fld]? = some ⟨nm, ft, fo, em, tg, pk, bo⟩) (hs : ∀ w, (sizeOf ft).run P w = .ok fsz w) (hsz : Nat.blt 0 fsz = true) (hp : ev e X = Zn a k) (hR : Row w a sz' (xs.map f)) (hg : Jk xs i = some x') :
  (execOp (ev e) ⟨d, .fieldAddr T X fld, ty, pos, af, g⟩).run P w = .ok (.value (Zn a (k + fo))) w :=
 Xv hu hf hs hsz hp (hR.some (by rw [List.length_map]; exact (Ye hg).2.1)) w
theorem someOfO {α : Type} {w : World} {i E sz n c : Nat} {a : Option Addr} {f : α → List Value} {xs : List α} {k : Int} {x : α} (hS : Sat cx w L) (hL : L[i]? = some (Vn E sz (.slice a n c) n (xs.map f))) (hg : Jk xs k = some x) : ∃ b off, a = some ⟨b, off, none⟩ := by
 obtain ⟨S, ⟨⟨h1, h2, h3⟩, _⟩, _⟩ := hS.at hL
 have := (Ye hg).2.1
 rcases h1 with h1 | ⟨g, off, cap, cur, hv, _⟩
 ·rcases h1.2 with ⟨hv, h0⟩ | ⟨g, cap, cur, hv, _⟩
  ·rw [List.length_map] at h2; omega
  ·simp only [Value.slice.injEq] at hv; exact ⟨g, 0, hv.1⟩
 ·simp only [Value.slice.injEq] at hv; exact ⟨g, off, hv.1⟩
end
end Go.Lx
namespace Go.Lx
open Go Go.Vc Go.Md
def ptrB : Value → Nat
 | .pointer (some ⟨b, _, _⟩) => b
 | _ => 0
def ptrO : Value → Nat
 | .pointer (some ⟨_, o, _⟩) => o
 | _ => 0
def stC (C : Chunk) (b o : Nat) (x : Value) : Chunk where
 P S w := ∃ (w0 : World) (cur : Array Value) (T : TypeId), C.P S w0 ∧ S b ∧ w0.heap[b]? = some (.cells cur T (0, 0)) ∧ w.heap[b]? = some (.cells (cur.toList.set o x).toArray T (0, 0)) ∧ ∀ d, S d → d ≠ b → w.heap[d]? = w0.heap[d]?
 loc S w w' h := by
  rintro ⟨w0, cur, T, h1, h2, h3, h4, h5⟩
  exact ⟨w0, cur, T, h1, h2, h3, (h b h2).trans h4, fun d hd hne => (h d hd).trans (h5 d hd hne)⟩
def stV (C : Option Chunk) (v x : Value) : Chunk := match C with
 | some C => stC C (ptrB v) (ptrO v) x
 | none => empC
theorem turn_st {C : Chunk} {b o : Nat} {x : Value} {w : World} {S : Nat → Prop} {cur : Array Value} {T : TypeId} (hp : C.P S w) (hSb : S b) (hb : w.heap[b]? = some (.cells cur T (0, 0))) (hlt : ∀ b, S b → b < w.heap.size) :
  Turn w (w.setRow b (cur.toList.set o x).toArray) S (stC C b o x) :=
 ⟨rfl, rfl, rfl, by simp, fun d hd hn => setRow_other w b d _ (fun e => hn (e ▸ hSb)), S,
  ⟨w, cur, T, hp, hSb, hb, setRow_heap w b cur (cur.toList.set o x).toArray T (0, 0) hb, fun d hd hne => setRow_other w b d _ hne⟩, fun d hd => ⟨by simpa using hlt d hd, .inl hd⟩⟩
theorem rowO_block {S : Nat → Prop} {w : World} {E sz n c t : Nat} {a : Option Addr} {css : List (List Value)} (h : (Vn E sz (.slice a n c) n css).P S w) (ht : t < n * sz) :
  ∃ g off cur, a = some ⟨g, off, none⟩ ∧ S g ∧ w.heap[g]? = some (.cells cur E (0, 0)) ∧ off + t < cur.size := by
 obtain ⟨⟨h1, hlen, hlx⟩, hb⟩ := h
 rcases h1 with h1 | ⟨g, off, cap, cur, hv, hh, q1, q2, q3, q4⟩
 ·rcases h1.2 with ⟨hv, h0⟩ | ⟨g, cap, cur, hv, hbase, hh, q1, q2, q3, q4⟩
  ·rw [h0] at ht; simp at ht
  ·simp only [Value.slice.injEq] at hv
   obtain ⟨rfl, -, rfl⟩ := hv
   have := Nat.mul_le_mul_right sz q1
   exact ⟨g, 0, cur, rfl, hb g rfl, hh, by omega⟩
 ·simp only [Value.slice.injEq] at hv
  obtain ⟨rfl, -, rfl⟩ := hv
  have := Nat.mul_le_mul_right sz q1
  exact ⟨g, off, cur, rfl, hb g rfl, hh, by omega⟩
theorem cell_in {n sz i j : Nat} (hi : i < n) (hj : j < sz) : i * sz + j < n * sz := by
 have := Nat.mul_le_mul_right sz (show i + 1 ≤ n by omega)
 rw [Nat.add_mul, Nat.one_mul] at this; omega
theorem Z9 (l : List (List Value)) : l.map idC = l := by
 have : (idC : List Value → List Value) = id := rfl
 rw [this, List.map_id]
theorem Jb5 {C : Chunk} {E sz n c j : Nat} {a : Option Addr} {css : List (List Value)} {i : Int} {x v : Value} (h : Imp C (Vn E sz (.slice a n c) n (css.map idC))) {α : Type} {xs : List α} {y : α} (hl : css.length = xs.length) (hg : Jk xs i = some y) (hj : Nat.blt j sz = true)
  (hv : v = Zn a (i.toNat * sz + j)) : Imp (stC C (ptrB v) (ptrO v) x) (Vn E sz (.slice a n c) n ((setR css i j x).map idC)) := ⟨fun S w ⟨w0, cur', T', hp, hSb, hb0, hb1, hoth⟩ => by
 subst hv
 have hj' : j < sz := by simpa using hj
 obtain ⟨_, hi, _⟩ := Ye (ixR hl hg)
 have h0 := h.out S w0 hp
 rw [Z9] at h0 ⊢
 obtain ⟨⟨h1, hlen, hlx⟩, hb⟩ := h0
 have hget : css[i.toNat]? = some (css.getD i.toNat []) := by rw [List.getD_eq_getElem?_getD, List.getElem?_eq_getElem hi]; rfl
 have hyl := hlx _ (List.mem_of_getElem? hget)
 have hl2 : ∀ x' ∈ setR css i j x, x'.length = sz := fun z' hz => by
  rcases List.mem_or_eq_of_mem_set hz with h | h
  ·exact hlx z' h
  ·subst h; rw [List.length_set]; exact hyl
 have hin := cell_in (n := n) (by omega : i.toNat < n) hj'
 have hfl := flatten_setR sz j x css i.toNat hlx hi hj'
 refine ⟨⟨?_, by rw [Qt]; exact hlen, hl2⟩, hb⟩
 rcases h1 with h1 | ⟨g, off, cap, cur, hv, hh, q1, q2, q3, q4⟩
 ·rcases h1.2 with ⟨hv, h0⟩ | ⟨g, cap, cur, hv, hbase, hh, q1, q2, q3, q4⟩
  ·rw [h0] at hin; simp at hin
  ·simp only [Value.slice.injEq] at hv
   obtain ⟨rfl, -, rfl⟩ := hv
   have e1 : ptrB (Zn (some (⟨g, 0, none⟩ : Addr)) (i.toNat * sz + j)) = g := rfl
   have e2 : ptrO (Zn (some (⟨g, 0, none⟩ : Addr)) (i.toNat * sz + j)) = i.toNat * sz + j := Nat.zero_add _
   rw [e1] at hb0 hb1
   rw [e2] at hb1
   rw [hh] at hb0
   simp only [Option.some.injEq, Obj.cells.injEq] at hb0
   obtain ⟨rfl, rfl, -⟩ := hb0
   refine .inl ⟨?_, .inr ⟨g, c, _, rfl, hbase, hb1, q1, q2, by simpa using q3, ?_⟩⟩
   ·have h9 := h1.1
    unfold setR; rw [hfl, List.length_set]; exact h9
   ·unfold setR; rw [hfl, ← q4]
    show (cur.toList.set (i.toNat * sz + j) x).take (n * sz) = _
    rw [List.take_set]
 ·simp only [Value.slice.injEq] at hv
  obtain ⟨rfl, -, rfl⟩ := hv
  have e1 : ptrB (Zn (some (⟨g, off, none⟩ : Addr)) (i.toNat * sz + j)) = g := rfl
  have e2 : ptrO (Zn (some (⟨g, off, none⟩ : Addr)) (i.toNat * sz + j)) = off + (i.toNat * sz + j) := rfl
  rw [e1] at hb0 hb1
  rw [e2] at hb1
  rw [hh] at hb0
  simp only [Option.some.injEq, Obj.cells.injEq] at hb0
  obtain ⟨rfl, rfl, -⟩ := hb0
  refine .inr ⟨g, off, c, _, rfl, hb1, q1, q2, by simpa using q3, ?_⟩
  unfold setR; rw [hfl, ← q4]
  show ((cur.toList.set (off + (i.toNat * sz + j)) x).drop off).take (n * sz) = _
  rw [List.drop_set, if_neg (by omega), Nat.add_sub_cancel_left, List.take_set]⟩
theorem Uy {C : Chunk} {E sz n c j : Nat} {a : Option Addr} {css : List (List Value)} {i : Int} {x v : Value} (h : Imp C (J5 E sz (.slice a n c) n (css.map idC))) {α : Type} {xs : List α} {y : α} (hl : css.length = xs.length) (hg : Jk xs i = some y) (hj : Nat.blt j sz = true)
  (hv : v = Zn a (i.toNat * sz + j)) : Imp (stC C (ptrB v) (ptrO v) x) (J5 E sz (.slice a n c) n ((setR css i j x).map idC)) := ⟨fun S w ⟨w0, cur', T', hp, hSb, hb0, hb1, hoth⟩ => by
 subst hv
 have hj' : j < sz := by simpa using hj
 obtain ⟨_, hi, _⟩ := Ye (ixR hl hg)
 have h0 := h.out S w0 hp
 rw [Z9] at h0 ⊢
 obtain ⟨⟨h1, hlen, hlx⟩, hb⟩ := h0
 have hget : css[i.toNat]? = some (css.getD i.toNat []) := by rw [List.getD_eq_getElem?_getD, List.getElem?_eq_getElem hi]; rfl
 have hyl := hlx _ (List.mem_of_getElem? hget)
 have hl2 : ∀ x' ∈ setR css i j x, x'.length = sz := fun z' hz => by
  rcases List.mem_or_eq_of_mem_set hz with h | h
  ·exact hlx z' h
  ·subst h; rw [List.length_set]; exact hyl
 have hin := cell_in (n := n) (by omega : i.toNat < n) hj'
 have hfl := flatten_setR sz j x css i.toNat hlx hi hj'
 refine ⟨⟨?_, by rw [Qt]; exact hlen, hl2⟩, hb⟩
 rcases h1.2 with ⟨hv, h0⟩ | ⟨g, cap, cur, hv, hbase, hh, q1, q2, q3, q4⟩
 ·rw [h0] at hin; simp at hin
 ·simp only [Value.slice.injEq] at hv
  obtain ⟨rfl, -, rfl⟩ := hv
  have e1 : ptrB (Zn (some (⟨g, 0, none⟩ : Addr)) (i.toNat * sz + j)) = g := rfl
  have e2 : ptrO (Zn (some (⟨g, 0, none⟩ : Addr)) (i.toNat * sz + j)) = i.toNat * sz + j := Nat.zero_add _
  rw [e1] at hb0 hb1
  rw [e2] at hb1
  rw [hh] at hb0
  simp only [Option.some.injEq, Obj.cells.injEq] at hb0
  obtain ⟨rfl, rfl, -⟩ := hb0
  refine ⟨?_, .inr ⟨g, c, _, rfl, hbase, hb1, q1, q2, by simpa using q3, ?_⟩⟩
  ·have h9 := h1.1
   unfold setR; rw [hfl, List.length_set]; exact h9
  ·unfold setR; rw [hfl, ← q4]
   show (cur.toList.set (i.toNat * sz + j) x).take (n * sz) = _
   rw [List.take_set]⟩
theorem imp_stB {C : Chunk} {b o T : Nat} {cs cs' : List Value} {x : Value} (h : Imp C (Q1 b cs T)) (hcs : cs.set o x = cs') : Imp (stC C b o x) (Q1 b cs' T) := ⟨fun S w ⟨w0, cur', T', hp, hSb, hb0, hb1, hoth⟩ => by
 have h0 := h.out S w0 hp
 have hb := h0.2
 rw [hb0] at hb
 simp only [Option.some.injEq, Obj.cells.injEq] at hb
 obtain ⟨rfl, rfl, -⟩ := hb
 subst hcs
 exact ⟨h0.1, hb1⟩⟩
section
variable {P : Program} {n : Nat} {cx : Cx} {e : Zk} {L : List Chunk} {ops : Array Oper} {rest : List Oper} {F : Zk → List Chunk → Prop} {ss : List Kd} {ty : TypeId} {pos : String} {af : Array Edge} {g : Option (Nat × Bool)}
def Kd.stk (a q i : Nat) : Kd := .g [a, q] [i] [i] (fun _ _ v => v = undef) (fun vs l _ => [stV (l.headD none) (vs.headD undef) (vs.getD 1 undef)])
theorem W4 {i : Nat} {a q T : Nat} {x va : Value} {C : Chunk} (hs : ∀ w, (sizeOf T).run P w = .ok 1 w) (hw : Zu ops ⟨none, .store T (.tmp a) (.tmp q), ty, pos, af, g⟩ e = true) (hp : e a = va) (hx : e q = x) (hc : x.cells.toList = [x]) (hone : [x].all Value.oneCell' = true)
  (hL : L[i]? = some C) (hblk : ∀ S w, C.P S w → ∃ b o cur T0, va = .pointer (some ⟨b, o, none⟩) ∧ S b ∧ w.heap[b]? = some (.cells cur T0 (0, 0)) ∧ o < cur.size)
  (k : Sq P cx ops F rest ss e (L.set i (stC C (ptrB va) (ptrO va) x))) : Sq P cx ops F (⟨none, .store T (.tmp a) (.tmp q), ty, pos, af, g⟩ :: rest) (Kd.stk a q i :: ss) e L := by
 have hst : stV (([i].map (Go.Vc.look L)).headD none) (([a, q].map e).headD undef) (([a, q].map e).getD 1 undef) = stC C (ptrB va) (ptrO va) x := by
  show stV (Go.Vc.look L i) (e a) (e q) = _
  have : Go.Vc.look L i = some C := hL
  rw [this, hp, hx]; rfl
 refine .take hw ⟨undef, rfl⟩ ⟨fun w L' hF hS _ hi => ?_⟩ fun v' hv' => ?_
 ·have hL' := (hi i (.inl (by simp [Kd.stk, Kd.rds]))).trans hL
  obtain ⟨S0, hC, hlt⟩ := hS.at hL'
  obtain ⟨b, o, cur, T0, hva, hSb, hb, ho⟩ := hblk S0 w hC
  have hw' := wr_set (y := cur.toList) (j := o) (v := x) (by simpa using ho)
  have hrun := Go.Vc.run_store (P := P) (ty := ty) (pos := pos) (af := af) (g := g) hs (show ev e (.tmp a) = .pointer (some ⟨b, o, none⟩) from hp.trans hva) (show ev e (.tmp q) = x from hx) hc rfl rfl hone hw' (show w.heap[b]? = some (.cells cur.toList.toArray T0 (0, 0)) from hb)
  have e1 : ptrB va = b := by rw [hva]; rfl
  have e2 : ptrO va = o := by rw [hva]; rfl
  rw [e1, e2] at hst
  have ht := turn_st (o := o) (x := x) hC hSb hb (fun b hb => (hlt b hb).1)
  have hF' := hF.turn ht fun b hs => (hlt b hs).2
  have hS' := hS.turnAt hF hL' (w' := w.setRow b (cur.toList.set o x).toArray) (C := stC C b o x) (fun S1 hp1 hlt1 => by
   obtain ⟨b1, o1, cur1, T1, hva1, hSb1, hb1, ho1⟩ := hblk S1 w hp1
   rw [hva] at hva1
   simp only [Value.pointer.injEq, Option.some.injEq, Addr.mk.injEq, and_true] at hva1
   obtain ⟨rfl, rfl⟩ := hva1
   exact turn_st hp1 hSb1 hb fun b hb => (hlt1 b hb).1) ht.size
  unfold RunsTo
  rw [hrun]
  refine ⟨rfl, hF', ?_⟩
  show Sat cx _ (L'.set i (stV (([i].map (Go.Vc.look L)).headD none) (([a, q].map e).headD undef) (([a, q].map e).getD 1 undef)))
  rw [hst]
  exact hS'
 ·show Sq P cx ops F rest ss (putD e none v') (L.set i (stV (([i].map (Go.Vc.look L)).headD none) (([a, q].map e).headD undef) (([a, q].map e).getD 1 undef)))
  rw [hst]
  exact k
theorem Jbd {C : Chunk} {E sz n c j : Nat} {a : Option Addr} {css : List (List Value)} {i : Int} {v : Value} (h : Imp C (Vn E sz (.slice a n c) n (css.map idC))) (hn : n = css.length) {α : Type} {xs : List α} {y : α} (hl : css.length = xs.length) (hg : Jk xs i = some y) (hj : Nat.blt j sz = true) (hv : v = Zn a (i.toNat * sz + j)) :
  ∀ S w, C.P S w → ∃ b o cur T0, v = .pointer (some ⟨b, o, none⟩) ∧ S b ∧ w.heap[b]? = some (.cells cur T0 (0, 0)) ∧ o < cur.size := fun S w hp => by
 obtain ⟨_, hi, _⟩ := Ye (ixR hl hg)
 obtain ⟨g, off, cur, rfl, h1, h2, h3⟩ := rowO_block (h.out S w hp) (cell_in (n := n) (by omega : i.toNat < n) (by simpa using hj : j < sz))
 exact ⟨g, _, cur, E, hv.trans rfl, h1, h2, h3⟩
theorem Imp.toO {C : Chunk} {E sz n : Nat} {v : Value} {xs : List (List Value)} (h : Imp C (J5 E sz v n xs)) : Imp C (Vn E sz v n xs) := ⟨fun S w hp => (Zs E sz v n xs).out S w (h.out S w hp)⟩
theorem blk_box {C : Chunk} {b o T : Nat} {cs : List Value} {v : Value} (h : Imp C (Q1 b cs T)) (hv : v = .pointer (some ⟨b, o, none⟩)) (ho : Nat.blt o cs.length = true) :
  ∀ S w, C.P S w → ∃ b o cur T0, v = .pointer (some ⟨b, o, none⟩) ∧ S b ∧ w.heap[b]? = some (.cells cur T0 (0, 0)) ∧ o < cur.size := fun S w hp =>
 have h0 := h.out S w hp
 ⟨b, o, cs.toArray, T, hv, (h0.1 b).2 rfl, h0.2, by simpa using ho⟩
theorem offOfI {C : Chunk} {w : World} {i E sz n c : Nat} {a : Option Addr} {xs : List (List Value)} (hI : Imp C (Vn E sz (.slice a n c) n xs)) (hS : Sat cx w L) (hL : L[i]? = some C) : Row w a sz xs := by
 obtain ⟨S, hp, _⟩ := hS.at hL
 exact (rowO_frs0 (hI.out S w hp)).row fun _ _ h => h
end
end Go.Lx
namespace Go.Lx
open Go Go.Vc Go.Md
section
variable {P : Program} {n : Nat} {cx : Cx} {e : Zk} {L : List Chunk} {ty : TypeId} {pos : String} {af : Array Edge} {g : Option (Nat × Bool)}
theorem run_nilG {α : Type} {f : α → List Value} {xs : List α} {x' : α} {i : Int} {d : Option Nat} {k sz' : Nat} {a : Option Addr} {X : Operand} {w : World} (hx : ev e X = Zn a k) (hR : Row w a sz' (xs.map f)) (hg : Jk xs i = some x') :
  (execOp (ev e) ⟨d, .nilCheck X, ty, pos, af, g⟩).run P w = .ok (.value (Zn a k)) w := by
 obtain ⟨b, off, rfl⟩ := hR.some (i := i.toNat) (by rw [List.length_map]; exact (Ye hg).2.1)
 exact r_nilCheck (hx.trans rfl) w
theorem turns_storeO {α : Type} {q T j sz k c E m : Nat} {A X : Operand} {x : Value} {a : Option Addr} {css : List (List Value)} {xs : List α} {i : Int} {xe : α} (hm : m = css.length) (hml : css.length = xs.length) (hs : ∀ w, (sizeOf T).run P w = .ok 1 w)
  (hp : ev e A = Zn a k) (hk : k = i.toNat * sz + j) (hx : ev e X = x) (hc : x.cells.toList = [x]) (hone : [x].all Value.oneCell' = true) (hj : Nat.blt j sz = true)
  (hL : L[q]? = some (Vn E sz (.slice a m c) m (css.map idC))) (hg : Jk xs i = some xe) :
  Turns P cx e ⟨none, .store T A X, ty, pos, af, g⟩ L q [] (fun _ : Unit => undef) (fun _ => Vn E sz (.slice a m c) m ((setR css i j x).map idC)) := by
 subst hm
 intro w L' hF hS hl hi
 have hL' := (hi q (.inr rfl)).trans hL
 rw [Z9] at hL'
 rw [Z9]
 obtain ⟨_, h1, _⟩ := Ye (ixR hml hg)
 have hrun := fun (S1 : Nat → Prop) (h : (Vn E sz (.slice a css.length c) css.length css).P S1 w) (hlt : ∀ b, S1 b → b < w.heap.size) => run_storeO (P := P) (ty := ty) (pos := pos) (af := af) (g := g) hs hp hk hx hc hone (by simpa using hj) h1 h hlt
 obtain ⟨S0, hC, hlt⟩ := hS.at hL'
 obtain ⟨w', hr, ht⟩ := hrun S0 hC (fun b hb => (hlt b hb).1)
 have hF' := hF.turn ht fun b hs => (hlt b hs).2
 have hS' := hS.turnAt hF hL' (w' := w') (C := Vn E sz (.slice a css.length c) css.length (css.set i.toNat ((css.getD i.toNat []).set j x))) (fun S1 hp hlt1 => by
  obtain ⟨w1, hr1, ht1⟩ := hrun S1 hp fun b hb => (hlt1 b hb).1
  rw [hr] at hr1
  cases hr1
  exact ht1) ht.size
 unfold RunsTo
 rw [hr]
 exact ⟨(), rfl, hF', hS'⟩
theorem turns_storeV {α : Type} {q T j sz k c E m : Nat} {A X : Operand} {x : Value} {a : Option Addr} {css : List (List Value)} {xs : List α} {i : Int} {xe : α} (hm : m = css.length) (hml : css.length = xs.length) (hs : ∀ w, (sizeOf T).run P w = .ok 1 w)
  (hp : ev e A = Zn a k) (hk : k = i.toNat * sz + j) (hx : ev e X = x) (hc : x.cells.toList = [x]) (hone : [x].all Value.oneCell' = true) (hj : Nat.blt j sz = true)
  (hL : L[q]? = some (J5 E sz (.slice a m c) m (css.map idC))) (hg : Jk xs i = some xe) :
  Turns P cx e ⟨none, .store T A X, ty, pos, af, g⟩ L q [] (fun _ : Unit => undef) (fun _ => J5 E sz (.slice a m c) m ((setR css i j x).map idC)) := by
 subst hm
 intro w L' hF hS hl hi
 have hL' := (hi q (.inr rfl)).trans hL
 rw [Z9] at hL'
 rw [Z9]
 obtain ⟨_, h1, hget⟩ := Ye (ixR hml hg)
 obtain ⟨S0, ⟨⟨ho, hlen, hlx⟩, hob⟩, hlt⟩ := hS.at hL'
 have hyl := hlx _ (List.mem_of_getElem? hget)
 have hv' : wr (css.getD i.toNat []) j [x] = some ((css.getD i.toNat []).set j x) := wr_set (by rw [hyl]; simpa using hj)
 obtain ⟨w', hr, h2, h3⟩ := run_storeR (P := P) (ty := ty) (pos := pos) (af := af) (g := g) hs hp hk hx hc rfl rfl hone hget hv' ho hlen hlx
 obtain ⟨hF', hS'⟩ := hS.turnOf hF hL' (C := J5 E sz (.slice a css.length c) css.length (css.set i.toNat ((css.getD i.toNat []).set j x))) fun S1 hp => Ug hp.2 h2 h3 (.inl rfl) (by simp [hlen]) (by
  intro z' hz
  rcases List.mem_or_eq_of_mem_set hz with h | h
  ·exact hlx z' h
  ·subst h; rw [List.length_set]; exact hyl)
 unfold RunsTo
 rw [hr]
 exact ⟨(), rfl, hF', hS'⟩
end
end Go.Lx

/- Rules: slices.Delete's operations at a row of one's own that may be a part of a longer one. Conditions: none. -/
namespace Go.Lx
open Go Go.Vc Go.Md
theorem rowO_off {S : Nat → Prop} {w : World} {E sz n c : Nat} {a : Option Addr} {xs : List (List Value)} (h : (Vn E sz (.slice a n c) n xs).P S w) (hc : 0 < c) :
  ∃ g off cur, a = some ⟨g, off, none⟩ ∧ S g ∧ w.heap[g]? = some (.cells cur E (0, 0)) ∧ n ≤ c ∧ c ≤ maxLen ∧ off + c * sz ≤ cur.size ∧ (cur.toList.drop off).take (n * sz) = xs.flatten := by
 obtain ⟨⟨h1, hlen, hlx⟩, hb⟩ := h
 rcases h1 with h1 | ⟨g, off, cap, cur, hv, hh, q1, q2, q3, q4⟩
 ·rcases h1.2 with ⟨hv, h0⟩ | ⟨g, cap, cur, hv, hbase, hh, q1, q2, q3, q4⟩
  ·simp only [Value.slice.injEq] at hv; omega
  ·simp only [Value.slice.injEq] at hv
   obtain ⟨rfl, -, rfl⟩ := hv
   exact ⟨g, 0, cur, rfl, hb g rfl, hh, q1, q2, by omega, by simpa using q4⟩
 ·simp only [Value.slice.injEq] at hv
  obtain ⟨rfl, -, rfl⟩ := hv
  exact ⟨g, off, cur, rfl, hb g rfl, hh, q1, q2, q3, q4⟩
section
variable {P : Program} {n : Nat} {cx : Cx} {e : Zk} {L : List Chunk} {d : Option Nat} {ty : TypeId} {pos : String} {af : Array Edge} {g : Option (Nat × Bool)}
theorem capOfO {w : World} {i E sz n c : Nat} {a : Option Addr} {xs : List (List Value)} (hS : Sat cx w L) (hL : L[i]? = some (Vn E sz (.slice a n c) n xs)) : n ≤ c := by
 obtain ⟨S, ⟨⟨h1, hlen, hlx⟩, hb⟩, _⟩ := hS.at hL
 rcases h1 with h1 | ⟨g, off, cap, cur, hv, hh, q1, _⟩
 ·rcases h1.2 with ⟨hv, h0⟩ | ⟨g, cap, cur, hv, hbase, hh, q1, _⟩
  ·omega
  ·simp only [Value.slice.injEq] at hv; omega
 ·simp only [Value.slice.injEq] at hv; omega
theorem cutA_none {a : Option Addr} {l m sz : Nat} (h : Za a l m sz = none) : a = none := by
 unfold Za at h
 split at h
 ·exact h
 ·cases a with
  | none => rfl
  | some a => cases h
theorem turns_delO {xs news : List (List Value)} {i : Nat} {S X : Operand} {t E : TypeId} {I : TypeInfo} {sz : Nat} {p : Option Addr × Nat} {rds : List Nat} {ax : Option Addr} {c m a q : Nat} (hm0 : 0 < m) {dd : Nat}
  (ht : P.underlying t = some (.slice E)) (hi : P.info? E = some I) (hsize : I.size = sz)
  (hL : L[i]? = some (Vn E sz (.slice p.1 m p.2) m xs)) (ha : a + q ≤ m) (hs : ev e S = .slice p.1 a p.2) (hx : ev e X = .slice ax q c) (hax0 : ax = none → p.1 = none) (hq : q = news.length)
  (hnews : ∀ w L', Fr cx w → Sat cx w L' → L'[i]? = L[i]? → Row w ax sz news) (hnl : ∀ x ∈ news, x.length = sz) (h1 : ∀ x ∈ news, ∀ u ∈ x, u.oneCell' = true) :
  Turns P cx e ⟨some dd, .call ⟨.builtin .append, #[S, X], #[t, t]⟩, ty, pos, af, g⟩ L i rds (fun _ : Unit => .slice p.1 (a + q) p.2) (fun _ => Vn E sz (.slice p.1 (a + q) p.2) (a + q) (xs.take a ++ news)) := by
 subst hsize hq
 intro w L' hF hS hl hi'
 have hLi := hi' i (.inr rfl)
 have hr := hnews w L' hF hS hLi
 have hL' := hLi.trans hL
 obtain ⟨S0, hC, hlt⟩ := hS.at hL'
 have hmc : m ≤ p.2 := capOfO hS hL'
 have hlen : xs.length = m := hC.1.2.1
 have hlx : ∀ x ∈ xs, x.length = I.size := hC.1.2.2
 obtain ⟨g0, off, cur, e1, hSg, hh, hnc, hcm, hfit, htk⟩ := rowO_off hC (by omega)
 have hta : (xs.take a).length = a := by rw [List.length_take]; omega
 have hall : ∀ x ∈ xs.take a ++ news, x.length = I.size := fun x hx => by
  rcases List.mem_append.1 hx with h | h
  ·exact hlx x (List.mem_of_mem_take h)
  ·exact hnl x h
 have hfl : news.flatten.length = news.length * I.size := by rw [Vx news hnl]
 have hone : ∀ u ∈ news.flatten, u.oneCell' = true := fun u hu => by
  obtain ⟨x, hx, hux⟩ := List.mem_flatten.1 hu
  exact h1 x hx u hux
 have hcur : cur.toList.length = cur.size := Array.length_toList
 have hs' : ev e S = .slice (some ⟨g0, off, none⟩) a p.2 := by rw [hs, e1]
 have hexec : ∀ v w', (Builtin.append_ #[t, t] ty #[.slice (some ⟨g0, off, none⟩) a p.2, .slice ax news.length c]).run P w = .ok v w' → (execOp (ev e) ⟨some dd, .call ⟨.builtin .append, #[S, X], #[t, t]⟩, ty, pos, af, g⟩).run P w = .ok (.value v) w' := by
  intro v w' hr
  simp only [execOp, resolve, invoke, builtin, Sem.run_bind, Sem.run_pure, Result.andThen_ok, List.map_toArray, List.map_cons, List.map_nil, hs', hx, hr]
 have hroom : a + news.length ≤ p.2 := by omega
 have hpre : (cur.toList.drop off).take (a * I.size) = (xs.take a).flatten := by
  have hle : a * I.size ≤ m * I.size := Nat.mul_le_mul_right _ (by omega)
  have : ((cur.toList.drop off).take (m * I.size)).take (a * I.size) = (cur.toList.drop off).take (a * I.size) := by rw [List.take_take, Nat.min_eq_left hle]
  rw [← this, htk]
  have hsplit : xs.flatten = (xs.take a).flatten ++ (xs.drop a).flatten := by rw [← List.flatten_append, List.take_append_drop]
  have hl3 : (xs.take a).flatten.length = a * I.size := by rw [Vx _ (fun x hx => hlx x (List.mem_of_mem_take hx)), hta]
  rw [hsplit, ← hl3, List.take_left]
 have hfit' : off + a * I.size + news.flatten.length ≤ cur.size := by
  have : (a + news.length) * I.size ≤ p.2 * I.size := Nat.mul_le_mul_right _ hroom
  rw [Nat.add_mul] at this; omega
 have hst := run_storeCells_at (P := P) g0 (off + a * I.size) E news.flatten 0 cur w hh (by simpa using hfit') hone
 simp only [Nat.add_zero] at hst
 have hr2 : (Builtin.append_ #[t, t] ty #[.slice (some ⟨g0, off, none⟩) a p.2, .slice ax news.length c]).run P w = .ok (.slice (some ⟨g0, off, none⟩) (a + news.length) p.2) (w.setRow g0 (cur.toList.take (off + a * I.size) ++ news.flatten ++ cur.toList.drop (off + a * I.size + news.flatten.length)).toArray) := by
  cases hax : ax with
  | some ad =>
   subst hax
   have hcell : ∀ j u, news.flatten[j]? = some u → w.cell? (ad.add j) = some u := by
    intro j u hj
    obtain ⟨i', k', x, g1, g2, g3⟩ := flat_get news hnl j u hj
    rcases hr with h | ⟨b, off, ha, h⟩
    ·subst h; simp at g1
    ·cases ha
     have := (h i' x g1).2 k' u g2
     rw [Addr.add_lit, g3, ← Nat.add_assoc]
     exact this
   have hfc := run_firstCells_some (P := P) w I.size news.length ad news.length c news.flatten hfl hcell
   simp [Builtin.append_, run_underlying ht, sizeOf, typeInfo, hi, Builtin.lenOf, hroom, hfc, Addr.add_lit, hst]
  | none =>
   subst hax
   rw [hax0 rfl] at e1
   cases e1
 have hr := hexec _ _ hr2
 have hlen2 : (cur.toList.take (off + a * I.size) ++ news.flatten ++ cur.toList.drop (off + a * I.size + news.flatten.length)).length = cur.size := by
  simp only [List.length_append, List.length_take, List.length_drop, hcur]; omega
 obtain ⟨hF', hS'⟩ := hS.turnOf hF hL' (C := Vn E I.size (.slice p.1 (a + news.length) p.2) (a + news.length) (xs.take a ++ news)) (w' := w.setRow g0 (cur.toList.take (off + a * I.size) ++ news.flatten ++ cur.toList.drop (off + a * I.size + news.flatten.length)).toArray) fun S1 hp => by
  have hg1 : S1 g0 := hp.2 g0 (by rw [e1]; rfl)
  refine ⟨rfl, rfl, rfl, by simp [World.setRow], fun b' hb' hn => ?_, (fun x => x = g0), ⟨⟨.inr ⟨g0, off, p.2, _, by rw [e1], setRow_heap w g0 cur _ E _ hh, hroom, hcm, by rw [List.size_toArray, hlen2]; exact hfit, ?_⟩, by rw [List.length_append, hta], hall⟩, fun b' hb' => by rw [e1] at hb'; cases hb'; rfl⟩, fun b' hb' => ⟨?_, .inl (by rw [hb']; exact hg1)⟩⟩
  ·exact setRow_other w g0 b' _ fun h => hn (by rw [h]; exact hg1)
  ·rw [List.flatten_append]
   have hd : (cur.toList.take (off + a * I.size) ++ news.flatten ++ cur.toList.drop (off + a * I.size + news.flatten.length)).drop off = ((cur.toList.drop off).take (a * I.size) ++ news.flatten) ++ cur.toList.drop (off + a * I.size + news.flatten.length) := by
    rw [List.append_assoc, List.drop_append_of_le_length (by rw [List.length_take, hcur]; omega), List.drop_take, Nat.add_sub_cancel_left, List.append_assoc]
   have hl2 : ((cur.toList.drop off).take (a * I.size) ++ news.flatten).length = (a + news.length) * I.size := by
    rw [List.length_append, List.length_take, List.length_drop, hcur, Nat.add_mul, Nat.min_eq_left (by omega)]; omega
   show ((cur.toList.take (off + a * I.size) ++ news.flatten ++ cur.toList.drop (off + a * I.size + news.flatten.length)).toArray.toList.drop off).take _ = _
   rw [List.toList_toArray, hd, ← hl2, List.take_left, hpre]
  ·rw [hb', setRow_size]; exact (Array.getElem?_eq_some_iff.1 hh).1
 unfold RunsTo
 rw [hr]
 exact ⟨(), by rw [e1], hF', hS'⟩
theorem turns_clearO {i : Nat} {X : Operand} {t E : TypeId} {z : Value} {sz : Nat} {p : Option Addr × Nat} {rds : List Nat} {c m q : Nat} {xs : List (List Value)}
  (ht : P.underlying t = some (.slice E)) (hz : ∀ w, (zeroValue E).run P w = .ok z w) (hzs : z.cells.size = sz) (h1 : z.cells.toList.all Value.oneCell' = true)
  (hL : L[i]? = some (Vn E sz (.slice p.1 m p.2) m xs)) (hx : ev e X = .slice (Za p.1 m p.2 sz) q c) (hq : m + q ≤ p.2) {dst : Option Nat} :
  Turns P cx e ⟨dst, .call ⟨.builtin .clear, #[X], #[t]⟩, ty, pos, af, g⟩ L i rds (fun _ : Unit => .tuple #[]) (fun _ => Vn E sz (.slice p.1 m p.2) m xs) := by
 intro w L' hF hS hl hi'
 have hL' := (hi' i (.inr rfl)).trans hL
 obtain ⟨S0, hC, hlt⟩ := hS.at hL'
 have hset : L'.set i (Vn E sz (.slice p.1 m p.2) m xs) = L' := by
  refine List.ext_getElem? fun j => ?_
  rw [List.getElem?_set]
  split
  ·rename_i h; subst h
   split
   ·exact hL'.symm
   ·rename_i h; rw [List.getElem?_eq_none (by omega)]
  ·rfl
 rcases Nat.eq_zero_or_pos q with hq0 | hq0
 ·subst hq0
  have he : (execOp (ev e) ⟨dst, .call ⟨.builtin .clear, #[X], #[t]⟩, ty, pos, af, g⟩).run P w = .ok (.value (.tuple #[])) w := by
   have hr : (Builtin.clear_ #[t] ty #[.slice (Za p.1 m p.2 sz) 0 c]).run P w = .ok (.tuple #[]) w := by
    cases Za p.1 m p.2 sz <;> simp [Builtin.clear_, run_underlying ht]
   simp only [execOp, resolve, invoke, builtin, Sem.run_bind, Sem.run_pure, Result.andThen_ok, List.map_toArray, List.map_cons, List.map_nil, hx, hr]
  unfold RunsTo
  rw [he]
  exact ⟨(), rfl, hF, by rw [hset]; exact hS⟩
 ·obtain ⟨g0, off, cur, e1, hSg, hg, hnc, hcm, hfit0, htk⟩ := rowO_off hC (by omega)
  have hlen : xs.length = m := hC.1.2.1
  have hlx : ∀ x ∈ xs, x.length = sz := hC.1.2.2
  have hcut : Za p.1 m p.2 sz = some ⟨g0, off + m * sz, none⟩ := by
   unfold Za
   rw [if_neg (by omega), e1]; simp [Addr.add]
  rw [hcut] at hx
  have hzl : (Builtin.zeroCells z.cells q).toList.length = q * sz := by unfold Builtin.zeroCells; simp [hzs]
  have hmq : m * sz + q * sz ≤ p.2 * sz := by rw [← Nat.add_mul]; exact Nat.mul_le_mul_right _ hq
  have hfit : off + m * sz + 0 + (Builtin.zeroCells z.cells q).toList.length ≤ cur.size := by rw [hzl]; omega
  have hst := run_storeCells_at (P := P) g0 (off + m * sz) E (Builtin.zeroCells z.cells q).toList 0 cur w hg hfit (zero_one h1)
  generalize hnew : (cur.toList.take (off + m * sz + 0) ++ (Builtin.zeroCells z.cells q).toList ++ cur.toList.drop (off + m * sz + 0 + (Builtin.zeroCells z.cells q).toList.length)) = new at hst
  have he : (execOp (ev e) ⟨dst, .call ⟨.builtin .clear, #[X], #[t]⟩, ty, pos, af, g⟩).run P w = .ok (.value (.tuple #[])) (w.setRow g0 new.toArray) := by
   have hr : (Builtin.clear_ #[t] ty #[.slice (some ⟨g0, off + m * sz, none⟩) q c]).run P w = .ok (.tuple #[]) (w.setRow g0 new.toArray) := by
    obtain ⟨q', rfl⟩ : ∃ q', q = q' + 1 := ⟨q - 1, by omega⟩
    simp only [Builtin.clear_, Sem.run_bind, run_underlying ht, Result.andThen_ok, hz, hst, Sem.run_pure, List.getElem?_toArray, List.getElem?_cons_zero]
   simp only [execOp, resolve, invoke, builtin, Sem.run_bind, Sem.run_pure, Result.andThen_ok, List.map_toArray, List.map_cons, List.map_nil, hx, hr]
  have hsz2 : new.toArray.size = cur.size := by
   have hf2 := hfit
   rw [← hnew]
   simp only [List.size_toArray, List.length_append, List.length_take, List.length_drop, Array.length_toList] at hf2 ⊢
   omega
  have htk2 : (new.drop off).take (m * sz) = xs.flatten := by
   rw [← htk, ← hnew, Nat.add_zero, List.append_assoc, List.drop_append_of_le_length (by rw [List.length_take, Array.length_toList]; omega), List.drop_take, Nat.add_sub_cancel_left]
   rw [List.take_append_of_le_length (by rw [List.length_take, List.length_drop, Array.length_toList]; omega), List.take_take, Nat.min_self]
  obtain ⟨hF', hS'⟩ := hS.turnOf hF hL' (C := Vn E sz (.slice p.1 m p.2) m xs) (w' := w.setRow g0 new.toArray) fun S1 hp => by
   have hg1 : S1 g0 := hp.2 g0 (by rw [e1]; rfl)
   refine ⟨rfl, rfl, rfl, by simp [World.setRow], fun b' hb' hn => ?_, (fun x => x = g0), ⟨⟨.inr ⟨g0, off, p.2, _, by rw [e1], setRow_heap w g0 cur _ E _ hg, hnc, hcm, by rw [hsz2]; exact hfit0, htk2⟩, hlen, hlx⟩, fun b' hb' => by rw [e1] at hb'; cases hb'; rfl⟩, fun b' hb' => ⟨?_, .inl (by rw [hb']; exact hg1)⟩⟩
   ·exact setRow_other w g0 b' _ fun h => hn (by rw [h]; exact hg1)
   ·rw [hb', setRow_size]; exact (Array.getElem?_eq_some_iff.1 hg).1
  unfold RunsTo
  rw [he]
  exact ⟨(), rfl, hF', hS'⟩
end
end Go.Lx
namespace Go.Lx
open Go Go.Vc Go.Md
theorem AllC.del {α : Type} {G : Qg → (Nat → Value) → α → Prop} {h : Qg} {sz : Nat} {css : List (List Value)} {xs ys : List α} {i j : Int} (p : AllC G h sz css xs) (g : gDelN xs i j = some ys) : gDelN css i j = some (delL css i j) ∧ AllC G h sz (delL css i j) ys := by
 obtain ⟨rfl, h0, h1, h2⟩ := gDelN_some g
 have hl := p.len
 refine ⟨gDelN_ok ⟨h0, h1, by rw [hl]; exact h2⟩, ?_⟩
 unfold delL
 have q1 := p.cut (l := 0) (q := i) (ys := xs.take i.toNat) (by rw [gCut_to (by omega)])
 have q2 := p.cut (l := j) (q := xs.length) (ys := xs.drop j.toNat) (by rw [gCut_from (by omega)])
 have e1 : cutL css 0 i = css.take i.toNat := by unfold cutL; simp
 have e2 : cutL css j xs.length = css.drop j.toNat := by
  unfold cutL
  rw [List.take_of_length_le (by rw [List.length_drop, hl]; omega)]
 rw [e1] at q1
 rw [e2] at q2
 exact q1.append q2
theorem AllC.ones {α : Type} {G : Qg → (Nat → Value) → α → Prop} {h : Qg} {sz : Nat} {css : List (List Value)} {xs : List α} (p : AllC G h sz css xs) (hG : ∀ (c : Nat → Value) x, G h c x → ∀ j, j < sz → (c j).oneCell' = true) : ∀ cs ∈ css, ∀ u ∈ cs, u.oneCell' = true := by
 intro cs hcs u hu
 obtain ⟨i, hi, rfl⟩ := List.getElem_of_mem hcs
 obtain ⟨j, hj, rfl⟩ := List.getElem_of_mem hu
 have hx : i < xs.length := by rw [← p.len]; exact hi
 obtain ⟨h1, h2⟩ := p.el i css[i] xs[i] (List.getElem?_eq_getElem hi) (List.getElem?_eq_getElem hx)
 have := hG _ _ h2 j (by omega)
 simpa [List.getD_eq_getElem?_getD, List.getElem?_eq_getElem hj] using this
section
variable {cx : Cx} {L : List Chunk} {w : World}
theorem rowO_all {i E sz n c : Nat} {a : Option Addr} {xs : List (List Value)} (hS : Sat cx w L) (hL : L[i]? = some (Vn E sz (.slice a n c) n xs)) : ∀ x ∈ xs, x.length = sz := by
 obtain ⟨S, ⟨⟨h1, hlen, hlx⟩, hb⟩, _⟩ := hS.at hL
 exact hlx
end
end Go.Lx
namespace Go.Lx
open Go Go.Vc Go.Md
theorem imp_clipRO (E sz : Nat) (a : Option Addr) (n c : Nat) (xs : List (List Value)) : Imp (Vn E sz (.slice a n c) n xs) (Vn E sz (.slice (Za a 0 n sz) n n) n xs) := ⟨fun S w h => by
 have hcut : Za a 0 n sz = a := cutA_zero _ _ _
 rw [hcut]
 obtain ⟨⟨h1, hlen, hlx⟩, hb⟩ := h
 refine ⟨⟨?_, hlen, hlx⟩, fun b hb' => hb b (by rw [← hb']; cases a <;> rfl)⟩
 rcases h1 with h1 | ⟨g, off, cap, cur, hv, hh, q1, q2, q3, q4⟩
 ·rcases h1.2 with ⟨hv, h0⟩ | ⟨g, cap, cur, hv, hbase, hh, q1, q2, q3, q4⟩
  ·simp only [Value.slice.injEq] at hv
   obtain ⟨rfl, rfl, rfl⟩ := hv
   exact .inl ⟨h1.1, .inl ⟨rfl, rfl⟩⟩
  ·simp only [Value.slice.injEq] at hv
   obtain ⟨rfl, -, rfl⟩ := hv
   have := Nat.mul_le_mul_right sz q1
   exact .inr ⟨g, 0, n, cur, rfl, hh, Nat.le_refl _, by omega, by omega, by simpa using q4⟩
 ·simp only [Value.slice.injEq] at hv
  obtain ⟨rfl, -, rfl⟩ := hv
  have := Nat.mul_le_mul_right sz q1
  exact .inr ⟨g, off, n, cur, rfl, hh, Nat.le_refl _, by omega, by omega, q4⟩⟩
end Go.Lx

/- Rules: slices.Insert's operations at a row of one's own without room: an append that makes a new row with zeros, copies of elements of many cells. Conditions: none. -/
namespace Go.Lx
open Go Go.Vc Go.Md
section
variable {P : Program} {n : Nat} {cx : Cx} {e : Zk} {L : List Chunk} {d : Nat} {ty : TypeId} {pos : String} {af : Array Edge} {g : Option (Nat × Bool)}
theorem zeros_rep (z : Array Value) (n : Nat) (hz : 0 < z.size) : (Builtin.zeroCells z n).toList = (List.replicate n z.toList).flatten := made_rep z n hz
theorem makes_growZ {xs : List (List Value)} {i : Nat} {S N : Operand} {t tn E : TypeId} {I : TypeInfo} {z : Value} {sz by_ : Nat} {p : Option Addr × Nat} {m a k : Nat} {kn kk : IntKind}
  (ht : P.underlying t = some (.slice E)) (htn : P.underlying tn = some (.int kn)) (hi : P.info? E = some I) (hz : I.zero = some z) (hsize : I.size = sz) (hby : I.bytes = by_) (hzs : z.cells.size = sz) (hsz : Nat.blt 0 sz = true)
  (hL : L[i]? = some (Vn E sz (.slice p.1 m p.2) m xs)) (hs : ev e S = .slice p.1 a p.2) (ha : a ≤ m) (hx : ev e N = .int kk (k : Int)) (h0 : 0 < p.2) (hg : p.2 < a + k) (h63 : a + k ≤ maxLen) (hbytes : (a + k) * by_ ≤ 140737488355328) :
  Makes P cx e ⟨some d, .call ⟨.builtin .append, #[S, N], #[t, tn]⟩, ty, pos, af, g⟩ L [i] (fun p' : Option Addr × Nat => .slice p'.1 (a + k) p'.2) (fun p' => J5 E sz (.slice p'.1 (a + k) p'.2) (a + k) (xs.take a ++ List.replicate k z.cells.toList)) := by
 subst hsize hby
 intro w L' hF hS hi'
 have hL' := (hi' i (by simp)).trans hL
 obtain ⟨S0, hC, hlt⟩ := hS.at hL'
 have hlen : xs.length = m := hC.1.2.1
 have hlx : ∀ x ∈ xs, x.length = I.size := hC.1.2.2
 obtain ⟨g0, off, cur, e1, hSg, hh, hnc, hcm, hfit, htk⟩ := rowO_off hC h0
 have hsz' : 0 < I.size := by simpa using hsz
 have hta : (xs.take a).length = a := by rw [List.length_take]; omega
 have hlo : (xs.take a).flatten.length = a * I.size := by rw [Vx _ (fun x hx => hlx x (List.mem_of_mem_take hx)), hta]
 have hcell : ∀ j u, (xs.take a).flatten[j]? = some u → w.cell? ((⟨g0, off, none⟩ : Addr).add j) = some u := by
  intro j u hj
  obtain ⟨i', k', x, g1, g2, g3⟩ := flat_get _ (fun x hx => hlx x (List.mem_of_mem_take hx)) j u hj
  have hr := Zm hS hL'
  rcases hr with h | ⟨b, off', ha', h⟩
  ·subst h; simp at g1
  ·rw [e1] at ha'; cases ha'
   have hg1 : xs[i']? = some x := by
    rw [List.getElem?_take] at g1
    split at g1
    ·exact g1
    ·cases g1
   have := (h i' x hg1).2 k' u g2
   rw [Addr.add_lit, g3, ← Nat.add_assoc]
   exact this
 have hw : IntKind.i64.wrap (k : Int) = k := by rw [IntKind.wrap_i64]; simp only [maxLen] at h63; omega
 have hn : ¬ (a + k ≤ p.2) := by omega
 have hk0 : 0 < k := by omega
 have h63' : ¬ (9223372036854775807 < ((a : Int) + (k : Int))) := by simp only [maxLen] at h63; omega
 have h48 : Builtin.nextslicecap (a + k) p.2 * I.bytes ≤ 281474976710656 := growslice_fits hg hbytes
 have h48' : ¬ (281474976710656 < Builtin.nextslicecap (a + k) p.2 * I.bytes) := by omega
 have hkb : k * I.bytes ≤ 140737488355328 := Nat.le_trans (Nat.mul_le_mul_right _ (by omega)) hbytes
 have h48i : ¬ (281474976710656 < (k : Int) * (I.bytes : Int)) := by
  rw [← Int.natCast_mul]; omega
 have hneg : ¬ ((k : Int) < 0) := by omega
 have hns : ¬ (k * I.size = 0) := Nat.mul_ne_zero (by omega) (by omega)
 have hns1 : ¬ k = 0 := by omega
 have hns2 : ¬ I.size = 0 := by omega
 have hfo := run_firstCells_some (P := P) w.drew I.size a ⟨g0, off, none⟩ a p.2 (xs.take a).flatten hlo (by simpa using hcell)
 have hr2 : (Builtin.append_ #[t, tn] ty #[.slice (some ⟨g0, off, none⟩) a p.2, .int kk k]).run P w =
   .ok (.slice (some ⟨w.heap.size, 0, none⟩) (a + k) (grownCap w (a + k) p.2 E))
    (w.drew.alloc (.cells ((xs.take a).flatten.toArray ++ Builtin.zeroCells z.cells k ++ Builtin.zeroCells z.cells (grownCap w (a + k) p.2 E - (a + k))) E)) := by
  simp [Builtin.append_, run_underlying ht, run_underlying htn, sizeOf, typeInfo, zeroValue, hi, hz, asInt, asIntOf, hw, hn, hneg, hns, h63', h48', h48i, Question.forced, hfo, newRow, grownCap]
 have hge := grownCap_ge w (a + k) p.2 E
 have hcm2 : grownCap w (a + k) p.2 E ≤ maxLen := grownCap_le_maxLen w (a + k) p.2 E h63
 have hexec : (execOp (ev e) ⟨some d, .call ⟨.builtin .append, #[S, N], #[t, tn]⟩, ty, pos, af, g⟩).run P w = .ok (.value (.slice (some ⟨w.heap.size, 0, none⟩) (a + k) (grownCap w (a + k) p.2 E))) (w.drew.alloc (.cells ((xs.take a).flatten.toArray ++ Builtin.zeroCells z.cells k ++ Builtin.zeroCells z.cells (grownCap w (a + k) p.2 E - (a + k))) E)) := by
  have hs' : ev e S = .slice (some ⟨g0, off, none⟩) a p.2 := by rw [hs, e1]
  simp only [execOp, resolve, invoke, builtin, Sem.run_bind, Sem.run_pure, Result.andThen_ok, List.map_toArray, List.map_cons, List.map_nil, hs', hx, hr2]
 have hall : ∀ x ∈ xs.take a ++ List.replicate k z.cells.toList, x.length = I.size := fun x hx => by
  rcases List.mem_append.1 hx with h | h
  ·exact hlx x (List.mem_of_mem_take h)
  ·rw [List.eq_of_mem_replicate h]; simpa using hzs
 have hown : (w.drew.alloc (.cells ((xs.take a).flatten.toArray ++ Builtin.zeroCells z.cells k ++ Builtin.zeroCells z.cells (grownCap w (a + k) p.2 E - (a + k))) E)).ownsRow w.heap.size E I.size (.slice (some ⟨w.heap.size, 0, none⟩) (a + k) (grownCap w (a + k) p.2 E)) (a + k) (xs.take a ++ List.replicate k z.cells.toList).flatten := by
  have hfl : (xs.take a ++ List.replicate k z.cells.toList).flatten.length = (a + k) * I.size := by rw [Vx _ hall]; congr 1; simp [hta]
  refine ⟨hfl, .inr ⟨w.heap.size, _, _, rfl, Nat.le_refl _, heap_alloc_new w.drew _, hge, hcm2, ?_, ?_⟩⟩
  ·simp only [Array.size_append, List.size_toArray, size_zeroCells, hzs, hlo, ← Nat.add_mul]
   congr 1
   omega
  ·simp only [Array.toList_append, List.append_assoc]
   rw [zeros_rep _ k (by rw [hzs]; exact hsz'), ← hfl, List.flatten_append, ← List.append_assoc, List.take_left]
 unfold RunsTo
 rw [hexec]
 refine ⟨(_, _), rfl, ⟨rfl, rfl, rfl, by simp, fun b hb _ => (by first | exact heap_alloc_old w.drew _ b hb | exact heap_alloc_old w.drew _ hb), fun b' => b' = w.heap.size, ⟨⟨own0 hown, by simp [hta], hall⟩, fun b hb => by cases hb; rfl⟩, fun b hb => ?_⟩⟩
 subst hb
 exact ⟨(hown.lt _ rfl).2, .inr (Nat.le_refl _)⟩
theorem turns_copyK {xs news : List (List Value)} {i : Nat} {D X : Operand} {t u E : TypeId} {I : TypeInfo} {sz : Nat} {p : Option Addr × Nat} {rds : List Nat} {ax : Option Addr} {dl cd c m a q : Nat} {dst : Option Nat}
  (ht : P.underlying t = some (.slice E)) (hi : P.info? E = some I) (hsize : I.size = sz)
  (hL : L[i]? = some (J5 E sz (.slice p.1 m p.2) m xs)) (hm : m = xs.length) (hd : ev e D = .slice (Za p.1 a p.2 sz) dl cd) (ha : a + dl ≤ m) (hx : ev e X = .slice ax q c) (hql : q ≤ dl) (hq : q = news.length) (hq0 : 0 < q)
  (hnews : ∀ w L', Fr cx w → Sat cx w L' → (∀ j, j ∈ rds → L'[j]? = L[j]?) → Row w ax sz news) (hnl : ∀ x ∈ news, x.length = sz) (h1 : ∀ x ∈ news, ∀ u ∈ x, u.oneCell' = true) :
  Turns P cx e ⟨dst, .call ⟨.builtin .copy, #[D, X], #[t, u]⟩, ty, pos, af, g⟩ L i rds (fun _ : Unit => .int .i64 (q : Int)) (fun _ => J5 E sz (.slice p.1 m p.2) m (xs.take a ++ news ++ xs.drop (a + q))) := by
 subst hsize hq hm
 intro w L' hF hS hl hi'
 have hr := hnews w L' hF hS (fun j hj => hi' j (.inl hj))
 have hL' := (hi' i (.inr rfl)).trans hL
 obtain ⟨S0, ⟨⟨ho, hlen, hlx⟩, hob⟩, hlt⟩ := hS.at hL'
 have hall : ∀ x ∈ xs.take a ++ news ++ xs.drop (a + news.length), x.length = I.size := fun x hx => by
  rcases List.mem_append.1 hx with h | h
  ·rcases List.mem_append.1 h with h | h
   ·exact hlx x (List.mem_of_mem_take h)
   ·exact hnl x h
  ·exact hlx x (List.mem_of_mem_drop h)
 have hle : (xs.take a ++ news ++ xs.drop (a + news.length)).length = xs.length := by
  simp only [List.length_append, List.length_take, List.length_drop]; omega
 have hmin : Nat.min news.length dl = news.length := Nat.min_eq_left hql
 ·rcases ho.2 with ⟨_, hz⟩ | ⟨g0, cap, cur, hv0, hb0, hh, hnc, hcm, hcs, htk⟩
  ·omega
  ·simp only [Value.slice.injEq] at hv0
   obtain ⟨hp1, _, hp2⟩ := hv0
   have hcut : Za p.1 a p.2 I.size = some ⟨g0, a * I.size, none⟩ := by
    rw [hp1]; unfold Za
    rw [if_neg (by omega)]; simp [Addr.add_lit]
   rcases hr with hr | ⟨b, off, hax, hr⟩
   ·rw [hr] at hq0; exact absurd hq0 (by simp)
   subst hax
   have hfl : news.flatten.length = news.length * I.size := by rw [Vx news hnl]
   have hcell : ∀ j u, news.flatten[j]? = some u → w.cell? ((⟨b, off, none⟩ : Addr).add j) = some u := by
    intro j u hj
    obtain ⟨i', k', x, g1, g2, g3⟩ := flat_get news hnl j u hj
    have := (hr i' x g1).2 k' u g2
    rw [Addr.add_lit, g3, ← Nat.add_assoc]
    exact this
   have hone : ∀ u ∈ news.flatten, u.oneCell' = true := fun u hu => by
    obtain ⟨x, hx, hux⟩ := List.mem_flatten.1 hu
    exact h1 x hx u hux
   have hcur : cur.toList.length = cur.size := Array.length_toList
   have hsum : (a + news.length) * I.size ≤ xs.length * I.size := Nat.mul_le_mul_right _ (by omega)
   have hsum2 : xs.length * I.size ≤ cap * I.size := Nat.mul_le_mul_right _ hnc
   have hfit : a * I.size + news.flatten.length ≤ cur.size := by
    rw [Nat.add_mul] at hsum; omega
   have hfc := run_firstCells_some (P := P) w I.size news.length ⟨b, off, none⟩ news.length c news.flatten hfl hcell
   have hst := run_storeCells_at (P := P) g0 (a * I.size) E news.flatten 0 cur w hh (by simpa using hfit) hone
   simp only [Nat.add_zero] at hst
   have hr2 : (Builtin.copy_ #[t, u] ty #[.slice (some ⟨g0, a * I.size, none⟩) dl cd, .slice (some ⟨b, off, none⟩) news.length c]).run P w = .ok (goInt news.length) (w.setRow g0 (cur.toList.take (a * I.size) ++ news.flatten ++ cur.toList.drop (a * I.size + news.flatten.length)).toArray) := by
    have hmin2 : min news.length dl = news.length := hmin
    simp [Builtin.copy_, run_underlying ht, Builtin.lenOf, sizeOf, typeInfo, hi, hmin, hmin2, hfc, hst]
   have hexec : (execOp (ev e) ⟨dst, .call ⟨.builtin .copy, #[D, X], #[t, u]⟩, ty, pos, af, g⟩).run P w = .ok (.value (.int .i64 (news.length : Int))) (w.setRow g0 (cur.toList.take (a * I.size) ++ news.flatten ++ cur.toList.drop (a * I.size + news.flatten.length)).toArray) := by
    simp only [execOp, resolve, invoke, builtin, Sem.run_bind, Sem.run_pure, Result.andThen_ok, List.map_toArray, List.map_cons, List.map_nil, hd, hcut, hx, hr2]
    rfl
   have hxf : xs.flatten.length = xs.length * I.size := Vx xs hlx
   have e2 : (xs.take a ++ news ++ xs.drop (a + news.length)).flatten = xs.flatten.take (a * I.size) ++ news.flatten ++ xs.flatten.drop ((a + news.length) * I.size) := by
    rw [List.flatten_append, List.flatten_append, ← flat_takeN _ hlx, ← flat_dropN _ hlx]
   have hlen2 : (cur.toList.take (a * I.size) ++ news.flatten ++ cur.toList.drop (a * I.size + news.flatten.length)).length = cur.size := by
    simp only [List.length_append, List.length_take, List.length_drop, hcur]; omega
   have e1 : cur.toList = xs.flatten ++ cur.toList.drop (xs.length * I.size) := by rw [← htk, List.take_append_drop]
   have hown : (w.setRow g0 (cur.toList.take (a * I.size) ++ news.flatten ++ cur.toList.drop (a * I.size + news.flatten.length)).toArray).ownsRow 0 E I.size (.slice p.1 xs.length p.2) xs.length (xs.take a ++ news ++ xs.drop (a + news.length)).flatten := by
    refine ⟨by rw [Vx _ hall, hle], .inr ⟨g0, cap, _, by rw [hp1, hp2], hb0, setRow_heap w g0 cur _ E (0, 0) hh, hnc, hcm, by rw [List.size_toArray, hlen2]; exact hcs, ?_⟩⟩
    rw [List.toList_toArray, e2]
    have hal : a * I.size ≤ xs.flatten.length := by rw [hxf]; exact Nat.mul_le_mul_right _ (by omega)
    have e3 : cur.toList.take (a * I.size) = xs.flatten.take (a * I.size) := by
     rw [e1, List.take_append_of_le_length hal]
    have e4 : cur.toList.drop (a * I.size + news.flatten.length) = xs.flatten.drop ((a + news.length) * I.size) ++ cur.toList.drop (xs.length * I.size) := by
     conv => lhs; rw [e1]
     rw [hfl, ← Nat.add_mul, List.drop_append_of_le_length (by rw [hxf]; exact hsum)]
    rw [e3, e4, ← List.append_assoc]
    have hl3 : (xs.flatten.take (a * I.size) ++ news.flatten ++ xs.flatten.drop ((a + news.length) * I.size)).length = xs.length * I.size := by
     rw [← e2, Vx _ hall, hle]
    rw [← hl3, List.take_left]
   have hgb : w.grownBy (w.setRow g0 (cur.toList.take (a * I.size) ++ news.flatten ++ cur.toList.drop (a * I.size + news.flatten.length)).toArray) (Value.slice p.1 xs.length p.2).ownBlock :=
    ⟨rfl, rfl, rfl, by simp, fun b' _ hb => setRow_other w g0 b' _ (fun e => hb (by simp [Value.ownBlock, hp1, e]))⟩
   obtain ⟨hF', hS'⟩ := hS.turnOf hF hL' (C := J5 E I.size (.slice p.1 xs.length p.2) xs.length (xs.take a ++ news ++ xs.drop (a + news.length))) fun S1 hp => Ug hp.2 hown hgb (.inl rfl) hle hall
   unfold RunsTo
   rw [hexec]
   exact ⟨(), rfl, hF', hS'⟩
end
end Go.Lx
namespace Go.Lx
open Go Go.Vc Go.Md
theorem AllC.ins {α : Type} {G : Qg → (Nat → Value) → α → Prop} {h : Qg} {sz by_ : Nat} {css : List (List Value)} {xs ys : List α} {i : Int} {x : α} {cs : List Value} (p : AllC G h sz css xs) (g : gInsN by_ xs i x = some ys) (hl : cs.length = sz) (hG : G h (fun j => cs.getD j undef) x) :
  gInsN by_ css i cs = some (Wo css i cs) ∧ AllC G h sz (Wo css i cs) ys := by
 obtain ⟨rfl, h0, h1, h2, h3⟩ := gInsN_some g
 have hn := p.len
 refine ⟨gInsN_ok ⟨h0, by rw [hn]; exact h1, by rw [hn]; exact h2, by rw [hn]; exact h3⟩, ?_⟩
 unfold Wo
 have q1 := p.cut (l := 0) (q := i) (ys := xs.take i.toNat) (by rw [gCut_to (by omega)])
 have q2 := p.cut (l := i) (q := xs.length) (ys := xs.drop i.toNat) (by rw [gCut_from (by omega)])
 have e1 : cutL css 0 i = css.take i.toNat := by unfold cutL; simp
 have e2 : cutL css i xs.length = css.drop i.toNat := by
  unfold cutL
  rw [List.take_of_length_le (by rw [List.length_drop, hn]; omega)]
 rw [e1] at q1
 rw [e2] at q2
 have q3 : AllC G h sz [cs] [x] := by
  have := (AllC.nil (G := G) (h := h) (sz := sz)).snoc hl hG
  simpa using this
 exact q1.append (q3.append q2)
theorem insL_len {α : Type} {xs : List α} {i : Int} {x : α} (h : i ≤ xs.length) (h0 : 0 ≤ i) : (Wo xs i x).length = xs.length + 1 := by
 unfold Wo
 simp only [List.length_append, List.length_take, List.length_drop, List.length_cons, List.length_nil]; omega
end Go.Lx
namespace Go.Vc
open Go
section
variable {P : Program} {cx : Cx} {e : Zk} {L : List Chunk}
theorem retC1t {i : Nat} {fn : Func} {R : Value → World → Prop} {t T T0 b u : Nat} {v v2 : Value} (hA : ∀ w, (isAgg T).run P w = .ok false w) (hr : fn.results = #[.cell t T, .tmp u])
  (ht : e t = .pointer (some ⟨b, 0, none⟩)) (hL : L[i]? = some (Q1 b [v] T0)) (h2 : e u = v2) (k : ∀ w, Fr cx w → Sat cx w L → R (.tuple #[v, v2]) w) : At cx (BodyQ P fn R .ret) e L :=
 ⟨fun w hF hS tmps hts => ⟨.tuple #[v, v2], by
  have hl := Jao (P := P) (w := w) (b := b) (o := 0) hA (by rw [cell_of (Zr hS hL)]; rfl)
  rw [results_cell1t hr tmps w (by rw [hts, ht]) hl, hts, h2], k w hF hS⟩⟩
end
end Go.Vc

/- Rules: rows that may be known, over the frozen memory. Conditions: none. -/
namespace Go.Lx
open Go Go.Vc Go.Md
section
variable {cx : Cx} {L : List Chunk}
theorem know_pool {w : World} {i : Nat} {base hp : Qg} (hS : Sat cx w L) (hL : L[i]? = some (Yx base hp)) (hb : ∀ b o, base b = some o → w.heap[b]? = some o) : Know hp w Yl := fun b o h => ⟨Xi hS hL hb b o h, fun h => h⟩
end
theorem fz_roh {α : Type} {h : Qg} {sz n : Nat} {v : Value} {xs : List α} {f : α → List Value} (hp : Qg) (hle : ∀ b o, h b = some o → hp b = some o) : ∀ S w (H : Qg), (roH h sz v n (xs.map f)).P S w → (∀ b o, S b → w.heap[b]? = some o → H b = some o) → (∀ b o, hp b = some o → H b = some o) → FrS H sz v (xs.map f) :=
 fun S w H hP hH k => hP.elim (fun h1 => fz_ro hp S w H h1 hH k) (fun h1 => h1.2.2.mono fun b o hb => k b o (hle b o hb))
end Go.Lx

/- The kit's contract of slices.SortFunc at nested rows, by a number that each element has for itself. Conditions: the numbers are different, and not too large. -/
namespace Go.Lx
open Go Go.Md Go.Vc Go.Shelf Go.Sort Go.Proofs
theorem sort_nest {P : Program} {ρ : Ren} (Ly : SlLaysF0.n6 P ρ) {α : Type} {k : Nat} (aE : ∀ w, (isAgg (ρ.t 24)).run P w = .ok true w) (zE : ∀ w, (Go.sizeOf (ρ.t 24)).run P w = .ok k w) {G : Qg → (Nat → Value) → α → Prop} {h : Qg} {key : α → Int}
  (hG : ∀ c x, G h c x → ∀ j, j < k → (c j).oneCell' = true) {g : Nat} (eg : ∀ args w, (callFunc g args).run P w = .ok (.enter g args) w)
  (hcl : ∀ (c1 c2 : List Value) (x y : α) (W : World), c1.length = k → c2.length = k → G h (fun j => c1.getD j undef) x → G h (fun j => c2.getD j undef) y → (-9223372036854775808 ≤ key x - key y ∧ key x - key y ≤ 9223372036854775807) →
   Calls P g #[.agg c1.toArray, .agg c2.toArray] W fun e w' => e = .returned (.int .i64 (key x - key y)) ∧ ∃ q os', w' = Go.Sort.grow (W.drewN q) os')
  {E : TypeId} {css : List (List Value)} {xs r : List α} {p0 : Option Addr × Nat} {n0 : Nat} {w : World} {S : Nat → Prop}
  (hcs : (J5 E k (.slice p0.1 n0 p0.2) n0 (css.map idC)).P S w) (hlt : ∀ b, S b → b < w.heap.size) (hn0 : n0 = css.length) (hA : AllC G h k css xs) (H : gSortP xs key = some r) :
  Does P (ρ.f 6) (List.toArray [.slice p0.1 n0 p0.2, .func (.func g) #[] #[]]) w (fun v w' => ∃ css' : List (List Value), v = .tuple #[] ∧ Turn w w' S (bothC (J5 E k (.slice p0.1 n0 p0.2) n0 (css'.map idC)) (factC (AllC G h k css' r)))) := by
 obtain ⟨rfl, h62, hkey, hnd⟩ := gSortP_some H
 have hl := hA.len
 let enc : Fin css.length → List Value := fun i => css[i.1]
 let val : Fin css.length → α := fun i => xs[i.1]'(by have := i.2; omega)
 let cf : Fin css.length → Fin css.length → Option Int := fun i j => some (key (val i) - key (val j))
 have hel : ∀ i : Fin css.length, (enc i).length = k ∧ G h (fun j => (enc i).getD j undef) (val i) := fun i => hA.el i.1 _ _ (List.getElem?_eq_getElem i.2) (List.getElem?_eq_getElem (by have := i.2; omega))
 have hb : ∀ i : Fin css.length, -1000000000000000000 ≤ key (val i) ∧ key (val i) ≤ 1000000000000000000 := fun i => hkey _ (List.getElem_mem _)
 have hinj : ∀ i j : Fin css.length, key (val i) = key (val j) → i = j := fun i j e => by
  have h2 := List.pairwise_iff_getElem.1 (List.pairwise_map.1 hnd)
  rcases Nat.lt_trichotomy i.1 j.1 with h3 | h3 | h3
  ·exact absurd e (h2 i.1 j.1 (by have := i.2; omega) (by have := j.2; omega) h3)
  ·exact Fin.ext h3
  ·exact absurd e.symm (h2 j.1 i.1 (by have := j.2; omega) (by have := i.2; omega) h3)
 have hok : CmpOk cf := by
  refine ⟨fun x y => ⟨_, rfl⟩, fun x y => ?_, fun x y z => ?_, fun x y e => ?_⟩
  ·simp only [cf, Option.getD_some]; omega
  ·simp only [cf, Option.getD_some]; omega
  ·simp only [cf, Option.getD_some] at e; exact hinj x y (by omega)
 have ha0 : (List.ofFn fun i : Fin css.length => i).map enc = css := by
  rw [List.map_ofFn]
  exact List.ofFn_getElem (xs := css)
 have hx0 : (List.ofFn fun i : Fin css.length => i).map val = xs := by
  rw [List.map_ofFn]
  refine List.ext_getElem (by rw [List.length_ofFn, hl]) fun i h1 h2 => ?_
  rw [List.getElem_ofFn]; rfl
 rw [Z9] at hcs
 have hS : gSortF (List.ofFn fun i : Fin css.length => i) cf = some ((List.ofFn fun i : Fin css.length => i).mergeSort (leC cf)) := by
  unfold gSortF
  rw [if_pos ⟨by rw [List.length_ofFn, hl]; exact h62, hok⟩]
 have main := sort_func Ly aE zE enc (fun i => (hel i).1) (fun i v hv => by
   obtain ⟨j, hj, rfl⟩ := List.getElem_of_mem hv
   have h1 := hG _ _ (hel i).2 j (by rw [← (hel i).1]; exact hj)
   simpa [List.getD_eq_getElem?_getD, List.getElem?_eq_getElem hj] using h1) (cf := cf) eg (fun x y v W hv => by
   have hv : key (val x) - key (val y) = v := Option.some.inj hv
   subst hv
   have := hb x
   have := hb y
   exact hcl (enc x) (enc y) (val x) (val y) W (hel x).1 (hel y).1 (hel x).2 (hel y).2 (by omega)) (E := E) (p0 := p0) (n0 := n0) (S := S) (w := w) (by rw [ha0]; exact hcs) hlt (by rw [List.length_ofFn]; exact hn0) hS
 have hr : ((List.ofFn fun i : Fin css.length => i).mergeSort (leC cf)).map val = xs.mergeSort fun x y => decide (key x ≤ key y) := by
  rw [List.map_mergeSort (s := fun x y => decide (key x ≤ key y)), hx0]
  intro i _ j _
  unfold leC
  simp only [cf, Option.getD_some]
  rw [Bool.eq_iff_iff, decide_eq_true_iff, decide_eq_true_iff]
  omega
 generalize hd : (List.ofFn fun i : Fin css.length => i).mergeSort (leC cf) = d at main hr
 refine main.mono ?_
 rintro v w' ⟨_, hv, ht⟩
 refine ⟨d.map enc, hv, ht.os, ht.tape, ht.output, ht.size, ht.block, ?_⟩
 obtain ⟨S', k1, k2⟩ := ht.out
 refine ⟨S', ⟨S', fun _ => False, by rw [Z9]; exact k1, ⟨fun _ h => h, ?_⟩, fun _ h => h, fun _ h => h.elim, fun _ _ h => h⟩, k2⟩
 rw [← hr]
 refine ⟨by simp, fun i c x hc hx => ?_⟩
 rw [List.getElem?_map] at hc hx
 cases hi : d[i]? with
 | none => rw [hi] at hc; cases hc
 | some q =>
  rw [hi] at hc hx
  cases hc; cases hx
  exact hel q
end Go.Lx

/- Short forms of rules, for walks that would be too long for one claim. Conditions: none. -/
namespace Go.Lx
open Go Go.Md Go.Vc Go.Shelf Go.Sort Go.Proofs
abbrev nn : Option Addr × Nat := (none, 0)
abbrev i6 (x : Int) : Value := .int .i64 x
abbrev sl (p : Option Addr × Nat) (n : Nat) : Value := .slice p.1 n p.2
section
variable {P : Program} {n : Nat} {cx : Cx} {Q : Post} {e : Zk} {L : List Chunk} {ops : Array Oper} {rest : List Oper} {d : Nat} {ty : TypeId} {pos : String} {af : Array Edge} {g : Option (Nat × Bool)} {X : Operand}
theorem mv (v : Value) (k : At cx (WL P n ops Q rest) (upd e d v) L) (hw : Zu ops ⟨some d, .move X, ty, pos, af, g⟩ e = true := by exact rfl) (hn : Nat.blt d n = true := by exact rfl) (hx : ev e X = v := by exact rfl) :
  At cx (WL P n ops Q (⟨some d, .move X, ty, pos, af, g⟩ :: rest)) e L := Jf hw rfl hn (r_move hx) k
theorem ag (v : Value) (k : At cx (WL P n ops Q rest) (upd e d v) L) (hw : Zu ops ⟨some d, .assign X, ty, pos, af, g⟩ e = true := by exact rfl) (hn : Nat.blt d n = true := by exact rfl) (hx : ev e X = v := by exact rfl) :
  At cx (WL P n ops Q (⟨some d, .assign X, ty, pos, af, g⟩ :: rest)) e L := Jf hw rfl hn (Uj hx) k
theorem pa {o : Op} (k : At cx (WL P n ops Q rest) (upd e d undef) L) (hw : Zu ops ⟨some d, o, ty, pos, af, g⟩ e = false := by exact rfl) (hn : Nat.blt d n = true := by exact rfl) :
  At cx (WL P n ops Q (⟨some d, o, ty, pos, af, g⟩ :: rest)) e L := l_passed hw rfl hn k
theorem c_dr {K : Zk → World → Prop} (i : Nat) (k : At cx K e (L.eraseIdx i)) : At cx K e L := by
 refine c_sel ((List.range L.length).eraseIdx i) (L.eraseIdx i) ?_ (List.nodup_range.sublist (List.eraseIdx_sublist _ _)) k
 refine List.ext_getElem? fun j => ?_
 rw [List.getElem?_map, List.getElem?_map, List.getElem?_eraseIdx, List.getElem?_eraseIdx]
 split
 ·by_cases h : j < L.length
  ·rw [List.getElem?_range h]; simp [List.getElem?_eq_getElem h]
  ·rw [List.getElem?_eq_none (by simpa using h), List.getElem?_eq_none (by simpa using h)]; rfl
 ·by_cases h : j + 1 < L.length
  ·rw [List.getElem?_range h]; simp [List.getElem?_eq_getElem h]
  ·rw [List.getElem?_eq_none (by simpa using h), List.getElem?_eq_none (by simpa using h)]; rfl
end
section
variable {P : Program} {cx : Cx} {e : Zk} {L : List Chunk} {ops : Array Oper} {F : Zk → List Chunk → Prop} {rest : List Oper} {ss : List Kd} {d : Nat} {ty : TypeId} {pos : String} {af : Array Edge} {g : Option (Nat × Bool)} {X : Operand}
theorem dm (v : Value) (k : Sq P cx ops F rest ss (upd e d v) L) (hw : Zu ops ⟨some d, .move X, ty, pos, af, g⟩ e = true := by exact rfl) (hx : ev e X = v := by exact rfl) :
  Sq P cx ops F (⟨some d, .move X, ty, pos, af, g⟩ :: rest) (.p :: ss) e L := Qa hw rfl (r_move hx) k
theorem dp {o : Op} {s : Kd} (k : Sq P cx ops F rest ss (upd e d undef) L) (hw : Zu ops ⟨some d, o, ty, pos, af, g⟩ e = false := by exact rfl) :
  Sq P cx ops F (⟨some d, o, ty, pos, af, g⟩ :: rest) (s :: ss) e L := d_pass hw rfl k
end
section
variable {α : Type} {a b : α} {l : List α} {n : Nat}
theorem z1 : (a :: l).set 0 b = b :: l := rfl
theorem z2 : (a :: l).set (n + 1) b = a :: l.set n b := rfl
theorem z3 : (a :: l).eraseIdx 0 = l := rfl
theorem z4 : (a :: l).eraseIdx (n + 1) = a :: l.eraseIdx n := rfl
theorem z5 {m : List α} : (a :: l) ++ m = a :: (l ++ m) := rfl
theorem z6 {m : List α} : [] ++ m = m := rfl
theorem z7 : List.replicate (n + 1) a = a :: List.replicate n a := rfl
theorem z8 : List.replicate 0 a = [] := rfl
end
end Go.Lx
