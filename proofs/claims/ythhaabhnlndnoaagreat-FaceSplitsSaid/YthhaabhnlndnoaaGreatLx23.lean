/- Rules: rows out of strings (their block bears a mark behind its cells), appended to; append of something to a row that may be full. Conditions: none. -/
import Derived.Test.YthhaabhnlndnoaaGreatLx22
import Derived.Lib.ConvBytes
namespace Go.Lx
open Go Go.Vc Go.Md

section plain
variable {P : Program}

theorem run_storeCells_atM (g o : Nat) (t : TypeId) (k : Nat × Nat) : ∀ (vs : List Value) (i : Nat) (cur : Array Value) (w : World), cur.size ≤ k.1 → w.heap[g]? = some (.cells cur t k) → o + i + vs.length ≤ cur.size → (∀ v ∈ vs, v.oneCell' = true) →
    (storeCells ⟨g, o, none⟩ vs i).run P w = .ok () (w.setRow g (cur.toList.take (o + i) ++ vs ++ cur.toList.drop (o + i + vs.length)).toArray)
  | [], i, cur, w, _, hg, _, _ => by
    simp only [storeCells, List.append_nil, List.length_nil, Nat.add_zero, List.take_append_drop, Array.toArray_toList]
    rw [setRow_self w g cur t k hg]
    rfl
  | v :: rest, i, cur, w, hk, hg, hl, h1 => by
    have hi : o + i < cur.size := by simp at hl; omega
    have hadd : (⟨g, o, none⟩ : Addr).add i = ⟨g, o + i, none⟩ := by unfold Addr.add; split <;> simp_all
    have hcell : w.cell? ⟨g, o + i, none⟩ = some cur[o + i] := by simp [World.cell?, hg, hi]
    have hfro : w.frozen? ⟨g, o + i, none⟩ = false := by obtain ⟨k0, k1⟩ := k; simp only at hk; simp [World.frozen?, hg]; omega
    have hst : (store ((⟨g, o, none⟩ : Addr).add i) v).run P w = .ok () (w.setRow g (cur.setIfInBounds (o + i) v)) := by
      rw [hadd, run_store P w _ v _ (h1 v (by simp)), hcell]
      simp [hfro, setCell_eq_setRow w g (o + i) cur t k v hg]
    have ih := run_storeCells_atM g o t k rest (i + 1) (cur.setIfInBounds (o + i) v) (w.setRow g (cur.setIfInBounds (o + i) v)) (by simpa using hk) (setRow_heap w g cur _ t _ hg) (by simp at hl ⊢; omega) (fun x hx => h1 x (by simp [hx]))
    simp only [storeCells, Sem.run_bind, hst, Result.andThen_ok, ih, setRow_setRow]
    congr 3
    have e := list_seg_step cur.toList (o + i) v rest (by simp at hl ⊢; omega)
    simpa [Array.toList_setIfInBounds, Nat.add_assoc] using e

theorem run_append_roomM (w : World) (t ty e : TypeId) (i : TypeInfo) (ht : P.underlying t = some (.slice e)) (hi : P.info? e = some i)
    (g sLen sCap : Nat) (cur : Array Value) (k : Nat × Nat) (hk : cur.size ≤ k.1) (hg : w.heap[g]? = some (.cells cur e k))
    (a : Addr) (m c : Nat) (news : List Value) (hl : news.length = m * i.size) (hnews : ∀ j u, news[j]? = some u → w.cell? (a.add j) = some u) (h1 : ∀ u ∈ news, u.oneCell' = true)
    (hroom : sLen + m ≤ sCap) (hfit : sLen * i.size + news.length ≤ cur.size) :
    (Builtin.append_ #[t, t] ty #[.slice (some ⟨g, 0, none⟩) sLen sCap, .slice (some a) m c]).run P w =
      .ok (.slice (some ⟨g, 0, none⟩) (sLen + m) sCap) (w.setRow g (cur.toList.take (sLen * i.size) ++ news ++ cur.toList.drop (sLen * i.size + news.length)).toArray) := by
  have hf := run_firstCells_some (P := P) w i.size m a m c news hl hnews
  have hst := run_storeCells_atM (P := P) g (sLen * i.size) e k news 0 cur w hk hg (by simpa using hfit) h1
  simp only [Nat.add_zero] at hst
  simp [Builtin.append_, run_underlying ht, sizeOf, typeInfo, hi, Builtin.lenOf, hroom, hf, Addr.add_lit, hst]
end plain

/-- Cells with a mark behind them. -/
def markR (w : World) (E sz : Nat) (v : Value) (n : Nat) (xs : List (List Value)) : Prop :=
  ∃ g cap cur k, v = .slice (some ⟨g, 0, none⟩) n cap ∧ w.heap[g]? = some (.cells cur E k) ∧ cur.size ≤ k.1 ∧ n ≤ cap ∧ cap ≤ maxLen ∧ cur.size = cap * sz ∧ cur.toList.take (n * sz) = xs.flatten

def mkC (w : World) (E sz : Nat) (v : Value) (n : Nat) (xs : List (List Value)) : Prop :=
  (apC w E sz v n xs ∨ markR w E sz v n xs) ∧ xs.length = n ∧ ∀ x ∈ xs, x.length = sz

theorem markR.frs {w : World} {E sz : Nat} {v : Value} {n : Nat} {xs : List (List Value)} (h : markR w E sz v n xs) (hn : xs.length = n) (hl : ∀ x ∈ xs, x.length = sz) : FrS (fun b => w.heap[b]?) sz v xs := by
  obtain ⟨g, cap, cur, k, rfl, hh, _, hnc, hm, hcs, ht⟩ := h
  subst hn
  refine ⟨some ⟨g, 0, none⟩, cap, rfl, hnc, by simpa [maxLen] using hm, .inr ⟨g, 0, cur, E, k, rfl, hh, fun i x hx => ⟨hl x (List.mem_of_getElem? hx), fun j v hv => ?_⟩⟩⟩
  have hi : i < xs.length := by
    rcases Nat.lt_or_ge i xs.length with h | h
    · exact h
    · rw [List.getElem?_eq_none h] at hx; cases hx
  have hj : j < sz := by
    have := hl x (List.mem_of_getElem? hx)
    rcases Nat.lt_or_ge j x.length with h | h
    · omega
    · rw [List.getElem?_eq_none h] at hv; cases hv
  have hr := row_get xs i x (List.all_eq_true.2 fun x hx => by simpa using hl x hx) hx j v hv
  rw [← ht, List.getElem?_take] at hr
  split at hr
  · rw [Nat.zero_add, ← Array.getElem?_toList]; exact hr
  · cases hr

theorem mkC.frs {w : World} {E sz : Nat} {v : Value} {n : Nat} {xs : List (List Value)} (h : mkC w E sz v n xs) : FrS (fun b => w.heap[b]?) sz v xs :=
  h.1.elim (fun h1 => h1.frs) (fun h1 => h1.frs h.2.1 h.2.2)
theorem mkC.lt {w : World} {E sz : Nat} {v : Value} {n : Nat} {xs : List (List Value)} (h : mkC w E sz v n xs) (b : Nat) (hb : v.ownBlock = some b) : b < w.heap.size := by
  rcases h.1 with h1 | ⟨g, cap, cur, k, rfl, h1, _⟩
  · exact h1.lt b hb
  · simp [Value.ownBlock] at hb
    subst hb
    exact (Array.getElem?_eq_some_iff.1 h1).1
theorem mkC.slice {w : World} {E sz : Nat} {v : Value} {n : Nat} {xs : List (List Value)} (h : mkC w E sz v n xs) : ∃ p : Option Addr × Nat, v = .slice p.1 n p.2 := by
  rcases h.1 with h1 | ⟨g, cap, cur, k, rfl, _⟩
  · exact h1.slice
  · exact ⟨(some ⟨g, 0, none⟩, cap), rfl⟩

def mkV (E : TypeId) (sz : Nat) (v : Value) (n : Nat) (xs : List (List Value)) : Chunk where
  P S w := mkC w E sz v n xs ∧ ∀ b, v.ownBlock = some b → S b
  loc S w w' h := by
    rintro ⟨⟨h1 | ⟨g, cap, cur, k, rfl, hh, hr⟩, h3⟩, h4⟩
    · exact ⟨⟨.inl ((apV E sz v n xs).loc S w w' h ⟨h1, h4⟩).1, h3⟩, h4⟩
    · exact ⟨⟨.inr ⟨g, cap, cur, k, rfl, (h g (h4 g rfl)).trans hh, hr⟩, h3⟩, h4⟩

theorem imp_apmk (E sz : Nat) (v : Value) (n : Nat) (xs : List (List Value)) : Imp (apV E sz v n xs) (mkV E sz v n xs) := ⟨fun S w ⟨h1, h4⟩ => ⟨⟨.inl h1, h1.2⟩, h4⟩⟩
theorem imp_mk (E sz : Nat) (v : Value) (n : Nat) (xs : List (List Value)) : Imp (rowV E sz v n xs) (mkV E sz v n xs) := ⟨fun S w h => (imp_apmk E sz v n xs).out S w ((imp_ap E sz v n xs).out S w h)⟩
theorem imp_mkro (E sz : Nat) (v : Value) (n : Nat) (xs : List (List Value)) : Imp (mkV E sz v n xs) (roV sz v n xs) := ⟨fun S w ⟨h1, h4⟩ => ⟨h1.2.1.symm, h1.frs, h4⟩⟩

theorem turn_mk {w w' : World} {E sz m' : Nat} {v v' : Value} {xs' : List (List Value)} {S : Nat → Prop} (hS : ∀ b, v.ownBlock = some b → S b) (ho : mkC w' E sz v' m' xs') (hg : w.grownBy w' v.ownBlock)
    (h5 : v'.ownBlock = v.ownBlock ∨ v'.ownBlock = some w.heap.size) : Turn w w' S (mkV E sz v' m' xs') := by
  refine ⟨hg.os, hg.tape, hg.output, hg.size, fun b hb hn => hg.block b hb (fun h => hn (hS b h.symm)), fun b => v'.ownBlock = some b, ⟨ho, fun b h => h⟩, fun b hb => ⟨ho.lt b hb, ?_⟩⟩
  rcases h5 with h | h
  · exact .inl (hS b (h ▸ hb))
  · rw [h] at hb; cases hb; exact .inr (Nat.le_refl _)

section rules
variable {P : Program} {n : Nat} {cx : Cx} {e : Env} {L : List Chunk} {d : Nat} {ty : TypeId} {pos : String} {af : Array Edge} {g : Option (Nat × Bool)}

theorem frs_mk {α : Type} {w : World} {i E sz m : Nat} {v : Value} {xs : List α} {f : α → List Value} (hS : Sat cx w L) (hL : L[i]? = some (mkV E sz v m (xs.map f))) : FrS (fun b => w.heap[b]?) sz v (xs.map f) := by
  obtain ⟨S, ⟨h, _⟩, _⟩ := hS.at hL
  exact h.frs
theorem frb_mk {α : Type} {w : World} {S : Nat → Prop} {i j E sz m : Nat} {v : Value} {xs : List α} {f : α → List Value} {L' : List Chunk} (hA : Apart L' i w S) (hS : Sat cx w L') (hji : j ≠ i) (hL : L'[j]? = some (mkV E sz v m (xs.map f))) : FrS (but w S) sz v (xs.map f) := by
  obtain ⟨S', h1, h2⟩ := hA j _ hji hL
  exact (frs_mk hS hL).but fun b hb => h2 b (h1.2 b hb)
theorem mkOf {w : World} {i E sz m c : Nat} {a : Option Addr} {xs : List (List Value)} (hS : Sat cx w L) (hL : L[i]? = some (mkV E sz (.slice a m c) m xs)) : Row w a sz xs := by
  obtain ⟨S, ⟨h, _⟩, _⟩ := hS.at hL
  obtain ⟨a', c', h0, _, _, r⟩ := h.frs.out
  simp only [Value.slice.injEq] at h0
  obtain ⟨rfl, _, rfl⟩ := h0
  exact r.row fun b o h => h
theorem mk_full {w : World} {i E sz m c : Nat} {a : Option Addr} {xs : List (List Value)} (hS : Sat cx w L) (hL : L[i]? = some (mkV E sz (.slice a m c) m xs)) : m ≤ c := by
  obtain ⟨S, ⟨h, _⟩, _⟩ := hS.at hL
  obtain ⟨a', c', h0, h1, _, _⟩ := h.frs.out
  simp only [Value.slice.injEq] at h0
  rw [h.2.1] at h1
  omega

theorem app_mk {w : World} {t E sz by_ : Nat} {I : TypeInfo} {z : Value} {v : Value} {m q c : Nat} {xs news : List (List Value)} {a : Option Addr} (ht : P.underlying t = some (.slice E)) (hi : P.info? E = some I) (hz : I.zero = some z) (hsize : I.size = sz) (hby : I.bytes = by_) (hzs : z.cells.size = sz) (hsz : 0 < sz)
    (hc : mkC w E sz v m xs) (hq : news.length = q) (hnl : ∀ x ∈ news, x.length = sz) (hR : Row w a sz news) (h1 : ∀ x ∈ news, ∀ u ∈ x, u.oneCell' = true) (h63 : m + q ≤ maxLen) (hbytes : (m + q) * by_ ≤ 140739635838976) (hy : by_ ≤ 1048576) :
    ∃ v' w', (Builtin.append_ #[t, t] ty #[v, .slice a q c]).run P w = .ok v' w' ∧ mkC w' E sz v' (m + q) (xs ++ news) ∧ w.grownBy w' v.ownBlock ∧ (v'.ownBlock = v.ownBlock ∨ v'.ownBlock = some w.heap.size) := by
  have same : w.grownBy w v.ownBlock := ⟨rfl, rfl, rfl, Nat.le_refl _, fun _ _ _ => rfl⟩
  have hfl : news.flatten.length = q * sz := by rw [flat_len news hnl, hq]
  have hone : ∀ u ∈ news.flatten, u.oneCell' = true := by
    intro u hu
    obtain ⟨x, hx, hux⟩ := List.mem_flatten.1 hu
    exact h1 x hx u hux
  obtain ⟨hc1, hc2, hc3⟩ := hc
  have lens : (xs ++ news).length = m + q ∧ ∀ x ∈ xs ++ news, x.length = sz := ⟨by simp [hc2, hq], fun x hx => (List.mem_append.1 hx).elim (hc3 x) (hnl x)⟩
  rcases hc1 with hap | ⟨g', cap, cur, k, rfl, hg, hk, hnc, hcm, hcs, htake⟩
  · obtain ⟨v', w', hr, h2, h3, h5⟩ := app_ap (P := P) (ty := ty) (c := c) ht hi hz hsize hby hzs hsz hap hq hnl hR h1 h63 hbytes hy
    exact ⟨v', w', hr, ⟨.inl h2, h2.2⟩, h3, h5⟩
  · have hxf : xs.flatten.length = m * sz := by rw [flat_len xs hc3, hc2]
    by_cases hq0 : q = 0
    · subst hq0
      have hn0 : news = [] := List.eq_nil_of_length_eq_zero hq
      subst hn0
      refine ⟨.slice (some ⟨g', 0, none⟩) m cap, w, ?_, ⟨.inr ⟨g', cap, cur, k, rfl, hg, hk, hnc, hcm, hcs, by simpa using htake⟩, lens⟩, same, .inl rfl⟩
      cases a <;> simp [Builtin.append_, run_underlying ht, sizeOf, typeInfo, hi, Builtin.lenOf, Builtin.firstCells, loadCells, loadCellsFrom, hnc, storeCells]
    · cases a with
      | none =>
        rcases hR with h | ⟨b, off, h, _⟩
        · subst h; exact absurd hq.symm hq0
        · cases h
      | some ad =>
        have hcell := row_cells hnl hR
        subst hsize hby
        by_cases hroom : m + q ≤ cap
        · have hfit : m * I.size + news.flatten.length ≤ cur.size := by rw [hfl, hcs, ← Nat.add_mul]; exact Nat.mul_le_mul_right _ hroom
          have hr := run_append_roomM (P := P) w t ty E I ht hi g' m cap cur k hk hg ad q c news.flatten hfl hcell hone hroom hfit
          refine ⟨_, _, hr, ⟨.inr ⟨g', cap, _, k, rfl, setRow_heap w g' cur _ E _ hg, ?_, hroom, hcm, ?_, ?_⟩, lens⟩, ⟨rfl, rfl, rfl, by simp, fun k _ hk => setRow_other w g' k _ (fun e => hk (by simp [Value.ownBlock, e]))⟩, .inl rfl⟩
          · simp only [List.size_toArray, List.length_append, List.length_take, List.length_drop, Array.length_toList]
            omega
          · simp only [List.size_toArray, List.length_append, List.length_take, List.length_drop, Array.length_toList]
            omega
          · rw [htake, List.flatten_append, Nat.add_mul, ← hxf, ← hfl, ← List.length_append]
            exact List.take_left
        · have hm63 : m + q ≤ 9223372036854775807 := by simpa [maxLen] using h63
          have hold : ∀ j u, xs.flatten[j]? = some u → w.cell? ((⟨g', 0, none⟩ : Addr).add j) = some u := by
            intro j u hj
            rw [← htake, List.getElem?_take] at hj
            split at hj
            · rw [Addr.add_lit]; simp only [World.cell?, hg, Nat.zero_add]; rw [← Array.getElem?_toList]; exact hj
            · cases hj
          have hr := run_append_grow (P := P) w t ty E I z ht hi hz ⟨g', 0, none⟩ m cap xs.flatten hxf hold ad q c news.flatten hfl hcell (by omega) (by omega) (fits2 (by omega) hbytes hy)
          refine ⟨_, _, hr, ⟨.inl ⟨.inl ?_, lens⟩, lens⟩, grown_by _ _ _, .inr rfl⟩
          rw [List.flatten_append]
          exact grown_owns hzs (by rw [List.length_append, hxf, hfl, Nat.add_mul]) h63

/-- append onto a row out of a string. -/
theorem turns_appM {α : Type} {f : α → List Value} {ys ls zs : List α} {i : Nat} {S X : Operand} {t E : TypeId} {I : TypeInfo} {z : Value} {sz by_ : Nat} {p : Option Addr × Nat} {rds : List Nat} {V : Value} {a : Option Addr} {c m q : Nat} (hn : m = ys.length)
    (ht : P.underlying t = some (.slice E)) (hi : P.info? E = some I) (hz : I.zero = some z) (hsize : I.size = sz) (hby : I.bytes = by_) (hzs : z.cells.size = sz) (hsz : (Nat.blt 0 sz && Nat.ble by_ 1048576) = true)
    (hL : L[i]? = some (mkV E sz (.slice p.1 m p.2) m (ys.map f))) (hs : ev e S = .slice p.1 m p.2) (hx : ev e X = V) (hV : V = .slice a q c) (hq : q = ls.length)
    (hnews : ∀ w L', Fr cx w → Sat cx w L' → (∀ j, j ∈ rds → L'[j]? = L[j]?) → Row w a sz (ls.map f)) (hf : ∀ x, (f x).length = sz) (h1 : ∀ x, (f x).all Value.oneCell' = true) (hg : gApL by_ ys ls = some zs) :
    Turns P cx e ⟨some d, .call ⟨.builtin .append, #[S, X], #[t, t]⟩, ty, pos, af, g⟩ L i rds (fun p' : Option Addr × Nat => .slice p'.1 zs.length p'.2) (fun p' => mkV E sz (.slice p'.1 zs.length p'.2) zs.length (zs.map f)) := fun w L' hF hS hl hi' => by
  subst hn hq
  obtain ⟨rfl, hb1, hb2⟩ := gApL_some hg
  rw [List.length_append, List.map_append]
  have hL' := (hi' i (.inr rfl)).trans hL
  obtain ⟨S0, ⟨hc, _⟩, _⟩ := hS.at hL'
  obtain ⟨v', w', hr, h2, h3, h5⟩ := app_mk (P := P) (ty := ty) (c := c) ht hi hz hsize hby hzs (by simp at hsz; exact hsz.1) hc (List.length_map _) (fun x hx => by
      obtain ⟨y, _, rfl⟩ := List.mem_map.1 hx; exact hf y) (hnews w L' hF hS fun j hj => hi' j (.inl hj)) (fun x hx u hu => by
      obtain ⟨y, _, rfl⟩ := List.mem_map.1 hx; exact List.all_eq_true.1 (h1 y) u hu) (by simp only [maxLen]; omega) hb2 (by simp at hsz; exact hsz.2)
  obtain ⟨p', rfl⟩ := h2.slice
  obtain ⟨hF', hS'⟩ := hS.turnOf hF hL' (C := mkV E sz (.slice p'.1 (ys.length + ls.length) p'.2) (ys.length + ls.length) (ys.map f ++ ls.map f)) fun S1 hp => turn_mk hp.2 h2 h3 h5
  have he : (execOp (ev e) ⟨some d, .call ⟨.builtin .append, #[S, X], #[t, t]⟩, ty, pos, af, g⟩).run P w = .ok (.value (.slice p'.1 (ys.length + ls.length) p'.2)) w' := by
    simp only [execOp, resolve, invoke, builtin, Sem.run_bind, Sem.run_pure, Result.andThen_ok, List.map_toArray, List.map_cons, List.map_nil, hs, hx, hV, hr]
  unfold RunsTo
  rw [he]
  exact ⟨p', rfl, hF', hS'⟩

/-- append of something onto a row of one's own, or a full one: a row of one's own. -/
theorem turns_appN {α : Type} {f : α → List Value} {ys ls zs : List α} {i : Nat} {S X : Operand} {t E : TypeId} {I : TypeInfo} {z : Value} {sz by_ : Nat} {p : Option Addr × Nat} {rds : List Nat} {V : Value} {a : Option Addr} {c m q : Nat} (hn : m = ys.length)
    (ht : P.underlying t = some (.slice E)) (hi : P.info? E = some I) (hz : I.zero = some z) (hsize : I.size = sz) (hby : I.bytes = by_) (hzs : z.cells.size = sz) (hsz : (Nat.blt 0 sz && Nat.ble by_ 1048576) = true)
    (hL : L[i]? = some (apV E sz (.slice p.1 m p.2) m (ys.map f))) (hs : ev e S = .slice p.1 m p.2) (hx : ev e X = V) (hV : V = .slice a q c) (hq : q = ls.length)
    (hnews : ∀ w L', Fr cx w → Sat cx w L' → (∀ j, j ∈ rds → L'[j]? = L[j]?) → Row w a sz (ls.map f)) (hf : ∀ x, (f x).length = sz) (h1 : ∀ x, (f x).all Value.oneCell' = true) (hg : gApN by_ ys ls = some zs) :
    Turns P cx e ⟨some d, .call ⟨.builtin .append, #[S, X], #[t, t]⟩, ty, pos, af, g⟩ L i rds (fun p' : Option Addr × Nat => .slice p'.1 zs.length p'.2) (fun p' => rowV E sz (.slice p'.1 zs.length p'.2) zs.length (zs.map f)) := fun w L' hF hS hl hi' => by
  subst hn hq
  obtain ⟨rfl, hne, hb1, hb2⟩ := gApN_some hg
  rw [List.length_append, List.map_append]
  have hL' := (hi' i (.inr rfl)).trans hL
  obtain ⟨S0, ⟨⟨hc1, hc2, hc3⟩, _⟩, _⟩ := hS.at hL'
  simp at hsz
  have hnl : ∀ x ∈ ls.map f, x.length = sz := fun x hx => by obtain ⟨y, _, rfl⟩ := List.mem_map.1 hx; exact hf y
  have hone : ∀ u ∈ (ls.map f).flatten, u.oneCell' = true := by
    intro u hu
    obtain ⟨x, hx, hux⟩ := List.mem_flatten.1 hu
    obtain ⟨y, _, rfl⟩ := List.mem_map.1 hx
    exact List.all_eq_true.1 (h1 y) u hux
  have hfl : (ls.map f).flatten.length = ls.length * sz := by rw [flat_len (ls.map f) hnl, List.length_map]
  have hR := hnews w L' hF hS fun j hj => hi' j (.inl hj)
  have h63 : ys.length + ls.length ≤ maxLen := by simp only [maxLen]; omega
  have hpos : 0 < ls.length := List.length_pos_iff.2 hne
  have key : ∃ v' w', (Builtin.append_ #[t, t] ty #[.slice p.1 ys.length p.2, .slice a ls.length c]).run P w = .ok v' w' ∧ w'.ownsRow 0 E sz v' (ys.length + ls.length) (ys.map f ++ ls.map f).flatten ∧ w.grownBy w' (Value.slice p.1 ys.length p.2).ownBlock ∧ (v'.ownBlock = (Value.slice p.1 ys.length p.2).ownBlock ∨ v'.ownBlock = some w.heap.size) := by
    cases a with
    | none =>
      rcases hR with h | ⟨b, off, h, _⟩
      · have := congrArg List.length h; simp at this; exact absurd this hne
      · cases h
    | some ad =>
      have hcell := row_cells hnl hR
      rcases hc1 with ho | ⟨hfr, b, o, hv, hb⟩
      · obtain ⟨v', w', hr, h2, h3, h5⟩ := app_own (P := P) (ty := ty) (c := c) ht hi hz hsize hby hzs ho hpos hfl hcell hone h63 hb2 hsz.2
        exact ⟨v', w', hr, by rw [List.flatten_append]; exact h2, h3, h5⟩
      · have hxf : (ys.map f).flatten.length = ys.length * I.size := by rw [flat_len _ hc3, List.length_map, hsize]
        obtain ⟨a', c', h0, _, _, r⟩ := hfr.out
        rw [hv] at h0
        simp only [Value.slice.injEq] at h0 hv
        obtain ⟨rfl, _, rfl⟩ := h0
        subst hsize hby
        have hold := row_cells hc3 (r.row fun b o h => h)
        have hm63 : ys.length + ls.length ≤ 9223372036854775807 := by simpa [maxLen] using h63
        have hr := run_append_grow (P := P) w t ty E I z ht hi hz ⟨b, 0, none⟩ ys.length ys.length (ys.map f).flatten hxf hold ad ls.length c (ls.map f).flatten hfl hcell (by omega) (by omega) (fits2 (by omega) hb2 hsz.2)
        rw [hv.1, hv.2.2]
        refine ⟨_, _, hr, ?_, grown_by _ _ _, .inr rfl⟩
        rw [List.flatten_append]
        exact grown_owns hzs (by rw [List.length_append, hxf, hfl, Nat.add_mul]) h63
  obtain ⟨v', w', hr, h2, h3, h5⟩ := key
  obtain ⟨p', rfl⟩ := slice_of_row h2
  obtain ⟨hF', hS'⟩ := hS.turnOf hF hL' (C := rowV E sz (.slice p'.1 (ys.length + ls.length) p'.2) (ys.length + ls.length) (ys.map f ++ ls.map f)) fun S1 hp => turn_append hp.2 h2 h3 h5 (by simp) (by
    intro x hx
    rcases List.mem_append.1 hx with h | h
    · obtain ⟨y, _, rfl⟩ := List.mem_map.1 h; exact hf y
    · exact hnl x h)
  have he : (execOp (ev e) ⟨some d, .call ⟨.builtin .append, #[S, X], #[t, t]⟩, ty, pos, af, g⟩).run P w = .ok (.value (.slice p'.1 (ys.length + ls.length) p'.2)) w' := by
    simp only [execOp, resolve, invoke, builtin, Sem.run_bind, Sem.run_pure, Result.andThen_ok, List.map_toArray, List.map_cons, List.map_nil, hs, hx, hV, hr]
  unfold RunsTo
  rw [he]
  exact ⟨p', rfl, hF', hS'⟩

theorem bytes_flat {f : Int → List Value} (hf : ∀ x, f x = [.int .u8 x]) (s : List UInt8) : ((ofStr s).map f).flatten = s.map fun b => Value.int .u8 (b.toNat : Int) := by
  unfold ofStr
  induction s with
  | nil => rfl
  | cons c s ih => simp only [List.map_cons, List.flatten_cons, hf, List.singleton_append, List.cons.injEq, true_and]; simpa using ih

/-- []byte(s). -/
theorem makes_bytes {f : Int → List Value} {X : Operand} {src dst E : TypeId} {s : List UInt8} {rds : List Nat} (hs : P.underlying src = some .string) (hd : P.underlying dst = some (.slice E)) (he : P.underlying E = some (.int .u8)) (hx : ev e X = str s) (hf : ∀ x, f x = [.int .u8 x]) (hl : s.length ≤ 9223372036854775807) :
    Makes P cx e ⟨some d, .convert src dst X, ty, pos, af, g⟩ L rds (fun p : Option Addr × Nat => .slice p.1 (ofStr s).length p.2) (fun p => mkV E 1 (.slice p.1 (ofStr s).length p.2) (ofStr s).length ((ofStr s).map f)) := fun w L' hF hS hi' => by
  have hr := Lib.run_convert_string_bytes (P := P) w src dst E ⟨s.toArray⟩ hs hd he
  have hsz : (⟨s.toArray⟩ : ByteArray).size = s.length := strSize s
  have hlen : (ofStr s).length = s.length := by unfold ofStr; simp
  have hcs : (Lib.bytesCells w E ⟨s.toArray⟩).size = grownCap w s.length 0 E := by
    have := grownCap_ge w s.length 0 E
    unfold Lib.bytesCells
    rw [hsz]; simp; omega
  have hx' : (execOp (ev e) ⟨some d, .convert src dst X, ty, pos, af, g⟩).run P w = .ok (.value (.slice (some ⟨w.heap.size, 0, none⟩) s.length (grownCap w s.length 0 E))) (Lib.bytesWorld w E ⟨s.toArray⟩) := by
    have hr' : (convert src dst (str s)).run P w = .ok (.slice (some ⟨w.heap.size, 0, none⟩) s.length (grownCap w s.length 0 E)) (Lib.bytesWorld w E ⟨s.toArray⟩) := by
      rw [hsz] at hr; exact hr
    simp only [execOp, Sem.run_bind, hx, hr', Result.andThen_ok, Sem.run_pure]
  unfold RunsTo
  rw [hx']
  refine ⟨(some ⟨w.heap.size, 0, none⟩, grownCap w s.length 0 E), by rw [hlen], ?_⟩
  have hsize := Lib.bytesWorld_size w E ⟨s.toArray⟩
  rw [hlen]
  refine ⟨by simp [Lib.bytesWorld, World.freeze, World.alloc, World.drew, -World.alloc_eq, -World.drew_eq], by simp [Lib.bytesWorld, World.freeze, World.alloc, World.drew, -World.alloc_eq, -World.drew_eq], by simp [Lib.bytesWorld, World.freeze, World.alloc, World.drew, -World.alloc_eq, -World.drew_eq], by rw [hsize]; omega, fun b hb _ => Lib.bytesWorld_at_old w E _ b hb, fun b => b = w.heap.size, ⟨⟨.inr ?_, by rw [List.length_map, hlen], fun x hx => ?_⟩, fun b hb => ?_⟩, fun b hb => ?_⟩
  · refine ⟨w.heap.size, _, _, _, rfl, Lib.bytesWorld_at_new w E ⟨s.toArray⟩, Nat.le_refl _, grownCap_ge w _ 0 E, grownCap_le_maxLen w _ 0 E (by simp only [maxLen]; exact hl), by rw [hcs, Nat.mul_one], ?_⟩
    rw [bytes_flat hf, Nat.mul_one]
    unfold Lib.bytesCells
    simp
  · obtain ⟨y, _, rfl⟩ := List.mem_map.1 hx
    rw [hf]; rfl
  · simp [Value.ownBlock] at hb; exact hb.symm
  · subst hb
    exact ⟨by rw [hsize]; omega, .inr (Nat.le_refl _)⟩

theorem makes_byt {f : Int → List Value} {X : Operand} {src dst E : TypeId} {s : List UInt8} {xs : List Int} {rds : List Nat} (hs : P.underlying src = some .string) (hd : P.underlying dst = some (.slice E)) (he : P.underlying E = some (.int .u8)) (hx : ev e X = str s) (hf : ∀ x, f x = [.int .u8 x]) (hg : gByt s = some xs) :
    Makes P cx e ⟨some d, .convert src dst X, ty, pos, af, g⟩ L rds (fun p : Option Addr × Nat => .slice p.1 xs.length p.2) (fun p => mkV E 1 (.slice p.1 xs.length p.2) xs.length (xs.map f)) := by
  obtain ⟨rfl, hl⟩ := gByt_some hg
  exact makes_bytes hs hd he hx hf hl
end rules

/-! ### types that hold themselves -/

theorem frsMono {h h' : Heap} {sz n : Nat} {v : Value} (f : FrS h sz v ((List.range n).map (elC h v sz))) (k : ∀ b o, h b = some o → h' b = some o) : FrS h' sz v ((List.range n).map (elC h' v sz)) := by
  have := f.mono k
  have e : (List.range n).map (elC h v sz) = (List.range n).map (elC h' v sz) := by
    apply List.map_congr_left
    intro i hi
    unfold elC
    rw [elH_mono f (by rw [List.length_map, List.length_range]; have := List.mem_range.1 hi; omega) k i]
  rwa [e] at this
theorem elMonoE {α : Type} {h h' : Heap} {sz i : Nat} {v : Value} {xs : List α} {y : α} (f : FrS h sz v ((List.range xs.length).map (elC h v sz))) (k : ∀ b o, h b = some o → h' b = some o) (hy : xs[i]? = some y) : elH h v sz i = elH h' v sz i := by
  have hi : i < xs.length := (List.getElem?_eq_some_iff.1 hy).1
  exact elH_mono f (by rw [List.length_map, List.length_range]; omega) k i
end Go.Lx
