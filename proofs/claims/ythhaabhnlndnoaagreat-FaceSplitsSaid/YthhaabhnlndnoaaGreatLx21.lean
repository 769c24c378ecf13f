/- Taking elements out of a row of one's own: append(s[:a], s[b:]...) at one row. Conditions: none. -/
import Derived.Test.YthhaabhnlndnoaaGreatLx19
namespace Go.Lx
open Go Go.Vc Go.Md

section rules
variable {P : Program} {n : Nat} {cx : Cx} {e : Env} {L : List Chunk} {d : Nat} {ty : TypeId} {pos : String} {af : Array Edge} {g : Option (Nat × Bool)}

theorem owns_take {w : World} {E : TypeId} {sz m a : Nat} {p : Option Addr × Nat} {xs : List Value} (h : w.ownsRow 0 E sz (.slice p.1 m p.2) m xs) (ha : a ≤ m) : w.ownsRow 0 E sz (.slice p.1 a p.2) a (xs.take (a * sz)) := by
  have hle : a * sz ≤ m * sz := Nat.mul_le_mul_right _ ha
  refine ⟨by rw [List.length_take, h.1]; omega, ?_⟩
  rcases h.2 with ⟨hv, hm⟩ | ⟨g0, cap, cur, hv, hbg, hg, hnc, hcm, hcs, htake⟩
  · injection hv with h1 h2 h3
    subst h2
    have : a = 0 := by omega
    subst this
    exact .inl ⟨by rw [h1, h3], by simp⟩
  · injection hv with h1 h2 h3
    refine .inr ⟨g0, cap, cur, by rw [h1, h3], hbg, hg, by omega, hcm, hcs, ?_⟩
    rw [← htake, List.take_take, Nat.min_eq_left hle]

theorem ownBlock_len (x : Option Addr) (a m c : Nat) : (Value.slice x a c).ownBlock = (Value.slice x m c).ownBlock := by cases x <;> rfl

theorem flat_takeN {sz : Nat} : ∀ {xs : List (List Value)} (a : Nat), (∀ x ∈ xs, x.length = sz) → xs.flatten.take (a * sz) = (xs.take a).flatten
  | [], a, _ => by simp
  | x :: xs, 0, _ => by simp
  | x :: xs, a + 1, h => by
    have hx := h x (by simp)
    rw [List.take_succ_cons, List.flatten_cons, List.flatten_cons, Nat.succ_mul, List.take_append, hx, List.take_of_length_le (by omega), show a * sz + sz - sz = a * sz from by omega, flat_takeN a fun y hy => h y (by simp [hy])]

/-- append(s[:a], s[b:]...) at one row of one's own: in place. -/
theorem turns_del {α : Type} {f : α → List Value} {ys ls : List α} {i : Nat} {S X : Operand} {t E : TypeId} {I : TypeInfo} {sz : Nat} {p : Option Addr × Nat} {rds : List Nat} {V : Value} {ax : Option Addr} {c m a q : Nat} (hn : m = ys.length)
    (ht : P.underlying t = some (.slice E)) (hi : P.info? E = some I) (hsize : I.size = sz)
    (hL : L[i]? = some (rowV E sz (.slice p.1 m p.2) m (ys.map f))) (ha : a + q ≤ m) (hs : ev e S = .slice p.1 a p.2) (hx : ev e X = V) (hV : V = .slice ax q c) (hq : q = ls.length)
    (hnews : ∀ w L', Fr cx w → Sat cx w L' → L'[i]? = L[i]? → Row w ax sz (ls.map f)) (hf : ∀ x, (f x).length = sz) (h1 : ∀ x, (f x).all Value.oneCell' = true) :
    Turns P cx e ⟨some d, .call ⟨.builtin .append, #[S, X], #[t, t]⟩, ty, pos, af, g⟩ L i rds (fun p' : Option Addr × Nat => .slice p'.1 (a + q) p'.2) (fun p' => rowC E sz (.slice p'.1 (a + q) p'.2) (a + q) ((ys.take a ++ ls).map f) m) := by
  subst hn hq
  intro w L' hF hS hl hi'
  have hLi := hi' i (.inr rfl)
  have hr := hnews w L' hF hS hLi
  have hL' := hLi.trans hL
  obtain ⟨S0, ⟨⟨ho, hlen, hlx⟩, hob⟩, _⟩ := hS.at hL'
  have hoa := owns_take ho (a := a) (by omega)
  rw [flat_takeN a hlx, ← List.map_take] at hoa
  have hla : ∀ x ∈ (ys.take a).map f, x.length = sz := fun x hx => by obtain ⟨y, _, rfl⟩ := List.mem_map.1 hx; exact hf y
  have hta : (ys.take a).length = a := by rw [List.length_take]; omega
  have hcap : ys.length ≤ p.2 := by
    rcases ho.2 with ⟨hv, hm⟩ | ⟨g0, cap, cur, hv, _, _, hnc, _⟩
    · injection hv with e1 e2 e3
      omega
    · injection hv with e1 e2 e3
      omega
  cases hax : ax with
  | some ad =>
    subst hax
    have hnl : ∀ x ∈ ls.map f, x.length = sz := fun x hx => by obtain ⟨y, _, rfl⟩ := List.mem_map.1 hx; exact hf y
    have hfl : (ls.map f).flatten.length = ls.length * sz := by rw [flat_len (ls.map f) hnl, List.length_map]
    have hcell : ∀ j u, (ls.map f).flatten[j]? = some u → w.cell? (ad.add j) = some u := by
      intro j u hj
      obtain ⟨i', k', x, g1, g2, g3⟩ := flat_get (ls.map f) hnl j u hj
      rcases hr with h | ⟨b, off, hb, h⟩
      · rw [h] at g1; simp at g1
      · cases hb
        have := (h i' x g1).2 k' u g2
        rw [Addr.add_lit, g3, ← Nat.add_assoc]
        exact this
    obtain ⟨v', w', hrun, h2, h3, h5, h6⟩ := run_append_in (P := P) (ty := ty) (pos := pos) (af := af) (g := g) (d := d) ht hi hsize hs hoa (hx.trans hV) hfl hcell (by
      intro u hu
      obtain ⟨x, hx, hux⟩ := List.mem_flatten.1 hu
      obtain ⟨y, _, rfl⟩ := List.mem_map.1 hx
      exact List.all_eq_true.1 (h1 y) u hux) (by simp only [sc]; omega)
    obtain ⟨p', rfl⟩ := slice_of_row h2
    rw [← List.flatten_append] at h2
    obtain ⟨hF', hS'⟩ := hS.turnOf hF hL' (C := rowC E sz (.slice p'.1 (a + ls.length) p'.2) (a + ls.length) ((ys.take a).map f ++ ls.map f) ys.length) fun S1 hp => by
      have hob' : (Value.slice p.1 a p.2).ownBlock = (Value.slice p.1 ys.length p.2).ownBlock := ownBlock_len _ _ _ _
      have ht := turn_append (v := .slice p.1 a p.2) (fun b hb => hp.2 b (hob' ▸ hb)) h2 h3 (.inl h5) (by rw [List.length_append, List.length_map, List.length_map, hta]) (by
        intro x hx
        rcases List.mem_append.1 hx with h | h
        · exact hla x h
        · exact hnl x h)
      obtain ⟨k1, k2, k3, k4, k5, S2, k6, k7⟩ := ht
      exact ⟨k1, k2, k3, k4, k5, S2, ⟨k6, by rw [h6]; exact hcap⟩, k7⟩
    unfold RunsTo
    rw [hrun]
    refine ⟨p', rfl, hF', ?_⟩
    rw [List.map_append]
    exact hS'
  | none =>
    subst hax
    have hls : ls = [] := by
      rcases hr with h | ⟨b, off, h, _⟩
      · simpa using h
      · cases h
    subst hls
    have he : (execOp (ev e) ⟨some d, .call ⟨.builtin .append, #[S, X], #[t, t]⟩, ty, pos, af, g⟩).run P w = .ok (.value (.slice p.1 a p.2)) w := by
      simp only [execOp, resolve, invoke, builtin, Sem.run_bind, Sem.run_pure, Result.andThen_ok, List.map_toArray, List.map_cons, List.map_nil, hs, hx, hV, List.length_nil, run_append_none_cap t ty E I sz ht hi _ _ _ c hoa]
    obtain ⟨hF', hS'⟩ := hS.turnOf hF hL' (C := rowC E sz (.slice p.1 a p.2) a ((ys.take a).map f) ys.length) fun S1 hp => by
      have hob' : (Value.slice p.1 a p.2).ownBlock = (Value.slice p.1 ys.length p.2).ownBlock := ownBlock_len _ _ _ _
      have ht := turn_append (w := w) (w' := w) (v := .slice p.1 a p.2) (v' := .slice p.1 a p.2) (S := S1) (fun b hb => hp.2 b (hob' ▸ hb)) hoa ⟨rfl, rfl, rfl, Nat.le_refl _, fun _ _ _ => rfl⟩ (.inl rfl) (by rw [List.length_map, hta]) hla
      obtain ⟨k1, k2, k3, k4, k5, S2, k6, k7⟩ := ht
      exact ⟨k1, k2, k3, k4, k5, S2, ⟨k6, hcap⟩, k7⟩
    unfold RunsTo
    rw [he]
    refine ⟨p, rfl, hF', ?_⟩
    simpa using hS'

theorem zero_one {z : Value} {q : Nat} (h1 : z.cells.toList.all Value.oneCell' = true) : ∀ v ∈ (Builtin.zeroCells z.cells q).toList, v.oneCell' = true := by
  intro v hv
  unfold Builtin.zeroCells at hv
  simp only [Array.toList_map, Array.toList_range, List.mem_map, List.mem_range] at hv
  obtain ⟨j, hj, rfl⟩ := hv
  have hs : 0 < z.cells.size := by
    rcases Nat.eq_zero_or_pos z.cells.size with h | h
    · rw [h] at hj; simp at hj
    · exact h
  have hm : j % z.cells.size < z.cells.size := Nat.mod_lt _ hs
  rw [getElem!_pos z.cells _ hm]
  exact List.all_eq_true.1 h1 _ (by rw [← Array.getElem_toList]; exact List.getElem_mem _)

/-- clear of a row's spare. -/
theorem turns_clear {i : Nat} {X : Operand} {t E : TypeId} {z : Value} {sz : Nat} {p : Option Addr × Nat} {rds : List Nat} {c m n q : Nat} {xs : List (List Value)}
    (ht : P.underlying t = some (.slice E)) (hz : ∀ w, (zeroValue E).run P w = .ok z w) (hzs : z.cells.size = sz) (h1 : z.cells.toList.all Value.oneCell' = true)
    (hL : L[i]? = some (rowC E sz (.slice p.1 n p.2) n xs m)) (hx : ev e X = .slice (cutA p.1 n p.2 sz) q c) (hq : n + q ≤ m) {dst : Option Nat} :
    Turns P cx e ⟨dst, .call ⟨.builtin .clear, #[X], #[t]⟩, ty, pos, af, g⟩ L i rds (fun _ : Unit => .tuple #[]) (fun _ => rowC E sz (.slice p.1 n p.2) n xs m) := by
  intro w L' hF hS hl hi'
  have hL' := (hi' i (.inr rfl)).trans hL
  obtain ⟨S0, ⟨⟨⟨ho, hlen, hlx⟩, hob⟩, hcp⟩, _⟩ := hS.at hL'
  simp only [sc] at hcp
  have hset : L'.set i (rowC E sz (.slice p.1 n p.2) n xs m) = L' := by
    refine List.ext_getElem? fun j => ?_
    rw [List.getElem?_set]
    split
    · rename_i h; subst h
      split
      · exact hL'.symm
      · rename_i h; rw [List.getElem?_eq_none (by omega)]
    · rfl
  rcases Nat.eq_zero_or_pos q with hq0 | hq0
  · subst hq0
    have he : (execOp (ev e) ⟨dst, .call ⟨.builtin .clear, #[X], #[t]⟩, ty, pos, af, g⟩).run P w = .ok (.value (.tuple #[])) w := by
      have hr : (Builtin.clear_ #[t] ty #[.slice (cutA p.1 n p.2 sz) 0 c]).run P w = .ok (.tuple #[]) w := by
        cases cutA p.1 n p.2 sz <;> simp [Builtin.clear_, run_underlying ht]
      simp only [execOp, resolve, invoke, builtin, Sem.run_bind, Sem.run_pure, Result.andThen_ok, List.map_toArray, List.map_cons, List.map_nil, hx, hr]
    unfold RunsTo
    rw [he]
    exact ⟨(), rfl, hF, by rw [hset]; exact hS⟩
  · rcases ho.2 with ⟨hv, hm⟩ | ⟨g0, cap, cur, hv, hbg, hg, hnc, hcm, hcs, htake⟩
    · injection hv with e1 e2 e3
      omega
    · have hv' := hv
      injection hv with e1 e2 e3
      have hcut : cutA p.1 n p.2 sz = some ⟨g0, n * sz, none⟩ := by
        unfold cutA
        rw [if_neg (by omega), e1]; simp [Addr.add]; try omega
      rw [hcut] at hx
      have hzl : (Builtin.zeroCells z.cells q).toList.length = q * sz := by unfold Builtin.zeroCells; simp [hzs]
      have hfit : n * sz + 0 + (Builtin.zeroCells z.cells q).toList.length ≤ cur.size := by
        rw [hzl, hcs, Nat.add_zero, ← Nat.add_mul]; exact Nat.mul_le_mul_right _ (by omega)
      have hst := run_storeCells_at (P := P) g0 (n * sz) E (Builtin.zeroCells z.cells q).toList 0 cur w hg hfit (zero_one h1)
      have he : (execOp (ev e) ⟨dst, .call ⟨.builtin .clear, #[X], #[t]⟩, ty, pos, af, g⟩).run P w = .ok (.value (.tuple #[])) (w.setRow g0 (cur.toList.take (n * sz + 0) ++ (Builtin.zeroCells z.cells q).toList ++ cur.toList.drop (n * sz + 0 + (Builtin.zeroCells z.cells q).toList.length)).toArray) := by
        have hr : (Builtin.clear_ #[t] ty #[.slice (some ⟨g0, n * sz, none⟩) q c]).run P w = .ok (.tuple #[]) (w.setRow g0 (cur.toList.take (n * sz + 0) ++ (Builtin.zeroCells z.cells q).toList ++ cur.toList.drop (n * sz + 0 + (Builtin.zeroCells z.cells q).toList.length)).toArray) := by
          obtain ⟨q', rfl⟩ : ∃ q', q = q' + 1 := ⟨q - 1, by omega⟩
          simp only [Builtin.clear_, Sem.run_bind, run_underlying ht, Result.andThen_ok, hz, hst, Sem.run_pure, List.getElem?_toArray, List.getElem?_cons_zero]
        simp only [execOp, resolve, invoke, builtin, Sem.run_bind, Sem.run_pure, Result.andThen_ok, List.map_toArray, List.map_cons, List.map_nil, hx, hr]
      have hown : (w.setRow g0 (cur.toList.take (n * sz + 0) ++ (Builtin.zeroCells z.cells q).toList ++ cur.toList.drop (n * sz + 0 + (Builtin.zeroCells z.cells q).toList.length)).toArray).ownsRow 0 E sz (.slice p.1 n p.2) n xs.flatten := by
        refine ⟨ho.1, .inr ⟨g0, cap, _, hv', hbg, setRow_heap w g0 cur _ E _ hg, hnc, hcm, ?_, ?_⟩⟩
        · have hf2 := hfit
          simp only [List.size_toArray, List.length_append, List.length_take, List.length_drop, Array.length_toList] at hf2 ⊢
          omega
        · rw [Nat.add_zero, htake, List.append_assoc, ← ho.1]
          exact List.take_left
      obtain ⟨hF', hS'⟩ := hS.turnOf hF hL' (C := rowC E sz (.slice p.1 n p.2) n xs m) fun S1 hp => by
        have ht := turn_append (w := w) (v := .slice p.1 n p.2) (v' := .slice p.1 n p.2) (fun b hb => hp.1.2 b hb) hown ⟨rfl, rfl, rfl, by simp, fun k _ hk => setRow_other w g0 k _ (fun e => hk (by rw [e1]; simp [Value.ownBlock, e]))⟩ (.inl rfl) hlen hlx
        obtain ⟨k1, k2, k3, k4, k5, S2, k6, k7⟩ := ht
        exact ⟨k1, k2, k3, k4, k5, S2, ⟨k6, hcp⟩, k7⟩
      unfold RunsTo
      rw [he]
      exact ⟨(), rfl, hF', hS'⟩
end rules
end Go.Lx
