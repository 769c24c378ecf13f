/- Rules: slices of slices in boxes; parts of them, also such as begin further on; literals and appends of slices that a drawn region makes. Conditions: those that each rule names. -/
import Derived.Test.YthhaabhnlndnoaaGreatLx22
import Derived.Test.YthhaabhnlndnoaaGreatLx20
import Derived.ArgAppend
namespace Go.Lx
open Go Go.Vc Go.Md

/-! ### parts -/

def cutL {β : Type} (xs : List β) (l q : Int) : List β := (xs.drop l.toNat).take (q.toNat - l.toNat)

section allc
variable {α : Type} {G : Heap → (Nat → Value) → α → Prop} {h : Heap} {sz : Nat} {css : List (List Value)} {xs ys : List α} {l q : Int}
theorem AllC.cutG (p : AllC G h sz css xs) (g : gCut xs l q = some ys) : gCut css l q = some (cutL css l q) := by
  obtain ⟨g0, g1, g2, _⟩ := gCut_some g
  exact gCut_ok ⟨g0, g1, by rw [p.len]; exact g2⟩
theorem AllC.cut (p : AllC G h sz css xs) (g : gCut xs l q = some ys) : AllC G h sz (cutL css l q) ys := by
  obtain ⟨g0, g1, g2, rfl⟩ := gCut_some g
  refine ⟨by simp [cutL, p.len], fun i cs x h1 h2 => ?_⟩
  unfold cutL at h1
  rw [List.getElem?_take] at h1 h2
  split at h1
  · rename_i hi
    rw [if_pos hi] at h2
    rw [List.getElem?_drop] at h1 h2
    exact p.el _ cs x h1 h2
  · cases h1
theorem AllC.cutN (p : AllC G h sz css xs) (g : gCut xs l q = some ys) : (cutL css l q).length = ys.length := (p.cut g).len
theorem AllC.append {cs2 : List (List Value)} (p : AllC G h sz css xs) (q : AllC G h sz cs2 ys) : AllC G h sz (css ++ cs2) (xs ++ ys) := by
  refine ⟨by simp [p.len, q.len], fun i c x hc hx => ?_⟩
  have hl := p.len
  by_cases hi : i < css.length
  · rw [List.getElem?_append_left hi] at hc
    rw [List.getElem?_append_left (by omega)] at hx
    exact p.el i c x hc hx
  · rw [List.getElem?_append_right (by omega)] at hc
    rw [List.getElem?_append_right (by omega), ← hl] at hx
    exact q.el _ c x hc hx
theorem cutL_map {β γ : Type} (f : β → γ) (zs : List β) (l q : Int) : cutL (zs.map f) l q = (cutL zs l q).map f := by simp [cutL, List.map_drop, List.map_take]
end allc

/-! ### a slice of slices with all that hangs on it -/

section rules
variable {P : Program} {n : Nat} {cx : Cx} {e : Env} {L : List Chunk} {d : Nat} {ty : TypeId} {pos : String} {af : Array Edge} {g : Option (Nat × Bool)}

theorem imp_rowDx {α : Type} {G : Heap → (Nat → Value) → α → Prop} {hp : Heap} {E sz n : Nat} {p : Option Addr × Nat} {css : List (List Value)} {xs : List α} (hn : n = css.length) (f : AllC G hp sz css xs) :
    Imp (bothC (poolC noH hp) (rowV E sz (.slice p.1 n p.2) n (css.map idC))) (rowD E sz G (.slice p.1 xs.length p.2) xs.length xs) := by
  subst hn
  rw [← f.len]
  exact imp_rowD rfl f

theorem frn_rowD0 {α : Type} {G : Heap → (Nat → Value) → α → Prop} [Mon G] {E sz : Nat} {p : Option Addr × Nat} {xs : List α} {S : Nat → Prop} {w : World} (h : (rowD E sz G (.slice p.1 xs.length p.2) xs.length xs).P S w) (H : Heap) (hH : ∀ b o, S b → w.heap[b]? = some o → H b = some o) : FrN H sz (.slice p.1 xs.length p.2) G xs := by
  obtain ⟨hp, css, f, hn, S1, S2, k1, k2, k3, k4, _⟩ := h
  have hr := row_FrS k2.1.1 k2.1.2.1 k2.1.2.2
  refine frn_of (hr.sub (S := S2) k2.2 fun b o hs hb => hH b o (k4 b hs) hb) (f.mono fun b o hb => ?_)
  rcases k1.2 b o hb with h | ⟨h1, h2⟩
  · cases h
  · exact hH b o (k3 b h1) h2

theorem frn_rowD {α : Type} {G : Heap → (Nat → Value) → α → Prop} [Mon G] {w : World} {i E sz : Nat} {p : Option Addr × Nat} {xs : List α} (hS : Sat cx w L) (hL : L[i]? = some (rowD E sz G (.slice p.1 xs.length p.2) xs.length xs)) : FrN (fun b => w.heap[b]?) sz (.slice p.1 xs.length p.2) G xs := by
  obtain ⟨S, hp, _⟩ := hS.at hL
  exact frn_rowD0 hp _ fun _ _ _ h => h
theorem frnb_rowD {α : Type} {G : Heap → (Nat → Value) → α → Prop} [Mon G] {w : World} {S : Nat → Prop} {i j E sz : Nat} {p : Option Addr × Nat} {xs : List α} {L' : List Chunk} (hA : Apart L' i w S) (hji : j ≠ i) (hL : L'[j]? = some (rowD E sz G (.slice p.1 xs.length p.2) xs.length xs)) : FrN (but w S) sz (.slice p.1 xs.length p.2) G xs := by
  obtain ⟨S', h1, h2⟩ := hA j _ hji hL
  exact frn_rowD0 h1 _ fun b o hs hb => but_some hb (h2 b hs)

/-! ### append to the beginning of a slice of slices -/

theorem turns_appPM {cs0 cs' : List (List Value)} {cs1 : List Value} {i k b : Nat} {S X : Operand} {t E T : TypeId} {I : TypeInfo} {z : Value} {sz by_ : Nat} {p : Option Addr × Nat} {m : Nat} {cs : List Value} {q : Int} (hn : m = cs0.length) (hb : gCut cs0 0 q = some cs') (hki : k ≠ i)
    (ht : P.underlying t = some (.slice E)) (hi : P.info? E = some I) (hz : I.zero = some z) (hsize : I.size = sz) (hby : I.bytes = by_) (hzs : z.cells.size = sz) (hsz : Nat.blt 0 sz = true)
    (hL : L[i]? = some (rowV E sz (.slice p.1 m p.2) m (cs0.map idC))) (hs : ev e S = .slice p.1 cs'.length p.2) (hx : ev e X = .slice (some ⟨b, 0, none⟩) 1 1) (hk : L[k]? = some (cellsC b cs T)) (hcs : ([cs1].map idC).flatten = cs)
    (hnl : (([cs1].map idC).all fun x => Nat.beq x.length sz) = true) (h1 : (([cs1].map idC).all fun x => x.all Value.oneCell') = true) (h63 : (cs' ++ [cs1]).length * by_ ≤ 140737488355328) (hb0 : Nat.blt 0 by_ = true) :
    Turns P cx e ⟨some d, .call ⟨.builtin .append, #[S, X], #[t, t]⟩, ty, pos, af, g⟩ L i [k] (fun p' : Option Addr × Nat => .slice p'.1 (cs' ++ [cs1]).length p'.2) (fun p' => rowV E sz (.slice p'.1 (cs' ++ [cs1]).length p'.2) (cs' ++ [cs1]).length ((cs' ++ [cs1]).map idC)) := by
  have hil : i < L.length := by
    rcases Nat.lt_or_ge i L.length with h | h
    · exact h
    · rw [List.getElem?_eq_none h] at hL; cases hL
  refine Turns.pre (C' := rowV E sz (.slice p.1 cs'.length p.2) cs'.length (cs'.map idC)) ⟨fun S w hp => ((imp_shrink hn hb).out S w hp).1⟩ hL (by simpa using fun h => hki h.symm) ?_
  exact turns_appendM (z := z) ht hi hz hsize hby hzs hsz (List.getElem?_set_self hil) rfl rfl hs hx (by rw [List.getElem?_set_ne (fun h => hki h.symm)]; exact hk) hcs rfl hnl h1 h63 hb0

/-! ### a row of one's own that begins further on in its block -/

def offR (w : World) (E sz : Nat) (v : Value) (n : Nat) (xs : List (List Value)) : Prop :=
  ∃ g off cap cur, v = .slice (some ⟨g, off, none⟩) n cap ∧ w.heap[g]? = some (.cells cur E (0, 0)) ∧ n ≤ cap ∧ cap ≤ maxLen ∧ off + cap * sz ≤ cur.size ∧ (cur.toList.drop off).take (n * sz) = xs.flatten

def rowO (E sz : Nat) (v : Value) (n : Nat) (xs : List (List Value)) : Chunk where
  P S w := ((w.ownsRow 0 E sz v n xs.flatten ∨ offR w E sz v n xs) ∧ xs.length = n ∧ ∀ x ∈ xs, x.length = sz) ∧ ∀ b, v.ownBlock = some b → S b
  loc S w w' h := by
    rintro ⟨⟨h2, h3⟩, h4⟩
    refine ⟨⟨?_, h3⟩, h4⟩
    rcases h2 with h2 | ⟨g, off, cap, cur, rfl, hh, hr⟩
    · exact .inl ((rowV E sz v n xs).loc S w w' h ⟨⟨h2, h3⟩, h4⟩).1.1
    · exact .inr ⟨g, off, cap, cur, rfl, (h g (h4 g rfl)).trans hh, hr⟩

theorem imp_rowO (E sz : Nat) (v : Value) (n : Nat) (xs : List (List Value)) : Imp (rowV E sz v n xs) (rowO E sz v n xs) := ⟨fun _ _ ⟨⟨h1, h2⟩, h3⟩ => ⟨⟨.inl h1, h2⟩, h3⟩⟩

theorem offR.frs {w : World} {E sz : Nat} {v : Value} {n : Nat} {xs : List (List Value)} (h : offR w E sz v n xs) (hn : xs.length = n) (hl : ∀ x ∈ xs, x.length = sz) : FrS (fun b => w.heap[b]?) sz v xs := by
  obtain ⟨g, off, cap, cur, rfl, hh, hnc, hm, hcs, ht⟩ := h
  subst hn
  refine ⟨some ⟨g, off, none⟩, cap, rfl, hnc, by simpa [maxLen] using hm, .inr ⟨g, off, cur, E, (0, 0), rfl, hh, fun i x hx => ⟨hl x (List.mem_of_getElem? hx), fun j v hv => ?_⟩⟩⟩
  have hr := row_get xs i x (List.all_eq_true.2 fun x hx => by simpa using hl x hx) hx j v hv
  rw [← ht, List.getElem?_take] at hr
  split at hr
  · rw [List.getElem?_drop, Array.getElem?_toList] at hr
    rw [← hr, Nat.add_assoc]
  · cases hr

theorem rowO_frs0 {w : World} {E sz : Nat} {v : Value} {n : Nat} {xs : List (List Value)} {S : Nat → Prop} (h : (rowO E sz v n xs).P S w) : FrS (fun b => w.heap[b]?) sz v xs := by
  obtain ⟨⟨h1, h2, h3⟩, _⟩ := h
  exact h1.elim (fun h => row_FrS h h2 h3) (fun h => h.frs h2 h3)

theorem frs_off {α : Type} {w : World} {i E sz n : Nat} {p : Option Addr × Nat} {xs : List α} {f : α → List Value} (_ : n = xs.length) (hS : Sat cx w L) (hL : L[i]? = some (rowO E sz (.slice p.1 n p.2) n (xs.map f))) : FrS (fun b => w.heap[b]?) sz (.slice p.1 n p.2) (xs.map f) := by
  obtain ⟨S, h, _⟩ := hS.at hL
  exact rowO_frs0 h
theorem offOf {w : World} {i E sz n c : Nat} {a : Option Addr} {xs : List (List Value)} (hS : Sat cx w L) (hL : L[i]? = some (rowO E sz (.slice a n c) n xs)) : Row w a sz xs := by
  obtain ⟨S, h, _⟩ := hS.at hL
  obtain ⟨a', c', hv, _, _, r⟩ := (rowO_frs0 h).out
  simp only [Value.slice.injEq] at hv
  obtain ⟨rfl, _, rfl⟩ := hv
  exact r.row fun _ _ h => h
theorem capO {w : World} {i E sz n c : Nat} {a : Option Addr} {xs : List (List Value)} (hS : Sat cx w L) (hL : L[i]? = some (rowO E sz (.slice a n c) n xs)) : n ≤ c := by
  obtain ⟨S, h, _⟩ := hS.at hL
  obtain ⟨a', c', hv, h1, _, r⟩ := (rowO_frs0 h).out
  simp only [Value.slice.injEq] at hv
  have := h.1.2.1
  omega

/-- A part of such a row. -/
theorem imp_cutO {E sz m : Nat} {p : Option Addr × Nat} {xs ys : List (List Value)} {l q : Int} (hm : m = xs.length) (g : gCut xs l q = some ys) :
    Imp (rowO E sz (.slice p.1 m p.2) m (xs.map idC)) (rowO E sz (.slice (cutA p.1 l.toNat p.2 sz) ys.length (p.2 - l.toNat)) ys.length (ys.map idC)) := by
  refine ⟨fun S w => ?_⟩
  obtain ⟨g0, g1, g2, rfl⟩ := gCut_some g
  subst hm
  have hid : ∀ zs : List (List Value), zs.map idC = zs := fun zs => List.map_id' zs
  rw [hid, hid]
  rintro ⟨⟨h1, h2, h3⟩, hob⟩
  have hl : ((xs.drop l.toNat).take (q.toNat - l.toNat)).length = q.toNat - l.toNat := by rw [List.length_take, List.length_drop]; omega
  refine ⟨⟨?_, rfl, fun x hx => h3 x (List.mem_of_mem_drop (List.mem_of_mem_take hx))⟩, fun b hb => hob b (by rw [own_cut (y := xs.length)] at hb; rw [← hb]; cases p.1 <;> rfl)⟩
  have hfl : ∀ (zs : List (List Value)) (k : Nat), (∀ x ∈ zs, x.length = sz) → zs.flatten.drop (k * sz) = (zs.drop k).flatten := fun zs k hz => flat_dropN k hz
  have key : ∀ gb off cap (cur : Array Value), Value.slice p.1 xs.length p.2 = .slice (some ⟨gb, off, none⟩) xs.length cap → w.heap[gb]? = some (.cells cur E (0, 0)) → xs.length ≤ cap → cap ≤ maxLen → off + cap * sz ≤ cur.size → (cur.toList.drop off).take (xs.length * sz) = xs.flatten →
      offR w E sz (.slice (cutA p.1 l.toNat p.2 sz) ((xs.drop l.toNat).take (q.toNat - l.toNat)).length (p.2 - l.toNat)) ((xs.drop l.toNat).take (q.toNat - l.toNat)).length ((xs.drop l.toNat).take (q.toNat - l.toNat)) := by
    intro gb off cap cur hv hh hnc hm hcs ht
    simp only [Value.slice.injEq] at hv
    obtain ⟨e1, _, e2⟩ := hv
    rw [e1, e2, hl]
    have hflat : ((xs.drop l.toNat).take (q.toNat - l.toNat)).flatten = (cur.toList.drop (off + l.toNat * sz)).take ((q.toNat - l.toNat) * sz) := by
      rw [← flat_takeN _ (fun x hx => h3 x (List.mem_of_mem_drop hx)), ← hfl xs _ h3, ← ht, List.drop_take, List.take_take, List.drop_drop]
      rw [Nat.min_eq_left]
      rw [← Nat.sub_mul]
      exact Nat.mul_le_mul_right _ (by omega)
    unfold cutA
    by_cases hc : cap = l.toNat
    · rw [if_pos hc]
      refine ⟨gb, off, cap - l.toNat, cur, rfl, hh, by omega, by omega, ?_, ?_⟩
      · have : (cap - l.toNat) * sz ≤ cap * sz := Nat.mul_le_mul_right _ (by omega)
        omega
      · have h0 : q.toNat - l.toNat = 0 := by omega
        rw [h0]; simp
    · rw [if_neg hc]
      refine ⟨gb, off + l.toNat * sz, cap - l.toNat, cur, by simp [Addr.add_lit], hh, by omega, by omega, ?_, hflat.symm⟩
      have : l.toNat * sz + (cap - l.toNat) * sz = cap * sz := by rw [← Nat.add_mul]; congr 1; omega
      omega
  rcases h1 with ⟨_, ⟨hv, h0⟩ | ⟨gb, cap, cur, hv, _, hh, hnc, hm, hcs, ht⟩⟩ | ⟨gb, off, cap, cur, hv, hh, hnc, hm, hcs, ht⟩
  · have hx : xs = [] := List.eq_nil_of_length_eq_zero h0
    subst hx
    have hq0 : l.toNat = 0 := by simp at g2; omega
    simp only [Value.slice.injEq] at hv
    refine .inl ⟨by simp, .inl ⟨?_, by simp⟩⟩
    rw [hv.1, hv.2.2]
    simp [cutA]
  · exact .inr (key gb 0 cap cur hv hh hnc hm (by omega) (by simpa using ht))
  · exact .inr (key gb off cap cur hv hh hnc hm hcs ht)

theorem own0 {w : World} {base E sz n : Nat} {v : Value} {xs : List Value} (h : w.ownsRow base E sz v n xs) : w.ownsRow 0 E sz v n xs :=
  ⟨h.1, h.2.imp id fun ⟨g, cap, cur, h1, _, h3⟩ => ⟨g, cap, cur, h1, Nat.zero_le _, h3⟩⟩

/-- append onto such a row: the elements lie anywhere in memory. -/
theorem turns_appendO {i : Nat} {S X : Operand} {t E : TypeId} {I : TypeInfo} {z : Value} {sz by_ : Nat} {p : Option Addr × Nat} {m : Nat} {xs : List (List Value)} {ad : Addr} {q c : Nat} {news : List (List Value)} {rds : List Nat}
    (ht : P.underlying t = some (.slice E)) (hi : P.info? E = some I) (hz : I.zero = some z) (hsize : I.size = sz) (hby : I.bytes = by_) (hzs : z.cells.size = sz) (hsz : Nat.blt 0 sz = true)
    (hL : L[i]? = some (rowO E sz (.slice p.1 m p.2) m xs)) (hs : ev e S = .slice p.1 m p.2) (hx : ev e X = .slice (some ad) q c) (hq : news.length = q) (hnl : ∀ x ∈ news, x.length = sz)
    (hnews : ∀ w L', Fr cx w → Sat cx w L' → (∀ j, j ∈ rds → L'[j]? = L[j]?) → Row w (some ad) sz news) (h1 : ∀ x ∈ news, ∀ u ∈ x, u.oneCell' = true)
    (h63 : m + q ≤ maxLen) (hbytes : (m + q) * by_ ≤ 140737488355328) :
    Turns P cx e ⟨some d, .call ⟨.builtin .append, #[S, X], #[t, t]⟩, ty, pos, af, g⟩ L i rds (fun p' : Option Addr × Nat => .slice p'.1 (m + q) p'.2) (fun p' => rowO E sz (.slice p'.1 (m + q) p'.2) (m + q) (xs ++ news)) := fun w L' hF hS hl hi' => by
  subst hsize
  have hL' := (hi' i (.inr rfl)).trans hL
  obtain ⟨S0, ⟨⟨ho, hlen, hlx⟩, hob⟩, hS0⟩ := hS.at hL'
  have hsz' : 0 < I.size := by simpa using hsz
  have hfl : news.flatten.length = q * I.size := by rw [flat_len news hnl, hq]
  have hle : (xs ++ news).length = m + q := by simp [hlen, hq]
  have hcell : ∀ j u, news.flatten[j]? = some u → w.cell? (ad.add j) = some u := by
    intro j u hj
    obtain ⟨i', k', x, g1, g2, g3⟩ := flat_get news hnl j u hj
    rcases hnews w L' hF hS (fun j hj => hi' j (.inl hj)) with h | ⟨b, off, ha, h⟩
    · subst h; simp at g1
    · cases ha
      have := (h i' x g1).2 k' u g2
      rw [Addr.add_lit, g3, ← Nat.add_assoc]
      exact this
  have hone : ∀ u ∈ news.flatten, u.oneCell' = true := fun u hu => by
    obtain ⟨x, hx, hux⟩ := List.mem_flatten.1 hu
    exact h1 x hx u hux
  have hall : ∀ x ∈ xs ++ news, x.length = I.size := fun x hx => by
    rcases List.mem_append.1 hx with h | h
    · exact hlx x h
    · exact hnl x h
  have hflat : (xs ++ news).flatten = xs.flatten ++ news.flatten := List.flatten_append
  rcases ho with ho | ⟨g0, off, cap, cur, hv, hh, hnc, hcm, hfit, htk⟩
  · obtain ⟨v', w', hr, h2, h3, h5⟩ := run_append_at (P := P) (ty := ty) (pos := pos) (af := af) (g := g) (d := some d) ht hi hz rfl hby hzs hsz' hs ho hx hfl hcell hone h63 hbytes
    obtain ⟨p', rfl⟩ := slice_of_row h2
    rw [← hflat] at h2
    obtain ⟨hF', hS'⟩ := hS.turnOf hF hL' (C := rowO E I.size (.slice p'.1 (m + q) p'.2) (m + q) (xs ++ news)) fun S1 hp => by
      have t1 := turn_append (xs' := xs ++ news) hp.2 h2 h3 h5 hle hall
      obtain ⟨S2, k1, k2⟩ := t1.out
      exact ⟨t1.os, t1.tape, t1.output, t1.size, t1.block, S2, (imp_rowO _ _ _ _ _).out _ _ k1, k2⟩
    unfold RunsTo
    rw [hr]
    exact ⟨p', rfl, hF', hS'⟩
  · simp only [Value.slice.injEq] at hv
    obtain ⟨e1, _, e2⟩ := hv
    have hs' : ev e S = .slice (some ⟨g0, off, none⟩) m cap := by rw [hs, e1, e2]
    have hexec : ∀ v w', (Builtin.append_ #[t, t] ty #[.slice (some ⟨g0, off, none⟩) m cap, .slice (some ad) q c]).run P w = .ok v w' → (execOp (ev e) ⟨some d, .call ⟨.builtin .append, #[S, X], #[t, t]⟩, ty, pos, af, g⟩).run P w = .ok (.value v) w' := by
      intro v w' hr
      simp only [execOp, resolve, invoke, builtin, Sem.run_bind, Sem.run_pure, Result.andThen_ok, List.map_toArray, List.map_cons, List.map_nil, hs', hx, hr]
    have hcur : cur.toList.length = cur.size := Array.length_toList
    by_cases hroom : m + q ≤ cap
    · have hfit' : off + m * I.size + news.flatten.length ≤ cur.size := by
        have : (m + q) * I.size ≤ cap * I.size := Nat.mul_le_mul_right _ hroom
        rw [Nat.add_mul] at this; omega
      have hfc := run_firstCells_some (P := P) w I.size q ad q c news.flatten hfl hcell
      have hst := run_storeCells_at (P := P) g0 (off + m * I.size) E news.flatten 0 cur w hh (by simpa using hfit') hone
      simp only [Nat.add_zero] at hst
      have hr2 : (Builtin.append_ #[t, t] ty #[.slice (some ⟨g0, off, none⟩) m cap, .slice (some ad) q c]).run P w = .ok (.slice (some ⟨g0, off, none⟩) (m + q) cap) (w.setRow g0 (cur.toList.take (off + m * I.size) ++ news.flatten ++ cur.toList.drop (off + m * I.size + news.flatten.length)).toArray) := by
        simp [Builtin.append_, run_underlying ht, sizeOf, typeInfo, hi, Builtin.lenOf, hroom, hfc, Addr.add_lit, hst]
      have hr := hexec _ _ hr2
      have hlen2 : (cur.toList.take (off + m * I.size) ++ news.flatten ++ cur.toList.drop (off + m * I.size + news.flatten.length)).length = cur.size := by
        simp only [List.length_append, List.length_take, List.length_drop, hcur]; omega
      obtain ⟨hF', hS'⟩ := hS.turnOf hF hL' (C := rowO E I.size (.slice (some ⟨g0, off, none⟩) (m + q) cap) (m + q) (xs ++ news)) (w' := w.setRow g0 (cur.toList.take (off + m * I.size) ++ news.flatten ++ cur.toList.drop (off + m * I.size + news.flatten.length)).toArray) fun S1 hp => by
        have hg1 : S1 g0 := hp.2 g0 (by rw [e1]; rfl)
        refine ⟨rfl, rfl, rfl, by simp [World.setRow], fun b' hb' hn => ?_, (fun x => x = g0), ⟨⟨.inr ⟨g0, off, cap, _, rfl, setRow_heap w g0 cur _ E _ hh, hroom, hcm, by rw [List.size_toArray, hlen2]; exact hfit, ?_⟩, hle, hall⟩, fun b' hb' => by cases hb'; rfl⟩, fun b' hb' => ⟨?_, .inl (by rw [hb']; exact hg1)⟩⟩
        · exact setRow_other w g0 b' _ fun h => hn (by rw [h]; exact hg1)
        · rw [hflat]
          have hd : (cur.toList.take (off + m * I.size) ++ news.flatten ++ cur.toList.drop (off + m * I.size + news.flatten.length)).drop off = ((cur.toList.drop off).take (m * I.size) ++ news.flatten) ++ cur.toList.drop (off + m * I.size + news.flatten.length) := by
            rw [List.append_assoc, List.drop_append_of_le_length (by rw [List.length_take, hcur]; omega), List.drop_take, Nat.add_sub_cancel_left, List.append_assoc]
          have hl2 : ((cur.toList.drop off).take (m * I.size) ++ news.flatten).length = (m + q) * I.size := by
            rw [List.length_append, List.length_take, List.length_drop, hcur, Nat.add_mul, Nat.min_eq_left (by omega)]; omega
          show ((cur.toList.take (off + m * I.size) ++ news.flatten ++ cur.toList.drop (off + m * I.size + news.flatten.length)).toArray.toList.drop off).take _ = _
          rw [List.toList_toArray, hd, ← hl2, List.take_left, htk]
        · rw [hb', setRow_size]; exact (Array.getElem?_eq_some_iff.1 hh).1
      unfold RunsTo
      rw [hr]
      exact ⟨(some ⟨g0, off, none⟩, cap), rfl, hF', hS'⟩
    · have hgr := run_append_arg_grows (P := P) w t ty E I z I.size by_ ht hi hz rfl hby hzs hsz' ⟨g0, off, none⟩ m cap xs.flatten (by rw [flat_len xs hlx, hlen]) (fun j u hj => ?_) ad q c news.flatten hfl hcell (by omega) h63 hbytes
      · obtain ⟨v', w', hr, h2, h3⟩ := hgr
        have hr := hexec _ _ hr
        obtain ⟨p', rfl⟩ := slice_of_row (own0 h2)
        rw [← hflat] at h2
        obtain ⟨hF', hS'⟩ := hS.turnOf hF hL' (C := rowO E I.size (.slice p'.1 (m + q) p'.2) (m + q) (xs ++ news)) fun S1 hp => by
          refine ⟨h3.os, h3.tape, h3.output, h3.size, fun b' hb' _ => h3.block b' hb' (by simp), fun b' => (Value.slice p'.1 (m + q) p'.2).ownBlock = some b', ⟨⟨.inl (own0 h2), hle, hall⟩, fun _ h => h⟩, fun b' hb' => ⟨(h2.lt b' hb').2, .inr (h2.lt b' hb').1⟩⟩
        unfold RunsTo
        rw [hr]
        exact ⟨p', rfl, hF', hS'⟩
      · obtain ⟨i', k', x, g1, g2, g3⟩ := flat_get xs hlx j u hj
        have hr := (offR.frs ⟨g0, off, cap, cur, rfl, hh, hnc, hcm, hfit, htk⟩ hlen hlx).out
        obtain ⟨a', c', hv', _, _, r⟩ := hr
        simp only [Value.slice.injEq] at hv'
        obtain ⟨rfl, _, rfl⟩ := hv'
        rcases r.row (w := w) (fun _ _ h => h) with h | ⟨b', off', ha, h⟩
        · subst h; simp at g1
        · cases ha
          have := (h i' x g1).2 k' u g2
          rw [Addr.add_lit, g3, ← Nat.add_assoc]
          exact this

/-- append of one element, which a literal has just laid down. -/
theorem turns_appO {css : List (List Value)} {cs1 : List Value} {i k b : Nat} {S X : Operand} {t E T : TypeId} {I : TypeInfo} {z : Value} {sz by_ : Nat} {p : Option Addr × Nat} {m : Nat} {cs : List Value}
    (ht : P.underlying t = some (.slice E)) (hi : P.info? E = some I) (hz : I.zero = some z) (hsize : I.size = sz) (hby : I.bytes = by_) (hzs : z.cells.size = sz) (hsz : Nat.blt 0 sz = true)
    (hL : L[i]? = some (rowO E sz (.slice p.1 m p.2) m (css.map idC))) (hm : m = css.length) (hs : ev e S = .slice p.1 m p.2) (hx : ev e X = .slice (some ⟨b, 0, none⟩) 1 1) (hk : L[k]? = some (cellsC b cs T)) (hcs : ([cs1].map idC).flatten = cs)
    (hnl : (([cs1].map idC).all fun x => Nat.beq x.length sz) = true) (h1 : (([cs1].map idC).all fun x => x.all Value.oneCell') = true) (h63 : (css ++ [cs1]).length * by_ ≤ 140737488355328) (hb0 : Nat.blt 0 by_ = true) :
    Turns P cx e ⟨some d, .call ⟨.builtin .append, #[S, X], #[t, t]⟩, ty, pos, af, g⟩ L i [k] (fun p' : Option Addr × Nat => .slice p'.1 (css ++ [cs1]).length p'.2) (fun p' => rowO E sz (.slice p'.1 (css ++ [cs1]).length p'.2) (css ++ [cs1]).length ((css ++ [cs1]).map idC)) := by
  have hle : (css ++ [cs1]).length = css.length + 1 := by simp
  have h63' : css.length + 1 ≤ maxLen := by
    have hb : 1 ≤ by_ := by have : 0 < by_ := by simpa using hb0
                            omega
    have h2 : (css ++ [cs1]).length * 1 ≤ (css ++ [cs1]).length * by_ := Nat.mul_le_mul_left _ hb
    simp only [maxLen]; omega
  rw [hle, List.map_append]
  subst hm
  exact turns_appendO (news := [cs1].map idC) ht hi hz hsize hby hzs hsz hL hs hx rfl (fun x hx => by simpa using List.all_eq_true.1 hnl x hx) (fun w L' hF hS hj => row_box hS ((hj k (by simp)).trans hk) hcs hnl)
    (fun x hx u hu => List.all_eq_true.1 (List.all_eq_true.1 h1 x hx) u hu) h63' (by rw [hle] at h63; exact h63)

/-- append onto such a row, told by a list. -/
theorem turns_appF {α : Type} {f : α → List Value} {ys ls zs : List α} {i : Nat} {S X : Operand} {t E : TypeId} {I : TypeInfo} {z : Value} {sz by_ : Nat} {p : Option Addr × Nat} {rds : List Nat} {V : Value} {a : Addr} {c m q : Nat} (hn : m = ys.length)
    (ht : P.underlying t = some (.slice E)) (hi : P.info? E = some I) (hz : I.zero = some z) (hsize : I.size = sz) (hby : I.bytes = by_) (hzs : z.cells.size = sz) (hsz : Nat.blt 0 sz = true)
    (hL : L[i]? = some (rowO E sz (.slice p.1 m p.2) m (ys.map f))) (hs : ev e S = .slice p.1 m p.2) (hx : ev e X = V) (hV : V = .slice (some a) q c) (hq : q = ls.length)
    (hnews : ∀ w L', Fr cx w → Sat cx w L' → (∀ j, j ∈ rds → L'[j]? = L[j]?) → Row w (some a) sz (ls.map f)) (hf : ∀ x, (f x).length = sz) (h1 : ∀ x, (f x).all Value.oneCell' = true) (hg : gApp by_ ys ls = some zs) :
    Turns P cx e ⟨some d, .call ⟨.builtin .append, #[S, X], #[t, t]⟩, ty, pos, af, g⟩ L i rds (fun p' : Option Addr × Nat => .slice p'.1 zs.length p'.2) (fun p' => rowO E sz (.slice p'.1 zs.length p'.2) zs.length (zs.map f)) := by
  subst hn hq
  obtain ⟨rfl, hb1, hb2⟩ := gApp_some hg
  rw [List.length_append, List.map_append]
  exact turns_appendO ht hi hz hsize hby hzs hsz hL hs (hx.trans hV) (by rw [List.length_map]) (fun x hx => by
    obtain ⟨y, _, rfl⟩ := List.mem_map.1 hx; exact hf y) hnews (fun x hx u hu => by
    obtain ⟨y, _, rfl⟩ := List.mem_map.1 hx; exact List.all_eq_true.1 (h1 y) u hu) (by simp only [maxLen]; omega) hb2

/-- A slice of one's own, its spare room cut off. -/
theorem imp_clipR (E sz : Nat) (a : Option Addr) (n c : Nat) (xs : List (List Value)) : Imp (rowV E sz (.slice a n c) n xs) (rowO E sz (.slice (cutA a 0 n sz) n n) n xs) := ⟨fun S w h => by
  obtain ⟨⟨h1, h2, h3⟩, hob⟩ := h
  rw [cutA_zero]
  refine ⟨⟨?_, h2, h3⟩, fun b hb => hob b (by rw [← hb]; cases a <;> rfl)⟩
  rcases h1.2 with ⟨hv, h0⟩ | ⟨g, cap, cur, hv, _, hh, hnc, hm, hcs, ht⟩
  · simp only [Value.slice.injEq] at hv
    obtain ⟨rfl, rfl, rfl⟩ := hv
    exact .inl h1
  · simp only [Value.slice.injEq] at hv
    obtain ⟨rfl, _, rfl⟩ := hv
    refine .inr ⟨g, 0, n, cur, rfl, hh, Nat.le_refl _, by omega, ?_, by simpa using ht⟩
    have := Nat.mul_le_mul_right sz hnc
    omega⟩

theorem frb_off {α : Type} {w : World} {S : Nat → Prop} {i j E sz n : Nat} {p : Option Addr × Nat} {xs : List α} {f : α → List Value} {L' : List Chunk} (_ : n = xs.length) (hA : Apart L' i w S) (_ : Sat cx w L') (hji : j ≠ i) (hL : L'[j]? = some (rowO E sz (.slice p.1 n p.2) n (xs.map f))) : FrS (but w S) sz (.slice p.1 n p.2) (xs.map f) := by
  obtain ⟨S', h1, h2⟩ := hA j _ hji hL
  exact (rowO_frs0 h1).but fun b hb => h2 b (h1.2 b hb)
end rules

/-! ### elements that are slices: by their headers -/

abbrev SlH := Option Addr × Nat × Nat
abbrev e_slh (x : SlH) : List Value := [.slice x.1 x.2.1 x.2.2]

theorem slh_of {α : Type} {G : Heap → (Nat → Value) → α → Prop} {h : Heap} (hG : ∀ c x, G h c x → ∃ a n k, c 0 = .slice a n k) : ∀ {css : List (List Value)} {xs : List α}, AllC G h 1 css xs → ∃ hs : List SlH, css = hs.map e_slh
  | [], _, _ => ⟨[], rfl⟩
  | cs :: css, [], p => by have := p.len; simp at this
  | cs :: css, x :: xs, p => by
    obtain ⟨h1, h2⟩ := p.el 0 cs x rfl rfl
    obtain ⟨a, n, k, hc⟩ := hG _ _ h2
    obtain ⟨hs, hh⟩ := slh_of hG (css := css) (xs := xs) ⟨by have := p.len; simpa using this, fun i c y hc hy => p.el (i + 1) c y hc hy⟩
    refine ⟨(a, n, k) :: hs, ?_⟩
    obtain ⟨v, rfl⟩ : ∃ v, cs = [v] := by
      match cs, h1 with
      | [v], _ => exact ⟨v, rfl⟩
    have hc' : v = .slice a n k := hc
    rw [hh, hc']; rfl

theorem imp_slh {E n : Nat} {v : Value} {css : List (List Value)} {hs : List SlH} (hh : css = hs.map e_slh) : Imp (rowV E 1 v n (css.map idC)) (rowV E 1 v n (hs.map e_slh)) := by
  subst hh
  rw [show (hs.map e_slh).map idC = hs.map e_slh from List.map_id' _]
  exact Imp.refl _
theorem imp_slhB {E n : Nat} {v : Value} {hs : List SlH} : Imp (rowV E 1 v n (hs.map e_slh)) (rowV E 1 v n ((hs.map e_slh).map idC)) := by
  rw [show (hs.map e_slh).map idC = hs.map e_slh from List.map_id' _]
  exact Imp.refl _
theorem FrS.slh {h : Heap} {v : Value} {css : List (List Value)} {hs : List SlH} (hh : css = hs.map e_slh) (f : FrS h 1 v (css.map idC)) : FrS h 1 v (hs.map e_slh) := by
  subst hh
  rwa [show (hs.map e_slh).map idC = hs.map e_slh from List.map_id' _] at f
theorem slh_len {css : List (List Value)} {hs : List SlH} (hh : css = hs.map e_slh) : css.length = hs.length := by rw [hh, List.length_map]

/-! ### in drawn regions: a literal of one slice, and what is appended, that the region itself makes -/

def _root_.Go.Vc.Kd.nsv (q i m : Nat) (cs : Value → List Value) (T : TypeId) : Kd := .g [q] [] [i] (fun _ _ v => ∃ b, v = .slice (some ⟨b, 0, none⟩) m m) (fun vs _ v => [boxOf v (cs (vs.headD undef)) T])
noncomputable def os0 : Os := by constructor <;> exact default
theorem lit_inj {b b' : Nat} {u u' : Value} {T : TypeId} (h : cellsC b [u] T = cellsC b' [u'] T) : u = u' := by
  have h1 : (cellsC b [u] T).P (fun x => x = b) { heap := (Array.replicate b (.cells #[] 0 (0, 0))).push (.cells #[u] T (0, 0)), tape := fun _ _ => 0, drawn := 0, os := os0, output := #[] } := ⟨fun _ => Iff.rfl, by show ((Array.replicate b (Obj.cells #[] 0 (0, 0))).push (Obj.cells #[u] T (0, 0)))[b]? = _; rw [Array.getElem?_push]; simp⟩
  rw [h] at h1
  obtain ⟨h2, h3⟩ := h1
  have e : b' = b := (h2 b').2 rfl
  subst e
  have h4 : ((Array.replicate b' (Obj.cells #[] 0 (0, 0))).push (Obj.cells #[u] T (0, 0)))[b']? = some (.cells [u'].toArray T (0, 0)) := h3
  rw [Array.getElem?_push] at h4
  simpa using h4
open Classical in
noncomputable def litOf (T : TypeId) (c : Option Chunk) : Value := if h : ∃ p : Nat × Value, c = some (cellsC p.1 [p.2] T) then h.choose.2 else undef
theorem litOf_eq {b : Nat} {u : Value} {T : TypeId} : litOf T (some (cellsC b [u] T)) = u := by
  have h : ∃ p : Nat × Value, some (cellsC b [u] T) = some (cellsC p.1 [p.2] T) := ⟨(b, u), rfl⟩
  unfold litOf
  rw [dif_pos h]
  exact (lit_inj (Option.some.inj h.choose_spec)).symm
noncomputable def _root_.Go.Vc.Kd.tv (T i : Nat) (rds : List Nat) {σ : Type} (G : Value → σ → Value) (Cv : Value → Value → Chunk) : Kd := .g [] rds [i] (fun _ ls v => ∃ x, v = G (litOf T (ls.headD none)) x) (fun _ ls v => [Cv (litOf T (ls.headD none)) v])

section rules
variable {P : Program} {cx : Cx} {ops : Array Oper} {F : Env → List Chunk → Prop} {rest : List Oper} {ss : List Kd} {e : Env} {L : List Chunk} {d : Nat}
theorem d_newSV {o : Oper} {i q m : Nat} {T : TypeId} {x : Value} {cs : Value → List Value} {cs0 : List Value} (hw : want ops o e = true) (hd : o.dst = some d) (hx : e q = x) (hcs : cs x = cs0)
    (hr : ∀ w, (execOp (ev e) o).run P w = .ok (.value (.slice (some ⟨w.heap.size, 0, none⟩) m m)) (w.alloc (.cells cs0.toArray T))) (hL : L[i]? = some empC)
    (k : ∀ b, Sq P cx ops F rest ss (upd e d (.slice (some ⟨b, 0, none⟩) m m)) (L.set i (cellsC b cs0 T))) : Sq P cx ops F (o :: rest) (.nsv q i m cs T :: ss) e L := by
  have hh : cs (([q].map e).headD undef) = cs0 := by show cs (e q) = cs0; rw [hx, hcs]
  refine .take hw ⟨.slice (some ⟨0, 0, none⟩) m m, 0, rfl⟩ ⟨fun w L' hF hS _ hi => ?_⟩ fun v' hv' => ?_
  · unfold RunsTo
    rw [hr]
    refine ⟨⟨_, rfl⟩, hF.grow (grow_alloc w _), ?_⟩
    show Sat cx _ (L'.set i (boxOf _ (cs (([q].map e).headD undef)) T))
    rw [hh]
    refine hS.set hF ((hi i (.inr (by simp [Kd.nsv, Kd.wrs]))).trans hL) (by simp) fun S _ hSo => ⟨fun x => x = w.heap.size, ⟨fun _ => Iff.rfl, heap_alloc_new w _⟩, fun b hb => ?_, fun b hb _ => heap_alloc_old w _ b hb⟩
    subst hb
    exact ⟨by simp, .inr (Nat.le_refl _)⟩
  · obtain ⟨b, rfl⟩ : ∃ b, v' = .slice (some ⟨b, 0, none⟩) m m := hv'
    rw [hd]
    show Sq P cx ops F rest ss _ (L.set i (boxOf _ (cs (([q].map e).headD undef)) T))
    rw [hh]
    exact k b

theorem d_turnV {σ : Type} {o : Oper} {d i k b T : Nat} {rds : List Nat} {u : Value} {G : Value → σ → Value} {C : σ → Chunk} {Cv : Value → Value → Chunk} (x0 : σ) (hk : L[k]? = some (cellsC b [u] T)) (h : Turns P cx e o L i (k :: rds) (G u) C) (hC : ∀ x, Cv u (G u x) = C x) (hw : want ops o e = true) (hd : o.dst = some d)
    (k' : ∀ x, Sq P cx ops F rest ss (upd e d (G u x)) (L.set i (C x))) : Sq P cx ops F (o :: rest) (.tv T i (k :: rds) G Cv :: ss) e L := by
  have hu : litOf T (((k :: rds).map (Go.Vc.look L)).headD none) = u := by
    show litOf T L[k]? = u
    rw [hk, litOf_eq]
  refine .take hw ⟨G u x0, x0, by rw [hu]⟩ ⟨fun w L' hF hS hl hi => ?_⟩ fun v' hv' => ?_
  · refine (h w L' hF hS hl fun j hj => hi j (by simpa [Kd.tv, Kd.rds, Kd.wrs] using hj)).mono fun v w' ⟨x, hv, hF', hS'⟩ => ?_
    subst hv
    refine ⟨⟨x, by rw [hu]⟩, hF', ?_⟩
    show Sat cx w' (L'.set i (Cv (litOf T (((k :: rds).map (Go.Vc.look L)).headD none)) (G u x)))
    rw [hu, hC]; exact hS'
  · obtain ⟨x, rfl⟩ : ∃ x, v' = G u x := by
      obtain ⟨x, hx⟩ : ∃ x, v' = G (litOf T (((k :: rds).map (Go.Vc.look L)).headD none)) x := hv'
      exact ⟨x, by rw [hx, hu]⟩
    show Sq P cx ops F rest ss (putD e o.dst (G u x)) (L.set i (Cv (litOf T (((k :: rds).map (Go.Vc.look L)).headD none)) (G u x)))
    rw [hu, hC, hd]
    exact k' x
end rules
end Go.Lx
