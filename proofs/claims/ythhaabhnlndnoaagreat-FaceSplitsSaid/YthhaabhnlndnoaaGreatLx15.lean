/- Rules: slices of one's own whose elements hold slices: rows of raw cells, facts on what they stand for, and a pool of memory that nobody turns any more. Conditions: none. -/
import Derived.Test.YthhaabhnlndnoaaGreatLx14
namespace Go.Lx
open Go Go.Vc Go.Md

def idC (l : List Value) : List Value := l
def noH : Heap := fun _ => none

/-- What the cells of elements stand for. -/
structure AllC {α : Type} (G : Heap → (Nat → Value) → α → Prop) (h : Heap) (sz : Nat) (css : List (List Value)) (xs : List α) : Prop where
  len : css.length = xs.length
  el : ∀ (i : Nat) (cs : List Value) (x : α), css[i]? = some cs → xs[i]? = some x → cs.length = sz ∧ G h (fun j => cs.getD j undef) x

section allc
variable {α : Type} {G : Heap → (Nat → Value) → α → Prop} {h h' : Heap} {sz : Nat} {css : List (List Value)} {xs ys : List α}
theorem AllC.nil : AllC G h sz [] ([] : List α) := ⟨rfl, by simp⟩
theorem AllC.snoc (p : AllC G h sz css xs) {cs : List Value} {x : α} (hl : cs.length = sz) (hG : G h (fun j => cs.getD j undef) x) : AllC G h sz (css ++ [cs]) (xs ++ [x]) := by
  refine ⟨by simp [p.len], fun i c y hc hy => ?_⟩
  rcases Nat.lt_or_ge i css.length with hi | hi
  · rw [List.getElem?_append_left hi] at hc
    rw [List.getElem?_append_left (by rw [← p.len]; exact hi)] at hy
    exact p.el i c y hc hy
  · rw [List.getElem?_append_right hi] at hc
    rw [List.getElem?_append_right (by rw [← p.len]; exact hi), ← p.len] at hy
    have h0 : i - css.length = 0 := by
      rcases Nat.eq_zero_or_pos (i - css.length) with h | h
      · exact h
      · obtain ⟨q, hq⟩ : ∃ q, i - css.length = q + 1 := ⟨i - css.length - 1, by omega⟩
        rw [hq] at hc; simp at hc
    rw [h0] at hc hy
    simp at hc hy
    subst hc hy
    exact ⟨hl, hG⟩
theorem AllC.mono [M : Mon G] (p : AllC G h sz css xs) (k : ∀ b o, h b = some o → h' b = some o) : AllC G h' sz css xs :=
  ⟨p.len, fun i c x hc hx => ⟨(p.el i c x hc hx).1, M.mono k _ _ (p.el i c x hc hx).2⟩⟩
theorem AllC.get (p : AllC G h sz css xs) {i : Int} {x : α} (g : gAt xs i = some x) : css[i.toNat]? = some (css.getD i.toNat []) := by
  obtain ⟨h0, h1, _⟩ := gAt_some g
  rw [List.getD_eq_getElem?_getD, List.getElem?_eq_getElem (by rw [p.len]; exact h1)]; rfl
theorem AllC.ix (p : AllC G h sz css xs) {i : Int} {x : α} (g : gAt xs i = some x) : gAt css i = some (css.getD i.toNat []) := by
  unfold gAt; rw [if_pos (gAt_some g).1]; exact p.get g
theorem AllC.at (p : AllC G h sz css xs) {i : Int} {x : α} (g : gAt xs i = some x) : G h (fun j => (css.getD i.toNat []).getD j undef) x := (p.el _ _ _ (p.get g) (gAt_some g).2.2).2
theorem AllC.eta (p : AllC G h sz css xs) {i : Int} {x : α} (g : gAt xs i = some x) : idC (css.getD i.toNat []) = (List.range sz).map fun j => (css.getD i.toNat []).getD j undef := by
  have hl := (p.el _ _ _ (p.get g) (gAt_some g).2.2).1
  unfold idC
  generalize css.getD i.toNat [] = l at hl
  subst hl
  apply List.ext_getElem
  · simp
  · intro j h1 h2
    simp [List.getD_eq_getElem?_getD, List.getElem?_eq_getElem h1]
theorem AllC.app (p : AllC G h sz css xs) {by_ : Nat} {news zs : List α} {nc : List (List Value)} (g : gApp by_ xs news = some zs) (hn : nc.length = news.length) : gApp by_ css nc = some (css ++ nc) := by
  obtain ⟨_, h1, h2⟩ := gApp_some g
  exact gApp_ok (by rw [p.len, hn]; exact ⟨h1, h2⟩)
theorem AllC.snocG (p : AllC G h sz css xs) {by_ : Nat} {x : α} {zs : List α} {cs : List Value} (g : gApp by_ xs [x] = some zs) (hl : cs.length = sz) (hG : G h (fun j => cs.getD j undef) x) : AllC G h sz (css ++ [cs]) zs := by
  obtain ⟨rfl, _⟩ := gApp_some g
  exact p.snoc hl hG
end allc

/-- Memory that was frozen: beyond a base, blocks of the call's own that nobody turns any more. -/
def poolC (base hp : Heap) : Chunk where
  P S w := (∀ b o, base b = some o → hp b = some o) ∧ ∀ b o, hp b = some o → base b = some o ∨ (S b ∧ w.heap[b]? = some o)
  loc S w w' h := fun ⟨h1, h2⟩ => ⟨h1, fun b o hb => (h2 b o hb).imp id fun ⟨hs, hw⟩ => ⟨hs, (h b hs).trans hw⟩⟩

section rules
variable {cx : Cx} {K : Env → World → Prop} {e : Env} {L : List Chunk} {base hp : Heap}

theorem c_poolNew (base : Heap) (k : At cx K e (L ++ [poolC base base])) : At cx K e L :=
  ⟨fun w hF hS => k.out w hF (hS.snoc hF (Grow.refl w) (S := noS) ⟨fun _ _ h => h, fun _ _ h => .inl h⟩ (fun _ h => h.elim))⟩

theorem c_poolLe (i : Nat) (hi : L[i]? = some (poolC base hp)) (k : (∀ b o, base b = some o → hp b = some o) → At cx K e L) : At cx K e L :=
  ⟨fun w hF hS => by
    obtain ⟨S, hp, _⟩ := hS.at hi
    exact (k hp.1).out w hF hS⟩

theorem pool_now {w : World} {i : Nat} (hS : Sat cx w L) (hi : L[i]? = some (poolC base hp)) (hb : ∀ b o, base b = some o → w.heap[b]? = some o) : ∀ b o, hp b = some o → w.heap[b]? = some o := fun b o h => by
  obtain ⟨S, hP, _⟩ := hS.at hi
  rcases hP.2 b o h with h | h
  · exact hb b o h
  · exact h.2
theorem noH_le {h : Heap} : ∀ b o, noH b = some o → h b = some o := fun _ _ h => by cases h

theorem pool_but {w : World} {S : Nat → Prop} {L' : List Chunk} {i j : Nat} (hA : Apart L' i w S) (hji : j ≠ i) (hL : L'[j]? = some (poolC base hp)) (hb : ∀ b o, base b = some o → but w S b = some o) : ∀ b o, hp b = some o → but w S b = some o := fun b o h => by
  obtain ⟨S', h1, h2⟩ := hA j _ hji hL
  rcases h1.2 b o h with h | h
  · exact hb b o h
  · exact but_some h.2 (h2 b h.1)

open Classical in
/-- A chunk goes into the pool: what holds of it holds over the pool from now on. -/
theorem c_freeze {C : Chunk} {Φ : Heap → Prop} (i j : Nat) (hi : L[i]? = some (poolC base hp)) (hj : L[j]? = some C) (hne : i ≠ j) (hb : ∀ w, Fr cx w → ∀ b o, base b = some o → w.heap[b]? = some o)
    (hC : ∀ S w (H : Heap), C.P S w → (∀ b o, S b → w.heap[b]? = some o → H b = some o) → (∀ b o, hp b = some o → H b = some o) → Φ H)
    (k : ∀ hp', (∀ b o, hp b = some o → hp' b = some o) → Φ hp' → At cx K e ((L.set i (poolC base hp')).set j empC)) : At cx K e L :=
  ⟨fun w hF hS => by
    have hnow := pool_now hS hi (hb w hF)
    obtain ⟨fp, h1, h2, h3⟩ := hS.out
    have hil : i < L.length := by
      rcases Nat.lt_or_ge i L.length with h | h
      · exact h
      · simp [List.getElem?_eq_none h] at hi
    have hjl : j < L.length := by
      rcases Nat.lt_or_ge j L.length with h | h
      · exact h
      · simp [List.getElem?_eq_none h] at hj
    have hji : ¬ j = i := fun h => hne h.symm
    have le : ∀ b o, hp b = some o → (fun b => if fp j b then w.heap[b]? else hp b) b = some o := fun b o h => by
      show (if fp j b then w.heap[b]? else hp b) = some o
      split
      · exact hnow b o h
      · exact h
    refine (k (fun b => if fp j b then w.heap[b]? else hp b) le (hC (fp j) w _ (h1 j C hj) (fun b o hs h => by show (if fp j b then w.heap[b]? else hp b) = some o; rw [if_pos hs]; exact h) le)).out w hF ?_
    have key : ∀ q b, (if q = i then fp i b ∨ fp j b else if q = j then False else fp q b) → (q = i ∧ (fp i b ∨ fp j b)) ∨ (q ≠ i ∧ q ≠ j ∧ fp q b) := by
      intro q b h
      by_cases hqi : q = i
      · simp only [hqi, if_true] at h; exact .inl ⟨hqi, h⟩
      · by_cases hqj : q = j
        · simp only [hqj, hji, if_true, if_false] at h
        · simp only [hqi, hqj, if_false] at h; exact .inr ⟨hqi, hqj, h⟩
    refine ⟨fun q b => if q = i then fp i b ∨ fp j b else if q = j then False else fp q b, ?_, ?_, ?_⟩
    · intro q c hc
      by_cases hqj : q = j
      · subst hqj
        rw [List.getElem?_set_self (by simpa using hjl)] at hc
        cases hc
        show ∀ b, ¬ _
        intro b h
        simp [hji] at h
      · rw [List.getElem?_set_ne (fun h => hqj h.symm)] at hc
        by_cases hqi : q = i
        · subst hqi
          rw [List.getElem?_set_self hil] at hc
          cases hc
          simp only [if_true]
          have hP := h1 q _ hi
          refine ⟨fun b o h => le b o (hP.1 b o h), fun b o h => ?_⟩
          have h : (if fp j b then w.heap[b]? else hp b) = some o := h
          split at h
          · rename_i hs; exact .inr ⟨.inr hs, h⟩
          · rcases hP.2 b o h with h | h
            · exact .inl h
            · exact .inr ⟨.inl h.1, h.2⟩
        · rw [List.getElem?_set_ne (fun h => hqi h.symm)] at hc
          simp only [hqi, hqj, if_false]
          exact h1 q c hc
    · intro q b h
      rcases key q b h with ⟨rfl, h | h⟩ | ⟨_, _, h⟩
      · have := h2 q b h; exact ⟨by simpa using hil, this.2⟩
      · have := h2 j b h; exact ⟨by simpa using hil, this.2⟩
      · have := h2 q b h; exact ⟨by simpa using this.1, this.2⟩
    · intro q r b hq hr
      rcases key q b hq with ⟨hqi, hq | hq⟩ | ⟨hqi, hqj, hq⟩ <;> rcases key r b hr with ⟨hri, hr | hr⟩ | ⟨hri, hrj, hr⟩
      · omega
      · omega
      · exact absurd (h3 i r b hq hr) (fun h => hri h.symm)
      · omega
      · omega
      · exact absurd (h3 j r b hq hr) (fun h => hrj h.symm)
      · exact absurd (h3 q i b hq hr) hqi
      · exact absurd (h3 q j b hq hr) hqj
      · exact h3 q r b hq hr⟩

/-- A slice whose block is among those that are known. -/
theorem FrS.sub {w : World} {S : Nat → Prop} {H : Heap} {sz : Nat} {v : Value} {xs : List (List Value)} (f : FrS (fun b => w.heap[b]?) sz v xs) (hd : ∀ b, v.ownBlock = some b → S b) (hH : ∀ b o, S b → w.heap[b]? = some o → H b = some o) : FrS H sz v xs := by
  obtain ⟨a, c, rfl, h1, h2, r⟩ := f.out
  refine ⟨a, c, rfl, h1, h2, ?_⟩
  rcases r with r | ⟨b, off, cs, T, m, rfl, hb, r⟩
  · exact .inl r
  · exact .inr ⟨b, off, cs, T, m, rfl, hH b _ (hd b rfl) hb, r⟩

theorem fz_ro {α : Type} {sz n : Nat} {v : Value} {xs : List α} {f : α → List Value} (hp : Heap) : ∀ S w (H : Heap), (roV sz v n (xs.map f)).P S w → (∀ b o, S b → w.heap[b]? = some o → H b = some o) → (∀ b o, hp b = some o → H b = some o) → FrS H sz v (xs.map f) :=
  fun _ _ _ hP hH _ => hP.2.1.sub hP.2.2 hH
theorem fz_own {α : Type} {E sz n : Nat} {v : Value} {xs : List α} {f : α → List Value} (hp : Heap) : ∀ S w (H : Heap), (rowV E sz v n (xs.map f)).P S w → (∀ b o, S b → w.heap[b]? = some o → H b = some o) → (∀ b o, hp b = some o → H b = some o) → FrS H sz v (xs.map f) :=
  fun S w H hP hH k => fz_ro hp S w H ((row_ro E sz v n _).out S w hP) hH k
theorem fz_box {α : Type} {b m T sz : Nat} {cs : List Value} {xs : List α} {f : α → List Value} (hp : Heap) (hcs : (xs.map f).flatten = cs) (hl : ((xs.map f).all fun x => Nat.beq x.length sz) = true) (hm : xs.length = m) (hm' : Nat.ble m 9223372036854775807 = true) :
    ∀ S w (H : Heap), (cellsC b cs T).P S w → (∀ b o, S b → w.heap[b]? = some o → H b = some o) → (∀ b o, hp b = some o → H b = some o) → FrS H sz (.slice (some ⟨b, 0, none⟩) m m) (xs.map f) := fun S w H hP hH _ => by
  have hS : Sat ⟨w, S⟩ w [cellsC b cs T] := Sat.one hP fun c hc => by
    have := (hP.1 c).1 hc
    subst this
    exact (Array.getElem?_eq_some_iff.1 hP.2).1
  exact (frs_box (i := 0) hS rfl hcs hl hm hm').sub (fun c hc => by simp [Value.ownBlock] at hc; exact (hP.1 c).2 hc.symm) hH

/-- Nested rows, read as they stand. -/
theorem frn_of {α : Type} {G : Heap → (Nat → Value) → α → Prop} {h : Heap} {sz : Nat} {v : Value} {css : List (List Value)} {xs : List α} (f : FrS h sz v (css.map idC)) (p : AllC G h sz css xs) : FrN h sz v G xs := by
  have hid : css.map idC = css := by unfold idC; simp
  rw [hid] at f
  have cellE : ∀ i, i < xs.length → elH h v sz i = fun j => (css.getD i []).getD j undef := by
    intro i hi
    funext j
    have hi' : i < css.length := by rw [p.len]; exact hi
    have hcl : (css[i]).length = sz := (p.el i css[i] xs[i] (List.getElem?_eq_getElem hi') (List.getElem?_eq_getElem hi)).1
    have e1 : css.getD i [] = css[i] := by simp [List.getD_eq_getElem?_getD, List.getElem?_eq_getElem hi']
    rw [e1]
    by_cases hj : j < sz
    · obtain ⟨a, c, rfl, _, _, r⟩ := f.out
      rcases r with r | ⟨b, off, cs, T, m, rfl, hb, r⟩
      · subst r; simp at hi'
      · have h2 := (r i css[i] (List.getElem?_eq_getElem hi')).2 j ((css[i])[j]'(by omega)) (List.getElem?_eq_getElem (by omega))
        simp only [elH, if_pos hj, hb]
        rw [Array.getD_eq_getD_getElem?, h2]
        simp [List.getD_eq_getElem?_getD, List.getElem?_eq_getElem (show j < (css[i]).length by omega)]
    · unfold elH
      rw [if_neg hj, List.getD_eq_getElem?_getD, List.getElem?_eq_none (by omega)]; rfl
  have cells : ∀ i, i < xs.length → elC h v sz i = css.getD i [] := by
    intro i hi
    have hi' : i < css.length := by rw [p.len]; exact hi
    have hcl : (css[i]).length = sz := (p.el i css[i] xs[i] (List.getElem?_eq_getElem hi') (List.getElem?_eq_getElem hi)).1
    unfold elC
    rw [cellE i hi]
    have e1 : css.getD i [] = css[i] := by simp [List.getD_eq_getElem?_getD, List.getElem?_eq_getElem hi']
    rw [e1]
    apply List.ext_getElem
    · simp [hcl]
    · intro j h1 h2
      simp only [List.length_map, List.length_range] at h1
      simp [List.getD_eq_getElem?_getD, List.getElem?_eq_getElem h2]
  refine ⟨?_, fun i x hx => ?_⟩
  · have e : (List.range xs.length).map (elC h v sz) = css := by
      apply List.ext_getElem
      · simp [p.len]
      · intro i h1 h2
        simp only [List.length_map, List.length_range] at h1
        rw [List.getElem_map, List.getElem_range, cells i h1]
        simp [List.getD_eq_getElem?_getD, List.getElem?_eq_getElem h2]
    rw [e]; exact f
  · have hi : i < xs.length := by
      rcases Nat.lt_or_ge i xs.length with h | h
      · exact h
      · rw [List.getElem?_eq_none h] at hx; cases hx
    have hi' : i < css.length := by rw [p.len]; exact hi
    rw [cellE i hi]
    have e1 : css.getD i [] = css[i] := by simp [List.getD_eq_getElem?_getD, List.getElem?_eq_getElem hi']
    rw [e1]
    exact (p.el i css[i] x (List.getElem?_eq_getElem hi') hx).2


theorem app63 {α : Type} {by_ : Nat} {xs ys zs : List α} (g : gApp by_ xs ys = some zs) : (xs ++ ys).length * by_ ≤ 140737488355328 := by
  obtain ⟨_, _, h⟩ := gApp_some g
  rwa [List.length_append]

open Classical in
/-- Two pools in one. -/
theorem c_poolJoin {hp1 : Heap} (i j : Nat) (hi : L[i]? = some (poolC base hp)) (hj : L[j]? = some (poolC noH hp1)) (hne : i ≠ j) (hb : ∀ w, Fr cx w → ∀ b o, base b = some o → w.heap[b]? = some o)
    (k : ∀ hp', (∀ b o, hp b = some o → hp' b = some o) → (∀ b o, hp1 b = some o → hp' b = some o) → At cx K e ((L.set i (poolC base hp')).set j empC)) : At cx K e L :=
  c_freeze (Φ := fun H => ∀ b o, hp1 b = some o → H b = some o) i j hi hj hne hb (fun S w H hP hH _ b o h => (hP.2 b o h).elim (fun h => by cases h) fun h => hH b o h.1 h.2) k

/-- A slice of slices of one's own, with all that its elements lead to. -/
def rowD {α : Type} (E sz : Nat) (G : Heap → (Nat → Value) → α → Prop) (v : Value) (n : Nat) (xs : List α) : Chunk where
  P S w := ∃ (hp : Heap) (css : List (List Value)), AllC G hp sz css xs ∧ n = css.length ∧ (bothC (poolC noH hp) (rowV E sz v n (css.map idC))).P S w
  loc S w w' h := by
    rintro ⟨hp, css, h1, h2, h3⟩
    exact ⟨hp, css, h1, h2, Chunk.loc _ _ _ _ h h3⟩
def roD {α : Type} (sz : Nat) (G : Heap → (Nat → Value) → α → Prop) (v : Value) (n : Nat) (xs : List α) : Chunk where
  P S w := ∃ (hp : Heap) (css : List (List Value)), AllC G hp sz css xs ∧ n = css.length ∧ (bothC (poolC noH hp) (roV sz v n (css.map idC))).P S w
  loc S w w' h := by
    rintro ⟨hp, css, h1, h2, h3⟩
    exact ⟨hp, css, h1, h2, Chunk.loc _ _ _ _ h h3⟩

theorem imp_rowD {α : Type} {G : Heap → (Nat → Value) → α → Prop} {E sz n : Nat} {p : Option Addr × Nat} {css : List (List Value)} {xs : List α} (hn : n = css.length) (f : AllC G hp sz css xs) :
    Imp (bothC (poolC noH hp) (rowV E sz (.slice p.1 n p.2) n (css.map idC))) (rowD E sz G (.slice p.1 n p.2) n xs) := ⟨fun S w h => ⟨hp, css, f, hn, h⟩⟩
theorem imp_roD {α : Type} {G : Heap → (Nat → Value) → α → Prop} {sz n : Nat} {p : Option Addr × Nat} {css : List (List Value)} {xs : List α} (hn : n = css.length) (f : AllC G hp sz css xs) :
    Imp (bothC (poolC noH hp) (roV sz (.slice p.1 n p.2) n (css.map idC))) (roD sz G (.slice p.1 n p.2) n xs) := ⟨fun S w h => ⟨hp, css, f, hn, h⟩⟩

/-- The same chunk, said with what is hidden in it. -/
theorem c_show {C : Chunk} {τ : Type} {D : τ → Chunk} {φ : τ → Prop} (i : Nat) (hi : L[i]? = some C) (h : ∀ S w, C.P S w → ∃ t, φ t ∧ (D t).P S w) (k : ∀ t, φ t → At cx K e (L.set i (D t))) : At cx K e L :=
  ⟨fun w hF hS => by
    obtain ⟨fp, h1, h2, h3⟩ := hS.out
    obtain ⟨t, ht, hD⟩ := h _ _ (h1 i _ hi)
    have hil : i < L.length := by
      rcases Nat.lt_or_ge i L.length with h | h
      · exact h
      · simp [List.getElem?_eq_none h] at hi
    refine (k t ht).out w hF ⟨fp, fun j c hj => ?_, fun j b hb => by simpa using h2 j b hb, h3⟩
    by_cases hji : j = i
    · subst hji
      rw [List.getElem?_set_self hil] at hj
      cases hj
      exact hD
    · rw [List.getElem?_set_ne (fun h => hji h.symm)] at hj
      exact h1 j c hj⟩

theorem c_rowD {α : Type} {G : Heap → (Nat → Value) → α → Prop} {E sz n : Nat} {p : Option Addr × Nat} {xs : List α} (i : Nat) (hi : L[i]? = some (rowD E sz G (.slice p.1 n p.2) n xs))
    (k : ∀ (hp : Heap) (css : List (List Value)), n = css.length → AllC G hp sz css xs → At cx K e (L.set i (bothC (poolC noH hp) (rowV E sz (.slice p.1 n p.2) n (css.map idC))))) : At cx K e L :=
  c_show (τ := Heap × List (List Value)) (D := fun t => bothC (poolC noH t.1) (rowV E sz (.slice p.1 n p.2) n (t.2.map idC))) (φ := fun t => n = t.2.length ∧ AllC G t.1 sz t.2 xs) i hi (fun S w ⟨hp, css, h1, h2, h3⟩ => ⟨(hp, css), ⟨h2, h1⟩, h3⟩) fun t ht => k t.1 t.2 ht.1 ht.2
theorem c_roD {α : Type} {G : Heap → (Nat → Value) → α → Prop} {sz n : Nat} {p : Option Addr × Nat} {xs : List α} (i : Nat) (hi : L[i]? = some (roD sz G (.slice p.1 n p.2) n xs))
    (k : ∀ (hp : Heap) (css : List (List Value)), n = css.length → AllC G hp sz css xs → At cx K e (L.set i (bothC (poolC noH hp) (roV sz (.slice p.1 n p.2) n (css.map idC))))) : At cx K e L :=
  c_show (τ := Heap × List (List Value)) (D := fun t => bothC (poolC noH t.1) (roV sz (.slice p.1 n p.2) n (t.2.map idC))) (φ := fun t => n = t.2.length ∧ AllC G t.1 sz t.2 xs) i hi (fun S w ⟨hp, css, h1, h2, h3⟩ => ⟨(hp, css), ⟨h2, h1⟩, h3⟩) fun t ht => k t.1 t.2 ht.1 ht.2

end rules
end Go.Lx
