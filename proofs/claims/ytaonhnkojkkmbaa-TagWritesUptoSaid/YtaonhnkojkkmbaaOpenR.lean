/- Opening arguments whose bulk is bounded: sums over the parts, for types that hold themselves. Conditions: none. -/
import Derived.Test.YtaonhnkojkkmbaaOpenC
import Derived.Test.YtaonhnkojkkmbaaOpenN
namespace Go.Lx
open Go Go.Vc Go.Md Go.ChangeShapes Go.WideShapes Go.ChangeAt

theorem mem_le_sum {a : Nat} : ∀ {l : List Nat}, a ∈ l → a ≤ l.sum
  | [], h => by cases h
  | x :: l, h => by
    rw [List.sum_cons]
    rcases List.mem_cons.1 h with h | h
    · omega
    · have := mem_le_sum h; omega
theorem sum_le_sum {α β : Type} {f : α → Nat} {g : β → Nat} : ∀ {xs : List α} {ys : List β}, xs.length = ys.length → (∀ (i : Nat) x y, xs[i]? = some x → ys[i]? = some y → f x ≤ g y) → (xs.map f).sum ≤ (ys.map g).sum
  | [], [], _, _ => Nat.le_refl _
  | [], _ :: _, h, _ => by simp at h
  | _ :: _, [], h, _ => by simp at h
  | x :: xs, y :: ys, h, k => by
    rw [List.map_cons, List.map_cons, List.sum_cons, List.sum_cons]
    have h1 := k 0 x y rfl rfl
    have h2 := sum_le_sum (f := f) (g := g) (xs := xs) (ys := ys) (by simpa using h) (fun i a b ha hb => k (i + 1) a b (by simpa using ha) (by simpa using hb))
    omega
theorem len_le_sum {α : Type} {f : α → Nat} (h : ∀ x, 1 ≤ f x) : ∀ xs : List α, xs.length ≤ (xs.map f).sum
  | [] => Nat.zero_le _
  | x :: xs => by rw [List.map_cons, List.sum_cons, List.length_cons]; have := h x; have := len_le_sum h xs; omega

section
variable {H : Type} {enc : TypeId × Value → H} {P : Program} {w : World} {base : Nat} {spare : Nat → Bool} {held : Bool}

/-- A measure of readings that sums up its parts'. -/
structure BKS (bk : DataW H → Nat) : Prop where
  slice : ∀ es rs : List (DataW H), (es.map bk).sum ≤ bk (.slice es rs)
  agg : ∀ es : List (DataW H), (es.map bk).sum ≤ bk (.agg es)
  str : ∀ bs : List UInt8, bs.length ≤ bk (.lit (.string bs))
  one : ∀ d : DataW H, 1 ≤ bk d
theorem BKS.toBK {bk : DataW H → Nat} (K : BKS bk) : BK bk :=
  ⟨fun es rs d h => Nat.le_trans (mem_le_sum (List.mem_map.2 ⟨d, h, rfl⟩)) (K.slice es rs), fun es d h => Nat.le_trans (mem_le_sum (List.mem_map.2 ⟨d, h, rfl⟩)) (K.agg es), K.str⟩
theorem BKS.toBKL {bk : DataW H → Nat} (K : BKS bk) : BKL bk := { toBK := K.toBK, len := fun es rs => Nat.le_trans (len_le_sum K.one es) (K.slice es rs) }

theorem op_structS {bk : DataW H → Nat} (K : BKS bk) {t fuel : Nat} {fs : Array Field} {cs : List Value} {x : DataW H × List MemPlace} (ht : P.underlying t = some (.struct fs)) (h : DataW.trod enc P w base spare held fuel t cs = some x) :
    ∃ (n : Nat) (xs : List (DataW H × List MemPlace)), n < fuel ∧ xs.length = fs.size ∧ (xs.map fun y => bk y.1).sum ≤ bk x.1 ∧ ∀ (i : Nat) (f : Field) (sz : Nat), fs[i]? = some f → P.cellsOf f.type = sz → DataW.trod enc P w base spare held n f.type ((cs.drop f.offset).take sz) = xs[i]? := by
  obtain ⟨xs, n, hn, hx, _, hl, hp⟩ := DataW.trod_struct ht h
  refine ⟨n, xs, by omega, hl, ?_, fun i f sz hf hc => by subst hc; exact hp i f hf⟩
  rw [hx]
  have := K.agg (xs.map (·.1))
  rw [List.map_map] at this
  exact this

theorem op_sliceS {bk : DataW H → Nat} (K : BKS bk) {α δ : Type} {G : Heap → (Nat → Value) → α → Prop} {m : δ → α → Nat} {t e sz fuel : Nat} {cs : List Value} {x : DataW H × List MemPlace} (ht : P.underlying t = some (.slice e)) (hc : P.cellsOf e = sz) (hsz : Nat.blt 0 sz = true)
    (hD : ∀ n cs x, n < fuel → cs.length = sz → DataW.trod enc P w base spare held n e cs = some x → ∃ a : α, G (fun b => w.heap[b]?) (fun j => cs.getD j undef) a ∧ ∀ d, m d a ≤ bk x.1) (h : DataW.trod enc P w base spare held fuel t cs = some x) :
    ∃ (v : Value) (xs : List α), cs = [v] ∧ FrN (fun b => w.heap[b]?) sz v G xs ∧ xs.length ≤ bk x.1 ∧ ∀ d, (xs.map (m d)).sum ≤ bk x.1 := by
  rcases DataW.trod_slice ht h with ⟨rfl, _⟩ | ⟨a, len, cap, elems, rest, n, hn, rfl, hx, _, hl, hm, hlen, hel, _⟩
  · exact ⟨_, [], rfl, FrN.nil _ _ _, by simp, by simp⟩
  · have each : ∀ i : Fin len, ∃ p : List Value × α, w.cells? base (a.add (i * sz)) sz = some p.1 ∧ p.1.length = sz ∧ G (fun b => w.heap[b]?) (fun j => p.1.getD j undef) p.2 ∧ ∀ d y, elems[(i : Nat)]? = some y → m d p.2 ≤ bk y.1 := by
      intro i
      have hi := hel i i.2
      rw [hc] at hi
      have hlt : (i : Nat) < elems.length := by rw [hlen]; exact i.2
      rw [List.getElem?_eq_getElem hlt, Option.bind_eq_some_iff] at hi
      obtain ⟨cs', h1, h2⟩ := hi
      obtain ⟨a', hg, hmm⟩ := hD _ _ _ (by omega) (cells_addr h1).1 h2
      refine ⟨(cs', a'), h1, (cells_addr h1).1, hg, fun d y hy => ?_⟩
      rw [List.getElem?_eq_getElem hlt] at hy
      cases hy
      exact hmm d
    have hsz' : 0 < sz := by simpa using hsz
    have hch : ∃ g : Fin len → List Value × α, ∀ i : Fin len, w.cells? base (a.add (i * sz)) sz = some (g i).1 ∧ (g i).1.length = sz ∧ G (fun b => w.heap[b]?) (fun j => (g i).1.getD j undef) (g i).2 ∧ ∀ d y, elems[(i : Nat)]? = some y → m d (g i).2 ≤ bk y.1 := ⟨fun i => (each i).choose, fun i => (each i).choose_spec⟩
    obtain ⟨g, hg⟩ := hch
    have hrow : Row w (some a) sz ((List.ofFn g).map fun p => p.1) := by
      cases len with
      | zero => left; simp
      | succ k =>
        have h0 := hg 0
        have hsp : a.spot = none := by
          have := (cells_addr h0.1).2 0 hsz'
          have hln := (cells_addr h0.1).1
          rw [List.getElem?_eq_getElem (by omega)] at this
          have hs := cell_spot this
          simpa [Addr.add] using hs
        obtain ⟨b, off, spot⟩ := a
        simp only at hsp
        subst hsp
        refine .inr ⟨b, off, rfl, fun i x hx => ?_⟩
        have hi : i < k + 1 := by
          rcases Nat.lt_or_ge i (k + 1) with h | h
          · exact h
          · rw [List.getElem?_eq_none (by simpa using h)] at hx; cases hx
        have hx' : x = (g ⟨i, hi⟩).1 := by
          rw [List.getElem?_map, List.getElem?_ofFn, dif_pos hi] at hx
          exact (Option.some.inj hx).symm
        subst hx'
        obtain ⟨c1, c2⟩ := cells_addr (hg ⟨i, hi⟩).1
        refine ⟨c1, fun j v hv => ?_⟩
        have hj : j < sz := by
          rcases Nat.lt_or_ge j sz with h | h
          · exact h
          · rw [List.getElem?_eq_none (by omega)] at hv; cases hv
        have := c2 j hj
        rw [hv, Addr.add_lit, Addr.add_lit] at this
        exact this
    have hm' : cap ≤ 9223372036854775807 := by simpa [maxLen] using hm
    have hfr : FrS (fun b => w.heap[b]?) sz (.slice (some a) len cap) ((List.ofFn g).map fun p => p.1) := ⟨⟨some a, cap, by simp, by simpa using hl, hm', Row.snap hrow hsz'⟩⟩
    refine ⟨_, (List.ofFn g).map Prod.snd, rfl, ?_, ?_, fun d => ?_⟩
    · refine frn_of (css := (List.ofFn g).map Prod.fst) ?_ ⟨by simp, fun i c y hc hy => ?_⟩
      · have : ((List.ofFn g).map Prod.fst).map idC = (List.ofFn g).map fun p => p.1 := by rw [List.map_map]; rfl
        rw [this]; exact hfr
      · simp only [List.getElem?_map, Option.map_eq_some_iff] at hc hy
        obtain ⟨p, hp, rfl⟩ := hc
        obtain ⟨q, hq, rfl⟩ := hy
        rw [hp] at hq
        cases hq
        have hpm := List.mem_of_getElem? hp
        rw [List.mem_ofFn] at hpm
        obtain ⟨j, rfl⟩ := hpm
        exact ⟨(hg j).2.1, (hg j).2.2.1⟩
    · have h1 := len_le_sum K.one (elems.map (·.1))
      have h2 := K.slice (elems.map (·.1)) (rest.map (·.1))
      rw [hx]
      simp only [List.length_map, List.length_ofFn] at h1 ⊢
      omega
    · have h2 := K.slice (elems.map (·.1)) (rest.map (·.1))
      rw [hx]
      refine Nat.le_trans (sum_le_sum (by simp [hlen]) fun i a y ha hy => ?_) h2
      rw [List.getElem?_map, Option.map_eq_some_iff] at ha hy
      obtain ⟨p, hp, rfl⟩ := ha
      obtain ⟨y, hy, rfl⟩ := hy
      have hi : i < len := by
        rcases Nat.lt_or_ge i len with h | h
        · exact h
        · rw [List.getElem?_eq_none (by simpa using h)] at hp; cases hp
      rw [List.getElem?_ofFn, dif_pos hi] at hp
      cases hp
      exact (hg ⟨i, hi⟩).2.2.2 d y hy
end
end Go.Lx
