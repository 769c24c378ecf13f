/- What a claim says of a call's arguments, as rows: slices, arrays, structs, strings. Conditions: none. -/
import Derived.Test.YthhaabhnlndnoaaGreatVc1
import Derived.ProofKit
import Derived.OpenShut
import Derived.ChangeArms
import Derived.DataReads
import Derived.Test.YthhaabhnlndnoaaGreatLx
import Derived.SizedLaws
import Derived.JoinedCond
import Derived.LaidLaws
namespace Go.Vc
open Go
variable {H : Type} {enc : TypeId × Value → H} {P : Program} {w : World} {base : Nat} {spare : Nat → Bool} {held : Bool}
theorem cells_addr {w : World} {base k : Nat} {a : Addr} {cs : List Value} (h : w.cells? base a k = some cs) : cs.length = k ∧ ∀ i, i < k → w.cell? (a.add i) = cs[i]? :=
 (World.cells?_some h).2
theorem cell_spot {w : World} {a : Addr} {v : Value} (h : w.cell? a = some v) : a.spot = none := by
 unfold World.cell? at h
 split at h
 ·split at h
  ·cases h
  ·rename_i hs; simpa using hs
 ·cases h
theorem op_int {t fuel : Nat} {k : IntKind} {cs : List Value} {x : DataW H × List MemPlace} (ht : P.underlying t = some (.int k)) (h : DataW.trod enc P w base spare held fuel t cs = some x) : ∃ n : Int, cs = [.int k n] ∧ (Lit.int k n).wf = true := by
 obtain ⟨n, h1, _, h2⟩ := DataW.trod_int ht h
 exact ⟨n, h1, h2⟩
theorem op_elem {t fuel i m e : Nat} {cs : List Value} {x : DataW H × List MemPlace} (ht : P.underlying t = some (.array m e)) (hi : i < m) (h : DataW.trod enc P w base spare held fuel t cs = some x) :
  ∃ n y, DataW.trod enc P w base spare held n e ((cs.drop (i * P.cellsOf e)).take (P.cellsOf e)) = some y := by
 obtain ⟨xs, n, _, _, _, hl, hp⟩ := DataW.trod_array ht h
 have h1 := hp i hi
 rw [List.getElem?_eq_getElem (by omega)] at h1
 exact ⟨n, _, h1⟩
end Go.Vc

/- What a claim says of a call's arguments, as values of plain types: parts of structs, arrays, slices. Conditions: none. -/
namespace Go.Lx
open Go Go.Vc Go.Md
variable {H : Type} {enc : TypeId × Value → H} {P : Program} {w : World} {base : Nat} {spare : Nat → Bool} {held : Bool}
theorem piece {cs l : List Value} {o s : Nat} (h : (cs.drop o).take s = l) (hl : l.length = s) : cs.drop o = l ++ cs.drop (o + s) := by
 have := List.take_append_drop s (cs.drop o)
 rw [h, List.drop_drop] at this
 exact this.symm
theorem op_arr {α : Type} [Inhabited α] {f : α → List Value} {good : α → Prop} {t e sz m fuel : Nat} {cs : List Value} {x : DataW H × List MemPlace} (ht : P.underlying t = some (.array m e)) (hc : P.cellsOf e = sz) (hf : ∀ a, (f a).length = sz)
  (hD : ∀ n cs x, cs.length = sz → DataW.trod enc P w base spare held n e cs = some x → ∃ a, cs = f a ∧ good a) (hlen : cs.length = m * sz) (h : DataW.trod enc P w base spare held fuel t cs = some x) :
  ∃ g : Nat → α, cs = (List.range m).flatMap (fun j => f (g j)) ∧ ∀ j, j < m → good (g j) := by
 have each : ∀ i : Fin m, ∃ a : α, (cs.drop (i * sz)).take sz = f a ∧ good a := by
  intro i
  obtain ⟨n, y, hy⟩ := op_elem ht i.2 h
  rw [hc] at hy
  have hle : (i + 1) * sz ≤ m * sz := Nat.mul_le_mul_right _ i.2
  rw [Nat.succ_mul] at hle
  exact hD _ _ _ (by rw [List.length_take, List.length_drop]; omega) hy
 have hch : ∃ g : Fin m → α, ∀ i : Fin m, (cs.drop (i * sz)).take sz = f (g i) ∧ good (g i) := ⟨fun i => (each i).choose, fun i => (each i).choose_spec⟩
 obtain ⟨g, hg⟩ := hch
 refine ⟨fun j => if h : j < m then g ⟨j, h⟩ else default, ?_, fun j hj => by show good (if h : j < m then g ⟨j, h⟩ else default); rw [dif_pos hj]; exact (hg ⟨j, hj⟩).2⟩
 have key : ∀ k, k ≤ m → cs = ((List.range k).flatMap fun j => f (if h : j < m then g ⟨j, h⟩ else default)) ++ cs.drop (k * sz) := by
  intro k
  induction k with
  | zero => intro _; simp
  | succ k ih =>
   intro hk
   have h1 := ih (by omega)
   have h2 := piece (hg ⟨k, by omega⟩).1 (hf _)
   rw [List.range_succ, List.flatMap_append, List.flatMap_singleton, dif_pos (show k < m by omega), List.append_assoc, Nat.succ_mul]
   rw [← h2]
   exact h1
 have := key m (Nat.le_refl _)
 rwa [List.drop_of_length_le (by omega), List.append_nil] at this
theorem Row.snap {w : World} {a : Option Addr} {sz : Nat} {xs : List (List Value)} (h : Row w a sz xs) (hsz : 0 < sz) : RowH (fun b => w.heap[b]?) a sz xs := by
 rcases h with h | ⟨b, off, ha, h⟩
 ·exact .inl h
 ·cases xs with
  | nil => exact .inl rfl
  | cons x r =>
   have h0 := h 0 x rfl
   have hv := h0.2 0 x[0] (by simp [h0.1, hsz])
   unfold World.cell? at hv
   split at hv
   ·rename_i c T m hb
    refine .inr ⟨b, off, c, T, m, ha, hb, fun i y hy => ⟨(h i y hy).1, fun j v hj => ?_⟩⟩
    have := (h i y hy).2 j v hj
    unfold World.cell? at this
    rw [hb] at this
    simpa using this
   ·cases hv
theorem val_cell {r : Reach} {b0 t : Nat} {v : Value} (ht : (match P.underlying t with | some (.int _) | some (.slice _) | some .string | some .bool => true | _ => false) = true) (hval : Value.okWide P w r b0 t v) : v.cells.toList = [v] := by
 unfold Value.okWide at hval
 split at hval
 ·rename_i h; rw [h] at ht; cases ht
 ·rename_i h; rw [h] at ht; cases ht
 ·cases v with
  | agg cs =>
   exfalso
   unfold Cell.okWide at hval
   split at ht <;> simp_all [Cell.ok]
  | _ => rfl
end Go.Lx

/- What a claim says of a call's arguments, where their bulk is bounded. Conditions: none. -/
namespace Go.Vc
open Go Go.Lx
variable {H : Type} {enc : TypeId × Value → H} {P : Program} {w : World} {base : Nat} {spare : Nat → Bool} {held : Bool}
structure BK (bk : DataW H → Nat) : Prop where
 slice : ∀ (es rs : List (DataW H)) (d : DataW H), d ∈ es → bk d ≤ bk (.slice es rs)
 agg : ∀ (es : List (DataW H)) (d : DataW H), d ∈ es → bk d ≤ bk (.agg es)
 Xt : ∀ bs : List UInt8, bs.length ≤ bk (.lit (.string bs))
end Go.Vc

/- What a claim says of a call's arguments, with the reach of the claim's form: no string and no slice is larger than it. Conditions: none. -/
namespace Go.Vc
open Go Go.Lx
variable {H : Type} {enc : TypeId × Value → H} {P : Program} {w : World} {base : Nat} {spare : Nat → Bool} {held : Bool}
def Wt (P : Program) (B : Nat) (t : TypeId) (d : DataW H) : Prop := ∀ n ∈ DataW.weights P t d, n ≤ B
theorem mem_each {n : Nat} : ∀ (ts : List TypeId) (ds : List (DataW H)) (i : Nat) (t : TypeId) (d : DataW H), ts[i]? = some t → ds[i]? = some d → n ∈ DataW.weights P t d → n ∈ DataW.weightsEach P ts ds
 | [], _, i, t, d, h, _, _ => by simp at h
 | t' :: ts, [], i, t, d, _, h, _ => by simp at h
 | t' :: ts, d' :: ds, 0, t, d, h1, h2, h3 => by
  simp at h1 h2; subst h1 h2
  simp only [DataW.weightsEach, List.mem_append]; exact .inl h3
 | t' :: ts, d' :: ds, i + 1, t, d, h1, h2, h3 => by
  simp only [DataW.weightsEach, List.mem_append]
  exact .inr (mem_each ts ds i t d (by simpa using h1) (by simpa using h2) h3)
theorem mem_all {n : Nat} {e : TypeId} : ∀ (ds : List (DataW H)) (d : DataW H), d ∈ ds → n ∈ DataW.weights P e d → n ∈ DataW.weightsAll P e ds
 | [], _, h, _ => by cases h
 | d' :: ds, d, h, h3 => by
  simp only [DataW.weightsAll, List.mem_append]
  rcases List.mem_cons.1 h with rfl | h
  ·exact .inl h3
  ·exact .inr (mem_all ds d h h3)
theorem wt_arg {B : Nat} {ts : List TypeId} {ds : List (DataW H)} (h : (DataW.weightsEach P ts ds).all (· ≤ B) = true) (i : Nat) {t : TypeId} {d : DataW H} (ht : ts[i]? = some t) (hd : ds[i]? = some d) : Wt P B t d := fun n hn => by
 have := List.all_eq_true.1 h n (mem_each ts ds i t d ht hd hn)
 simpa using this
theorem op_stringW {B t fuel : Nat} {cs : List Value} {x : DataW H × List MemPlace} (hB : Wt P B t x.1) (ht : P.underlying t = some .string) (h : DataW.trod enc P w base spare held fuel t cs = some x) : ∃ s : List UInt8, cs = [Xt s] ∧ s.length ≤ 9223372036854775807 ∧ s.length ≤ B := by
 obtain ⟨s, h1, h3, h2⟩ := DataW.trod_string ht h
 have e : s.data.toList.length = s.size := by rw [Array.length_toList]; rfl
 refine ⟨s.data.toList, by rw [h1], by rw [e]; unfold maxLen at h2; omega, ?_⟩
 rw [h3] at hB
 exact hB _ (by simp [DataW.weights])
theorem op_fieldW {B t fuel i ft fo sz bo : Nat} {nm tg pk : String} {em : Bool} {fs : Array Field} {cs : List Value} {x : DataW H × List MemPlace} (hB : Wt P B t x.1) (ht : P.underlying t = some (.struct fs)) (hf : fs[i]? = some ⟨nm, ft, fo, em, tg, pk, bo⟩) (hc : P.cellsOf ft = sz) (h : DataW.trod enc P w base spare held fuel t cs = some x) :
  ∃ n y, DataW.trod enc P w base spare held n ft ((cs.drop fo).take sz) = some y ∧ Wt P B ft y.1 := by
 subst hc
 obtain ⟨xs, n, _, hx, _, hl, hp⟩ := DataW.trod_struct ht h
 have h1 := hp i _ hf
 have hi : i < fs.size := by
  rcases Nat.lt_or_ge i fs.size with h | h
  ·exact h
  ·rw [Array.getElem?_eq_none h] at hf; cases hf
 rw [List.getElem?_eq_getElem (by omega)] at h1
 refine ⟨n, _, h1, fun k hk => hB k ?_⟩
 rw [hx]
 simp only [DataW.weights, ht]
 have hft : (fs.toList.map (·.type))[i]? = some ft := by rw [List.getElem?_map, Array.getElem?_toList, hf]; rfl
 exact mem_each _ _ i ft _ hft (by rw [List.getElem?_map, List.getElem?_eq_getElem (by omega)]; rfl) hk
theorem op_sliceW {B by_ : Nat} {α : Type} {f : α → List Value} {good : α → Prop} {t e sz fuel : Nat} {cs : List Value} {x : DataW H × List MemPlace} (hB : Wt P B t x.1) (ht : P.underlying t = some (.slice e)) (hc : P.cellsOf e = sz) (hsz : Nat.blt 0 sz = true) (hby : P.bytesOf e = by_)
  (hD : ∀ n cs x, Wt P B e x.1 → cs.length = sz → DataW.trod enc P w base spare held n e cs = some x → ∃ a, cs = f a ∧ good a) (h : DataW.trod enc P w base spare held fuel t cs = some x) :
  ∃ (v : Value) (xs : List α), cs = [v] ∧ FrS (fun b => w.heap[b]?) sz v (xs.map f) ∧ (xs.length ≤ 9223372036854775807 ∧ xs.length * by_ ≤ B) ∧ ∀ x ∈ xs, good x := by
 subst hby
 have h' := h
 rcases DataW.trod_slice ht h with ⟨rfl, _⟩ | ⟨a, len, cap, elems, rest, n, _, rfl, hx, _, hl, hm, hlen, hel, _⟩
 ·exact ⟨_, [], rfl, FrS.nil _ _, ⟨by simp, by simp⟩, by simp⟩
 ·-- the elements, and no others
  have each : ∀ i : Fin len, ∃ a' : α, w.cells? base (a.add (i * sz)) sz = some (f a') ∧ good a' := by
   intro i
   have hi := hel i i.2
   rw [hc] at hi
   have hlt : (i : Nat) < elems.length := by rw [hlen]; exact i.2
   rw [List.getElem?_eq_getElem hlt, Option.bind_eq_some_iff] at hi
   obtain ⟨cs', h1, h2⟩ := hi
   have hb : Wt P B e (elems[(i : Nat)]).1 := fun k hk => hB k (by
    rw [hx]
    simp only [DataW.weights, ht, List.mem_cons, List.mem_append]
    exact .inr (.inl (mem_all _ _ (List.mem_map.2 ⟨_, List.getElem_mem _, rfl⟩) hk)))
   obtain ⟨a', rfl, hg⟩ := hD _ _ _ hb (cells_addr h1).1 h2
   exact ⟨a', h1, hg⟩
  have hsz' : 0 < sz := by simpa using hsz
  have hch : ∃ g : Fin len → α, ∀ i : Fin len, w.cells? base (a.add (i * sz)) sz = some (f (g i)) ∧ good (g i) := ⟨fun i => (each i).choose, fun i => (each i).choose_spec⟩
  obtain ⟨g, hg⟩ := hch
  have hrow : Row w (some a) sz ((List.ofFn g).map f) := by
   cases len with
   | zero => left; simp
   | succ k =>
    have h0 := hg 0
    have hsp : a.spot = none := by
     have := (cells_addr h0.1).2 0 hsz'
     have hln := (cells_addr h0.1).1
     rw [List.getElem?_eq_getElem (by omega)] at this
     have hs := cell_spot this
     simpa [Addr.add] using hs
    obtain ⟨b, off, spot⟩ := a
    simp only at hsp
    subst hsp
    refine .inr ⟨b, off, rfl, fun i x hx => ?_⟩
    have hi : i < k + 1 := by
     rcases Nat.lt_or_ge i (k + 1) with h | h
     ·exact h
     ·rw [List.getElem?_eq_none (by simpa using h)] at hx; cases hx
    have hx' : x = f (g ⟨i, hi⟩) := by
     rw [List.getElem?_map, List.getElem?_ofFn, dif_pos hi] at hx
     exact (Option.some.inj hx).symm
    subst hx'
    obtain ⟨c1, c2⟩ := cells_addr (hg ⟨i, hi⟩).1
    refine ⟨c1, fun j v hv => ?_⟩
    have hj : j < sz := by
     rcases Nat.lt_or_ge j sz with h | h
     ·exact h
     ·rw [List.getElem?_eq_none (by omega)] at hv; cases hv
    have := c2 j hj
    rw [hv, Addr.add_lit, Addr.add_lit] at this
    exact this
  have hm' : cap ≤ 9223372036854775807 := by simpa [maxLen] using hm
  refine ⟨_, List.ofFn g, rfl, ⟨⟨some a, cap, by simp, by simpa using hl, hm', Row.snap hrow hsz'⟩⟩, ⟨by simp; omega, ?_⟩, ?_⟩
  ·have := hB ((elems.length + rest.length) * P.bytesOf e) (by rw [hx]; simp [DataW.weights, ht])
   rw [List.length_ofFn]
   refine Nat.le_trans (Nat.mul_le_mul_right _ ?_) this
   omega
  intro x hx
  rw [List.mem_ofFn] at hx
  obtain ⟨i, rfl⟩ := hx
  exact (hg i).2
end Go.Vc

/- Opening arguments whose elements hold slices. Conditions: none. -/
namespace Go.Lx
open Go Go.Vc Go.Md Go.ChangeShapes Go.WideShapes Go.ChangeAt
theorem piece_get {cs l : List Value} {o s q : Nat} (h : (cs.drop o).take s = l) (hq : q < l.length) : cs.getD (o + q) undef = l.getD q undef := by
 subst h
 have hs : q < s := by rw [List.length_take] at hq; omega
 simp only [List.getD_eq_getElem?_getD, List.getElem?_take, List.getElem?_drop, if_pos hs]
theorem fr_piece {h : Qg} {cs : List Value} {u : Value} {o s sz : Nat} {xs : List (List Value)} (e : (cs.drop o).take s = [u]) (f : FrS h sz u xs) : FrS h sz (cs.getD (o + 0) undef) xs := by
 rw [piece_get e (q := 0) (by simp)]; exact f
section
variable {P : Program} {H : Type} {enc : TypeId × Value → H} {w : World} {base : Nat} {spare : Nat → Bool} {held : Bool}
theorem op_sliceN {B by_ : Nat} {α : Type} {G : Qg → (Nat → Value) → α → Prop} {good : α → Prop} {t e sz fuel : Nat} {cs : List Value} {x : DataW H × List MemPlace} (hB : Wt P B t x.1) (ht : P.underlying t = some (.slice e)) (hc : P.cellsOf e = sz) (hsz : Nat.blt 0 sz = true) (hby : P.bytesOf e = by_)
  (hD : ∀ n cs x, Wt P B e x.1 → cs.length = sz → DataW.trod enc P w base spare held n e cs = some x → ∃ a : α, G (fun b => w.heap[b]?) (fun j => cs.getD j undef) a ∧ good a) (h : DataW.trod enc P w base spare held fuel t cs = some x) :
  ∃ (v : Value) (xs : List α), cs = [v] ∧ FrN (fun b => w.heap[b]?) sz v G xs ∧ (xs.length ≤ 9223372036854775807 ∧ xs.length * by_ ≤ B) ∧ ∀ x ∈ xs, good x := by
 obtain ⟨v, ps, h1, h2, h3, h4⟩ := op_sliceW (f := fun p : List Value × α => p.1) (good := fun p => p.1.length = sz ∧ G (fun b => w.heap[b]?) (fun j => p.1.getD j undef) p.2 ∧ good p.2) hB ht hc hsz hby
  (fun n cs x hb hl hx => by
   obtain ⟨a, g1, g2⟩ := hD n cs x hb hl hx
   exact ⟨(cs, a), rfl, hl, g1, g2⟩) h
 refine ⟨v, ps.map Prod.snd, h1, ?_, by simpa using h3, fun y hy => ?_⟩
 ·refine U7 (css := ps.map Prod.fst) ?_ ⟨by simp, fun i c y hc hy => ?_⟩
  ·have : (ps.map Prod.fst).map idC = ps.map fun p => p.1 := by unfold idC; simp
   rw [this]; exact h2
  ·simp only [List.getElem?_map, Option.map_eq_some_iff] at hc hy
   obtain ⟨p, hp, rfl⟩ := hc
   obtain ⟨q, hq, rfl⟩ := hy
   rw [hp] at hq
   cases hq
   have := h4 p (List.mem_of_getElem? hp)
   exact ⟨this.1, this.2.1⟩
 ·obtain ⟨p, hp, rfl⟩ := List.mem_map.1 hy
  exact (h4 p hp).2.2
end
end Go.Lx

/- What a claim says of a call's arguments, where their bulk is bounded and package variables are laid. Conditions: none. -/
namespace Go.Vc
open Go Go.Lx
section
variable {H : Type} {enc : TypeId × Value → H} {P : Program} {w : World} {base : Nat} {spare : Nat → Bool} {held : Bool}
structure BKL (bk : DataW H → Nat) : Prop extends BK bk where
 len : ∀ es rs : List (DataW H), es.length ≤ bk (.slice es rs)
end
section
variable {H : Type} {enc : TypeId × Value → H}
end
end Go.Vc

/- Opening arguments whose bulk is bounded: sums over the parts, for types that hold themselves. Conditions: none. -/
namespace Go.Lx
open Go Go.Vc Go.Md Go.ChangeShapes Go.WideShapes Go.ChangeAt
section
variable {H : Type} {enc : TypeId × Value → H} {P : Program} {w : World} {base : Nat} {spare : Nat → Bool} {held : Bool}
structure BKS (bk : DataW H → Nat) : Prop where
 slice : ∀ es rs : List (DataW H), (es.map bk).sum ≤ bk (.slice es rs)
 agg : ∀ es : List (DataW H), (es.map bk).sum ≤ bk (.agg es)
 Xt : ∀ bs : List UInt8, bs.length ≤ bk (.lit (.string bs))
 one : ∀ d : DataW H, 1 ≤ bk d
end
end Go.Lx
