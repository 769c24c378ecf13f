/- What a claim says of a call's arguments, as values of plain types: parts of structs, arrays, slices. Conditions: none. -/
import Derived.Test.YthljoadplekgnaaGreatDoorSpB
import Derived.Test.YthljoadplekgnaaGreatDoorLx2
import Derived.JoinedCond
import Derived.LaidLaws
import Derived.SizedLaws
namespace Go.Lx
open Go Go.Vc Go.Md
variable {H : Type} {enc : TypeId × Value → H} {P : Program} {w : World} {base : Nat} {spare : Nat → Bool} {held : Bool}
theorem piece {cs l : List Value} {o s : Nat} (h : (cs.drop o).take s = l) (hl : l.length = s) : cs.drop o = l ++ cs.drop (o + s) := by
 have := List.take_append_drop s (cs.drop o)
 rw [h, List.drop_drop] at this
 exact this.symm
theorem Row.snap {w : World} {a : Option Addr} {sz : Nat} {xs : List (List Value)} (h : Row w a sz xs) (hsz : 0 < sz) : RowH (fun b => w.heap[b]?) a sz xs := by
 rcases h with h | ⟨b, off, ha, h⟩
 ·exact .inl h
 ·cases xs with
  | nil => exact .inl rfl
  | cons x r =>
   have h0 := h 0 x rfl
   have hv := h0.2 0 x[0] (by simp [h0.1, hsz])
   unfold World.cell? at hv
   split at hv
   ·rename_i c T m hb
    refine .inr ⟨b, off, c, T, m, ha, hb, fun i y hy => ⟨(h i y hy).1, fun j v hj => ?_⟩⟩
    have := (h i y hy).2 j v hj
    unfold World.cell? at this
    rw [hb] at this
    simpa using this
   ·cases hv
theorem val_struct {r : Reach} {b0 t : Nat} {v : Value} {fs : Array Field} (ht : P.underlying t = some (.struct fs)) (hval : Value.okWide P w r b0 t v) : ∃ cs : List Value, v = .agg cs.toArray ∧ v.cells.toList = cs ∧ cs.length = P.cellsOf t := by
 unfold Value.okWide at hval
 rw [ht] at hval
 obtain ⟨cs, rfl, h, _⟩ := hval; exact ⟨cs.toList, by simp, rfl, by simpa using h⟩
theorem val_cell {r : Reach} {b0 t : Nat} {v : Value} (ht : (match P.underlying t with | some (.int _) | some (.slice _) | some .string | some .bool => true | _ => false) = true) (hval : Value.okWide P w r b0 t v) : v.cells.toList = [v] := by
 unfold Value.okWide at hval
 split at hval
 ·rename_i h; rw [h] at ht; cases ht
 ·rename_i h; rw [h] at ht; cases ht
 ·cases v with
  | agg cs =>
   exfalso
   unfold Cell.okWide at hval
   split at ht <;> simp_all [Cell.ok]
  | _ => rfl
end Go.Lx

namespace Go.Vc
open Go Go.Lx
variable {H : Type} {enc : TypeId × Value → H} {P : Program} {w : World} {base : Nat} {spare : Nat → Bool} {held : Bool}
structure BK (bk : DataW H → Nat) : Prop where
 slice : ∀ (es rs : List (DataW H)) (d : DataW H), d ∈ es → bk d ≤ bk (.slice es rs)
 agg : ∀ (es : List (DataW H)) (d : DataW H), d ∈ es → bk d ≤ bk (.agg es)
 str : ∀ bs : List UInt8, bs.length ≤ bk (.lit (.string bs))
theorem Jgq {bk : DataW H → Nat} (K : BK bk) {t fuel : Nat} {cs : List Value} {x : DataW H × List MemPlace} (ht : P.underlying t = some .string) (h : DataW.trod enc P w base spare held fuel t cs = some x) : ∃ s : List UInt8, cs = [str s] ∧ s.length ≤ 9223372036854775807 ∧ s.length ≤ bk x.1 := by
 obtain ⟨s, h1, h3, h2⟩ := DataW.trod_string ht h
 refine ⟨s.data.toList, by rw [h1], ?_, ?_⟩
 ·have e : s.data.toList.length = s.size := by rw [Array.length_toList]; rfl
  rw [e]
  unfold maxLen at h2
  omega
 ·rw [h3]; exact K.str _
theorem op_fieldB {bk : DataW H → Nat} (K : BK bk) {t fuel i ft fo sz bo : Nat} {nm tg pk : String} {em : Bool} {fs : Array Field} {cs : List Value} {x : DataW H × List MemPlace} (ht : P.underlying t = some (.struct fs)) (hf : fs[i]? = some ⟨nm, ft, fo, em, tg, pk, bo⟩) (hc : P.cellsOf ft = sz) (h : DataW.trod enc P w base spare held fuel t cs = some x) :
  ∃ n y, DataW.trod enc P w base spare held n ft ((cs.drop fo).take sz) = some y ∧ bk y.1 ≤ bk x.1 := by
 subst hc
 obtain ⟨xs, n, _, hx, _, hl, hp⟩ := DataW.trod_struct ht h
 have h1 := hp i _ hf
 have hi : i < fs.size := by
  rcases Nat.lt_or_ge i fs.size with h | h
  ·exact h
  ·rw [Array.getElem?_eq_none h] at hf; cases hf
 rw [List.getElem?_eq_getElem (by omega)] at h1
 refine ⟨n, _, h1, ?_⟩
 rw [hx]
 exact K.agg _ _ (List.mem_map.2 ⟨_, List.getElem_mem _, rfl⟩)
theorem op_sliceB {bk : DataW H → Nat} (K : BK bk) {B : Nat} {α : Type} {f : α → List Value} {good : α → Prop} {t e sz fuel : Nat} {cs : List Value} {x : DataW H × List MemPlace} (hB : bk x.1 ≤ B) (ht : P.underlying t = some (.slice e)) (hc : P.cellsOf e = sz) (hsz : Nat.blt 0 sz = true)
  (hD : ∀ n cs x, bk x.1 ≤ B → cs.length = sz → DataW.trod enc P w base spare held n e cs = some x → ∃ a, cs = f a ∧ good a) (h : DataW.trod enc P w base spare held fuel t cs = some x) :
  ∃ (v : Value) (xs : List α), cs = [v] ∧ FrS (fun b => w.heap[b]?) sz v (xs.map f) ∧ xs.length ≤ 9223372036854775807 ∧ ∀ x ∈ xs, good x := by
 have h' := h
 rcases DataW.trod_slice ht h with ⟨rfl, _⟩ | ⟨a, len, Y4, elems, rest, n, _, rfl, hx, _, hl, hm, hlen, hel, _⟩
 ·exact ⟨_, [], rfl, FrS.nil _ _, by simp, by simp⟩
 ·-- the elements, and no others
  have each : ∀ i : Fin len, ∃ a' : α, w.cells? base (a.add (i * sz)) sz = some (f a') ∧ good a' := by
   intro i
   have hi := hel i i.2
   rw [hc] at hi
   have hlt : (i : Nat) < elems.length := by rw [hlen]; exact i.2
   rw [List.getElem?_eq_getElem hlt, Option.bind_eq_some_iff] at hi
   obtain ⟨cs', h1, h2⟩ := hi
   have hb : bk (elems[(i : Nat)]).1 ≤ B := by
    refine Nat.le_trans ?_ hB
    rw [hx]
    exact K.slice _ _ _ (List.mem_map.2 ⟨_, List.getElem_mem _, rfl⟩)
   obtain ⟨a', rfl, hg⟩ := hD _ _ _ hb (U5 h1).1 h2
   exact ⟨a', h1, hg⟩
  have hsz' : 0 < sz := by simpa using hsz
  have hch : ∃ g : Fin len → α, ∀ i : Fin len, w.cells? base (a.add (i * sz)) sz = some (f (g i)) ∧ good (g i) := ⟨fun i => (each i).choose, fun i => (each i).choose_spec⟩
  obtain ⟨g, hg⟩ := hch
  have hrow : Row w (some a) sz ((List.ofFn g).map f) := by
   cases len with
   | zero => left; simp
   | succ k =>
    have h0 := hg 0
    have hsp : a.spot = none := by
     have := (U5 h0.1).2 0 hsz'
     have hln := (U5 h0.1).1
     rw [List.getElem?_eq_getElem (by omega)] at this
     have hs := cell_spot this
     simpa [Addr.add] using hs
    obtain ⟨b, off, spot⟩ := a
    simp only at hsp
    subst hsp
    refine .inr ⟨b, off, rfl, fun i x hx => ?_⟩
    have hi : i < k + 1 := by
     rcases Nat.lt_or_ge i (k + 1) with h | h
     ·exact h
     ·rw [List.getElem?_eq_none (by simpa using h)] at hx; cases hx
    have hx' : x = f (g ⟨i, hi⟩) := by
     rw [List.getElem?_map, List.getElem?_ofFn, dif_pos hi] at hx
     exact (Option.some.inj hx).symm
    subst hx'
    obtain ⟨c1, c2⟩ := U5 (hg ⟨i, hi⟩).1
    refine ⟨c1, fun j v hv => ?_⟩
    have hj : j < sz := by
     rcases Nat.lt_or_ge j sz with h | h
     ·exact h
     ·rw [List.getElem?_eq_none (by omega)] at hv; cases hv
    have := c2 j hj
    rw [hv, Addr.add_lit, Addr.add_lit] at this
    exact this
  have hm' : Y4 ≤ 9223372036854775807 := by simpa [maxLen] using hm
  refine ⟨_, List.ofFn g, rfl, ⟨⟨some a, Y4, by simp, by simpa using hl, hm', Row.snap hrow hsz'⟩⟩, by simp; omega, ?_⟩
  intro x hx
  rw [List.mem_ofFn] at hx
  obtain ⟨i, rfl⟩ := hx
  exact (hg i).2
end Go.Vc

namespace Go.Vc
open Go Go.Lx
section
variable {H : Type} {enc : TypeId × Value → H} {P : Program} {w : World} {base : Nat} {spare : Nat → Bool} {held : Bool}
structure BKL (bk : DataW H → Nat) : Prop extends BK bk where
 len : ∀ es rs : List (DataW H), es.length ≤ bk (.slice es rs)
theorem Jd2 {bk : DataW H → Nat} (K : BKL bk) {B : Nat} {α : Type} {f : α → List Value} {good : α → Prop} {t e sz fuel : Nat} {cs : List Value} {x : DataW H × List MemPlace} (hB : bk x.1 ≤ B) (ht : P.underlying t = some (.slice e)) (hc : P.cellsOf e = sz) (hsz : Nat.blt 0 sz = true)
  (hD : ∀ n cs x, bk x.1 ≤ B → cs.length = sz → DataW.trod enc P w base spare held n e cs = some x → ∃ a, cs = f a ∧ good a) (h : DataW.trod enc P w base spare held fuel t cs = some x) :
  ∃ (v : Value) (xs : List α), cs = [v] ∧ FrS (fun b => w.heap[b]?) sz v (xs.map f) ∧ (xs.length ≤ 9223372036854775807 ∧ xs.length ≤ B) ∧ ∀ x ∈ xs, good x := by
 obtain ⟨v, xs, e1, fr, hn, hg⟩ := op_sliceB K.toBK hB ht hc hsz hD h
 refine ⟨v, xs, e1, fr, ⟨hn, ?_⟩, hg⟩
 obtain ⟨a, c, rfl, _⟩ := fr.out
 rcases DataW.trod_slice ht h with ⟨e2, _⟩ | ⟨a', len, Y4, elems, rest, n, _, e2, hx, _, _, _, hlen, _⟩
 ·rw [e1] at e2
  injection e2 with e2 _
  injection e2 with _ e2 _
  rw [List.length_map] at e2; omega
 ·rw [e1] at e2
  injection e2 with e2 _
  injection e2 with _ e2 _
  rw [List.length_map] at e2
  rw [hx] at hB
  have := K.len (elems.map (·.1)) (rest.map (·.1))
  rw [List.length_map] at this
  simp only at hB
  omega
end
section
variable {H : Type} {enc : TypeId × Value → H}
theorem Jh4 {a : Assume} {C : Checked} {os : Os} {f : FuncId} {fn : Func} {s : OpenSpec} {k : (H : Type) → List (DataW H) → Bool} (hk : s.cond = some k) {F : Stop.Interp} {conds : List PathCond} {apart fresh handsOn again : Bool} {X : World → Prop}
  (hX : ∀ w w' : World, w.heap = w'.heap → X w → X w')
  (own : ownKnob C.prog.godebug = none) (started : os.Started) (noInit : C.prog.inits.idxOf? f = none) (hfn : C.prog.funcs[f]? = some fn)
  (witness : ∃ (w : World) (tape : Tape) (i : Input), w.os = os ∧ (w.forCall tape i).Shaped C.prog ∧ i.vars = [] ∧ Input.okWide C.prog (w.forCall tape i) .any w.heap.size f i ∧
   ((s.pre enc C.prog fn conds apart (w.forCall tape i).memory i.args ∧ X (w.forCall tape i).memory) ∧ sizedMet enc C.prog fn s apart (w.forCall tape i).memory i.args) ∧ a.holds C.prog (lone (Frame.enter C.prog f i.args .normal) [] (w.forCall tape i)))
  (contract : ∀ (W : World) (base : Nat) (args : Array Value) (ds gs : List (DataW H)) (before : List MemPlace),
   (∀ (j : Nat) t v, fn.params[j]? = some t → args[j]? = some v → Value.okWide C.prog W .any base t v) →
   DataW.Whole enc C.prog fn.params.toList s.vars apart W args.toList ds gs before →
   conds.all (PathCond.test C.prog ⟨fn.params.toList, ds, s.bare.plain.varTypes C.prog, gs⟩) = true → k H (ds ++ gs) = true → X W →
   a.holds C.prog (lone (Frame.enter C.prog f args .normal) [] W) →
   Calls C.prog f args W fun e W' => ∃ v, e = .returned v ∧ (s.at F).post enc C.prog fn apart fresh handsOn again W args v W') :
  ReturnsInHanded a C os f .any (fun w args => (s.pre enc C.prog fn conds apart w args ∧ X w) ∧ sizedMet enc C.prog fn s apart w args) ((s.at F).post enc C.prog fn apart fresh handsOn again) := by
 refine returnsInHanded_of_calls own started noInit witness ?_
 intro w tape i _ _ _ hok hpre hholds
 obtain ⟨_, _, _, fn', hfn', _, _, _, _, hval⟩ := hok
 obtain rfl : fn' = fn := Option.some.inj (hfn'.symm.trans hfn)
 obtain ⟨⟨hp, hx⟩, _⟩ := hpre
 obtain ⟨ds, gs, before, hw, hc, hkk⟩ := (OpenSpec.pre_some hk conds apart _ _).1 hp
 have hw' := DataW.Whole.of_heap (w' := w.forCall tape i) (by rfl) hw
 refine (contract (w.forCall tape i) w.heap.size i.args ds gs before hval hw' hc hkk (hX _ _ (by rfl) hx) hholds).mono fun e W' ⟨v, he, hp⟩ => ?_
 subst he
 exact ChangeSpec.post_blind hp
theorem Jg1 {C : Checked} {os : Os} {f : FuncId} {fn : Func} {s : OpenSpec} {k : (H : Type) → List (DataW H) → Bool} (hk : s.cond = some k) {conds : List PathCond} {apart : Bool} {X : World → Prop} (modest : Bool) (w0 : World) (args : Array Value) (fuel : Nat) (hos : w0.os = os)
  (hsh : (w0.forCall (fun _ _ => 0) ⟨#[], args, []⟩).Shaped C.prog)
  (hok : Input.okWideB C.prog (w0.forCall (fun _ _ => 0) ⟨#[], args, []⟩) f ⟨#[], args, []⟩ = true)
  {x : List (DataW H) × List (DataW H) × List MemPlace} (hx : DataW.whole enc C.prog (w0.forCall (fun _ _ => 0) ⟨#[], args, []⟩).memory fn.params.toList s.vars apart args.toList fuel = some x)
  (hconds : conds.all (PathCond.test C.prog ⟨fn.params.toList, x.1, s.bare.plain.varTypes C.prog, x.2.1⟩) = true) (hkk : k H (x.1 ++ x.2.1) = true)
  (hsz : s.bare.sizedB enc C.prog fn apart (w0.forCall (fun _ _ => 0) ⟨#[], args, []⟩).memory args fuel = true)
  (hX : X (w0.forCall (fun _ _ => 0) ⟨#[], args, []⟩).memory) :
  ∃ (w : World) (tape : Tape) (i : Input), w.os = os ∧ (w.forCall tape i).Shaped C.prog ∧ i.vars = [] ∧ Input.okWide C.prog (w.forCall tape i) .any w.heap.size f i ∧
   ((s.pre enc C.prog fn conds apart (w.forCall tape i).memory i.args ∧ X (w.forCall tape i).memory) ∧ sizedMet enc C.prog fn s apart (w.forCall tape i).memory i.args) ∧ ({ modest := modest } : Assume).holds C.prog (lone (Frame.enter C.prog f i.args .normal) [] (w.forCall tape i)) :=
 ⟨w0, fun _ _ => 0, ⟨#[], args, []⟩, hos, hsh, (Input.okWide_of_okWideB (base := 0) hok).1, (Input.okWide_of_okWideB hok).2,
  ⟨⟨(OpenSpec.pre_some hk conds apart _ _).2 ⟨x.1, x.2.1, x.2.2, DataW.Whole_of_whole hx, hconds, hkk⟩, hX⟩, sizedMet_of_sizedB hsz⟩, by
  simp only [Assume.holds]
  exact ⟨by simp, by simp, fun _ => Modest.zero, by simp, by simp⟩⟩
end
end Go.Vc

namespace Go.Vc
open Go Go.Lx
variable {H : Type} {enc : TypeId × Value → H} {P : Program} {w : World} {base : Nat} {spare : Nat → Bool} {held : Bool}
end Go.Vc

namespace Go.Lx
open Go Go.Vc Go.Md Go.ChangeShapes Go.WideShapes Go.ChangeAt
theorem Jca {cs l : List Value} {o s q : Nat} (h : (cs.drop o).take s = l) (hq : q < l.length) : cs.getD (o + q) undef = l.getD q undef := by
 subst h
 have hs : q < s := by rw [List.length_take] at hq; omega
 simp only [List.getD_eq_getElem?_getD, List.getElem?_take, List.getElem?_drop, if_pos hs]
section
variable {P : Program} {H : Type} {enc : TypeId × Value → H} {w : World} {base : Nat} {spare : Nat → Bool} {held : Bool}
end
end Go.Lx

namespace Go.Lx
open Go Go.Vc Go.Md Go.ChangeShapes Go.WideShapes Go.ChangeAt
theorem Jgo {a : Nat} : ∀ {l : List Nat}, a ∈ l → a ≤ l.sum
 | [], h => by cases h
 | x :: l, h => by
  rw [List.sum_cons]
  rcases List.mem_cons.1 h with h | h
  ·omega
  ·have := Jgo h; omega
theorem Jjl {α β : Type} {f : α → Nat} {g : β → Nat} : ∀ {xs : List α} {ys : List β}, xs.length = ys.length → (∀ (i : Nat) x y, xs[i]? = some x → ys[i]? = some y → f x ≤ g y) → (xs.map f).sum ≤ (ys.map g).sum
 | [], [], _, _ => Nat.le_refl _
 | [], _ :: _, h, _ => by simp at h
 | _ :: _, [], h, _ => by simp at h
 | x :: xs, y :: ys, h, k => by
  rw [List.map_cons, List.map_cons, List.sum_cons, List.sum_cons]
  have h1 := k 0 x y rfl rfl
  have h2 := Jjl (f := f) (g := g) (xs := xs) (ys := ys) (by simpa using h) (fun i a b ha hb => k (i + 1) a b (by simpa using ha) (by simpa using hb))
  omega
theorem Jgk {α : Type} {f : α → Nat} (h : ∀ x, 1 ≤ f x) : ∀ xs : List α, xs.length ≤ (xs.map f).sum
 | [] => Nat.zero_le _
 | x :: xs => by rw [List.map_cons, List.sum_cons, List.length_cons]; have := h x; have := Jgk h xs; omega
section
variable {H : Type} {enc : TypeId × Value → H} {P : Program} {w : World} {base : Nat} {spare : Nat → Bool} {held : Bool}
structure BKS (bk : DataW H → Nat) : Prop where
 slice : ∀ es rs : List (DataW H), (es.map bk).sum ≤ bk (.slice es rs)
 agg : ∀ es : List (DataW H), (es.map bk).sum ≤ bk (.agg es)
 str : ∀ bs : List UInt8, bs.length ≤ bk (.lit (.string bs))
 one : ∀ d : DataW H, 1 ≤ bk d
theorem BKS.toBK {bk : DataW H → Nat} (K : BKS bk) : BK bk :=
 ⟨fun es rs d h => Nat.le_trans (Jgo (List.mem_map.2 ⟨d, h, rfl⟩)) (K.slice es rs), fun es d h => Nat.le_trans (Jgo (List.mem_map.2 ⟨d, h, rfl⟩)) (K.agg es), K.str⟩
theorem BKS.toBKL {bk : DataW H → Nat} (K : BKS bk) : BKL bk := { toBK := K.toBK, len := fun es rs => Nat.le_trans (Jgk K.one es) (K.slice es rs) }
theorem Jes {bk : DataW H → Nat} (K : BKS bk) {t fuel : Nat} {fs : Array Field} {cs : List Value} {x : DataW H × List MemPlace} (ht : P.underlying t = some (.struct fs)) (h : DataW.trod enc P w base spare held fuel t cs = some x) :
  ∃ (n : Nat) (xs : List (DataW H × List MemPlace)), n < fuel ∧ xs.length = fs.size ∧ (xs.map fun y => bk y.1).sum ≤ bk x.1 ∧ ∀ (i : Nat) (f : Field) (sz : Nat), fs[i]? = some f → P.cellsOf f.type = sz → DataW.trod enc P w base spare held n f.type ((cs.drop f.offset).take sz) = xs[i]? := by
 obtain ⟨xs, n, hn, hx, _, hl, hp⟩ := DataW.trod_struct ht h
 refine ⟨n, xs, by omega, hl, ?_, fun i f sz hf hc => by subst hc; exact hp i f hf⟩
 rw [hx]
 have := K.agg (xs.map (·.1))
 rw [List.map_map] at this
 exact this
theorem Jf7 {bk : DataW H → Nat} (K : BKS bk) {α δ : Type} {G : J1 → (Nat → Value) → α → Prop} {m : δ → α → Nat} {t e sz fuel : Nat} {cs : List Value} {x : DataW H × List MemPlace} (ht : P.underlying t = some (.slice e)) (hc : P.cellsOf e = sz) (hsz : Nat.blt 0 sz = true)
  (hD : ∀ n cs x, n < fuel → cs.length = sz → DataW.trod enc P w base spare held n e cs = some x → ∃ a : α, G (fun b => w.heap[b]?) (fun j => cs.getD j undef) a ∧ ∀ d, m d a ≤ bk x.1) (h : DataW.trod enc P w base spare held fuel t cs = some x) :
  ∃ (v : Value) (xs : List α), cs = [v] ∧ FrN (fun b => w.heap[b]?) sz v G xs ∧ xs.length ≤ bk x.1 ∧ ∀ d, (xs.map (m d)).sum ≤ bk x.1 := by
 rcases DataW.trod_slice ht h with ⟨rfl, _⟩ | ⟨a, len, Y4, elems, rest, n, hn, rfl, hx, _, hl, hm, hlen, hel, _⟩
 ·exact ⟨_, [], rfl, FrN.nil _ _ _, by simp, by simp⟩
 ·have each : ∀ i : Fin len, ∃ p : List Value × α, w.cells? base (a.add (i * sz)) sz = some p.1 ∧ p.1.length = sz ∧ G (fun b => w.heap[b]?) (fun j => p.1.getD j undef) p.2 ∧ ∀ d y, elems[(i : Nat)]? = some y → m d p.2 ≤ bk y.1 := by
   intro i
   have hi := hel i i.2
   rw [hc] at hi
   have hlt : (i : Nat) < elems.length := by rw [hlen]; exact i.2
   rw [List.getElem?_eq_getElem hlt, Option.bind_eq_some_iff] at hi
   obtain ⟨cs', h1, h2⟩ := hi
   obtain ⟨a', hg, hmm⟩ := hD _ _ _ (by omega) (U5 h1).1 h2
   refine ⟨(cs', a'), h1, (U5 h1).1, hg, fun d y hy => ?_⟩
   rw [List.getElem?_eq_getElem hlt] at hy
   cases hy
   exact hmm d
  have hsz' : 0 < sz := by simpa using hsz
  have hch : ∃ g : Fin len → List Value × α, ∀ i : Fin len, w.cells? base (a.add (i * sz)) sz = some (g i).1 ∧ (g i).1.length = sz ∧ G (fun b => w.heap[b]?) (fun j => (g i).1.getD j undef) (g i).2 ∧ ∀ d y, elems[(i : Nat)]? = some y → m d (g i).2 ≤ bk y.1 := ⟨fun i => (each i).choose, fun i => (each i).choose_spec⟩
  obtain ⟨g, hg⟩ := hch
  have hrow : Row w (some a) sz ((List.ofFn g).map fun p => p.1) := by
   cases len with
   | zero => left; simp
   | succ k =>
    have h0 := hg 0
    have hsp : a.spot = none := by
     have := (U5 h0.1).2 0 hsz'
     have hln := (U5 h0.1).1
     rw [List.getElem?_eq_getElem (by omega)] at this
     have hs := cell_spot this
     simpa [Addr.add] using hs
    obtain ⟨b, off, spot⟩ := a
    simp only at hsp
    subst hsp
    refine .inr ⟨b, off, rfl, fun i x hx => ?_⟩
    have hi : i < k + 1 := by
     rcases Nat.lt_or_ge i (k + 1) with h | h
     ·exact h
     ·rw [List.getElem?_eq_none (by simpa using h)] at hx; cases hx
    have hx' : x = (g ⟨i, hi⟩).1 := by
     rw [List.getElem?_map, List.getElem?_ofFn, dif_pos hi] at hx
     exact (Option.some.inj hx).symm
    subst hx'
    obtain ⟨c1, c2⟩ := U5 (hg ⟨i, hi⟩).1
    refine ⟨c1, fun j v hv => ?_⟩
    have hj : j < sz := by
     rcases Nat.lt_or_ge j sz with h | h
     ·exact h
     ·rw [List.getElem?_eq_none (by omega)] at hv; cases hv
    have := c2 j hj
    rw [hv, Addr.add_lit, Addr.add_lit] at this
    exact this
  have hm' : Y4 ≤ 9223372036854775807 := by simpa [maxLen] using hm
  have hfr : FrS (fun b => w.heap[b]?) sz (.slice (some a) len Y4) ((List.ofFn g).map fun p => p.1) := ⟨⟨some a, Y4, by simp, by simpa using hl, hm', Row.snap hrow hsz'⟩⟩
  refine ⟨_, (List.ofFn g).map Prod.snd, rfl, ?_, ?_, fun d => ?_⟩
  ·refine Ja8 (css := (List.ofFn g).map Prod.fst) ?_ ⟨by simp, fun i c y hc hy => ?_⟩
   ·have : ((List.ofFn g).map Prod.fst).map idC = (List.ofFn g).map fun p => p.1 := by rw [List.map_map]; rfl
    rw [this]; exact hfr
   ·simp only [List.getElem?_map, Option.map_eq_some_iff] at hc hy
    obtain ⟨p, hp, rfl⟩ := hc
    obtain ⟨q, hq, rfl⟩ := hy
    rw [hp] at hq
    cases hq
    have hpm := List.mem_of_getElem? hp
    rw [List.mem_ofFn] at hpm
    obtain ⟨j, rfl⟩ := hpm
    exact ⟨(hg j).2.1, (hg j).2.2.1⟩
  ·have h1 := Jgk K.one (elems.map (·.1))
   have h2 := K.slice (elems.map (·.1)) (rest.map (·.1))
   rw [hx]
   simp only [List.length_map, List.length_ofFn] at h1 ⊢
   omega
  ·have h2 := K.slice (elems.map (·.1)) (rest.map (·.1))
   rw [hx]
   refine Nat.le_trans (Jjl (by simp [hlen]) fun i a y ha hy => ?_) h2
   rw [List.getElem?_map, Option.map_eq_some_iff] at ha hy
   obtain ⟨p, hp, rfl⟩ := ha
   obtain ⟨y, hy, rfl⟩ := hy
   have hi : i < len := by
    rcases Nat.lt_or_ge i len with h | h
    ·exact h
    ·rw [List.getElem?_eq_none (by simpa using h)] at hp; cases hp
   rw [List.getElem?_ofFn, dif_pos hi] at hp
   cases hp
   exact (hg ⟨i, hi⟩).2.2.2 d y hy
end
end Go.Lx
