/- Rules: maps of one's own: made, read, written, ranged over in whatever order. Conditions: those that each rule names. -/
import Derived.Test.YthhaabhnlndnoaaGreatLx23
import Derived.Test.YthhaabhnlndnoaaGreatMd7
import Derived.Maps.RangeRun
namespace Go.Lx
open Go Go.Vc Go.Md
open Go.MapKept (IsKey Stamped)

/-- How keys are told: each is a key, and two of them are never the same value. -/
structure KeyF {κ : Type} (d : TypeDesc) (fk : κ → Value) : Prop where
  isKey : ∀ k, IsKey d (fk k)
  inj : ∀ a b, fk a = fk b → a = b

theorem keyF_int {k : IntKind} : KeyF (.int k) (fun x : Int => Value.int k x) := ⟨fun x => by simp [IsKey], fun a b h => by simpa using h⟩
theorem keyF_str : KeyF .string (fun x : List UInt8 => str x) := ⟨fun x => by simp [IsKey, str], fun a b h => by simpa [str] using h⟩
theorem keyF_bool : KeyF .bool (fun x : Bool => Value.bool x) := ⟨fun x => by simp [IsKey], fun a b h => by simpa using h⟩

/-- What the entries of a map stand for. -/
def Ents {κ ν : Type} (fk : κ → Value) (fv : ν → Value) (es : List MapEntry) (xs : List (κ × ν)) : Prop := es.map (fun e => (e.key, e.val)) = xs.map (fun p => (fk p.1, fv p.2))

def mapC {κ ν : Type} (fk : κ → Value) (fv : ν → Value) (b : Nat) (xs : List (κ × ν)) : Chunk where
  P S w := (∀ x, S x ↔ x = b) ∧ ∃ es clock, w.heap[b]? = some (.map es clock) ∧ Stamped es clock ∧ Ents fk fv es.toList xs
  loc S w w' h hp := ⟨hp.1, by rw [h b ((hp.1 b).2 rfl)]; exact hp.2⟩

theorem Ents.len {κ ν : Type} {fk : κ → Value} {fv : ν → Value} {es : List MapEntry} {xs : List (κ × ν)} (h : Ents fk fv es xs) : es.length = xs.length := by
  have := congrArg List.length h; simpa using this
theorem Ents.keys {κ ν : Type} {fk : κ → Value} {fv : ν → Value} {es : List MapEntry} {xs : List (κ × ν)} (h : Ents fk fv es xs) : es.map (·.key) = xs.map (fun p => fk p.1) := by
  have := congrArg (List.map Prod.fst) h; simpa [Function.comp_def] using this
theorem Ents.isKey {κ ν : Type} {d : TypeDesc} {fk : κ → Value} {fv : ν → Value} (K : KeyF d fk) {es : List MapEntry} {xs : List (κ × ν)} (h : Ents fk fv es xs) : ∀ x ∈ es, IsKey d x.key := by
  intro x hx
  have : x.key ∈ es.map (·.key) := List.mem_map.2 ⟨x, hx, rfl⟩
  rw [h.keys] at this
  obtain ⟨p, _, hp⟩ := List.mem_map.1 this
  rw [← hp]; exact K.isKey _
theorem Ents.at {κ ν : Type} {fk : κ → Value} {fv : ν → Value} {es : List MapEntry} {xs : List (κ × ν)} (h : Ents fk fv es xs) {j : Nat} {e : MapEntry} (he : es[j]? = some e) : ∃ p, xs[j]? = some p ∧ e.key = fk p.1 ∧ e.val = fv p.2 := by
  have := congrArg (fun l => l[j]?) h
  simp only [List.getElem?_map, he, Option.map_some] at this
  cases hx : xs[j]? with
  | none => rw [hx] at this; simp at this
  | some p => rw [hx] at this; simp at this; exact ⟨p, rfl, this.1, this.2⟩

section find
variable {κ ν : Type} [DecidableEq κ] {d : TypeDesc} {fk : κ → Value} {fv : ν → Value}

theorem mGet_none {xs : List (κ × ν)} {k : κ} (h : ∀ p ∈ xs, p.1 ≠ k) : mGet xs k = none ∧ mHas xs k = false := by
  constructor
  · unfold mGet
    rw [List.find?_eq_none.2 (fun p hp => by simpa using h p hp)]; rfl
  · unfold mHas
    rw [List.any_eq_false]
    intro p hp; simpa using h p hp
theorem mGet_at : ∀ {xs : List (κ × ν)} {k : κ} {j : Nat} {v : ν}, (xs.map (·.1)).Nodup → xs[j]? = some (k, v) → mGet xs k = some v ∧ mHas xs k = true
  | [], _, j, _, _, h => by simp at h
  | p :: xs, k, 0, v, _, h => by simp at h; subst h; simp [mGet, mHas]
  | p :: xs, k, j + 1, v, hn, h => by
    simp only [List.getElem?_cons_succ] at h
    simp only [List.map_cons, List.nodup_cons] at hn
    have hne : p.1 ≠ k := fun q => hn.1 (q ▸ List.mem_map.2 ⟨(k, v), List.mem_of_getElem? h, rfl⟩)
    obtain ⟨h1, h2⟩ := mGet_at hn.2 h
    constructor
    · unfold mGet at h1 ⊢
      rw [List.find?_cons_of_neg (by simpa using hne)]; exact h1
    · unfold mHas at h2 ⊢
      simp only [List.any_cons, h2, Bool.or_true]

omit [DecidableEq κ] in
theorem nodup_of (K : KeyF d fk) {es : List MapEntry} {xs : List (κ × ν)} (h : Ents fk fv es xs) (hn : (es.map (·.key)).Nodup) : (xs.map (·.1)).Nodup := by
  rw [h.keys] at hn
  have : xs.map (fun p => fk p.1) = (xs.map (·.1)).map fk := by simp
  rw [this] at hn
  exact (List.pairwise_map.1 hn).imp fun h q => h (congrArg fk q)

/-- What a look for a key finds. -/
theorem find_map (K : KeyF d fk) {es : List MapEntry} {xs : List (κ × ν)} (h : Ents fk fv es xs) (hn : (es.map (·.key)).Nodup) (k : κ) :
    (Instr.findNow d (fk k) es 0 = some none ∧ (∀ x ∈ es, x.key ≠ fk k) ∧ mGet xs k = none ∧ mHas xs k = false) ∨
    ∃ j e v, Instr.findNow d (fk k) es 0 = some (some (j, e.val)) ∧ es[j]? = some e ∧ e.key = fk k ∧ e.val = fv v ∧ xs[j]? = some (k, v) ∧ mGet xs k = some v ∧ mHas xs k = true := by
  rcases Go.MapKept.findNow_spec (K.isKey k) es 0 (h.isKey K) with ⟨h1, h2⟩ | ⟨j, e, h1, h2, h3⟩
  · refine .inl ⟨h1, h2, mGet_none fun p hp q => ?_⟩
    have : fk p.1 ∈ es.map (·.key) := by rw [h.keys]; exact List.mem_map.2 ⟨p, hp, rfl⟩
    obtain ⟨x, hx, hk⟩ := List.mem_map.1 this
    exact h2 x hx (by rw [hk, q])
  · obtain ⟨p, hp, e1, e2⟩ := h.at h2
    have hk : p.1 = k := K.inj _ _ (e1.symm.trans h3)
    have hp' : xs[j]? = some (k, p.2) := by rw [hp, ← hk]
    have := mGet_at (nodup_of K h hn) hp'
    exact .inr ⟨j, e, p.2, by simpa using h1, h2, h3, e2, hp', this.1, this.2⟩
end find

theorem ents_modify {κ ν : Type} [DecidableEq κ] {fk : κ → Value} {fv : ν → Value} {es : Array MapEntry} {xs : List (κ × ν)} {j : Nat} {k : κ} {v v0 : ν} (h : Ents fk fv es.toList xs) (hn : (xs.map (·.1)).Nodup) (hj : xs[j]? = some (k, v0)) (hh : mHas xs k = true) :
    Ents fk fv (es.modify j fun e => { e with key := fk k, val := fv v }).toList (mSet xs k v) := by
  have hm : mSet xs k v = xs.map fun p => if p.1 = k then (k, v) else p := by unfold mSet; rw [if_pos hh]
  rw [hm]
  unfold Ents
  apply List.ext_getElem?
  intro i
  have hi := congrArg (fun l => l[i]?) h
  simp only [List.getElem?_map, Array.getElem?_toList, Array.getElem?_modify] at hi ⊢
  by_cases hij : j = i
  · subst hij
    rw [hj] at hi ⊢
    simp only [if_true, Option.map_some, Option.map_map]
    cases he : es[j]? with
    | none => rw [he] at hi; simp at hi
    | some e => simp
  · rw [if_neg hij, hi]
    cases hx : xs[i]? with
    | none => rfl
    | some p =>
      have hne : p.1 ≠ k := by
        intro q
        have hil : i < xs.length := by
          rcases Nat.lt_or_ge i xs.length with h | h
          · exact h
          · rw [List.getElem?_eq_none h] at hx; cases hx
        have hjl : j < xs.length := by
          rcases Nat.lt_or_ge j xs.length with h | h
          · exact h
          · rw [List.getElem?_eq_none h] at hj; cases hj
        have H := List.pairwise_iff_getElem.1 hn
        have ej : (xs.map (·.1))[j]'(by simpa using hjl) = k := by
          have := (List.getElem?_eq_some_iff.1 hj).2; simp [this]
        have ei : (xs.map (·.1))[i]'(by simpa using hil) = k := by
          have := (List.getElem?_eq_some_iff.1 hx).2; simp [this, q]
        rcases Nat.lt_trichotomy j i with l | l | l
        · exact H j i (by simpa using hjl) (by simpa using hil) l (ej.trans ei.symm)
        · exact hij l
        · exact H i j (by simpa using hil) (by simpa using hjl) l (ei.trans ej.symm)
      simp [hne]

theorem ents_push {κ ν : Type} [DecidableEq κ] {fk : κ → Value} {fv : ν → Value} {es : Array MapEntry} {xs : List (κ × ν)} {k : κ} {v : ν} {c : Nat} (h : Ents fk fv es.toList xs) (hh : mHas xs k = false) :
    Ents fk fv (es.push { key := fk k, val := fv v, born := c }).toList (mSet xs k v) := by
  have hm : mSet xs k v = xs ++ [(k, v)] := by unfold mSet; rw [if_neg (by simp [hh])]
  rw [hm]
  unfold Ents at h ⊢
  simp [h]

section ops
variable {P : Program} {cx : Cx} {e : Env} {L : List Chunk} {ty : TypeId} {pos : String} {af : Array Edge} {g : Option (Nat × Bool)}
variable {κ ν : Type} [DecidableEq κ] {fk : κ → Value} {fv : ν → Value}

omit [DecidableEq κ] in
theorem makes_map {t d : Nat} {rds : List Nat} : Makes P cx e ⟨some d, .makeMap t none, ty, pos, af, g⟩ L rds (fun b : Nat => .map (some b)) (fun b => mapC fk fv b ([] : List (κ × ν))) := fun w L' hF hS _ => by
  unfold RunsTo
  have hr : (execOp (ev e) ⟨some d, .makeMap t none, ty, pos, af, g⟩).run P w = .ok (.value (.map (some w.heap.size))) (w.alloc (.map #[] 0)) := by
    simp [execOp, Instr.makeMap]
  rw [hr]
  have gr := grow_alloc w (.map #[] 0)
  exact ⟨w.heap.size, rfl, gr.os, gr.tape, gr.output, gr.size, fun b hb _ => gr.block b hb, fun x => x = w.heap.size, ⟨fun _ => Iff.rfl, #[], 0, Go.heap_alloc_new w _, Go.MapKept.stamped_empty 0, rfl⟩, fun b hb => by subst hb; exact ⟨by simp, .inr (Nat.le_refl _)⟩⟩

theorem run_lookup {d : Option Nat} {dk : TypeDesc} {t kt et : TypeId} {X I : Operand} {b i : Nat} {xs : List (κ × ν)} {k : κ} {z : ν} {w : World} (K : KeyF dk fk) (ht : P.underlying t = some (.map kt et)) (hk : P.underlying kt = some dk) (hz : ∀ w, (zeroValue et).run P w = .ok (fv z) w)
    (hx : ev e X = .map (some b)) (hi : ev e I = fk k) (hS : Sat cx w L) (hL : L[i]? = some (mapC fk fv b xs)) :
    (execOp (ev e) ⟨d, .lookup t X I false, ty, pos, af, g⟩).run P w = .ok (.value (fv ((mGet xs k).getD z))) w := by
  obtain ⟨S, ⟨_, es, clock, hb, hst, hen⟩, _⟩ := hS.at hL
  rcases find_map K hen hst.2.2 k with ⟨h1, _, h3, _⟩ | ⟨j, e0, v, h1, _, _, h4, _, h6, _⟩
  · simp [execOp, Instr.lookup, hx, hi, run_underlying ht, Go.MapKept.run_getObj_map hb, Go.MapKept.run_checkKey hk (K.isKey k), Go.MapKept.run_findKey hk h1, hz w, h3, Result.andThen]
  · simp [execOp, Instr.lookup, hx, hi, run_underlying ht, Go.MapKept.run_getObj_map hb, Go.MapKept.run_checkKey hk (K.isKey k), Go.MapKept.run_findKey hk h1, h6, h4, Result.andThen]

theorem run_lookupOk {d : Option Nat} {dk : TypeDesc} {t kt et : TypeId} {X I : Operand} {b i : Nat} {xs : List (κ × ν)} {k : κ} {z : ν} {w : World} (K : KeyF dk fk) (ht : P.underlying t = some (.map kt et)) (hk : P.underlying kt = some dk) (hz : ∀ w, (zeroValue et).run P w = .ok (fv z) w)
    (hx : ev e X = .map (some b)) (hi : ev e I = fk k) (hS : Sat cx w L) (hL : L[i]? = some (mapC fk fv b xs)) :
    (execOp (ev e) ⟨d, .lookup t X I true, ty, pos, af, g⟩).run P w = .ok (.value (.tuple #[fv ((mGet xs k).getD z), .bool (mHas xs k)])) w := by
  obtain ⟨S, ⟨_, es, clock, hb, hst, hen⟩, _⟩ := hS.at hL
  rcases find_map K hen hst.2.2 k with ⟨h1, _, h3, h5⟩ | ⟨j, e0, v, h1, _, _, h4, _, h6, h7⟩
  · simp [execOp, Instr.lookup, hx, hi, run_underlying ht, Go.MapKept.run_getObj_map hb, Go.MapKept.run_checkKey hk (K.isKey k), Go.MapKept.run_findKey hk h1, hz w, h3, h5, Result.andThen]
  · simp [execOp, Instr.lookup, hx, hi, run_underlying ht, Go.MapKept.run_getObj_map hb, Go.MapKept.run_checkKey hk (K.isKey k), Go.MapKept.run_findKey hk h1, h6, h4, h7, Result.andThen]

omit [DecidableEq κ] in
theorem run_lenMap {d : Option Nat} {t : TypeId} {kt et : TypeId} {X : Operand} {b i : Nat} {xs : List (κ × ν)} {w : World} {tys : Array TypeId} (ht : P.underlying t = some (.map kt et)) (hx : ev e X = .map (some b)) (hS : Sat cx w L) (hL : L[i]? = some (mapC fk fv b xs)) (hty : tys = #[t]) :
    (execOp (ev e) ⟨d, .call ⟨.builtin .len, #[X], tys⟩, ty, pos, af, g⟩).run P w = .ok (.value (.int .i64 (xs.length : Int))) w := by
  subst hty
  obtain ⟨S, ⟨_, es, clock, hb, hst, hen⟩, _⟩ := hS.at hL
  have hl : es.size = xs.length := by have := hen.len; simpa using this
  simp [execOp, resolve, invoke, builtin, hx, Builtin.len_, run_underlying ht, Go.MapKept.run_getObj_map hb, Result.andThen, goInt, hl]

/-- A map that takes a key with a value. -/
theorem turns_mset {u : Bool} {dk : TypeDesc} {t kt et : TypeId} {M I X : Operand} {b i : Nat} {xs : List (κ × ν)} {k : κ} {v : ν} {rds : List Nat} {o : Op} (K : KeyF dk fk) (ho : o = .insert t M I X ∨ o = .mapUpdate t M I X) (ht : P.underlying t = some (.map kt et)) (hk : P.underlying kt = some dk)
    (hm : ev e M = .map (some b)) (hi : ev e I = fk k) (hx : ev e X = fv v) (hL : L[i]? = some (mapC fk fv b xs)) {dst : Option Nat} :
    Turns P cx e ⟨dst, o, ty, pos, af, g⟩ L i rds (fun _ : Unit => undef) (fun _ => mapC fk fv b (mSet xs k v)) := fun w L' hF hS _ hi' => by
  have hL' := (hi' i (.inr rfl)).trans hL
  obtain ⟨S, ⟨_, es, clock, hb, hst, hen⟩, _⟩ := hS.at hL'
  have hlt : b < w.heap.size := (Array.getElem?_eq_some_iff.1 hb).1
  obtain ⟨es', clock', hrun, hst', hen'⟩ : ∃ es' clock', (execOp (ev e) ⟨dst, o, ty, pos, af, g⟩).run P w = .ok .skip { w with heap := w.heap.setIfInBounds b (.map es' clock') } ∧ Stamped es' clock' ∧ Ents fk fv es'.toList (mSet xs k v) := by
    rcases find_map K hen hst.2.2 k with ⟨h1, h2, _, h4⟩ | ⟨j, e0, v0, h1, h2, h3, _, h5, _, h7⟩
    · refine ⟨_, _, ?_, Go.MapKept.stamped_push hst h2, ents_push (v := v) hen h4⟩
      rcases ho with rfl | rfl <;> simp [execOp, Instr.mapUpdate, hm, hi, hx, run_underlying ht, Go.MapKept.run_getObj_map hb, Go.MapKept.run_checkKey hk (K.isKey k), Go.MapKept.run_findKey hk h1, Go.MapKept.run_setObj_map _ hb, Result.andThen]
    · have h2' : es[j]? = some e0 := by simpa using h2
      refine ⟨es.modify j fun e => { e with key := fk k, val := fv v }, clock, ?_, Go.MapKept.stamped_modify hst j _ (fun _ _ => rfl) (fun x _ hx => by rw [h2'] at hx; cases hx; exact h3.symm), ents_modify (v := v) hen (nodup_of K hen hst.2.2) h5 h7⟩
      rcases ho with rfl | rfl <;> simp [execOp, Instr.mapUpdate, hm, hi, hx, run_underlying ht, Go.MapKept.run_getObj_map hb, Go.MapKept.run_checkKey hk (K.isKey k), Go.MapKept.run_findKey hk h1, h2', h3, Go.MapKept.run_keyThatStays (K.isKey k), Go.MapKept.run_setObj_map _ hb, Result.andThen]
  unfold RunsTo
  rw [hrun]
  have hS' := hS.turnOf (w' := { w with heap := w.heap.setIfInBounds b (.map es' clock') }) hF hL' (C := mapC fk fv b (mSet xs k v)) fun S1 hp1 =>
    ⟨rfl, rfl, rfl, by simp, fun x _ hx => by rw [Array.getElem?_setIfInBounds_ne (fun h => hx ((hp1.1 x).2 h.symm))], S1, ⟨hp1.1, es', clock', by simp [hlt], hst', hen'⟩, fun x hx => ⟨by rw [(hp1.1 x).1 hx]; simpa using hlt, .inl hx⟩⟩
  exact ⟨(), rfl, hS'.1, hS'.2⟩

/-! ### a range over a map, in whatever order -/

/-- A map that is ranged over, with its iterator: what has not come yet, and what came last. -/
def mitC {κ ν : Type} (fk : κ → Value) (fv : ν → Value) (b r : Nat) (xs rest : List (κ × ν)) (cur : Option (κ × ν)) : Chunk where
  P S w := (∀ x, S x ↔ x = b ∨ x = r) ∧ b ≠ r ∧ ∃ (es : Array MapEntry) (clock : Nat) (seen : Array Nat), w.heap[b]? = some (.map es clock) ∧ w.heap[r]? = some (.mapIter (some b) clock seen clock) ∧ Stamped es clock ∧ Ents fk fv es.toList xs ∧ Ents fk fv (leftOf es seen).toList rest ∧
    ∀ p, cur = some p → ∃ (seen0 : Array Nat) (e : MapEntry), seen = seen0.push e.born ∧ e ∈ es.toList ∧ e.key = fk p.1 ∧ e.val = fv p.2
  loc S w w' h hp := ⟨hp.1, hp.2.1, by rw [h b ((hp.1 b).2 (.inl rfl)), h r ((hp.1 r).2 (.inr rfl))]; exact hp.2.2⟩

omit [DecidableEq κ] in
theorem imp_mit {b r : Nat} {xs rest : List (κ × ν)} (cur : Option (κ × ν)) : Imp (mitC fk fv b r xs rest cur) (mitC fk fv b r xs rest none) :=
  ⟨fun S w ⟨h1, h2, es, clock, seen, h3, h4, h5, h6, h7, _⟩ => ⟨h1, h2, es, clock, seen, h3, h4, h5, h6, h7, fun p hp => by cases hp⟩⟩

omit [DecidableEq κ] in
theorem turns_rangeM {t kt et d i b : Nat} {X : Operand} {xs : List (κ × ν)} {rds : List Nat} (ht : P.underlying t = some (.map kt et)) (hx : ev e X = .map (some b)) (hL : L[i]? = some (mapC fk fv b xs)) :
    Turns P cx e ⟨some d, .range t X, ty, pos, af, g⟩ L i rds (fun r : Nat => .pointer (some ⟨r, 0, none⟩)) (fun r => mitC fk fv b r xs xs none) := fun w L' hF hS _ hi' => by
  have hL' := (hi' i (.inr rfl)).trans hL
  obtain ⟨S, ⟨_, es, clock, hb, hst, hen⟩, _⟩ := hS.at hL'
  have hlt : b < w.heap.size := (Array.getElem?_eq_some_iff.1 hb).1
  unfold RunsTo
  have hr : (execOp (ev e) ⟨some d, .range t X, ty, pos, af, g⟩).run P w = .ok (.value (.pointer (some ⟨w.heap.size, 0, none⟩))) (w.alloc (.mapIter (some b) clock #[] clock)) := by
    have := run_range_map (P := P) w t kt et b es clock ht hb
    simp [execOp, hx, this, Result.andThen]
  rw [hr]
  have gr := grow_alloc w (.mapIter (some b) clock #[] clock)
  have hleft : leftOf es #[] = es := by unfold leftOf; simp
  have hS' := hS.turnOf (w' := w.alloc (.mapIter (some b) clock #[] clock)) hF hL' (C := mitC fk fv b w.heap.size xs xs none) fun S1 hp1 =>
    ⟨gr.os, gr.tape, gr.output, gr.size, fun x hx _ => gr.block x hx, fun x => x = b ∨ x = w.heap.size, ⟨fun _ => Iff.rfl, by omega, es, clock, #[], by rw [heap_alloc_old w _ hlt]; exact hb, Go.heap_alloc_new w _, hst, hen, by rw [hleft]; exact hen, fun p hp => by cases hp⟩, fun x hx => by
      rcases hx with rfl | rfl
      · exact ⟨by simp; omega, .inl ((hp1.1 _).2 rfl)⟩
      · exact ⟨by simp, .inr (Nat.le_refl _)⟩⟩
  exact ⟨_, rfl, hS'.1, hS'.2⟩

theorem filter_born : ∀ {l : List MapEntry} {j : Nat} {e : MapEntry}, (l.map (·.born)).Nodup → l[j]? = some e → l.filter (fun x => decide (x.born ≠ e.born)) = l.eraseIdx j
  | [], _, _, _, h => by simp at h
  | x :: l, 0, e, hn, h => by
    simp at h; subst h
    simp only [List.map_cons, List.nodup_cons] at hn
    rw [List.filter_cons_of_neg (by simp)]
    simp only [List.eraseIdx_cons_zero]
    exact List.filter_eq_self.2 fun y hy => by
      have : y.born ≠ x.born := fun q => hn.1 (q ▸ List.mem_map.2 ⟨y, hy, rfl⟩)
      simpa using this
  | x :: l, j + 1, e, hn, h => by
    simp only [List.getElem?_cons_succ] at h
    simp only [List.map_cons, List.nodup_cons] at hn
    have : x.born ≠ e.born := fun q => hn.1 (q ▸ List.mem_map.2 ⟨e, List.mem_of_getElem? h, rfl⟩)
    rw [List.filter_cons_of_pos (by simpa using this), List.eraseIdx_cons_succ, filter_born hn.2 h]

omit [DecidableEq κ] in
theorem Ents.erase {es : List MapEntry} {xs : List (κ × ν)} (h : Ents fk fv es xs) (j : Nat) : Ents fk fv (es.eraseIdx j) (xs.eraseIdx j) := by
  unfold Ents at h ⊢
  have E : ∀ {α β : Type} (f : α → β) (l : List α) (j : Nat), (l.eraseIdx j).map f = (l.map f).eraseIdx j := by
    intro α β f l
    induction l with
    | nil => intro j; simp
    | cons x l ih => intro j; cases j <;> simp [ih]
  rw [E, E, h]

omit [DecidableEq κ] in
theorem turns_nextM {d i b r : Nat} {X : Operand} {xs rest : List (κ × ν)} {cur : Option (κ × ν)} {rds : List Nat} (hx : ev e X = .pointer (some ⟨r, 0, none⟩)) (hL : L[i]? = some (mitC fk fv b r xs rest cur)) (hr : (!rest.isEmpty) = true) :
    Turns P cx e ⟨some d, .next X false, ty, pos, af, g⟩ L i rds (fun q : { q : (κ × ν) × List (κ × ν) // Pick rest q.1 q.2 } => .tuple #[.bool true, fk q.1.1.1, fv q.1.1.2]) (fun q => mitC fk fv b r xs q.1.2 (some q.1.1)) := fun w L' hF hS _ hi' => by
  have hL' := (hi' i (.inr rfl)).trans hL
  obtain ⟨S, ⟨_, hbr, es, clock, seen, hb, hit, hst, hen, hlf, _⟩, _⟩ := hS.at hL'
  have hlb : b < w.heap.size := (Array.getElem?_eq_some_iff.1 hb).1
  have hlr : r < w.heap.size := (Array.getElem?_eq_some_iff.1 hit).1
  rcases run_next_at (P := P) w ty r b clock clock seen es clock hit hb hst.1 (Nat.le_refl _) with ⟨h0, _⟩ | ⟨en, hen0, w1, hw1, hrun⟩
  · exfalso
    have := hlf.len
    simp at this
    have h0' : rest.length = 0 := by omega
    have : rest = [] := List.eq_nil_of_length_eq_zero h0'
    subst this; simp at hr
  · obtain ⟨j, hj⟩ := List.mem_iff_getElem?.1 hen0
    obtain ⟨p, hp, hk, hv⟩ := hlf.at hj
    have hall : ∀ x, x ∈ (leftOf es seen).toList → x ∈ es.toList := by
      intro x hx; unfold leftOf at hx; simp at hx; simpa using hx.1
    have hnod : ((leftOf es seen).toList.map (·.born)).Nodup := by
      have hs : (leftOf es seen).toList.Sublist es.toList := by unfold leftOf; simp only [Array.toList_filter]; exact List.filter_sublist
      exact (hs.map _).nodup hst.2.1
    have hleft : (leftOf es (seen.push en.born)).toList = (leftOf es seen).toList.eraseIdx j := by
      rw [← filter_born hnod hj]
      unfold leftOf
      simp only [Array.toList_filter, List.filter_filter]
      refine List.filter_congr fun x _ => ?_
      simp only [Array.contains_push]
      by_cases hxe : x.born = en.born <;> simp [hxe, Bool.and_comm]
      all_goals try (cases seen.contains x.born <;> simp_all [eq_comm])
    have hpick : Pick rest p (rest.eraseIdx j) := ⟨j, hp, rfl⟩
    unfold RunsTo
    have hr' : (execOp (ev e) ⟨some d, .next X false, ty, pos, af, g⟩).run P w = .ok (.value (.tuple #[.bool true, en.key, en.val])) (Go.ChangeMaps.setBlock w1 r (.mapIter (some b) clock (seen.push en.born) clock)) := by
      simp [execOp, hx, hrun, Result.andThen]
    rw [hr']
    have hw : w1.heap = w.heap ∧ w1.os = w.os ∧ w1.tape = w.tape ∧ w1.output = w.output := by rcases hw1 with rfl | rfl <;> exact ⟨rfl, rfl, rfl, rfl⟩
    obtain ⟨e1, e2, e3, e4⟩ := hw
    have hS' := hS.turnOf (w' := Go.ChangeMaps.setBlock w1 r (.mapIter (some b) clock (seen.push en.born) clock)) hF hL' (C := mitC fk fv b r xs (rest.eraseIdx j) (some p)) fun S1 hp1 =>
      ⟨e2, e3, e4, by simp [Go.ChangeMaps.setBlock, e1], fun x _ hx => by
        have : r ≠ x := fun q => hx ((hp1.1 x).2 (.inr q.symm))
        simp only [Go.ChangeMaps.setBlock, e1]
        rw [Array.getElem?_setIfInBounds_ne this], S1, ⟨hp1.1, hbr, es, clock, seen.push en.born, by
          simp only [Go.ChangeMaps.setBlock, e1]; rw [Array.getElem?_setIfInBounds_ne (Ne.symm hbr)]; exact hb, by simp [Go.ChangeMaps.setBlock, e1, hlr], hst, hen, by rw [hleft]; exact hlf.erase j, fun q hq => by cases hq; exact ⟨seen, en, rfl, hall _ hen0, hk, hv⟩⟩, fun x hx => by
          refine ⟨?_, .inl hx⟩
          rcases (hp1.1 x).1 hx with rfl | rfl
          · simpa [Go.ChangeMaps.setBlock, e1] using hlb
          · simpa [Go.ChangeMaps.setBlock, e1] using hlr⟩
    exact ⟨⟨(p, rest.eraseIdx j), hpick⟩, by simp [hk, hv], hS'.1, hS'.2⟩

omit [DecidableEq κ] in
theorem r_nextOverM {d : Option Nat} {X : Operand} {i b r : Nat} {xs rest : List (κ × ν)} {cur : Option (κ × ν)} {w : World} (hS : Sat cx w L) (hL : L[i]? = some (mitC fk fv b r xs rest cur)) (hx : ev e X = .pointer (some ⟨r, 0, none⟩)) (hr : (!rest.isEmpty) = false) :
    (execOp (ev e) ⟨d, .next X false, ty, pos, af, g⟩).run P w = .ok (.value (.tuple #[.bool false])) w := by
  obtain ⟨S, ⟨_, hbr, es, clock, seen, hb, hit, hst, hen, hlf, _⟩, _⟩ := hS.at hL
  rcases run_next_at (P := P) w ty r b clock clock seen es clock hit hb hst.1 (Nat.le_refl _) with ⟨_, hrun⟩ | ⟨en, hen0, _⟩
  · simp [execOp, hx, hrun, Result.andThen]
  · exfalso
    have h1 := hlf.len
    have h2 : rest = [] := by simpa using hr
    subst h2
    have h3 := List.length_pos_of_mem hen0
    rw [h1] at h3; simp at h3

omit [DecidableEq κ] in
theorem r_entryM {d : Option Nat} {X : Operand} {i b r : Nat} {xs rest : List (κ × ν)} {p : κ × ν} {w : World} (hS : Sat cx w L) (hL : L[i]? = some (mitC fk fv b r xs rest (some p))) (hx : ev e X = .pointer (some ⟨r, 0, none⟩)) :
    (execOp (ev e) ⟨d, .entry X, ty, pos, af, g⟩).run P w = .ok (.value (.tuple #[fk p.1, fv p.2])) w := by
  obtain ⟨S, ⟨_, hbr, es, clock, seen, hb, hit, hst, hen, hlf, hcur⟩, _⟩ := hS.at hL
  obtain ⟨seen0, en, rfl, hm, hk, hv⟩ := hcur p rfl
  have hrun := run_entry_at (P := P) w r b clock seen0 es clock en hit hb hm hst.2.1
  simp [execOp, hx, hrun, hk, hv, Result.andThen]
end ops

def mapB (v : Value) : Nat := match v with | .map (some b) => b | _ => 0

section rules
variable {P : Program} {n : Nat} {cx : Cx} {Q : Post} {e : Env} {L : List Chunk} {ops : Array Oper} {rest_ : List Oper} {ty : TypeId} {pos : String} {af : Array Edge} {g : Option (Nat × Bool)} {κ ν : Type} {fk : κ → Value} {fv : ν → Value}
theorem l_nextM {d i b r : Nat} {X : Operand} {xs rest : List (κ × ν)} {cur : Option (κ × ν)} (hx : ev e X = .pointer (some ⟨r, 0, none⟩)) (hL : L[i]? = some (mitC fk fv b r xs rest cur)) (hr : (!rest.isEmpty) = true)
    (hw : want ops ⟨some d, .next X false, ty, pos, af, g⟩ e = true) (hd : Nat.blt d n = true) (_ : True = True)
    (k : ∀ p rest', Pick rest p rest' → At cx (WL P n ops Q rest_) (upd e d (.tuple #[.bool true, fk p.1, fv p.2])) (L.set i (mitC fk fv b r xs rest' (some p)))) : At cx (WL P n ops Q (⟨some d, .next X false, ty, pos, af, g⟩ :: rest_)) e L :=
  l_turn (turns_nextM (rds := []) hx hL hr) hw rfl hd fun q => k q.1.1 q.1.2 q.2
end rules
end Go.Lx
