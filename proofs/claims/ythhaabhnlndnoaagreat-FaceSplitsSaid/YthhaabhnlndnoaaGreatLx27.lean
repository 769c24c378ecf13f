/- Rules: maps that are only read; the kit's contract of slices.Compact at []int. Conditions: none. -/
import Derived.Test.YthhaabhnlndnoaaGreatLx24
import Derived.Test.YthhaabhnlndnoaaGreatLx18
import Derived.Shelf.Slices.CompactI
import Derived.Test.YthhaabhnlndnoaaGreatLx16
import Derived.Test.YthhaabhnlndnoaaGreatMd7
import Derived.Shelf.SlSortCmp.WholeK
import Derived.Shelf.SlSortCmp.NoneTotal
namespace Go.Lx
open Go Go.Vc Go.Md
open Go.MapKept (IsKey Stamped)

/-- A map that is only read. -/
structure FrM {κ ν : Type} (h : Heap) (fk : κ → Value) (fv : ν → Value) (v : Value) (xs : List (κ × ν)) : Prop where
  out : ∃ b es clock, v = .map (some b) ∧ h b = some (.map es clock) ∧ Stamped es clock ∧ Ents fk fv es.toList xs

section
variable {κ ν : Type} {fk : κ → Value} {fv : ν → Value} {h h' : Heap} {v : Value} {xs : List (κ × ν)}
theorem FrM.mono (f : FrM h fk fv v xs) (k : ∀ b o, h b = some o → h' b = some o) : FrM h' fk fv v xs := by
  obtain ⟨b, es, c, h1, h2, h3, h4⟩ := f.out
  exact ⟨b, es, c, h1, k _ _ h2, h3, h4⟩
theorem FrM.cells (f : FrM h fk fv v xs) : v.cells.toList = [v] := by
  obtain ⟨b, es, c, rfl, _⟩ := f.out; rfl
theorem FrM.one (f : FrM h fk fv v xs) : v.oneCell' = true := by
  obtain ⟨b, es, c, rfl, _⟩ := f.out; rfl
end

section
variable {P : Program} {cx : Cx} {e : Env} {L : List Chunk} {ty : TypeId} {pos : String} {af : Array Edge} {g : Option (Nat × Bool)}
variable {κ ν : Type} {fk : κ → Value} {fv : ν → Value}
theorem frs_map {w : World} {i b : Nat} {xs : List (κ × ν)} (hS : Sat cx w L) (hL : L[i]? = some (mapC fk fv b xs)) : FrM (fun b => w.heap[b]?) fk fv (.map (some b)) xs := by
  obtain ⟨S, ⟨_, es, c, hb, hst, hen⟩, _⟩ := hS.at hL
  exact ⟨b, es, c, rfl, hb, hst, hen⟩
theorem frb_map {w : World} {S : Nat → Prop} {i j b : Nat} {xs : List (κ × ν)} {L' : List Chunk} (hA : Apart L' i w S) (hji : j ≠ i) (hL : L'[j]? = some (mapC fk fv b xs)) : FrM (but w S) fk fv (.map (some b)) xs := by
  obtain ⟨S', ⟨h1, es, c, hb, hst, hen⟩, h2⟩ := hA j _ hji hL
  exact ⟨b, es, c, rfl, but_some hb (h2 b ((h1 b).2 rfl)), hst, hen⟩
theorem run_lookupF [DecidableEq κ] {d : Option Nat} {dk : TypeDesc} {t kt et : TypeId} {X I : Operand} {v : Value} {xs : List (κ × ν)} {k : κ} {z : ν} {w : World} (K : KeyF dk fk) (ht : P.underlying t = some (.map kt et)) (hk : P.underlying kt = some dk) (hz : ∀ w, (zeroValue et).run P w = .ok (fv z) w)
    (hx : ev e X = v) (hi : ev e I = fk k) (f : FrM (fun b => w.heap[b]?) fk fv v xs) :
    (execOp (ev e) ⟨d, .lookup t X I false, ty, pos, af, g⟩).run P w = .ok (.value (fv ((mGet xs k).getD z))) w := by
  obtain ⟨b, es, clock, rfl, hb, hst, hen⟩ := f.out
  rcases find_map K hen hst.2.2 k with ⟨h1, _, h3, _⟩ | ⟨j, e0, v, h1, _, _, h4, _, h6, _⟩
  · simp [execOp, Instr.lookup, hx, hi, run_underlying ht, Go.MapKept.run_getObj_map hb, Go.MapKept.run_checkKey hk (K.isKey k), Go.MapKept.run_findKey hk h1, hz w, h3, Result.andThen]
  · simp [execOp, Instr.lookup, hx, hi, run_underlying ht, Go.MapKept.run_getObj_map hb, Go.MapKept.run_checkKey hk (K.isKey k), Go.MapKept.run_findKey hk h1, h6, h4, Result.andThen]
end
end Go.Lx
namespace Go.Vc
open Go Go.Md Go.Shelf Go.Sort Go.Proofs

theorem compact_ints {P : Program} {ρ : Ren} (Ly : Lays2.n20 P ρ) {E : TypeId} {a0 r : List Int} {p0 : Option Addr × Nat} {n0 : Nat} {w : World} {S : Nat → Prop}
    (hcs : (rowV E 1 (.slice p0.1 n0 p0.2) n0 (a0.map fun x => [.int .i64 x])).P S w) (hlt : ∀ b, S b → b < w.heap.size) (hn0 : n0 = a0.length) (H : gCmpI a0 = some r) :
    Does P (ρ.f 20) (List.toArray [.slice p0.1 n0 p0.2]) w (fun v w' => ∃ x : Option Addr × Nat, v = .slice x.1 r.length x.2 ∧ Turn w w' S (rowV E 1 (.slice x.1 r.length x.2) r.length (r.map fun x => [.int .i64 x]))) := by
  obtain ⟨p, c⟩ := p0
  unfold gCmpI at H
  split at H
  case isFalse => cases H
  rename_i hsz
  cases H
  subst hn0
  have hcs0 := hcs
  obtain ⟨⟨hown, hlen, hall⟩, hb⟩ := hcs
  rw [flat1] at hown
  rcases hown.2 with ⟨h0, h1⟩ | ⟨g, cap, cur, hv, hbase, hh, h1, h2, h3, h4⟩
  · have hnil : a0 = [] := List.eq_nil_of_length_eq_zero h1
    subst hnil
    refine Calls.mono (Any.slices_Compact_int_empty Ly p c w) ?_
    rintro e w' ⟨rfl, rfl⟩
    exact ⟨_, rfl, (p, c), rfl, ⟨rfl, rfl, rfl, Nat.le_refl _, fun _ _ _ => rfl, S, by simpa [cmpL] using hcs0, fun b h => ⟨hlt b h, .inl h⟩⟩⟩
  · simp only [Value.slice.injEq] at hv
    obtain ⟨hv1, -, hv2⟩ := hv
    subst hv1 hv2
    have hgl : g < w.heap.size := (Array.getElem?_eq_some_iff.1 hh).1
    have hH : Holds (Value.int .i64) w g 0 a0.toArray := holds_of_blockI hh (by simpa using h4)
    refine Calls.mono (Any.slices_Compact_int Ly g 0 c a0 w hH (by omega) h1) ?_
    rintro e w' ⟨rfl, q, rfl⟩
    rw [compact_lib]
    have hle := cmpL_len a0
    generalize hz : cmpL a0 = z at hle
    have hts : (z ++ List.replicate (a0.length - z.length) 0).length = a0.length := by simp; omega
    have hG := grownBy_sortedI (w := w) (g := g) (n := q) (os := #[]) (z ++ List.replicate (a0.length - z.length) 0).toArray
    have hR := ownsRow_sortedI (base := 0) (w := w) (n := q) (os := #[]) hts (Nat.zero_le _) hh h1 h2 h3
    have hgr : ∀ W : World, Go.Sort.grow W #[] = W := fun W => by cases W; simp [Go.Sort.grow]
    rw [hgr] at hG hR
    obtain ⟨g1, g2, g3, g4, g5⟩ := hG
    have hSg : S g := hb g rfl
    rcases hR.2 with ⟨h0, _⟩ | ⟨g', cap', cur', hv', hbase', hh', k1, k2, k3, k4⟩
    · cases h0
    · simp only [Value.slice.injEq, Option.some.injEq, Addr.mk.injEq, and_true, true_and] at hv'
      obtain ⟨rfl, rfl⟩ := hv'
      refine ⟨_, rfl, (some ⟨g, 0, none⟩, c), rfl, ⟨g1, g2, g3, g4, fun b hbl hnb => g5 b hbl (fun h => hnb (by cases h; exact hSg)), S, ⟨⟨?_, by simp, fun x hx => ?_⟩, fun b h => by cases h; exact hSg⟩, fun b h => ⟨Nat.lt_of_lt_of_le (hlt b h) g4, .inl h⟩⟩⟩
      · rw [flat1]
        refine ⟨by simp, .inr ⟨g, c, cur', rfl, Nat.zero_le _, hh', by omega, k2, k3, ?_⟩⟩
        have := congrArg (List.take z.length) k4
        have e2 : (List.map (Value.int .i64) (z ++ List.replicate (a0.length - z.length) 0)).take z.length = z.map (Value.int .i64) := by
          rw [List.map_append, List.take_append_of_le_length (by simp)]; exact List.take_of_length_le (by simp)
        rw [List.take_take, Nat.min_eq_left (by omega), e2] at this
        rw [Nat.mul_one]; exact this
      · obtain ⟨y, _, rfl⟩ := List.mem_map.1 hx
        rfl
end Go.Vc

/- The kit's contract of slices.SortFunc at rows of one's own of structs: the row is sorted in place. Conditions: the row is shorter than 2^62; the comparing function is a total order. -/
namespace Go.Vc
open Go Go.Md Go.Shelf Go.Sort Go.Proofs

theorem flatE_len {α : Type} (enc : α → List Value) (k : Nat) (hk : ∀ x, (enc x).length = k) (l : List α) : (l.map enc).flatten.length = l.length * k := by
  induction l with
  | nil => simp
  | cons x l ih => simp [ih, hk, Nat.add_mul]; omega

theorem flatE_get {α : Type} [Inhabited α] (enc : α → List Value) (k : Nat) (hk : ∀ x, (enc x).length = k) : ∀ (l : List α) (t : Nat), t < l.length * k → (l.map enc).flatten[t]? = some (enc (l[t / k]!))[t % k]!
  | [], t, h => by simp at h
  | x :: l, t, h => by
    have k0 : 0 < k := by rcases Nat.eq_zero_or_pos k with h0 | h0
                          · subst h0; simp at h
                          · exact h0
    rw [List.map_cons, List.flatten_cons]
    rcases Nat.lt_or_ge t k with h1 | h1
    · rw [List.getElem?_append_left (by rw [hk]; exact h1), Nat.div_eq_of_lt h1, Nat.mod_eq_of_lt h1, List.getElem!_cons_zero, List.getElem?_eq_getElem (by rw [hk]; exact h1), getElem!_pos _ t (by rw [hk]; exact h1)]
    · rw [List.getElem?_append_right (by rw [hk]; exact h1), hk, flatE_get enc k hk l (t - k) (by simp only [List.length_cons, Nat.add_mul, Nat.one_mul] at h; omega)]
      have e1 : t / k = (t - k) / k + 1 := by rw [← Nat.sub_add_cancel h1]; simp [Nat.add_div_right _ k0]
      have e2 : t % k = (t - k) % k := by rw [Nat.mod_eq_sub_mod h1]
      rw [e1, e2, List.getElem!_cons_succ]

theorem flatK_toList {α : Type} [Inhabited α] (enc : α → List Value) (k : Nat) (hk : ∀ x, (enc x).length = k) (d : Array α) : (flatK enc k d).toList = (d.toList.map enc).flatten := by
  apply List.ext_getElem?
  intro t
  by_cases h : t < d.size * k
  · have h2 := flatE_get enc k hk d.toList t (by simpa using h)
    have k0 : 0 < k := by rcases Nat.eq_zero_or_pos k with h0 | h0
                          · subst h0; simp at h
                          · exact h0
    have hlt : t / k < d.size := (Nat.div_lt_iff_lt_mul k0).2 h
    have e0 : d.toList[t / k]! = d[t / k]! := by rw [getElem!_pos d.toList (t / k) (by simpa using hlt), getElem!_pos d (t / k) hlt]; simp
    rw [h2, Array.getElem?_toList, Array.getElem?_eq_getElem (by simpa using h), ← getElem!_pos _ t (by simpa using h), get_flatK _ _ _ _ h, e0]
  · rw [List.getElem?_eq_none (by simpa using h), List.getElem?_eq_none (by rw [flatE_len enc k hk]; simpa using h)]

theorem holds_of_cells {w : World} {g : Nat} {cur : Array Value} {e : TypeId} {F : Array Value} (hb : w.heap[g]? = some (.cells cur e (0, 0))) (ht : cur.toList.take F.size = F.toList) : Holds id w g 0 F := by
  intro j hj
  refine ⟨?_, by simp [World.frozen?, hb]⟩
  have h1 : (cur.toList.take F.size)[j]? = F.toList[j]? := by rw [ht]
  rw [List.getElem?_take_of_lt hj] at h1
  simp only [World.cell?, hb, Nat.zero_add]
  simp only [Option.isSome_none, Bool.false_eq_true, if_false]
  rw [← Array.getElem?_toList, h1]
  simp [hj]

theorem heap_sortedV {w : World} {g n : Nat} {os : Array Obj} {cur : Array Value} {e : TypeId} {fr : Nat × Nat} (F : Array Value) (hb : w.heap[g]? = some (.cells cur e fr)) :
    (grow (putRow id (Sort.ahead w n) g 0 F) os).heap[g]? = some (.cells (putCells id 0 F cur) e fr) := by
  have hg : g < w.heap.size := (Array.getElem?_eq_some_iff.1 hb).1
  rw [heap_grow_old _ _ (by simpa using hg)]
  simp [putRow, mapBlock, Sort.ahead, Array.getElem?_modify, hb, onCells]

theorem grownBy_sortedV {w : World} {g n : Nat} {os : Array Obj} (F : Array Value) : w.grownBy (grow (putRow id (Sort.ahead w n) g 0 F) os) (some g) := by
  refine ⟨rfl, rfl, rfl, by simp, fun k hk hne => ?_⟩
  rw [heap_grow_old _ _ (by simpa using hk)]
  have : g ≠ k := fun e => hne (by rw [e])
  simp [putRow, mapBlock, Sort.ahead, Array.getElem?_modify, this]

theorem take_putCellsV (cur : Array Value) (F : Array Value) (h : F.size ≤ cur.size) : (putCells id 0 F cur).toList.take F.size = F.toList := by
  apply List.ext_getElem?
  intro j
  by_cases hj : j < F.size
  · rw [List.getElem?_take_of_lt hj, Array.getElem?_toList]
    simp [putCells, hj, show j < cur.size by omega]
  · rw [List.getElem?_take_eq_none (by omega), List.getElem?_eq_none (by simp; omega)]

theorem swo_of {α : Type} {cmp : α → α → Option Int} (c : CmpOk cmp) : SWO (ltOf fun x y => (cmp x y).getD 0) where
  irrefl x := by have := c.flip x x; unfold ltOf; simp; omega
  trans x y z h1 h2 := by
    unfold ltOf at *
    simp at *
    have a1 := c.flip x y
    have a2 := c.flip y z
    have a3 := c.flip z x
    have a4 := c.flip y x
    have a5 := c.flip z y
    have a6 := c.flip x z
    have t := c.trans y z x
    have t2 := c.trans x y z (by omega) (by omega)
    rcases Int.lt_or_le ((cmp x z).getD 0) 0 with h | h
    · exact h
    · have e0 : (cmp x z).getD 0 = 0 := by omega
      have := c.anti x z e0
      subst this
      omega
  ntrans x y z h1 h2 := by
    unfold ltOf at *
    simp at *
    have a1 := c.flip x y
    have a2 := c.flip y z
    have a3 := c.flip z x
    have a4 := c.flip y x
    have a5 := c.flip z y
    have a6 := c.flip x z
    have t := c.trans z y x (by omega) (by omega)
    omega

theorem sort_func {P : Program} {ρ : Ren} (Ly : SlLaysF0.n6 P ρ) {α : Type} {k : Nat} (aE : ∀ w, (isAgg (ρ.t 24)).run P w = .ok true w) (zE : ∀ w, (Go.sizeOf (ρ.t 24)).run P w = .ok k w) (enc : α → List Value) (hk : ∀ x, (enc x).length = k)
    (h1 : ∀ x, ∀ v ∈ enc x, v.oneCell' = true) {cf : α → α → Option Int} {g : Nat} (eg : ∀ args w, (callFunc g args).run P w = .ok (.enter g args) w)
    (hcl : ∀ (x y : α) (v : Int) (W : World), cf x y = some v → Calls P g #[.agg (enc x).toArray, .agg (enc y).toArray] W fun e w' => e = .returned (.int .i64 v) ∧ ∃ q os', w' = Go.Sort.grow (W.drewN q) os')
    {E : TypeId} {a0 r : List α} {p0 : Option Addr × Nat} {n0 : Nat} {w : World} {S : Nat → Prop}
    (hcs : (rowV E k (.slice p0.1 n0 p0.2) n0 (a0.map enc)).P S w) (hlt : ∀ b, S b → b < w.heap.size) (hn0 : n0 = a0.length) (H : gSortF a0 cf = some r) :
    Does P (ρ.f 6) (List.toArray [.slice p0.1 n0 p0.2, .func (.func g) #[] #[]]) w (fun v w' => ∃ _ : Unit, v = .tuple #[] ∧ Turn w w' S (rowV E k (.slice p0.1 n0 p0.2) n0 (r.map enc))) := by
  obtain ⟨p, c⟩ := p0
  unfold gSortF at H
  split at H
  case isFalse => cases H
  rename_i hh
  obtain ⟨hsz, hok⟩ := hh
  cases H
  subst hn0
  have hcs0 := hcs
  obtain ⟨⟨hown, hlen, hall⟩, hb⟩ := hcs
  rcases hown.2 with ⟨h0, h1'⟩ | ⟨b, cap, cur, hv, hbase, hh, q1, q2, q3, q4⟩
  · have hnil : a0 = [] := List.eq_nil_of_length_eq_zero h1'
    subst hnil
    refine Calls.mono (AnyF.slices_SortFunc_none { Ly with } p c (.func (.func g) #[] #[]) w) ?_
    rintro e w' ⟨rfl, rfl⟩
    exact ⟨_, rfl, (), rfl, ⟨rfl, rfl, rfl, Nat.le_refl _, fun _ _ _ => rfl, S, by simpa using hcs0, fun b h => ⟨hlt b h, .inl h⟩⟩⟩
  · simp only [Value.slice.injEq] at hv
    obtain ⟨hv1, -, hv2⟩ := hv
    subst hv1 hv2
    rcases List.eq_nil_or_concat a0 with rfl | ⟨_, x0, _⟩
    · refine Calls.mono (AnyF.slices_SortFunc_none { Ly with } _ c (.func (.func g) #[] #[]) w) ?_
      rintro e w' ⟨rfl, rfl⟩
      exact ⟨_, rfl, (), rfl, ⟨rfl, rfl, rfl, Nat.le_refl _, fun _ _ _ => rfl, S, by simpa using hcs0, fun b h => ⟨hlt b h, .inl h⟩⟩⟩
    haveI : Inhabited α := ⟨x0⟩
    have hgl : b < w.heap.size := (Array.getElem?_eq_some_iff.1 hh).1
    have hfs : ∀ l : List α, (flatK enc k l.toArray).toList = (l.map enc).flatten := fun l => flatK_toList enc k hk l.toArray
    have hH : HoldsK enc k w b 0 a0.toArray := by
      refine holds_of_cells hh ?_
      rw [hfs, size_flatK, ← q4]
      simp
    have hcmp : CmpLays P g #[] enc k (fun x y => (cf x y).getD 0) b 0 a0.toArray.size w := fun m os dk _ x y => by
      obtain ⟨v, hv⟩ := hok.tot x y
      have := hcl x y v (sortWorldK enc k w b 0 m dk os) hv
      have e : (cf x y).getD 0 = v := by rw [hv]; rfl
      simp only [e]
      exact this
    have main := AnyQ.slices_SortFunc Ly k aE zE enc hk h1 (fun x y => (cf x y).getD 0) (swo_of hok) g #[] b 0 c a0.toArray w eg hcmp hH hgl (by simpa using hsz)
    rw [show a0.toArray.size = a0.length by simp] at main
    refine Calls.mono main ?_
    rintro e w' ⟨rfl, d', n, os, hperm, hsorted, rfl⟩
    have hds : d'.size = a0.length := by simpa using hperm.1
    have hp : d'.toList.Perm a0 := by
      have := hperm.2.2
      have z1 : (d'.extract 0 a0.length).toList = d'.toList := by rw [← hds]; simp
      have z2 : (a0.toArray.extract 0 a0.length).toList = a0 := by simp
      rw [z1, z2] at this
      exact this
    have hd : d'.toList = a0.mergeSort (leC cf) := by
      refine sortF_is hok hp ?_
      rw [List.pairwise_iff_getElem]
      intro i j hi hj hij
      have := hsorted i j (Nat.zero_le _) hij (by simpa [hds] using hj)
      rw [getElem!_pos d' j (by simpa using hj), getElem!_pos d' i (by simpa using hi)] at this
      unfold ltOf at this
      unfold leC
      have a1 := hok.flip d'[j] d'[i]
      have a2 := hok.flip d'[i] d'[j]
      simp at this ⊢
      simp at hi hj
      omega
    have hflat : (flatK enc k d').toList = ((a0.mergeSort (leC cf)).map enc).flatten := by rw [flatK_toList enc k hk, hd]
    have hG := grownBy_sortedV (w := w) (g := b) (n := n) (os := os) (flatK enc k d')
    obtain ⟨g1, g2, g3, g4, g5⟩ := hG
    have hSg : S b := hb b rfl
    have hll : (a0.mergeSort (leC cf)).length = a0.length := List.length_mergeSort _
    refine ⟨_, rfl, (), rfl, ⟨g1, g2, g3, g4, fun z hz hnz => g5 z hz (fun h => hnz (by cases h; exact hSg)), S, ⟨⟨⟨by rw [flatE_len enc k hk]; simp [hll], .inr ⟨b, c, _, rfl, hbase, heap_sortedV _ hh, q1, q2, by simp [putCells, q3], ?_⟩⟩, by simp [hll], fun x hx => ?_⟩, hb⟩, fun z h => ⟨Nat.lt_of_lt_of_le (hlt z h) g4, .inl h⟩⟩⟩
    · rw [← hflat]
      have := take_putCellsV cur (flatK enc k d') (by rw [size_flatK, q3, hds]; exact Nat.mul_le_mul_right k q1)
      rw [size_flatK, hds] at this
      exact this
    · obtain ⟨y, _, rfl⟩ := List.mem_map.1 hx
      exact hk y
end Go.Vc
