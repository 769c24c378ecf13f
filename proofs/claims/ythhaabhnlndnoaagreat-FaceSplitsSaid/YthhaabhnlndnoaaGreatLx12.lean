/- Rules: slices whose elements hold slices, as they came in: cells read off the known memory, and what each element stands for. Conditions: none. -/
import Derived.Test.YthhaabhnlndnoaaGreatLx11
namespace Go.Lx
open Go Go.Vc Go.Md

/-- A cell of an element of a slice, as a memory has it. -/
def elH (h : Heap) (v : Value) (sz i j : Nat) : Value :=
  if j < sz then match v with
  | .slice (some ⟨b, off, _⟩) _ _ => match h b with
    | some (.cells cs _ _) => cs.getD (off + i * sz + j) undef
    | _ => undef
  | _ => undef else undef
def elC (h : Heap) (v : Value) (sz i : Nat) : List Value := (List.range sz).map (elH h v sz i)

/-- What a value stands for, over a memory: it stays so when the memory grows. -/
class Mon {α : Type} (G : Heap → (Nat → Value) → α → Prop) : Prop where
  mono : ∀ {h h' : Heap}, (∀ b o, h b = some o → h' b = some o) → ∀ c x, G h c x → G h' c x

/-- A slice that is only read, whose elements are told by G. -/
structure FrN {α : Type} (h : Heap) (sz : Nat) (v : Value) (G : Heap → (Nat → Value) → α → Prop) (xs : List α) : Prop where
  frs : FrS h sz v ((List.range xs.length).map (elC h v sz))
  el : ∀ (i : Nat) (x : α), xs[i]? = some x → G h (elH h v sz i) x

theorem elH_mono {h h' : Heap} {v : Value} {sz : Nat} {ys : List (List Value)} (f : FrS h sz v ys) (hy : 0 < ys.length) (k : ∀ b o, h b = some o → h' b = some o) (i : Nat) : elH h v sz i = elH h' v sz i := by
  funext j
  obtain ⟨a, c, rfl, _, _, r⟩ := f.out
  rcases r with r | ⟨b, off, cs, T, m, rfl, hb, _⟩
  · subst r; simp at hy
  · simp only [elH, hb, k b _ hb]

theorem FrN.mono {α : Type} {h h' : Heap} {sz : Nat} {v : Value} {G : Heap → (Nat → Value) → α → Prop} [M : Mon G] {xs : List α} (f : FrN h sz v G xs) (k : ∀ b o, h b = some o → h' b = some o) : FrN h' sz v G xs := by
  have key : ∀ i, i < xs.length → elH h v sz i = elH h' v sz i := fun i hi => elH_mono f.frs (by simp; omega) k i
  refine ⟨?_, fun i x hx => ?_⟩
  · have := f.frs.mono k
    have e : (List.range xs.length).map (elC h v sz) = (List.range xs.length).map (elC h' v sz) := by
      apply List.map_congr_left
      intro i hi
      unfold elC
      rw [key i (by simpa using hi)]
    rwa [e] at this
  · have hi : i < xs.length := by
      rcases Nat.lt_or_ge i xs.length with h | h
      · exact h
      · rw [List.getElem?_eq_none h] at hx; cases hx
    rw [← key i hi]
    exact M.mono k _ _ (f.el i x hx)

theorem FrN.nil {α : Type} (h : Heap) (sz : Nat) (G : Heap → (Nat → Value) → α → Prop) : FrN h sz (.slice none 0 0) G [] := ⟨FrS.nil _ _, by simp⟩

section acc
variable {α : Type} {h : Heap} {sz : Nat} {v : Value} {G : Heap → (Nat → Value) → α → Prop} {xs ys : List α}
theorem FrN.cells (f : FrN h sz v G xs) : v.cells.toList = [v] := f.frs.cells
theorem FrN.one (f : FrN h sz v G xs) : v.oneCell' = true := f.frs.one
theorem FrN.eq (f : FrN h sz v G xs) : v = .slice (sa v) xs.length (sc v) := by
  have := f.frs.eq; rwa [List.length_map, List.length_range] at this
theorem FrN.form (f : FrN h sz v G xs) : ∃ p : Option Addr × Nat, v = .slice p.1 xs.length p.2 := by
  obtain ⟨p, hp⟩ := FrS.form f.frs; exact ⟨p, by rw [List.length_range] at hp; exact hp⟩
theorem FrN.len (f : FrN h sz v G xs) : xs.length ≤ sc v ∧ sc v ≤ 9223372036854775807 := by
  have := f.frs.len; rwa [List.length_map, List.length_range] at this
theorem FrN.at (f : FrN h sz v G xs) {i : Int} {x : α} (g : gAt xs i = some x) : G h (elH h v sz i.toNat) x := f.el _ _ (gAt_some g).2.2
theorem FrN.ix (_ : FrN h sz v G xs) {i : Int} {x : α} (g : gAt xs i = some x) : gAt (List.range xs.length) i = some i.toNat := by
  obtain ⟨h0, h1, _⟩ := gAt_some g
  rw [gAt_ok h0 (by simpa using h1)]; simp
theorem FrN.nilV (f : FrN h sz v G xs) (hb : isNilV v = true) : xs = [] := by
  have := FrS.nilV f.frs hb
  exact List.eq_nil_of_length_eq_zero (by simpa using congrArg List.length this)

theorem gCut_range {l q : Int} (e : gCut xs l q = some ys) : gCut (List.range xs.length) l q = some (((List.range xs.length).drop l.toNat).take (q.toNat - l.toNat)) := by
  obtain ⟨g0, g1, g2, _⟩ := gCut_some e
  exact gCut_ok ⟨g0, g1, by simpa using g2⟩

theorem FrN.cut (f : FrN h sz v G xs) {l q : Int} (e : gCut xs l q = some ys) : FrN h sz (cutV sz v l q) G ys := by
  obtain ⟨g0, g1, g2, rfl⟩ := gCut_some e
  have hl := f.len
  have h0 := FrS.cut f.frs (gCut_range e)
  have hlen : ((xs.drop l.toNat).take (q.toNat - l.toNat)).length = q.toNat - l.toNat := by rw [List.length_take, List.length_drop]; omega
  have key : ∀ i, i < q.toNat - l.toNat → elH h (cutV sz v l q) sz i = elH h v sz (l.toNat + i) := by
    intro i hi
    funext j
    obtain ⟨a, c, hva, h1, _, r⟩ := f.frs.out
    simp only [List.length_map, List.length_range] at hva h1
    rcases r with r | ⟨b, off, cs, T, m, ha, hb, _⟩
    · have := congrArg List.length r
      simp at this
      rw [this] at g2
      simp at g2
      omega
    · have hm : ¬ c = l.toNat := by omega
      rw [hva, ha]
      simp only [cutV, sa, sc, cutA, if_neg hm, Option.map_some, Addr.add_lit, elH, hb]
      rw [show off + l.toNat * sz + i * sz + j = off + (l.toNat + i) * sz + j from by rw [Nat.add_mul]; omega]
  refine ⟨?_, fun i x hx => ?_⟩
  · have e1 : ((List.range ((xs.drop l.toNat).take (q.toNat - l.toNat)).length).map (elC h (cutV sz v l q) sz)) = (((List.range xs.length).drop l.toNat).take (q.toNat - l.toNat)).map (elC h v sz) := by
      rw [hlen]
      apply List.ext_getElem
      · simp; omega
      · intro i h1 h2
        simp only [List.length_map, List.length_range] at h1
        simp only [List.getElem_map, List.getElem_range, List.getElem_take, List.getElem_drop]
        unfold elC
        rw [key i h1]
    rw [e1]; exact h0
  · have hi : i < q.toNat - l.toNat := by
      rcases Nat.lt_or_ge i (q.toNat - l.toNat) with h | h
      · exact h
      · rw [List.getElem?_eq_none (by rw [hlen]; exact h)] at hx; cases hx
    rw [key i hi]
    rw [List.getElem?_take, if_pos hi, List.getElem?_drop] at hx
    exact f.el _ _ hx
theorem FrN.frsM (f : FrN h sz v G xs) : FrS h sz v ((List.range xs.length).map (elC h v sz)) := f.frs
end acc

/-- A part of a known slice, its value told otherwise. -/
theorem FrN.cutL {α : Type} {h : Heap} {sz : Nat} {a : Option Addr} {n c : Nat} {G : Heap → (Nat → Value) → α → Prop} {xs ys : List α} {l q : Int} (s : FrN h sz (.slice a n c) G xs) (e : gCut xs l q = some ys) : FrN h sz (.slice (cutA a l.toNat c sz) ys.length (c - l.toNat)) G ys := by
  have := s.cut e
  rw [gCut_len e]
  exact this

theorem rd_of {l l' vs : List Value} {j n : Nat} (e : l = l') (h : rd l' j n = some vs) : rd l j n = some vs := by subst e; exact h
theorem rg_of {l l' : List Value} {j : Nat} {v : Value} (e : l = l') (h : rg l' j = some v) : rg l j = some v := by subst e; exact h

/-- Elements as they lie in a list of cells. -/
def AllG {α : Type} (G : Heap → (Nat → Value) → α → Prop) (h : Heap) (sz : Nat) : List Value → List α → Prop
  | cs, [] => cs = []
  | cs, x :: r => G h (fun j => (cs.take sz).getD j undef) x ∧ AllG G h sz (cs.drop sz) r

theorem AllG.el {α : Type} {G : Heap → (Nat → Value) → α → Prop} {h : Heap} {sz : Nat} : ∀ {cs : List Value} {xs : List α}, AllG G h sz cs xs → ∀ (i : Nat) (x : α), xs[i]? = some x → G h (fun j => ((cs.drop (i * sz)).take sz).getD j undef) x
  | _, [], _, i, x, hx => by simp at hx
  | cs, y :: r, hp, 0, x, hx => by
    simp at hx; subst hx
    have := hp.1
    simpa using this
  | cs, y :: r, hp, i + 1, x, hx => by
    have := AllG.el hp.2 i x (by simpa using hx)
    rw [List.drop_drop, show sz + i * sz = (i + 1) * sz from by rw [Nat.succ_mul]; omega] at this
    exact this

section rules
variable {P : Program} {n : Nat} {cx : Cx} {e : Env} {L : List Chunk}

/-- A literal whose elements are told. -/
theorem frn_box {α : Type} {G : Heap → (Nat → Value) → α → Prop} {w : World} {i b m T sz : Nat} {cs : List Value} {xs : List α} (hS : Sat cx w L) (hL : L[i]? = some (cellsC b cs T)) (hl : cs.length = m * sz) (hm : xs.length = m) (hm' : Nat.ble m 9223372036854775807 = true)
    (hG : AllG G (fun b => w.heap[b]?) sz cs xs) : FrN (fun b => w.heap[b]?) sz (.slice (some ⟨b, 0, none⟩) m m) G xs := by
  subst hm
  have hb : w.heap[b]? = some (.cells cs.toArray T (0, 0)) := sat_cell hS hL
  have key : ∀ i, elH (fun b => w.heap[b]?) (.slice (some ⟨b, 0, none⟩) xs.length xs.length) sz i = fun j => ((cs.drop (i * sz)).take sz).getD j undef := by
    intro i; funext j
    simp only [elH, hb, Nat.zero_add, List.getD_eq_getElem?_getD, Array.getD_eq_getD_getElem?, List.getElem?_toArray, List.getElem?_take, List.getElem?_drop]
    split <;> rfl
  refine ⟨⟨some ⟨b, 0, none⟩, xs.length, by simp, by simp, by simpa using hm', .inr ⟨b, 0, cs.toArray, T, (0, 0), rfl, hb, fun i x hx => ?_⟩⟩, fun i x hx => ?_⟩
  · have hi : i < xs.length := by
      rcases Nat.lt_or_ge i xs.length with h | h
      · exact h
      · rw [List.getElem?_eq_none (by simpa using h)] at hx; cases hx
    simp only [List.getElem?_map, List.getElem?_range hi, Option.map_some, Option.some.injEq] at hx
    subst hx
    refine ⟨by simp [elC], fun j v hv => ?_⟩
    unfold elC at hv
    rw [key i] at hv
    have hj : j < sz := by
      rcases Nat.lt_or_ge j sz with h | h
      · exact h
      · rw [List.getElem?_eq_none (by simpa using h)] at hv; cases hv
    simp only [List.getElem?_map, List.getElem?_range hj, Option.map_some, Option.some.injEq] at hv
    have hlt : i * sz + j < cs.length := by
      rw [hl]
      have : (i + 1) * sz ≤ xs.length * sz := Nat.mul_le_mul_right _ (by omega)
      rw [Nat.succ_mul] at this
      omega
    rw [← hv]
    simp [List.getD_eq_getElem?_getD, List.getElem?_eq_getElem hlt, List.getElem?_take, List.getElem?_drop, hj]
  · rw [key i]
    exact hG.el i x hx

section ops
variable {d : Option Nat} {ty : TypeId} {pos : String} {af : Array Edge} {g : Option (Nat × Bool)}

theorem r_lenFN {α : Type} {G : Heap → (Nat → Value) → α → Prop} {X : Operand} {t u sz : TypeId} {h : Heap} {v : Value} {xs : List α} (hu : P.underlying t = some (.slice u)) (hx : ev e X = v) (hs : FrN h sz v G xs) (w : World) :
    (execOp (ev e) ⟨d, .call ⟨.builtin .len, #[X], #[t]⟩, ty, pos, af, g⟩).run P w = .ok (.value (.int .i64 xs.length)) w :=
  r_len (P := P) (d := d) (ty := ty) (pos := pos) (af := af) (g := g) hu (hx.trans hs.eq) w

theorem r_sliceLHFN {α : Type} {G : Heap → (Nat → Value) → α → Prop} {h : Heap} {X A B : Operand} {v : Value} {xs ys : List α} {t u sz : Nat} {ka kb : IntKind} {l q : Int} (hu : P.underlying t = some (.slice u)) (hs : ∀ w, (sizeOf u).run P w = .ok sz w)
    (hx : ev e X = v) (ha : ev e A = .int ka l) (hb : ev e B = .int kb q) (s : FrN h sz v G xs) (hg : gCut xs l q = some ys) (w : World) :
    (execOp (ev e) ⟨d, .slice t X (some A) (some B) none, ty, pos, af, g⟩).run P w = .ok (.value (cutV sz v l q)) w :=
  r_sliceLHF hu hs hx ha hb s.frs (gCut_range hg) w

theorem r_sliceLFN {α : Type} {G : Heap → (Nat → Value) → α → Prop} {h : Heap} {X A : Operand} {v : Value} {xs ys : List α} {t u sz : Nat} {ka : IntKind} {l : Int} (hu : P.underlying t = some (.slice u)) (hs : ∀ w, (sizeOf u).run P w = .ok sz w)
    (hx : ev e X = v) (ha : ev e A = .int ka l) (s : FrN h sz v G xs) (hg : gCut xs l xs.length = some ys) (w : World) :
    (execOp (ev e) ⟨d, .slice t X (some A) none none, ty, pos, af, g⟩).run P w = .ok (.value (cutV sz v l xs.length)) w := by
  obtain ⟨g0, g1, g2, _⟩ := gCut_some hg
  rw [r_sliceL hu hs (hx.trans s.eq) ha g0 g1 w, cutV]; rfl

theorem r_sliceHFN {α : Type} {G : Heap → (Nat → Value) → α → Prop} {h : Heap} {X B : Operand} {v : Value} {xs ys : List α} {t u sz : Nat} {kb : IntKind} {q : Int} (hu : P.underlying t = some (.slice u)) (hs : ∀ w, (sizeOf u).run P w = .ok sz w)
    (hx : ev e X = v) (hb : ev e B = .int kb q) (s : FrN h sz v G xs) (hg : gCut xs 0 q = some ys) (w : World) :
    (execOp (ev e) ⟨d, .slice t X none (some B) none, ty, pos, af, g⟩).run P w = .ok (.value (cutV sz v 0 q)) w :=
  r_sliceHF hu hs hx hb s.frs (gCut_range hg) w

end ops
end rules
end Go.Lx
