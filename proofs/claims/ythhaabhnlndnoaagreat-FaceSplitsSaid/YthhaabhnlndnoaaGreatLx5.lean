/- Rules: calls that take memory of the caller's own and hand it back turned. Conditions: none. -/
import Derived.Test.YthhaabhnlndnoaaGreatLx4
namespace Go.Lx
open Go Go.Vc Go.Md

open Classical in
/-- All of the memory but for some blocks. -/
noncomputable def but (w : World) (S : Nat → Prop) : Heap := fun b => if S b then none else w.heap[b]?

theorem but_some {w : World} {S : Nat → Prop} {b : Nat} {o : Obj} (hb : w.heap[b]? = some o) (hn : ¬ S b) : but w S b = some o := by
  unfold but; rw [if_neg hn]; exact hb

theorem know_but (w : World) (S : Nat → Prop) : Know (but w S) w S := fun b o h => by
  unfold but at h
  split at h
  · cases h
  · exact ⟨h, by assumption⟩

section rules
variable {P : Program} {n : Nat} {cx : Cx} {e : Env} {L : List Chunk} {d : Nat} {ty : TypeId} {pos : String} {af : Array Edge} {g : Option (Nat × Bool)}

/-- What is known, is known of all the memory but for what the call takes. -/
theorem Know.but {h : Heap} {w0 w : World} {S0 S : Nat → Prop} (k : Know h w0 S0) (hF : Fr ⟨w0, S0⟩ w) (ho : ∀ b, S b → Cx.own ⟨w0, S0⟩ b) : ∀ b o, h b = some o → but w S b = some o := fun b o hb => by
  refine but_some (k.now hF b o hb) fun hs => ?_
  obtain ⟨h1, h2⟩ := k b o hb
  have hlt : b < w0.heap.size := by
    rcases Nat.lt_or_ge b w0.heap.size with h | h
    · exact h
    · rw [Array.getElem?_eq_none h] at h1; cases h1
  rcases ho b hs with h | h
  · exact absurd h (by show ¬ w0.heap.size ≤ b; omega)
  · exact h2 h

/-- A slice whose block the call does not take. -/
theorem FrS.but {w : World} {S : Nat → Prop} {sz : Nat} {v : Value} {xs : List (List Value)} (f : FrS (fun b => w.heap[b]?) sz v xs) (hd : ∀ b, v.ownBlock = some b → ¬ S b) : FrS (but w S) sz v xs := by
  obtain ⟨a, c, rfl, h1, h2, r⟩ := f.out
  refine ⟨a, c, rfl, h1, h2, ?_⟩
  rcases r with r | ⟨b, off, cs, T, m, rfl, hb, r⟩
  · exact .inl r
  · exact .inr ⟨b, off, cs, T, m, rfl, but_some hb (hd b rfl), r⟩

theorem rowV_block {E sz n : Nat} {v : Value} {xs : List (List Value)} {S : Nat → Prop} {w : World} (h : (rowV E sz v n xs).P S w) : ∀ b, v.ownBlock = some b → S b := h.2
theorem roV_block {sz n : Nat} {v : Value} {xs : List (List Value)} {S : Nat → Prop} {w : World} (h : (roV sz v n xs).P S w) : ∀ b, v.ownBlock = some b → S b := h.2.2
theorem apV_block {E sz n : Nat} {v : Value} {xs : List (List Value)} {S : Nat → Prop} {w : World} (h : (apV E sz v n xs).P S w) : ∀ b, v.ownBlock = some b → S b := h.2

/-- Slices of the caller's own beside the chunk that the call takes. -/
def Apart (L' : List Chunk) (i : Nat) (w : World) (S : Nat → Prop) : Prop := ∀ j C, j ≠ i → L'[j]? = some C → ∃ S', C.P S' w ∧ ∀ b, S' b → ¬ S b

theorem frb_own {α : Type} {w : World} {S : Nat → Prop} {i j E sz n : Nat} {p : Option Addr × Nat} {xs : List α} {f : α → List Value} {L' : List Chunk} (hn : n = xs.length) (hA : Apart L' i w S) (hS : Sat cx w L') (hji : j ≠ i) (hL : L'[j]? = some (rowV E sz (.slice p.1 n p.2) n (xs.map f))) : FrS (but w S) sz (.slice p.1 n p.2) (xs.map f) := by
  obtain ⟨S', h1, h2⟩ := hA j _ hji hL
  exact (frs_own hn hS hL).but fun b hb => h2 b (rowV_block h1 b hb)
theorem frb_rd {α : Type} {w : World} {S : Nat → Prop} {i j sz n : Nat} {v : Value} {xs : List α} {f : α → List Value} {L' : List Chunk} (hA : Apart L' i w S) (hS : Sat cx w L') (hji : j ≠ i) (hL : L'[j]? = some (roV sz v n (xs.map f))) : FrS (but w S) sz v (xs.map f) := by
  obtain ⟨S', h1, h2⟩ := hA j _ hji hL
  exact (frs_rd hS hL).but fun b hb => h2 b (roV_block h1 b hb)
theorem frb_ap {α : Type} {w : World} {S : Nat → Prop} {i j E sz m : Nat} {v : Value} {xs : List α} {f : α → List Value} {L' : List Chunk} (hA : Apart L' i w S) (hS : Sat cx w L') (hji : j ≠ i) (hL : L'[j]? = some (apV E sz v m (xs.map f))) : FrS (but w S) sz v (xs.map f) := by
  obtain ⟨S', h1, h2⟩ := hA j _ hji hL
  exact (frs_ap hS hL).but fun b hb => h2 b (apV_block h1 b hb)
theorem frb_box {α : Type} {w : World} {S : Nat → Prop} {i j b m T sz : Nat} {cs : List Value} {xs : List α} {f : α → List Value} {L' : List Chunk} (hA : Apart L' i w S) (hS : Sat cx w L') (hji : j ≠ i) (hL : L'[j]? = some (cellsC b cs T)) (hcs : (xs.map f).flatten = cs) (hl : ((xs.map f).all fun x => Nat.beq x.length sz) = true) (hm : xs.length = m) (hm' : Nat.ble m 9223372036854775807 = true) :
    FrS (but w S) sz (.slice (some ⟨b, 0, none⟩) m m) (xs.map f) := by
  obtain ⟨S', h1, h2⟩ := hA j _ hji hL
  exact (frs_box hS hL hcs hl hm hm').but fun q hq => h2 q ((h1.1 q).2 (by simpa [Value.ownBlock] using hq.symm))
theorem cell_but {w : World} {S : Nat → Prop} {i j b T : Nat} {cs : List Value} {L' : List Chunk} (hA : Apart L' i w S) (hS : Sat cx w L') (hji : j ≠ i) (hL : L'[j]? = some (cellsC b cs T)) : but w S b = some (.cells cs.toArray T (0, 0)) := by
  obtain ⟨S', h1, h2⟩ := hA j _ hji hL
  exact but_some (sat_cell hS hL) (h2 b ((h1.1 b).2 rfl))

/-- Fewer chunks. -/
theorem c_sel {K : Env → World → Prop} (sel : List Nat) (L' : List Chunk) (hs : sel.map (fun i => L[i]?) = L'.map some) (hnd : sel.Nodup) (k : At cx K e L') : At cx K e L :=
  ⟨fun w hF hS => k.out w hF (hS.select sel hnd hs)⟩

/-- Two chunks out of one; the second one goes to a place that is free. -/
theorem c_splitAt {K : Env → World → Prop} (i j : Nat) {C D : Chunk} (hL : L[i]? = some (bothC C D)) (hjL : L[j]? = some empC) (hne : i ≠ j) (k : At cx K e ((L.set i C).set j D)) : At cx K e L :=
  ⟨fun w hF hS => k.out w hF (by
    obtain ⟨fp, h1, h2, h3⟩ := hS.out
    obtain ⟨S1, S2, k1, k2, k3, k4, k5⟩ := h1 i _ hL
    have hil : i < L.length := by
      rcases Nat.lt_or_ge i L.length with h | h
      · exact h
      · simp [List.getElem?_eq_none h] at hL
    have hjl : j < L.length := by
      rcases Nat.lt_or_ge j L.length with h | h
      · exact h
      · simp [List.getElem?_eq_none h] at hjL
    have hji : ¬ j = i := fun h => hne h.symm
    have key : ∀ q b, (if q = i then S1 b else if q = j then S2 b else fp q b) → (q = i ∧ S1 b) ∨ (q = j ∧ S2 b) ∨ (q ≠ i ∧ q ≠ j ∧ fp q b) := by
      intro q b h
      by_cases hqi : q = i
      · simp only [hqi, if_true] at h; exact .inl ⟨hqi, h⟩
      · by_cases hqj : q = j
        · simp only [hqi, hqj, hji, if_true, if_false] at h; exact .inr (.inl ⟨hqj, h⟩)
        · simp only [hqi, hqj, if_false] at h; exact .inr (.inr ⟨hqi, hqj, h⟩)
    refine ⟨fun q b => if q = i then S1 b else if q = j then S2 b else fp q b, ?_, ?_, ?_⟩
    · intro q c hc
      by_cases hqj : q = j
      · subst hqj
        rw [List.getElem?_set_self (by simpa using hjl)] at hc
        cases hc
        simpa [hji] using k2
      · rw [List.getElem?_set_ne (fun h => hqj h.symm)] at hc
        by_cases hqi : q = i
        · subst hqi
          rw [List.getElem?_set_self hil] at hc
          cases hc
          simpa using k1
        · rw [List.getElem?_set_ne (fun h => hqi h.symm)] at hc
          simpa [hqi, hqj] using h1 q c hc
    · intro q b hb
      rcases key q b hb with ⟨rfl, h⟩ | ⟨rfl, h⟩ | ⟨_, _, h⟩
      · exact ⟨by simpa using hil, (h2 _ b (k3 b h)).2⟩
      · exact ⟨by simpa using hjl, (h2 _ b (k4 b h)).2⟩
      · obtain ⟨a1, a2⟩ := h2 q b h
        exact ⟨by simpa using a1, a2⟩
    · intro p q b hp hq
      rcases key p b hp with ⟨rfl, h⟩ | ⟨rfl, h⟩ | ⟨n1, n2, h⟩ <;> rcases key q b hq with ⟨e1, h'⟩ | ⟨e1, h'⟩ | ⟨m1, m2, h'⟩
      · exact e1.symm
      · exact absurd h' (k5 b h)
      · exact absurd (h3 _ _ b (k3 b h) h') (fun h => m1 h.symm)
      · exact absurd h (k5 b h')
      · exact e1.symm
      · exact absurd (h3 _ _ b (k4 b h) h') (fun h => m1 h.symm)
      · exact absurd (h3 _ _ b h (e1 ▸ k3 b h')) (fun hh => n1 hh)
      · exact absurd (h3 _ _ b h (k4 b h')) n1
      · exact h3 p q b h h')⟩

/-- A call that takes one chunk and hands it back turned. -/
theorem turns_opB {σ : Type} {o : Oper} {i : Nat} {f : FuncId} {args : List Value} {rds : List Nat} {G : σ → Value} {C0 : Chunk} {C : σ → Chunk} (hL : L[i]? = some C0)
    (h : ∀ w L' S, Fr cx w → Sat cx w L' → (∀ j ∈ rds, L'[j]? = L[j]?) → C0.P S w → (∀ b, S b → b < w.heap.size) → (∀ b, S b → cx.own b) → Apart L' i w S → Does P f args.toArray w fun v w' => ∃ x, v = G x ∧ Turn w w' S (C x)) (hr : ∀ w, (execOp (ev e) o).run P w = .ok (.enter f args.toArray) w) : Turns P cx e o L i rds G C := fun w L' hF hS hl hi => by
  unfold RunsTo
  rw [hr w]
  have hL' := (hi i (.inr rfl)).trans hL
  show Does P f args.toArray w _
  obtain ⟨fp, h1, h2, h3⟩ := hS.out
  have hSi : ∀ b, fp i b → b < w.heap.size ∧ cx.own b := fun b hb => (h2 i b hb).2
  refine (h w L' (fp i) hF hS (fun j hj => hi j (.inl hj)) (h1 i C0 hL') (fun b hb => (hSi b hb).1) (fun b hb => (hSi b hb).2) (fun j C hji hC => ⟨fp j, h1 j C hC, fun b hb hbi => hji (h3 j i b hb hbi)⟩)).mono fun v' w' ⟨x, hv, ht⟩ => ⟨x, hv, hF.turn ht fun b hb => (hSi b hb).2, ?_⟩
  obtain ⟨S', k1, k2⟩ := ht.out
  have hil : i < L'.length := by
    rcases Nat.lt_or_ge i L'.length with h | h
    · exact h
    · simp [List.getElem?_eq_none h] at hL'
  refine ⟨fun j b => if j = i then S' b else fp j b, ?_, ?_, ?_⟩
  · intro j c hc'
    by_cases hji : j = i
    · subst hji
      simp [List.getElem?_set_self hil] at hc'
      subst hc'
      simpa using k1
    · rw [List.getElem?_set_ne (fun e => hji e.symm)] at hc'
      simp only [hji, if_false]
      exact c.loc _ _ _ (fun b hb => ht.block b (h2 j b hb).2.1 (fun hib => hji (h3 j i b hb hib))) (h1 j c hc')
  · intro j b hb
    by_cases hji : j = i
    · simp only [hji, if_true] at hb
      refine ⟨by simp [hji, hil], (k2 b hb).1, ?_⟩
      rcases (k2 b hb).2 with h | h
      · exact (h2 i b h).2.2
      · exact .inl (Nat.le_trans hF.size h)
    · simp only [hji, if_false] at hb
      obtain ⟨a1, a2, a3⟩ := h2 j b hb
      exact ⟨by simpa using a1, Nat.lt_of_lt_of_le a2 ht.size, a3⟩
  · intro j q b hj hq
    by_cases hji : j = i <;> by_cases hqi : q = i <;> simp only [hji, hqi, if_true, if_false] at hj hq
    · omega
    · obtain ⟨_, a2, _⟩ := h2 q b hq
      rcases (k2 b hj).2 with h | h
      · exact absurd (h3 q i b hq h) hqi
      · omega
    · obtain ⟨_, a2, _⟩ := h2 j b hj
      rcases (k2 b hq).2 with h | h
      · exact absurd (h3 j i b hj h) hji
      · omega
    · exact h3 j q b hj hq

theorem turns_callB {σ : Type} {i : Nat} {f : FuncId} {A : Array Operand} {tys : Array TypeId} {args : List Value} {rds : List Nat} {G : σ → Value} {C0 : Chunk} {C : σ → Chunk} (hL : L[i]? = some C0)
    (h : ∀ w L' S, Fr cx w → Sat cx w L' → (∀ j ∈ rds, L'[j]? = L[j]?) → C0.P S w → (∀ b, S b → b < w.heap.size) → (∀ b, S b → cx.own b) → Apart L' i w S → Does P f args.toArray w fun v w' => ∃ x, v = G x ∧ Turn w w' S (C x)) (hc : ∀ args w, (callFunc f args).run P w = .ok (.enter f args) w)
    (ha : A.toList.map (ev e) = args) : Turns P cx e ⟨some d, .call ⟨.value (.func f), A, tys⟩, ty, pos, af, g⟩ L i rds G C :=
  turns_opB hL h (run_call hc ha)

/-- The same through a function value. -/
theorem turns_callBV {X : Operand} {caps : Array Value} {σ : Type} {i : Nat} {f : FuncId} {A : Array Operand} {tys : Array TypeId} {args : List Value} {rds : List Nat} {G : σ → Value} {C0 : Chunk} {C : σ → Chunk} (hL : L[i]? = some C0)
    (h : ∀ w L' S, Fr cx w → Sat cx w L' → (∀ j ∈ rds, L'[j]? = L[j]?) → C0.P S w → (∀ b, S b → b < w.heap.size) → (∀ b, S b → cx.own b) → Apart L' i w S → Does P f (args ++ caps.toList).toArray w fun v w' => ∃ x, v = G x ∧ Turn w w' S (C x)) (hc : ∀ args w, (callFunc f args).run P w = .ok (.enter f args) w)
    (hX : ev e X = .func (.func f) #[] caps) (ha : A.toList.map (ev e) = args) : Turns P cx e ⟨some d, .call ⟨.value X, A, tys⟩, ty, pos, af, g⟩ L i rds G C :=
  turns_opB hL h (run_callV hc hX ha)

end rules
end Go.Lx
