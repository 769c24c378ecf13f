/- Slices that the call makes: rows in memory of its own, that grow, are written, are handed on and handed back. Conditions: those that each rule names. -/
import Derived.Test.YthhaabhnlndnoaaGreatVc6
import Derived.Maps.AppendAt
import Derived.Laws.OwnMore
import Derived.Laws.Slices
namespace Go.Vc
open Go

/-! ### what a call leaves that makes or turns memory -/

/-- The world behind a call that may write the blocks in S, and leaves the chunk C in these or in new ones. -/
structure Turn (w w' : World) (S : Nat → Prop) (C : Chunk) : Prop where
  os : w'.os = w.os
  tape : w'.tape = w.tape
  output : w'.output = w.output
  size : w.heap.size ≤ w'.heap.size
  block : ∀ b, b < w.heap.size → ¬ S b → w'.heap[b]? = w.heap[b]?
  out : ∃ S' : Nat → Prop, C.P S' w' ∧ ∀ b, S' b → b < w'.heap.size ∧ (S b ∨ w.heap.size ≤ b)

abbrev noS : Nat → Prop := fun _ => False

/-- One chunk says more than the other. -/
structure Imp (C D : Chunk) : Prop where
  out : ∀ S w, C.P S w → D.P S w
theorem Imp.refl (C : Chunk) : Imp C C := ⟨fun _ _ h => h⟩
theorem Imp.of {C D : Chunk} (h : C = D) : Imp C D := h ▸ Imp.refl C

theorem Turn.grow {w w' : World} {C : Chunk} (h : Turn w w' noS C) : Grow w w' := ⟨h.os, h.tape, h.output, h.size, fun k hk => h.block k hk (fun x => x)⟩

theorem Turn.of_grow {w w' : World} {S : Nat → Prop} {C : Chunk} (g : Grow w w') (h : ∃ S' : Nat → Prop, C.P S' w' ∧ ∀ b, S' b → b < w'.heap.size ∧ (S b ∨ w.heap.size ≤ b)) : Turn w w' S C :=
  ⟨g.os, g.tape, g.output, g.size, fun b hb _ => g.block b hb, h⟩

/-- The end of a contract that hands memory back. -/
theorem finX {σ : Type} {w0 : World} {S : Nat → Prop} {L : List Chunk} {v : Value} {G : σ → Value} {C : σ → Chunk} {i : Nat} {C0 : Chunk} (x : σ) (hL : L[i]? = some C0) (hv : v = G x) (hc : Imp C0 (C x)) :
    ∀ w, Fr ⟨w0, S⟩ w → Sat ⟨w0, S⟩ w L → ∃ x, v = G x ∧ Turn w0 w S (C x) := fun w hF hS => by
  refine ⟨x, hv, hF.os, hF.tape, hF.output, hF.size, fun b hb hn => hF.block b ?_, ?_⟩
  · rintro (h | h)
    · exact absurd h (by show ¬ w0.heap.size ≤ b; omega)
    · exact hn h
  · obtain ⟨fp, h1, h2, _⟩ := hS.out
    refine ⟨fp i, hc.out _ _ (h1 i C0 hL), fun b hb => ?_⟩
    obtain ⟨_, a2, a3⟩ := h2 i b hb
    exact ⟨a2, a3.symm⟩

theorem Sat.one {w : World} {S : Nat → Prop} {C : Chunk} (h : C.P S w) (hb : ∀ b, S b → b < w.heap.size) : Sat ⟨w, S⟩ w [C] :=
  ⟨fun i b => i = 0 ∧ S b, fun i c hc => by
    cases i with
    | zero => simp at hc; subst hc; simpa using h
    | succ i => simp at hc, fun i b ⟨hi, hs⟩ => ⟨by simp [hi], hb b hs, .inr hs⟩, fun i j b ⟨hi, _⟩ ⟨hj, _⟩ => by omega⟩

section rules
variable {P : Program} {n : Nat} {cx : Cx} {Q : Post} {e : Env} {L : List Chunk} {ops : Array Oper} {F : Env → List Chunk → Prop} {rest : List Oper} {ss : List Kd}
variable {d : Nat} {ty : TypeId} {pos : String} {af : Array Edge} {g : Option (Nat × Bool)}

/-- What the memory tells. -/
theorem c_know {K : Env → World → Prop} {φ : Prop} (h : ∀ w, Fr cx w → Sat cx w L → φ) (k : φ → At cx K e L) : At cx K e L :=
  ⟨fun w hF hS => (k (h w hF hS)).out w hF hS⟩

theorem Fr.turn {w w' : World} {S : Nat → Prop} {C : Chunk} (hF : Fr cx w) (h : Turn w w' S C) (hS : ∀ b, S b → cx.own b) : Fr cx w' :=
  ⟨h.os.trans hF.os, h.tape.trans hF.tape, h.output.trans hF.output, Nat.le_trans hF.size h.size, fun b hb => by
    have hlt : b < w.heap.size := by
      have : ¬ cx.w0.heap.size ≤ b := fun hh => hb (.inl hh)
      have := hF.size
      omega
    rw [h.block b hlt (fun hs => hb (hS b hs)), hF.block b hb]⟩

theorem Sat.turnNew {w w' : World} {C : Chunk} (hS : Sat cx w L) (hF : Fr cx w) (h : Turn w w' noS C) : Sat cx w' (L ++ [C]) := by
  obtain ⟨S', h1, h2⟩ := h.out
  exact hS.snoc hF h.grow h1 fun b hb => ⟨((h2 b hb).2.resolve_left (fun x => x)), (h2 b hb).1⟩

theorem Sat.turnAt {w w' : World} {i : Nat} {C0 C : Chunk} (hS : Sat cx w L) (hF : Fr cx w) (hL : L[i]? = some C0)
    (h : ∀ S : Nat → Prop, C0.P S w → (∀ b, S b → b < w.heap.size ∧ cx.own b) → Turn w w' S C) (hs : w.heap.size ≤ w'.heap.size) : Sat cx w' (L.set i C) :=
  hS.set hF hL hs fun S hp hb => by
    have t := h S hp hb
    obtain ⟨S', k1, k2⟩ := t.out
    exact ⟨S', k1, k2, fun b hlt hn => t.block b hlt hn⟩

/-- The blocks of one chunk. -/
theorem Sat.at {w : World} {i : Nat} {C : Chunk} (hS : Sat cx w L) (hL : L[i]? = some C) : ∃ S : Nat → Prop, C.P S w ∧ ∀ b, S b → b < w.heap.size ∧ cx.own b := by
  obtain ⟨fp, h1, h2, _⟩ := hS.out
  exact ⟨fp i, h1 i C hL, fun b hb => (h2 i b hb).2⟩

/-- Any operation, whatever way it takes. -/
theorem l_runs {o : Oper} {d : Nat} (hw : want ops o e = true) (hd : o.dst = some d) (hn : Nat.blt d n = true)
    (h : ∀ w, Fr cx w → Sat cx w L → RunsTo P (ev e) o w fun v w' => WL P n ops Q rest (upd e d v) w') : At cx (WL P n ops Q (o :: rest)) e L :=
  ⟨fun w hF hS => ⟨fun a ha => by
    have hr := h w hF hS
    unfold RunsTo at hr
    unfold wpList
    rw [want_eq ha, hw, if_pos rfl]
    refine .inl ?_
    unfold Oper.wp
    rw [ha.ev]
    generalize (execOp (ev e) o).run P w = r at hr
    cases r with
    | halt x w' => exact hr.elim
    | ok nx w' =>
      cases nx with
      | value v =>
        show wpList P ops (lift n Q) rest (a.put o.dst v) w'
        rw [hd]
        exact hr.out _ (ha.put hn v)
      | skip =>
        show wpList P ops (lift n Q) rest (a.put o.dst undef) w'
        rw [hd]
        exact hr.out _ (ha.put hn undef)
      | enter f args =>
        refine Calls.mono hr ?_
        rintro en w'' ⟨v, rfl, hk⟩
        show wpList P ops (lift n Q) rest (a.put o.dst v) w''
        rw [hd]
        exact hk.out _ (ha.put hn v)
      | _ => exact hr.elim⟩⟩

/-- An operation that turns chunk i. -/
def Turns (P : Program) (cx : Cx) (e : Env) (o : Oper) (L : List Chunk) (i : Nat) (rds : List Nat) {σ : Type} (G : σ → Value) (C : σ → Chunk) : Prop :=
  ∀ w L', Fr cx w → Sat cx w L' → L'.length = L.length → (∀ j, j ∈ rds ∨ j = i → L'[j]? = L[j]?) → RunsTo P (ev e) o w fun v w' => ∃ x, v = G x ∧ Fr cx w' ∧ Sat cx w' (L'.set i (C x))

/-- An operation that makes a chunk. -/
def Makes (P : Program) (cx : Cx) (e : Env) (o : Oper) (L : List Chunk) (rds : List Nat) {σ : Type} (G : σ → Value) (C : σ → Chunk) : Prop :=
  ∀ w L', Fr cx w → Sat cx w L' → (∀ j, j ∈ rds → L'[j]? = L[j]?) → RunsTo P (ev e) o w fun v w' => ∃ x, v = G x ∧ Turn w w' noS (C x)

theorem l_turn {σ : Type} {o : Oper} {d i : Nat} {rds : List Nat} {G : σ → Value} {C : σ → Chunk} (h : Turns P cx e o L i rds G C) (hw : want ops o e = true) (hd : o.dst = some d) (hn : Nat.blt d n = true)
    (k : ∀ x, At cx (WL P n ops Q rest) (upd e d (G x)) (L.set i (C x))) : At cx (WL P n ops Q (o :: rest)) e L :=
  l_runs hw hd hn fun w hF hS => (h w L hF hS rfl (fun _ _ => rfl)).mono fun v w' ⟨x, hv, hF', hS'⟩ => by
    subst hv
    exact (k x).out w' hF' hS'

theorem l_make {σ : Type} {o : Oper} {d : Nat} {rds : List Nat} {G : σ → Value} {C : σ → Chunk} (h : Makes P cx e o L rds G C) (hw : want ops o e = true) (hd : o.dst = some d) (hn : Nat.blt d n = true)
    (k : ∀ x, At cx (WL P n ops Q rest) (upd e d (G x)) (L ++ [C x])) : At cx (WL P n ops Q (o :: rest)) e L :=
  l_runs hw hd hn fun w hF hS => (h w L hF hS (fun _ _ => rfl)).mono fun v w' ⟨x, hv, ht⟩ => by
    subst hv
    exact (k x).out w' (hF.grow ht.grow) (hS.turnNew hF ht)

/-- In a drawn region. -/
def Kd.t (i : Nat) (rds : List Nat) {σ : Type} (G : σ → Value) (Cv : Value → Chunk) : Kd := .g [] rds [i] (fun _ _ v => ∃ x, v = G x) (fun _ _ v => [Cv v])

theorem d_turn {σ : Type} {o : Oper} {d i : Nat} {rds : List Nat} {G : σ → Value} {C : σ → Chunk} {Cv : Value → Chunk} (x0 : σ) (h : Turns P cx e o L i rds G C) (hC : ∀ x, Cv (G x) = C x) (hw : want ops o e = true) (hd : o.dst = some d)
    (k : ∀ x, Sq P cx ops F rest ss (upd e d (G x)) (L.set i (C x))) : Sq P cx ops F (o :: rest) (.t i rds G Cv :: ss) e L := by
  refine .take hw ⟨G x0, x0, rfl⟩ ⟨fun w L' hF hS hl hi => ?_⟩ fun v' hv' => ?_
  · refine (h w L' hF hS hl fun j hj => hi j (by simpa [Kd.t, Kd.rds, Kd.wrs] using hj)).mono fun v w' ⟨x, hv, hF', hS'⟩ => ?_
    subst hv
    refine ⟨⟨x, rfl⟩, hF', ?_⟩
    show Sat cx w' (L'.set i (Cv (G x)))
    rw [hC]; exact hS'
  · obtain ⟨x, rfl⟩ : ∃ x, v' = G x := hv'
    show Sq P cx ops F rest ss (putD e o.dst (G x)) (L.set i (Cv (G x)))
    rw [hC, hd]
    exact k x

theorem d_make {σ : Type} {o : Oper} {d i : Nat} {rds : List Nat} {G : σ → Value} {C : σ → Chunk} {Cv : Value → Chunk} (x0 : σ) (h : Makes P cx e o L rds G C) (hC : ∀ x, Cv (G x) = C x) (hL : L[i]? = some empC) (hw : want ops o e = true) (hd : o.dst = some d)
    (k : ∀ x, Sq P cx ops F rest ss (upd e d (G x)) (L.set i (C x))) : Sq P cx ops F (o :: rest) (.t i rds G Cv :: ss) e L := by
  refine d_turn x0 (fun w L' hF hS hl hi => ?_) hC hw hd k
  refine (h w L' hF hS fun j hj => hi j (.inl hj)).mono fun v w' ⟨x, hv, ht⟩ => ⟨x, hv, hF.grow ht.grow, ?_⟩
  exact hS.turnAt hF ((hi i (.inr rfl)).trans hL) (fun S hp _ => by
    obtain ⟨S', k1, k2⟩ := ht.out
    exact ⟨ht.os, ht.tape, ht.output, ht.size, fun b hb _ => ht.block b hb (fun x => x), S', k1, fun b hb => ⟨(k2 b hb).1, .inr ((k2 b hb).2.resolve_left (fun x => x))⟩⟩) ht.size

/-- A call that hands new memory back. -/
theorem makes_call {σ : Type} {d : Nat} {f : FuncId} {A : Array Operand} {tys : Array TypeId} {args : List Value} {rds : List Nat} {G : σ → Value} {C : σ → Chunk}
    (h : ∀ w L', Fr cx w → Sat cx w L' → (∀ j ∈ rds, L'[j]? = L[j]?) → Does P f args.toArray w fun v w' => ∃ x, v = G x ∧ Turn w w' noS (C x)) (hc : ∀ args w, (callFunc f args).run P w = .ok (.enter f args) w)
    (ha : A.toList.map (ev e) = args) : Makes P cx e ⟨some d, .call ⟨.value (.func f), A, tys⟩, ty, pos, af, g⟩ L rds G C := fun w L' hF hS hi => by
  unfold RunsTo
  rw [run_call hc ha]
  exact h w L' hF hS hi

/-- A call that takes one chunk and hands it back turned. -/
theorem turns_call {σ : Type} {i d : Nat} {f : FuncId} {A : Array Operand} {tys : Array TypeId} {args : List Value} {rds : List Nat} {G : σ → Value} {C0 : Chunk} {C : σ → Chunk} (hL : L[i]? = some C0)
    (h : ∀ w L' S, Fr cx w → Sat cx w L' → (∀ j ∈ rds, L'[j]? = L[j]?) → C0.P S w → (∀ b, S b → b < w.heap.size) → Does P f args.toArray w fun v w' => ∃ x, v = G x ∧ Turn w w' S (C x)) (hc : ∀ args w, (callFunc f args).run P w = .ok (.enter f args) w)
    (ha : A.toList.map (ev e) = args) : Turns P cx e ⟨some d, .call ⟨.value (.func f), A, tys⟩, ty, pos, af, g⟩ L i rds G C := fun w L' hF hS hl hi => by
  unfold RunsTo
  rw [run_call hc ha]
  have hL' := (hi i (.inr rfl)).trans hL
  show Does P f args.toArray w _
  obtain ⟨fp, h1, h2, h3⟩ := hS.out
  have hSi : ∀ b, fp i b → b < w.heap.size ∧ cx.own b := fun b hb => (h2 i b hb).2
  refine (h w L' (fp i) hF hS (fun j hj => hi j (.inl hj)) (h1 i C0 hL') (fun b hb => (hSi b hb).1)).mono fun v' w' ⟨x, hv, ht⟩ => ⟨x, hv, hF.turn ht fun b hb => (hSi b hb).2, ?_⟩
  obtain ⟨S', k1, k2⟩ := ht.out
  have hil : i < L'.length := by
    rcases Nat.lt_or_ge i L'.length with h | h
    · exact h
    · simp [List.getElem?_eq_none h] at hL'
  refine ⟨fun j b => if j = i then S' b else fp j b, ?_, ?_, ?_⟩
  · intro j c hc'
    by_cases hji : j = i
    · subst hji
      simp [List.getElem?_set_self hil] at hc'
      subst hc'
      simpa using k1
    · rw [List.getElem?_set_ne (fun e => hji e.symm)] at hc'
      simp only [hji, if_false]
      exact c.loc _ _ _ (fun b hb => ht.block b (h2 j b hb).2.1 (fun hib => hji (h3 j i b hb hib))) (h1 j c hc')
  · intro j b hb
    by_cases hji : j = i
    · simp only [hji, if_true] at hb
      refine ⟨by simp [hji, hil], (k2 b hb).1, ?_⟩
      rcases (k2 b hb).2 with h | h
      · exact (h2 i b h).2.2
      · exact .inl (Nat.le_trans hF.size h)
    · simp only [hji, if_false] at hb
      obtain ⟨a1, a2, a3⟩ := h2 j b hb
      exact ⟨by simpa using a1, Nat.lt_of_lt_of_le a2 ht.size, a3⟩
  · intro j q b hj hq
    by_cases hji : j = i <;> by_cases hqi : q = i <;> simp only [hji, hqi, if_true, if_false] at hj hq
    · omega
    · obtain ⟨_, a2, _⟩ := h2 q b hq
      rcases (k2 b hj).2 with h | h
      · exact absurd (h3 q i b hq h) hqi
      · omega
    · obtain ⟨_, a2, _⟩ := h2 j b hj
      rcases (k2 b hq).2 with h | h
      · exact absurd (h3 j i b hj h) hji
      · omega
    · exact h3 j q b hj hq

/-! ### rows -/

/-- A slice in a row of its own that may grow: n elements of sz cells. -/
def rowV (E : TypeId) (sz : Nat) (v : Value) (n : Nat) (xs : List (List Value)) : Chunk where
  P S w := (w.ownsRow 0 E sz v n xs.flatten ∧ xs.length = n ∧ ∀ x ∈ xs, x.length = sz) ∧ ∀ b, v.ownBlock = some b → S b
  loc S w w' h := by
    rintro ⟨⟨⟨h1, h2⟩, h3⟩, h4⟩
    refine ⟨⟨⟨h1, ?_⟩, h3⟩, h4⟩
    rcases h2 with h2 | ⟨g, cap, cur, rfl, hb, hh, hr⟩
    · exact .inl h2
    · exact .inr ⟨g, cap, cur, rfl, hb, (h g (h4 g rfl)).trans hh, hr⟩

/-- A slice that is only read. -/
def rdV (sz : Nat) (v : Value) (n : Nat) (xs : List (List Value)) : Chunk where
  P S w := ∃ a c, v = .slice a n c ∧ xs.length = n ∧ Row w a sz xs ∧ ∀ b, v.ownBlock = some b → S b
  loc S w w' h := by
    rintro ⟨a, c, rfl, h1, h2, h3⟩
    refine ⟨a, c, rfl, h1, ?_, h3⟩
    rcases h2 with h2 | ⟨b, off, rfl, h2⟩
    · exact .inl h2
    · refine .inr ⟨b, off, rfl, fun i x hx => ⟨(h2 i x hx).1, fun j v hv => ?_⟩⟩
      rw [World.cell?_of_block (h b (h3 b rfl))]
      exact (h2 i x hx).2 j v hv

theorem ownsRow_Row {w : World} {E sz n c : Nat} {a : Option Addr} {xs : List (List Value)} (h : w.ownsRow 0 E sz (.slice a n c) n xs.flatten) (hn : xs.length = n) (hl : ∀ x ∈ xs, x.length = sz) : Row w a sz xs := by
  rcases h.2 with ⟨hv, h0⟩ | ⟨g, cap, cur, hv, _, hh, hnc, _, hcs, ht⟩
  · exact .inl (List.eq_nil_of_length_eq_zero (hn.trans h0))
  · simp only [Value.slice.injEq] at hv
    obtain ⟨rfl, _, rfl⟩ := hv
    refine .inr ⟨g, 0, rfl, fun i x hx => ⟨hl x (List.mem_of_getElem? hx), fun j v hj => ?_⟩⟩
    have hg := row_get xs i x (List.all_eq_true.2 fun y hy => by simpa using hl y hy) hx j v hj
    rw [← ht, List.getElem?_take] at hg
    split at hg
    · rw [World.cell?, hh]
      simpa using hg
    · cases hg

theorem rowOf {w : World} {i E sz n c : Nat} {a : Option Addr} {xs : List (List Value)} (hS : Sat cx w L) (hL : L[i]? = some (rowV E sz (.slice a n c) n xs)) : Row w a sz xs := by
  obtain ⟨S, ⟨⟨h1, h2, h3⟩, _⟩, _⟩ := hS.at hL
  exact ownsRow_Row h1 h2 h3

theorem rdOf {w : World} {i sz n c : Nat} {a : Option Addr} {xs : List (List Value)} (hS : Sat cx w L) (hL : L[i]? = some (rdV sz (.slice a n c) n xs)) : Row w a sz xs := by
  obtain ⟨S, ⟨a', c', h0, h1, h2, _⟩, _⟩ := hS.at hL
  simp only [Value.slice.injEq] at h0
  obtain ⟨rfl, _, rfl⟩ := h0
  exact h2

theorem lenOf {w : World} {i E sz n : Nat} {v : Value} {xs : List (List Value)} (hS : Sat cx w L) (hL : L[i]? = some (rowV E sz v n xs)) : xs.length = n := by
  obtain ⟨S, ⟨⟨h1, h2, h3⟩, _⟩, _⟩ := hS.at hL
  exact h2

/-- The length of a slice of one's own is within what Go's slices have. -/
theorem maxOf {w : World} {i E sz n : Nat} {v : Value} {xs : List (List Value)} (hS : Sat cx w L) (hL : L[i]? = some (rowV E sz v n xs)) : n ≤ 9223372036854775807 := by
  obtain ⟨S, ⟨⟨h1, h2, h3⟩, _⟩, _⟩ := hS.at hL
  rcases h1.2 with ⟨_, h0⟩ | ⟨g, cap, cur, hv, _, hh, hnc, hm, _⟩
  · omega
  · simp only [maxLen] at hm; omega

theorem row_rd (E sz : Nat) (v : Value) (n : Nat) (xs : List (List Value)) : Imp (rowV E sz v n xs) (rdV sz v n xs) := ⟨fun S w ⟨⟨h1, h2, h3⟩, h4⟩ => by
  rcases h1.2 with ⟨rfl, h0⟩ | ⟨g, cap, cur, rfl, hr⟩
  · subst h0
    exact ⟨none, 0, rfl, h2, ownsRow_Row h1 h2 h3, h4⟩
  · exact ⟨some ⟨g, 0, none⟩, cap, rfl, h2, ownsRow_Row h1 h2 h3, h4⟩⟩

/-- The empty slice needs no memory. -/
theorem c_nilRow {K : Env → World → Prop} (E sz : Nat) (k : At cx K e (L ++ [rowV E sz (.slice none 0 0) 0 []])) : At cx K e L :=
  ⟨fun w hF hS => k.out w hF (hS.snoc hF (Grow.refl w) (S := noS) ⟨⟨World.ownsRow_nil _ _ _ _, rfl, by simp⟩, by simp [Value.ownBlock]⟩ (fun _ h => h.elim))⟩

/-- A chunk, said otherwise. -/
theorem c_imp {K : Env → World → Prop} (i : Nat) {C C' : Chunk} (hL : L[i]? = some C) (h : Imp C C') (k : At cx K e (L.set i C')) : At cx K e L :=
  ⟨fun w hF hS => k.out w hF (hS.set hF hL (Nat.le_refl _) fun S hp hb => ⟨S, h.out S w hp, fun b hs => ⟨(hb b hs).1, .inl hs⟩, fun _ _ _ => rfl⟩)⟩

theorem run_indexR {d : Option Nat} {X I : Operand} {a : Option Addr} {m c : Nat} {t u sz sz' : Nat} {k : IntKind} {i : Int} {xs : List (List Value)} {w : World} (hu : P.underlying t = some (.slice u)) (hs : ∀ w, (sizeOf u).run P w = .ok sz w)
    (hx : ev e X = .slice a m c) (hi : ev e I = .int k i) (hR : Row w a sz' xs) (hk : i.toNat < xs.length) (h0 : 0 ≤ i) (h1 : i < m) :
    (execOp (ev e) ⟨d, .indexAddr t X I, ty, pos, af, g⟩).run P w = .ok (.value (ptrAt a (i.toNat * sz))) w :=
  r_index hu hs hx hi (hR.some hk) h0 h1 w

theorem run_fieldR {d : Option Nat} {T fld k fo ft fsz bo : Nat} {a : Option Addr} {nm tg pk : String} {em : Bool} {X : Operand} {fs : Array Field} {sz' i : Nat} {xs : List (List Value)} {w : World} (hu : ∀ w, (underlying T).run P w = .ok (.struct fs) w)
    (hf : fs[fld]? = some ⟨nm, ft, fo, em, tg, pk, bo⟩) (hs : ∀ w, (sizeOf ft).run P w = .ok fsz w) (hsz : Nat.blt 0 fsz = true) (hp : ev e X = ptrAt a k) (hR : Row w a sz' xs) (hi : i < xs.length) :
    (execOp (ev e) ⟨d, .fieldAddr T X fld, ty, pos, af, g⟩).run P w = .ok (.value (ptrAt a (k + fo))) w :=
  r_fieldP hu hf hs hsz hp (hR.some hi) w

/-- Off memory that the region does not turn, chunks among it. -/
theorem d_readD {o : Oper} {d : Nat} {v : Value} {rds : List Nat} (hr : ∀ w L', Fr cx w → Sat cx w L' → (∀ i ∈ rds, L'[i]? = L[i]?) → (execOp (ev e) o).run P w = .ok (.value v) w) (hw : want ops o e = true) (hd : o.dst = some d)
    (k : Sq P cx ops F rest ss (upd e d v) L) : Sq P cx ops F (o :: rest) (.d rds v :: ss) e L :=
  d_det hw hd (fun w L' hF hS hi => by unfold RunsTo; rw [hr w L' hF hS hi]; exact ⟨rfl, Grow.refl w⟩) k

/-! ### append -/

theorem run_append_at {d : Option Nat} {S X : Operand} {t E : TypeId} {I : TypeInfo} {z : Value} {sz by_ : Nat} {w : World} {v : Value} {m : Nat} {xs : List Value} {ad : Addr} {q c : Nat} {news : List Value}
    (ht : P.underlying t = some (.slice E)) (hi : P.info? E = some I) (hz : I.zero = some z) (hsize : I.size = sz) (hby : I.bytes = by_) (hzs : z.cells.size = sz) (hsz : 0 < sz)
    (hs : ev e S = v) (hown : w.ownsRow 0 E sz v m xs) (hx : ev e X = .slice (some ad) q c) (hl : news.length = q * sz) (hnews : ∀ j u, news[j]? = some u → w.cell? (ad.add j) = some u) (h1 : ∀ u ∈ news, u.oneCell' = true)
    (h63 : m + q ≤ maxLen) (hbytes : (m + q) * by_ ≤ 140737488355328) :
    ∃ v' w', (execOp (ev e) ⟨d, .call ⟨.builtin .append, #[S, X], #[t, t]⟩, ty, pos, af, g⟩).run P w = .ok (.value v') w' ∧ w'.ownsRow 0 E sz v' (m + q) (xs ++ news) ∧ w.grownBy w' v.ownBlock ∧ (v'.ownBlock = v.ownBlock ∨ v'.ownBlock = some w.heap.size) := by
  obtain ⟨v', w', hr, h2, h3, h4, h5⟩ := run_append_own_at (P := P) w 0 t ty E I z sz by_ ht hi hz hsize hby hzs hsz v m xs hown ad q c news hl hnews h1 h63 hbytes (Nat.zero_le _)
  refine ⟨v', w', ?_, h2, h3, h5⟩
  simp only [execOp, resolve, invoke, builtin, Sem.run_bind, Sem.run_pure, Result.andThen_ok, List.map_toArray, List.map_cons, List.map_nil, hs, hx, hr]

theorem slice_of_row {w : World} {E sz n : Nat} {v : Value} {xs : List Value} (h : w.ownsRow 0 E sz v n xs) : ∃ p : Option Addr × Nat, v = .slice p.1 n p.2 := by
  rcases h.2 with ⟨rfl, h0⟩ | ⟨g, cap, cur, rfl, _⟩
  · subst h0; exact ⟨(none, 0), rfl⟩
  · exact ⟨(some ⟨g, 0, none⟩, cap), rfl⟩

/-- What an append leaves: the row has turned, or has moved to a new block. -/
theorem turn_append {w w' : World} {E sz m' : Nat} {v v' : Value} {xs' : List (List Value)} {S : Nat → Prop} (hS : ∀ b, v.ownBlock = some b → S b) (ho : w'.ownsRow 0 E sz v' m' xs'.flatten) (hg : w.grownBy w' v.ownBlock)
    (h5 : v'.ownBlock = v.ownBlock ∨ v'.ownBlock = some w.heap.size) (hn : xs'.length = m') (hl : ∀ x ∈ xs', x.length = sz) : Turn w w' S (rowV E sz v' m' xs') := by
  refine ⟨hg.os, hg.tape, hg.output, hg.size, fun b hb hn => hg.block b hb (fun h => hn (hS b h.symm)), fun b => v'.ownBlock = some b, ⟨⟨ho, hn, hl⟩, fun b h => h⟩, fun b hb => ⟨(ho.lt b hb).2, ?_⟩⟩
  rcases h5 with h | h
  · exact .inl (hS b (h ▸ hb))
  · rw [h] at hb; cases hb; exact .inr (Nat.le_refl _)

theorem Sat.turnOf {w w' : World} {i : Nat} {C0 C : Chunk} (hS : Sat cx w L) (hF : Fr cx w) (hL : L[i]? = some C0)
    (h : ∀ S : Nat → Prop, C0.P S w → Turn w w' S C) : Fr cx w' ∧ Sat cx w' (L.set i C) := by
  obtain ⟨S, hp, hb⟩ := hS.at hL
  have t := h S hp
  exact ⟨hF.turn t fun b hs => (hb b hs).2, hS.turnAt hF hL (fun S hp _ => h S hp) t.size⟩

theorem flat_get {sz : Nat} : ∀ (xs : List (List Value)), (∀ x ∈ xs, x.length = sz) → ∀ (j : Nat) (u : Value), xs.flatten[j]? = some u → ∃ i k x, xs[i]? = some x ∧ x[k]? = some u ∧ j = i * sz + k
  | [], _, j, u, h => by simp at h
  | x :: r, hl, j, u, h => by
    have hx := hl x (by simp)
    rw [List.flatten_cons] at h
    rcases Nat.lt_or_ge j x.length with hj | hj
    · rw [List.getElem?_append_left hj] at h
      exact ⟨0, j, x, by simp, h, by simp⟩
    · rw [List.getElem?_append_right hj] at h
      obtain ⟨i, k, y, h1, h2, h3⟩ := flat_get r (fun y hy => hl y (by simp [hy])) _ u h
      exact ⟨i + 1, k, y, by simpa using h1, h2, by rw [Nat.succ_mul]; omega⟩

theorem flat_len {sz : Nat} : ∀ (xs : List (List Value)), (∀ x ∈ xs, x.length = sz) → xs.flatten.length = xs.length * sz
  | [], _ => by simp
  | x :: r, hl => by
    rw [List.flatten_cons, List.length_append, flat_len r (fun y hy => hl y (by simp [hy])), hl x (by simp), List.length_cons, Nat.succ_mul]
    omega

/-- append onto a row of one's own: the elements lie anywhere in memory. -/
theorem turns_append {i : Nat} {S X : Operand} {t E : TypeId} {I : TypeInfo} {z : Value} {sz by_ : Nat} {p : Option Addr × Nat} {m m' : Nat} {xs xs' : List (List Value)} {ad : Addr} {q c : Nat} {news : List (List Value)} {rds : List Nat}
    (ht : P.underlying t = some (.slice E)) (hi : P.info? E = some I) (hz : I.zero = some z) (hsize : I.size = sz) (hby : I.bytes = by_) (hzs : z.cells.size = sz) (hsz : Nat.blt 0 sz = true)
    (hL : L[i]? = some (rowV E sz (.slice p.1 m p.2) m xs)) (hs : ev e S = .slice p.1 m p.2) (hx : ev e X = .slice (some ad) q c) (hq : news.length = q) (hnl : ∀ x ∈ news, x.length = sz)
    (hnews : ∀ w L', Fr cx w → Sat cx w L' → (∀ j, j ∈ rds → L'[j]? = L[j]?) → Row w (some ad) sz news) (h1 : ∀ x ∈ news, ∀ u ∈ x, u.oneCell' = true)
    (hxs : xs ++ news = xs') (hm : m + q = m') (h63 : m' ≤ 9223372036854775807) (hbytes : m' * by_ ≤ 140737488355328) :
    Turns P cx e ⟨some d, .call ⟨.builtin .append, #[S, X], #[t, t]⟩, ty, pos, af, g⟩ L i rds (fun p' : Option Addr × Nat => .slice p'.1 m' p'.2) (fun p' => rowV E sz (.slice p'.1 m' p'.2) m' xs') := fun w L' hF hS hl hi' => by
    subst hxs hm
    have hL' := (hi' i (.inr rfl)).trans hL
    obtain ⟨S0, ⟨⟨ho, hlen, hlx⟩, hob⟩, _⟩ := hS.at hL'
    have hsz' : 0 < sz := by simpa using hsz
    have hfl : news.flatten.length = q * sz := by rw [flat_len news hnl, hq]
    have hcell : ∀ j u, news.flatten[j]? = some u → w.cell? (ad.add j) = some u := by
      intro j u hj
      obtain ⟨i', k', x, g1, g2, g3⟩ := flat_get news hnl j u hj
      rcases hnews w L' hF hS (fun j hj => hi' j (.inl hj)) with h | ⟨b, off, ha, h⟩
      · subst h; simp at g1
      · cases ha
        have := (h i' x g1).2 k' u g2
        rw [Addr.add_lit, g3, ← Nat.add_assoc]
        exact this
    obtain ⟨v', w', hr, h2, h3, h5⟩ := run_append_at (P := P) (ty := ty) (pos := pos) (af := af) (g := g) (d := some d) ht hi hz hsize hby hzs hsz' hs ho hx hfl hcell (by
      intro u hu
      obtain ⟨x, hx, hux⟩ := List.mem_flatten.1 hu
      exact h1 x hx u hux) (by simp only [maxLen]; omega) hbytes
    obtain ⟨p', rfl⟩ := slice_of_row h2
    rw [← List.flatten_append] at h2
    obtain ⟨hF', hS'⟩ := hS.turnOf hF hL' (C := rowV E sz (.slice p'.1 (m + q) p'.2) (m + q) (xs ++ news)) fun S1 hp => turn_append hp.2 h2 h3 h5 (by simp [hlen, hq]) (by
      intro x hx
      rcases List.mem_append.1 hx with h | h
      · exact hlx x h
      · exact hnl x h)
    unfold RunsTo
    rw [hr]
    exact ⟨p', rfl, hF', hS'⟩

/-- append of a slice that is not there. -/
theorem r_appendNil {i : Nat} {S X : Operand} {t E : TypeId} {I : TypeInfo} {sz : Nat} {v : Value} {m : Nat} {xs : List (List Value)} (ht : P.underlying t = some (.slice E)) (hi : P.info? E = some I) (hs : ev e S = v) (hx : ev e X = .slice none 0 0)
    {w : World} (hS : Sat cx w L) (hL : L[i]? = some (rowV E sz v m xs)) : (execOp (ev e) ⟨some d, .call ⟨.builtin .append, #[S, X], #[t, t]⟩, ty, pos, af, g⟩).run P w = .ok (.value v) w := by
  obtain ⟨S0, ⟨⟨ho, _⟩, _⟩, _⟩ := hS.at hL
  simp only [execOp, resolve, invoke, builtin, Sem.run_bind, Sem.run_pure, Result.andThen_ok, List.map_toArray, List.map_cons, List.map_nil, hs, hx, run_append_owned_none w 0 t ty E I sz ht hi v m _ ho]

theorem rep_flat (l : List Value) : ∀ (n j : Nat), j < n * l.length → (List.replicate n l).flatten[j]? = l[j % l.length]?
  | 0, j, h => by simp at h
  | n + 1, j, h => by
    rw [List.replicate_succ, List.flatten_cons]
    rcases Nat.lt_or_ge j l.length with hj | hj
    · rw [List.getElem?_append_left hj, Nat.mod_eq_of_lt hj]
    · rw [List.getElem?_append_right hj, rep_flat l n (j - l.length) (by rw [Nat.succ_mul] at h; omega), ← Nat.mod_eq_sub_mod hj]

theorem made_rep (z : Array Value) (n : Nat) (hz : 0 < z.size) : (madeCells z (n * z.size)).toList = (List.replicate n z.toList).flatten := by
  refine List.ext_getElem? fun j => ?_
  rcases Nat.lt_or_ge j (n * z.size) with hj | hj
  · have h1 := rep_flat z.toList n j (by simpa using hj)
    rw [h1]
    have hm : j % z.size < z.size := Nat.mod_lt _ hz
    simp [madeCells, hj, hm]
  · rw [List.getElem?_eq_none (by simpa [madeCells] using hj), List.getElem?_eq_none]
    rw [flat_len (sz := z.size) _ (by intro x hx; rw [List.eq_of_mem_replicate hx]; simp)]
    simpa using hj

/-- make([]T, n), all elements zero. -/
theorem makes_makeSlice {N C : Operand} {t E : TypeId} {I : TypeInfo} {z : Value} {sz by_ : Nat} {m c : Nat} {kl kc : IntKind} {rds : List Nat} {zs : List (List Value)} (ht : P.underlying t = some (.slice E)) (hi : P.info? E = some I) (hz : I.zero = some z) (hsize : I.size = sz) (hby : I.bytes = by_)
    (hzs : z.cells.toList.length = sz) (hsz : Nat.blt 0 sz = true) (hn : ev e N = .int kl (m : Int)) (hc : ev e C = .int kc (c : Int)) (hmc : m = c) (hb : by_ * c ≤ 281474976710656) (h63 : c ≤ 9223372036854775807) (hzz : zs = List.replicate m z.cells.toList) :
    Makes P cx e ⟨some d, .makeSlice t N C, ty, pos, af, g⟩ L rds (fun p : Option Addr × Nat => .slice p.1 m p.2) (fun p => rowV E sz (.slice p.1 m p.2) m zs) := fun w L' hF hS hi' => by
  subst hsize hby hmc hzz
  obtain ⟨w', hr, ho, hg⟩ := run_make_full (P := P) w 0 t E I z I.size ht hi hz rfl kl kc m hb (by simpa [maxLen] using h63) (Nat.zero_le _)
  have hsz' : 0 < I.size := by simpa using hsz
  have hzz : z.cells.size = I.size := by simpa using hzs
  have ho' : w'.ownsRow 0 E I.size (.slice (some ⟨w.heap.size, 0, none⟩) m m) m (List.replicate m z.cells.toList).flatten := by
    rw [← made_rep z.cells m (by omega), hzz]; exact ho
  unfold RunsTo
  simp only [execOp, hn, hc, hr, Sem.run_bind, Sem.run_pure, Result.andThen_ok]
  refine ⟨(_, _), rfl, hg.os, hg.tape, hg.output, hg.size, fun b hb _ => hg.block b hb (by simp), fun b => b = w.heap.size, ⟨⟨ho', by simp, fun x hx => by rw [List.eq_of_mem_replicate hx]; exact hzs⟩, fun b hb => ?_⟩, fun b hb => ?_⟩
  · simp [Value.ownBlock] at hb; exact hb.symm
  · subst hb
    exact ⟨(ho.lt _ rfl).2, .inr (Nat.le_refl _)⟩

theorem makes_make0 {N C : Operand} {t E : TypeId} {I : TypeInfo} {z : Value} {sz by_ : Nat} {c : Nat} {kl kc : IntKind} {rds : List Nat} (ht : P.underlying t = some (.slice E)) (hi : P.info? E = some I) (hz : I.zero = some z) (hsize : I.size = sz) (hby : I.bytes = by_)
    (hn : ev e N = .int kl 0) (hc : ev e C = .int kc (c : Int)) (hb : by_ * c ≤ 281474976710656) (h63 : c ≤ 9223372036854775807) :
    Makes P cx e ⟨some d, .makeSlice t N C, ty, pos, af, g⟩ L rds (fun p : Option Addr × Nat => .slice p.1 0 p.2) (fun p => rowV E sz (.slice p.1 0 p.2) 0 []) := fun w L' hF hS hi' => by
  subst hsize hby
  obtain ⟨w', hr, ho, hg⟩ := run_make_own (P := P) w 0 t E I z I.size ht hi hz rfl kl kc c hb (by simpa [maxLen] using h63) (Nat.zero_le _)
  unfold RunsTo
  simp only [execOp, hn, hc, hr, Sem.run_bind, Sem.run_pure, Result.andThen_ok]
  refine ⟨(_, _), rfl, hg.os, hg.tape, hg.output, hg.size, fun b hb _ => hg.block b hb (by simp), fun b => b = w.heap.size, ⟨⟨ho, rfl, by simp⟩, fun b hb => ?_⟩, fun b hb => ?_⟩
  · simp [Value.ownBlock] at hb; exact hb.symm
  · subst hb
    exact ⟨(ho.lt _ rfl).2, .inr (Nat.le_refl _)⟩

/-! ### parts of slices -/

def cutA (a : Option Addr) (l m sz : Nat) : Option Addr := if m = l then a else a.map (·.add (l * sz))

theorem Row.cut {w : World} {a : Option Addr} {sz : Nat} {xs : List (List Value)} (h : Row w a sz xs) (l q m : Nat) (hq : l + q ≤ m) : Row w (cutA a l m sz) sz ((xs.drop l).take q) := by
  rcases h with h | ⟨b, off, rfl, h⟩
  · subst h; exact .inl (by simp)
  · unfold cutA
    by_cases hm : m = l
    · have hq0 : q = 0 := by omega
      subst hq0
      exact .inl (by simp)
    · rw [if_neg hm]
      refine .inr ⟨b, off + l * sz, by simp [Addr.add_lit], fun i x hx => ?_⟩
      rw [List.getElem?_take] at hx
      split at hx
      · rw [List.getElem?_drop] at hx
        obtain ⟨h1, h2⟩ := h (l + i) x hx
        refine ⟨h1, fun j v hv => ?_⟩
        have := h2 j v hv
        rw [show off + l * sz + i * sz + j = off + (l + i) * sz + j from by rw [Nat.add_mul]; omega]
        exact this
      · cases hx

theorem elem_of {t u : TypeId} (hu : P.underlying t = some (.slice u)) : P.elem t = u := by simp [Program.elem, hu]

theorem r_sliceLH {d : Option Nat} {X A B : Operand} {a : Option Addr} {m c : Nat} {t u sz : Nat} {ka kb : IntKind} {l h : Int} (hu : P.underlying t = some (.slice u)) (hs : ∀ w, (sizeOf u).run P w = .ok sz w)
    (hx : ev e X = .slice a m c) (ha : ev e A = .int ka l) (hb : ev e B = .int kb h) (h0 : 0 ≤ l) (h1 : l ≤ h) (h2 : h ≤ c) (w : World) :
    (execOp (ev e) ⟨d, .slice t X (some A) (some B) none, ty, pos, af, g⟩).run P w = .ok (.value (.slice (cutA a l.toNat c sz) (h.toNat - l.toNat) (c - l.toNat))) w := by
  have hu' : P.underlying t = some (.slice (P.elem t)) := by rw [elem_of hu]; exact hu
  simp only [execOp, Option.map_some, Option.map_none, hx, ha, hb, Sem.run_bind, run_sliceAt_slice w t _ _ _ _ hu', run_slice_lh w t a m c hu' ka kb l h h0 h1 h2, elem_of hu, hs, Result.andThen_ok, Sem.run_pure, sliced, cutA]

theorem r_sliceL {d : Option Nat} {X A : Operand} {a : Option Addr} {m c : Nat} {t u sz : Nat} {ka : IntKind} {l : Int} (hu : P.underlying t = some (.slice u)) (hs : ∀ w, (sizeOf u).run P w = .ok sz w)
    (hx : ev e X = .slice a m c) (ha : ev e A = .int ka l) (h0 : 0 ≤ l) (h1 : l ≤ m) (w : World) :
    (execOp (ev e) ⟨d, .slice t X (some A) none none, ty, pos, af, g⟩).run P w = .ok (.value (.slice (cutA a l.toNat c sz) (m - l.toNat) (c - l.toNat))) w := by
  have hu' : P.underlying t = some (.slice (P.elem t)) := by rw [elem_of hu]; exact hu
  simp only [execOp, Option.map_some, Option.map_none, hx, ha, Sem.run_bind, run_sliceAt_slice w t _ _ _ _ hu', run_slice_l w t a m c hu' ka l h0 h1, elem_of hu, hs, Result.andThen_ok, Sem.run_pure, sliced, cutA]

theorem r_sliceH {d : Option Nat} {X B : Operand} {a : Option Addr} {m c : Nat} {t u sz : Nat} {kb : IntKind} {h : Int} (hu : P.underlying t = some (.slice u)) (hs : ∀ w, (sizeOf u).run P w = .ok sz w)
    (hx : ev e X = .slice a m c) (hb : ev e B = .int kb h) (h0 : 0 ≤ h) (h2 : h ≤ c) (w : World) :
    (execOp (ev e) ⟨d, .slice t X none (some B) none, ty, pos, af, g⟩).run P w = .ok (.value (.slice (cutA a 0 c sz) h.toNat c)) w := by
  have hu' : P.underlying t = some (.slice (P.elem t)) := by rw [elem_of hu]; exact hu
  simp only [execOp, Option.map_some, Option.map_none, hx, hb, Sem.run_bind, run_sliceAt_slice w t _ _ _ _ hu', run_slice_h w t a m c hu' kb h h0 h2, elem_of hu, hs, Result.andThen_ok, Sem.run_pure, sliced, cutA, Nat.sub_zero]

theorem r_sliceHM {d : Option Nat} {X B M : Operand} {a : Option Addr} {m c : Nat} {t u sz : Nat} {kb km : IntKind} {h q : Int} (hu : P.underlying t = some (.slice u)) (hs : ∀ w, (sizeOf u).run P w = .ok sz w)
    (hx : ev e X = .slice a m c) (hb : ev e B = .int kb h) (hm : ev e M = .int km q) (h0 : 0 ≤ h) (h1 : h ≤ q) (h2 : q ≤ c) (w : World) :
    (execOp (ev e) ⟨d, .slice t X none (some B) (some M), ty, pos, af, g⟩).run P w = .ok (.value (.slice (cutA a 0 q.toNat sz) h.toNat q.toNat)) w := by
  have hu' : P.underlying t = some (.slice (P.elem t)) := by rw [elem_of hu]; exact hu
  simp only [execOp, Option.map_some, Option.map_none, hx, hb, hm, Sem.run_bind, run_sliceAt_slice w t _ _ _ _ hu', run_slice_hm w t a m c hu' kb km h q h0 h1 h2, elem_of hu, hs, Result.andThen_ok, Sem.run_pure, sliced, cutA, Nat.sub_zero]

/-- append of what a literal of slices has just laid down. -/
theorem turns_appendM {α : Type} {f : α → List Value} {ys ls : List α} {i k b : Nat} {S X : Operand} {t E T : TypeId} {I : TypeInfo} {z : Value} {sz by_ : Nat} {p : Option Addr × Nat} {m q : Nat} {cs : List Value} {xs : List (List Value)}
    (ht : P.underlying t = some (.slice E)) (hi : P.info? E = some I) (hz : I.zero = some z) (hsize : I.size = sz) (hby : I.bytes = by_) (hzs : z.cells.size = sz) (hsz : Nat.blt 0 sz = true)
    (hL : L[i]? = some (rowV E sz (.slice p.1 m p.2) m xs)) (hxs : xs = ys.map f) (hm : m = ys.length) (hs : ev e S = .slice p.1 m p.2) (hx : ev e X = .slice (some ⟨b, 0, none⟩) q q) (hk : L[k]? = some (cellsC b cs T)) (hcs : (ls.map f).flatten = cs) (hq : (ls.map f).length = q)
    (hnl : ((ls.map f).all fun x => Nat.beq x.length sz) = true) (h1 : ((ls.map f).all fun x => x.all Value.oneCell') = true) (h63 : (ys ++ ls).length * by_ ≤ 140737488355328) (hb0 : Nat.blt 0 by_ = true) :
    Turns P cx e ⟨some d, .call ⟨.builtin .append, #[S, X], #[t, t]⟩, ty, pos, af, g⟩ L i [k] (fun p' : Option Addr × Nat => .slice p'.1 (ys ++ ls).length p'.2) (fun p' => rowV E sz (.slice p'.1 (ys ++ ls).length p'.2) (ys ++ ls).length ((ys ++ ls).map f)) := by
  subst hxs hm
  exact turns_append ht hi hz hsize hby hzs hsz hL hs hx hq (fun x hx => by simpa using List.all_eq_true.1 hnl x hx) (fun w L' hF hS hj => row_box hS ((hj k (by simp)).trans hk) hcs hnl)
    (fun x hx u hu => List.all_eq_true.1 (List.all_eq_true.1 h1 x hx) u hu) (List.map_append (f := f) (l₁ := ys) (l₂ := ls)).symm (by rw [List.length_append, ← hq, List.length_map]) (by
      have hb : 1 ≤ by_ := by have : 0 < by_ := by simpa using hb0
                              omega
      have : (ys ++ ls).length * 1 ≤ (ys ++ ls).length * by_ := Nat.mul_le_mul_left _ hb
      omega) h63

theorem capOf {w : World} {i E sz n c : Nat} {a : Option Addr} {xs : List (List Value)} (hS : Sat cx w L) (hL : L[i]? = some (rowV E sz (.slice a n c) n xs)) : n ≤ c := by
  obtain ⟨S, ⟨⟨h1, h2, h3⟩, _⟩, _⟩ := hS.at hL
  rcases h1.2 with ⟨hv, h0⟩ | ⟨g, cap, cur, hv, _, hh, hnc, _⟩
  · simp only [Value.slice.injEq] at hv; omega
  · simp only [Value.slice.injEq] at hv; omega

theorem own_cut {a : Option Addr} {m c l : Nat} (sz : Nat) {x y : Nat} : (Value.slice (cutA a l m sz) x c).ownBlock = (Value.slice a y c).ownBlock := by
  unfold cutA
  cases a with
  | none => split <;> rfl
  | some a =>
    split
    · rfl
    · simp only [Value.ownBlock, Option.map_some, Addr.add]
      split <;> rfl

/-- A slice of one's own, its spare room cut off. -/
theorem imp_clip (E sz : Nat) (a : Option Addr) (n c : Nat) (xs : List (List Value)) : Imp (rowV E sz (.slice a n c) n xs) (rdV sz (.slice (cutA a 0 n sz) n n) n xs) := ⟨fun S w h => by
  obtain ⟨a', c', hv, h1, h2, h3⟩ := (row_rd E sz (.slice a n c) n xs).out S w h
  simp only [Value.slice.injEq] at hv
  obtain ⟨rfl, _, rfl⟩ := hv
  refine ⟨_, _, rfl, h1, ?_, fun b hb => h3 b ?_⟩
  · have := h2.cut 0 n n (by omega)
    rwa [List.drop_zero, List.take_of_length_le (by omega)] at this
  · rw [own_cut (y := n)] at hb; rw [← hb]; cases a <;> rfl⟩

/-- What a literal of slices has laid down, as a row that may grow. -/
theorem imp_box {b m sz : Nat} {cs : List Value} {T E : TypeId} {xs : List (List Value)} (hT : T = E) (hcs : xs.flatten = cs) (hl : (xs.all fun x => Nat.beq x.length sz) = true) (hm : xs.length = m ∧ m ≤ 9223372036854775807) :
    Imp (cellsC b cs T) (rowV E sz (.slice (some ⟨b, 0, none⟩) m m) m xs) := ⟨fun S w h => by
  subst hT hcs
  have hl' : ∀ x ∈ xs, x.length = sz := fun x hx => by simpa using List.all_eq_true.1 hl x hx
  have hf := flat_len xs hl'
  refine ⟨⟨⟨by rw [hf, hm.1], .inr ⟨b, m, _, rfl, Nat.zero_le _, h.2, Nat.le_refl _, by simpa [maxLen] using hm.2, by simp [hf, hm.1], ?_⟩⟩, hm.1, hl'⟩, fun c hc => ?_⟩
  · rw [List.toList_toArray, List.take_of_length_le (by rw [hf, hm.1]; omega)]
  · simp [Value.ownBlock] at hc; exact (h.1 c).2 hc.symm⟩

end rules
end Go.Vc
