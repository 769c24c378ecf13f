/- A small rule library of our own over the kit's walk calculus: it proves that Go code meets a contract, one operation at a time, over a functional frame and a list of owned memory chunks. Conditions: none; every rule is proved here from the kit's own laws. -/
import Derived.Orders
import Derived.Tactics
import Derived.Below
import Derived.KernelRfl
namespace Go.Vc
open Go

abbrev Env := Nat → Value

def upd (e : Env) (d : Nat) (v : Value) : Env := fun t => bif Nat.beq t d then v else e t

def ev (e : Env) : Operand → Value
  | .tmp t => e t
  | .const v => v
  | .global g => .pointer (some ⟨g, 0, none⟩)
  | .func f => .func (.func f) #[] #[]

/-- The frame of the machine, as a function. -/
structure Sim (n : Nat) (a : Act) (e : Env) : Prop where
  defers : a.defers = []
  size : a.tmps.size = n
  val : ∀ t, a.tmps.getD t undef = e t

theorem Sim.ev {n : Nat} {a : Act} {e : Env} (h : Sim n a e) : a.eval = ev e := by
  funext o
  cases o <;> simp [Act.eval, Vc.ev, h.val]

theorem beq_eq (a b : Nat) : Nat.beq a b = decide (a = b) := by
  rw [Bool.eq_iff_iff]; simp [Nat.beq_eq]

theorem upd_same (e : Env) (d : Nat) (v : Value) : upd e d v d = v := by simp [upd]
theorem upd_ne (e : Env) (d t : Nat) (v : Value) (h : t ≠ d) : upd e d v t = e t := by simp [upd, beq_eq, h]

theorem Sim.put {n : Nat} {a : Act} {e : Env} (h : Sim n a e) {d : Nat} (hd : Nat.blt d n = true) (v : Value) : Sim n (a.put (some d) v) (upd e d v) := by
  have hd' : d < n := by simpa using hd
  refine ⟨h.defers, by simp [Act.put, h.size], fun t => ?_⟩
  have ht := h.val t
  by_cases htd : t = d
  · subst htd
    rw [upd_same]
    simp [Act.put, Array.getD_eq_getD_getElem?, h.size, hd']
  · rw [upd_ne _ _ _ _ htd, ← ht]
    simp only [Act.put, Array.getD_eq_getD_getElem?]
    rw [Array.getElem?_setIfInBounds]
    have : ¬ d = t := fun e => htd e.symm
    simp [this]

theorem Sim.put_none {n : Nat} {a : Act} {e : Env} (h : Sim n a e) (v : Value) : Sim n (a.put none v) e := h

/-- The values of an entry: a list, read by position. -/
def lget : List Value → Env
  | [], _ => undef
  | v :: _, 0 => v
  | _ :: l, t + 1 => lget l t

theorem lget_eq (l : List Value) (t : Nat) : lget l t = l.getD t undef := by
  induction l generalizing t with
  | nil => simp [lget]
  | cons v l ih => cases t <;> simp [lget, ih]

/-! ### worlds -/

/-- The world behind: nothing that was there has turned. -/
def Grow (w w' : World) : Prop := Go.RowKit.Below w.heap.size w w'

theorem Grow.refl (w : World) : Grow w w := Go.RowKit.Below.refl _ _
theorem Grow.trans {a b c : World} (h : Grow a b) (k : Grow b c) : Grow a c := Go.RowKit.Below.trans h (Go.RowKit.Below.mono k h.size)

/-- A piece of memory: a set of blocks and what holds of them; it depends on these blocks alone. -/
structure Chunk where
  P : (Nat → Prop) → World → Prop
  loc : ∀ S w w', (∀ b, S b → w'.heap[b]? = w.heap[b]?) → P S w → P S w'

/-- The context of a walk: the world at the call, and which of its blocks the call may write. -/
structure Cx where
  w0 : World
  S0 : Nat → Prop

def Cx.own (cx : Cx) (b : Nat) : Prop := cx.w0.heap.size ≤ b ∨ cx.S0 b

structure Fr (cx : Cx) (w : World) : Prop where
  os : w.os = cx.w0.os
  tape : w.tape = cx.w0.tape
  output : w.output = cx.w0.output
  size : cx.w0.heap.size ≤ w.heap.size
  block : ∀ b, ¬ cx.own b → w.heap[b]? = cx.w0.heap[b]?

structure Sat (cx : Cx) (w : World) (L : List Chunk) : Prop where
  out : ∃ fp : Nat → Nat → Prop, (∀ (i : Nat) (c : Chunk), L[i]? = some c → c.P (fp i) w) ∧ (∀ i b, fp i b → i < L.length ∧ b < w.heap.size ∧ cx.own b) ∧ (∀ i j b, fp i b → fp j b → i = j)

theorem Fr.refl (w : World) (S0 : Nat → Prop) : Fr ⟨w, S0⟩ w := ⟨rfl, rfl, rfl, Nat.le_refl _, fun _ _ => rfl⟩

theorem Fr.grow {cx : Cx} {w w' : World} (h : Fr cx w) (g : Grow w w') : Fr cx w' := by
  refine ⟨g.os.trans h.os, g.tape.trans h.tape, g.output.trans h.output, Nat.le_trans h.size g.size, fun b hb => ?_⟩
  have hlt : b < w.heap.size := by
    have : ¬ cx.w0.heap.size ≤ b := fun hh => hb (.inl hh)
    have := h.size
    omega
  rw [g.block b hlt, h.block b hb]

theorem Sat.grow {cx : Cx} {w w' : World} {L : List Chunk} (h : Sat cx w L) (g : Grow w w') : Sat cx w' L := by
  obtain ⟨fp, h1, h2, h3⟩ := h.out
  refine ⟨fp, fun i c hc => c.loc _ _ _ (fun b hb => g.block b (h2 i b hb).2.1) (h1 i c hc), fun i b hb => ?_, h3⟩
  obtain ⟨a1, a2, a3⟩ := h2 i b hb
  exact ⟨a1, Nat.lt_of_lt_of_le a2 g.size, a3⟩

theorem Sat.nil (cx : Cx) (w : World) : Sat cx w [] := ⟨fun _ _ => False, by simp, fun _ _ h => h.elim, fun _ _ _ h => h.elim⟩

/-- A new chunk, over blocks that are all new. -/
theorem Sat.snoc {cx : Cx} {w w' : World} {L : List Chunk} {c : Chunk} {S : Nat → Prop} (h : Sat cx w L) (hf : Fr cx w) (g : Grow w w') (hc : c.P S w')
    (hS : ∀ b, S b → w.heap.size ≤ b ∧ b < w'.heap.size) : Sat cx w' (L ++ [c]) := by
  obtain ⟨fp, k1, h2, h3⟩ := h.out
  have h1 : ∀ (i : Nat) (c : Chunk), L[i]? = some c → c.P (fp i) w' := fun i c hc => c.loc _ _ _ (fun b hb => g.block b (h2 i b hb).2.1) (k1 i c hc)
  refine ⟨fun i b => (i < L.length ∧ fp i b) ∨ (i = L.length ∧ S b), ?_, ?_, ?_⟩
  · intro i d hd
    by_cases hi : i < L.length
    · have : (fun b => (i < L.length ∧ fp i b) ∨ (i = L.length ∧ S b)) = fp i := by
        funext b; apply propext; constructor
        · rintro (⟨_, h⟩ | ⟨h, _⟩)
          · exact h
          · omega
        · exact fun h => .inl ⟨hi, h⟩
      show d.P (fun b => (i < L.length ∧ fp i b) ∨ (i = L.length ∧ S b)) w'
      rw [this]
      exact h1 i d (by simpa [List.getElem?_append_left hi] using hd)
    · have hle : L.length ≤ i := by omega
      rw [List.getElem?_append_right hle] at hd
      have hi0 : i - L.length = 0 := by
        by_cases h0 : i - L.length = 0
        · exact h0
        · obtain ⟨k, hk⟩ : ∃ k, i - L.length = k + 1 := ⟨i - L.length - 1, by omega⟩
          rw [hk] at hd; simp at hd
      have hil : i = L.length := by omega
      rw [hi0] at hd
      simp at hd
      subst hd
      have : (fun b => (i < L.length ∧ fp i b) ∨ (i = L.length ∧ S b)) = S := by
        funext b; apply propext; constructor
        · rintro (⟨h, _⟩ | ⟨_, h⟩)
          · omega
          · exact h
        · exact fun h => .inr ⟨hil, h⟩
      show c.P (fun b => (i < L.length ∧ fp i b) ∨ (i = L.length ∧ S b)) w'
      rw [this]
      exact hc
  · rintro i b (⟨hi, hb⟩ | ⟨hi, hb⟩)
    · obtain ⟨a1, a2, a3⟩ := h2 i b hb
      exact ⟨by simp; omega, Nat.lt_of_lt_of_le a2 g.size, a3⟩
    · obtain ⟨a1, a2⟩ := hS b hb
      exact ⟨by simp; omega, a2, .inl (Nat.le_trans hf.size a1)⟩
  · rintro i j b (⟨hi, hb⟩ | ⟨hi, hb⟩) (⟨hj, hb'⟩ | ⟨hj, hb'⟩)
    · exact h3 i j b hb hb'
    · have := (h2 i b hb).2.1; have := (hS b hb').1; omega
    · have := (h2 j b hb').2.1; have := (hS b hb).1; omega
    · omega

/-- One chunk is turned; its blocks stay its own, or are new. -/
theorem Sat.set {cx : Cx} {w w' : World} {L : List Chunk} {i : Nat} {c c' : Chunk} (h : Sat cx w L) (hf : Fr cx w) (hi : L[i]? = some c)
    (hs : w.heap.size ≤ w'.heap.size)
    (hc : ∀ S : Nat → Prop, c.P S w → (∀ b, S b → b < w.heap.size ∧ cx.own b) → ∃ S' : Nat → Prop, c'.P S' w' ∧ (∀ b, S' b → b < w'.heap.size ∧ (S b ∨ w.heap.size ≤ b)) ∧ ∀ b, b < w.heap.size → ¬ S b → w'.heap[b]? = w.heap[b]?) :
    Sat cx w' (L.set i c') := by
  obtain ⟨fp, h1, h2, h3⟩ := h.out
  obtain ⟨S', k1, k2, k3⟩ := hc (fp i) (h1 i c hi) (fun b hb => (h2 i b hb).2)
  have hil : i < L.length := by
    rcases Nat.lt_or_ge i L.length with h | h
    · exact h
    · simp [List.getElem?_eq_none h] at hi
  refine ⟨fun j b => if j = i then S' b else fp j b, ?_, ?_, ?_⟩
  · intro j d hd
    by_cases hji : j = i
    · subst hji
      simp [List.getElem?_set_self hil] at hd
      subst hd
      simpa using k1
    · rw [List.getElem?_set_ne (fun e => hji e.symm)] at hd
      simp only [hji, if_false]
      exact d.loc _ _ _ (fun b hb => k3 b (h2 j b hb).2.1 (fun hib => hji (h3 j i b hb hib))) (h1 j d hd)
  · intro j b hb
    by_cases hji : j = i
    · simp only [hji, if_true] at hb
      refine ⟨by simp [hji, hil], (k2 b hb).1, ?_⟩
      rcases (k2 b hb).2 with h | h
      · exact (h2 i b h).2.2
      · exact .inl (Nat.le_trans hf.size h)
    · simp only [hji, if_false] at hb
      obtain ⟨a1, a2, a3⟩ := h2 j b hb
      exact ⟨by simpa using a1, by omega, a3⟩
  · intro j k b hj hk
    by_cases hji : j = i <;> by_cases hki : k = i <;> simp only [hji, hki, if_true, if_false] at hj hk
    · omega
    · obtain ⟨_, a2, _⟩ := h2 k b hk
      rcases (k2 b hj).2 with h | h
      · exact absurd (h3 k i b hk h) hki
      · omega
    · obtain ⟨_, a2, _⟩ := h2 j b hj
      rcases (k2 b hk).2 with h | h
      · exact absurd (h3 j i b hj h) hji
      · omega
    · exact h3 j k b hj hk

/-- Fewer chunks, in another order. -/
theorem Sat.select {cx : Cx} {w : World} {L L' : List Chunk} (h : Sat cx w L) (sel : List Nat) (hnd : sel.Nodup) (hs : sel.map (fun i => L[i]?) = L'.map some) : Sat cx w L' := by
  obtain ⟨fp, h1, h2, h3⟩ := h.out
  have hlen : sel.length = L'.length := by simpa using congrArg List.length hs
  refine ⟨fun k b => ∃ i, sel[k]? = some i ∧ fp i b, ?_, ?_, ?_⟩
  · intro k c hc
    have hk : (sel.map (fun i => L[i]?))[k]? = (L'.map some)[k]? := by rw [hs]
    simp only [List.getElem?_map, hc, Option.map_some] at hk
    cases hsk : sel[k]? with
    | none => simp [hsk] at hk
    | some i =>
      simp [hsk] at hk
      have : (fun b => ∃ j, some i = some j ∧ fp j b) = fp i := by
        funext b; apply propext; constructor
        · rintro ⟨j, hj, hb⟩; cases hj; exact hb
        · exact fun hb => ⟨i, rfl, hb⟩
      show c.P (fun b => ∃ j, sel[k]? = some j ∧ fp j b) w
      rw [hsk, this]
      exact h1 i c hk
  · rintro k b ⟨i, hi, hb⟩
    have hkl : k < sel.length := by
      rcases Nat.lt_or_ge k sel.length with h | h
      · exact h
      · simp [List.getElem?_eq_none h] at hi
    exact ⟨by omega, (h2 i b hb).2⟩
  · rintro k k' b ⟨i, hi, hb⟩ ⟨i', hi', hb'⟩
    have := h3 i i' b hb hb'
    subst this
    have hkl : k < sel.length := by
      rcases Nat.lt_or_ge k sel.length with h | h
      · exact h
      · simp [List.getElem?_eq_none h] at hi
    have hkl' : k' < sel.length := by
      rcases Nat.lt_or_ge k' sel.length with h | h
      · exact h
      · simp [List.getElem?_eq_none h] at hi'
    have hp := List.pairwise_iff_getElem.1 hnd
    rw [List.getElem?_eq_getElem hkl] at hi
    rw [List.getElem?_eq_getElem hkl'] at hi'
    rcases Nat.lt_trichotomy k k' with h | h | h
    · exact absurd ((Option.some.inj hi).trans (Option.some.inj hi').symm) (hp k k' hkl hkl' h)
    · exact h
    · exact absurd ((Option.some.inj hi').trans (Option.some.inj hi).symm) (hp k' k hkl' hkl h)

/-! ### goals -/

/-- 'K', in whatever world fits. -/
structure At (cx : Cx) (K : Env → World → Prop) (e : Env) (L : List Chunk) : Prop where
  out : ∀ w, Fr cx w → Sat cx w L → K e w

abbrev Post := Exit → Env → World → Prop

def lift (n : Nat) (Q : Post) : Exit → Act → World → Prop := fun x a w => ∃ e, Sim n a e ∧ Q x e w

/-- Code, over the functional frame. -/
structure WC (P : Program) (n : Nat) (c : Code) (Q : Post) (e : Env) (w : World) : Prop where
  out : ∀ a, Sim n a e → c.wp P (lift n Q) a w

/-- What is left of a region whose order is fixed. -/
structure WL (P : Program) (n : Nat) (ops : Array Oper) (Q : Post) (l : List Oper) (e : Env) (w : World) : Prop where
  out : ∀ a, Sim n a e → wpList P ops (lift n Q) l a w

def ThenQ (K : Env → World → Prop) (Q : Post) : Post
  | .normal, e, w => K e w
  | .exit i, e, w => Q (.exit i) e w
  | .goto l, e, w => Q (.goto l) e w
  | .ret, e, w => Q .ret e w
  | .panic c, e, w => Q (.panic c) e w
  | .outgrown, e, w => Q .outgrown e w

def BlockQ (id : Nat) (Q : Post) : Post
  | .normal, e, w => Q .normal e w
  | .exit i, e, w => bif Nat.beq i id then Q .normal e w else Q (.exit i) e w
  | .goto l, e, w => Q (.goto l) e w
  | .ret, e, w => Q .ret e w
  | .panic c, e, w => Q (.panic c) e w
  | .outgrown, e, w => Q .outgrown e w

section rules
variable {P : Program} {n : Nat} {cx : Cx} {Q : Post} {e : Env} {L : List Chunk}

theorem c_seq {x y : Code} (h : At cx (WC P n x (ThenQ (WC P n y Q) Q)) e L) : At cx (WC P n (.seq x y) Q) e L :=
  ⟨fun w hF hS => ⟨fun a ha => wp_seq (Code.wp_mono (fun x' a' w' hq => by
    obtain ⟨e', hs, hq⟩ := hq
    cases x' <;> first | exact ⟨e', hs, hq⟩ | exact WC.out hq a' hs) ((h.out w hF hS).out a ha))⟩⟩

theorem c_skip (h : At cx (Q .normal) e L) : At cx (WC P n .skip Q) e L :=
  ⟨fun w hF hS => ⟨fun _ ha => wp_skip ⟨e, ha, h.out w hF hS⟩⟩⟩

theorem c_ret (h : At cx (Q .ret) e L) : At cx (WC P n .ret Q) e L :=
  ⟨fun w hF hS => ⟨fun _ ha => wp_ret ⟨e, ha, h.out w hF hS⟩⟩⟩

theorem c_exit {id : Nat} (h : At cx (Q (.exit id)) e L) : At cx (WC P n (.exit id) Q) e L :=
  ⟨fun w hF hS => ⟨fun _ ha => wp_exit ⟨e, ha, h.out w hF hS⟩⟩⟩

theorem c_block {id : Nat} {c : Code} (h : At cx (WC P n c (BlockQ id Q)) e L) : At cx (WC P n (.block id c) Q) e L :=
  ⟨fun w hF hS => ⟨fun a ha => wp_block (Code.wp_mono (fun x' a' w' hq => by
    obtain ⟨e', hs, hq⟩ := hq
    cases x' with
    | exit i =>
      simp only [Exit.inBlock, lift]
      by_cases hi : i = id
      · simp only [hi, if_true]
        have hb : Nat.beq id id = true := by simp
        have hq' : (bif Nat.beq i id then Q .normal e' w' else Q (.exit i) e' w') := hq
        rw [hi, hb] at hq'
        exact ⟨e', hs, hq'⟩
      · have hb : Nat.beq i id = false := by simp [beq_eq, hi]
        have hq' : (bif Nat.beq i id then Q .normal e' w' else Q (.exit i) e' w') := hq
        rw [hb] at hq'
        simp only [hi, if_false]
        exact ⟨e', hs, hq'⟩
    | normal => exact ⟨e', hs, hq⟩
    | goto l => exact ⟨e', hs, hq⟩
    | ret => exact ⟨e', hs, hq⟩
    | panic c => exact ⟨e', hs, hq⟩
    | outgrown => exact ⟨e', hs, hq⟩) ((h.out w hF hS).out a ha))⟩⟩

theorem c_if {c : Operand} {x y : Code} {b : Bool} (hc : ev e c = .bool b) (ht : b = true → At cx (WC P n x Q) e L) (hf : b = false → At cx (WC P n y Q) e L) :
    At cx (WC P n (.cond c x y) Q) e L :=
  ⟨fun w hF hS => ⟨fun a ha => wp_cond_split (by rw [ha.ev]; exact hc) (fun hb => ((ht hb).out w hF hS).out a ha) (fun hb => ((hf hb).out w hF hS).out a ha)⟩⟩

theorem c_true {c : Operand} {x y : Code} (hc : ev e c = .bool true) (ht : At cx (WC P n x Q) e L) : At cx (WC P n (.cond c x y) Q) e L :=
  c_if hc (fun _ => ht) (fun h => by cases h)

theorem c_false {c : Operand} {x y : Code} (hc : ev e c = .bool false) (hf : At cx (WC P n y Q) e L) : At cx (WC P n (.cond c x y) Q) e L :=
  c_if hc (fun h => by cases h) (fun _ => hf)

theorem c_dec {c : Operand} {x y : Code} {p : Prop} [Decidable p] (hc : ev e c = .bool (decide p)) (ht : p → At cx (WC P n x Q) e L) (hf : ¬ p → At cx (WC P n y Q) e L) :
    At cx (WC P n (.cond c x y) Q) e L :=
  c_if hc (fun h => ht (of_decide_eq_true h)) (fun h => hf (of_decide_eq_false h))

/-- A region whose order is fixed. -/
theorem c_region {id : Nat} {l : List Oper} (h : At cx (WL P n l.toArray Q l) e L) : At cx (WC P n (.region id l.toArray false) Q) e L :=
  ⟨fun w hF hS => ⟨fun a ha => wp_region_lit ((h.out w hF hS).out a ha)⟩⟩

theorem l_nil {ops : Array Oper} (h : At cx (Q .normal) e L) : At cx (WL P n ops Q []) e L :=
  ⟨fun w hF hS => ⟨fun _ ha => wpList_nil ⟨e, ha, h.out w hF hS⟩⟩⟩

end rules

/-- What a function hands back, over the functional frame. -/
def BodyQ (P : Program) (fn : Func) (R : Value → World → Prop) : Post
  | .normal, e, w | .ret, e, w => ∀ tmps : Array Value, (∀ t, tmps.getD t undef = e t) → ∃ v, (results fn tmps).run P w = .ok v w ∧ R v w
  | _, _, _ => False

/-- A contract: the call returns a value that fits. -/
def Does (P : Program) (f : FuncId) (args : Array Value) (w : World) (R : Value → World → Prop) : Prop :=
  Calls P f args w fun en w' => ∃ v, en = .returned v ∧ R v w'

theorem Does.mono {P : Program} {f : FuncId} {args : Array Value} {w : World} {R R' : Value → World → Prop} (h : Does P f args w R) (hr : ∀ v w', R v w' → R' v w') : Does P f args w R' :=
  Calls.mono h fun _ _ ⟨v, he, hv⟩ => ⟨v, he, hr _ _ hv⟩

theorem getD_args (args : List Value) (k t : Nat) : (args.toArray ++ Array.replicate k undef).getD t undef = lget args t := by
  rw [lget_eq, Array.getD_eq_getD_getElem?, Array.getElem?_append]
  split
  · simp [List.getD_eq_getElem?_getD]
  · rename_i h
    have h' : args.length ≤ t := by simpa using h
    rw [List.getD_eq_getElem?_getD, List.getElem?_eq_none h']
    rw [Array.getElem?_replicate]
    split <;> rfl

/-- Into a function's body. -/
theorem enter {P : Program} {f : FuncId} {fn : Func} {c : Code} {args : List Value} {n : Nat} {w : World} {R : Value → World → Prop} (hf : P.funcs[f]? = some fn) (hb : fn.body = some c) (hn : fn.ntmps = n) (hle : Nat.ble args.length n = true)
    (S0 : Nat → Prop) (L : List Chunk) (hL : Sat ⟨w, S0⟩ w L) (h : At ⟨w, S0⟩ (WC P n c (BodyQ P fn R)) (lget args) L) : Does P f args.toArray w R := by
  refine calls_of_wp hf hb ?_
  refine Code.wp_mono ?_ ((h.out w (Fr.refl w S0) hL).out _ ⟨rfl, ?_, ?_⟩)
  · rintro x a w' ⟨e, hs, hq⟩
    cases x with
    | normal =>
      obtain ⟨v, hr, hR⟩ := hq a.tmps hs.val
      exact ⟨hs.defers, v, hr, v, rfl, hR⟩
    | ret =>
      obtain ⟨v, hr, hR⟩ := hq a.tmps hs.val
      exact ⟨hs.defers, v, hr, v, rfl, hR⟩
    | exit i => exact hq.elim
    | goto i => exact hq.elim
    | panic i => exact hq.elim
    | outgrown => exact hq.elim
  · have hle' : args.length ≤ n := by simpa using hle
    simp only [hn, Array.size_append, List.size_toArray, Array.size_replicate]
    omega
  · intro t
    exact getD_args args _ t

end Go.Vc
