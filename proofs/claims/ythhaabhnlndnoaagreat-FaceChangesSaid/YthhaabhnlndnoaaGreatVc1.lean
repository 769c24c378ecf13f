/- A small rule library of our own over the kit's walk calculus: it proves that Go code meets a contract, one operation at a time, over a functional frame and a list of owned memory chunks. Conditions: none; every rule is proved here from the kit's own laws. -/
import Derived.Orders
import Derived.Tactics
import Derived.Below
import Derived.KernelRfl
import Derived.Laws.Cells
import Derived.Laws.CopyRow
import Derived.Laws.Externs
import Derived.IntWalk
import Derived.Deep.LoopGhost
import Derived.LoopN
import Derived.Laws.StructEq
import Derived.Maps.AppendAt
import Derived.Laws.OwnMore
import Derived.Laws.Slices
import Derived.Laws.Strings3
import Derived.Laws.Concat
namespace Go.Vc
open Go
abbrev Zk := Nat → Value
def upd (e : Zk) (d : Nat) (v : Value) : Zk := fun t => bif Nat.beq t d then v else e t
def ev (e : Zk) : Operand → Value
 | .tmp t => e t
 | .const v => v
 | .global g => .pointer (some ⟨g, 0, none⟩)
 | .func f => .func (.func f) #[] #[]
structure Sim (n : Nat) (a : Act) (e : Zk) : Prop where
 defers : a.defers = []
 size : a.tmps.size = n
 val : ∀ t, a.tmps.getD t undef = e t
theorem Sim.ev {n : Nat} {a : Act} {e : Zk} (h : Sim n a e) : a.eval = ev e := by
 funext o
 cases o <;> simp [Act.eval, Vc.ev, h.val]
theorem beq_eq (a b : Nat) : Nat.beq a b = decide (a = b) := by
 rw [Bool.eq_iff_iff]; simp [Nat.beq_eq]
theorem upd_same (e : Zk) (d : Nat) (v : Value) : upd e d v d = v := by simp [upd]
theorem upd_ne (e : Zk) (d t : Nat) (v : Value) (h : t ≠ d) : upd e d v t = e t := by simp [upd, beq_eq, h]
theorem Sim.put {n : Nat} {a : Act} {e : Zk} (h : Sim n a e) {d : Nat} (hd : Nat.blt d n = true) (v : Value) : Sim n (a.put (some d) v) (upd e d v) := by
 have hd' : d < n := by simpa using hd
 refine ⟨h.defers, by simp [Act.put, h.size], fun t => ?_⟩
 have ht := h.val t
 by_cases htd : t = d
 ·subst htd
  rw [upd_same]
  simp [Act.put, Array.getD_eq_getD_getElem?, h.size, hd']
 ·rw [upd_ne _ _ _ _ htd, ← ht]
  simp only [Act.put, Array.getD_eq_getD_getElem?]
  rw [Array.getElem?_setIfInBounds]
  have : ¬ d = t := fun e => htd e.symm
  simp [this]
def lget : List Value → Zk
 | [], _ => undef
 | v :: _, 0 => v
 | _ :: l, t + 1 => lget l t
theorem lget_eq (l : List Value) (t : Nat) : lget l t = l.getD t undef := by
 induction l generalizing t with
 | nil => simp [lget]
 | cons v l ih => cases t <;> simp [lget, ih]
def Grow (w w' : World) : Prop := Go.RowKit.Below w.heap.size w w'
theorem Grow.refl (w : World) : Grow w w := Go.RowKit.Below.refl _ _
theorem Grow.trans {a b c : World} (h : Grow a b) (k : Grow b c) : Grow a c := Go.RowKit.Below.trans h (Go.RowKit.Below.mono k h.size)
structure Chunk where
 P : (Nat → Prop) → World → Prop
 loc : ∀ S w w', (∀ b, S b → w'.heap[b]? = w.heap[b]?) → P S w → P S w'
structure Cx where
 w0 : World
 S0 : Nat → Prop
def Cx.own (cx : Cx) (b : Nat) : Prop := cx.w0.heap.size ≤ b ∨ cx.S0 b
structure Fr (cx : Cx) (w : World) : Prop where
 os : w.os = cx.w0.os
 tape : w.tape = cx.w0.tape
 output : w.output = cx.w0.output
 size : cx.w0.heap.size ≤ w.heap.size
 block : ∀ b, ¬ cx.own b → w.heap[b]? = cx.w0.heap[b]?
structure Sat (cx : Cx) (w : World) (L : List Chunk) : Prop where
 out : ∃ fp : Nat → Nat → Prop, (∀ (i : Nat) (c : Chunk), L[i]? = some c → c.P (fp i) w) ∧ (∀ i b, fp i b → i < L.length ∧ b < w.heap.size ∧ cx.own b) ∧ (∀ i j b, fp i b → fp j b → i = j)
theorem Fr.refl (w : World) (S0 : Nat → Prop) : Fr ⟨w, S0⟩ w := ⟨rfl, rfl, rfl, Nat.le_refl _, fun _ _ => rfl⟩
theorem Fr.grow {cx : Cx} {w w' : World} (h : Fr cx w) (g : Grow w w') : Fr cx w' := by
 refine ⟨g.os.trans h.os, g.tape.trans h.tape, g.output.trans h.output, Nat.le_trans h.size g.size, fun b hb => ?_⟩
 have hlt : b < w.heap.size := by
  have : ¬ cx.w0.heap.size ≤ b := fun hh => hb (.inl hh)
  have := h.size
  omega
 rw [g.block b hlt, h.block b hb]
theorem Sat.grow {cx : Cx} {w w' : World} {L : List Chunk} (h : Sat cx w L) (g : Grow w w') : Sat cx w' L := by
 obtain ⟨fp, h1, h2, h3⟩ := h.out
 refine ⟨fp, fun i c hc => c.loc _ _ _ (fun b hb => g.block b (h2 i b hb).2.1) (h1 i c hc), fun i b hb => ?_, h3⟩
 obtain ⟨a1, a2, a3⟩ := h2 i b hb
 exact ⟨a1, Nat.lt_of_lt_of_le a2 g.size, a3⟩
theorem Sat.nil (cx : Cx) (w : World) : Sat cx w [] := ⟨fun _ _ => False, by simp, fun _ _ h => h.elim, fun _ _ _ h => h.elim⟩
theorem Sat.snoc {cx : Cx} {w w' : World} {L : List Chunk} {c : Chunk} {S : Nat → Prop} (h : Sat cx w L) (hf : Fr cx w) (g : Grow w w') (hc : c.P S w')
  (hS : ∀ b, S b → w.heap.size ≤ b ∧ b < w'.heap.size) : Sat cx w' (L ++ [c]) := by
 obtain ⟨fp, k1, h2, h3⟩ := h.out
 have h1 : ∀ (i : Nat) (c : Chunk), L[i]? = some c → c.P (fp i) w' := fun i c hc => c.loc _ _ _ (fun b hb => g.block b (h2 i b hb).2.1) (k1 i c hc)
 refine ⟨fun i b => (i < L.length ∧ fp i b) ∨ (i = L.length ∧ S b), ?_, ?_, ?_⟩
 ·intro i d hd
  by_cases hi : i < L.length
  ·have : (fun b => (i < L.length ∧ fp i b) ∨ (i = L.length ∧ S b)) = fp i := by
    funext b; apply propext; constructor
    ·rintro (⟨_, h⟩ | ⟨h, _⟩)
     ·exact h
     ·omega
    ·exact fun h => .inl ⟨hi, h⟩
   show d.P (fun b => (i < L.length ∧ fp i b) ∨ (i = L.length ∧ S b)) w'
   rw [this]
   exact h1 i d (by simpa [List.getElem?_append_left hi] using hd)
  ·have hle : L.length ≤ i := by omega
   rw [List.getElem?_append_right hle] at hd
   have hi0 : i - L.length = 0 := by
    by_cases h0 : i - L.length = 0
    ·exact h0
    ·obtain ⟨k, hk⟩ : ∃ k, i - L.length = k + 1 := ⟨i - L.length - 1, by omega⟩
     rw [hk] at hd; simp at hd
   have hil : i = L.length := by omega
   rw [hi0] at hd
   simp at hd
   subst hd
   have : (fun b => (i < L.length ∧ fp i b) ∨ (i = L.length ∧ S b)) = S := by
    funext b; apply propext; constructor
    ·rintro (⟨h, _⟩ | ⟨_, h⟩)
     ·omega
     ·exact h
    ·exact fun h => .inr ⟨hil, h⟩
   show c.P (fun b => (i < L.length ∧ fp i b) ∨ (i = L.length ∧ S b)) w'
   rw [this]
   exact hc
 ·rintro i b (⟨hi, hb⟩ | ⟨hi, hb⟩)
  ·obtain ⟨a1, a2, a3⟩ := h2 i b hb
   exact ⟨by simp; omega, Nat.lt_of_lt_of_le a2 g.size, a3⟩
  ·obtain ⟨a1, a2⟩ := hS b hb
   exact ⟨by simp; omega, a2, .inl (Nat.le_trans hf.size a1)⟩
 ·rintro i j b (⟨hi, hb⟩ | ⟨hi, hb⟩) (⟨hj, hb'⟩ | ⟨hj, hb'⟩)
  ·exact h3 i j b hb hb'
  ·have := (h2 i b hb).2.1; have := (hS b hb').1; omega
  ·have := (h2 j b hb').2.1; have := (hS b hb).1; omega
  ·omega
theorem Sat.set {cx : Cx} {w w' : World} {L : List Chunk} {i : Nat} {c c' : Chunk} (h : Sat cx w L) (hf : Fr cx w) (hi : L[i]? = some c)
  (hs : w.heap.size ≤ w'.heap.size)
  (hc : ∀ S : Nat → Prop, c.P S w → (∀ b, S b → b < w.heap.size ∧ cx.own b) → ∃ S' : Nat → Prop, c'.P S' w' ∧ (∀ b, S' b → b < w'.heap.size ∧ (S b ∨ w.heap.size ≤ b)) ∧ ∀ b, b < w.heap.size → ¬ S b → w'.heap[b]? = w.heap[b]?) :
  Sat cx w' (L.set i c') := by
 obtain ⟨fp, h1, h2, h3⟩ := h.out
 obtain ⟨S', k1, k2, k3⟩ := hc (fp i) (h1 i c hi) (fun b hb => (h2 i b hb).2)
 have hil : i < L.length := by
  rcases Nat.lt_or_ge i L.length with h | h
  ·exact h
  ·simp [List.getElem?_eq_none h] at hi
 refine ⟨fun j b => if j = i then S' b else fp j b, ?_, ?_, ?_⟩
 ·intro j d hd
  by_cases hji : j = i
  ·subst hji
   simp [List.getElem?_set_self hil] at hd
   subst hd
   simpa using k1
  ·rw [List.getElem?_set_ne (fun e => hji e.symm)] at hd
   simp only [hji, if_false]
   exact d.loc _ _ _ (fun b hb => k3 b (h2 j b hb).2.1 (fun hib => hji (h3 j i b hb hib))) (h1 j d hd)
 ·intro j b hb
  by_cases hji : j = i
  ·simp only [hji, if_true] at hb
   refine ⟨by simp [hji, hil], (k2 b hb).1, ?_⟩
   rcases (k2 b hb).2 with h | h
   ·exact (h2 i b h).2.2
   ·exact .inl (Nat.le_trans hf.size h)
  ·simp only [hji, if_false] at hb
   obtain ⟨a1, a2, a3⟩ := h2 j b hb
   exact ⟨by simpa using a1, by omega, a3⟩
 ·intro j k b hj hk
  by_cases hji : j = i <;> by_cases hki : k = i <;> simp only [hji, hki, if_true, if_false] at hj hk
  ·omega
  ·obtain ⟨_, a2, _⟩ := h2 k b hk
   rcases (k2 b hj).2 with h | h
   ·exact absurd (h3 k i b hk h) hki
   ·omega
  ·obtain ⟨_, a2, _⟩ := h2 j b hj
   rcases (k2 b hk).2 with h | h
   ·exact absurd (h3 j i b hj h) hji
   ·omega
  ·exact h3 j k b hj hk
theorem Sat.select {cx : Cx} {w : World} {L L' : List Chunk} (h : Sat cx w L) (sel : List Nat) (hnd : sel.Nodup) (hs : sel.map (fun i => L[i]?) = L'.map some) : Sat cx w L' := by
 obtain ⟨fp, h1, h2, h3⟩ := h.out
 have hlen : sel.length = L'.length := by simpa using congrArg List.length hs
 refine ⟨fun k b => ∃ i, sel[k]? = some i ∧ fp i b, ?_, ?_, ?_⟩
 ·intro k c hc
  have hk : (sel.map (fun i => L[i]?))[k]? = (L'.map some)[k]? := by rw [hs]
  simp only [List.getElem?_map, hc, Option.map_some] at hk
  cases hsk : sel[k]? with
  | none => simp [hsk] at hk
  | some i =>
   simp [hsk] at hk
   have : (fun b => ∃ j, some i = some j ∧ fp j b) = fp i := by
    funext b; apply propext; constructor
    ·rintro ⟨j, hj, hb⟩; cases hj; exact hb
    ·exact fun hb => ⟨i, rfl, hb⟩
   show c.P (fun b => ∃ j, sel[k]? = some j ∧ fp j b) w
   rw [hsk, this]
   exact h1 i c hk
 ·rintro k b ⟨i, hi, hb⟩
  have hkl : k < sel.length := by
   rcases Nat.lt_or_ge k sel.length with h | h
   ·exact h
   ·simp [List.getElem?_eq_none h] at hi
  exact ⟨by omega, (h2 i b hb).2⟩
 ·rintro k k' b ⟨i, hi, hb⟩ ⟨i', hi', hb'⟩
  have := h3 i i' b hb hb'
  subst this
  have hkl : k < sel.length := by
   rcases Nat.lt_or_ge k sel.length with h | h
   ·exact h
   ·simp [List.getElem?_eq_none h] at hi
  have hkl' : k' < sel.length := by
   rcases Nat.lt_or_ge k' sel.length with h | h
   ·exact h
   ·simp [List.getElem?_eq_none h] at hi'
  have hp := List.pairwise_iff_getElem.1 hnd
  rw [List.getElem?_eq_getElem hkl] at hi
  rw [List.getElem?_eq_getElem hkl'] at hi'
  rcases Nat.lt_trichotomy k k' with h | h | h
  ·exact absurd ((Option.some.inj hi).trans (Option.some.inj hi').symm) (hp k k' hkl hkl' h)
  ·exact h
  ·exact absurd ((Option.some.inj hi').trans (Option.some.inj hi).symm) (hp k' k hkl' hkl h)
structure At (cx : Cx) (K : Zk → World → Prop) (e : Zk) (L : List Chunk) : Prop where
 out : ∀ w, Fr cx w → Sat cx w L → K e w
abbrev Post := Exit → Zk → World → Prop
def lift (n : Nat) (Q : Post) : Exit → Act → World → Prop := fun x a w => ∃ e, Sim n a e ∧ Q x e w
structure WC (P : Program) (n : Nat) (c : Code) (Q : Post) (e : Zk) (w : World) : Prop where
 out : ∀ a, Sim n a e → c.wp P (lift n Q) a w
structure WL (P : Program) (n : Nat) (ops : Array Oper) (Q : Post) (l : List Oper) (e : Zk) (w : World) : Prop where
 out : ∀ a, Sim n a e → wpList P ops (lift n Q) l a w
def ThenQ (K : Zk → World → Prop) (Q : Post) : Post
 | .normal, e, w => K e w
 | .exit i, e, w => Q (.exit i) e w
 | .goto l, e, w => Q (.goto l) e w
 | .ret, e, w => Q .ret e w
 | .panic c, e, w => Q (.panic c) e w
 | .outgrown, e, w => Q .outgrown e w
def BlockQ (id : Nat) (Q : Post) : Post
 | .normal, e, w => Q .normal e w
 | .exit i, e, w => bif Nat.beq i id then Q .normal e w else Q (.exit i) e w
 | .goto l, e, w => Q (.goto l) e w
 | .ret, e, w => Q .ret e w
 | .panic c, e, w => Q (.panic c) e w
 | .outgrown, e, w => Q .outgrown e w
section rules
variable {P : Program} {n : Nat} {cx : Cx} {Q : Post} {e : Zk} {L : List Chunk}
theorem Jc {x y : Code} (h : At cx (WC P n x (ThenQ (WC P n y Q) Q)) e L) : At cx (WC P n (.seq x y) Q) e L :=
 ⟨fun w hF hS => ⟨fun a ha => wp_seq (Code.wp_mono (fun x' a' w' hq => by
  obtain ⟨e', hs, hq⟩ := hq
  cases x' <;> first | exact ⟨e', hs, hq⟩ | exact WC.out hq a' hs) ((h.out w hF hS).out a ha))⟩⟩
theorem Jv (h : At cx (Q .normal) e L) : At cx (WC P n .skip Q) e L :=
 ⟨fun w hF hS => ⟨fun _ ha => wp_skip ⟨e, ha, h.out w hF hS⟩⟩⟩
theorem Jy (h : At cx (Q .ret) e L) : At cx (WC P n .ret Q) e L :=
 ⟨fun w hF hS => ⟨fun _ ha => wp_ret ⟨e, ha, h.out w hF hS⟩⟩⟩
theorem Q3 {id : Nat} (h : At cx (Q (.exit id)) e L) : At cx (WC P n (.exit id) Q) e L :=
 ⟨fun w hF hS => ⟨fun _ ha => wp_exit ⟨e, ha, h.out w hF hS⟩⟩⟩
theorem Ju {id : Nat} {c : Code} (h : At cx (WC P n c (BlockQ id Q)) e L) : At cx (WC P n (.block id c) Q) e L :=
 ⟨fun w hF hS => ⟨fun a ha => wp_block (Code.wp_mono (fun x' a' w' hq => by
  obtain ⟨e', hs, hq⟩ := hq
  cases x' with
  | exit i =>
   simp only [Exit.inBlock, lift]
   by_cases hi : i = id
   ·simp only [hi, if_true]
    have hb : Nat.beq id id = true := by simp
    have hq' : (bif Nat.beq i id then Q .normal e' w' else Q (.exit i) e' w') := hq
    rw [hi, hb] at hq'
    exact ⟨e', hs, hq'⟩
   ·have hb : Nat.beq i id = false := by simp [beq_eq, hi]
    have hq' : (bif Nat.beq i id then Q .normal e' w' else Q (.exit i) e' w') := hq
    rw [hb] at hq'
    simp only [hi, if_false]
    exact ⟨e', hs, hq'⟩
  | normal => exact ⟨e', hs, hq⟩
  | goto l => exact ⟨e', hs, hq⟩
  | ret => exact ⟨e', hs, hq⟩
  | panic c => exact ⟨e', hs, hq⟩
  | outgrown => exact ⟨e', hs, hq⟩) ((h.out w hF hS).out a ha))⟩⟩
theorem Qm {c : Operand} {x y : Code} {b : Bool} (hc : ev e c = .bool b) (ht : b = true → At cx (WC P n x Q) e L) (hf : b = false → At cx (WC P n y Q) e L) :
  At cx (WC P n (.cond c x y) Q) e L :=
 ⟨fun w hF hS => ⟨fun a ha => wp_cond_split (by rw [ha.ev]; exact hc) (fun hb => ((ht hb).out w hF hS).out a ha) (fun hb => ((hf hb).out w hF hS).out a ha)⟩⟩
theorem c_true {c : Operand} {x y : Code} (hc : ev e c = .bool true) (ht : At cx (WC P n x Q) e L) : At cx (WC P n (.cond c x y) Q) e L :=
 Qm hc (fun _ => ht) (fun h => by cases h)
theorem Wq {c : Operand} {x y : Code} (hc : ev e c = .bool false) (hf : At cx (WC P n y Q) e L) : At cx (WC P n (.cond c x y) Q) e L :=
 Qm hc (fun h => by cases h) (fun _ => hf)
theorem Ja {id : Nat} {l : List Oper} (h : At cx (WL P n l.toArray Q l) e L) : At cx (WC P n (.region id l.toArray false) Q) e L :=
 ⟨fun w hF hS => ⟨fun a ha => wp_region_lit ((h.out w hF hS).out a ha)⟩⟩
theorem Jd {ops : Array Oper} (h : At cx (Q .normal) e L) : At cx (WL P n ops Q []) e L :=
 ⟨fun w hF hS => ⟨fun _ ha => wpList_nil ⟨e, ha, h.out w hF hS⟩⟩⟩
end rules
def BodyQ (P : Program) (fn : Func) (R : Value → World → Prop) : Post
 | .normal, e, w | .ret, e, w => ∀ tmps : Array Value, (∀ t, tmps.getD t undef = e t) → ∃ v, (results fn tmps).run P w = .ok v w ∧ R v w
 | _, _, _ => False
def Does (P : Program) (f : FuncId) (args : Array Value) (w : World) (R : Value → World → Prop) : Prop :=
 Calls P f args w fun en w' => ∃ v, en = .returned v ∧ R v w'
theorem Does.mono {P : Program} {f : FuncId} {args : Array Value} {w : World} {R R' : Value → World → Prop} (h : Does P f args w R) (hr : ∀ v w', R v w' → R' v w') : Does P f args w R' :=
 Calls.mono h fun _ _ ⟨v, he, hv⟩ => ⟨v, he, hr _ _ hv⟩
theorem getD_args (args : List Value) (k t : Nat) : (args.toArray ++ Array.replicate k undef).getD t undef = lget args t := by
 rw [lget_eq, Array.getD_eq_getD_getElem?, Array.getElem?_append]
 split
 ·simp [List.getD_eq_getElem?_getD]
 ·rename_i h
  have h' : args.length ≤ t := by simpa using h
  rw [List.getD_eq_getElem?_getD, List.getElem?_eq_none h']
  rw [Array.getElem?_replicate]
  split <;> rfl
theorem enter {P : Program} {f : FuncId} {fn : Func} {c : Code} {args : List Value} {n : Nat} {w : World} {R : Value → World → Prop} (hf : P.funcs[f]? = some fn) (hb : fn.body = some c) (hn : fn.ntmps = n) (hle : Nat.ble args.length n = true)
  (S0 : Nat → Prop) (L : List Chunk) (hL : Sat ⟨w, S0⟩ w L) (h : At ⟨w, S0⟩ (WC P n c (BodyQ P fn R)) (lget args) L) : Does P f args.toArray w R := by
 refine calls_of_wp hf hb ?_
 refine Code.wp_mono ?_ ((h.out w (Fr.refl w S0) hL).out _ ⟨rfl, ?_, ?_⟩)
 ·rintro x a w' ⟨e, hs, hq⟩
  cases x with
  | normal =>
   obtain ⟨v, hr, hR⟩ := hq a.tmps hs.val
   exact ⟨hs.defers, v, hr, v, rfl, hR⟩
  | ret =>
   obtain ⟨v, hr, hR⟩ := hq a.tmps hs.val
   exact ⟨hs.defers, v, hr, v, rfl, hR⟩
  | exit i => exact hq.elim
  | goto i => exact hq.elim
  | panic i => exact hq.elim
  | outgrown => exact hq.elim
 ·have hle' : args.length ≤ n := by simpa using hle
  simp only [hn, Array.size_append, List.size_toArray, Array.size_replicate]
  omega
 ·intro t
  exact getD_args args _ t
end Go.Vc

/- The rules for single operations of a region, over the functional frame. Conditions: none. -/
namespace Go.Vc
open Go
def Zu (ops : Array Oper) (o : Oper) (e : Zk) : Bool :=
 match o.guard with
 | none => true
 | some (j, b) => match (ops[j]?).bind (·.dst) with
  | none => false
  | some d => match e d, b with
   | .bool true, b => b
   | .bool false, true => false
   | .bool false, false => true
   | _, _ => false
theorem want_eq {n : Nat} {a : Act} {e : Zk} (h : Sim n a e) (ops : Array Oper) (o : Oper) : Region.wanted o (yielded ops a.tmps) = Zu ops o e := by
 unfold Region.wanted Zu
 cases hg : o.guard with
 | none => rfl
 | some jb =>
  obtain ⟨j, b⟩ := jb
  simp only [yielded]
  cases hd : (ops[j]?).bind (·.dst) with
  | none => rfl
  | some d =>
   simp only [Option.bind_some]
   have hv := h.val d
   rw [Array.getD_eq_getD_getElem?] at hv
   cases ht : a.tmps[d]? with
   | none =>
    rw [ht] at hv
    simp only [Option.getD_none] at hv
    rw [← hv]
    rfl
   | some v =>
    rw [ht] at hv
    simp only [Option.getD_some] at hv
    rw [← hv]
    cases v <;> first | rfl | (rename_i x; cases x <;> cases b <;> rfl)
section rules
variable {P : Program} {n : Nat} {cx : Cx} {Q : Post} {e : Zk} {L : List Chunk} {ops : Array Oper} {rest : List Oper}
theorem l_passed {o : Oper} {d : Nat} (hw : Zu ops o e = false) (hd : o.dst = some d) (hn : Nat.blt d n = true) (k : At cx (WL P n ops Q rest) (upd e d undef) L) : At cx (WL P n ops Q (o :: rest)) e L :=
 ⟨fun w hF hS => ⟨fun a ha => by
  unfold wpList
  rw [want_eq ha, hw]
  rw [hd]
  exact (k.out w hF hS).out _ (ha.put hn undef)⟩⟩
theorem l_yields {o : Oper} {d : Nat} (hw : Zu ops o e = true) (hd : o.dst = some d) (hn : Nat.blt d n = true)
  (h : ∀ w, Fr cx w → Sat cx w L → ∃ v w', (execOp (ev e) o).run P w = .ok (.value v) w' ∧ WL P n ops Q rest (upd e d v) w') : At cx (WL P n ops Q (o :: rest)) e L :=
 ⟨fun w hF hS => ⟨fun a ha => by
  obtain ⟨v, w', hr, hk⟩ := h w hF hS
  unfold wpList
  rw [want_eq ha, hw, if_pos rfl]
  refine .inl ?_
  unfold Oper.wp
  rw [ha.ev, hr]
  show wpList P ops (lift n Q) rest (a.put o.dst v) w'
  rw [hd]
  exact hk.out _ (ha.put hn v)⟩⟩
theorem l_acts {o : Oper} (hw : Zu ops o e = true) (hd : o.dst = none)
  (h : ∀ w, Fr cx w → Sat cx w L → ∃ w', (execOp (ev e) o).run P w = .ok .skip w' ∧ WL P n ops Q rest e w') : At cx (WL P n ops Q (o :: rest)) e L :=
 ⟨fun w hF hS => ⟨fun a ha => by
  obtain ⟨w', hr, hk⟩ := h w hF hS
  unfold wpList
  rw [want_eq ha, hw, if_pos rfl]
  refine .inl ?_
  unfold Oper.wp
  rw [ha.ev, hr]
  show wpList P ops (lift n Q) rest (a.put o.dst undef) w'
  rw [hd]
  exact hk.out _ ha⟩⟩
theorem l_calls {o : Oper} {d : Nat} {f : FuncId} {args : Array Value} (hw : Zu ops o e = true) (hd : o.dst = some d) (hn : Nat.blt d n = true)
  (hr : ∀ w, (execOp (ev e) o).run P w = .ok (.enter f args) w)
  (h : ∀ w, Fr cx w → Sat cx w L → Does P f args w fun v w' => WL P n ops Q rest (upd e d v) w') : At cx (WL P n ops Q (o :: rest)) e L :=
 ⟨fun w hF hS => ⟨fun a ha => by
  unfold wpList
  rw [want_eq ha, hw, if_pos rfl]
  refine .inl ?_
  unfold Oper.wp
  rw [ha.ev, hr]
  show Calls P f args w _
  refine Calls.mono (h w hF hS) ?_
  rintro en w' ⟨v, rfl, hk⟩
  show wpList P ops (lift n Q) rest (a.put o.dst v) w'
  rw [hd]
  exact hk.out _ (ha.put hn v)⟩⟩
theorem Jf {o : Oper} {d : Nat} {v : Value} (hw : Zu ops o e = true) (hd : o.dst = some d) (hn : Nat.blt d n = true)
  (hr : ∀ w, (execOp (ev e) o).run P w = .ok (.value v) w) (k : At cx (WL P n ops Q rest) (upd e d v) L) : At cx (WL P n ops Q (o :: rest)) e L :=
 l_yields hw hd hn fun w hF hS => ⟨v, w, hr w, k.out w hF hS⟩
section ops
variable {d : Option Nat} {ty : TypeId} {pos : String} {af : Array Edge} {g : Option (Nat × Bool)}
theorem r_move {X : Operand} {v : Value} (hx : ev e X = v) (w : World) :
  (execOp (ev e) ⟨d, .move X, ty, pos, af, g⟩).run P w = .ok (.value v) w :=
 by subst hx; rfl
theorem Uj {X : Operand} {v : Value} (hx : ev e X = v) (w : World) :
  (execOp (ev e) ⟨d, .assign X, ty, pos, af, g⟩).run P w = .ok (.value v) w :=
 by subst hx; rfl
theorem Q5 {c A B : Operand} {v : Value} (hc : ev e c = .bool true) (hx : ev e A = v) (w : World) :
  (execOp (ev e) ⟨d, .pick c A B, ty, pos, af, g⟩).run P w = .ok (.value v) w :=
 by subst hx; simp [execOp, hc, asBool]
theorem Qr {c A B : Operand} {v : Value} (hc : ev e c = .bool false) (hx : ev e B = v) (w : World) :
  (execOp (ev e) ⟨d, .pick c A B, ty, pos, af, g⟩).run P w = .ok (.value v) w :=
 by subst hx; simp [execOp, hc, asBool]
theorem split {K : Zk → World → Prop} {b : Bool} {d : Nat} (ht : b = true → At cx K (upd e d (.bool true)) L) (hf : b = false → At cx K (upd e d (.bool false)) L) : At cx K (upd e d (.bool b)) L := by
 cases b
 ·exact hf rfl
 ·exact ht rfl
theorem Ub {X : Operand} {b : Bool} {t : TypeId} (hx : ev e X = .bool b) (w : World) :
  (execOp (ev e) ⟨d, .unOp .not t X, ty, pos, af, g⟩).run P w = .ok (.value (.bool (!b))) w :=
 by simp [execOp, hx, Op.unary]
section bin
variable {X Y : Operand} {x y : Int} {t t' : TypeId} {kd : IntKind}
theorem run_guard_int (w : World) (op : BinOp) : (eqGuard op t X Y (.int kd x) (.int kd y)).run P w = .ok () w := by
 unfold eqGuard; cases op <;> rfl
theorem r_bin {op : BinOp} {v : Value} (hx : ev e X = .int kd x) (hy : ev e Y = .int kd y)
  (hr : ∀ w, (binOp op t (.int kd x) (.int kd y)).run P w = .ok v w) (w : World) :
  (execOp (ev e) ⟨d, .binOp op t X Y t', ty, pos, af, g⟩).run P w = .ok (.value v) w :=
 by simp [execOp, hx, hy, run_guard_int, hr]
theorem r_add (hx : ev e X = .int .i64 x) (hy : ev e Y = .int .i64 y)
  (hr : -9223372036854775808 ≤ x + y ∧ x + y ≤ 9223372036854775807) (w : World) :
  (execOp (ev e) ⟨d, .binOp .add t X Y t', ty, pos, af, g⟩).run P w = .ok (.value (.int .i64 (x + y))) w :=
 r_bin hx hy (fun w => by simp [binOp, Op.intArith, IntWalk.i64_in _ hr]) w
theorem r_sub (hx : ev e X = .int .i64 x) (hy : ev e Y = .int .i64 y)
  (hr : -9223372036854775808 ≤ x - y ∧ x - y ≤ 9223372036854775807) (w : World) :
  (execOp (ev e) ⟨d, .binOp .sub t X Y t', ty, pos, af, g⟩).run P w = .ok (.value (.int .i64 (x - y))) w :=
 r_bin hx hy (fun w => by simp [binOp, Op.intArith, IntWalk.i64_in _ hr]) w
theorem r_mul (hx : ev e X = .int .i64 x) (hy : ev e Y = .int .i64 y)
  (hr : -9223372036854775808 ≤ x * y ∧ x * y ≤ 9223372036854775807) (w : World) :
  (execOp (ev e) ⟨d, .binOp .mul t X Y t', ty, pos, af, g⟩).run P w = .ok (.value (.int .i64 (x * y))) w :=
 r_bin hx hy (fun w => by simp [binOp, Op.intArith, IntWalk.i64_in _ hr]) w
theorem Q0 (hx : ev e X = .int kd x) (hy : ev e Y = .int kd y) (w : World) :
  (execOp (ev e) ⟨d, .binOp .lss t X Y t', ty, pos, af, g⟩).run P w = .ok (.value (.bool (decide (x < y)))) w :=
 r_bin hx hy (fun w => by simp [binOp, Op.intCmp]) w
theorem r_leq (hx : ev e X = .int kd x) (hy : ev e Y = .int kd y) (w : World) :
  (execOp (ev e) ⟨d, .binOp .leq t X Y t', ty, pos, af, g⟩).run P w = .ok (.value (.bool (decide (x ≤ y)))) w :=
 r_bin hx hy (fun w => by simp [binOp, Op.intCmp]) w
theorem Jaz (hx : ev e X = .int kd x) (hy : ev e Y = .int kd y) (w : World) :
  (execOp (ev e) ⟨d, .binOp .gtr t X Y t', ty, pos, af, g⟩).run P w = .ok (.value (.bool (decide (y < x)))) w :=
 r_bin hx hy (fun w => by simp [binOp, Op.intCmp]) w
theorem r_geq (hx : ev e X = .int kd x) (hy : ev e Y = .int kd y) (w : World) :
  (execOp (ev e) ⟨d, .binOp .geq t X Y t', ty, pos, af, g⟩).run P w = .ok (.value (.bool (decide (y ≤ x)))) w :=
 r_bin hx hy (fun w => by simp [binOp, Op.intCmp]) w
theorem Uv (hx : ev e X = .int kd x) (hy : ev e Y = .int kd y) (w : World) :
  (execOp (ev e) ⟨d, .binOp .eql t X Y t', ty, pos, af, g⟩).run P w = .ok (.value (.bool (decide (x = y)))) w :=
 r_bin hx hy (fun w => by simp [binOp, Op.intCmp]; rfl) w
theorem r_neq (hx : ev e X = .int kd x) (hy : ev e Y = .int kd y) (w : World) :
  (execOp (ev e) ⟨d, .binOp .neq t X Y t', ty, pos, af, g⟩).run P w = .ok (.value (.bool (decide (x ≠ y)))) w :=
 r_bin hx hy (fun w => by simp [binOp, Op.intCmp, bne]; rfl) w
end bin
theorem Qs {X : Operand} {ix : Nat} {vs : Array Value} {v : Value} (hx : ev e X = .tuple vs) (hv : vs[ix]? = some v) (w : World) :
  (execOp (ev e) ⟨d, .extract X ix, ty, pos, af, g⟩).run P w = .ok (.value v) w :=
 by simp [execOp, hx, Instr.extract, hv]
theorem r_min {X Y : Operand} {x y : Int} {kd : IntKind} {tys : Array TypeId}
  (hx : ev e X = .int kd x) (hy : ev e Y = .int kd y) (w : World) :
  (execOp (ev e) ⟨d, .call ⟨.builtin .min, #[X, Y], tys⟩, ty, pos, af, g⟩).run P w = .ok (.value (.int kd (min x y))) w :=
 by
  have : (if y < x then y else x) = min x y := by rw [Int.min_def]; split <;> split <;> omega
  simp [execOp, resolve, invoke, builtin, hx, hy, Builtin.min_, Builtin.min2, this]
theorem r_build {t : TypeId} {parts : Array (Nat × Operand)} {fs : Array Field} {pl : Array (Nat × Nat)} {z cells : Array Value} {ps : List (Nat × Value)}
  (hz : ∀ w, (zeroValue t).run P w = .ok (.agg z) w) (hu : ∀ w, (underlying t).run P w = .ok (.struct fs) w)
  (hpl : ∀ w, (fs.mapM fun f => do pure (f.offset, ← sizeOf f.type) : Sem (Array (Nat × Nat))).run P w = .ok pl w)
    
  (hps : parts.toList.map (fun (i, x) => (i, ev e x)) = ps) (hf : Instr.fill (pl[·]?) z ps = some cells) (w : World) :
  (execOp (ev e) ⟨d, .build t parts, ty, pos, af, g⟩).run P w = .ok (.value (.agg cells)) w :=
 by
  have hz' : (Value.agg z).cells = z := rfl
  have hps' : (parts.map fun (i, x) => (i, ev e x)).toList = ps := by rw [← hps, Array.toList_map]
  simp only [execOp, Instr.build, Sem.run_bind, hz, hu, Result.andThen_ok, hpl, hps', hz', hf, Sem.run_pure]
end ops
end rules
end Go.Vc

/- The rules for memory, calls, loops and returns, over the functional frame. Conditions: none. -/
namespace Go.Vc
open Go
def Q1 (b : Nat) (cs : List Value) (T : TypeId) : Chunk where
 P S w := (∀ x, S x ↔ x = b) ∧ w.heap[b]? = some (.cells cs.toArray T (0, 0))
 loc S w w' h hp := ⟨hp.1, by rw [h b ((hp.1 b).2 rfl)]; exact hp.2⟩
def rdn : List Value → Nat → Option (List Value)
 | _, 0 => some []
 | [], _ + 1 => none
 | v :: r, k + 1 => (rdn r k).map (v :: ·)
def rd : List Value → Nat → Nat → Option (List Value)
 | cs, 0, k => rdn cs k
 | [], _ + 1, k => rdn [] k
 | _ :: r, o + 1, k => rd r o k
def wrn : List Value → List Value → Option (List Value)
 | cs, [] => some cs
 | [], _ :: _ => none
 | _ :: r, v :: vs => (wrn r vs).map (v :: ·)
def wr : List Value → Nat → List Value → Option (List Value)
 | cs, 0, vs => wrn cs vs
 | [], _ + 1, [] => some []
 | [], _ + 1, _ :: _ => none
 | c :: r, o + 1, vs => (wr r o vs).map (c :: ·)
def rg : List Value → Nat → Option Value
 | [], _ => none
 | v :: _, 0 => some v
 | _ :: r, k + 1 => rg r k
theorem rg_eq : ∀ (cs : List Value) (k : Nat), rg cs k = cs[k]?
 | [], _ => by simp [rg]
 | v :: r, 0 => by simp [rg]
 | v :: r, k + 1 => by simp [rg, rg_eq r k]
theorem rdn_get {cs : List Value} : ∀ {k : Nat} {vs : List Value}, rdn cs k = some vs → vs.length = k ∧ ∀ (j : Nat) (v : Value), vs[j]? = some v → cs[j]? = some v := by
 induction cs with
 | nil => intro k vs h; cases k <;> simp [rdn] at h; subst h; exact ⟨rfl, by simp⟩
 | cons c r ih =>
  intro k vs h
  cases k with
  | zero => simp [rdn] at h; subst h; exact ⟨rfl, by simp⟩
  | succ k =>
   simp only [rdn, Option.map_eq_some_iff] at h
   obtain ⟨x, hx, rfl⟩ := h
   obtain ⟨h1, h2⟩ := ih hx
   refine ⟨by simp [h1], fun j v hv => ?_⟩
   cases j with
   | zero => simpa using hv
   | succ j => simp at hv ⊢; exact h2 j v hv
theorem rd_get {cs : List Value} {o k : Nat} {vs : List Value} (h : rd cs o k = some vs) : vs.length = k ∧ ∀ (j : Nat) (v : Value), vs[j]? = some v → cs[o + j]? = some v := by
 induction cs generalizing o with
 | nil =>
  cases o with
  | zero => simpa using rdn_get h
  | succ o =>
   obtain ⟨h1, h2⟩ := rdn_get (cs := []) (by simpa [rd] using h)
   exact ⟨h1, fun j v hv => by have := h2 j v hv; simp at this⟩
 | cons c r ih =>
  cases o with
  | zero => simpa using rdn_get h
  | succ o =>
   obtain ⟨h1, h2⟩ := ih (o := o) (by simpa [rd] using h)
   exact ⟨h1, fun j v hv => by have := h2 j v hv; rw [show o + 1 + j = (o + j) + 1 from by omega]; simpa using this⟩
theorem wrn_eq {cs vs cs' : List Value} (h : wrn cs vs = some cs') : vs.length ≤ cs.length ∧ cs' = vs ++ cs.drop vs.length := by
 induction vs generalizing cs cs' with
 | nil => cases cs <;> simp [wrn] at h <;> subst h <;> simp
 | cons v vs ih =>
  cases cs with
  | nil => simp [wrn] at h
  | cons c r =>
   simp only [wrn, Option.map_eq_some_iff] at h
   obtain ⟨x, hx, rfl⟩ := h
   obtain ⟨h1, h2⟩ := ih hx
   exact ⟨by simp; omega, by simp [h2]⟩
theorem wr_eq {cs vs cs' : List Value} {o : Nat} (h : wr cs o vs = some cs') (hne : 0 < vs.length) : o + vs.length ≤ cs.length ∧ cs' = cs.take o ++ vs ++ cs.drop (o + vs.length) := by
 induction cs generalizing o cs' with
 | nil =>
  cases o with
  | zero => obtain ⟨h1, h2⟩ := wrn_eq (cs := []) (by simpa [wr] using h); simp at h1; simp [h1] at hne
  | succ o => cases vs <;> simp [wr] at h hne
 | cons c r ih =>
  cases o with
  | zero => obtain ⟨h1, h2⟩ := wrn_eq (cs := c :: r) (by simpa [wr] using h); exact ⟨by simpa using h1, by simp [h2]⟩
  | succ o =>
   simp only [wr, Option.map_eq_some_iff] at h
   obtain ⟨x, hx, rfl⟩ := h
   obtain ⟨h1, h2⟩ := ih hx
   refine ⟨by simp; omega, ?_⟩
   rw [show o + 1 + vs.length = (o + vs.length) + 1 from by omega]
   simp [h2]
theorem Jb9 (w : World) (o : Obj) : Grow w (w.alloc o) := Go.RowKit.Below.alloc (Go.RowKit.Below.refl _ _) (Nat.le_refl _) o
theorem run_newVar {P : Program} (t : TypeId) (v : Value) (w : World) : (newVar t v).run P w = .ok ⟨w.heap.size, 0, none⟩ (w.alloc (.cells v.cells t)) := by
 simp [newVar, newRow, newObj, Sem.run]
section rules
variable {P : Program} {n : Nat} {cx : Cx} {Q : Post} {e : Zk} {L : List Chunk} {ops : Array Oper} {rest : List Oper}
variable {d : Nat} {ty : TypeId} {pos : String} {af : Array Edge} {g : Option (Nat × Bool)}
theorem sat_new {w : World} (hF : Fr cx w) (hS : Sat cx w L) (cs : List Value) (T : TypeId) : Sat cx (w.alloc (.cells cs.toArray T)) (L ++ [Q1 w.heap.size cs T]) :=
 hS.snoc hF (Jb9 w _) (S := fun x => x = w.heap.size) ⟨fun _ => Iff.rfl, heap_alloc_new w _⟩ (fun b hb => by subst hb; exact ⟨Nat.le_refl _, by simp⟩)
theorem Wp {T : TypeId} {X : Operand} {x : Value} {cs : List Value} (hw : Zu ops ⟨some d, .box T X, ty, pos, af, g⟩ e = true) (hn : Nat.blt d n = true) (hx : ev e X = x) (hc : x.cells.toList = cs)
  (k : ∀ b, At cx (WL P n ops Q rest) (upd e d (.pointer (some ⟨b, 0, none⟩))) (L ++ [Q1 b cs T])) : At cx (WL P n ops Q (⟨some d, .box T X, ty, pos, af, g⟩ :: rest)) e L :=
 l_yields hw rfl hn fun w hF hS => ⟨.pointer (some ⟨w.heap.size, 0, none⟩), w.alloc (.cells cs.toArray T), by
  subst hc
  simp [execOp, Instr.box, run_newVar, hx], (k w.heap.size).out _ (hF.grow (Jb9 w _)) (sat_new hF hS cs T)⟩
theorem Wh {T : TypeId} {z : Value} {cs : List Value} (hz : ∀ w, (zeroValue T).run P w = .ok z w) (hc : z.cells.toList = cs) (hw : Zu ops ⟨some d, .alloc T, ty, pos, af, g⟩ e = true) (hn : Nat.blt d n = true)
  (k : ∀ b, At cx (WL P n ops Q rest) (upd e d (.pointer (some ⟨b, 0, none⟩))) (L ++ [Q1 b cs T])) : At cx (WL P n ops Q (⟨some d, .alloc T, ty, pos, af, g⟩ :: rest)) e L :=
 l_yields hw rfl hn fun w hF hS => ⟨.pointer (some ⟨w.heap.size, 0, none⟩), w.alloc (.cells cs.toArray T), by
  subst hc
  simp [execOp, Instr.alloc, hz, run_newVar], (k w.heap.size).out _ (hF.grow (Jb9 w _)) (sat_new hF hS cs T)⟩
theorem Zr {w : World} {i b : Nat} {cs : List Value} {T : TypeId} (hS : Sat cx w L) (hL : L[i]? = some (Q1 b cs T)) : w.heap[b]? = some (.cells cs.toArray T (0, 0)) := by
 obtain ⟨fp, h1, _, _⟩ := hS.out
 exact (h1 i _ hL).2
theorem cell_of {w : World} {b o : Nat} {cs : List Value} {T : TypeId} (h : w.heap[b]? = some (.cells cs.toArray T (0, 0))) : w.cell? ⟨b, o, none⟩ = cs[o]? := by
 simp [World.cell?, h]
theorem Jb3 {T k b o : Nat} {vs : List Value} {w : World} (hA : ∀ w, (isAgg T).run P w = .ok true w) (hs : ∀ w, (sizeOf T).run P w = .ok k w) (hl : vs.length = k)
  (h : ∀ j v, vs[j]? = some v → w.cell? ⟨b, o + j, none⟩ = some v) : (loadVar T ⟨b, o, none⟩).run P w = .ok (.agg vs.toArray) w := by
 subst hl
 have := run_loadCells_list (P := P) (w := w) ⟨b, o, none⟩ vs (fun j v hv => by rw [Addr.add_lit]; exact h j v hv)
 simp [loadVar, hA, hs, this]
theorem Jao {T b o : Nat} {v : Value} {w : World} (hA : ∀ w, (isAgg T).run P w = .ok false w) (h : w.cell? ⟨b, o, none⟩ = some v) : (loadVar T ⟨b, o, none⟩).run P w = .ok v w := by
 simp [loadVar, hA, Go.load, Sem.run, h]
theorem Qq {i : Nat} {T T0 b o : Nat} {A : Operand} {cs : List Value} {v : Value} (hA : ∀ w, (isAgg T).run P w = .ok false w)
  (hw : Zu ops ⟨some d, .load T A, ty, pos, af, g⟩ e = true) (hn : Nat.blt d n = true) (hp : ev e A = .pointer (some ⟨b, o, none⟩)) (hL : L[i]? = some (Q1 b cs T0)) (hv : rg cs o = some v)
  (k : At cx (WL P n ops Q rest) (upd e d v) L) : At cx (WL P n ops Q (⟨some d, .load T A, ty, pos, af, g⟩ :: rest)) e L :=
 l_yields hw rfl hn fun w hF hS => ⟨v, w, by
  have hc := cell_of (o := o) (Zr hS hL)
  rw [← rg_eq, hv] at hc
  simp [execOp, Instr.loadAt, Instr.sureAddr, hp, Jao hA hc], k.out w hF hS⟩
theorem Uz {i : Nat} {T T0 b o sz : Nat} {A : Operand} {cs vs : List Value} (hA : ∀ w, (isAgg T).run P w = .ok true w) (hs : ∀ w, (sizeOf T).run P w = .ok sz w)
  (hw : Zu ops ⟨some d, .load T A, ty, pos, af, g⟩ e = true) (hn : Nat.blt d n = true) (hp : ev e A = .pointer (some ⟨b, o, none⟩)) (hL : L[i]? = some (Q1 b cs T0)) (hv : rd cs o sz = some vs)
  (k : At cx (WL P n ops Q rest) (upd e d (.agg vs.toArray)) L) : At cx (WL P n ops Q (⟨some d, .load T A, ty, pos, af, g⟩ :: rest)) e L :=
 l_yields hw rfl hn fun w hF hS => ⟨.agg vs.toArray, w, by
  obtain ⟨h1, h2⟩ := rd_get hv
  have hr := Jb3 (P := P) (w := w) (b := b) (o := o) hA hs h1 (fun j v hj => by rw [cell_of (Zr hS hL)]; exact h2 j v hj)
  simp [execOp, Instr.loadAt, Instr.sureAddr, hp, hr], k.out w hF hS⟩
theorem Y8 {i : Nat} {T T0 b o sz : Nat} {A X : Operand} {x : Value} {cs cs' vs : List Value} (hs : ∀ w, (sizeOf T).run P w = .ok sz w)
  (hw : Zu ops ⟨none, .store T A X, ty, pos, af, g⟩ e = true) (hp : ev e A = .pointer (some ⟨b, o, none⟩)) (hx : ev e X = x) (hc : x.cells.toList = vs) (hsz : vs.length = sz) (hpos : Nat.blt 0 sz = true)
  (hone : vs.all Value.oneCell' = true)
  (hL : L[i]? = some (Q1 b cs T0)) (hv : wr cs o vs = some cs')
  (k : At cx (WL P n ops Q rest) e (L.set i (Q1 b cs' T0))) : At cx (WL P n ops Q (⟨none, .store T A X, ty, pos, af, g⟩ :: rest)) e L :=
 l_acts hw rfl fun w hF hS => by
  have hb := Zr hS hL
  have hpos' : 0 < vs.length := by rw [hsz]; simpa using hpos
  obtain ⟨h1, h2⟩ := wr_eq hv hpos'
  have hst := run_storeCells_at P b o T0 vs 0 cs.toArray w hb (by simpa using h1) (by simpa using hone)
  refine ⟨w.setRow b cs'.toArray, ?_, ?_⟩
  ·have hsz' : x.cells.size = sz := by rw [← hsz, ← hc]; simp
   simp only [Nat.add_zero, List.append_assoc] at hst
   simp only [execOp, Instr.storeAt, Instr.sureAddr, storeVar, hp, hx, Sem.run_bind, Sem.run_pure, Result.andThen_ok, hs, hsz', ne_eq, not_true_eq_false, if_false, hc, hst]
   rw [h2]; simp
  ·have hset := setRow_heap w b cs.toArray cs'.toArray T0 (0, 0) hb
   refine k.out _ ⟨hF.os, hF.tape, hF.output, by simpa using hF.size, fun c hcn => ?_⟩ ?_
   ·rw [setRow_other w b c _ (fun e => ?_)]
    ·exact hF.block c hcn
    ·obtain ⟨fp, f1, f2, _⟩ := hS.out
     have := (f2 i b ((f1 i _ hL).1 b |>.2 rfl)).2.2
     subst e
     exact hcn this
   ·refine hS.set hF hL (by simp) fun S hSp hSo => ⟨S, ⟨hSp.1, hset⟩, fun c hc => ⟨by simpa using (hSo c hc).1, .inl hc⟩, fun c _ hcS => setRow_other w b c _ (fun e => hcS ((hSp.1 c).2 e))⟩
theorem J7 {d : Option Nat} {T fld b o fo ft fsz bo : Nat} {nm tg pk : String} {em : Bool} {X : Operand} {fs : Array Field} (hu : ∀ w, (underlying T).run P w = .ok (.struct fs) w)
  (hf : fs[fld]? = some ⟨nm, ft, fo, em, tg, pk, bo⟩) (hs : ∀ w, (sizeOf ft).run P w = .ok fsz w) (hsz : Nat.blt 0 fsz = true) (hp : ev e X = .pointer (some ⟨b, o, none⟩)) (w : World) :
  (execOp (ev e) ⟨d, .fieldAddr T X fld, ty, pos, af, g⟩).run P w = .ok (.value (.pointer (some ⟨b, o + fo, none⟩))) w := by
 have hne : fsz ≠ 0 := by have : 0 < fsz := by simpa using hsz
                          omega
 simp [execOp, Instr.fieldAt, hu, hf, Instr.sureAddr, hp, fieldPlace, hs, hne, Addr.add_lit]
def Ret (P : Program) (f : FuncId) (args : List Value) (v : Value) : Prop := ∀ w, Does P f args.toArray w fun v' w' => v' = v ∧ Grow w w'
theorem run_call {f : FuncId} {A : Array Operand} {tys : Array TypeId} {args : List Value} (hc : ∀ args w, (callFunc f args).run P w = .ok (.enter f args) w) (ha : A.toList.map (ev e) = args) (w : World) :
  (execOp (ev e) ⟨some d, .call ⟨.value (.func f), A, tys⟩, ty, pos, af, g⟩).run P w = .ok (.enter f args.toArray) w := by
 subst ha
 have : (A.toList.map (ev e)).toArray = A.map (ev e) := by rw [← Array.toList_map, Array.toArray_toList]
 rw [this]
 simp only [execOp, resolve, ev, Deferred.ofValue, Sem.run_bind, Sem.run_pure, Result.andThen_ok, invoke, hc, Array.append_empty, Array.empty_append]
theorem Vu {f : FuncId} {A : Array Operand} {tys : Array TypeId} {args : List Value} {v : Value} (h : Ret P f args v) (hc : ∀ args w, (callFunc f args).run P w = .ok (.enter f args) w)
  (hw : Zu ops ⟨some d, .call ⟨.value (.func f), A, tys⟩, ty, pos, af, g⟩ e = true) (hn : Nat.blt d n = true) (ha : A.toList.map (ev e) = args)
  (k : At cx (WL P n ops Q rest) (upd e d v) L) : At cx (WL P n ops Q (⟨some d, .call ⟨.value (.func f), A, tys⟩, ty, pos, af, g⟩ :: rest)) e L :=
 l_calls hw rfl hn (run_call hc ha) fun w hF hS => (h w).mono fun v' w' ⟨hv, hg⟩ => by
  subst hv
  exact k.out w' (hF.grow hg) (hS.grow hg)
theorem results_one {fn : Func} {t : Tmp} (h : fn.results = #[.tmp t]) (tmps : Array Value) (w : World) : (results fn tmps).run P w = .ok (tmps.getD t undef) w := by
 simp [results, h]
theorem results_two {fn : Func} {t u : Tmp} (h : fn.results = #[.tmp t, .tmp u]) (tmps : Array Value) (w : World) : (results fn tmps).run P w = .ok (.tuple #[tmps.getD t undef, tmps.getD u undef]) w := by
 simp [results, h]
theorem Qw {fn : Func} {R : Value → World → Prop} {t : Tmp} {v : Value} (hr : fn.results = #[.tmp t]) (ht : e t = v) (k : ∀ w, Fr cx w → Sat cx w L → R v w) : At cx (BodyQ P fn R .ret) e L :=
 ⟨fun w hF hS tmps hs => ⟨v, by rw [results_one hr, hs, ht], k w hF hS⟩⟩
theorem Vz {fn : Func} {R : Value → World → Prop} {t u : Tmp} {v1 v2 : Value} (hr : fn.results = #[.tmp t, .tmp u]) (h1 : e t = v1) (h2 : e u = v2) (k : ∀ w, Fr cx w → Sat cx w L → R (.tuple #[v1, v2]) w) : At cx (BodyQ P fn R .ret) e L :=
 ⟨fun w hF hS tmps hs => ⟨.tuple #[v1, v2], by rw [results_two hr, hs, hs, h1, h2], k w hF hS⟩⟩
theorem results_cell1t {fn : Func} {t T b u : Nat} {v : Value} (h : fn.results = #[.cell t T, .tmp u]) (tmps : Array Value) (w : World) (ht : tmps.getD t undef = .pointer (some ⟨b, 0, none⟩)) (hl : (loadVar T ⟨b, 0, none⟩).run P w = .ok v w) :
  (results fn tmps).run P w = .ok (.tuple #[v, tmps.getD u undef]) w := by
 rw [Array.getD_eq_getD_getElem?] at ht
 simp [results, h, ht, asAddr, hl]
theorem Yz {w0 : World} {L : List Chunk} {v v' : Value} (h : v' = v) : ∀ w, Fr ⟨w0, fun _ => False⟩ w → Sat ⟨w0, fun _ => False⟩ w L → (v' = v ∧ Grow w0 w) :=
 fun w hF _ => ⟨h, hF.os, hF.tape, hF.output, hF.size, fun k hk => hF.block k (by simp [Cx.own]; exact hk)⟩
theorem Vr {f : FuncId} {fn : Func} {c : Code} {args : List Value} {v : Value} (hf : P.funcs[f]? = some fn) (hb : fn.body = some c) (hn : fn.ntmps = n) (hle : Nat.ble args.length n = true)
  (h : ∀ w, At ⟨w, fun _ => False⟩ (WC P n c (BodyQ P fn fun v' w' => v' = v ∧ Grow w w')) (lget args) []) : Ret P f args v :=
 fun w => enter hf hb hn hle (fun _ => False) [] (Sat.nil _ _) (h w)
def mkE : List (Nat × Value) → Zk → Zk
 | [], g => g
 | (a, v) :: r, g => fun t => bif Nat.beq t a then v else mkE r g t
def Agree (e : Zk) : List (Nat × Value) → Prop
 | [] => True
 | (a, v) :: r => e a = v ∧ Agree e r
theorem mkE_self (e : Zk) : ∀ l, Agree e l → mkE l e = e
 | [], _ => rfl
 | (a, v) :: r, ⟨h, hr⟩ => by
  funext t
  simp only [mkE, beq_eq, mkE_self e r hr]
  by_cases ht : t = a
  ·simp [ht, h]
  ·simp [ht]
structure RoundEnd {σ : Type} (cx : Cx) (st : σ → List (Nat × Value)) (hp : σ → List Chunk) (I : σ → Prop) (m : Nat) (μ : σ → Nat) (e : Zk) (w : World) : Prop where
 out : ∃ s, Agree e (st s) ∧ Fr cx w ∧ Sat cx w (hp s) ∧ I s ∧ μ s < m
end rules
end Go.Vc

/- A region whose order Go leaves open: one walk in the order of the text serves every order, also where operations make memory or turn it. Conditions: what two operations both touch is ordered by the region's edges (a Bool that the kernel reckons). -/
namespace Go.Vc
open Go
inductive Kd where
 | p
 | g (rs rds wrs : List Nat) (V : List Value → List (Option Chunk) → Value → Prop) (T : List Value → List (Option Chunk) → Value → List Chunk)
def Kd.d (rds : List Nat) (v0 : Value) : Kd := .g [] rds [] (fun _ _ v => v = v0) (fun _ _ _ => [])
abbrev Look := Nat → Option Chunk
def look (L : List Chunk) : Look := fun i => L[i]?
def Kd.rs : Kd → List Nat | .p => [] | .g rs _ _ _ _ => rs
def Kd.rds : Kd → List Nat | .p => [] | .g _ rds _ _ _ => rds
def Kd.wrs : Kd → List Nat | .p => [] | .g _ _ wrs _ _ => wrs
def Kd.V (P : Program) (o : Oper) (s : Kd) (e : Zk) (l : Look) (v : Value) : Prop :=
 match s with
 | .p => ∀ w, (execOp (ev e) o).run P w = .ok (.value v) w
 | .g rs rds _ V _ => V (rs.map e) (rds.map l) v
def Kd.T (s : Kd) (e : Zk) (l : Look) (v : Value) : List (Nat × Chunk) :=
 match s with
 | .p => []
 | .g rs rds wrs _ T => wrs.zip (T (rs.map e) (rds.map l) v)
def Z3 (L : List Chunk) : List (Nat × Chunk) → List Chunk
 | [] => L
 | (i, c) :: r => Z3 (L.set i c) r
def putD (e : Zk) (d : Option Nat) (v : Value) : Zk := match d with | some d => upd e d v | none => e
def RunsTo (P : Program) (ρ : Operand → Value) (o : Oper) (w : World) (R : Value → World → Prop) : Prop :=
 match (execOp ρ o).run P w with
 | .ok (.value v) w' => R v w'
 | .ok .skip w' => R undef w'
 | .ok (.enter f args) w' => Does P f args w' R
 | _ => False
theorem RunsTo.mono {P : Program} {ρ : Operand → Value} {o : Oper} {w : World} {R R' : Value → World → Prop} (h : RunsTo P ρ o w R) (hr : ∀ v w', R v w' → R' v w') : RunsTo P ρ o w R' := by
 unfold RunsTo at *
 generalize (execOp ρ o).run P w = r at *
 cases r with
 | halt x w' => exact h
 | ok nx w' =>
  cases nx <;> first | exact hr _ _ h | exact Does.mono h hr | exact h
structure LV (P : Program) (cx : Cx) (o : Oper) (s : Kd) (e : Zk) (L : List Chunk) : Prop where
 out : ∀ (w : World) (L' : List Chunk), Fr cx w → Sat cx w L' → L'.length = L.length → (∀ i, i ∈ s.rds ∨ i ∈ s.wrs → L'[i]? = L[i]?) →
  RunsTo P (ev e) o w (fun v w' => s.V P o e (look L) v ∧ Fr cx w' ∧ Sat cx w' (Z3 L' (s.T e (look L) v)))
inductive Sq (P : Program) (cx : Cx) (ops : Array Oper) (F : Zk → List Chunk → Prop) : List Oper → List Kd → Zk → List Chunk → Prop
 | nil {e : Zk} {L : List Chunk} (h : F e L) : Sq P cx ops F [] [] e L
 | pass {o : Oper} {os : List Oper} {s : Kd} {ss : List Kd} {e : Zk} {L : List Chunk} (hw : Zu ops o e = false) (h : Sq P cx ops F os ss (putD e o.dst undef) L) : Sq P cx ops F (o :: os) (s :: ss) e L
 | take {o : Oper} {os : List Oper} {s : Kd} {ss : List Kd} {e : Zk} {L : List Chunk} (hw : Zu ops o e = true) (hi : ∃ v, s.V P o e (look L) v) (hl : LV P cx o s e L)
   (h : ∀ v, s.V P o e (look L) v → Sq P cx ops F os ss (putD e o.dst v) (Z3 L (s.T e (look L) v))) : Sq P cx ops F (o :: os) (s :: ss) e L
def binding (o : Oper) (i : Nat) : Bool := o.after.toList.any fun x => Region.binds .any x && Nat.beq x.on i
def reach (l : List Oper) : Nat → Nat → Nat → Bool
 | 0, _, _ => false
 | f + 1, k, i =>
  match l[k]? with
  | none => false
  | some o => binding o i || o.after.toList.any fun x => Region.binds .any x && reach l f x.on i
def meets (a b : List Nat) : Bool := a.any fun x => b.any fun y => Nat.beq x y
def clash (ops : Array Oper) (o1 o2 : Oper) (s1 s2 : Kd) : Bool :=
 meets o1.dst.toList (o2.looksAt ops) || meets o1.dst.toList o2.dst.toList || meets o2.dst.toList (o1.looksAt ops) ||
 meets s1.wrs s2.rds || meets s1.wrs s2.wrs || meets s1.rds s2.wrs
def subs (a b : List Nat) : Bool := a.all fun x => b.any fun y => Nat.beq x y
def checkD (n : Nat) (l : List Oper) (sp : List Kd) : Bool :=
 Nat.beq l.length sp.length && Region.noSelect l.toArray &&
 (List.range l.length).all fun k =>
  match l[k]?, sp[k]? with
  | some o, some s =>
   (o.after.toList.all fun x => !Region.binds .any x || Nat.blt x.on k) && (o.dst.all fun d => Nat.blt d n) && subs s.rs (o.looksAt l.toArray) &&
   (List.range k).all fun i =>
    match l[i]?, sp[i]? with
    | some o1, some s1 => !clash l.toArray o1 o s1 s || reach l 3 k i
    | _, _ => false
  | _, _ => false
theorem meets_of {a b : List Nat} {x : Nat} (ha : x ∈ a) (hb : x ∈ b) : meets a b = true := by
 unfold meets
 rw [List.any_eq_true]
 exact ⟨x, ha, List.any_eq_true.2 ⟨x, hb, by simp⟩⟩
section sound
variable {P : Program} {n : Nat} {cx : Cx} {Q : Post} {l : List Oper} {sp : List Kd} {e0 : Zk} {L0 : List Chunk}
def od (l : List Oper) (k : Nat) : Oper := l.getD k default
def sd (sp : List Kd) (k : Nat) : Kd := sp.getD k .p
def EL (P : Program) (l : List Oper) (sp : List Kd) (e0 : Zk) (L0 : List Chunk) (S : Nat → Bool) (val : Nat → Value) : Nat → Zk × List Chunk
 | 0 => (e0, L0)
 | k + 1 =>
  let x := EL P l sp e0 L0 S val k
  if S k then (putD x.1 (od l k).dst (val k), if Zu l.toArray (od l k) x.1 = true then Z3 x.2 ((sd sp k).T x.1 (look x.2) (val k)) else x.2) else x
structure Ok (n : Nat) (l : List Oper) (sp : List Kd) : Prop where
 len : l.length = sp.length
 nosel : Region.noSelect l.toArray = true
 back : ∀ k x, k < l.length → x ∈ (od l k).after.toList → Region.binds .any x = true → x.on < k
 dst : ∀ k d, k < l.length → (od l k).dst = some d → Nat.blt d n = true
 rs : ∀ k t, k < l.length → t ∈ (sd sp k).rs → t ∈ (od l k).looksAt l.toArray
 ord : ∀ k i, k < l.length → i < k → clash l.toArray (od l i) (od l k) (sd sp i) (sd sp k) = true → reach l 3 k i = true
theorem ok_of (h : checkD n l sp = true) : Ok n l sp := by
 unfold checkD at h
 simp only [Bool.and_eq_true, List.all_eq_true, List.mem_range] at h
 obtain ⟨⟨h1, h2⟩, h3⟩ := h
 have hlen : l.length = sp.length := by simpa using h1
 have key : ∀ k, k < l.length → l[k]? = some (od l k) ∧ sp[k]? = some (sd sp k) := by
  intro k hk
  have hk' : k < sp.length := by omega
  exact ⟨by simp [od, List.getD_eq_getElem?_getD, List.getElem?_eq_getElem hk], by simp [sd, List.getD_eq_getElem?_getD, List.getElem?_eq_getElem hk']⟩
 have h4 : ∀ k, k < l.length → _ := fun k hk => by
  have := h3 k hk
  rw [(key k hk).1, (key k hk).2] at this
  simp only [Bool.and_eq_true, List.all_eq_true, List.mem_range] at this
  exact this
 refine ⟨hlen, h2, ?_, ?_, ?_, ?_⟩
 ·intro k x hk hx hb
  have := (h4 k hk).1.1.1
  have := this x hx
  simpa [hb] using this
 ·intro k d hk hd
  have := (h4 k hk).1.1.2
  rw [hd] at this
  simpa using this
 ·intro k t hk ht
  have := (h4 k hk).1.2
  unfold subs at this
  rw [List.all_eq_true] at this
  obtain ⟨y, hy, hyt⟩ := List.any_eq_true.1 (this t ht)
  have : t = y := by simpa using hyt
  rw [this]; exact hy
 ·intro k i hk hi hc
  have := (h4 k hk).2 i hi
  rw [(key i (by omega)).1, (key i (by omega)).2] at this
  simpa [hc] using this
def Closed (l : List Oper) (S : Nat → Prop) (k : Nat) : Prop := ∀ x ∈ (od l k).after.toList, Region.binds .any x = true → S x.on
theorem reach_in (S : Nat → Prop) (hS : ∀ k, k < l.length → S k → Closed l S k) (hb : ∀ k x, k < l.length → x ∈ (od l k).after.toList → Region.binds .any x = true → x.on < k) :
  ∀ f k i, k < l.length → Closed l S k → reach l f k i = true → S i := by
 intro f
 induction f with
 | zero => intro k i _ _ h; simp [reach] at h
 | succ f ih =>
  intro k i hk hc h
  have hlk : l[k]? = some (od l k) := by simp [od, List.getD_eq_getElem?_getD, List.getElem?_eq_getElem hk]
  simp only [reach, hlk, Bool.or_eq_true] at h
  rcases h with h | h
  ·unfold binding at h
   rw [List.any_eq_true] at h
   obtain ⟨x, hx, hxb⟩ := h
   simp only [Bool.and_eq_true] at hxb
   have : x.on = i := by simpa using hxb.2
   rw [← this]
   exact hc x hx hxb.1
  ·rw [List.any_eq_true] at h
   obtain ⟨x, hx, hxb⟩ := h
   simp only [Bool.and_eq_true] at hxb
   have hlt := hb k x hk hx hxb.1
   exact ih x.on i (by omega) (hS x.on (by omega) (hc x hx hxb.1)) hxb.2
theorem setAll_length (T : List (Nat × Chunk)) : ∀ L : List Chunk, (Z3 L T).length = L.length := by
 induction T with
 | nil => intro L; rfl
 | cons p T ih => intro L; obtain ⟨i, c⟩ := p; simp [Z3, ih]
theorem Ul (T : List (Nat × Chunk)) : ∀ (L : List Chunk) (i : Nat), (∀ p ∈ T, p.1 ≠ i) → (Z3 L T)[i]? = L[i]? := by
 induction T with
 | nil => intro L i _; rfl
 | cons p T ih =>
  intro L i h
  obtain ⟨j, c⟩ := p
  simp only [Z3]
  rw [ih _ i (fun p hp => h p (List.mem_cons_of_mem _ hp)), List.getElem?_set_ne]
  exact h (j, c) (List.mem_cons_self ..)
theorem setAll_same (T : List (Nat × Chunk)) : ∀ (L L' : List Chunk) (i : Nat), L.length = L'.length → L[i]? = L'[i]? → (Z3 L T)[i]? = (Z3 L' T)[i]? := by
 induction T with
 | nil => intro L L' i _ h; exact h
 | cons p T ih =>
  intro L L' i hl h
  obtain ⟨j, c⟩ := p
  simp only [Z3]
  refine ih _ _ i (by simp [hl]) ?_
  by_cases hji : j = i
  ·subst hji
   rw [List.getElem?_set, List.getElem?_set, if_pos rfl, if_pos rfl, hl]
  ·rw [List.getElem?_set_ne hji, List.getElem?_set_ne hji, h]
theorem T_in (s : Kd) (e : Zk) (lk : Look) (v : Value) : ∀ p ∈ s.T e lk v, p.1 ∈ s.wrs := by
 intro p hp
 cases s with
 | p => simp [Kd.T] at hp
 | g rs rds wrs V T =>
  simp only [Kd.T] at hp
  exact (List.of_mem_zip (a := p.1) (b := p.2) hp).1
theorem T_loc (s : Kd) {e e' : Zk} {lk lk' : Look} (h1 : ∀ t ∈ s.rs, e t = e' t) (h2 : ∀ i ∈ s.rds, lk i = lk' i) (v : Value) : s.T e lk v = s.T e' lk' v := by
 cases s with
 | p => rfl
 | g rs rds wrs V T =>
  have h1' : rs.map e = rs.map e' := List.map_congr_left h1
  have h2' : rds.map lk = rds.map lk' := List.map_congr_left h2
  simp only [Kd.T, h1', h2']
theorem ev_loc {e e' : Zk} {o : Oper} (hs : ∀ cs b, o.op ≠ .select cs b) {ops : Array Oper} (h : ∀ t ∈ o.looksAt ops, e t = e' t) : execOp (ev e) o = execOp (ev e') o := by
 refine execOp_congr o hs fun x hx => ?_
 cases x with
 | tmp t => exact h t (List.mem_append_left _ (List.mem_filterMap.2 ⟨.tmp t, by simpa using hx, rfl⟩))
 | const v => rfl
 | global g => rfl
 | func f => rfl
theorem V_loc {o : Oper} (s : Kd) (hs : ∀ cs b, o.op ≠ .select cs b) {ops : Array Oper} {e e' : Zk} {lk lk' : Look} (h : ∀ t ∈ o.looksAt ops, e t = e' t) (h1 : ∀ t ∈ s.rs, e t = e' t) (h2 : ∀ i ∈ s.rds, lk i = lk' i) (v : Value) :
  s.V P o e lk v = s.V P o e' lk' v := by
 cases s with
 | p => simp only [Kd.V]; rw [ev_loc hs h]
 | g rs rds wrs V T =>
  have h1' : rs.map e = rs.map e' := List.map_congr_left h1
  have h2' : rds.map lk = rds.map lk' := List.map_congr_left h2
  simp only [Kd.V, h1', h2']
theorem V_locL {o : Oper} (s : Kd) (hs : ∀ cs b, o.op ≠ .select cs b) {ops : Array Oper} {e e' : Zk} {L L' : List Chunk} (h : ∀ t ∈ o.looksAt ops, e t = e' t) (h1 : ∀ t ∈ s.rs, e t = e' t) (h2 : ∀ i ∈ s.rds, L[i]? = L'[i]?) (v : Value) :
  s.V P o e (look L) v = s.V P o e' (look L') v := V_loc s hs h h1 h2 v
theorem want_loc {o : Oper} {ops : Array Oper} {e e' : Zk} (h : ∀ t ∈ o.looksAt ops, e t = e' t) : Zu ops o e = Zu ops o e' := by
 unfold Zu
 cases hg : o.guard with
 | none => rfl
 | some jb =>
  obtain ⟨j, b⟩ := jb
  simp only
  cases hd : (ops[j]?).bind (·.dst) with
  | none => rfl
  | some d =>
   have : e d = e' d := h d (by unfold Oper.looksAt; rw [hg]; exact List.mem_append_right _ (by simp [hd]))
   simp only [this]
theorem putD_same {e e' : Zk} {t : Nat} (d : Option Nat) (v : Value) (h : d ≠ some t → e t = e' t) : putD e d v t = putD e' d v t := by
 cases d with
 | none => exact h (by simp)
 | some d =>
  by_cases ht : t = d
  ·subst ht; simp [putD, upd_same]
  ·simp only [putD]; rw [upd_ne _ _ _ _ ht, upd_ne _ _ _ _ ht]; exact h (by simpa using fun h => ht h.symm)
theorem Jcb {e : Zk} {t : Nat} {d : Option Nat} (v : Value) (h : d ≠ some t) : putD e d v t = e t := by
 cases d with
 | none => rfl
 | some d => simp only [putD]; exact upd_ne _ _ _ _ (by simpa using fun h' => h (by rw [h']))
theorem EL_length (S : Nat → Bool) (val : Nat → Value) : ∀ k, (EL P l sp e0 L0 S val k).2.length = L0.length := by
 intro k
 induction k with
 | zero => rfl
 | succ k ih =>
  simp only [EL]
  split
  ·split
   ·simp [setAll_length, ih]
   ·exact ih
  ·exact ih
theorem clash_dl {ops : Array Oper} {o1 o2 : Oper} {s1 s2 : Kd} {t : Nat} (h1 : o1.dst = some t) (h2 : t ∈ o2.looksAt ops) : clash ops o1 o2 s1 s2 = true := by
 unfold clash; rw [meets_of (a := o1.dst.toList) (x := t) (by simp [h1]) h2]; rfl
theorem clash_dd {ops : Array Oper} {o1 o2 : Oper} {s1 s2 : Kd} {t : Nat} (h1 : o1.dst = some t) (h2 : o2.dst = some t) : clash ops o1 o2 s1 s2 = true := by
 unfold clash; rw [meets_of (a := o1.dst.toList) (b := o2.dst.toList) (x := t) (by simp [h1]) (by simp [h2])]; simp
theorem clash_ld {ops : Array Oper} {o1 o2 : Oper} {s1 s2 : Kd} {t : Nat} (h1 : t ∈ o1.looksAt ops) (h2 : o2.dst = some t) : clash ops o1 o2 s1 s2 = true := by
 unfold clash; rw [meets_of (a := o2.dst.toList) (x := t) (by simp [h2]) h1]; simp
theorem clash_wr {ops : Array Oper} {o1 o2 : Oper} {s1 s2 : Kd} {i : Nat} (h1 : i ∈ s1.wrs) (h2 : i ∈ s2.rds ∨ i ∈ s2.wrs) : clash ops o1 o2 s1 s2 = true := by
 unfold clash
 rcases h2 with h2 | h2
 ·rw [meets_of h1 h2]; simp
 ·rw [meets_of (a := s1.wrs) (b := s2.wrs) h1 h2]; simp
theorem clash_rw {ops : Array Oper} {o1 o2 : Oper} {s1 s2 : Kd} {i : Nat} (h1 : i ∈ s1.rds ∨ i ∈ s1.wrs) (h2 : i ∈ s2.wrs) : clash ops o1 o2 s1 s2 = true := by
 unfold clash
 rcases h1 with h1 | h1
 ·rw [meets_of (a := s1.rds) (b := s2.wrs) h1 h2]; simp
 ·rw [meets_of (a := s1.wrs) (b := s2.wrs) h1 h2]; simp
theorem EL_agree (ok : Ok n l sp) {S S' : Nat → Bool} {val val' : Nat → Value} :
  ∀ k, k < l.length → (∀ i, i < k → reach l 3 k i = true → S i ∧ S' i ∧ val i = val' i) →
   (∀ i, i < k → S i → S' i → val i = val' i ∧
    ((∀ t ∈ (od l i).looksAt l.toArray, (EL P l sp e0 L0 S val i).1 t = (EL P l sp e0 L0 S' val' i).1 t) ∧
     (∀ r, r ∈ (sd sp i).rds ∨ r ∈ (sd sp i).wrs → (EL P l sp e0 L0 S val i).2[r]? = (EL P l sp e0 L0 S' val' i).2[r]?))) →
   ∀ j, j ≤ k → (∀ t ∈ (od l k).looksAt l.toArray, (EL P l sp e0 L0 S val j).1 t = (EL P l sp e0 L0 S' val' j).1 t) ∧
    (∀ r, r ∈ (sd sp k).rds ∨ r ∈ (sd sp k).wrs → (EL P l sp e0 L0 S val j).2[r]? = (EL P l sp e0 L0 S' val' j).2[r]?) := by
 intro k hk hcl hin j
 induction j with
 | zero => intro _; exact ⟨fun _ _ => rfl, fun _ _ => rfl⟩
 | succ j ih =>
  intro hj
  obtain ⟨ih1, ih2⟩ := ih (by omega)
  by_cases hb : S j ∧ S' j
  ·obtain ⟨hv, hl1, hl2⟩ := hin j (by omega) hb.1 hb.2
   have hw : Zu l.toArray (od l j) (EL P l sp e0 L0 S val j).1 = Zu l.toArray (od l j) (EL P l sp e0 L0 S' val' j).1 := want_loc hl1
   have hT : (sd sp j).T (EL P l sp e0 L0 S val j).1 (look (EL P l sp e0 L0 S val j).2) (val j) = (sd sp j).T (EL P l sp e0 L0 S' val' j).1 (look (EL P l sp e0 L0 S' val' j).2) (val' j) := by
    rw [hv]
    exact T_loc _ (fun t ht => hl1 t (ok.rs j t (by omega) ht)) (fun i hi => hl2 i (.inl hi)) _
   simp only [EL, if_pos hb.1, if_pos hb.2]
   refine ⟨fun t ht => ?_, fun r hr => ?_⟩
   ·rw [hv]; exact putD_same _ _ (fun _ => ih1 t ht)
   ·rw [hw, hT]
    split
    ·exact setAll_same _ _ _ r (by rw [EL_length, EL_length]) (ih2 r hr)
    ·exact ih2 r hr
  ·have hnr : ¬ reach l 3 k j = true := fun hr => hb ⟨(hcl j (by omega) hr).1, (hcl j (by omega) hr).2.1⟩
   have hnc : ¬ clash l.toArray (od l j) (od l k) (sd sp j) (sd sp k) = true := fun hc => hnr (ok.ord k j hk (by omega) hc)
   have one : ∀ (X : Nat → Bool) (va : Nat → Value), (∀ t ∈ (od l k).looksAt l.toArray, (EL P l sp e0 L0 X va (j + 1)).1 t = (EL P l sp e0 L0 X va j).1 t) ∧
     (∀ r, r ∈ (sd sp k).rds ∨ r ∈ (sd sp k).wrs → (EL P l sp e0 L0 X va (j + 1)).2[r]? = (EL P l sp e0 L0 X va j).2[r]?) := by
    intro X va
    simp only [EL]
    split
    ·refine ⟨fun t ht => ?_, fun r hr => ?_⟩
     ·exact Jcb _ (fun hd => hnc (clash_dl hd ht))
     ·split
      ·exact Ul _ _ r (fun p hp hpr => hnc (clash_wr (by rw [← hpr]; exact T_in _ _ _ _ p hp) hr))
      ·rfl
    ·exact ⟨fun _ _ => rfl, fun _ _ => rfl⟩
   refine ⟨fun t ht => ?_, fun r hr => ?_⟩
   ·rw [(one S val).1 t ht, (one S' val').1 t ht]; exact ih1 t ht
   ·rw [(one S val).2 r hr, (one S' val').2 r hr]; exact ih2 r hr
def Sc (l : List Oper) (S : Nat → Bool) : Prop := ∀ k, k < l.length → S k = true → Closed l (fun i => S i = true) k
theorem Jbl (ok : Ok n l sp) {S : Nat → Bool} (hS : Sc l S) {k i : Nat} (hk : k < l.length) (hc : Closed l (fun i => S i = true) k) (h : reach l 3 k i = true) : S i = true :=
 reach_in (fun i => S i = true) (fun k hk h => hS k hk h) ok.back 3 k i hk hc h
theorem agree_all (ok : Ok n l sp) {S S' : Nat → Bool} {val val' : Nat → Value} (hS : Sc l S) (hS' : ∀ i, S i = true → S' i = true) (hv : ∀ i, S i = true → val i = val' i) :
  ∀ k, k < l.length → Closed l (fun i => S i = true) k → (∀ t ∈ (od l k).looksAt l.toArray, (EL P l sp e0 L0 S val k).1 t = (EL P l sp e0 L0 S' val' k).1 t) ∧
    (∀ r, r ∈ (sd sp k).rds ∨ r ∈ (sd sp k).wrs → (EL P l sp e0 L0 S val k).2[r]? = (EL P l sp e0 L0 S' val' k).2[r]?) := by
 intro k
 induction k using Nat.strongRecOn with
 | _ k ih =>
  intro hk hc
  exact EL_agree ok k hk (fun i hi hr => ⟨Jbl ok hS hk hc hr, hS' i (Jbl ok hS hk hc hr), hv i (Jbl ok hS hk hc hr)⟩)
   (fun i hi hs _ => ⟨hv i hs, ih i hi (by omega) (hS i (by omega) hs)⟩) k (Nat.le_refl _)
theorem EL_congr (S : Nat → Bool) {val val' : Nat → Value} : ∀ k, (∀ i, i < k → val i = val' i) → EL P l sp e0 L0 S val k = EL P l sp e0 L0 S val' k := by
 intro k
 induction k with
 | zero => intro _; rfl
 | succ k ih =>
  intro h
  simp only [EL]
  rw [ih (fun i hi => h i (by omega)), h k (by omega)]
def Cons (P : Program) (l : List Oper) (sp : List Kd) (e0 : Zk) (L0 : List Chunk) (S : Nat → Bool) (val : Nat → Value) (k : Nat) : Prop :=
 ∀ j, j < k → S j = true → if Zu l.toArray (od l j) (EL P l sp e0 L0 S val j).1 = true then (sd sp j).V P (od l j) (EL P l sp e0 L0 S val j).1 (look (EL P l sp e0 L0 S val j).2) (val j) else val j = undef
def full : Nat → Bool := fun _ => true
theorem drop_od {k : Nat} (hk : k < l.length) : l.drop k = od l k :: l.drop (k + 1) := by
 rw [List.drop_eq_getElem_cons hk]; simp [od, List.getD_eq_getElem?_getD, List.getElem?_eq_getElem hk]
theorem drop_sd {k : Nat} (hk : k < sp.length) : sp.drop k = sd sp k :: sp.drop (k + 1) := by
 rw [List.drop_eq_getElem_cons hk]; simp [sd, List.getD_eq_getElem?_getD, List.getElem?_eq_getElem hk]
theorem sq_at (ok : Ok n l sp) {F : Zk → List Chunk → Prop} (h : Sq P cx l.toArray F l sp e0 L0) : ∀ k, k ≤ l.length → ∀ val, Cons P l sp e0 L0 full val k →
  Sq P cx l.toArray F (l.drop k) (sp.drop k) (EL P l sp e0 L0 full val k).1 (EL P l sp e0 L0 full val k).2 := by
 intro k
 induction k with
 | zero => intro _ _ _; simpa [EL] using h
 | succ k ih =>
  intro hk val hc
  have h0 := ih (by omega) val (fun j hj => hc j (by omega))
  rw [drop_od (by omega), drop_sd (by have := ok.len; omega)] at h0
  have hck := hc k (by omega) rfl
  simp only [EL, full, if_true]
  cases h0 with
  | pass hw h1 =>
   rw [if_neg (by rw [hw]; simp)] at hck
   rw [if_neg (by rw [hw]; simp), hck]
   exact h1
  | take hw hi hl h1 =>
   rw [if_pos hw] at hck
   rw [if_pos hw]
   exact h1 _ hck
theorem fill (ok : Ok n l sp) {F : Zk → List Chunk → Prop} (h : Sq P cx l.toArray F l sp e0 L0) {S : Nat → Bool} {val : Nat → Value} (hS : Sc l S) (hc : Cons P l sp e0 L0 S val l.length) :
  ∀ k, k ≤ l.length → ∃ val', (∀ i, S i = true → val' i = val i) ∧ Cons P l sp e0 L0 full val' k := by
 intro k
 induction k with
 | zero => intro _; exact ⟨val, fun _ _ => rfl, fun j hj => by omega⟩
 | succ k ih =>
  intro hk
  obtain ⟨val', hv, hcf⟩ := ih (by omega)
  by_cases hSk : S k = true
  ·refine ⟨val', hv, fun j hj hf => ?_⟩
   by_cases hjk : j = k
   ·subst hjk
    have hj' := hc j (by omega) hSk
    obtain ⟨a1, a2⟩ := agree_all (P := P) (e0 := e0) (L0 := L0) ok (S' := full) (val' := val') hS (fun _ _ => rfl) (fun i hi => (hv i hi).symm) j (by omega) (hS j (by omega) hSk)
    rw [← want_loc (ops := l.toArray) a1, hv j hSk]
    split
    ·rename_i hw
     rw [if_pos hw] at hj'
     rw [← V_loc (lk := look (EL P l sp e0 L0 S val j).2) (lk' := look (EL P l sp e0 L0 full val' j).2) (sd sp j) (Region.noSelect_spec ok.nosel j _ · · (by simp [od, List.getD_eq_getElem?_getD, List.getElem?_eq_getElem (show j < l.length by omega)])) (ops := l.toArray) a1 (fun t ht => a1 t (ok.rs j t (by omega) ht)) (fun i hi => a2 i (.inl hi))]
     exact hj'
    ·rename_i hw
     rw [if_neg hw] at hj'
     exact hj'
   ·exact hcf j (by omega) hf
  ·have h0 := sq_at ok h k (by omega) val' hcf
   rw [drop_od (by omega), drop_sd (by have := ok.len; omega)] at h0
   have Yz : ∀ v : Value, (if Zu l.toArray (od l k) (EL P l sp e0 L0 full val' k).1 = true then (sd sp k).V P (od l k) (EL P l sp e0 L0 full val' k).1 (look (EL P l sp e0 L0 full val' k).2) v else v = undef) →
     ∃ val'', (∀ i, S i = true → val'' i = val i) ∧ Cons P l sp e0 L0 full val'' (k + 1) := by
    intro v hvv
    refine ⟨fun i => if i = k then v else val' i, fun i hi => ?_, fun j hj hf => ?_⟩
    ·have : i ≠ k := fun e => hSk (by rw [← e]; exact hi)
     simp [this, hv i hi]
    ·have he : EL P l sp e0 L0 full (fun i => if i = k then v else val' i) j = EL P l sp e0 L0 full val' j := EL_congr full j (fun i hi => by
      have : i ≠ k := by omega
      simp [this])
     rw [he]
     by_cases hjk : j = k
     ·subst hjk
      simpa using hvv
     ·simp only [hjk, if_false]
      exact hcf j (by omega) hf
   cases h0 with
   | pass hw h1 => exact Yz undef (by rw [if_neg (by rw [hw]; simp)])
   | take hw hi hl h1 =>
    obtain ⟨v, hv'⟩ := hi
    exact Yz v (by rw [if_pos hw]; exact hv')
theorem tail_agree (ok : Ok n l sp) {S : Nat → Bool} {val : Nat → Value} (hS : Sc l S) {k : Nat} (hSk : S k = false) :
  ∀ j, k ≤ j → j ≤ l.length → (∀ t ∈ (od l k).looksAt l.toArray, (EL P l sp e0 L0 S val j).1 t = (EL P l sp e0 L0 S val k).1 t) ∧
    (∀ r, r ∈ (sd sp k).rds ∨ r ∈ (sd sp k).wrs → (EL P l sp e0 L0 S val j).2[r]? = (EL P l sp e0 L0 S val k).2[r]?) := by
 intro j hj
 obtain ⟨d, rfl⟩ := Nat.exists_eq_add_of_le hj
 clear hj
 induction d with
 | zero => intro _; exact ⟨fun _ _ => rfl, fun _ _ => rfl⟩
 | succ d ih =>
  intro hjl
  obtain ⟨a1, a2⟩ := ih (by omega)
  rw [show k + (d + 1) = (k + d) + 1 from rfl] at *
  generalize hjd : k + d = j at *
  have hj : k ≤ j := by omega
  simp only [EL]
  by_cases hSj : S j = true
  ·have hjk : k < j := by
    rcases Nat.lt_or_ge k j with h | h
    ·exact h
    ·have : j = k := by omega
     rw [this, hSk] at hSj; cases hSj
   have hnc : ¬ clash l.toArray (od l k) (od l j) (sd sp k) (sd sp j) = true := fun hc => by
    have := Jbl ok hS (by omega) (hS j (by omega) hSj) (ok.ord j k (by omega) hjk hc)
    rw [hSk] at this; cases this
   rw [if_pos hSj]
   refine ⟨fun t ht => ?_, fun r hr => ?_⟩
   ·rw [← a1 t ht]
    exact Jcb _ (fun hd => hnc (clash_ld ht hd))
   ·rw [← a2 r hr]
    show (if _ then _ else _)[r]? = _
    split
    ·exact Ul _ _ r (fun p hp hpr => hnc (clash_rw hr (by rw [← hpr]; exact T_in _ _ _ _ p hp)))
    ·rfl
  ·rw [if_neg hSj]
   exact ⟨a1, a2⟩
theorem putD_comm {e : Zk} {d1 d2 : Option Nat} {v1 v2 : Value} (h : ∀ t, d1 = some t → d2 ≠ some t) : putD (putD e d1 v1) d2 v2 = putD (putD e d2 v2) d1 v1 := by
 funext t
 by_cases h1 : d1 = some t
 ·have h2 := h t h1
  subst h1
  rw [Jcb _ h2]
  exact putD_same _ _ (fun hh => absurd rfl hh)
 ·rw [Jcb (d := d1) _ h1]
  exact putD_same _ _ (fun _ => Jcb _ h1)
theorem setAll_comm (A B : List (Nat × Chunk)) (L : List Chunk) (h : ∀ p ∈ A, ∀ q ∈ B, p.1 ≠ q.1) : Z3 (Z3 L A) B = Z3 (Z3 L B) A := by
 apply List.ext_getElem?
 intro i
 by_cases hA : ∃ p ∈ A, p.1 = i
 ·obtain ⟨p, hp, hpi⟩ := hA
  rw [Ul B _ i (fun q hq hqi => h p hp q hq (by omega))]
  exact setAll_same A _ _ i (by simp [setAll_length]) (Ul B _ i (fun q hq hqi => h p hp q hq (by omega))).symm
 ·have hA' : ∀ p ∈ A, p.1 ≠ i := fun p hp hpi => hA ⟨p, hp, hpi⟩
  rw [Ul A _ i hA']
  exact setAll_same B _ _ i (by simp [setAll_length]) (Ul A _ i hA')
def Uw (S : Nat → Bool) (k : Nat) : Nat → Bool := fun i => if i = k then true else S i
def val1 (val : Nat → Value) (k : Nat) (v : Value) : Nat → Value := fun i => if i = k then v else val i
theorem EL_below (S : Nat → Bool) (val : Nat → Value) (k : Nat) (v : Value) : ∀ j, j ≤ k → EL P l sp e0 L0 (Uw S k) (val1 val k v) j = EL P l sp e0 L0 S val j := by
 intro j
 induction j with
 | zero => intro _; rfl
 | succ j ih =>
  intro hj
  have hjk : j ≠ k := by omega
  simp only [EL, ih (by omega), Uw, val1, hjk, if_false]
theorem EL_step (ok : Ok n l sp) {S : Nat → Bool} {val : Nat → Value} (hS : Sc l S) {k : Nat} (hSk : S k = false) (v : Value) :
  ∀ j, k + 1 ≤ j → j ≤ l.length → EL P l sp e0 L0 (Uw S k) (val1 val k v) j =
   (putD (EL P l sp e0 L0 S val j).1 (od l k).dst v, if Zu l.toArray (od l k) (EL P l sp e0 L0 S val k).1 = true then Z3 (EL P l sp e0 L0 S val j).2 ((sd sp k).T (EL P l sp e0 L0 S val k).1 (look (EL P l sp e0 L0 S val k).2) v) else (EL P l sp e0 L0 S val j).2) := by
 intro j hj
 obtain ⟨d, rfl⟩ := Nat.exists_eq_add_of_le hj
 clear hj
 induction d with
 | zero =>
  intro _
  have h1 : EL P l sp e0 L0 (Uw S k) (val1 val k v) (k + 1) = _ := rfl
  rw [h1]
  simp only [EL, EL_below S val k v k (Nat.le_refl _), Uw, val1, if_true, hSk]
  rfl
 | succ d ih =>
  intro hjl
  have ih := ih (by omega)
  rw [show k + 1 + (d + 1) = (k + 1 + d) + 1 from rfl] at *
  generalize hjd : k + 1 + d = j at *
  have hjk : j ≠ k := by omega
  by_cases hSj : S j = true
  ·have hnc : ¬ clash l.toArray (od l k) (od l j) (sd sp k) (sd sp j) = true := fun hc => by
    have := Jbl ok hS (by omega) (hS j (by omega) hSj) (ok.ord j k (by omega) (by omega) hc)
    rw [hSk] at this; cases this
   have e1 : ∀ t ∈ (od l j).looksAt l.toArray, putD (EL P l sp e0 L0 S val j).1 (od l k).dst v t = (EL P l sp e0 L0 S val j).1 t :=
    fun t ht => Jcb _ (fun hd => hnc (clash_dl hd ht))
   have e2 : ∀ r, r ∈ (sd sp j).rds ∨ r ∈ (sd sp j).wrs → (if Zu l.toArray (od l k) (EL P l sp e0 L0 S val k).1 = true then Z3 (EL P l sp e0 L0 S val j).2 ((sd sp k).T (EL P l sp e0 L0 S val k).1 (look (EL P l sp e0 L0 S val k).2) v) else (EL P l sp e0 L0 S val j).2)[r]? = (EL P l sp e0 L0 S val j).2[r]? := by
    intro r hr
    split
    ·exact Ul _ _ r (fun p hp hpr => hnc (clash_wr (by rw [← hpr]; exact T_in _ _ _ _ p hp) hr))
    ·rfl
   have hT := T_loc (sd sp j) (e := putD (EL P l sp e0 L0 S val j).1 (od l k).dst v) (e' := (EL P l sp e0 L0 S val j).1)
    (lk := look (if Zu l.toArray (od l k) (EL P l sp e0 L0 S val k).1 = true then Z3 (EL P l sp e0 L0 S val j).2 ((sd sp k).T (EL P l sp e0 L0 S val k).1 (look (EL P l sp e0 L0 S val k).2) v) else (EL P l sp e0 L0 S val j).2)) (lk' := look (EL P l sp e0 L0 S val j).2)
    (fun t ht => e1 t (ok.rs j t (by omega) ht)) (fun i hi => e2 i (.inl hi)) (val j)
   have hw := want_loc (ops := l.toArray) e1
   have h1 : EL P l sp e0 L0 (Uw S k) (val1 val k v) (j + 1) = (putD (EL P l sp e0 L0 (Uw S k) (val1 val k v) j).1 (od l j).dst (val j), if Zu l.toArray (od l j) (EL P l sp e0 L0 (Uw S k) (val1 val k v) j).1 = true then Z3 (EL P l sp e0 L0 (Uw S k) (val1 val k v) j).2 ((sd sp j).T (EL P l sp e0 L0 (Uw S k) (val1 val k v) j).1 (look (EL P l sp e0 L0 (Uw S k) (val1 val k v) j).2) (val j)) else (EL P l sp e0 L0 (Uw S k) (val1 val k v) j).2) := by
    simp [EL, Uw, val1, hjk, hSj]
   have h2 : EL P l sp e0 L0 S val (j + 1) = (putD (EL P l sp e0 L0 S val j).1 (od l j).dst (val j), if Zu l.toArray (od l j) (EL P l sp e0 L0 S val j).1 = true then Z3 (EL P l sp e0 L0 S val j).2 ((sd sp j).T (EL P l sp e0 L0 S val j).1 (look (EL P l sp e0 L0 S val j).2) (val j)) else (EL P l sp e0 L0 S val j).2) := by
    simp [EL, hSj]
   rw [h1, h2, ih]
   simp only
   rw [hw, hT]
   refine Prod.ext ?_ ?_
   ·exact putD_comm (fun t ht1 ht2 => hnc (clash_dd ht1 ht2))
   ·show (if _ then _ else _) = (if _ then _ else _)
    by_cases hwj : Zu l.toArray (od l j) (EL P l sp e0 L0 S val j).1 = true <;> by_cases hwk : Zu l.toArray (od l k) (EL P l sp e0 L0 S val k).1 = true
    ·simp only [hwj, hwk, if_true]
     exact setAll_comm _ _ _ (fun p hp q hq hpq => hnc (clash_wr (T_in _ _ _ _ p hp) (.inr (by rw [hpq]; exact T_in _ _ _ _ q hq))))
    ·simp only [hwj, hwk, if_true]; rfl
    ·simp only [hwj, hwk, if_true]; rfl
    ·simp only [hwj, hwk]; rfl
  ·have h1 : EL P l sp e0 L0 (Uw S k) (val1 val k v) (j + 1) = EL P l sp e0 L0 (Uw S k) (val1 val k v) j := by
    simp [EL, Uw, hjk, hSj]
   have h2 : EL P l sp e0 L0 S val (j + 1) = EL P l sp e0 L0 S val j := by simp [EL, hSj]
   rw [h1, h2, ih]
def X5 (listed : Array Bool) : Nat → Bool := fun k => listed.getD k false
theorem cons_step (ok : Ok n l sp) {S : Nat → Bool} {val : Nat → Value} (hS : Sc l S) {k : Nat} (hk : k < l.length) (hSk : S k = false) (hc : Cons P l sp e0 L0 S val l.length) {v : Value}
  (hv : if Zu l.toArray (od l k) (EL P l sp e0 L0 S val k).1 = true then (sd sp k).V P (od l k) (EL P l sp e0 L0 S val k).1 (look (EL P l sp e0 L0 S val k).2) v else v = undef) :
  Cons P l sp e0 L0 (Uw S k) (val1 val k v) l.length := by
 intro j hj hSj
 by_cases hjk : j = k
 ·subst hjk
  rw [EL_below S val j v j (Nat.le_refl _)]
  simpa [val1] using hv
 ·have hSj' : S j = true := by simpa [Uw, hjk] using hSj
  have hcj := hc j hj hSj'
  have hval : val1 val k v j = val j := by simp [val1, hjk]
  rw [hval]
  by_cases hlt : j < k
  ·rw [EL_below S val k v j (by omega)]
   exact hcj
  ·have hkj : k < j := by omega
   have hnc : ¬ clash l.toArray (od l k) (od l j) (sd sp k) (sd sp j) = true := fun hh => by
    have := Jbl ok hS hj (hS j hj hSj') (ok.ord j k hj hkj hh)
    rw [hSk] at this; cases this
   rw [EL_step ok hS hSk v j (by omega) (by omega)]
   have e1 : ∀ t ∈ (od l j).looksAt l.toArray, putD (EL P l sp e0 L0 S val j).1 (od l k).dst v t = (EL P l sp e0 L0 S val j).1 t :=
    fun t ht => Jcb _ (fun hd => hnc (clash_dl hd ht))
   have e2 : ∀ r, r ∈ (sd sp j).rds ∨ r ∈ (sd sp j).wrs → (if Zu l.toArray (od l k) (EL P l sp e0 L0 S val k).1 = true then Z3 (EL P l sp e0 L0 S val j).2 ((sd sp k).T (EL P l sp e0 L0 S val k).1 (look (EL P l sp e0 L0 S val k).2) v) else (EL P l sp e0 L0 S val j).2)[r]? = (EL P l sp e0 L0 S val j).2[r]? := by
    intro r hr
    split
    ·exact Ul _ _ r (fun p hp hpr => hnc (clash_wr (by rw [← hpr]; exact T_in _ _ _ _ p hp) hr))
    ·rfl
   simp only
   rw [want_loc (ops := l.toArray) e1]
   split
   ·rename_i hw
    rw [if_pos hw] at hcj
    rw [V_locL (L' := (EL P l sp e0 L0 S val j).2) (sd sp j) (Region.noSelect_spec ok.nosel j _ · · (by simp [od, List.getD_eq_getElem?_getD, List.getElem?_eq_getElem hj])) (ops := l.toArray) e1 (fun t ht => e1 t (ok.rs j t hj ht)) (fun i hi => e2 i (.inl hi))]
    exact hcj
   ·rename_i hw
    rw [if_neg hw] at hcj
    exact hcj
theorem ready_mem {md : Region.Mode} {ops : Array Oper} {listed : Array Bool} {k : Nat} (h : k ∈ Region.ready md ops listed) :
  k < ops.size ∧ listed.getD k true = false ∧ ∃ o, ops[k]? = some o ∧ ∀ x ∈ o.after.toList, Region.binds md x = true → listed.getD x.on false = true := by
 unfold Region.ready at h
 rw [List.mem_filter] at h
 obtain ⟨h1, h2⟩ := h
 rw [List.mem_range] at h1
 simp only [Bool.and_eq_true, Bool.not_eq_true'] at h2
 obtain ⟨h2, h3⟩ := h2
 refine ⟨h1, h2, ops[k], Array.getElem?_eq_getElem h1, fun x hx hb => ?_⟩
 rw [Array.getElem?_eq_getElem h1] at h3
 simp only [Option.map_some, Option.getD_some] at h3
 have := Array.all_eq_true_iff_forall_mem.1 h3 x (by simpa using hx)
 simpa [hb] using this
theorem any_of (ok : Ok n l sp) (h : Sq P cx l.toArray (fun e L => At cx (Q .normal) e L) l sp e0 L0) : ∀ (fuel : Nat) (listed : Array Bool) (a : Act) (w : World) (val : Nat → Value), listed.size = l.length →
  Sc l (X5 listed) → Cons P l sp e0 L0 (X5 listed) val l.length →
  ((List.range l.length).filter fun k => !X5 listed k).length ≤ fuel →
  Sim n a (EL P l sp e0 L0 (X5 listed) val l.length).1 → Fr cx w → Sat cx w (EL P l sp e0 L0 (X5 listed) val l.length).2 →
  wpAny P .any l.toArray (lift n Q) fuel listed a w := by
 have final : ∀ (listed : Array Bool) (a : Act) (w : World) (val : Nat → Value), (∀ k, k < l.length → X5 listed k = true) → Cons P l sp e0 L0 (X5 listed) val l.length →
   Sim n a (EL P l sp e0 L0 (X5 listed) val l.length).1 → Fr cx w → Sat cx w (EL P l sp e0 L0 (X5 listed) val l.length).2 → lift n Q .normal a w := by
  intro listed a w val hall hc hs hF hS
  have he : ∀ k, k ≤ l.length → EL P l sp e0 L0 (X5 listed) val k = EL P l sp e0 L0 full val k := by
   intro k
   induction k with
   | zero => intro _; rfl
   | succ k ih => intro hk; simp only [EL, ih (by omega), hall k (by omega), full]
  have hcf : Cons P l sp e0 L0 full val l.length := fun j hj hf => by
   have := hc j hj (hall j hj)
   rwa [he j (by omega)] at this
  have h0 := sq_at ok h l.length (Nat.le_refl _) val hcf
  rw [List.drop_length, ok.len, List.drop_length, ← ok.len] at h0
  cases h0 with
  | nil hh =>
   rw [← he _ (Nat.le_refl _)] at hh
   exact ⟨_, hs, hh.out w hF hS⟩
 have ready_all : ∀ (listed : Array Bool), listed.size = l.length → Region.ready .any l.toArray listed = [] → ∀ k, k < l.length → X5 listed k = true := by
  intro listed hsz hr k
  induction k using Nat.strongRecOn with
  | _ k ih =>
   intro hk
   rcases Bool.eq_false_or_eq_true (X5 listed k) with hh | hh
   ·exact hh
   ·exfalso
    have : k ∈ Region.ready .any l.toArray listed := by
     unfold Region.ready
     rw [List.mem_filter]
     refine ⟨by simpa using hk, ?_⟩
     have hg : listed.getD k true = false := by
      have hh' : listed.getD k false = false := hh
      rw [Array.getD_eq_getD_getElem?, Array.getElem?_eq_getElem (by omega)] at hh' ⊢
      simpa using hh'
     have hok : l.toArray[k]? = some (od l k) := by simp [od, List.getD_eq_getElem?_getD, List.getElem?_eq_getElem hk]
     simp only [hg, Bool.not_false, Bool.true_and, hok, Option.map_some, Option.getD_some]
     rw [Array.all_eq_true_iff_forall_mem]
     intro x hx
     by_cases hb : Region.binds .any x = true
     ·have hlt := ok.back k x hk (by simpa using hx) hb
      have := ih x.on hlt (by omega)
      simp only [hb, Bool.not_true, Bool.false_or]
      exact this
     ·simp only [Bool.not_eq_true] at hb
      simp [hb]
    rw [hr] at this
    cases this
 intro fuel
 induction fuel with
 | zero =>
  intro listed a w val hsz hSc hc hcount hs hF hS
  have hall : ∀ k, k < l.length → X5 listed k = true := by
   intro k hk
   have h0 : (List.range l.length).filter (fun k => !X5 listed k) = [] := List.eq_nil_of_length_eq_zero (by omega)
   rw [List.filter_eq_nil_iff] at h0
   simpa using h0 k (by simpa using hk)
  refine ⟨?_, final listed a w val hall hc hs hF hS⟩
  cases hr : Region.ready .any l.toArray listed with
  | nil => rfl
  | cons x xs =>
   exfalso
   obtain ⟨h1, h2, _⟩ := ready_mem (md := .any) (ops := l.toArray) (listed := listed) (k := x) (by rw [hr]; simp)
   have h1' : x < l.length := by simpa using h1
   have := hall x h1'
   unfold X5 at this
   rw [Array.getD_eq_getD_getElem?, Array.getElem?_eq_getElem (by omega)] at this h2
   simp at this h2
   rw [this] at h2
   cases h2
 | succ fuel ih =>
  intro listed a w val hsz hSc hc hcount hs hF hS
  refine ⟨fun hr => final listed a w val (ready_all listed hsz hr) hc hs hF hS, fun k hk => ?_⟩
  obtain ⟨h1, h2, o, ho, hafter⟩ := ready_mem hk
  have hkl : k < l.length := by simpa using h1
  have hoe : o = od l k := by
   have : l[k]? = some o := by simpa using ho
   simp [od, List.getD_eq_getElem?_getD, this]
  subst hoe
  have hSk : X5 listed k = false := by
   unfold X5
   rw [Array.getD_eq_getD_getElem?, Array.getElem?_eq_getElem (by omega)] at h2 ⊢
   simpa using h2
  have hclk : Closed l (fun i => X5 listed i = true) k := fun x hx hb => hafter x hx hb
  obtain ⟨val', hv, hcf⟩ := fill ok h hSc hc k (by omega)
  have h0 := sq_at ok h k (by omega) val' hcf
  rw [drop_od hkl, drop_sd (by have := ok.len; omega)] at h0
  obtain ⟨a1, a2⟩ := agree_all (P := P) (e0 := e0) (L0 := L0) ok (S' := full) (val' := val') hSc (fun _ _ => rfl) (fun i hi => (hv i hi).symm) k hkl hclk
  obtain ⟨b1, b2⟩ := tail_agree (P := P) (e0 := e0) (L0 := L0) (val := val) ok hSc hSk l.length (by omega) (Nat.le_refl _)
  have hsel : ∀ cs b, (od l k).op ≠ .select cs b := (Region.noSelect_spec ok.nosel k _ · · (by simpa using ho))
  have hSn : X5 (listed.setIfInBounds k true) = Uw (X5 listed) k := by
   funext i
   unfold X5 Uw
   simp only [Array.getD_eq_getD_getElem?, Array.getElem?_setIfInBounds]
   by_cases hik : i = k
   ·subst hik; simp [show i < listed.size by omega]
   ·have : ¬ k = i := fun e => hik e.symm
    simp [hik, this]
  have hScn : Sc l (Uw (X5 listed) k) := by
   intro j hj hSj x hx hb
   by_cases hjk : j = k
   ·subst hjk
    have := hclk x hx hb
    simp only [Uw]
    split
    ·rfl
    ·exact this
   ·have hSj' : X5 listed j = true := by simpa [Uw, hjk] using hSj
    have := hSc j hj hSj' x hx hb
    simp only [Uw]
    split
    ·rfl
    ·exact this
  have hcnt : ((List.range l.length).filter fun i => !Uw (X5 listed) k i).length ≤ fuel := by
   have hsub : ((List.range l.length).filter fun i => !Uw (X5 listed) k i).length < ((List.range l.length).filter fun i => !X5 listed i).length := by
    have e1 : (List.range l.length).filter (fun i => !Uw (X5 listed) k i) = ((List.range l.length).filter fun i => !X5 listed i).filter fun i => decide (i ≠ k) := by
     rw [List.filter_filter]
     apply List.filter_congr
     intro i _
     unfold Uw
     by_cases hik : i = k <;> simp [hik]
    rw [e1]
    refine List.length_filter_lt_length_iff_exists.2 ⟨k, ?_, by simp⟩
    rw [List.mem_filter]
    exact ⟨by simpa using hkl, by simp [hSk]⟩
   omega
  have hwa : Zu l.toArray (od l k) (EL P l sp e0 L0 (X5 listed) val l.length).1 = Zu l.toArray (od l k) (EL P l sp e0 L0 full val' k).1 := (want_loc b1).trans (want_loc a1)
  have hwk : Zu l.toArray (od l k) (EL P l sp e0 L0 (X5 listed) val k).1 = Zu l.toArray (od l k) (EL P l sp e0 L0 full val' k).1 := want_loc a1
  have next : ∀ (v : Value) (a' : Act) (w' : World), (if Zu l.toArray (od l k) (EL P l sp e0 L0 full val' k).1 = true then (sd sp k).V P (od l k) (EL P l sp e0 L0 full val' k).1 (look (EL P l sp e0 L0 full val' k).2) v else v = undef) →
    Sim n a' (putD (EL P l sp e0 L0 (X5 listed) val l.length).1 (od l k).dst v) → Fr cx w' →
    Sat cx w' (if Zu l.toArray (od l k) (EL P l sp e0 L0 full val' k).1 = true then Z3 (EL P l sp e0 L0 (X5 listed) val l.length).2 ((sd sp k).T (EL P l sp e0 L0 full val' k).1 (look (EL P l sp e0 L0 full val' k).2) v) else (EL P l sp e0 L0 (X5 listed) val l.length).2) →
    wpAny P .any l.toArray (lift n Q) fuel (listed.setIfInBounds k true) a' w' := by
   intro v a' w' hvv hs' hF' hS'
   have hstep := EL_step (P := P) (e0 := e0) (L0 := L0) ok hSc hSk v (val := val) l.length (by omega) (Nat.le_refl _)
   have hT : (sd sp k).T (EL P l sp e0 L0 (X5 listed) val k).1 (look (EL P l sp e0 L0 (X5 listed) val k).2) v = (sd sp k).T (EL P l sp e0 L0 full val' k).1 (look (EL P l sp e0 L0 full val' k).2) v :=
    T_loc _ (fun t ht => a1 t (ok.rs k t hkl ht)) (fun i hi => a2 i (.inl hi)) v
   refine ih (listed.setIfInBounds k true) a' w' (val1 val k v) (by simpa using hsz) (by rw [hSn]; exact hScn) ?_ (by rw [hSn]; exact hcnt) ?_ hF' ?_
   ·rw [hSn]
    refine cons_step ok hSc hkl hSk hc ?_
    rw [hwk]
    split
    ·rename_i hw
     rw [if_pos hw] at hvv
     rw [V_locL (L' := (EL P l sp e0 L0 full val' k).2) (sd sp k) hsel (ops := l.toArray) a1 (fun t ht => a1 t (ok.rs k t hkl ht)) (fun i hi => a2 i (.inl hi))]
     exact hvv
    ·rename_i hw
     rw [if_neg hw] at hvv
     exact hvv
   ·rw [hSn, hstep]; exact hs'
   ·rw [hSn, hstep]
    simp only
    rw [hwk, hT]
    exact hS'
  unfold wpOp
  rw [ho]
  simp only
  rw [want_eq hs, hwa]
  cases h0 with
  | pass hw h3 =>
   rw [hw]
   simp only [Bool.false_eq_true, if_false]
   refine next undef _ w (by rw [if_neg (by rw [hw]; simp)]) ?_ hF (by rw [if_neg (by rw [hw]; simp)]; exact hS)
   cases hd : (od l k).dst with
   | none => exact hs
   | some d => exact hs.put (ok.dst k d hkl hd) undef
  | take hw hi hl h3 =>
   rw [hw, if_pos rfl]
   refine .inl ?_
   have hr := hl.out w _ hF hS (by rw [EL_length, EL_length]) (fun i hi => (b2 i hi).trans (a2 i hi))
   have hev : execOp (ev (EL P l sp e0 L0 full val' k).1) (od l k) = execOp (ev (EL P l sp e0 L0 (X5 listed) val l.length).1) (od l k) :=
    ev_loc hsel (ops := l.toArray) (fun t ht => ((b1 t ht).trans (a1 t ht)).symm)
   unfold RunsTo at hr
   rw [hev] at hr
   unfold Oper.wp
   rw [hs.ev]
   have put : ∀ v : Value, Sim n (a.put (od l k).dst v) (putD (EL P l sp e0 L0 (X5 listed) val l.length).1 (od l k).dst v) := by
    intro v
    cases hd : (od l k).dst with
    | none => exact hs
    | some d => exact hs.put (ok.dst k d hkl hd) v
   have go : ∀ v w', (sd sp k).V P (od l k) (EL P l sp e0 L0 full val' k).1 (look (EL P l sp e0 L0 full val' k).2) v ∧ Fr cx w' ∧ Sat cx w' (Z3 (EL P l sp e0 L0 (X5 listed) val l.length).2 ((sd sp k).T (EL P l sp e0 L0 full val' k).1 (look (EL P l sp e0 L0 full val' k).2) v)) →
     wpAny P .any l.toArray (lift n Q) fuel (listed.setIfInBounds k true) (a.put (od l k).dst v) w' :=
    fun v w' ⟨g1, g2, g3⟩ => next v _ w' (by rw [if_pos hw]; exact g1) (put v) g2 (by rw [if_pos hw]; exact g3)
   generalize (execOp (ev (EL P l sp e0 L0 (X5 listed) val l.length).1) (od l k)).run P w = r at *
   cases r with
   | halt x w' => exact hr.elim
   | ok nx w' =>
    cases nx with
    | value v => exact go v w' hr
    | skip => exact go undef w' hr
    | enter f args =>
     show Calls P f args w' _
     refine Calls.mono hr ?_
     rintro en w'' ⟨v, rfl, hk'⟩
     exact go v w'' hk'
    | _ => exact hr.elim
theorem EL_none (S : Nat → Bool) (h : ∀ k, S k = false) (val : Nat → Value) : ∀ k, EL P l sp e0 L0 S val k = (e0, L0) := by
 intro k
 induction k with
 | zero => rfl
 | succ k ih => simp only [EL, h k]; exact ih
end sound
def empC : Chunk := ⟨fun S _ => ∀ b, ¬ S b, fun _ _ _ _ h => h⟩
theorem Sat.emp {cx : Cx} {w : World} {L : List Chunk} (h : Sat cx w L) (hF : Fr cx w) : Sat cx w (L ++ [empC]) :=
 h.snoc hF (Grow.refl w) (S := fun _ => False) (fun _ h => h) (fun _ h => h.elim)
theorem Sat.pad {cx : Cx} {w : World} (hF : Fr cx w) : ∀ (k : Nat) {L : List Chunk}, Sat cx w L → Sat cx w (L ++ List.replicate k empC)
 | 0, L, h => by simpa using h
 | k + 1, L, h => by
  have := Sat.pad hF k (h.emp hF)
  rwa [List.append_assoc, List.singleton_append, ← List.replicate_succ] at this
theorem Qz {P : Program} {n : Nat} {cx : Cx} {Q : Post} {e : Zk} {L : List Chunk} {id : Nat} {l : List Oper} (sp : List Kd) (k : Nat) (hm : P.follows .mixedOrders = true)
  (h : Sq P cx l.toArray (fun e L => At cx (Q .normal) e L) l sp e (L ++ List.replicate k empC)) (hB : checkD n l sp = true) : At cx (WC P n (.region id l.toArray true) Q) e L :=
 ⟨fun w hF hS => ⟨fun a ha => by
  have ok := ok_of hB
  have hno : ∀ i, X5 (Array.replicate l.toArray.size false) i = false := by
   intro i
   simp only [X5, Array.getD_eq_getD_getElem?, Array.getElem?_replicate]
   split <;> rfl
  refine wp_region_any hm (any_of ok h l.toArray.size (Array.replicate l.toArray.size false) a _ (fun _ => undef) (by simp) (fun k _ hk => by rw [hno k] at hk; cases hk) (fun j _ hj => by rw [hno j] at hj; cases hj) ?_ ?_ ⟨hF.os, hF.tape, hF.output, hF.size, hF.block⟩ ?_)
  ·exact Nat.le_trans (List.length_filter_le _ _) (by simp)
  ·rw [EL_none _ hno]; exact ha
  ·rw [EL_none _ hno]
   have hg : Grow w { w with drawn := w.drawn + 1 } := ⟨rfl, rfl, rfl, Nat.le_refl _, fun _ _ => rfl⟩
   exact (hS.pad hF k).grow hg⟩⟩
end Go.Vc

/- The rules for single operations of a region that draws its order. Conditions: none. -/
namespace Go.Vc
open Go
def boxOf (v : Value) (cs : List Value) (T : TypeId) : Chunk :=
 match v with
 | .pointer (some a) => Q1 a.block cs T
 | .slice (some a) _ _ => Q1 a.block cs T
 | _ => empC
def isPtr (v : Value) : Prop := ∃ b, v = .pointer (some ⟨b, 0, none⟩)
def Kd.nw (i : Nat) (cs : List Value) (T : TypeId) : Kd := .g [] [] [i] (fun _ _ v => isPtr v) (fun _ _ v => [boxOf v cs T])
def Kd.ns (i : Nat) (cs : List Value) (T m : Nat) : Kd := .g [] [] [i] (fun _ _ v => ∃ b, v = .slice (some ⟨b, 0, none⟩) m m) (fun _ _ v => [boxOf v cs T])
def Kd.st (a i : Nat) (cs : List Value) (T : TypeId) : Kd := .g [a] [i] [i] (fun _ _ v => v = undef) (fun vs _ _ => [boxOf (vs.headD undef) cs T])
section rules
variable {P : Program} {n : Nat} {cx : Cx} {Q : Post} {e : Zk} {L : List Chunk} {ops : Array Oper} {F : Zk → List Chunk → Prop} {rest : List Oper} {ss : List Kd}
theorem d_pass {o : Oper} {s : Kd} {d : Nat} (hw : Zu ops o e = false) (hd : o.dst = some d) (k : Sq P cx ops F rest ss (upd e d undef) L) : Sq P cx ops F (o :: rest) (s :: ss) e L :=
 .pass hw (by rw [hd]; exact k)
theorem Qa {o : Oper} {d : Nat} {v : Value} (hw : Zu ops o e = true) (hd : o.dst = some d) (hr : ∀ w, (execOp (ev e) o).run P w = .ok (.value v) w)
  (k : Sq P cx ops F rest ss (upd e d v) L) : Sq P cx ops F (o :: rest) (.p :: ss) e L := by
 refine .take hw ⟨v, hr⟩ ⟨fun w L' hF hS _ _ => ?_⟩ fun v' hv' => ?_
 ·unfold RunsTo
  rw [hr]
  exact ⟨hr, hF, hS⟩
 ·have h1 := hv' default
  rw [hr] at h1
  have : v = v' := by simpa using h1
  subst this
  rw [hd]
  exact k
theorem d_det {o : Oper} {d : Nat} {v : Value} {rds : List Nat} (hw : Zu ops o e = true) (hd : o.dst = some d)
  (h : ∀ w L', Fr cx w → Sat cx w L' → (∀ i ∈ rds, L'[i]? = L[i]?) → RunsTo P (ev e) o w fun v' w' => v' = v ∧ Grow w w')
  (k : Sq P cx ops F rest ss (upd e d v) L) : Sq P cx ops F (o :: rest) (.d rds v :: ss) e L := by
 refine .take hw ⟨v, rfl⟩ ⟨fun w L' hF hS _ hi => ?_⟩ fun v' hv' => ?_
 ·refine (h w L' hF hS fun i hm => hi i (.inl hm)).mono fun v' w' ⟨h1, h2⟩ => ?_
  exact ⟨h1, hF.grow h2, hS.grow h2⟩
 ·have : v' = v := hv'
  subst this
  rw [hd]
  exact k
variable {d : Nat} {ty : TypeId} {pos : String} {af : Array Edge} {g : Option (Nat × Bool)}
theorem Z5 {i : Nat} {T T0 b o : Nat} {A : Operand} {cs : List Value} {v : Value} (hA : ∀ w, (isAgg T).run P w = .ok false w)
  (hw : Zu ops ⟨some d, .load T A, ty, pos, af, g⟩ e = true) (hp : ev e A = .pointer (some ⟨b, o, none⟩)) (hL : L[i]? = some (Q1 b cs T0)) (hv : rg cs o = some v)
  (k : Sq P cx ops F rest ss (upd e d v) L) : Sq P cx ops F (⟨some d, .load T A, ty, pos, af, g⟩ :: rest) (.d [i] v :: ss) e L :=
 d_det hw rfl (fun w L' hF hS hi => by
  have hc := cell_of (o := o) (Zr hS ((hi i (by simp)).trans hL))
  rw [← rg_eq, hv] at hc
  unfold RunsTo
  have : (execOp (ev e) ⟨some d, .load T A, ty, pos, af, g⟩).run P w = .ok (.value v) w := by
   simp [execOp, Instr.loadAt, Instr.sureAddr, hp, Jao hA hc]
  rw [this]
  exact ⟨rfl, Grow.refl w⟩) k
theorem d_loadN {i : Nat} {T T0 b o sz : Nat} {A : Operand} {cs vs : List Value} (hA : ∀ w, (isAgg T).run P w = .ok true w) (hs : ∀ w, (sizeOf T).run P w = .ok sz w)
  (hw : Zu ops ⟨some d, .load T A, ty, pos, af, g⟩ e = true) (hp : ev e A = .pointer (some ⟨b, o, none⟩)) (hL : L[i]? = some (Q1 b cs T0)) (hv : rd cs o sz = some vs)
  (k : Sq P cx ops F rest ss (upd e d (.agg vs.toArray)) L) : Sq P cx ops F (⟨some d, .load T A, ty, pos, af, g⟩ :: rest) (.d [i] (.agg vs.toArray) :: ss) e L :=
 d_det hw rfl (fun w L' hF hS hi => by
  obtain ⟨h1, h2⟩ := rd_get hv
  have hr := Jb3 (P := P) (w := w) (b := b) (o := o) hA hs h1 (fun j v hj => by rw [cell_of (Zr hS ((hi i (by simp)).trans hL))]; exact h2 j v hj)
  unfold RunsTo
  have : (execOp (ev e) ⟨some d, .load T A, ty, pos, af, g⟩).run P w = .ok (.value (.agg vs.toArray)) w := by
   simp [execOp, Instr.loadAt, Instr.sureAddr, hp, hr]
  rw [this]
  exact ⟨rfl, Grow.refl w⟩) k
theorem d_call {f : FuncId} {A : Array Operand} {tys : Array TypeId} {args : List Value} {v : Value} (h : Ret P f args v) (hc : ∀ args w, (callFunc f args).run P w = .ok (.enter f args) w)
  (hw : Zu ops ⟨some d, .call ⟨.value (.func f), A, tys⟩, ty, pos, af, g⟩ e = true) (ha : A.toList.map (ev e) = args)
  (k : Sq P cx ops F rest ss (upd e d v) L) : Sq P cx ops F (⟨some d, .call ⟨.value (.func f), A, tys⟩, ty, pos, af, g⟩ :: rest) (.d [] v :: ss) e L :=
 d_det hw rfl (fun w L' _ _ _ => by
  unfold RunsTo
  rw [run_call hc ha]
  exact h w) k
theorem d_new {o : Oper} {i : Nat} {T : TypeId} {cs : List Value} (hw : Zu ops o e = true) (hd : o.dst = some d)
  (hr : ∀ w, (execOp (ev e) o).run P w = .ok (.value (.pointer (some ⟨w.heap.size, 0, none⟩))) (w.alloc (.cells cs.toArray T))) (hL : L[i]? = some empC)
  (k : ∀ b, Sq P cx ops F rest ss (upd e d (.pointer (some ⟨b, 0, none⟩))) (L.set i (Q1 b cs T))) : Sq P cx ops F (o :: rest) (.nw i cs T :: ss) e L := by
 refine .take hw ⟨.pointer (some ⟨0, 0, none⟩), 0, rfl⟩ ⟨fun w L' hF hS _ hi => ?_⟩ fun v' hv' => ?_
 ·unfold RunsTo
  rw [hr]
  refine ⟨⟨_, rfl⟩, hF.grow (Jb9 w _), ?_⟩
  refine hS.set hF ((hi i (.inr (by simp [Kd.nw, Kd.wrs]))).trans hL) (by simp) fun S _ hSo => ⟨fun x => x = w.heap.size, ⟨fun _ => Iff.rfl, heap_alloc_new w _⟩, fun b hb => ?_, fun b hb _ => (by first | exact heap_alloc_old w _ b hb | exact heap_alloc_old w _ hb)⟩
  subst hb
  exact ⟨by simp, .inr (Nat.le_refl _)⟩
 ·obtain ⟨b, rfl⟩ : ∃ b, v' = .pointer (some ⟨b, 0, none⟩) := hv'
  rw [hd]
  exact k b
theorem d_newS {o : Oper} {i m : Nat} {T : TypeId} {cs : List Value} (hw : Zu ops o e = true) (hd : o.dst = some d)
  (hr : ∀ w, (execOp (ev e) o).run P w = .ok (.value (.slice (some ⟨w.heap.size, 0, none⟩) m m)) (w.alloc (.cells cs.toArray T))) (hL : L[i]? = some empC)
  (k : ∀ b, Sq P cx ops F rest ss (upd e d (.slice (some ⟨b, 0, none⟩) m m)) (L.set i (Q1 b cs T))) : Sq P cx ops F (o :: rest) (.ns i cs T m :: ss) e L := by
 refine .take hw ⟨.slice (some ⟨0, 0, none⟩) m m, 0, rfl⟩ ⟨fun w L' hF hS _ hi => ?_⟩ fun v' hv' => ?_
 ·unfold RunsTo
  rw [hr]
  refine ⟨⟨_, rfl⟩, hF.grow (Jb9 w _), ?_⟩
  refine hS.set hF ((hi i (.inr (by simp [Kd.ns, Kd.wrs]))).trans hL) (by simp) fun S _ hSo => ⟨fun x => x = w.heap.size, ⟨fun _ => Iff.rfl, heap_alloc_new w _⟩, fun b hb => ?_, fun b hb _ => (by first | exact heap_alloc_old w _ b hb | exact heap_alloc_old w _ hb)⟩
  subst hb
  exact ⟨by simp, .inr (Nat.le_refl _)⟩
 ·obtain ⟨b, rfl⟩ : ∃ b, v' = .slice (some ⟨b, 0, none⟩) m m := hv'
  rw [hd]
  exact k b
theorem run_alloc {d : Option Nat} {T : TypeId} {z : Value} {cs : List Value} (hz : ∀ w, (zeroValue T).run P w = .ok z w) (hc : z.cells.toList = cs) (w : World) :
  (execOp (ev e) ⟨d, .alloc T, ty, pos, af, g⟩).run P w = .ok (.value (.pointer (some ⟨w.heap.size, 0, none⟩))) (w.alloc (.cells cs.toArray T)) := by
 subst hc
 simp [execOp, Instr.alloc, hz, run_newVar]
theorem run_store {T T0 b o sz : Nat} {A X : Operand} {x : Value} {cs cs' vs : List Value} {w : World} (hs : ∀ w, (sizeOf T).run P w = .ok sz w) (hp : ev e A = .pointer (some ⟨b, o, none⟩)) (hx : ev e X = x) (hc : x.cells.toList = vs) (hsz : vs.length = sz)
  (hpos : Nat.blt 0 sz = true) (hone : vs.all Value.oneCell' = true) (hv : wr cs o vs = some cs') (hb : w.heap[b]? = some (.cells cs.toArray T0 (0, 0))) :
  (execOp (ev e) ⟨none, .store T A X, ty, pos, af, g⟩).run P w = .ok .skip (w.setRow b cs'.toArray) := by
 have hpos' : 0 < vs.length := by rw [hsz]; simpa using hpos
 obtain ⟨h1, h2⟩ := wr_eq hv hpos'
 have hst := run_storeCells_at P b o T0 vs 0 cs.toArray w hb (by simpa using h1) (by simpa using hone)
 have hsz' : x.cells.size = sz := by rw [← hsz, ← hc]; simp
 simp only [Nat.add_zero, List.append_assoc] at hst
 simp only [execOp, Instr.storeAt, Instr.sureAddr, storeVar, hp, hx, Sem.run_bind, Sem.run_pure, Result.andThen_ok, hs, hsz', ne_eq, not_true_eq_false, if_false, hc, hst]
 rw [h2]; simp
theorem Y3 (h : F e L) : Sq P cx ops F [] [] e L := .nil h
theorem splitS {os : List Oper} {b : Bool} (ht : b = true → Sq P cx ops F os ss (upd e d (.bool true)) L) (hf : b = false → Sq P cx ops F os ss (upd e d (.bool false)) L) : Sq P cx ops F os ss (upd e d (.bool b)) L := by
 cases b
 ·exact hf rfl
 ·exact ht rfl
end rules
end Go.Vc

/- Slices, loops with what they leave alone, and calls whose contracts read memory. Conditions: none. -/
namespace Go.Vc
open Go
section rules
variable {P : Program} {n : Nat} {cx : Cx} {Q : Post} {e : Zk} {L : List Chunk} {ops : Array Oper} {rest : List Oper} {F : Zk → List Chunk → Prop} {ss : List Kd}
variable {ty : TypeId} {pos : String} {af : Array Edge} {g : Option (Nat × Bool)}
theorem r_decT {o : Oper} {p : Prop} [Decidable p] (h : ∀ w, (execOp (ev e) o).run P w = .ok (.value (.bool (decide p))) w) (hp : p) (w : World) : (execOp (ev e) o).run P w = .ok (.value (.bool true)) w := by
 rw [h, decide_eq_true hp]
theorem r_decF {o : Oper} {p : Prop} [Decidable p] (h : ∀ w, (execOp (ev e) o).run P w = .ok (.value (.bool (decide p))) w) (hp : ¬ p) (w : World) : (execOp (ev e) o).run P w = .ok (.value (.bool false)) w := by
 rw [h, decide_eq_false hp]
structure WR (P : Program) (n : Nat) (m : Nat) (c : Code) (Q : Post) (e : Zk) (w : World) : Prop where
 out : ∀ a, Sim n a e → Code.rounds P c (lift n Q) m a w
def Keeps (M : List Nat) (e e' : Zk) : Prop := ∀ t, (M.any fun x => Nat.beq x t) = false → e' t = e t
theorem Keeps.refl (M : List Nat) (e : Zk) : Keeps M e e := fun _ _ => rfl
theorem Keeps.upd {M : List Nat} {e e' : Zk} {d : Nat} {v : Value} (h : Keeps M e e') (hd : (M.any fun x => Nat.beq x d) = true) : Keeps M e (upd e' d v) := fun t ht => by
 rw [upd_ne _ _ _ _ (fun hh => by rw [hh, hd] at ht; cases ht)]
 exact h t ht
theorem Keeps.mkE {M : List Nat} {e e' : Zk} (h : Keeps M e e') : ∀ l : List (Nat × Value), (l.all fun p => M.any fun x => Nat.beq x p.1) = true → Keeps M e (mkE l e')
 | [], _ => h
 | (a, v) :: r, hl => fun t ht => by
  simp only [List.all_cons, Bool.and_eq_true] at hl
  have hne : t ≠ a := fun hh => by rw [hh, hl.1] at ht; cases ht
  have := Keeps.mkE h r hl.2 t ht
  simp only [Vc.mkE, beq_eq]
  simpa [hne] using this
structure RoundK {σ : Type} (cx : Cx) (M : List Nat) (e0 : Zk) (st : σ → List (Nat × Value)) (hp : σ → List Chunk) (I : σ → Prop) (m : Nat) (μ : σ → Nat) (e : Zk) (w : World) : Prop where
 out : ∃ s, Agree e (st s) ∧ Keeps M e0 e ∧ Fr cx w ∧ Sat cx w (hp s) ∧ I s ∧ μ s < m
def Row (w : World) (a : Option Addr) (sz : Nat) (xs : List (List Value)) : Prop :=
 xs = [] ∨ ∃ b off, a = some ⟨b, off, none⟩ ∧ ∀ (i : Nat) (x : List Value), xs[i]? = some x → x.length = sz ∧ ∀ (j : Nat) (v : Value), x[j]? = some v → w.cell? ⟨b, off + i * sz + j, none⟩ = some v
theorem Row.grow {w w' : World} {a : Option Addr} {sz : Nat} {xs : List (List Value)} (h : Row w a sz xs) (g : Grow w w') : Row w' a sz xs := by
 rcases h with h | ⟨b, off, ha, h⟩
 ·exact .inl h
 ·refine .inr ⟨b, off, ha, fun i x hx => ⟨(h i x hx).1, fun j v hv => ?_⟩⟩
  have hc := (h i x hx).2 j v hv
  have hlt : b < w.heap.size := World.block_lt_of_cell? w _ hc
  rw [Go.RowKit.Below.cell g (p := ⟨b, off + i * sz + j, none⟩) hlt]
  exact hc
theorem Row.some {w : World} {a : Option Addr} {sz : Nat} {xs : List (List Value)} (h : Row w a sz xs) {i : Nat} (hi : i < xs.length) : ∃ b off, a = some ⟨b, off, none⟩ := by
 rcases h with h | ⟨b, off, ha, _⟩
 ·subst h; simp at hi
 ·exact ⟨b, off, ha⟩
theorem row_get {sz : Nat} : ∀ (xs : List (List Value)) (i : Nat) (x : List Value), (xs.all fun x => Nat.beq x.length sz) = true → xs[i]? = some x → ∀ (j : Nat) (v : Value), x[j]? = some v → xs.flatten[i * sz + j]? = some v
 | [], i, x, _, hx, _, _, _ => by simp at hx
 | y :: ys, i, x, hl, hx, j, v, hv => by
  simp only [List.all_cons, Bool.and_eq_true] at hl
  have hy : y.length = sz := by simpa using hl.1
  have hj : j < x.length := by
   rcases Nat.lt_or_ge j x.length with h | h
   ·exact h
   ·simp [List.getElem?_eq_none h] at hv
  cases i with
  | zero =>
   simp at hx; subst hx
   simp only [List.flatten_cons, Nat.zero_mul, Nat.zero_add]
   rw [List.getElem?_append_left hj]
   exact hv
  | succ i =>
   simp at hx
   have := row_get ys i x hl.2 hx j v hv
   simp only [List.flatten_cons]
   rw [List.getElem?_append_right (by rw [Nat.succ_mul]; omega)]
   rw [show (i + 1) * sz + j - y.length = i * sz + j from by rw [Nat.succ_mul]; omega]
   exact this
theorem row_box {w : World} {i b : Nat} {cs : List Value} {T : TypeId} {sz : Nat} {xs : List (List Value)} (hS : Sat cx w L) (hL : L[i]? = some (Q1 b cs T)) (hcs : xs.flatten = cs) (hlen : (xs.all fun x => Nat.beq x.length sz) = true) : Row w (some ⟨b, 0, none⟩) sz xs := by
 refine .inr ⟨b, 0, rfl, fun i x hx => ⟨?_, fun j v hv => ?_⟩⟩
 ·have := List.all_eq_true.1 hlen x (List.mem_of_getElem? hx)
  simpa using this
 ·rw [cell_of (Zr hS hL), ← hcs, Nat.zero_add]
  exact row_get xs i x hlen hx j v hv
theorem Row.at {w : World} {a : Option Addr} {sz : Nat} {α : Type} {f : α → List Value} {xs : List α} (h : Row w a sz (xs.map f)) {k : Nat} (hk : k < xs.length) : ∃ b off, a = Option.some ⟨b, off, none⟩ :=
 h.some (i := k) (by simpa using hk)
def Zn (a : Option Addr) (k : Nat) : Value :=
 match a with
 | some x => .pointer (some ⟨x.block, x.off + k, none⟩)
 | none => undef
theorem Jaw {d : Option Nat} {X : Operand} {a : Option Addr} {m c : Nat} {t u : TypeId} (hu : P.underlying t = some (.slice u)) (hx : ev e X = .slice a m c) (w : World) :
  (execOp (ev e) ⟨d, .call ⟨.builtin .len, #[X], #[t]⟩, ty, pos, af, g⟩).run P w = .ok (.value (.int .i64 m)) w := by
 simp [execOp, resolve, invoke, builtin, hx, Builtin.len_, run_underlying hu, goInt]
theorem r_lenS {d : Option Nat} {X : Operand} {s : ByteArray} {t : TypeId} (hu : P.underlying t = some .string) (hx : ev e X = .string s) (w : World) :
  (execOp (ev e) ⟨d, .call ⟨.builtin .len, #[X], #[t]⟩, ty, pos, af, g⟩).run P w = .ok (.value (.int .i64 s.size)) w := by
 simp [execOp, resolve, invoke, builtin, hx, Builtin.len_, run_underlying hu, goInt]
theorem r_index {d : Option Nat} {X I : Operand} {a : Option Addr} {m c : Nat} {t u sz : Nat} {k : IntKind} {i : Int} (hu : P.underlying t = some (.slice u)) (hs : ∀ w, (sizeOf u).run P w = .ok sz w)
  (hx : ev e X = .slice a m c) (hi : ev e I = .int k i) (ha : ∃ b off, a = some ⟨b, off, none⟩) (h0 : 0 ≤ i) (h1 : i < m) (w : World) :
  (execOp (ev e) ⟨d, .indexAddr t X I, ty, pos, af, g⟩).run P w = .ok (.value (Zn a (i.toNat * sz))) w := by
 obtain ⟨b, off, rfl⟩ := ha
 simp [execOp, Instr.indexAt, hx, hi, asIntOf, run_underlying hu, h0, h1, hs, Zn, Addr.add_lit]
theorem Xv {d : Option Nat} {T fld k fo ft fsz bo : Nat} {a : Option Addr} {nm tg pk : String} {em : Bool} {X : Operand} {fs : Array Field} (hu : ∀ w, (underlying T).run P w = .ok (.struct fs) w)
  (hf : fs[fld]? = some ⟨nm, ft, fo, em, tg, pk, bo⟩) (hs : ∀ w, (sizeOf ft).run P w = .ok fsz w) (hsz : Nat.blt 0 fsz = true) (hp : ev e X = Zn a k) (ha : ∃ b off, a = some ⟨b, off, none⟩) (w : World) :
  (execOp (ev e) ⟨d, .fieldAddr T X fld, ty, pos, af, g⟩).run P w = .ok (.value (Zn a (k + fo))) w := by
 obtain ⟨b, off, rfl⟩ := ha
 rw [J7 hu hf hs hsz hp w]
 simp [Zn, Nat.add_assoc]
theorem run_loadP1 {T k : Nat} {d : Option Nat} {a : Option Addr} {A : Operand} {sz i j : Nat} {xs : List (List Value)} {x : List Value} {v : Value} {w : World} (hA : ∀ w, (isAgg T).run P w = .ok false w)
  (hp : ev e A = Zn a k) (hk : k = i * sz + j) (hr : Row w a sz xs) (hx : xs[i]? = some x) (hv : rg x j = some v) :
  (execOp (ev e) ⟨d, .load T A, ty, pos, af, g⟩).run P w = .ok (.value v) w := by
 rcases hr with rfl | ⟨b, off, rfl, h⟩
 ·simp at hx
 ·have hc := (h i x hx).2 j v (by rw [← rg_eq]; exact hv)
  subst hk
  have hp' : ev e A = .pointer (some ⟨b, off + i * sz + j, none⟩) := by rw [hp]; simp [Zn, Nat.add_assoc]
  simp [execOp, Instr.loadAt, Instr.sureAddr, hp', Jao hA hc]
theorem run_loadPN {T k m : Nat} {d : Option Nat} {a : Option Addr} {A : Operand} {sz i j : Nat} {xs : List (List Value)} {x vs : List Value} {w : World} (hA : ∀ w, (isAgg T).run P w = .ok true w) (hs : ∀ w, (sizeOf T).run P w = .ok m w)
  (hp : ev e A = Zn a k) (hk : k = i * sz + j) (hr : Row w a sz xs) (hx : xs[i]? = some x) (hv : rd x j m = some vs) :
  (execOp (ev e) ⟨d, .load T A, ty, pos, af, g⟩).run P w = .ok (.value (.agg vs.toArray)) w := by
 rcases hr with rfl | ⟨b, off, rfl, h⟩
 ·simp at hx
 ·obtain ⟨h1, h2⟩ := rd_get hv
  subst hk
  have hp' : ev e A = .pointer (some ⟨b, off + i * sz + j, none⟩) := by rw [hp]; simp [Zn, Nat.add_assoc]
  have := Jb3 (P := P) (w := w) (b := b) (o := off + i * sz + j) hA hs h1 (fun q v hq => by
   rw [Nat.add_assoc]; exact (h i x hx).2 (j + q) v (h2 q v hq))
  simp [execOp, Instr.loadAt, Instr.sureAddr, hp', this]
theorem J9 {o : Oper} {d : Nat} {v : Value} (hr : ∀ w, Fr cx w → Sat cx w L → (execOp (ev e) o).run P w = .ok (.value v) w) (hw : Zu ops o e = true) (hd : o.dst = some d) (hn : Nat.blt d n = true)
  (k : At cx (WL P n ops Q rest) (upd e d v) L) : At cx (WL P n ops Q (o :: rest)) e L :=
 l_yields hw hd hn fun w hF hS => ⟨v, w, hr w hF hS, k.out w hF hS⟩
theorem Wb {o : Oper} {d : Nat} {v : Value} (hr : ∀ w, Fr cx w → (execOp (ev e) o).run P w = .ok (.value v) w) (hw : Zu ops o e = true) (hd : o.dst = some d)
  (k : Sq P cx ops F rest ss (upd e d v) L) : Sq P cx ops F (o :: rest) (.d [] v :: ss) e L :=
 d_det hw hd (fun w _ hF _ _ => by unfold RunsTo; rw [hr w hF]; exact ⟨rfl, Grow.refl w⟩) k
theorem Qf {d : Nat} {f : FuncId} {A : Array Operand} {tys : Array TypeId} {args : List Value} {v : Value} (h : ∀ w, Fr cx w → Sat cx w L → Does P f args.toArray w fun v' w' => v' = v ∧ Grow w w') (hc : ∀ args w, (callFunc f args).run P w = .ok (.enter f args) w)
  (hw : Zu ops ⟨some d, .call ⟨.value (.func f), A, tys⟩, ty, pos, af, g⟩ e = true) (hn : Nat.blt d n = true) (ha : A.toList.map (ev e) = args)
  (k : At cx (WL P n ops Q rest) (upd e d v) L) : At cx (WL P n ops Q (⟨some d, .call ⟨.value (.func f), A, tys⟩, ty, pos, af, g⟩ :: rest)) e L :=
 l_calls hw rfl hn (run_call hc ha) fun w hF hS => (h w hF hS).mono fun v' w' ⟨hv, hg⟩ => by
  subst hv
  exact k.out w' (hF.grow hg) (hS.grow hg)
theorem Uk {d : Nat} {f : FuncId} {A : Array Operand} {tys : Array TypeId} {args : List Value} {v : Value} {rds : List Nat} (h : ∀ w L', Fr cx w → Sat cx w L' → (∀ i ∈ rds, L'[i]? = L[i]?) → Does P f args.toArray w fun v' w' => v' = v ∧ Grow w w') (hc : ∀ args w, (callFunc f args).run P w = .ok (.enter f args) w)
  (hw : Zu ops ⟨some d, .call ⟨.value (.func f), A, tys⟩, ty, pos, af, g⟩ e = true) (ha : A.toList.map (ev e) = args)
  (k : Sq P cx ops F rest ss (upd e d v) L) : Sq P cx ops F (⟨some d, .call ⟨.value (.func f), A, tys⟩, ty, pos, af, g⟩ :: rest) (.d rds v :: ss) e L :=
 d_det hw rfl (fun w L' hF hS hi => by
  unfold RunsTo
  rw [run_call hc ha]
  exact h w L' hF hS hi) k
theorem fold_set (off : Nat) : ∀ (vs : List Value) (j : Nat) (cs : Array Value), off + j + vs.length ≤ cs.size →
  ((vs.zipIdx j).foldl (fun cs (p : Value × Nat) => cs.setIfInBounds (off + p.2) p.1) cs).toList = cs.toList.take (off + j) ++ vs ++ cs.toList.drop (off + j + vs.length)
 | [], j, cs, _ => by simp
 | v :: vs, j, cs, h => by
  simp only [List.zipIdx_cons, List.foldl_cons]
  rw [fold_set off vs (j + 1) _ (by simp at h ⊢; omega)]
  have hlt : off + j < cs.size := by simp at h; omega
  simp only [Array.toList_setIfInBounds, List.length_cons]
  have e1 : (cs.toList.set (off + j) v).take (off + (j + 1)) = cs.toList.take (off + j) ++ [v] := by
   rw [show off + (j + 1) = (off + j) + 1 from by omega, List.take_add_one]
   rw [List.take_set_of_le (Nat.le_refl _)]
   simp [hlt]
  have e2 : (cs.toList.set (off + j) v).drop (off + (j + 1) + vs.length) = cs.toList.drop (off + j + (vs.length + 1)) := by
   rw [List.drop_set_of_lt (by omega)]
   congr 1; omega
  rw [e1, e2]
  simp
theorem fill_all (sz : Nat) : ∀ (vs : List Value) (i : Nat) (cs : Array Value), (∀ v ∈ vs, v.cells.size = sz) → cs.size = (i + vs.length) * sz →
  ∃ out : Array Value, Instr.fill (fun i => some (i * sz, sz)) cs ((vs.zipIdx i).map fun p => (p.2, p.1)) = some out ∧ out.toList = cs.toList.take (i * sz) ++ vs.flatMap fun v => v.cells.toList
 | [], i, cs, _, hsz => ⟨cs, rfl, by simp at hsz; simp [← hsz, List.take_of_length_le]⟩
 | v :: vs, i, cs, hv, hsz => by
  have h1 : v.cells.size = sz := hv v (by simp)
  have hle : i * sz + v.cells.size ≤ cs.size := by
   rw [h1, hsz, ← Nat.succ_mul]; exact Nat.mul_le_mul_right _ (by simp)
  have hf := fold_set (i * sz) v.cells.toList 0 cs (by simpa using hle)
  obtain ⟨out, ho1, ho2⟩ := fill_all sz vs (i + 1) (v.cells.zipIdx.foldl (fun cs (p : Value × Nat) => cs.setIfInBounds (i * sz + p.2) p.1) cs) (fun u hu => hv u (by simp [hu])) (by
   have : (v.cells.zipIdx.foldl (fun cs (p : Value × Nat) => cs.setIfInBounds (i * sz + p.2) p.1) cs).size = cs.size := by
    rw [← Array.foldl_toList, ← Array.length_toList, Array.toList_zipIdx, hf]
    simp
    omega
   rw [this, hsz]; simp; congr 1; omega)
  refine ⟨out, ?_, ?_⟩
  ·simp only [List.zipIdx_cons, List.map_cons, Instr.fill]
   rw [if_neg (by simp [h1]; omega)]
   exact ho1
  ·rw [ho2, ← Array.foldl_toList, Array.toList_zipIdx, hf]
   simp only [List.flatMap_cons]
   rw [show (i + 1) * sz = i * sz + v.cells.toList.length from by rw [Nat.succ_mul]; simp [h1]]
   simp only [Nat.add_zero]
   have hl : (cs.toList.take (i * sz) ++ v.cells.toList).length = i * sz + v.cells.toList.length := by simp; omega
   rw [List.take_left' hl, List.append_assoc]
theorem Z7 {d : Option Nat} {t u sz m : Nat} {parts : Array (Nat × Operand)} {z : Value} {vs : List Value} {cs : List Value} (hu : P.underlying t = some (.slice u)) (hs : ∀ w, (sizeOf u).run P w = .ok sz w) (hz : ∀ w, (zeroValue u).run P w = .ok z w)
  (hps : parts.toList.map (fun (i, x) => (i, ev e x)) = (vs.zipIdx 0).map fun p => (p.2, p.1)) (hm : vs.length = m) (hall : (vs.all fun v => Nat.beq v.cells.size sz) = true) (hb : Nat.ble (m * sz) 16777216 = true) (hcs : (vs.flatMap fun v => v.cells.toList) = cs) (w : World) :
  (execOp (ev e) ⟨d, .buildSlice t m parts, ty, pos, af, g⟩).run P w = .ok (.value (.slice (some ⟨w.heap.size, 0, none⟩) m m)) (w.alloc (.cells cs.toArray u)) := by
 have hps' : (parts.map fun (i, x) => (i, ev e x)).toList = (vs.zipIdx 0).map fun p => (p.2, p.1) := by rw [← hps, Array.toList_map]
 have hb' : m * sz ≤ 16777216 := by simpa using hb
 have hall' : ∀ v ∈ vs, v.cells.size = sz := fun v hv => by simpa using List.all_eq_true.1 hall v hv
 have key : ∀ cs0 : Array Value, cs0.size = m * sz → Instr.fill (fun i => some (i * sz, sz)) cs0 ((vs.zipIdx 0).map fun p => (p.2, p.1)) = some cs.toArray := by
  intro cs0 h0
  obtain ⟨out, h1, h2⟩ := fill_all sz vs 0 cs0 hall' (by rw [h0, Nat.zero_add, hm])
  rw [h1]
  congr 1
  apply Array.ext'
  rw [h2, ← hcs]; simp
 have h24 : ¬ m * sz > 2 ^ 24 := by omega
 by_cases h0 : m * sz = 0
 ·simp only [execOp, Instr.buildSlice, Sem.run_bind, run_underlying hu, Result.andThen_ok, hs, hps', h24, if_false]
  simp only [h0, if_true, Sem.run_pure, pure_bind]
  rw [key _ (by simp [h0])]
  simp [newRow, newObj, Sem.run]
 ·have hk := key ((Array.range (m * sz)).map (z.cells[· % z.cells.size]!)) (by simp)
  simp only [execOp, Instr.buildSlice, Sem.run_bind, run_underlying hu, Result.andThen_ok, hs, hps', h24, h0, if_false, hz, Sem.run_pure, hk]
  simp [newRow, newObj, Sem.run]
theorem Z0 {d : Nat} {t u sz m : Nat} {parts : Array (Nat × Operand)} {z : Value} {vs cs : List Value} (hu : P.underlying t = some (.slice u)) (hs : ∀ w, (sizeOf u).run P w = .ok sz w) (hz : ∀ w, (zeroValue u).run P w = .ok z w)
  (hw : Zu ops ⟨some d, .buildSlice t m parts, ty, pos, af, g⟩ e = true) (hn : Nat.blt d n = true)
  (hps : parts.toList.map (fun (i, x) => (i, ev e x)) = (vs.zipIdx 0).map fun p => (p.2, p.1)) (hm : vs.length = m) (hall : (vs.all fun v => Nat.beq v.cells.size sz) = true) (hb : Nat.ble (m * sz) 16777216 = true) (hcs : (vs.flatMap fun v => v.cells.toList) = cs)
  (k : ∀ b, At cx (WL P n ops Q rest) (upd e d (.slice (some ⟨b, 0, none⟩) m m)) (L ++ [Q1 b cs u])) : At cx (WL P n ops Q (⟨some d, .buildSlice t m parts, ty, pos, af, g⟩ :: rest)) e L :=
 l_yields hw rfl hn fun w hF hS => ⟨.slice (some ⟨w.heap.size, 0, none⟩) m m, w.alloc (.cells cs.toArray u), Z7 hu hs hz hps hm hall hb hcs w, (k w.heap.size).out _ (hF.grow (Jb9 w _)) (sat_new hF hS cs u)⟩
end rules
end Go.Vc

/- Slices that the call makes: rows in memory of its own, that grow, are written, are handed on and handed back. Conditions: those that each rule names. -/
namespace Go.Vc
open Go
structure Turn (w w' : World) (S : Nat → Prop) (C : Chunk) : Prop where
 os : w'.os = w.os
 tape : w'.tape = w.tape
 output : w'.output = w.output
 size : w.heap.size ≤ w'.heap.size
 block : ∀ b, b < w.heap.size → ¬ S b → w'.heap[b]? = w.heap[b]?
 out : ∃ S' : Nat → Prop, C.P S' w' ∧ ∀ b, S' b → b < w'.heap.size ∧ (S b ∨ w.heap.size ≤ b)
abbrev Yl : Nat → Prop := fun _ => False
structure Imp (C D : Chunk) : Prop where
 out : ∀ S w, C.P S w → D.P S w
theorem Imp.refl (C : Chunk) : Imp C C := ⟨fun _ _ h => h⟩
theorem Imp.of {C D : Chunk} (h : C = D) : Imp C D := h ▸ Imp.refl C
theorem Turn.grow {w w' : World} {C : Chunk} (h : Turn w w' Yl C) : Grow w w' := ⟨h.os, h.tape, h.output, h.size, fun k hk => h.block k hk (fun x => x)⟩
theorem Zb {σ : Type} {w0 : World} {S : Nat → Prop} {L : List Chunk} {v : Value} {G : σ → Value} {C : σ → Chunk} {i : Nat} {C0 : Chunk} (x : σ) (hL : L[i]? = some C0) (hv : v = G x) (hc : Imp C0 (C x)) :
  ∀ w, Fr ⟨w0, S⟩ w → Sat ⟨w0, S⟩ w L → ∃ x, v = G x ∧ Turn w0 w S (C x) := fun w hF hS => by
 refine ⟨x, hv, hF.os, hF.tape, hF.output, hF.size, fun b hb hn => hF.block b ?_, ?_⟩
 ·rintro (h | h)
  ·exact absurd h (by show ¬ w0.heap.size ≤ b; omega)
  ·exact hn h
 ·obtain ⟨fp, h1, h2, _⟩ := hS.out
  refine ⟨fp i, hc.out _ _ (h1 i C0 hL), fun b hb => ?_⟩
  obtain ⟨_, a2, a3⟩ := h2 i b hb
  exact ⟨a2, a3.symm⟩
theorem Sat.one {w : World} {S : Nat → Prop} {C : Chunk} (h : C.P S w) (hb : ∀ b, S b → b < w.heap.size) : Sat ⟨w, S⟩ w [C] :=
 ⟨fun i b => i = 0 ∧ S b, fun i c hc => by
  cases i with
  | zero => simp at hc; subst hc; simpa using h
  | succ i => simp at hc, fun i b ⟨hi, hs⟩ => ⟨by simp [hi], hb b hs, .inr hs⟩, fun i j b ⟨hi, _⟩ ⟨hj, _⟩ => by omega⟩
section rules
variable {P : Program} {n : Nat} {cx : Cx} {Q : Post} {e : Zk} {L : List Chunk} {ops : Array Oper} {F : Zk → List Chunk → Prop} {rest : List Oper} {ss : List Kd}
variable {d : Nat} {ty : TypeId} {pos : String} {af : Array Edge} {g : Option (Nat × Bool)}
theorem Zq {K : Zk → World → Prop} {φ : Prop} (h : ∀ w, Fr cx w → Sat cx w L → φ) (k : φ → At cx K e L) : At cx K e L :=
 ⟨fun w hF hS => (k (h w hF hS)).out w hF hS⟩
theorem Fr.turn {w w' : World} {S : Nat → Prop} {C : Chunk} (hF : Fr cx w) (h : Turn w w' S C) (hS : ∀ b, S b → cx.own b) : Fr cx w' :=
 ⟨h.os.trans hF.os, h.tape.trans hF.tape, h.output.trans hF.output, Nat.le_trans hF.size h.size, fun b hb => by
  have hlt : b < w.heap.size := by
   have : ¬ cx.w0.heap.size ≤ b := fun hh => hb (.inl hh)
   have := hF.size
   omega
  rw [h.block b hlt (fun hs => hb (hS b hs)), hF.block b hb]⟩
theorem Sat.turnNew {w w' : World} {C : Chunk} (hS : Sat cx w L) (hF : Fr cx w) (h : Turn w w' Yl C) : Sat cx w' (L ++ [C]) := by
 obtain ⟨S', h1, h2⟩ := h.out
 exact hS.snoc hF h.grow h1 fun b hb => ⟨((h2 b hb).2.resolve_left (fun x => x)), (h2 b hb).1⟩
theorem Sat.turnAt {w w' : World} {i : Nat} {C0 C : Chunk} (hS : Sat cx w L) (hF : Fr cx w) (hL : L[i]? = some C0)
  (h : ∀ S : Nat → Prop, C0.P S w → (∀ b, S b → b < w.heap.size ∧ cx.own b) → Turn w w' S C) (hs : w.heap.size ≤ w'.heap.size) : Sat cx w' (L.set i C) :=
 hS.set hF hL hs fun S hp hb => by
  have t := h S hp hb
  obtain ⟨S', k1, k2⟩ := t.out
  exact ⟨S', k1, k2, fun b hlt hn => t.block b hlt hn⟩
theorem Sat.at {w : World} {i : Nat} {C : Chunk} (hS : Sat cx w L) (hL : L[i]? = some C) : ∃ S : Nat → Prop, C.P S w ∧ ∀ b, S b → b < w.heap.size ∧ cx.own b := by
 obtain ⟨fp, h1, h2, _⟩ := hS.out
 exact ⟨fp i, h1 i C hL, fun b hb => (h2 i b hb).2⟩
theorem l_runs {o : Oper} {d : Nat} (hw : Zu ops o e = true) (hd : o.dst = some d) (hn : Nat.blt d n = true)
  (h : ∀ w, Fr cx w → Sat cx w L → RunsTo P (ev e) o w fun v w' => WL P n ops Q rest (upd e d v) w') : At cx (WL P n ops Q (o :: rest)) e L :=
 ⟨fun w hF hS => ⟨fun a ha => by
  have hr := h w hF hS
  unfold RunsTo at hr
  unfold wpList
  rw [want_eq ha, hw, if_pos rfl]
  refine .inl ?_
  unfold Oper.wp
  rw [ha.ev]
  generalize (execOp (ev e) o).run P w = r at hr
  cases r with
  | halt x w' => exact hr.elim
  | ok nx w' =>
   cases nx with
   | value v =>
    show wpList P ops (lift n Q) rest (a.put o.dst v) w'
    rw [hd]
    exact hr.out _ (ha.put hn v)
   | skip =>
    show wpList P ops (lift n Q) rest (a.put o.dst undef) w'
    rw [hd]
    exact hr.out _ (ha.put hn undef)
   | enter f args =>
    refine Calls.mono hr ?_
    rintro en w'' ⟨v, rfl, hk⟩
    show wpList P ops (lift n Q) rest (a.put o.dst v) w''
    rw [hd]
    exact hk.out _ (ha.put hn v)
   | _ => exact hr.elim⟩⟩
def Turns (P : Program) (cx : Cx) (e : Zk) (o : Oper) (L : List Chunk) (i : Nat) (rds : List Nat) {σ : Type} (G : σ → Value) (C : σ → Chunk) : Prop :=
 ∀ w L', Fr cx w → Sat cx w L' → L'.length = L.length → (∀ j, j ∈ rds ∨ j = i → L'[j]? = L[j]?) → RunsTo P (ev e) o w fun v w' => ∃ x, v = G x ∧ Fr cx w' ∧ Sat cx w' (L'.set i (C x))
def Makes (P : Program) (cx : Cx) (e : Zk) (o : Oper) (L : List Chunk) (rds : List Nat) {σ : Type} (G : σ → Value) (C : σ → Chunk) : Prop :=
 ∀ w L', Fr cx w → Sat cx w L' → (∀ j, j ∈ rds → L'[j]? = L[j]?) → RunsTo P (ev e) o w fun v w' => ∃ x, v = G x ∧ Turn w w' Yl (C x)
theorem Y7 {σ : Type} {o : Oper} {d i : Nat} {rds : List Nat} {G : σ → Value} {C : σ → Chunk} (h : Turns P cx e o L i rds G C) (hw : Zu ops o e = true) (hd : o.dst = some d) (hn : Nat.blt d n = true)
  (k : ∀ x, At cx (WL P n ops Q rest) (upd e d (G x)) (L.set i (C x))) : At cx (WL P n ops Q (o :: rest)) e L :=
 l_runs hw hd hn fun w hF hS => (h w L hF hS rfl (fun _ _ => rfl)).mono fun v w' ⟨x, hv, hF', hS'⟩ => by
  subst hv
  exact (k x).out w' hF' hS'
theorem Yk {σ : Type} {o : Oper} {d : Nat} {rds : List Nat} {G : σ → Value} {C : σ → Chunk} (h : Makes P cx e o L rds G C) (hw : Zu ops o e = true) (hd : o.dst = some d) (hn : Nat.blt d n = true)
  (k : ∀ x, At cx (WL P n ops Q rest) (upd e d (G x)) (L ++ [C x])) : At cx (WL P n ops Q (o :: rest)) e L :=
 l_runs hw hd hn fun w hF hS => (h w L hF hS (fun _ _ => rfl)).mono fun v w' ⟨x, hv, ht⟩ => by
  subst hv
  exact (k x).out w' (hF.grow ht.grow) (hS.turnNew hF ht)
def Kd.t (i : Nat) (rds : List Nat) {σ : Type} (G : σ → Value) (Cv : Value → Chunk) : Kd := .g [] rds [i] (fun _ _ v => ∃ x, v = G x) (fun _ _ v => [Cv v])
theorem d_turn {σ : Type} {o : Oper} {d i : Nat} {rds : List Nat} {G : σ → Value} {C : σ → Chunk} {Cv : Value → Chunk} (x0 : σ) (h : Turns P cx e o L i rds G C) (hC : ∀ x, Cv (G x) = C x) (hw : Zu ops o e = true) (hd : o.dst = some d)
  (k : ∀ x, Sq P cx ops F rest ss (upd e d (G x)) (L.set i (C x))) : Sq P cx ops F (o :: rest) (.t i rds G Cv :: ss) e L := by
 refine .take hw ⟨G x0, x0, rfl⟩ ⟨fun w L' hF hS hl hi => ?_⟩ fun v' hv' => ?_
 ·refine (h w L' hF hS hl fun j hj => hi j (by simpa [Kd.t, Kd.rds, Kd.wrs] using hj)).mono fun v w' ⟨x, hv, hF', hS'⟩ => ?_
  subst hv
  refine ⟨⟨x, rfl⟩, hF', ?_⟩
  show Sat cx w' (L'.set i (Cv (G x)))
  rw [hC]; exact hS'
 ·obtain ⟨x, rfl⟩ : ∃ x, v' = G x := hv'
  show Sq P cx ops F rest ss (putD e o.dst (G x)) (L.set i (Cv (G x)))
  rw [hC, hd]
  exact k x
theorem Uc {σ : Type} {o : Oper} {d i : Nat} {rds : List Nat} {G : σ → Value} {C : σ → Chunk} {Cv : Value → Chunk} (x0 : σ) (h : Makes P cx e o L rds G C) (hC : ∀ x, Cv (G x) = C x) (hL : L[i]? = some empC) (hw : Zu ops o e = true) (hd : o.dst = some d)
  (k : ∀ x, Sq P cx ops F rest ss (upd e d (G x)) (L.set i (C x))) : Sq P cx ops F (o :: rest) (.t i rds G Cv :: ss) e L := by
 refine d_turn x0 (fun w L' hF hS hl hi => ?_) hC hw hd k
 refine (h w L' hF hS fun j hj => hi j (.inl hj)).mono fun v w' ⟨x, hv, ht⟩ => ⟨x, hv, hF.grow ht.grow, ?_⟩
 exact hS.turnAt hF ((hi i (.inr rfl)).trans hL) (fun S hp _ => by
  obtain ⟨S', k1, k2⟩ := ht.out
  exact ⟨ht.os, ht.tape, ht.output, ht.size, fun b hb _ => ht.block b hb (fun x => x), S', k1, fun b hb => ⟨(k2 b hb).1, .inr ((k2 b hb).2.resolve_left (fun x => x))⟩⟩) ht.size
theorem J8 {σ : Type} {d : Nat} {f : FuncId} {A : Array Operand} {tys : Array TypeId} {args : List Value} {rds : List Nat} {G : σ → Value} {C : σ → Chunk}
  (h : ∀ w L', Fr cx w → Sat cx w L' → (∀ j ∈ rds, L'[j]? = L[j]?) → Does P f args.toArray w fun v w' => ∃ x, v = G x ∧ Turn w w' Yl (C x)) (hc : ∀ args w, (callFunc f args).run P w = .ok (.enter f args) w)
  (ha : A.toList.map (ev e) = args) : Makes P cx e ⟨some d, .call ⟨.value (.func f), A, tys⟩, ty, pos, af, g⟩ L rds G C := fun w L' hF hS hi => by
 unfold RunsTo
 rw [run_call hc ha]
 exact h w L' hF hS hi
def J5 (E : TypeId) (sz : Nat) (v : Value) (n : Nat) (xs : List (List Value)) : Chunk where
 P S w := (w.ownsRow 0 E sz v n xs.flatten ∧ xs.length = n ∧ ∀ x ∈ xs, x.length = sz) ∧ ∀ b, v.ownBlock = some b → S b
 loc S w w' h := by
  rintro ⟨⟨⟨h1, h2⟩, h3⟩, h4⟩
  refine ⟨⟨⟨h1, ?_⟩, h3⟩, h4⟩
  rcases h2 with h2 | ⟨g, cap, cur, rfl, hb, hh, hr⟩
  ·exact .inl h2
  ·exact .inr ⟨g, cap, cur, rfl, hb, (h g (h4 g rfl)).trans hh, hr⟩
theorem ownsRow_Row {w : World} {E sz n c : Nat} {a : Option Addr} {xs : List (List Value)} (h : w.ownsRow 0 E sz (.slice a n c) n xs.flatten) (hn : xs.length = n) (hl : ∀ x ∈ xs, x.length = sz) : Row w a sz xs := by
 rcases h.2 with ⟨hv, h0⟩ | ⟨g, cap, cur, hv, _, hh, hnc, _, hcs, ht⟩
 ·exact .inl (List.eq_nil_of_length_eq_zero (hn.trans h0))
 ·simp only [Value.slice.injEq] at hv
  obtain ⟨rfl, _, rfl⟩ := hv
  refine .inr ⟨g, 0, rfl, fun i x hx => ⟨hl x (List.mem_of_getElem? hx), fun j v hj => ?_⟩⟩
  have hg := row_get xs i x (List.all_eq_true.2 fun y hy => by simpa using hl y hy) hx j v hj
  rw [← ht, List.getElem?_take] at hg
  split at hg
  ·rw [World.cell?, hh]
   simpa using hg
  ·cases hg
theorem Qy {w : World} {i E sz n c : Nat} {a : Option Addr} {xs : List (List Value)} (hS : Sat cx w L) (hL : L[i]? = some (J5 E sz (.slice a n c) n xs)) : Row w a sz xs := by
 obtain ⟨S, ⟨⟨h1, h2, h3⟩, _⟩, _⟩ := hS.at hL
 exact ownsRow_Row h1 h2 h3
theorem lenOf {w : World} {i E sz n : Nat} {v : Value} {xs : List (List Value)} (hS : Sat cx w L) (hL : L[i]? = some (J5 E sz v n xs)) : xs.length = n := by
 obtain ⟨S, ⟨⟨h1, h2, h3⟩, _⟩, _⟩ := hS.at hL
 exact h2
theorem Q9 {K : Zk → World → Prop} (E sz : Nat) (k : At cx K e (L ++ [J5 E sz (.slice none 0 0) 0 []])) : At cx K e L :=
 ⟨fun w hF hS => k.out w hF (hS.snoc hF (Grow.refl w) (S := Yl) ⟨⟨World.ownsRow_nil _ _ _ _, rfl, by simp⟩, by simp [Value.ownBlock]⟩ (fun _ h => h.elim))⟩
theorem Xc {K : Zk → World → Prop} (i : Nat) {C C' : Chunk} (hL : L[i]? = some C) (h : Imp C C') (k : At cx K e (L.set i C')) : At cx K e L :=
 ⟨fun w hF hS => k.out w hF (hS.set hF hL (Nat.le_refl _) fun S hp hb => ⟨S, h.out S w hp, fun b hs => ⟨(hb b hs).1, .inl hs⟩, fun _ _ _ => rfl⟩)⟩
theorem Qc {o : Oper} {d : Nat} {v : Value} {rds : List Nat} (hr : ∀ w L', Fr cx w → Sat cx w L' → (∀ i ∈ rds, L'[i]? = L[i]?) → (execOp (ev e) o).run P w = .ok (.value v) w) (hw : Zu ops o e = true) (hd : o.dst = some d)
  (k : Sq P cx ops F rest ss (upd e d v) L) : Sq P cx ops F (o :: rest) (.d rds v :: ss) e L :=
 d_det hw hd (fun w L' hF hS hi => by unfold RunsTo; rw [hr w L' hF hS hi]; exact ⟨rfl, Grow.refl w⟩) k
theorem run_append_at {d : Option Nat} {S X : Operand} {t E : TypeId} {I : TypeInfo} {z : Value} {sz by_ : Nat} {w : World} {v : Value} {m : Nat} {xs : List Value} {ad : Addr} {q c : Nat} {news : List Value}
  (ht : P.underlying t = some (.slice E)) (hi : P.info? E = some I) (hz : I.zero = some z) (hsize : I.size = sz) (hby : I.bytes = by_) (hzs : z.cells.size = sz) (hsz : 0 < sz)
  (hs : ev e S = v) (hown : w.ownsRow 0 E sz v m xs) (hx : ev e X = .slice (some ad) q c) (hl : news.length = q * sz) (hnews : ∀ j u, news[j]? = some u → w.cell? (ad.add j) = some u) (h1 : ∀ u ∈ news, u.oneCell' = true)
  (h63 : m + q ≤ maxLen) (hbytes : (m + q) * by_ ≤ 140737488355328) :
  ∃ v' w', (execOp (ev e) ⟨d, .call ⟨.builtin .append, #[S, X], #[t, t]⟩, ty, pos, af, g⟩).run P w = .ok (.value v') w' ∧ w'.ownsRow 0 E sz v' (m + q) (xs ++ news) ∧ w.grownBy w' v.ownBlock ∧ (v'.ownBlock = v.ownBlock ∨ v'.ownBlock = some w.heap.size) := by
 obtain ⟨v', w', hr, h2, h3, h4, h5⟩ := run_append_own_at (P := P) w 0 t ty E I z sz by_ ht hi hz hsize hby hzs hsz v m xs hown ad q c news hl hnews h1 h63 hbytes (Nat.zero_le _)
 refine ⟨v', w', ?_, h2, h3, h5⟩
 simp only [execOp, resolve, invoke, builtin, Sem.run_bind, Sem.run_pure, Result.andThen_ok, List.map_toArray, List.map_cons, List.map_nil, hs, hx, hr]
theorem Jct {w : World} {E sz n : Nat} {v : Value} {xs : List Value} (h : w.ownsRow 0 E sz v n xs) : ∃ p : Option Addr × Nat, v = .slice p.1 n p.2 := by
 rcases h.2 with ⟨rfl, h0⟩ | ⟨g, cap, cur, rfl, _⟩
 ·subst h0; exact ⟨(none, 0), rfl⟩
 ·exact ⟨(some ⟨g, 0, none⟩, cap), rfl⟩
theorem Ug {w w' : World} {E sz m' : Nat} {v v' : Value} {xs' : List (List Value)} {S : Nat → Prop} (hS : ∀ b, v.ownBlock = some b → S b) (ho : w'.ownsRow 0 E sz v' m' xs'.flatten) (hg : w.grownBy w' v.ownBlock)
  (h5 : v'.ownBlock = v.ownBlock ∨ v'.ownBlock = some w.heap.size) (hn : xs'.length = m') (hl : ∀ x ∈ xs', x.length = sz) : Turn w w' S (J5 E sz v' m' xs') := by
 refine ⟨hg.os, hg.tape, hg.output, hg.size, fun b hb hn => hg.block b hb (fun h => hn (hS b h.symm)), fun b => v'.ownBlock = some b, ⟨⟨ho, hn, hl⟩, fun b h => h⟩, fun b hb => ⟨(ho.lt b hb).2, ?_⟩⟩
 rcases h5 with h | h
 ·exact .inl (hS b (h ▸ hb))
 ·rw [h] at hb; cases hb; exact .inr (Nat.le_refl _)
theorem Sat.turnOf {w w' : World} {i : Nat} {C0 C : Chunk} (hS : Sat cx w L) (hF : Fr cx w) (hL : L[i]? = some C0)
  (h : ∀ S : Nat → Prop, C0.P S w → Turn w w' S C) : Fr cx w' ∧ Sat cx w' (L.set i C) := by
 obtain ⟨S, hp, hb⟩ := hS.at hL
 have t := h S hp
 exact ⟨hF.turn t fun b hs => (hb b hs).2, hS.turnAt hF hL (fun S hp _ => h S hp) t.size⟩
theorem flat_get {sz : Nat} : ∀ (xs : List (List Value)), (∀ x ∈ xs, x.length = sz) → ∀ (j : Nat) (u : Value), xs.flatten[j]? = some u → ∃ i k x, xs[i]? = some x ∧ x[k]? = some u ∧ j = i * sz + k
 | [], _, j, u, h => by simp at h
 | x :: r, hl, j, u, h => by
  have hx := hl x (by simp)
  rw [List.flatten_cons] at h
  rcases Nat.lt_or_ge j x.length with hj | hj
  ·rw [List.getElem?_append_left hj] at h
   exact ⟨0, j, x, by simp, h, by simp⟩
  ·rw [List.getElem?_append_right hj] at h
   obtain ⟨i, k, y, h1, h2, h3⟩ := flat_get r (fun y hy => hl y (by simp [hy])) _ u h
   exact ⟨i + 1, k, y, by simpa using h1, h2, by rw [Nat.succ_mul]; omega⟩
theorem Vx {sz : Nat} : ∀ (xs : List (List Value)), (∀ x ∈ xs, x.length = sz) → xs.flatten.length = xs.length * sz
 | [], _ => by simp
 | x :: r, hl => by
  rw [List.flatten_cons, List.length_append, Vx r (fun y hy => hl y (by simp [hy])), hl x (by simp), List.length_cons, Nat.succ_mul]
  omega
theorem turns_append {i : Nat} {S X : Operand} {t E : TypeId} {I : TypeInfo} {z : Value} {sz by_ : Nat} {p : Option Addr × Nat} {m m' : Nat} {xs xs' : List (List Value)} {ad : Addr} {q c : Nat} {news : List (List Value)} {rds : List Nat}
  (ht : P.underlying t = some (.slice E)) (hi : P.info? E = some I) (hz : I.zero = some z) (hsize : I.size = sz) (hby : I.bytes = by_) (hzs : z.cells.size = sz) (hsz : Nat.blt 0 sz = true)
  (hL : L[i]? = some (J5 E sz (.slice p.1 m p.2) m xs)) (hs : ev e S = .slice p.1 m p.2) (hx : ev e X = .slice (some ad) q c) (hq : news.length = q) (hnl : ∀ x ∈ news, x.length = sz)
  (hnews : ∀ w L', Fr cx w → Sat cx w L' → (∀ j, j ∈ rds → L'[j]? = L[j]?) → Row w (some ad) sz news) (h1 : ∀ x ∈ news, ∀ u ∈ x, u.oneCell' = true)
  (hxs : xs ++ news = xs') (hm : m + q = m') (h63 : m' ≤ 9223372036854775807) (hbytes : m' * by_ ≤ 140737488355328) :
  Turns P cx e ⟨some d, .call ⟨.builtin .append, #[S, X], #[t, t]⟩, ty, pos, af, g⟩ L i rds (fun p' : Option Addr × Nat => .slice p'.1 m' p'.2) (fun p' => J5 E sz (.slice p'.1 m' p'.2) m' xs') := fun w L' hF hS hl hi' => by
  subst hxs hm
  have hL' := (hi' i (.inr rfl)).trans hL
  obtain ⟨S0, ⟨⟨ho, hlen, hlx⟩, hob⟩, _⟩ := hS.at hL'
  have hsz' : 0 < sz := by simpa using hsz
  have hfl : news.flatten.length = q * sz := by rw [Vx news hnl, hq]
  have hcell : ∀ j u, news.flatten[j]? = some u → w.cell? (ad.add j) = some u := by
   intro j u hj
   obtain ⟨i', k', x, g1, g2, g3⟩ := flat_get news hnl j u hj
   rcases hnews w L' hF hS (fun j hj => hi' j (.inl hj)) with h | ⟨b, off, ha, h⟩
   ·subst h; simp at g1
   ·cases ha
    have := (h i' x g1).2 k' u g2
    rw [Addr.add_lit, g3, ← Nat.add_assoc]
    exact this
  obtain ⟨v', w', hr, h2, h3, h5⟩ := run_append_at (P := P) (ty := ty) (pos := pos) (af := af) (g := g) (d := some d) ht hi hz hsize hby hzs hsz' hs ho hx hfl hcell (by
   intro u hu
   obtain ⟨x, hx, hux⟩ := List.mem_flatten.1 hu
   exact h1 x hx u hux) (by simp only [maxLen]; omega) hbytes
  obtain ⟨p', rfl⟩ := Jct h2
  rw [← List.flatten_append] at h2
  obtain ⟨hF', hS'⟩ := hS.turnOf hF hL' (C := J5 E sz (.slice p'.1 (m + q) p'.2) (m + q) (xs ++ news)) fun S1 hp => Ug hp.2 h2 h3 h5 (by simp [hlen, hq]) (by
   intro x hx
   rcases List.mem_append.1 hx with h | h
   ·exact hlx x h
   ·exact hnl x h)
  unfold RunsTo
  rw [hr]
  exact ⟨p', rfl, hF', hS'⟩
theorem rep_flat (l : List Value) : ∀ (n j : Nat), j < n * l.length → (List.replicate n l).flatten[j]? = l[j % l.length]?
 | 0, j, h => by simp at h
 | n + 1, j, h => by
  rw [List.replicate_succ, List.flatten_cons]
  rcases Nat.lt_or_ge j l.length with hj | hj
  ·rw [List.getElem?_append_left hj, Nat.mod_eq_of_lt hj]
  ·rw [List.getElem?_append_right hj, rep_flat l n (j - l.length) (by rw [Nat.succ_mul] at h; omega), ← Nat.mod_eq_sub_mod hj]
theorem made_rep (z : Array Value) (n : Nat) (hz : 0 < z.size) : (madeCells z (n * z.size)).toList = (List.replicate n z.toList).flatten := by
 refine List.ext_getElem? fun j => ?_
 rcases Nat.lt_or_ge j (n * z.size) with hj | hj
 ·have h1 := rep_flat z.toList n j (by simpa using hj)
  rw [h1]
  have hm : j % z.size < z.size := Nat.mod_lt _ hz
  simp [madeCells, hj, hm]
 ·rw [List.getElem?_eq_none (by simpa [madeCells] using hj), List.getElem?_eq_none]
  rw [Vx (sz := z.size) _ (by intro x hx; rw [List.eq_of_mem_replicate hx]; simp)]
  simpa using hj
def Za (a : Option Addr) (l m sz : Nat) : Option Addr := if m = l then a else a.map (·.add (l * sz))
theorem Row.cut {w : World} {a : Option Addr} {sz : Nat} {xs : List (List Value)} (h : Row w a sz xs) (l q m : Nat) (hq : l + q ≤ m) : Row w (Za a l m sz) sz ((xs.drop l).take q) := by
 rcases h with h | ⟨b, off, rfl, h⟩
 ·subst h; exact .inl (by simp)
 ·unfold Za
  by_cases hm : m = l
  ·have hq0 : q = 0 := by omega
   subst hq0
   exact .inl (by simp)
  ·rw [if_neg hm]
   refine .inr ⟨b, off + l * sz, by simp [Addr.add_lit], fun i x hx => ?_⟩
   rw [List.getElem?_take] at hx
   split at hx
   ·rw [List.getElem?_drop] at hx
    obtain ⟨h1, h2⟩ := h (l + i) x hx
    refine ⟨h1, fun j v hv => ?_⟩
    have := h2 j v hv
    rw [show off + l * sz + i * sz + j = off + (l + i) * sz + j from by rw [Nat.add_mul]; omega]
    exact this
   ·cases hx
theorem elem_of {t u : TypeId} (hu : P.underlying t = some (.slice u)) : P.elem t = u := by simp [Program.elem, hu]
theorem r_sliceLH {d : Option Nat} {X A B : Operand} {a : Option Addr} {m c : Nat} {t u sz : Nat} {ka kb : IntKind} {l h : Int} (hu : P.underlying t = some (.slice u)) (hs : ∀ w, (sizeOf u).run P w = .ok sz w)
  (hx : ev e X = .slice a m c) (ha : ev e A = .int ka l) (hb : ev e B = .int kb h) (h0 : 0 ≤ l) (h1 : l ≤ h) (h2 : h ≤ c) (w : World) :
  (execOp (ev e) ⟨d, .slice t X (some A) (some B) none, ty, pos, af, g⟩).run P w = .ok (.value (.slice (Za a l.toNat c sz) (h.toNat - l.toNat) (c - l.toNat))) w := by
 have hu' : P.underlying t = some (.slice (P.elem t)) := by rw [elem_of hu]; exact hu
 simp only [execOp, Option.map_some, Option.map_none, hx, ha, hb, Sem.run_bind, run_sliceAt_slice w t _ _ _ _ hu', run_slice_lh w t a m c hu' ka kb l h h0 h1 h2, elem_of hu, hs, Result.andThen_ok, Sem.run_pure, sliced, Za]
theorem r_sliceL {d : Option Nat} {X A : Operand} {a : Option Addr} {m c : Nat} {t u sz : Nat} {ka : IntKind} {l : Int} (hu : P.underlying t = some (.slice u)) (hs : ∀ w, (sizeOf u).run P w = .ok sz w)
  (hx : ev e X = .slice a m c) (ha : ev e A = .int ka l) (h0 : 0 ≤ l) (h1 : l ≤ m) (w : World) :
  (execOp (ev e) ⟨d, .slice t X (some A) none none, ty, pos, af, g⟩).run P w = .ok (.value (.slice (Za a l.toNat c sz) (m - l.toNat) (c - l.toNat))) w := by
 have hu' : P.underlying t = some (.slice (P.elem t)) := by rw [elem_of hu]; exact hu
 simp only [execOp, Option.map_some, Option.map_none, hx, ha, Sem.run_bind, run_sliceAt_slice w t _ _ _ _ hu', run_slice_l w t a m c hu' ka l h0 h1, elem_of hu, hs, Result.andThen_ok, Sem.run_pure, sliced, Za]
theorem r_sliceH {d : Option Nat} {X B : Operand} {a : Option Addr} {m c : Nat} {t u sz : Nat} {kb : IntKind} {h : Int} (hu : P.underlying t = some (.slice u)) (hs : ∀ w, (sizeOf u).run P w = .ok sz w)
  (hx : ev e X = .slice a m c) (hb : ev e B = .int kb h) (h0 : 0 ≤ h) (h2 : h ≤ c) (w : World) :
  (execOp (ev e) ⟨d, .slice t X none (some B) none, ty, pos, af, g⟩).run P w = .ok (.value (.slice (Za a 0 c sz) h.toNat c)) w := by
 have hu' : P.underlying t = some (.slice (P.elem t)) := by rw [elem_of hu]; exact hu
 simp only [execOp, Option.map_some, Option.map_none, hx, hb, Sem.run_bind, run_sliceAt_slice w t _ _ _ _ hu', run_slice_h w t a m c hu' kb h h0 h2, elem_of hu, hs, Result.andThen_ok, Sem.run_pure, sliced, Za, Nat.sub_zero]
theorem r_sliceHM {d : Option Nat} {X B M : Operand} {a : Option Addr} {m c : Nat} {t u sz : Nat} {kb km : IntKind} {h q : Int} (hu : P.underlying t = some (.slice u)) (hs : ∀ w, (sizeOf u).run P w = .ok sz w)
  (hx : ev e X = .slice a m c) (hb : ev e B = .int kb h) (hm : ev e M = .int km q) (h0 : 0 ≤ h) (h1 : h ≤ q) (h2 : q ≤ c) (w : World) :
  (execOp (ev e) ⟨d, .slice t X none (some B) (some M), ty, pos, af, g⟩).run P w = .ok (.value (.slice (Za a 0 q.toNat sz) h.toNat q.toNat)) w := by
 have hu' : P.underlying t = some (.slice (P.elem t)) := by rw [elem_of hu]; exact hu
 simp only [execOp, Option.map_some, Option.map_none, hx, hb, hm, Sem.run_bind, run_sliceAt_slice w t _ _ _ _ hu', run_slice_hm w t a m c hu' kb km h q h0 h1 h2, elem_of hu, hs, Result.andThen_ok, Sem.run_pure, sliced, Za, Nat.sub_zero]
theorem turns_appendM {α : Type} {f : α → List Value} {ys ls : List α} {i k b : Nat} {S X : Operand} {t E T : TypeId} {I : TypeInfo} {z : Value} {sz by_ : Nat} {p : Option Addr × Nat} {m q : Nat} {cs : List Value} {xs : List (List Value)}
  (ht : P.underlying t = some (.slice E)) (hi : P.info? E = some I) (hz : I.zero = some z) (hsize : I.size = sz) (hby : I.bytes = by_) (hzs : z.cells.size = sz) (hsz : Nat.blt 0 sz = true)
  (hL : L[i]? = some (J5 E sz (.slice p.1 m p.2) m xs)) (hxs : xs = ys.map f) (hm : m = ys.length) (hs : ev e S = .slice p.1 m p.2) (hx : ev e X = .slice (some ⟨b, 0, none⟩) q q) (hk : L[k]? = some (Q1 b cs T)) (hcs : (ls.map f).flatten = cs) (hq : (ls.map f).length = q)
  (hnl : ((ls.map f).all fun x => Nat.beq x.length sz) = true) (h1 : ((ls.map f).all fun x => x.all Value.oneCell') = true) (h63 : (ys ++ ls).length * by_ ≤ 140737488355328) (hb0 : Nat.blt 0 by_ = true) :
  Turns P cx e ⟨some d, .call ⟨.builtin .append, #[S, X], #[t, t]⟩, ty, pos, af, g⟩ L i [k] (fun p' : Option Addr × Nat => .slice p'.1 (ys ++ ls).length p'.2) (fun p' => J5 E sz (.slice p'.1 (ys ++ ls).length p'.2) (ys ++ ls).length ((ys ++ ls).map f)) := by
 subst hxs hm
 exact turns_append ht hi hz hsize hby hzs hsz hL hs hx hq (fun x hx => by simpa using List.all_eq_true.1 hnl x hx) (fun w L' hF hS hj => row_box hS ((hj k (by simp)).trans hk) hcs hnl)
  (fun x hx u hu => List.all_eq_true.1 (List.all_eq_true.1 h1 x hx) u hu) (List.map_append (f := f) (l₁ := ys) (l₂ := ls)).symm (by rw [List.length_append, ← hq, List.length_map]) (by
   have hb : 1 ≤ by_ := by have : 0 < by_ := by simpa using hb0
                           omega
   have : (ys ++ ls).length * 1 ≤ (ys ++ ls).length * by_ := Nat.mul_le_mul_left _ hb
   omega) h63
theorem capOf {w : World} {i E sz n c : Nat} {a : Option Addr} {xs : List (List Value)} (hS : Sat cx w L) (hL : L[i]? = some (J5 E sz (.slice a n c) n xs)) : n ≤ c := by
 obtain ⟨S, ⟨⟨h1, h2, h3⟩, _⟩, _⟩ := hS.at hL
 rcases h1.2 with ⟨hv, h0⟩ | ⟨g, cap, cur, hv, _, hh, hnc, _⟩
 ·simp only [Value.slice.injEq] at hv; omega
 ·simp only [Value.slice.injEq] at hv; omega
theorem own_cut {a : Option Addr} {m c l : Nat} (sz : Nat) {x y : Nat} : (Value.slice (Za a l m sz) x c).ownBlock = (Value.slice a y c).ownBlock := by
 unfold Za
 cases a with
 | none => split <;> rfl
 | some a =>
  split
  ·rfl
  ·simp only [Value.ownBlock, Option.map_some, Addr.add]
   split <;> rfl
theorem imp_box {b m sz : Nat} {cs : List Value} {T E : TypeId} {xs : List (List Value)} (hT : T = E) (hcs : xs.flatten = cs) (hl : (xs.all fun x => Nat.beq x.length sz) = true) (hm : xs.length = m ∧ m ≤ 9223372036854775807) :
  Imp (Q1 b cs T) (J5 E sz (.slice (some ⟨b, 0, none⟩) m m) m xs) := ⟨fun S w h => by
 subst hT hcs
 have hl' : ∀ x ∈ xs, x.length = sz := fun x hx => by simpa using List.all_eq_true.1 hl x hx
 have hf := Vx xs hl'
 refine ⟨⟨⟨by rw [hf, hm.1], .inr ⟨b, m, _, rfl, Nat.zero_le _, h.2, Nat.le_refl _, by simpa [maxLen] using hm.2, by simp [hf, hm.1], ?_⟩⟩, hm.1, hl'⟩, fun c hc => ?_⟩
 ·rw [List.toList_toArray, List.take_of_length_le (by rw [hf, hm.1]; omega)]
 ·simp [Value.ownBlock] at hc; exact (h.1 c).2 hc.symm⟩
end rules
end Go.Vc

/- Stores into rows, strings. Conditions: those that each rule names. -/
namespace Go.Vc
open Go
section rules
variable {P : Program} {n : Nat} {cx : Cx} {Q : Post} {e : Zk} {L : List Chunk} {ops : Array Oper} {F : Zk → List Chunk → Prop} {rest : List Oper} {ss : List Kd}
variable {d : Nat} {ty : TypeId} {pos : String} {af : Array Edge} {g : Option (Nat × Bool)}
theorem flatten_set {sz : Nat} : ∀ (xs : List (List Value)) (i : Nat) (x : List Value), (∀ x ∈ xs, x.length = sz) → i < xs.length → (xs.set i x).flatten = xs.flatten.take (i * sz) ++ x ++ xs.flatten.drop ((i + 1) * sz)
 | [], i, x, _, h => by simp at h
 | y :: r, 0, x, hl, _ => by
  have hy := hl y (by simp)
  simp [hy.symm]
 | y :: r, i + 1, x, hl, h => by
  have hy := hl y (by simp)
  have ih := flatten_set r i x (fun z hz => hl z (by simp [hz])) (by simpa using h)
  have e1 : (y ++ r.flatten).take ((i + 1) * sz) = y ++ r.flatten.take (i * sz) := by
   rw [List.take_append, List.take_of_length_le (l := y) (by rw [Nat.succ_mul]; omega), show (i + 1) * sz - y.length = i * sz from by rw [Nat.succ_mul]; omega]
  have e2 : (y ++ r.flatten).drop ((i + 1 + 1) * sz) = r.flatten.drop ((i + 1) * sz) := by
   rw [List.drop_append, List.drop_of_length_le (l := y) (by rw [Nat.succ_mul]; omega), show (i + 1 + 1) * sz - y.length = (i + 1) * sz from by rw [Nat.succ_mul (i + 1)]; omega, List.nil_append]
  rw [List.set_cons_succ, List.flatten_cons, ih, List.flatten_cons, e1, e2]
  simp
theorem flat_at {sz : Nat} (xs : List (List Value)) (i : Nat) (x : List Value) (hl : ∀ x ∈ xs, x.length = sz) (hx : xs[i]? = some x) : x = (xs.flatten.drop (i * sz)).take sz := by
 have hxl := hl x (List.mem_of_getElem? hx)
 refine List.ext_getElem? fun j => ?_
 rcases Nat.lt_or_ge j x.length with hj | hj
 ·have := row_get xs i x (List.all_eq_true.2 fun y hy => by simpa using hl y hy) hx j x[j] (by simp [hj])
  rw [List.getElem?_take, if_pos (by omega), List.getElem?_drop, this]
  simp [hj]
 ·rw [List.getElem?_eq_none hj, List.getElem?_take, if_neg (by omega)]
theorem set_cells {sz m i j : Nat} {cur vs : List Value} {xs : List (List Value)} {x x' : List Value} (hl : ∀ x ∈ xs, x.length = sz) (ht : cur.take (m * sz) = xs.flatten) (hm : xs.length = m) (hx : xs[i]? = some x) (hc : m * sz ≤ cur.length)
  (h1 : j + vs.length ≤ x.length) (h2 : x' = x.take j ++ vs ++ x.drop (j + vs.length)) :
  (cur.take (i * sz + j) ++ vs ++ cur.drop (i * sz + j + vs.length)).take (m * sz) = (xs.set i x').flatten := by
 have hi : i < xs.length := by
  rcases Nat.lt_or_ge i xs.length with h | h
  ·exact h
  ·simp [List.getElem?_eq_none h] at hx
 have hxl := hl x (List.mem_of_getElem? hx)
 have hle : (i + 1) * sz ≤ m * sz := Nat.mul_le_mul_right _ (by omega)
 rw [Nat.succ_mul] at hle
 have hfx := flat_at xs i x hl hx
 rw [flatten_set xs i x' hl hi, h2, ← ht]
 rw [← ht] at hfx
 have hTl : (cur.take (m * sz)).length = m * sz := by simp; omega
 generalize hT : cur.take (m * sz) = T at *
 have hcur : cur = T ++ cur.drop (m * sz) := by rw [← hT, List.take_append_drop]
 have hTs : T = T.take (i * sz) ++ (x ++ T.drop ((i + 1) * sz)) := by
  conv => lhs; rw [← List.take_append_drop (i * sz) T]
  rw [hfx]
  congr 1
  rw [Nat.succ_mul, ← List.drop_drop, List.take_append_drop]
 have e1 : cur.take (i * sz + j) = T.take (i * sz) ++ x.take j := by
  rw [hcur, List.take_append_of_le_length (by omega)]
  conv => lhs; rw [hTs]
  rw [List.take_append, List.take_of_length_le (by simp; omega), List.length_take, Nat.min_eq_left (by omega), Nat.add_sub_cancel_left, List.take_append_of_le_length (by omega)]
 have e2 : cur.drop (i * sz + j + vs.length) = x.drop (j + vs.length) ++ (T.drop ((i + 1) * sz) ++ cur.drop (m * sz)) := by
  conv => lhs; rw [hcur, List.drop_append_of_le_length (by omega), hTs]
  rw [List.drop_append, List.drop_of_length_le (l := T.take (i * sz)) (by simp; omega), List.length_take, Nat.min_eq_left (by omega), Nat.add_assoc, Nat.add_sub_cancel_left, List.nil_append, List.drop_append_of_le_length (by omega)]
  simp
 rw [e1, e2]
 have e3 : T.take (i * sz) ++ List.take j x ++ vs ++ (List.drop (j + vs.length) x ++ (List.drop ((i + 1) * sz) T ++ List.drop (m * sz) cur)) = (T.take (i * sz) ++ (x.take j ++ vs ++ x.drop (j + vs.length)) ++ T.drop ((i + 1) * sz)) ++ cur.drop (m * sz) := by simp
 rw [e3, List.take_append_of_le_length, List.take_of_length_le]
 ·simp only [List.length_append, List.length_take, List.length_drop]; rw [Nat.succ_mul]; omega
 ·simp only [List.length_append, List.length_take, List.length_drop]; rw [Nat.succ_mul]; omega
theorem run_storeR {T i j sz szT k m c : Nat} {A X : Operand} {x : Value} {a : Option Addr} {y y' vs : List Value} {xs : List (List Value)} {E : TypeId} {w : World} (hs : ∀ w, (sizeOf T).run P w = .ok szT w) (hp : ev e A = Zn a k) (hk : k = i * sz + j) (hx : ev e X = x) (hc : x.cells.toList = vs) (hsz : vs.length = szT)
  (hpos : Nat.blt 0 szT = true) (hone : vs.all Value.oneCell' = true) (hy : xs[i]? = some y) (hv : wr y j vs = some y') (ho : w.ownsRow 0 E sz (.slice a m c) m xs.flatten) (hm : xs.length = m) (hl : ∀ x ∈ xs, x.length = sz) :
  ∃ w', (execOp (ev e) ⟨none, .store T A X, ty, pos, af, g⟩).run P w = .ok .skip w' ∧ w'.ownsRow 0 E sz (.slice a m c) m (xs.set i y').flatten ∧ w.grownBy w' (Value.slice a m c).ownBlock := by
 have hpos' : 0 < vs.length := by rw [hsz]; simpa using hpos
 obtain ⟨h1, h2⟩ := wr_eq hv hpos'
 have hi : i < xs.length := by
  rcases Nat.lt_or_ge i xs.length with h | h
  ·exact h
  ·simp [List.getElem?_eq_none h] at hy
 rcases ho.2 with ⟨_, h0⟩ | ⟨g0, cap, cur, hv0, hb0, hh, hnc, hcm, hcs, htk⟩
 ·omega
 ·simp only [Value.slice.injEq] at hv0
  obtain ⟨rfl, _, rfl⟩ := hv0
  have hyl := hl y (List.mem_of_getElem? hy)
  have hcap : m * sz ≤ c * sz := Nat.mul_le_mul_right _ hnc
  have hle : (i + 1) * sz ≤ m * sz := Nat.mul_le_mul_right _ (by omega)
  rw [Nat.succ_mul] at hle
  have hst := run_storeCells_at P g0 k E vs 0 cur w hh (by rw [hk]; omega) (by simpa using hone)
  have hsz' : x.cells.size = szT := by rw [← hsz, ← hc]; simp
  have hp' : ev e A = .pointer (some ⟨g0, k, none⟩) := by rw [hp]; simp [Zn]
  simp only [Nat.add_zero] at hst
  refine ⟨w.setRow g0 (cur.toList.take k ++ vs ++ cur.toList.drop (k + vs.length)).toArray, by
   simp only [execOp, Instr.storeAt, Instr.sureAddr, storeVar, hp', hx, Sem.run_bind, Sem.run_pure, Result.andThen_ok, hs, hsz', ne_eq, not_true_eq_false, if_false, hc, hst], ⟨?_, .inr ⟨g0, c, _, rfl, hb0, setRow_heap w g0 cur _ E _ hh, hnc, hcm, ?_, ?_⟩⟩, ⟨rfl, rfl, rfl, by simp, fun b _ hb => setRow_other w g0 b _ (fun e => hb (by simp [Value.ownBlock, e]))⟩⟩
  ·rw [Vx (sz := sz) _ (by
    intro z hz
    rcases List.mem_or_eq_of_mem_set hz with h | h
    ·exact hl z h
    ·subst h; rw [h2]; simp only [List.length_append, List.length_take, List.length_drop]; omega)]
   simp [hm]
  ·simp only [List.size_toArray, List.length_append, List.length_take, List.length_drop, Array.length_toList, hcs]
   rw [hk]; omega
  ·rw [List.toList_toArray, hk]
   exact set_cells hl htk hm hy (by simpa [hcs] using hcap) h1 h2
theorem l_storeR {q T i j sz szT k m c : Nat} {A X : Operand} {x : Value} {a : Option Addr} {y y' vs : List Value} {xs xs' : List (List Value)} {E : TypeId} (hs : ∀ w, (sizeOf T).run P w = .ok szT w)
  (hw : Zu ops ⟨none, .store T A X, ty, pos, af, g⟩ e = true) (hp : ev e A = Zn a k) (hk : k = i * sz + j) (hx : ev e X = x) (hc : x.cells.toList = vs) (hsz : vs.length = szT)
  (hpos : Nat.blt 0 szT = true) (hone : vs.all Value.oneCell' = true) (hL : L[q]? = some (J5 E sz (.slice a m c) m xs)) (hy : xs[i]? = some y) (hv : wr y j vs = some y') (hxs : xs.set i y' = xs')
  (k' : At cx (WL P n ops Q rest) e (L.set q (J5 E sz (.slice a m c) m xs'))) : At cx (WL P n ops Q (⟨none, .store T A X, ty, pos, af, g⟩ :: rest)) e L :=
 l_acts hw rfl fun w hF hS => by
  obtain ⟨S0, ⟨⟨ho, hlen, hlx⟩, hob⟩, _⟩ := hS.at hL
  obtain ⟨w', hr, h2, h3⟩ := run_storeR (P := P) (ty := ty) (pos := pos) (af := af) (g := g) hs hp hk hx hc hsz hpos hone hy hv ho hlen hlx
  subst hxs
  have hpos' : 0 < vs.length := by rw [hsz]; simpa using hpos
  obtain ⟨g1, g2⟩ := wr_eq hv hpos'
  obtain ⟨hF', hS'⟩ := hS.turnOf hF hL (C := J5 E sz (.slice a m c) m (xs.set i y')) fun S1 hp => Ug hp.2 h2 h3 (.inl rfl) (by simp [hlen]) (by
   intro z hz
   rcases List.mem_or_eq_of_mem_set hz with h | h
   ·exact hlx z h
   ·subst h; rw [g2]; have := hlx y (List.mem_of_getElem? hy); simp only [List.length_append, List.length_take, List.length_drop]; omega)
  exact ⟨w', hr, k'.out w' hF' hS'⟩
theorem We {T : TypeId} {I : TypeInfo} (h : ∀ w, (typeInfo T).run P w = .ok I w) : P.info? T = some I := by
 have := h default
 unfold typeInfo at this
 cases hi : P.info? T with
 | none => simp [hi] at this
 | some J => simp [hi] at this; rw [this]
theorem r_indexA {d : Option Nat} {t u len sz : Nat} {X I : Operand} {cs : Array Value} {k : IntKind} {i : Int} {v : Value} (hu : ∀ w, (underlying t).run P w = .ok (.array len u) w) (hA : ∀ w, (isAgg u).run P w = .ok false w) (hs : ∀ w, (sizeOf u).run P w = .ok sz w)
  (hx : ev e X = .agg cs) (hi : ev e I = .int k i) (h0 : 0 ≤ i) (h1 : i < len) (hv : cs[i.toNat * sz]? = some v) (w : World) :
  (execOp (ev e) ⟨d, .index t X I, ty, pos, af, g⟩).run P w = .ok (.value v) w := by
 simp [execOp, Instr.index, asIntOf, hx, hi, hu, hs, h0, h1, part, hA, hv]
theorem r_indexPA {d : Option Nat} {t u len sz b o : Nat} {X I : Operand} {k : IntKind} {i : Int} (hu : ∀ w, (underlying t).run P w = .ok (.array len u) w) (hs : ∀ w, (sizeOf u).run P w = .ok sz w)
  (hx : ev e X = .pointer (some ⟨b, o, none⟩)) (hi : ev e I = .int k i) (h0 : 0 ≤ i) (h1 : i < len) (w : World) :
  (execOp (ev e) ⟨d, .indexAddr t X I, ty, pos, af, g⟩).run P w = .ok (.value (.pointer (some ⟨b, o + i.toNat * sz, none⟩))) w := by
 simp [execOp, Instr.indexAt, Instr.sureAddr, hx, hi, asIntOf, hu, h0, h1, hs, Addr.add_lit]
abbrev Xt (s : List UInt8) : Value := .string ⟨s.toArray⟩
theorem r_lenT {d : Option Nat} {X : Operand} {s : List UInt8} {t : TypeId} (hu : P.underlying t = some .string) (hx : ev e X = Xt s) (w : World) :
  (execOp (ev e) ⟨d, .call ⟨.builtin .len, #[X], #[t]⟩, ty, pos, af, g⟩).run P w = .ok (.value (.int .i64 s.length)) w := by
 rw [r_lenS hu hx]; rfl
theorem r_eqlT {d : Option Nat} {t t' : TypeId} {X Y : Operand} {a b : List UInt8} (hx : ev e X = Xt a) (hy : ev e Y = Xt b) (w : World) :
  (execOp (ev e) ⟨d, .binOp .eql t X Y t', ty, pos, af, g⟩).run P w = .ok (.value (.bool (decide (a = b)))) w := by
 have : (a == b) = decide (a = b) := by rw [Bool.eq_iff_iff]; simp
 simp [execOp, hx, hy, eqGuard, binOp_string_eql, this]
theorem r_indexT {d : Option Nat} {t : TypeId} {X I : Operand} {s : List UInt8} {k : IntKind} {i : Int} (hu : P.underlying t = some .string) (hx : ev e X = Xt s) (hi : ev e I = .int k i) (h0 : 0 ≤ i) (h1 : i < s.length) (w : World) :
  (execOp (ev e) ⟨d, .index t X I, ty, pos, af, g⟩).run P w = .ok (.value (.int .u8 ((s.getD i.toNat 0).toNat : Nat))) w := by
 have hlt : i.toNat < s.length := by omega
 have h : (0 ≤ i ∧ i < ((ByteArray.mk s.toArray).size : Nat)) := ⟨h0, by simpa [ByteArray.size] using h1⟩
 simp only [execOp, hx, hi, Sem.run_bind, run_index_string w t _ k i hu, dif_pos h, Result.andThen_ok, Sem.run_pure]
 have : (ByteArray.mk s.toArray)[i.toNat]'(by simpa [ByteArray.size] using hlt) = s.getD i.toNat 0 := by
  rw [List.getD_eq_getElem?_getD, List.getElem?_eq_getElem hlt]; rfl
 rw [this]
end rules
end Go.Vc
