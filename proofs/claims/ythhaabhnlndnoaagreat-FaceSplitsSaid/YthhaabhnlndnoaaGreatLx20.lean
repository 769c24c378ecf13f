/- Rules: results that are pointers, nil or to new memory. Conditions: none. -/
import Derived.Test.YthhaabhnlndnoaaGreatLx19
namespace Go.Lx
open Go Go.Vc Go.Md

/-- A pointer that is nil where there is nothing. -/
def optP {α : Type} (o : Option α) (b : Nat) : Value := match o with | none => .pointer none | some _ => .pointer (some ⟨b, 0, none⟩)
def optC {α : Type} (o : Option α) (C : α → Chunk) : Chunk := match o with | none => empC | some a => C a
/-- What a pointer points to, with the pointer. -/
def obxC {α : Type} (pv : Value) (o : Option α) (b : Nat) (C : α → Chunk) : Chunk where
  P S w := (optC o C).P S w ∧ pv = optP o b
  loc S w w' h := fun ⟨h1, h2⟩ => ⟨(optC o C).loc S w w' h h1, h2⟩

theorem imp_obx {α : Type} {b : Nat} {z : α} (C : α → Chunk) : Imp (C z) (obxC (.pointer (some ⟨b, 0, none⟩)) (some z) b C) := ⟨fun _ _ h => ⟨h, rfl⟩⟩
theorem imp_obxNil {α : Type} {b : Nat} (C : α → Chunk) : Imp empC (obxC (.pointer none) (none : Option α) b C) := ⟨fun _ _ h => ⟨h, rfl⟩⟩

section rules
variable {cx : Cx} {K : Env → World → Prop} {e : Env} {L : List Chunk}
theorem c_emp (k : At cx K e (L ++ [empC])) : At cx K e L := ⟨fun w hF hS => k.out w hF (hS.emp hF)⟩

theorem c_obx {α : Type} {pv : Value} {o : Option α} {b : Nat} {C : α → Chunk} {z : α} (i : Nat) (hL : L[i]? = some (obxC pv o b C)) (ho : o = some z) (k : pv = .pointer (some ⟨b, 0, none⟩) → At cx K e (L.set i (C z))) : At cx K e L := by
  subst ho
  refine c_know (φ := pv = .pointer (some ⟨b, 0, none⟩)) (fun w hF hS => ?_) fun h => c_imp i hL ⟨fun S w hp => hp.1⟩ (k h)
  obtain ⟨S, hp, _⟩ := hS.at hL
  exact hp.2
end rules

section ops
variable {P : Program} {cx : Cx} {e : Env} {L : List Chunk} {d : Option Nat} {ty : TypeId} {pos : String} {af : Array Edge} {g : Option (Nat × Bool)}

theorem eq_nilP {a : Option Addr} {t u : TypeId} (ht : P.underlying t = some (.pointer u)) (n : Nat) (w : World) : (Op.equalIn (n + 1) t (.pointer a) (.pointer none)).run P w = .ok a.isNone w := by
  cases a <;> simp [Op.equalIn, run_underlying ht]

theorem run_eqlOpt {α : Type} {pv : Value} {o : Option α} {b i : Nat} {C : α → Chunk} {X Y : Operand} {t t' u : TypeId} {w : World} (ht : P.underlying t = some (.pointer u)) (hx : ev e X = pv) (hy : ev e Y = .pointer none) (hS : Sat cx w L) (hL : L[i]? = some (obxC pv o b C)) :
    (execOp (ev e) ⟨d, .binOp .eql t X Y t', ty, pos, af, g⟩).run P w = .ok (.value (.bool o.isNone)) w := by
  obtain ⟨S, ⟨_, hp⟩, _⟩ := hS.at hL
  subst hp
  cases o with
  | none =>
    have h0 := eq_nilP (P := P) (a := none) ht 9999 w
    simp [execOp, hx, hy, optP, eqGuard, binOp, Op.equal, Op.maxDepth, h0]
  | some z =>
    have h0 := eq_nilP (P := P) (a := some ⟨b, 0, none⟩) ht 9999 w
    simp [execOp, hx, hy, optP, eqGuard, binOp, Op.equal, Op.maxDepth, h0]
theorem run_neqOpt {α : Type} {pv : Value} {o : Option α} {b i : Nat} {C : α → Chunk} {X Y : Operand} {t t' u : TypeId} {w : World} (ht : P.underlying t = some (.pointer u)) (hx : ev e X = pv) (hy : ev e Y = .pointer none) (hS : Sat cx w L) (hL : L[i]? = some (obxC pv o b C)) :
    (execOp (ev e) ⟨d, .binOp .neq t X Y t', ty, pos, af, g⟩).run P w = .ok (.value (.bool o.isSome)) w := by
  obtain ⟨S, ⟨_, hp⟩, _⟩ := hS.at hL
  subst hp
  cases o with
  | none =>
    have h0 := eq_nilP (P := P) (a := none) ht 9999 w
    simp [execOp, hx, hy, optP, eqGuard, binOp, Op.equal, Op.maxDepth, h0]
  | some z =>
    have h0 := eq_nilP (P := P) (a := some ⟨b, 0, none⟩) ht 9999 w
    simp [execOp, hx, hy, optP, eqGuard, binOp, Op.equal, Op.maxDepth, h0]
end ops

/-! ### new boxes of values that the region itself makes -/

def _root_.Go.Vc.Kd.nv (q i : Nat) (cs : Value → List Value) (T : TypeId) : Kd := .g [q] [] [i] (fun _ _ v => isPtr v) (fun vs _ v => [boxOf v (cs (vs.headD undef)) T])

section rules
variable {P : Program} {cx : Cx} {ops : Array Oper} {F : Env → List Chunk → Prop} {rest : List Oper} {ss : List Kd} {e : Env} {L : List Chunk} {d : Nat}
theorem d_newV {o : Oper} {i q : Nat} {T : TypeId} {x : Value} {cs : Value → List Value} {cs0 : List Value} (hw : want ops o e = true) (hd : o.dst = some d) (hx : e q = x) (hcs : cs x = cs0)
    (hr : ∀ w, (execOp (ev e) o).run P w = .ok (.value (.pointer (some ⟨w.heap.size, 0, none⟩))) (w.alloc (.cells cs0.toArray T))) (hL : L[i]? = some empC)
    (k : ∀ b, Sq P cx ops F rest ss (upd e d (.pointer (some ⟨b, 0, none⟩))) (L.set i (cellsC b cs0 T))) : Sq P cx ops F (o :: rest) (.nv q i cs T :: ss) e L := by
  have hh : cs (([q].map e).headD undef) = cs0 := by show cs (e q) = cs0; rw [hx, hcs]
  refine .take hw ⟨.pointer (some ⟨0, 0, none⟩), 0, rfl⟩ ⟨fun w L' hF hS _ hi => ?_⟩ fun v' hv' => ?_
  · unfold RunsTo
    rw [hr]
    refine ⟨⟨_, rfl⟩, hF.grow (grow_alloc w _), ?_⟩
    show Sat cx _ (L'.set i (boxOf _ (cs (([q].map e).headD undef)) T))
    rw [hh]
    refine hS.set hF ((hi i (.inr (by simp [Kd.nv, Kd.wrs]))).trans hL) (by simp) fun S _ hSo => ⟨fun x => x = w.heap.size, ⟨fun _ => Iff.rfl, heap_alloc_new w _⟩, fun b hb => ?_, fun b hb _ => heap_alloc_old w _ b hb⟩
    subst hb
    exact ⟨by simp, .inr (Nat.le_refl _)⟩
  · obtain ⟨b, rfl⟩ : ∃ b, v' = .pointer (some ⟨b, 0, none⟩) := hv'
    rw [hd]
    show Sq P cx ops F rest ss _ (L.set i (boxOf _ (cs (([q].map e).headD undef)) T))
    rw [hh]
    exact k b
end rules
end Go.Lx
