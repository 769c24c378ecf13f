/- Rules: values that are functions: what is known of one, the call of one, and the making of one; boxes that a closure knows of. Conditions: none. -/
import Derived.Test.YthhaabhnlndnoaaGreatLx3
namespace Go.Lx
open Go Go.Vc Go.Md

/-- What is known of a value that is a function: with the arguments and the post that R names, a call of it meets that post. -/
structure FnH (P : Program) (h : Heap) (v : Value) (R : World → List Value → (Value → World → Prop) → Prop) : Prop where
  out : ∃ (f : FuncId) (pre caps : Array Value), v = .func (.func f) pre caps ∧ (∀ args w, (callFunc f args).run P w = .ok (.enter f args) w) ∧
    ∀ args post w, Know h w noS → R w args post → Does P f (pre.toList ++ (args ++ caps.toList)).toArray w post

theorem FnH.mono {P : Program} {h h' : Heap} {v : Value} {R : World → List Value → (Value → World → Prop) → Prop} (f : FnH P h v R) (k : ∀ b o, h b = some o → h' b = some o) : FnH P h' v R := by
  obtain ⟨g, pre, caps, h1, h2, h3⟩ := f.out
  exact ⟨g, pre, caps, h1, h2, fun args r w hw hR => h3 args r w (fun b o hb => hw b o (k b o hb)) hR⟩

/-- Such values fill one cell. -/
theorem FnH.cells {P : Program} {h : Heap} {v : Value} {R : World → List Value → (Value → World → Prop) → Prop} (f : FnH P h v R) : v.cells.toList = [v] := by
  obtain ⟨g, pre, caps, rfl, _⟩ := f.out; rfl
theorem FnH.one {P : Program} {h : Heap} {v : Value} {R : World → List Value → (Value → World → Prop) → Prop} (f : FnH P h v R) : v.oneCell' = true := by
  obtain ⟨g, pre, caps, rfl, _⟩ := f.out; rfl
theorem FrS.cells {h : Heap} {sz : Nat} {v : Value} {xs : List (List Value)} (f : FrS h sz v xs) : v.cells.toList = [v] := by
  obtain ⟨a, c, rfl, _⟩ := f.out; rfl
theorem FrS.one {h : Heap} {sz : Nat} {v : Value} {xs : List (List Value)} (f : FrS h sz v xs) : v.oneCell' = true := by
  obtain ⟨a, c, rfl, _⟩ := f.out; rfl

/-- What was known stays known. -/
theorem Know.up {h : Heap} {w : World} {S : Nat → Prop} (k : Know h w S) : ∀ b o, h b = some o → w.heap[b]? = some o := fun b o hb => (k b o hb).1

section rules
variable {P : Program} {n : Nat} {cx : Cx} {e : Env} {L : List Chunk} {ops : Array Oper} {rest : List Oper} {Q : Post} {F : Env → List Chunk → Prop} {ss : List Kd} {d : Nat} {ty : TypeId} {pos : String} {af : Array Edge} {g : Option (Nat × Bool)}

theorem run_callV {f : FuncId} {X : Operand} {A : Array Operand} {tys : Array TypeId} {args : List Value} {caps : Array Value} (hc : ∀ args w, (callFunc f args).run P w = .ok (.enter f args) w) (hX : ev e X = .func (.func f) #[] caps) (ha : A.toList.map (ev e) = args) (w : World) :
    (execOp (ev e) ⟨some d, .call ⟨.value X, A, tys⟩, ty, pos, af, g⟩).run P w = .ok (.enter f (args ++ caps.toList).toArray) w := by
  subst ha
  have : (A.toList.map (ev e) ++ caps.toList).toArray = A.map (ev e) ++ caps := by
    apply Array.ext'
    simp
  rw [this]
  simp only [execOp, resolve, hX, Deferred.ofValue, Sem.run_bind, Sem.run_pure, Result.andThen_ok, invoke, hc, Array.empty_append]

theorem run_callVP {f : FuncId} {X : Operand} {A : Array Operand} {tys : Array TypeId} {args : List Value} {pre caps : Array Value} (hc : ∀ args w, (callFunc f args).run P w = .ok (.enter f args) w) (hX : ev e X = .func (.func f) pre caps) (ha : A.toList.map (ev e) = args) (w : World) :
    (execOp (ev e) ⟨some d, .call ⟨.value X, A, tys⟩, ty, pos, af, g⟩).run P w = .ok (.enter f (pre.toList ++ (args ++ caps.toList)).toArray) w := by
  subst ha
  have : (pre.toList ++ (A.toList.map (ev e) ++ caps.toList)).toArray = pre ++ A.map (ev e) ++ caps := by
    apply Array.ext'
    simp
  rw [this]
  simp only [execOp, resolve, hX, Deferred.ofValue, Sem.run_bind, Sem.run_pure, Result.andThen_ok, invoke, hc]

theorem runs_callV {X : Operand} {A : Array Operand} {tys : Array TypeId} {args : List Value} {v : Value} {h : Heap} {R : World → List Value → (Value → World → Prop) → Prop} {post : Value → World → Prop} {w : World} (hf : FnH P h v R) (hk : Know h w noS) (hR : R w args post) (hX : ev e X = v) (ha : A.toList.map (ev e) = args) :
    RunsTo P (ev e) ⟨some d, .call ⟨.value X, A, tys⟩, ty, pos, af, g⟩ w post := by
  obtain ⟨f, pre, caps, rfl, hc, hd⟩ := hf.out
  unfold RunsTo
  rw [run_callVP hc hX ha]
  exact hd args post w hk hR

/-- The call of a value that is a function. -/
theorem l_callV {X : Operand} {A : Array Operand} {tys : Array TypeId} {args : List Value} {v r : Value} {R : World → List Value → (Value → World → Prop) → Prop} (hf : ∀ w, Fr cx w → Sat cx w L → FnH P (fun b => w.heap[b]?) v R ∧ R w args (fun v' w' => v' = r ∧ Grow w w')) (hX : ev e X = v)
    (hw : want ops ⟨some d, .call ⟨.value X, A, tys⟩, ty, pos, af, g⟩ e = true) (hn : Nat.blt d n = true) (ha : A.toList.map (ev e) = args)
    (k : At cx (WL P n ops Q rest) (upd e d r) L) : At cx (WL P n ops Q (⟨some d, .call ⟨.value X, A, tys⟩, ty, pos, af, g⟩ :: rest)) e L :=
  l_runs hw rfl hn fun w hF hS => (runs_callV (hf w hF hS).1 (know_all w) (hf w hF hS).2 hX ha).mono fun v' w' ⟨hv, hg⟩ => by
    subst hv
    exact k.out w' (hF.grow hg) (hS.grow hg)

theorem d_callV {X : Operand} {A : Array Operand} {tys : Array TypeId} {args : List Value} {v r : Value} {rds : List Nat} {R : World → List Value → (Value → World → Prop) → Prop} (hf : ∀ w L', Fr cx w → Sat cx w L' → (∀ i ∈ rds, L'[i]? = L[i]?) → FnH P (fun b => w.heap[b]?) v R ∧ R w args (fun v' w' => v' = r ∧ Grow w w')) (hX : ev e X = v)
    (hw : want ops ⟨some d, .call ⟨.value X, A, tys⟩, ty, pos, af, g⟩ e = true) (ha : A.toList.map (ev e) = args)
    (k : Sq P cx ops F rest ss (upd e d r) L) : Sq P cx ops F (⟨some d, .call ⟨.value X, A, tys⟩, ty, pos, af, g⟩ :: rest) (.d rds r :: ss) e L :=
  d_det hw rfl (fun w L' hF hS hi => runs_callV (hf w L' hF hS hi).1 (know_all w) (hf w L' hF hS hi).2 hX ha) k

/-- The call of a value that is a function and hands new memory back. -/
theorem makes_callV {σ : Type} {X : Operand} {A : Array Operand} {tys : Array TypeId} {args : List Value} {v : Value} {rds : List Nat} {G : σ → Value} {C : σ → Chunk} {R : World → List Value → (Value → World → Prop) → Prop}
    (hf : ∀ w L', Fr cx w → Sat cx w L' → (∀ j ∈ rds, L'[j]? = L[j]?) → FnH P (fun b => w.heap[b]?) v R ∧ R w args (fun v w' => ∃ x, v = G x ∧ Turn w w' noS (C x))) (hX : ev e X = v)
    (ha : A.toList.map (ev e) = args) : Makes P cx e ⟨some d, .call ⟨.value X, A, tys⟩, ty, pos, af, g⟩ L rds G C := fun w L' hF hS hi =>
  runs_callV (hf w L' hF hS hi).1 (know_all w) (hf w L' hF hS hi).2 hX ha

/-- The making of one. -/
theorem r_makeFn {dd : Option Nat} {f : FuncId} {cs : Array Operand} {caps : Array Value} (hcs : cs.toList.map (ev e) = caps.toList) (w : World) :
    (execOp (ev e) ⟨dd, .makeFunc (.func f) #[] cs, ty, pos, af, g⟩).run P w = .ok (.value (.func (.func f) #[] caps)) w := by
  have : caps = cs.map (ev e) := by apply Array.ext'; rw [← hcs]; simp
  subst this
  simp [execOp, Instr.makeFunc]

/-- A method that is bound to its receiver. -/
theorem r_makeFnP {dd : Option Nat} {f : FuncId} {ps cs : Array Operand} {pre caps : Array Value} (hps : ps.toList.map (ev e) = pre.toList) (hcs : cs.toList.map (ev e) = caps.toList) (w : World) :
    (execOp (ev e) ⟨dd, .makeFunc (.func f) ps cs, ty, pos, af, g⟩).run P w = .ok (.value (.func (.func f) pre caps)) w := by
  have h1 : caps = cs.map (ev e) := by apply Array.ext'; rw [← hcs]; simp
  have h2 : pre = ps.map (ev e) := by apply Array.ext'; rw [← hps]; simp
  subst h1 h2
  simp [execOp, Instr.makeFunc]

/-- Reads off a box that the walk knows of but does not own. -/
theorem run_loadK1 {dd : Option Nat} {T b o t : Nat} {A : Operand} {v : Value} {cs : List Value} {w : World} (hA : ∀ w, (isAgg T).run P w = .ok false w) (hp : ev e A = .pointer (some ⟨b, o, none⟩)) (hb : w.heap[b]? = some (.cells cs.toArray t (0, 0))) (hv : rg cs o = some v) :
    (execOp (ev e) ⟨dd, .load T A, ty, pos, af, g⟩).run P w = .ok (.value v) w := by
  have hc := cell_of (o := o) hb
  rw [← rg_eq, hv] at hc
  simp [execOp, Instr.loadAt, Instr.sureAddr, hp, run_loadVar_one hA hc]

theorem run_loadKN {dd : Option Nat} {T b o t sz : Nat} {A : Operand} {cs vs : List Value} {w : World} (hA : ∀ w, (isAgg T).run P w = .ok true w) (hs : ∀ w, (sizeOf T).run P w = .ok sz w) (hp : ev e A = .pointer (some ⟨b, o, none⟩)) (hb : w.heap[b]? = some (.cells cs.toArray t (0, 0))) (hv : rd cs o sz = some vs) :
    (execOp (ev e) ⟨dd, .load T A, ty, pos, af, g⟩).run P w = .ok (.value (.agg vs.toArray)) w := by
  obtain ⟨h1, h2⟩ := rd_get hv
  have hr := run_loadVar_agg (P := P) (w := w) (b := b) (o := o) hA hs h1 (fun j v hj => by rw [cell_of hb]; exact h2 j v hj)
  simp [execOp, Instr.loadAt, Instr.sureAddr, hp, hr]

end rules
end Go.Lx
