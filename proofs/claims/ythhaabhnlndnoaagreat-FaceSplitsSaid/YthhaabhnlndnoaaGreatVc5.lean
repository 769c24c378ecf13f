/- The rules for single operations of a region that draws its order. Conditions: none. -/
import Derived.Test.YthhaabhnlndnoaaGreatVc4
namespace Go.Vc
open Go

/-- The block of a pointer, as a box. -/
def boxOf (v : Value) (cs : List Value) (T : TypeId) : Chunk :=
  match v with
  | .pointer (some a) => cellsC a.block cs T
  | .slice (some a) _ _ => cellsC a.block cs T
  | _ => empC

def isPtr (v : Value) : Prop := ∃ b, v = .pointer (some ⟨b, 0, none⟩)

/-- A new box, at resource i. -/
def Kd.nw (i : Nat) (cs : List Value) (T : TypeId) : Kd := .g [] [] [i] (fun _ _ v => isPtr v) (fun _ _ v => [boxOf v cs T])
/-- A new slice of m elements, at resource i. -/
def Kd.ns (i : Nat) (cs : List Value) (T m : Nat) : Kd := .g [] [] [i] (fun _ _ v => ∃ b, v = .slice (some ⟨b, 0, none⟩) m m) (fun _ _ v => [boxOf v cs T])
/-- A store into the box at resource i, whose address stands in slot a. -/
def Kd.st (a i : Nat) (cs : List Value) (T : TypeId) : Kd := .g [a] [i] [i] (fun _ _ v => v = undef) (fun vs _ _ => [boxOf (vs.headD undef) cs T])

section rules
variable {P : Program} {n : Nat} {cx : Cx} {Q : Post} {e : Env} {L : List Chunk} {ops : Array Oper} {F : Env → List Chunk → Prop} {rest : List Oper} {ss : List Kd}

theorem d_pass {o : Oper} {s : Kd} {d : Nat} (hw : want ops o e = false) (hd : o.dst = some d) (k : Sq P cx ops F rest ss (upd e d undef) L) : Sq P cx ops F (o :: rest) (s :: ss) e L :=
  .pass hw (by rw [hd]; exact k)

theorem d_pass' {o : Oper} {s : Kd} (hw : want ops o e = false) (hd : o.dst = none) (k : Sq P cx ops F rest ss e L) : Sq P cx ops F (o :: rest) (s :: ss) e L :=
  .pass hw (by rw [hd]; exact k)

/-- An operation that only computes. -/
theorem d_val {o : Oper} {d : Nat} {v : Value} (hw : want ops o e = true) (hd : o.dst = some d) (hr : ∀ w, (execOp (ev e) o).run P w = .ok (.value v) w)
    (k : Sq P cx ops F rest ss (upd e d v) L) : Sq P cx ops F (o :: rest) (.p :: ss) e L := by
  refine .take hw ⟨v, hr⟩ ⟨fun w L' hF hS _ _ => ?_⟩ fun v' hv' => ?_
  · unfold RunsTo
    rw [hr]
    exact ⟨hr, hF, hS⟩
  · have h1 := hv' default
    rw [hr] at h1
    have : v = v' := by simpa using h1
    subst this
    rw [hd]
    exact k

/-- One value, off chunks that are only read. -/
theorem d_det {o : Oper} {d : Nat} {v : Value} {rds : List Nat} (hw : want ops o e = true) (hd : o.dst = some d)
    (h : ∀ w L', Fr cx w → Sat cx w L' → (∀ i ∈ rds, L'[i]? = L[i]?) → RunsTo P (ev e) o w fun v' w' => v' = v ∧ Grow w w')
    (k : Sq P cx ops F rest ss (upd e d v) L) : Sq P cx ops F (o :: rest) (.d rds v :: ss) e L := by
  refine .take hw ⟨v, rfl⟩ ⟨fun w L' hF hS _ hi => ?_⟩ fun v' hv' => ?_
  · refine (h w L' hF hS fun i hm => hi i (.inl hm)).mono fun v' w' ⟨h1, h2⟩ => ?_
    exact ⟨h1, hF.grow h2, hS.grow h2⟩
  · have : v' = v := hv'
    subst this
    rw [hd]
    exact k

variable {d : Nat} {ty : TypeId} {pos : String} {af : Array Edge} {g : Option (Nat × Bool)}

theorem d_load1 {i : Nat} {T T0 b o : Nat} {A : Operand} {cs : List Value} {v : Value} (hA : ∀ w, (isAgg T).run P w = .ok false w)
    (hw : want ops ⟨some d, .load T A, ty, pos, af, g⟩ e = true) (hp : ev e A = .pointer (some ⟨b, o, none⟩)) (hL : L[i]? = some (cellsC b cs T0)) (hv : rg cs o = some v)
    (k : Sq P cx ops F rest ss (upd e d v) L) : Sq P cx ops F (⟨some d, .load T A, ty, pos, af, g⟩ :: rest) (.d [i] v :: ss) e L :=
  d_det hw rfl (fun w L' hF hS hi => by
    have hc := cell_of (o := o) (sat_cell hS ((hi i (by simp)).trans hL))
    rw [← rg_eq, hv] at hc
    unfold RunsTo
    have : (execOp (ev e) ⟨some d, .load T A, ty, pos, af, g⟩).run P w = .ok (.value v) w := by
      simp [execOp, Instr.loadAt, Instr.sureAddr, hp, run_loadVar_one hA hc]
    rw [this]
    exact ⟨rfl, Grow.refl w⟩) k

theorem d_loadN {i : Nat} {T T0 b o sz : Nat} {A : Operand} {cs vs : List Value} (hA : ∀ w, (isAgg T).run P w = .ok true w) (hs : ∀ w, (sizeOf T).run P w = .ok sz w)
    (hw : want ops ⟨some d, .load T A, ty, pos, af, g⟩ e = true) (hp : ev e A = .pointer (some ⟨b, o, none⟩)) (hL : L[i]? = some (cellsC b cs T0)) (hv : rd cs o sz = some vs)
    (k : Sq P cx ops F rest ss (upd e d (.agg vs.toArray)) L) : Sq P cx ops F (⟨some d, .load T A, ty, pos, af, g⟩ :: rest) (.d [i] (.agg vs.toArray) :: ss) e L :=
  d_det hw rfl (fun w L' hF hS hi => by
    obtain ⟨h1, h2⟩ := rd_get hv
    have hr := run_loadVar_agg (P := P) (w := w) (b := b) (o := o) hA hs h1 (fun j v hj => by rw [cell_of (sat_cell hS ((hi i (by simp)).trans hL))]; exact h2 j v hj)
    unfold RunsTo
    have : (execOp (ev e) ⟨some d, .load T A, ty, pos, af, g⟩).run P w = .ok (.value (.agg vs.toArray)) w := by
      simp [execOp, Instr.loadAt, Instr.sureAddr, hp, hr]
    rw [this]
    exact ⟨rfl, Grow.refl w⟩) k

theorem d_call {f : FuncId} {A : Array Operand} {tys : Array TypeId} {args : List Value} {v : Value} (h : Ret P f args v) (hc : ∀ args w, (callFunc f args).run P w = .ok (.enter f args) w)
    (hw : want ops ⟨some d, .call ⟨.value (.func f), A, tys⟩, ty, pos, af, g⟩ e = true) (ha : A.toList.map (ev e) = args)
    (k : Sq P cx ops F rest ss (upd e d v) L) : Sq P cx ops F (⟨some d, .call ⟨.value (.func f), A, tys⟩, ty, pos, af, g⟩ :: rest) (.d [] v :: ss) e L :=
  d_det hw rfl (fun w L' _ _ _ => by
    unfold RunsTo
    rw [run_call hc ha]
    exact h w) k

/-- A new box whose cells are known ahead of the region. -/
theorem d_new {o : Oper} {i : Nat} {T : TypeId} {cs : List Value} (hw : want ops o e = true) (hd : o.dst = some d)
    (hr : ∀ w, (execOp (ev e) o).run P w = .ok (.value (.pointer (some ⟨w.heap.size, 0, none⟩))) (w.alloc (.cells cs.toArray T))) (hL : L[i]? = some empC)
    (k : ∀ b, Sq P cx ops F rest ss (upd e d (.pointer (some ⟨b, 0, none⟩))) (L.set i (cellsC b cs T))) : Sq P cx ops F (o :: rest) (.nw i cs T :: ss) e L := by
  refine .take hw ⟨.pointer (some ⟨0, 0, none⟩), 0, rfl⟩ ⟨fun w L' hF hS _ hi => ?_⟩ fun v' hv' => ?_
  · unfold RunsTo
    rw [hr]
    refine ⟨⟨_, rfl⟩, hF.grow (grow_alloc w _), ?_⟩
    refine hS.set hF ((hi i (.inr (by simp [Kd.nw, Kd.wrs]))).trans hL) (by simp) fun S _ hSo => ⟨fun x => x = w.heap.size, ⟨fun _ => Iff.rfl, heap_alloc_new w _⟩, fun b hb => ?_, fun b hb _ => heap_alloc_old w _ b hb⟩
    subst hb
    exact ⟨by simp, .inr (Nat.le_refl _)⟩
  · obtain ⟨b, rfl⟩ : ∃ b, v' = .pointer (some ⟨b, 0, none⟩) := hv'
    rw [hd]
    exact k b

/-- A new slice whose cells are known ahead of the region. -/
theorem d_newS {o : Oper} {i m : Nat} {T : TypeId} {cs : List Value} (hw : want ops o e = true) (hd : o.dst = some d)
    (hr : ∀ w, (execOp (ev e) o).run P w = .ok (.value (.slice (some ⟨w.heap.size, 0, none⟩) m m)) (w.alloc (.cells cs.toArray T))) (hL : L[i]? = some empC)
    (k : ∀ b, Sq P cx ops F rest ss (upd e d (.slice (some ⟨b, 0, none⟩) m m)) (L.set i (cellsC b cs T))) : Sq P cx ops F (o :: rest) (.ns i cs T m :: ss) e L := by
  refine .take hw ⟨.slice (some ⟨0, 0, none⟩) m m, 0, rfl⟩ ⟨fun w L' hF hS _ hi => ?_⟩ fun v' hv' => ?_
  · unfold RunsTo
    rw [hr]
    refine ⟨⟨_, rfl⟩, hF.grow (grow_alloc w _), ?_⟩
    refine hS.set hF ((hi i (.inr (by simp [Kd.ns, Kd.wrs]))).trans hL) (by simp) fun S _ hSo => ⟨fun x => x = w.heap.size, ⟨fun _ => Iff.rfl, heap_alloc_new w _⟩, fun b hb => ?_, fun b hb _ => heap_alloc_old w _ b hb⟩
    subst hb
    exact ⟨by simp, .inr (Nat.le_refl _)⟩
  · obtain ⟨b, rfl⟩ : ∃ b, v' = .slice (some ⟨b, 0, none⟩) m m := hv'
    rw [hd]
    exact k b

theorem run_alloc {d : Option Nat} {T : TypeId} {z : Value} {cs : List Value} (hz : ∀ w, (zeroValue T).run P w = .ok z w) (hc : z.cells.toList = cs) (w : World) :
    (execOp (ev e) ⟨d, .alloc T, ty, pos, af, g⟩).run P w = .ok (.value (.pointer (some ⟨w.heap.size, 0, none⟩))) (w.alloc (.cells cs.toArray T)) := by
  subst hc
  simp [execOp, Instr.alloc, hz, run_newVar]

theorem run_box {d : Option Nat} {T : TypeId} {X : Operand} {x : Value} {cs : List Value} (hx : ev e X = x) (hc : x.cells.toList = cs) (w : World) :
    (execOp (ev e) ⟨d, .box T X, ty, pos, af, g⟩).run P w = .ok (.value (.pointer (some ⟨w.heap.size, 0, none⟩))) (w.alloc (.cells cs.toArray T)) := by
  subst hc
  simp [execOp, Instr.box, run_newVar, hx]

theorem run_store {T T0 b o sz : Nat} {A X : Operand} {x : Value} {cs cs' vs : List Value} {w : World} (hs : ∀ w, (sizeOf T).run P w = .ok sz w) (hp : ev e A = .pointer (some ⟨b, o, none⟩)) (hx : ev e X = x) (hc : x.cells.toList = vs) (hsz : vs.length = sz)
    (hpos : Nat.blt 0 sz = true) (hone : vs.all Value.oneCell' = true) (hv : wr cs o vs = some cs') (hb : w.heap[b]? = some (.cells cs.toArray T0 (0, 0))) :
    (execOp (ev e) ⟨none, .store T A X, ty, pos, af, g⟩).run P w = .ok .skip (w.setRow b cs'.toArray) := by
  have hpos' : 0 < vs.length := by rw [hsz]; simpa using hpos
  obtain ⟨h1, h2⟩ := wr_eq hv hpos'
  have hst := run_storeCells_at P b o T0 vs 0 cs.toArray w hb (by simpa using h1) (by simpa using hone)
  have hsz' : x.cells.size = sz := by rw [← hsz, ← hc]; simp
  simp only [Nat.add_zero, List.append_assoc] at hst
  simp only [execOp, Instr.storeAt, Instr.sureAddr, storeVar, hp, hx, Sem.run_bind, Sem.run_pure, Result.andThen_ok, hs, hsz', ne_eq, not_true_eq_false, if_false, hc, hst]
  rw [h2]; simp

theorem d_store {i : Nat} {a T T0 b o sz : Nat} {X : Operand} {x : Value} {cs cs' vs : List Value} (hs : ∀ w, (sizeOf T).run P w = .ok sz w)
    (hw : want ops ⟨none, .store T (.tmp a) X, ty, pos, af, g⟩ e = true) (hp : e a = .pointer (some ⟨b, o, none⟩)) (hx : ev e X = x) (hc : x.cells.toList = vs) (hsz : vs.length = sz) (hpos : Nat.blt 0 sz = true)
    (hone : vs.all Value.oneCell' = true) (hL : L[i]? = some (cellsC b cs T0)) (hv : wr cs o vs = some cs')
    (k : Sq P cx ops F rest ss e (L.set i (cellsC b cs' T0))) : Sq P cx ops F (⟨none, .store T (.tmp a) X, ty, pos, af, g⟩ :: rest) (.st a i cs' T0 :: ss) e L := by
  have hbox : boxOf (([a].map e).headD undef) cs' T0 = cellsC b cs' T0 := by
    have : ([a].map e).headD undef = e a := rfl
    rw [this, hp]; rfl
  refine .take hw ⟨undef, rfl⟩ ⟨fun w L' hF hS _ hi => ?_⟩ fun v' hv' => ?_
  · have hL' := (hi i (.inl (by simp [Kd.st, Kd.rds]))).trans hL
    have hb := sat_cell hS hL'
    unfold RunsTo
    rw [run_store hs (by exact hp) hx hc hsz hpos hone hv hb]
    have hset := setRow_heap w b cs.toArray cs'.toArray T0 (0, 0) hb
    refine ⟨rfl, ⟨hF.os, hF.tape, hF.output, by simpa using hF.size, fun c hcn => ?_⟩, ?_⟩
    · rw [setRow_other w b c _ (fun e => ?_)]
      · exact hF.block c hcn
      · obtain ⟨fp, f1, f2, _⟩ := hS.out
        have := (f2 i b ((f1 i _ hL').1 b |>.2 rfl)).2.2
        subst e
        exact hcn this
    · show Sat cx _ (L'.set i (boxOf (([a].map e).headD undef) cs' T0))
      rw [hbox]
      exact hS.set hF hL' (by simp) fun S hSp hSo => ⟨S, ⟨hSp.1, hset⟩, fun c hc => ⟨by simpa using (hSo c hc).1, .inl hc⟩, fun c _ hcS => setRow_other w b c _ (fun e => hcS ((hSp.1 c).2 e))⟩
  · show Sq P cx ops F rest ss e (L.set i (boxOf (([a].map e).headD undef) cs' T0))
    rw [hbox]
    exact k

theorem d_nil (h : F e L) : Sq P cx ops F [] [] e L := .nil h

theorem splitS {os : List Oper} {b : Bool} (ht : b = true → Sq P cx ops F os ss (upd e d (.bool true)) L) (hf : b = false → Sq P cx ops F os ss (upd e d (.bool false)) L) : Sq P cx ops F os ss (upd e d (.bool b)) L := by
  cases b
  · exact hf rfl
  · exact ht rfl

theorem splitSD {os : List Oper} {p : Prop} [Decidable p] (ht : p → Sq P cx ops F os ss (upd e d (.bool true)) L) (hf : ¬ p → Sq P cx ops F os ss (upd e d (.bool false)) L) : Sq P cx ops F os ss (upd e d (.bool (decide p))) L :=
  splitS (fun h => ht (of_decide_eq_true h)) (fun h => hf (of_decide_eq_false h))

end rules
end Go.Vc
