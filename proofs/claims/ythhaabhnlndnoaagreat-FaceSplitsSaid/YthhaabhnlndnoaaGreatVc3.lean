/- The rules for memory, calls, loops and returns, over the functional frame. Conditions: none. -/
import Derived.Test.YthhaabhnlndnoaaGreatVc2
import Derived.Deep.LoopGhost
namespace Go.Vc
open Go

/-! ### boxes: a block of cells that the call owns -/

def cellsC (b : Nat) (cs : List Value) (T : TypeId) : Chunk where
  P S w := (∀ x, S x ↔ x = b) ∧ w.heap[b]? = some (.cells cs.toArray T (0, 0))
  loc S w w' h hp := ⟨hp.1, by rw [h b ((hp.1 b).2 rfl)]; exact hp.2⟩

/-- Cells from a place on. -/
def rdn : List Value → Nat → Option (List Value)
  | _, 0 => some []
  | [], _ + 1 => none
  | v :: r, k + 1 => (rdn r k).map (v :: ·)
def rd : List Value → Nat → Nat → Option (List Value)
  | cs, 0, k => rdn cs k
  | [], _ + 1, k => rdn [] k
  | _ :: r, o + 1, k => rd r o k
/-- Cells written over, from a place on. -/
def wrn : List Value → List Value → Option (List Value)
  | cs, [] => some cs
  | [], _ :: _ => none
  | _ :: r, v :: vs => (wrn r vs).map (v :: ·)
def wr : List Value → Nat → List Value → Option (List Value)
  | cs, 0, vs => wrn cs vs
  | [], _ + 1, [] => some []
  | [], _ + 1, _ :: _ => none
  | c :: r, o + 1, vs => (wr r o vs).map (c :: ·)

/-- One cell. -/
def rg : List Value → Nat → Option Value
  | [], _ => none
  | v :: _, 0 => some v
  | _ :: r, k + 1 => rg r k

theorem rg_eq : ∀ (cs : List Value) (k : Nat), rg cs k = cs[k]?
  | [], _ => by simp [rg]
  | v :: r, 0 => by simp [rg]
  | v :: r, k + 1 => by simp [rg, rg_eq r k]

theorem rdn_get {cs : List Value} : ∀ {k : Nat} {vs : List Value}, rdn cs k = some vs → vs.length = k ∧ ∀ (j : Nat) (v : Value), vs[j]? = some v → cs[j]? = some v := by
  induction cs with
  | nil => intro k vs h; cases k <;> simp [rdn] at h; subst h; exact ⟨rfl, by simp⟩
  | cons c r ih =>
    intro k vs h
    cases k with
    | zero => simp [rdn] at h; subst h; exact ⟨rfl, by simp⟩
    | succ k =>
      simp only [rdn, Option.map_eq_some_iff] at h
      obtain ⟨x, hx, rfl⟩ := h
      obtain ⟨h1, h2⟩ := ih hx
      refine ⟨by simp [h1], fun j v hv => ?_⟩
      cases j with
      | zero => simpa using hv
      | succ j => simp at hv ⊢; exact h2 j v hv

theorem rd_get {cs : List Value} {o k : Nat} {vs : List Value} (h : rd cs o k = some vs) : vs.length = k ∧ ∀ (j : Nat) (v : Value), vs[j]? = some v → cs[o + j]? = some v := by
  induction cs generalizing o with
  | nil =>
    cases o with
    | zero => simpa using rdn_get h
    | succ o =>
      obtain ⟨h1, h2⟩ := rdn_get (cs := []) (by simpa [rd] using h)
      exact ⟨h1, fun j v hv => by have := h2 j v hv; simp at this⟩
  | cons c r ih =>
    cases o with
    | zero => simpa using rdn_get h
    | succ o =>
      obtain ⟨h1, h2⟩ := ih (o := o) (by simpa [rd] using h)
      exact ⟨h1, fun j v hv => by have := h2 j v hv; rw [show o + 1 + j = (o + j) + 1 from by omega]; simpa using this⟩

theorem wrn_eq {cs vs cs' : List Value} (h : wrn cs vs = some cs') : vs.length ≤ cs.length ∧ cs' = vs ++ cs.drop vs.length := by
  induction vs generalizing cs cs' with
  | nil => cases cs <;> simp [wrn] at h <;> subst h <;> simp
  | cons v vs ih =>
    cases cs with
    | nil => simp [wrn] at h
    | cons c r =>
      simp only [wrn, Option.map_eq_some_iff] at h
      obtain ⟨x, hx, rfl⟩ := h
      obtain ⟨h1, h2⟩ := ih hx
      exact ⟨by simp; omega, by simp [h2]⟩

theorem wr_eq {cs vs cs' : List Value} {o : Nat} (h : wr cs o vs = some cs') (hne : 0 < vs.length) : o + vs.length ≤ cs.length ∧ cs' = cs.take o ++ vs ++ cs.drop (o + vs.length) := by
  induction cs generalizing o cs' with
  | nil =>
    cases o with
    | zero => obtain ⟨h1, h2⟩ := wrn_eq (cs := []) (by simpa [wr] using h); simp at h1; simp [h1] at hne
    | succ o => cases vs <;> simp [wr] at h hne
  | cons c r ih =>
    cases o with
    | zero => obtain ⟨h1, h2⟩ := wrn_eq (cs := c :: r) (by simpa [wr] using h); exact ⟨by simpa using h1, by simp [h2]⟩
    | succ o =>
      simp only [wr, Option.map_eq_some_iff] at h
      obtain ⟨x, hx, rfl⟩ := h
      obtain ⟨h1, h2⟩ := ih hx
      refine ⟨by simp; omega, ?_⟩
      rw [show o + 1 + vs.length = (o + vs.length) + 1 from by omega]
      simp [h2]

theorem grow_alloc (w : World) (o : Obj) : Grow w (w.alloc o) := Go.RowKit.Below.alloc (Go.RowKit.Below.refl _ _) (Nat.le_refl _) o

theorem run_newVar {P : Program} (t : TypeId) (v : Value) (w : World) : (newVar t v).run P w = .ok ⟨w.heap.size, 0, none⟩ (w.alloc (.cells v.cells t)) := by
  simp [newVar, newRow, newObj, Sem.run]

section rules
variable {P : Program} {n : Nat} {cx : Cx} {Q : Post} {e : Env} {L : List Chunk} {ops : Array Oper} {rest : List Oper}
variable {d : Nat} {ty : TypeId} {pos : String} {af : Array Edge} {g : Option (Nat × Bool)}

theorem sat_new {w : World} (hF : Fr cx w) (hS : Sat cx w L) (cs : List Value) (T : TypeId) : Sat cx (w.alloc (.cells cs.toArray T)) (L ++ [cellsC w.heap.size cs T]) :=
  hS.snoc hF (grow_alloc w _) (S := fun x => x = w.heap.size) ⟨fun _ => Iff.rfl, heap_alloc_new w _⟩ (fun b hb => by subst hb; exact ⟨Nat.le_refl _, by simp⟩)

theorem l_box {T : TypeId} {X : Operand} {x : Value} {cs : List Value} (hw : want ops ⟨some d, .box T X, ty, pos, af, g⟩ e = true) (hn : Nat.blt d n = true) (hx : ev e X = x) (hc : x.cells.toList = cs)
    (k : ∀ b, At cx (WL P n ops Q rest) (upd e d (.pointer (some ⟨b, 0, none⟩))) (L ++ [cellsC b cs T])) : At cx (WL P n ops Q (⟨some d, .box T X, ty, pos, af, g⟩ :: rest)) e L :=
  l_yields hw rfl hn fun w hF hS => ⟨.pointer (some ⟨w.heap.size, 0, none⟩), w.alloc (.cells cs.toArray T), by
    subst hc
    simp [execOp, Instr.box, run_newVar, hx], (k w.heap.size).out _ (hF.grow (grow_alloc w _)) (sat_new hF hS cs T)⟩

theorem l_alloc {T : TypeId} {z : Value} {cs : List Value} (hz : ∀ w, (zeroValue T).run P w = .ok z w) (hc : z.cells.toList = cs) (hw : want ops ⟨some d, .alloc T, ty, pos, af, g⟩ e = true) (hn : Nat.blt d n = true)
    (k : ∀ b, At cx (WL P n ops Q rest) (upd e d (.pointer (some ⟨b, 0, none⟩))) (L ++ [cellsC b cs T])) : At cx (WL P n ops Q (⟨some d, .alloc T, ty, pos, af, g⟩ :: rest)) e L :=
  l_yields hw rfl hn fun w hF hS => ⟨.pointer (some ⟨w.heap.size, 0, none⟩), w.alloc (.cells cs.toArray T), by
    subst hc
    simp [execOp, Instr.alloc, hz, run_newVar], (k w.heap.size).out _ (hF.grow (grow_alloc w _)) (sat_new hF hS cs T)⟩

theorem sat_cell {w : World} {i b : Nat} {cs : List Value} {T : TypeId} (hS : Sat cx w L) (hL : L[i]? = some (cellsC b cs T)) : w.heap[b]? = some (.cells cs.toArray T (0, 0)) := by
  obtain ⟨fp, h1, _, _⟩ := hS.out
  exact (h1 i _ hL).2

theorem cell_of {w : World} {b o : Nat} {cs : List Value} {T : TypeId} (h : w.heap[b]? = some (.cells cs.toArray T (0, 0))) : w.cell? ⟨b, o, none⟩ = cs[o]? := by
  simp [World.cell?, h]

/-- What a load yields, off the cells at its place. -/
theorem run_loadVar_agg {T k b o : Nat} {vs : List Value} {w : World} (hA : ∀ w, (isAgg T).run P w = .ok true w) (hs : ∀ w, (sizeOf T).run P w = .ok k w) (hl : vs.length = k)
    (h : ∀ j v, vs[j]? = some v → w.cell? ⟨b, o + j, none⟩ = some v) : (loadVar T ⟨b, o, none⟩).run P w = .ok (.agg vs.toArray) w := by
  subst hl
  have := run_loadCells_list (P := P) (w := w) ⟨b, o, none⟩ vs (fun j v hv => by rw [Addr.add_lit]; exact h j v hv)
  simp [loadVar, hA, hs, this]

theorem run_loadVar_one {T b o : Nat} {v : Value} {w : World} (hA : ∀ w, (isAgg T).run P w = .ok false w) (h : w.cell? ⟨b, o, none⟩ = some v) : (loadVar T ⟨b, o, none⟩).run P w = .ok v w := by
  simp [loadVar, hA, Go.load, Sem.run, h]

theorem l_load1 {i : Nat} {T T0 b o : Nat} {A : Operand} {cs : List Value} {v : Value} (hA : ∀ w, (isAgg T).run P w = .ok false w)
    (hw : want ops ⟨some d, .load T A, ty, pos, af, g⟩ e = true) (hn : Nat.blt d n = true) (hp : ev e A = .pointer (some ⟨b, o, none⟩)) (hL : L[i]? = some (cellsC b cs T0)) (hv : rg cs o = some v)
    (k : At cx (WL P n ops Q rest) (upd e d v) L) : At cx (WL P n ops Q (⟨some d, .load T A, ty, pos, af, g⟩ :: rest)) e L :=
  l_yields hw rfl hn fun w hF hS => ⟨v, w, by
    have hc := cell_of (o := o) (sat_cell hS hL)
    rw [← rg_eq, hv] at hc
    simp [execOp, Instr.loadAt, Instr.sureAddr, hp, run_loadVar_one hA hc], k.out w hF hS⟩

theorem l_loadN {i : Nat} {T T0 b o sz : Nat} {A : Operand} {cs vs : List Value} (hA : ∀ w, (isAgg T).run P w = .ok true w) (hs : ∀ w, (sizeOf T).run P w = .ok sz w)
    (hw : want ops ⟨some d, .load T A, ty, pos, af, g⟩ e = true) (hn : Nat.blt d n = true) (hp : ev e A = .pointer (some ⟨b, o, none⟩)) (hL : L[i]? = some (cellsC b cs T0)) (hv : rd cs o sz = some vs)
    (k : At cx (WL P n ops Q rest) (upd e d (.agg vs.toArray)) L) : At cx (WL P n ops Q (⟨some d, .load T A, ty, pos, af, g⟩ :: rest)) e L :=
  l_yields hw rfl hn fun w hF hS => ⟨.agg vs.toArray, w, by
    obtain ⟨h1, h2⟩ := rd_get hv
    have hr := run_loadVar_agg (P := P) (w := w) (b := b) (o := o) hA hs h1 (fun j v hj => by rw [cell_of (sat_cell hS hL)]; exact h2 j v hj)
    simp [execOp, Instr.loadAt, Instr.sureAddr, hp, hr], k.out w hF hS⟩

/-- A store into a box. -/
theorem l_store {i : Nat} {T T0 b o sz : Nat} {A X : Operand} {x : Value} {cs cs' vs : List Value} (hs : ∀ w, (sizeOf T).run P w = .ok sz w)
    (hw : want ops ⟨none, .store T A X, ty, pos, af, g⟩ e = true) (hp : ev e A = .pointer (some ⟨b, o, none⟩)) (hx : ev e X = x) (hc : x.cells.toList = vs) (hsz : vs.length = sz) (hpos : Nat.blt 0 sz = true)
    (hone : vs.all Value.oneCell' = true)
    (hL : L[i]? = some (cellsC b cs T0)) (hv : wr cs o vs = some cs')
    (k : At cx (WL P n ops Q rest) e (L.set i (cellsC b cs' T0))) : At cx (WL P n ops Q (⟨none, .store T A X, ty, pos, af, g⟩ :: rest)) e L :=
  l_acts hw rfl fun w hF hS => by
    have hb := sat_cell hS hL
    have hpos' : 0 < vs.length := by rw [hsz]; simpa using hpos
    obtain ⟨h1, h2⟩ := wr_eq hv hpos'
    have hst := run_storeCells_at P b o T0 vs 0 cs.toArray w hb (by simpa using h1) (by simpa using hone)
    refine ⟨w.setRow b cs'.toArray, ?_, ?_⟩
    · have hsz' : x.cells.size = sz := by rw [← hsz, ← hc]; simp
      simp only [Nat.add_zero, List.append_assoc] at hst
      simp only [execOp, Instr.storeAt, Instr.sureAddr, storeVar, hp, hx, Sem.run_bind, Sem.run_pure, Result.andThen_ok, hs, hsz', ne_eq, not_true_eq_false, if_false, hc, hst]
      rw [h2]; simp
    · have hset := setRow_heap w b cs.toArray cs'.toArray T0 (0, 0) hb
      refine k.out _ ⟨hF.os, hF.tape, hF.output, by simpa using hF.size, fun c hcn => ?_⟩ ?_
      · rw [setRow_other w b c _ (fun e => ?_)]
        · exact hF.block c hcn
        · obtain ⟨fp, f1, f2, _⟩ := hS.out
          have := (f2 i b ((f1 i _ hL).1 b |>.2 rfl)).2.2
          subst e
          exact hcn this
      · refine hS.set hF hL (by simp) fun S hSp hSo => ⟨S, ⟨hSp.1, hset⟩, fun c hc => ⟨by simpa using (hSo c hc).1, .inl hc⟩, fun c _ hcS => setRow_other w b c _ (fun e => hcS ((hSp.1 c).2 e))⟩

/-- The address of a field of a box. -/
theorem r_field {d : Option Nat} {T fld b o fo ft fsz bo : Nat} {nm tg pk : String} {em : Bool} {X : Operand} {fs : Array Field} (hu : ∀ w, (underlying T).run P w = .ok (.struct fs) w)
    (hf : fs[fld]? = some ⟨nm, ft, fo, em, tg, pk, bo⟩) (hs : ∀ w, (sizeOf ft).run P w = .ok fsz w) (hsz : Nat.blt 0 fsz = true) (hp : ev e X = .pointer (some ⟨b, o, none⟩)) (w : World) :
    (execOp (ev e) ⟨d, .fieldAddr T X fld, ty, pos, af, g⟩).run P w = .ok (.value (.pointer (some ⟨b, o + fo, none⟩))) w := by
  have hne : fsz ≠ 0 := by have : 0 < fsz := by simpa using hsz
                           omega
  simp [execOp, Instr.fieldAt, hu, hf, Instr.sureAddr, hp, fieldPlace, hs, hne, Addr.add_lit]

/-! ### calls -/

/-- A contract of a function that returns a value that the memory does not hang on. -/
def Ret (P : Program) (f : FuncId) (args : List Value) (v : Value) : Prop := ∀ w, Does P f args.toArray w fun v' w' => v' = v ∧ Grow w w'

theorem run_call {f : FuncId} {A : Array Operand} {tys : Array TypeId} {args : List Value} (hc : ∀ args w, (callFunc f args).run P w = .ok (.enter f args) w) (ha : A.toList.map (ev e) = args) (w : World) :
    (execOp (ev e) ⟨some d, .call ⟨.value (.func f), A, tys⟩, ty, pos, af, g⟩).run P w = .ok (.enter f args.toArray) w := by
  subst ha
  have : (A.toList.map (ev e)).toArray = A.map (ev e) := by rw [← Array.toList_map, Array.toArray_toList]
  rw [this]
  simp only [execOp, resolve, ev, Deferred.ofValue, Sem.run_bind, Sem.run_pure, Result.andThen_ok, invoke, hc, Array.append_empty, Array.empty_append]

theorem l_call {f : FuncId} {A : Array Operand} {tys : Array TypeId} {args : List Value} {v : Value} (h : Ret P f args v) (hc : ∀ args w, (callFunc f args).run P w = .ok (.enter f args) w)
    (hw : want ops ⟨some d, .call ⟨.value (.func f), A, tys⟩, ty, pos, af, g⟩ e = true) (hn : Nat.blt d n = true) (ha : A.toList.map (ev e) = args)
    (k : At cx (WL P n ops Q rest) (upd e d v) L) : At cx (WL P n ops Q (⟨some d, .call ⟨.value (.func f), A, tys⟩, ty, pos, af, g⟩ :: rest)) e L :=
  l_calls hw rfl hn (run_call hc ha) fun w hF hS => (h w).mono fun v' w' ⟨hv, hg⟩ => by
    subst hv
    exact k.out w' (hF.grow hg) (hS.grow hg)

/-! ### returns -/

theorem results_one {fn : Func} {t : Tmp} (h : fn.results = #[.tmp t]) (tmps : Array Value) (w : World) : (results fn tmps).run P w = .ok (tmps.getD t undef) w := by
  simp [results, h]

theorem results_two {fn : Func} {t u : Tmp} (h : fn.results = #[.tmp t, .tmp u]) (tmps : Array Value) (w : World) : (results fn tmps).run P w = .ok (.tuple #[tmps.getD t undef, tmps.getD u undef]) w := by
  simp [results, h]

theorem results_three {fn : Func} {t u s : Tmp} (h : fn.results = #[.tmp t, .tmp u, .tmp s]) (tmps : Array Value) (w : World) : (results fn tmps).run P w = .ok (.tuple #[tmps.getD t undef, tmps.getD u undef, tmps.getD s undef]) w := by
  simp [results, h]

theorem ret1 {fn : Func} {R : Value → World → Prop} {t : Tmp} {v : Value} (hr : fn.results = #[.tmp t]) (ht : e t = v) (k : ∀ w, Fr cx w → Sat cx w L → R v w) : At cx (BodyQ P fn R .ret) e L :=
  ⟨fun w hF hS tmps hs => ⟨v, by rw [results_one hr, hs, ht], k w hF hS⟩⟩

theorem ret2 {fn : Func} {R : Value → World → Prop} {t u : Tmp} {v1 v2 : Value} (hr : fn.results = #[.tmp t, .tmp u]) (h1 : e t = v1) (h2 : e u = v2) (k : ∀ w, Fr cx w → Sat cx w L → R (.tuple #[v1, v2]) w) : At cx (BodyQ P fn R .ret) e L :=
  ⟨fun w hF hS tmps hs => ⟨.tuple #[v1, v2], by rw [results_two hr, hs, hs, h1, h2], k w hF hS⟩⟩

theorem ret3 {fn : Func} {R : Value → World → Prop} {t u s : Tmp} {v1 v2 v3 : Value} (hr : fn.results = #[.tmp t, .tmp u, .tmp s]) (h1 : e t = v1) (h2 : e u = v2) (h3 : e s = v3) (k : ∀ w, Fr cx w → Sat cx w L → R (.tuple #[v1, v2, v3]) w) : At cx (BodyQ P fn R .ret) e L :=
  ⟨fun w hF hS tmps hs => ⟨.tuple #[v1, v2, v3], by rw [results_three hr, hs, hs, hs, h1, h2, h3], k w hF hS⟩⟩

theorem results_cell1 {fn : Func} {t T b : Nat} {v : Value} (h : fn.results = #[.cell t T]) (tmps : Array Value) (w : World) (ht : tmps.getD t undef = .pointer (some ⟨b, 0, none⟩)) (hl : (loadVar T ⟨b, 0, none⟩).run P w = .ok v w) :
    (results fn tmps).run P w = .ok v w := by
  rw [Array.getD_eq_getD_getElem?] at ht
  simp [results, h, ht, asAddr, hl]

theorem results_cell1t {fn : Func} {t T b u : Nat} {v : Value} (h : fn.results = #[.cell t T, .tmp u]) (tmps : Array Value) (w : World) (ht : tmps.getD t undef = .pointer (some ⟨b, 0, none⟩)) (hl : (loadVar T ⟨b, 0, none⟩).run P w = .ok v w) :
    (results fn tmps).run P w = .ok (.tuple #[v, tmps.getD u undef]) w := by
  rw [Array.getD_eq_getD_getElem?] at ht
  simp [results, h, ht, asAddr, hl]

/-- A struct result. -/
theorem retC {i : Nat} {fn : Func} {R : Value → World → Prop} {t T T0 b sz : Nat} {cs vs : List Value} (hA : ∀ w, (isAgg T).run P w = .ok true w) (hs : ∀ w, (sizeOf T).run P w = .ok sz w) (hr : fn.results = #[.cell t T])
    (ht : e t = .pointer (some ⟨b, 0, none⟩)) (hL : L[i]? = some (cellsC b cs T0)) (hv : rd cs 0 sz = some vs) (k : ∀ w, Fr cx w → Sat cx w L → R (.agg vs.toArray) w) : At cx (BodyQ P fn R .ret) e L :=
  ⟨fun w hF hS tmps hts => ⟨.agg vs.toArray, by
    obtain ⟨h1, h2⟩ := rd_get hv
    have hl := run_loadVar_agg (P := P) (w := w) (b := b) (o := 0) hA hs h1 (fun j v hj => by rw [cell_of (sat_cell hS hL)]; exact h2 j v hj)
    exact results_cell1 hr tmps w (by rw [hts, ht]) hl, k w hF hS⟩⟩

theorem retCt {i : Nat} {fn : Func} {R : Value → World → Prop} {t T T0 b sz u : Nat} {cs vs : List Value} {v2 : Value} (hA : ∀ w, (isAgg T).run P w = .ok true w) (hs : ∀ w, (sizeOf T).run P w = .ok sz w) (hr : fn.results = #[.cell t T, .tmp u])
    (ht : e t = .pointer (some ⟨b, 0, none⟩)) (hL : L[i]? = some (cellsC b cs T0)) (hv : rd cs 0 sz = some vs) (h2 : e u = v2) (k : ∀ w, Fr cx w → Sat cx w L → R (.tuple #[.agg vs.toArray, v2]) w) : At cx (BodyQ P fn R .ret) e L :=
  ⟨fun w hF hS tmps hts => ⟨.tuple #[.agg vs.toArray, v2], by
    obtain ⟨h1, h2'⟩ := rd_get hv
    have hl := run_loadVar_agg (P := P) (w := w) (b := b) (o := 0) hA hs h1 (fun j v hj => by rw [cell_of (sat_cell hS hL)]; exact h2' j v hj)
    rw [results_cell1t hr tmps w (by rw [hts, ht]) hl, hts, h2], k w hF hS⟩⟩

/-- The end of a contract 'Ret'. -/
theorem fin {w0 : World} {L : List Chunk} {v v' : Value} (h : v' = v) : ∀ w, Fr ⟨w0, fun _ => False⟩ w → Sat ⟨w0, fun _ => False⟩ w L → (v' = v ∧ Grow w0 w) :=
  fun w hF _ => ⟨h, hF.os, hF.tape, hF.output, hF.size, fun k hk => hF.block k (by simp [Cx.own]; exact hk)⟩

/-- Into a function whose contract is 'Ret'. -/
theorem enterRet {f : FuncId} {fn : Func} {c : Code} {args : List Value} {v : Value} (hf : P.funcs[f]? = some fn) (hb : fn.body = some c) (hn : fn.ntmps = n) (hle : Nat.ble args.length n = true)
    (h : ∀ w, At ⟨w, fun _ => False⟩ (WC P n c (BodyQ P fn fun v' w' => v' = v ∧ Grow w w')) (lget args) []) : Ret P f args v :=
  fun w => enter hf hb hn hle (fun _ => False) [] (Sat.nil _ _) (h w)

/-! ### loops -/

/-- The frame with these slots, all others unknown. -/
def mkE : List (Nat × Value) → Env → Env
  | [], g => g
  | (a, v) :: r, g => fun t => bif Nat.beq t a then v else mkE r g t

def Agree (e : Env) : List (Nat × Value) → Prop
  | [] => True
  | (a, v) :: r => e a = v ∧ Agree e r

theorem mkE_self (e : Env) : ∀ l, Agree e l → mkE l e = e
  | [], _ => rfl
  | (a, v) :: r, ⟨h, hr⟩ => by
    funext t
    simp only [mkE, beq_eq, mkE_self e r hr]
    by_cases ht : t = a
    · simp [ht, h]
    · simp [ht]

/-- Fewer slots, fewer chunks: the rest is forgotten. -/
theorem tidy {K : Env → World → Prop} (st : List (Nat × Value)) (sel : List Nat) (L' : List Chunk) (hst : Agree e st) (hnd : sel.Nodup) (hL : sel.map (fun i => L[i]?) = L'.map some)
    (k : ∀ g, At cx K (mkE st g) L') : At cx K e L :=
  ⟨fun w hF hS => by
    have := (k e).out w hF (hS.select sel hnd hL)
    rwa [mkE_self e st hst] at this⟩

/-- What a round must leave. -/
structure RoundEnd {σ : Type} (cx : Cx) (st : σ → List (Nat × Value)) (hp : σ → List Chunk) (I : σ → Prop) (m : Nat) (μ : σ → Nat) (e : Env) (w : World) : Prop where
  out : ∃ s, Agree e (st s) ∧ Fr cx w ∧ Sat cx w (hp s) ∧ I s ∧ μ s < m

theorem c_loop {σ : Type} {c : Code} (st : σ → List (Nat × Value)) (hp : σ → List Chunk) (I : σ → Prop) (μ : σ → Nat) (s0 : σ) (sel : List Nat) (hI : I s0) (hst : Agree e (st s0)) (hnd : sel.Nodup) (hL : sel.map (fun i => L[i]?) = (hp s0).map some)
    (round : ∀ s g, I s → At cx (WC P n c (ThenQ (RoundEnd cx st hp I (μ s) μ) Q)) (mkE (st s) g) (hp s)) : At cx (WC P n (.loop c) Q) e L :=
  ⟨fun w hF hS => ⟨fun a ha => by
    refine wp_loop_ghost (fun m a' w' => ∃ e' s, Sim n a' e' ∧ Agree e' (st s) ∧ Fr cx w' ∧ Sat cx w' (hp s) ∧ I s ∧ μ s = m) (μ s0) ⟨e, s0, ha, hst, hF, hS.select sel hnd hL, hI, rfl⟩ ?_
    rintro m a w ⟨e, s, ha, hst, hF, hS, hI, rfl⟩
    have hr := ((round s e hI).out w hF hS).out a (by rw [mkE_self e _ hst]; exact ha)
    refine wp_mono hr ?_
    rintro x a' w' ⟨e', hs', hq⟩
    cases x with
    | normal =>
      obtain ⟨s', h1, h2, h3, h4, h5⟩ := hq.out
      exact ⟨μ s', h5, e', s', hs', h1, h2, h3, h4, rfl⟩
    | exit i => exact ⟨e', hs', hq⟩
    | goto i => exact ⟨e', hs', hq⟩
    | ret => exact ⟨e', hs', hq⟩
    | panic i => exact ⟨e', hs', hq⟩
    | outgrown => exact ⟨e', hs', hq⟩⟩⟩

theorem c_round {σ : Type} {st : σ → List (Nat × Value)} {hp : σ → List Chunk} {I : σ → Prop} {m : Nat} {μ : σ → Nat} (s : σ) (sel : List Nat) (hst : Agree e (st s)) (hnd : sel.Nodup) (hL : sel.map (fun i => L[i]?) = (hp s).map some) (hI : I s) (hm : μ s < m) :
    At cx (RoundEnd cx st hp I m μ) e L := ⟨fun _ hF hS => ⟨s, hst, hF, hS.select sel hnd hL, hI, hm⟩⟩

end rules
end Go.Vc
