/- Rules: values that are functions: what is known of one, the call of one, and the making of one; boxes that a closure knows of. Conditions: none. -/
import Derived.Test.YtpikgcmaljmlmaaGreatDoorMd
import Derived.Laws.RangeString
import Derived.Laws.CopyRow
import Derived.Laws.IdiomCopy
import Derived.Lib.UnsafeStr
import Derived.Lib.Builder
import Derived.Laws.Pointers
import Derived.Lib.AppendZeros
import Derived.Shelf.Sort.Plain
import Derived.Shelf.Slices.In.SortNone
import Derived.Sort.OwnSortedInts
import Derived.Shelf.SlSortCmp.WholeK
import Derived.Shelf.SlSortCmp.NoneTotal
import Derived.ArgAppend
import Derived.Lib.ConvBytes
import Derived.Maps.RangeRun
import Derived.Shelf.Slices.CompactS
import Derived.Sort.OwnSorted
import Derived.Shelf.Slices.CompactI
import Derived.Test.YtpikgcmaljmlmaaGreatDoorProg
import Derived.Tactics
import Derived.Tactics2
import Derived.StillTactics
import Derived.LoopTactic
import Derived.Laws.Cover1
import Derived.WalkKit
import Derived.StillTailTactics
import Derived.Deep.RegionHeld3
import Derived.Lib.Bytealg
import Derived.Lib.SmallJoins
import Derived.Lib.AppendIntMem
import Derived.Shelf.Strconv.Itoa3
import Derived.Shelf.Strconv.Atoi
import Derived.Shelf.Strings.Repeat
import Derived.Shelf.Strings.OnBuilder
import Derived.LoopN
namespace Go.Lx
open Go Go.Vc Go.Md
structure FnH (P : Program) (h : J3) (v : Value) (R : World → List Value → (Value → World → Prop) → Prop) : Prop where
 out : ∃ (f : FuncId) (pre caps : Array Value), v = .func (.func f) pre caps ∧ (∀ args w, (callFunc f args).run P w = .ok (.enter f args) w) ∧
  ∀ args post w, Know h w Zh → R w args post → Does P f (pre.toList ++ (args ++ caps.toList)).toArray w post
theorem FnH.mono {P : Program} {h h' : J3} {v : Value} {R : World → List Value → (Value → World → Prop) → Prop} (f : FnH P h v R) (k : ∀ b o, h b = some o → h' b = some o) : FnH P h' v R := by
 obtain ⟨g, pre, caps, h1, h2, h3⟩ := f.out
 exact ⟨g, pre, caps, h1, h2, fun args r w hw hR => h3 args r w (fun b o hb => hw b o (k b o hb)) hR⟩
theorem FnH.cells {P : Program} {h : J3} {v : Value} {R : World → List Value → (Value → World → Prop) → Prop} (f : FnH P h v R) : v.cells.toList = [v] := by
 obtain ⟨g, pre, caps, rfl, _⟩ := f.out; rfl
theorem FnH.one {P : Program} {h : J3} {v : Value} {R : World → List Value → (Value → World → Prop) → Prop} (f : FnH P h v R) : v.oneCell' = true := by
 obtain ⟨g, pre, caps, rfl, _⟩ := f.out; rfl
theorem FrS.cells {h : J3} {sz : Nat} {v : Value} {xs : List (List Value)} (f : FrS h sz v xs) : v.cells.toList = [v] := by
 obtain ⟨a, c, rfl, _⟩ := f.out; rfl
theorem FrS.one {h : J3} {sz : Nat} {v : Value} {xs : List (List Value)} (f : FrS h sz v xs) : v.oneCell' = true := by
 obtain ⟨a, c, rfl, _⟩ := f.out; rfl
theorem Know.up {h : J3} {w : World} {S : Nat → Prop} (k : Know h w S) : ∀ b o, h b = some o → w.heap[b]? = some o := fun b o hb => (k b o hb).1
section rules
variable {P : Program} {n : Nat} {cx : Cx} {e : X5} {L : List Chunk} {ops : Array Oper} {rest : List Oper} {Q : Ue} {F : X5 → List Chunk → Prop} {ss : List Kd} {d : Nat} {ty : TypeId} {pos : String} {af : Array Edge} {g : Option (Nat × Bool)}
theorem run_callVP {f : FuncId} {X : Operand} {A : Array Operand} {tys : Array TypeId} {args : List Value} {pre caps : Array Value} (hc : ∀ args w, (callFunc f args).run P w = .ok (.enter f args) w) (hX : ev e X = .func (.func f) pre caps) (ha : A.toList.map (ev e) = args) (w : World) :
  (execOp (ev e) ⟨some d, .call ⟨.value X, A, tys⟩, ty, pos, af, g⟩).run P w = .ok (.enter f (pre.toList ++ (args ++ caps.toList)).toArray) w := by
 subst ha
 have : (pre.toList ++ (A.toList.map (ev e) ++ caps.toList)).toArray = pre ++ A.map (ev e) ++ caps := by
  apply Array.ext'
  simp
 rw [this]
 simp only [execOp, resolve, hX, Deferred.ofValue, Sem.run_bind, Sem.run_pure, Result.andThen_ok, invoke, hc]
theorem runs_callV {X : Operand} {A : Array Operand} {tys : Array TypeId} {args : List Value} {v : Value} {h : J3} {R : World → List Value → (Value → World → Prop) → Prop} {post : Value → World → Prop} {w : World} (hf : FnH P h v R) (hk : Know h w Zh) (hR : R w args post) (hX : ev e X = v) (ha : A.toList.map (ev e) = args) :
  RunsTo P (ev e) ⟨some d, .call ⟨.value X, A, tys⟩, ty, pos, af, g⟩ w post := by
 obtain ⟨f, pre, caps, rfl, hc, hd⟩ := hf.out
 unfold RunsTo
 rw [run_callVP hc hX ha]
 exact hd args post w hk hR
theorem l_callV {X : Operand} {A : Array Operand} {tys : Array TypeId} {args : List Value} {v r : Value} {R : World → List Value → (Value → World → Prop) → Prop} (hf : ∀ w, Fr cx w → Sat cx w L → FnH P (fun b => w.heap[b]?) v R ∧ R w args (fun v' w' => v' = r ∧ Grow w w')) (hX : ev e X = v)
  (hw : Y3 ops ⟨some d, .call ⟨.value X, A, tys⟩, ty, pos, af, g⟩ e = true) (hn : Nat.blt d n = true) (ha : A.toList.map (ev e) = args)
  (k : At cx (WL P n ops Q rest) (upd e d r) L) : At cx (WL P n ops Q (⟨some d, .call ⟨.value X, A, tys⟩, ty, pos, af, g⟩ :: rest)) e L :=
 l_runs hw rfl hn fun w hF hS => (runs_callV (hf w hF hS).1 (Jx w) (hf w hF hS).2 hX ha).mono fun v' w' ⟨hv, hg⟩ => by
  subst hv
  exact k.out w' (hF.grow hg) (hS.grow hg)
theorem d_callV {X : Operand} {A : Array Operand} {tys : Array TypeId} {args : List Value} {v r : Value} {rds : List Nat} {R : World → List Value → (Value → World → Prop) → Prop} (hf : ∀ w L', Fr cx w → Sat cx w L' → (∀ i ∈ rds, L'[i]? = L[i]?) → FnH P (fun b => w.heap[b]?) v R ∧ R w args (fun v' w' => v' = r ∧ Grow w w')) (hX : ev e X = v)
  (hw : Y3 ops ⟨some d, .call ⟨.value X, A, tys⟩, ty, pos, af, g⟩ e = true) (ha : A.toList.map (ev e) = args)
  (k : Sq P cx ops F rest ss (upd e d r) L) : Sq P cx ops F (⟨some d, .call ⟨.value X, A, tys⟩, ty, pos, af, g⟩ :: rest) (.d rds r :: ss) e L :=
 d_det hw rfl (fun w L' hF hS hi => runs_callV (hf w L' hF hS hi).1 (Jx w) (hf w L' hF hS hi).2 hX ha) k
theorem makes_callV {σ : Type} {X : Operand} {A : Array Operand} {tys : Array TypeId} {args : List Value} {v : Value} {rds : List Nat} {G : σ → Value} {C : σ → Chunk} {R : World → List Value → (Value → World → Prop) → Prop}
  (hf : ∀ w L', Fr cx w → Sat cx w L' → (∀ j ∈ rds, L'[j]? = L[j]?) → FnH P (fun b => w.heap[b]?) v R ∧ R w args (fun v w' => ∃ x, v = G x ∧ Turn w w' Zh (C x))) (hX : ev e X = v)
  (ha : A.toList.map (ev e) = args) : Makes P cx e ⟨some d, .call ⟨.value X, A, tys⟩, ty, pos, af, g⟩ L rds G C := fun w L' hF hS hi =>
 runs_callV (hf w L' hF hS hi).1 (Jx w) (hf w L' hF hS hi).2 hX ha
theorem r_makeFn {dd : Option Nat} {f : FuncId} {cs : Array Operand} {caps : Array Value} (hcs : cs.toList.map (ev e) = caps.toList) (w : World) :
  (execOp (ev e) ⟨dd, .makeFunc (.func f) #[] cs, ty, pos, af, g⟩).run P w = .ok (.value (.func (.func f) #[] caps)) w := by
 have : caps = cs.map (ev e) := by apply Array.ext'; rw [← hcs]; simp
 subst this
 simp [execOp, Instr.makeFunc]
theorem Zt {dd : Option Nat} {T b o t : Nat} {A : Operand} {v : Value} {cs : List Value} {w : World} (hA : ∀ w, (isAgg T).run P w = .ok false w) (hp : ev e A = .pointer (some ⟨b, o, none⟩)) (hb : w.heap[b]? = some (.cells cs.toArray t (0, 0))) (hv : rg cs o = some v) :
  (execOp (ev e) ⟨dd, .load T A, ty, pos, af, g⟩).run P w = .ok (.value v) w := by
 have hc := cell_of (o := o) hb
 rw [← rg_eq, hv] at hc
 simp [execOp, Instr.loadAt, Instr.sureAddr, hp, Jad hA hc]
theorem run_loadKN {dd : Option Nat} {T b o t sz : Nat} {A : Operand} {cs vs : List Value} {w : World} (hA : ∀ w, (isAgg T).run P w = .ok true w) (hs : ∀ w, (sizeOf T).run P w = .ok sz w) (hp : ev e A = .pointer (some ⟨b, o, none⟩)) (hb : w.heap[b]? = some (.cells cs.toArray t (0, 0))) (hv : rd cs o sz = some vs) :
  (execOp (ev e) ⟨dd, .load T A, ty, pos, af, g⟩).run P w = .ok (.value (.agg vs.toArray)) w := by
 obtain ⟨h1, h2⟩ := rd_get hv
 have hr := V2 (P := P) (w := w) (b := b) (o := o) hA hs h1 (fun j v hj => by rw [cell_of hb]; exact h2 j v hj)
 simp [execOp, Instr.loadAt, Instr.sureAddr, hp, hr]
end rules
end Go.Lx

/- Rules: calls that take memory of the caller's own and hand it back turned. Conditions: none. -/
namespace Go.Lx
open Go Go.Vc Go.Md
open Classical in
noncomputable def but (w : World) (S : Nat → Prop) : J3 := fun b => if S b then none else w.heap[b]?
theorem but_some {w : World} {S : Nat → Prop} {b : Nat} {o : Obj} (hb : w.heap[b]? = some o) (hn : ¬ S b) : but w S b = some o := by
 unfold but; rw [if_neg hn]; exact hb
theorem Y0 (w : World) (S : Nat → Prop) : Know (but w S) w S := fun b o h => by
 unfold but at h
 split at h
 ·cases h
 ·exact ⟨h, by assumption⟩
section rules
variable {P : Program} {n : Nat} {cx : Cx} {e : X5} {L : List Chunk} {d : Nat} {ty : TypeId} {pos : String} {af : Array Edge} {g : Option (Nat × Bool)}
theorem Know.but {h : J3} {w0 w : World} {S0 S : Nat → Prop} (k : Know h w0 S0) (hF : Fr ⟨w0, S0⟩ w) (ho : ∀ b, S b → Cx.own ⟨w0, S0⟩ b) : ∀ b o, h b = some o → but w S b = some o := fun b o hb => by
 refine but_some (k.now hF b o hb) fun hs => ?_
 obtain ⟨h1, h2⟩ := k b o hb
 have hlt : b < w0.heap.size := by
  rcases Nat.lt_or_ge b w0.heap.size with h | h
  ·exact h
  ·rw [Array.getElem?_eq_none h] at h1; cases h1
 rcases ho b hs with h | h
 ·exact absurd h (by show ¬ w0.heap.size ≤ b; omega)
 ·exact h2 h
theorem FrS.but {w : World} {S : Nat → Prop} {sz : Nat} {v : Value} {xs : List (List Value)} (f : FrS (fun b => w.heap[b]?) sz v xs) (hd : ∀ b, v.ownBlock = some b → ¬ S b) : FrS (but w S) sz v xs := by
 obtain ⟨a, c, rfl, h1, h2, r⟩ := f.out
 refine ⟨a, c, rfl, h1, h2, ?_⟩
 rcases r with r | ⟨b, off, cs, T, m, rfl, hb, r⟩
 ·exact .inl r
 ·exact .inr ⟨b, off, cs, T, m, rfl, but_some hb (hd b rfl), r⟩
theorem rowV_block {E sz n : Nat} {v : Value} {xs : List (List Value)} {S : Nat → Prop} {w : World} (h : (Qq E sz v n xs).P S w) : ∀ b, v.ownBlock = some b → S b := h.2
def Apart (L' : List Chunk) (i : Nat) (w : World) (S : Nat → Prop) : Prop := ∀ j C, j ≠ i → L'[j]? = some C → ∃ S', C.P S' w ∧ ∀ b, S' b → ¬ S b
theorem frb_own {α : Type} {w : World} {S : Nat → Prop} {i j E sz n : Nat} {p : Option Addr × Nat} {xs : List α} {f : α → List Value} {L' : List Chunk} (hn : n = xs.length) (hA : Apart L' i w S) (hS : Sat cx w L') (hji : j ≠ i) (hL : L'[j]? = some (Qq E sz (.slice p.1 n p.2) n (xs.map f))) : FrS (but w S) sz (.slice p.1 n p.2) (xs.map f) := by
 obtain ⟨S', h1, h2⟩ := hA j _ hji hL
 exact (frs_own hn hS hL).but fun b hb => h2 b (rowV_block h1 b hb)
theorem frb_box {α : Type} {w : World} {S : Nat → Prop} {i j b m T sz : Nat} {cs : List Value} {xs : List α} {f : α → List Value} {L' : List Chunk} (hA : Apart L' i w S) (hS : Sat cx w L') (hji : j ≠ i) (hL : L'[j]? = some (Jp b cs T)) (hcs : (xs.map f).flatten = cs) (hl : ((xs.map f).all fun x => Nat.beq x.length sz) = true) (hm : xs.length = m) (hm' : Nat.ble m 9223372036854775807 = true) :
  FrS (but w S) sz (.slice (some ⟨b, 0, none⟩) m m) (xs.map f) := by
 obtain ⟨S', h1, h2⟩ := hA j _ hji hL
 exact (frs_box hS hL hcs hl hm hm').but fun q hq => h2 q ((h1.1 q).2 (by simpa [Value.ownBlock] using hq.symm))
theorem cell_but {w : World} {S : Nat → Prop} {i j b T : Nat} {cs : List Value} {L' : List Chunk} (hA : Apart L' i w S) (hS : Sat cx w L') (hji : j ≠ i) (hL : L'[j]? = some (Jp b cs T)) : but w S b = some (.cells cs.toArray T (0, 0)) := by
 obtain ⟨S', h1, h2⟩ := hA j _ hji hL
 exact but_some (Q8 hS hL) (h2 b ((h1.1 b).2 rfl))
theorem c_sel {K : X5 → World → Prop} (sel : List Nat) (L' : List Chunk) (hs : sel.map (fun i => L[i]?) = L'.map some) (hnd : sel.Nodup) (k : At cx K e L') : At cx K e L :=
 ⟨fun w hF hS => k.out w hF (hS.select sel hnd hs)⟩
theorem Ub {K : X5 → World → Prop} (i j : Nat) {C D : Chunk} (hL : L[i]? = some (Yk C D)) (hjL : L[j]? = some empC) (hne : i ≠ j) (k : At cx K e ((L.set i C).set j D)) : At cx K e L :=
 ⟨fun w hF hS => k.out w hF (by
  obtain ⟨fp, h1, h2, h3⟩ := hS.out
  obtain ⟨S1, S2, k1, k2, k3, k4, k5⟩ := h1 i _ hL
  have hil : i < L.length := by
   rcases Nat.lt_or_ge i L.length with h | h
   ·exact h
   ·simp [List.getElem?_eq_none h] at hL
  have hjl : j < L.length := by
   rcases Nat.lt_or_ge j L.length with h | h
   ·exact h
   ·simp [List.getElem?_eq_none h] at hjL
  have hji : ¬ j = i := fun h => hne h.symm
  have key : ∀ q b, (if q = i then S1 b else if q = j then S2 b else fp q b) → (q = i ∧ S1 b) ∨ (q = j ∧ S2 b) ∨ (q ≠ i ∧ q ≠ j ∧ fp q b) := by
   intro q b h
   by_cases hqi : q = i
   ·simp only [hqi, if_true] at h; exact .inl ⟨hqi, h⟩
   ·by_cases hqj : q = j
    ·simp only [hqi, hqj, hji, if_true, if_false] at h; exact .inr (.inl ⟨hqj, h⟩)
    ·simp only [hqi, hqj, if_false] at h; exact .inr (.inr ⟨hqi, hqj, h⟩)
  refine ⟨fun q b => if q = i then S1 b else if q = j then S2 b else fp q b, ?_, ?_, ?_⟩
  ·intro q c hc
   by_cases hqj : q = j
   ·subst hqj
    rw [List.getElem?_set_self (by simpa using hjl)] at hc
    cases hc
    simpa [hji] using k2
   ·rw [List.getElem?_set_ne (fun h => hqj h.symm)] at hc
    by_cases hqi : q = i
    ·subst hqi
     rw [List.getElem?_set_self hil] at hc
     cases hc
     simpa using k1
    ·rw [List.getElem?_set_ne (fun h => hqi h.symm)] at hc
     simpa [hqi, hqj] using h1 q c hc
  ·intro q b hb
   rcases key q b hb with ⟨rfl, h⟩ | ⟨rfl, h⟩ | ⟨_, _, h⟩
   ·exact ⟨by simpa using hil, (h2 _ b (k3 b h)).2⟩
   ·exact ⟨by simpa using hjl, (h2 _ b (k4 b h)).2⟩
   ·obtain ⟨a1, a2⟩ := h2 q b h
    exact ⟨by simpa using a1, a2⟩
  ·intro p q b hp hq
   rcases key p b hp with ⟨rfl, h⟩ | ⟨rfl, h⟩ | ⟨n1, n2, h⟩ <;> rcases key q b hq with ⟨e1, h'⟩ | ⟨e1, h'⟩ | ⟨m1, m2, h'⟩
   ·exact e1.symm
   ·exact absurd h' (k5 b h)
   ·exact absurd (h3 _ _ b (k3 b h) h') (fun h => m1 h.symm)
   ·exact absurd h (k5 b h')
   ·exact e1.symm
   ·exact absurd (h3 _ _ b (k4 b h) h') (fun h => m1 h.symm)
   ·exact absurd (h3 _ _ b h (e1 ▸ k3 b h')) (fun hh => n1 hh)
   ·exact absurd (h3 _ _ b h (k4 b h')) n1
   ·exact h3 p q b h h')⟩
theorem turns_opB {σ : Type} {o : Oper} {i : Nat} {f : FuncId} {args : List Value} {rds : List Nat} {G : σ → Value} {C0 : Chunk} {C : σ → Chunk} (hL : L[i]? = some C0)
  (h : ∀ w L' S, Fr cx w → Sat cx w L' → (∀ j ∈ rds, L'[j]? = L[j]?) → C0.P S w → (∀ b, S b → b < w.heap.size) → (∀ b, S b → cx.own b) → Apart L' i w S → Does P f args.toArray w fun v w' => ∃ x, v = G x ∧ Turn w w' S (C x)) (hr : ∀ w, (execOp (ev e) o).run P w = .ok (.enter f args.toArray) w) : Turns P cx e o L i rds G C := fun w L' hF hS hl hi => by
 unfold RunsTo
 rw [hr w]
 have hL' := (hi i (.inr rfl)).trans hL
 show Does P f args.toArray w _
 obtain ⟨fp, h1, h2, h3⟩ := hS.out
 have hSi : ∀ b, fp i b → b < w.heap.size ∧ cx.own b := fun b hb => (h2 i b hb).2
 refine (h w L' (fp i) hF hS (fun j hj => hi j (.inl hj)) (h1 i C0 hL') (fun b hb => (hSi b hb).1) (fun b hb => (hSi b hb).2) (fun j C hji hC => ⟨fp j, h1 j C hC, fun b hb hbi => hji (h3 j i b hb hbi)⟩)).mono fun v' w' ⟨x, hv, ht⟩ => ⟨x, hv, hF.turn ht fun b hb => (hSi b hb).2, ?_⟩
 obtain ⟨S', k1, k2⟩ := ht.out
 have hil : i < L'.length := by
  rcases Nat.lt_or_ge i L'.length with h | h
  ·exact h
  ·simp [List.getElem?_eq_none h] at hL'
 refine ⟨fun j b => if j = i then S' b else fp j b, ?_, ?_, ?_⟩
 ·intro j c hc'
  by_cases hji : j = i
  ·subst hji
   simp [List.getElem?_set_self hil] at hc'
   subst hc'
   simpa using k1
  ·rw [List.getElem?_set_ne (fun e => hji e.symm)] at hc'
   simp only [hji, if_false]
   exact c.loc _ _ _ (fun b hb => ht.block b (h2 j b hb).2.1 (fun hib => hji (h3 j i b hb hib))) (h1 j c hc')
 ·intro j b hb
  by_cases hji : j = i
  ·simp only [hji, if_true] at hb
   refine ⟨by simp [hji, hil], (k2 b hb).1, ?_⟩
   rcases (k2 b hb).2 with h | h
   ·exact (h2 i b h).2.2
   ·exact .inl (Nat.le_trans hF.size h)
  ·simp only [hji, if_false] at hb
   obtain ⟨a1, a2, a3⟩ := h2 j b hb
   exact ⟨by simpa using a1, Nat.lt_of_lt_of_le a2 ht.size, a3⟩
 ·intro j q b hj hq
  by_cases hji : j = i <;> by_cases hqi : q = i <;> simp only [hji, hqi, if_true, if_false] at hj hq
  ·omega
  ·obtain ⟨_, a2, _⟩ := h2 q b hq
   rcases (k2 b hj).2 with h | h
   ·exact absurd (h3 q i b hq h) hqi
   ·omega
  ·obtain ⟨_, a2, _⟩ := h2 j b hj
   rcases (k2 b hq).2 with h | h
   ·exact absurd (h3 j i b hj h) hji
   ·omega
  ·exact h3 j q b hj hq
theorem Q7 {σ : Type} {i : Nat} {f : FuncId} {A : Array Operand} {tys : Array TypeId} {args : List Value} {rds : List Nat} {G : σ → Value} {C0 : Chunk} {C : σ → Chunk} (hL : L[i]? = some C0)
  (h : ∀ w L' S, Fr cx w → Sat cx w L' → (∀ j ∈ rds, L'[j]? = L[j]?) → C0.P S w → (∀ b, S b → b < w.heap.size) → (∀ b, S b → cx.own b) → Apart L' i w S → Does P f args.toArray w fun v w' => ∃ x, v = G x ∧ Turn w w' S (C x)) (hc : ∀ args w, (callFunc f args).run P w = .ok (.enter f args) w)
  (ha : A.toList.map (ev e) = args) : Turns P cx e ⟨some d, .call ⟨.value (.func f), A, tys⟩, ty, pos, af, g⟩ L i rds G C :=
 turns_opB hL h (run_call hc ha)
end rules
end Go.Lx

/- Rules: floating-point numbers; stores into rows in a drawn region. Conditions: none. -/
namespace Go.Lx
open Go Go.Vc Go.Md
section ops
variable {P : Program} {e : X5} {d : Option Nat} {ty : TypeId} {pos : String} {af : Array Edge} {g : Option (Nat × Bool)}
theorem r_lenN {X : Operand} {a : Option Addr} {m c k : Nat} {t u : TypeId} (hu : P.underlying t = some (.slice u)) (hx : ev e X = .slice a m c) (h : m = k) (w : World) :
  (execOp (ev e) ⟨d, .call ⟨.builtin .len, #[X], #[t]⟩, ty, pos, af, g⟩).run P w = .ok (.value (.int .i64 k)) w := by
 subst h; exact Uj hu hx w
theorem r_negW {X : Operand} {x z : Int} {t : TypeId} {kd : IntKind} (hx : ev e X = .int kd x) (h : kd.wrap (0 - x) = z) (w : World) :
  (execOp (ev e) ⟨d, .unOp .neg t X, ty, pos, af, g⟩).run P w = .ok (.value (.int kd z)) w := by
 subst h
 simp [execOp, hx, Op.unary, Op.intArith]
end ops
def Kd.sr (i : Nat) (C : Chunk) : Kd := .g [] [i] [i] (fun _ _ v => v = undef) (fun _ _ _ => [C])
section rules
variable {P : Program} {n : Nat} {cx : Cx} {e : X5} {L : List Chunk} {ops : Array Oper} {rest : List Oper} {F : X5 → List Chunk → Prop} {ss : List Kd} {ty : TypeId} {pos : String} {af : Array Edge} {g : Option (Nat × Bool)}
theorem d_storeG {α : Type} {q T j sz szT k c E m : Nat} {A X : Operand} {x : Value} {a : Option Addr} {vs : List Value} {f : α → List Value} {xs ys : List α} {i : Int} {z : α} (hm : m = xs.length) (hs : ∀ w, (sizeOf T).run P w = .ok szT w)
  (hw : Y3 ops ⟨none, .store T A X, ty, pos, af, g⟩ e = true) (hp : ev e A = ptrAt a k) (hk : k = i.toNat * sz + j) (hx : ev e X = x) (hc : x.cells.toList = vs) (hsz : vs.length = szT)
  (hpos : Nat.blt 0 szT = true) (hone : vs.all Value.oneCell' = true) (hL : L[q]? = some (Qq E sz (.slice a m c) m (xs.map f))) (hv : ∀ y, Qn xs i = some y → wr (f y) j vs = some (f z)) (hg : gSet xs i z = some ys)
  (k' : Sq P cx ops F rest ss e (L.set q (Qq E sz (.slice a m c) m (ys.map f)))) : Sq P cx ops F (⟨none, .store T A X, ty, pos, af, g⟩ :: rest) (Kd.sr q (Qq E sz (.slice a m c) m (ys.map f)) :: ss) e L := by
 subst hm
 obtain ⟨h0, h1, rfl⟩ := gSet_some hg
 have hat : Qn xs i = some xs[i.toNat] := gAt_ok h0 h1
 have hv' := hv _ hat
 have hy := map_at (f := f) hat
 refine .take hw ⟨undef, rfl⟩ ⟨fun w L' hF hS _ hi => ?_⟩ fun v' hv' => ?_
 ·have hL' := (hi q (.inl (by simp [Kd.sr, Kd.rds]))).trans hL
  obtain ⟨S0, ⟨⟨ho, hlen, hlx⟩, hob⟩, _⟩ := hS.at hL'
  obtain ⟨w', hr, h2, h3⟩ := run_storeR (P := P) (ty := ty) (pos := pos) (af := af) (g := g) hs hp hk hx hc hsz hpos hone hy hv' ho hlen hlx
  have hpos' : 0 < vs.length := by rw [hsz]; simpa using hpos
  obtain ⟨g1, g2⟩ := wr_eq hv' hpos'
  obtain ⟨hF', hS'⟩ := hS.turnOf hF hL' (C := Qq E sz (.slice a xs.length c) xs.length ((xs.map f).set i.toNat (f z))) fun S1 hp => turn_append hp.2 h2 h3 (.inl rfl) (by simp [hlen]) (by
   intro z' hz
   rcases List.mem_or_eq_of_mem_set hz with h | h
   ·exact hlx z' h
   ·subst h; rw [g2]; have := hlx _ (List.mem_of_getElem? hy); simp only [List.length_append, List.length_take, List.length_drop]; omega)
  unfold RunsTo
  rw [hr]
  refine ⟨rfl, hF', ?_⟩
  rw [← List.map_set] at hS'
  exact hS'
 ·exact k'
end rules
end Go.Lx

/- Rules: slices of arrays as strings; a range over a string of ASCII octets; long arrays as boxes. Conditions: none. -/
namespace Go.Lx
open Go Go.Vc Go.Md
theorem caseB {p : Prop} (b : Bool) (ht : b = true → p) (hf : b = false → p) : p := by
 cases b
 ·exact hf rfl
 ·exact ht rfl
def W9 (n : Nat) (f : Nat → List Value) : List Value := (List.range n).flatMap f
theorem arr_whole (n : Nat) (f : Nat → List Value) : W9 n f = [] ++ ((List.range n).flatMap f ++ []) := by rw [List.nil_append, List.append_nil]; rfl
theorem Wm {n : Nat} {f : Nat → List Value} (hf : ∀ j, (f j).length = 1) : (W9 n f).length = n := by
 unfold W9
 induction n with
 | zero => rfl
 | succ n ih => rw [List.range_succ, List.flatMap_append, List.flatMap_singleton, List.length_append, ih, hf]
theorem arrC_one {n : Nat} {f : Nat → List Value} (hf : ∀ j, (f j).all Value.oneCell' = true) : (W9 n f).all Value.oneCell' = true := by
 unfold W9
 rw [List.all_eq_true]
 intro v hv
 obtain ⟨j, _, h⟩ := List.mem_flatMap.1 hv
 exact List.all_eq_true.1 (hf j) v h
theorem wr_whole {cs vs : List Value} (h : cs.length = vs.length) : wr cs 0 vs = some vs := by
 rw [wr_of (by omega), Nat.zero_add, ← h, List.drop_length]; simp
theorem rd_whole {cs : List Value} {n : Nat} (h : cs.length = n) : rd cs 0 n = some cs := by
 subst h
 induction cs with
 | nil => rfl
 | cons c cs ih =>
  have e : ∀ (l : List Value) (k : Nat), rd l 0 k = rdn l k := fun l k => by cases l <;> rfl
  rw [e] at *
  show rdn (c :: cs) (cs.length + 1) = some (c :: cs)
  unfold rdn
  rw [ih]; rfl
section ops
variable {P : Program} {cx : Cx} {e : X5} {L : List Chunk} {d : Option Nat} {ty : TypeId} {pos : String} {af : Array Edge} {g : Option (Nat × Bool)}
theorem Qk {X : Operand} {a : Addr} (hx : ev e X = .pointer (some a)) (w : World) :
  (execOp (ev e) ⟨d, .nilCheck X, ty, pos, af, g⟩).run P w = .ok (.value (.pointer (some a))) w := by
 simp only [execOp, hx, Sem.run_pure]
def iterC (b : Nat) (s : List UInt8) (k : Nat) : Chunk where
 P S w := (∀ x, S x ↔ x = b) ∧ w.heap[b]? = some (.stringIter ⟨s.toArray⟩ k)
 loc S w w' h hp := ⟨hp.1, by rw [h b ((hp.1 b).2 rfl)]; exact hp.2⟩
theorem makes_range {X : Operand} {t d : Nat} {s : List UInt8} {rds : List Nat} (ht : P.underlying t = some .string) (hx : ev e X = str s) :
  Makes P cx e ⟨some d, .range t X, ty, pos, af, g⟩ L rds (fun b : Nat => .pointer (some ⟨b, 0, none⟩)) (fun b => iterC b s 0) := fun w L' hF hS _ => by
 unfold RunsTo
 have hr : (execOp (ev e) ⟨some d, .range t X, ty, pos, af, g⟩).run P w = .ok (.value (.pointer (some ⟨w.heap.size, 0, none⟩))) (w.alloc (.stringIter ⟨s.toArray⟩ 0)) := by
  simp [execOp, Instr.range, hx, run_underlying ht, newObj, Sem.run]
 rw [hr]
 have gr := Up w (.stringIter ⟨s.toArray⟩ 0)
 exact ⟨w.heap.size, rfl, gr.os, gr.tape, gr.output, gr.size, fun b hb _ => gr.block b hb, fun x => x = w.heap.size, ⟨fun _ => Iff.rfl, heap_alloc_new w _⟩, fun b hb => by subst hb; exact ⟨by simp, .inr (Nat.le_refl _)⟩⟩
theorem turns_next {X : Operand} {d i b k : Nat} {s : List UInt8} {c : Int} {rds : List Nat} (hL : L[i]? = some (iterC b s k)) (hx : ev e X = .pointer (some ⟨b, 0, none⟩)) (hg : gNx s k = some c) :
  Turns P cx e ⟨some d, .next X true, ty, pos, af, g⟩ L i rds (fun _ : Unit => .tuple #[.bool true, .int .i64 (k : Nat), .int .i32 c]) (fun _ => iterC b s (k + 1)) := fun w L' hF hS _ hi' => by
 have hL' := (hi' i (.inr rfl)).trans hL
 obtain ⟨hk, hc, rfl⟩ := gNx_some hg
 obtain ⟨S, hp, hb⟩ := hS.at hL'
 have hh := hp.2
 have hlt : b < w.heap.size := (Array.getElem?_eq_some_iff.1 hh).1
 have hw' : (execOp (ev e) ⟨some d, .next X true, ty, pos, af, g⟩).run P w = .ok (.value (.tuple #[.bool true, .int .i64 (k : Nat), .int .i32 ((s[k]).toNat : Nat)])) { w with heap := w.heap.setIfInBounds b (.stringIter ⟨s.toArray⟩ (k + 1)) } := by
  have hs : k < (⟨s.toArray⟩ : ByteArray).size := by simpa [ByteArray.size] using hk
  have e : (⟨s.toArray⟩ : ByteArray)[k]'hs = s[k] := by show s.toArray[k] = s[k]; simp
  have hd := decode_ascii (⟨s.toArray⟩ : ByteArray) k hs (by rw [e]; exact hc)
  simp only [execOp, hx, Instr.next, getObj, setObj, Sem.run_bind, Sem.run, hh, Result.andThen, hs, if_true, hd]
  simp [goInt, Sem.run, hh, e]
 unfold RunsTo
 rw [hw']
 have hS' := hS.turnOf (w' := { w with heap := w.heap.setIfInBounds b (.stringIter ⟨s.toArray⟩ (k + 1)) }) hF hL' (C := iterC b s (k + 1)) fun S1 hp1 =>
  ⟨rfl, rfl, rfl, by simp, fun x _ hx => by rw [Array.getElem?_setIfInBounds_ne (fun h => hx ((hp1.1 x).2 h.symm))], S1, ⟨hp1.1, by simp [hlt]⟩, fun x hx => ⟨by rw [(hp1.1 x).1 hx]; simpa using hlt, .inl hx⟩⟩
 exact ⟨(), rfl, hS'.1, hS'.2⟩
theorem r_nextOver {X : Operand} {i b k : Nat} {s : List UInt8} {w : World} (hS : Sat cx w L) (hL : L[i]? = some (iterC b s k)) (hx : ev e X = .pointer (some ⟨b, 0, none⟩)) (hk : decide (k < s.length) = false) :
  (execOp (ev e) ⟨d, .next X true, ty, pos, af, g⟩).run P w = .ok (.value (.tuple #[.bool false])) w := by
 obtain ⟨S, hp, _⟩ := hS.at hL
 have hh := hp.2
 have hk' : ¬ k < s.length := of_decide_eq_false hk
 have hs : ¬ k < (⟨s.toArray⟩ : ByteArray).size := by simpa [ByteArray.size] using hk'
 simp only [execOp, hx, Instr.next, getObj, Sem.run_bind, Sem.run, hh, Result.andThen, hs, if_false]
 simp [Sem.run]
end ops
end Go.Lx

/- Rules: a character as a string; strings in their order. Conditions: none. -/
namespace Go.Lx
open Go Go.Vc Go.Md
theorem less_eq : ∀ (a b : List UInt8), Op.bytesLess a b = ltB a b
 | [], [] => rfl
 | [], _ :: _ => rfl
 | _ :: _, [] => rfl
 | a :: x, b :: y => by rw [Op.bytesLess, ltB, less_eq x y]
section ops
variable {P : Program} {e : X5} {d : Option Nat} {ty : TypeId} {pos : String} {af : Array Edge} {g : Option (Nat × Bool)}
theorem r_lssT {X Y : Operand} {a b : List UInt8} {t t' : TypeId} (hx : ev e X = str a) (hy : ev e Y = str b) (w : World) :
  (execOp (ev e) ⟨d, .binOp .lss t X Y t', ty, pos, af, g⟩).run P w = .ok (.value (.bool (ltB a b))) w := by
 simp [execOp, hx, hy, eqGuard, binOp_string_lss, less_eq]
end ops
end Go.Lx

/- Rules: parts of rows of one's own, that are only read. Conditions: none. -/
namespace Go.Lx
open Go Go.Vc Go.Md
theorem gCut_len {α : Type} {xs ys : List α} {l q : Int} (e : Um xs l q = some ys) : ys.length = q.toNat - l.toNat := by
 obtain ⟨g0, g1, g2, rfl⟩ := Va e
 rw [List.length_take, List.length_drop]; omega
section ops
variable {P : Program} {e : X5} {d : Option Nat} {ty : TypeId} {pos : String} {af : Array Edge} {g : Option (Nat × Bool)}
theorem run_sliceLO {α : Type} {X A : Operand} {a : Option Addr} {m c : Nat} {t u sz : Nat} {ka : IntKind} {l : Int} {xs ys : List α} {w : World} (hu : P.underlying t = some (.slice u)) (hs : ∀ w, (sizeOf u).run P w = .ok sz w)
  (hx : ev e X = .slice a m c) (ha : ev e A = .int ka l) (hm : m = xs.length) (_hc : m ≤ c) (hg : Um xs l xs.length = some ys) :
  (execOp (ev e) ⟨d, .slice t X (some A) none none, ty, pos, af, g⟩).run P w = .ok (.value (.slice (Y4 a l.toNat c sz) ys.length (c - l.toNat))) w := by
 obtain ⟨g0, g1, g2, _⟩ := Va hg
 have hl := gCut_len hg
 rw [r_sliceL hu hs hx ha g0 (by omega) w]
 congr 4; omega
end ops
end Go.Lx

/- Rules: facts that are carried as chunks which own nothing; functions as results; copies into rows; arrays out of slices. Conditions: none. -/
namespace Go.Lx
open Go Go.Vc Go.Md
section rules
variable {cx : Cx} {K : X5 → World → Prop} {e : X5} {L : List Chunk}
end rules
def FnV {μ : Type} (P : Program) (v : Value) (m : Option μ) (R : μ → World → List Value → (Value → World → Prop) → Prop) : Prop := (m = none ∧ v = .nilFunc) ∨ ∃ g, m = some g ∧ ∀ h, FnH P h v (R g)
theorem FnV.nil {μ : Type} {P : Program} {R : μ → World → List Value → (Value → World → Prop) → Prop} : FnV P .nilFunc none R := .inl ⟨rfl, rfl⟩
theorem FnV.mk {μ : Type} {P : Program} {v : Value} {g : μ} {R : μ → World → List Value → (Value → World → Prop) → Prop} (h : ∀ h, FnH P h v (R g)) : FnV P v (some g) R := .inr ⟨g, rfl, h⟩
theorem FnV.cells {μ : Type} {P : Program} {v : Value} {m : Option μ} {R : μ → World → List Value → (Value → World → Prop) → Prop} (f : FnV P v m R) : v.cells.toList = [v] := by
 rcases f with ⟨_, rfl⟩ | ⟨g, _, f⟩
 ·rfl
 ·exact (f fun _ => none).cells
theorem FnV.one {μ : Type} {P : Program} {v : Value} {m : Option μ} {R : μ → World → List Value → (Value → World → Prop) → Prop} (f : FnV P v m R) : v.oneCell' = true := by
 rcases f with ⟨_, rfl⟩ | ⟨g, _, f⟩
 ·rfl
 ·exact (f fun _ => none).one
theorem FnV.fn {μ : Type} {P : Program} {v : Value} {m : Option μ} {g : μ} {R : μ → World → List Value → (Value → World → Prop) → Prop} (f : FnV P v m R) (hm : m = some g) (h : J3) : FnH P h v (R g) := by
 rcases f with ⟨h1, _⟩ | ⟨g', h1, f⟩
 ·rw [hm] at h1; cases h1
 ·rw [hm] at h1; cases h1; exact f h
section ops
variable {P : Program} {e : X5} {d : Option Nat} {ty : TypeId} {pos : String} {af : Array Edge} {g : Option (Nat × Bool)}
theorem r_fieldV {X : Operand} {T fld ft fo : Nat} {nm tg pk : String} {em : Bool} {bo : Nat} {fs : Array Field} {cs : Array Value} {v : Value} (hu : ∀ w, (underlying T).run P w = .ok (.struct fs) w) (hA : ∀ w, (isAgg ft).run P w = .ok false w)
  (hx : ev e X = .agg cs) (hf : fs[fld]? = some ⟨nm, ft, fo, em, tg, pk, bo⟩) (hv : cs[fo]? = some v) (w : World) :
  (execOp (ev e) ⟨d, .field T X fld, ty, pos, af, g⟩).run P w = .ok (.value v) w := by
 simp [execOp, Instr.field, hx, hu, hf, asAgg, part, hA, hv]
end ops
section rules
variable {P : Program} {n : Nat} {cx : Cx} {e : X5} {L : List Chunk} {ops : Array Oper} {rest : List Oper} {Q : Ue} {F : X5 → List Chunk → Prop} {ss : List Kd} {d : Option Nat} {ty : TypeId} {pos : String} {af : Array Edge} {g : Option (Nat × Bool)}
theorem l_turn0 {σ : Type} {o : Oper} {i : Nat} {rds : List Nat} {G : σ → Value} {C : σ → Chunk} (h : Turns P cx e o L i rds G C) (hw : Y3 ops o e = true) (hd : o.dst = none)
  (k : ∀ x, At cx (WL P n ops Q rest) e (L.set i (C x))) : At cx (WL P n ops Q (o :: rest)) e L :=
 ⟨fun w hF hS => ⟨fun a ha => by
  have hr := (h w L hF hS rfl (fun _ _ => rfl)).mono (R' := fun _ w' => WL P n ops Q rest e w') fun v w' ⟨x, hv, hF', hS'⟩ => (k x).out w' hF' hS'
  unfold RunsTo at hr
  unfold wpList
  rw [want_eq ha, hw, if_pos rfl]
  refine .inl ?_
  unfold Oper.wp
  rw [ha.ev]
  generalize (execOp (ev e) o).run P w = r at hr
  cases r with
  | halt x w' => exact hr.elim
  | ok nx w' =>
   cases nx with
   | value v =>
    show wpList P ops (lift n Q) rest (a.put o.dst v) w'
    rw [hd]
    exact hr.out _ ha
   | skip =>
    show wpList P ops (lift n Q) rest (a.put o.dst undef) w'
    rw [hd]
    exact hr.out _ ha
   | enter f args =>
    refine Calls.mono hr ?_
    rintro en w'' ⟨v, rfl, hk⟩
    show wpList P ops (lift n Q) rest (a.put o.dst v) w''
    rw [hd]
    exact hk.out _ ha
   | _ => exact hr.elim⟩⟩
end rules
def _root_.Go.Vc.Kd.fv (φ : Value → Prop) : Kd := .g [] [] [] (fun _ _ v => φ v) (fun _ _ _ => [])
section rules
variable {P : Program} {n : Nat} {cx : Cx} {e : X5} {L : List Chunk} {ops : Array Oper} {rest : List Oper} {Q : Ue} {F : X5 → List Chunk → Prop} {ss : List Kd} {d : Nat} {ty : TypeId} {pos : String} {af : Array Edge} {g : Option (Nat × Bool)}
end rules
end Go.Lx

/- Rules: results that came in; rows that are only read and may be the caller's; slices compared with nil; parts of known slices. Conditions: none. -/
namespace Go.Lx
open Go Go.Vc Go.Md
theorem Know.at {h : J3} {w0 w : World} {S : Nat → Prop} (k : Know h w0 S) (hF : Fr ⟨w0, S⟩ w) : Know h w Zh := fun b o hb => ⟨k.now hF b o hb, fun x => x⟩
theorem FrS.cutL {α : Type} {h : J3} {sz : Nat} {a : Option Addr} {n c : Nat} {f : α → List Value} {xs ys : List α} {l q : Int} (s : FrS h sz (.slice a n c) (xs.map f)) (e : Um xs l q = some ys) : FrS h sz (.slice (Y4 a l.toNat c sz) ys.length (c - l.toNat)) (ys.map f) := by
 have := s.cut e
 rw [gCut_len e]
 exact this
def isNilV : Value → Bool | .slice none _ _ => true | _ => false
theorem FrS.nilV {h : J3} {sz : Nat} {v : Value} {α : Type} {f : α → List Value} {xs : List α} (s : FrS h sz v (xs.map f)) (hb : isNilV v = true) : xs = [] := by
 obtain ⟨a, c, rfl, _, _, r⟩ := s.out
 rcases r with r | ⟨b, off, cs, T, m, rfl, _⟩
 ·simpa using r
 ·simp [isNilV] at hb
section ops
variable {P : Program} {e : X5} {d : Option Nat} {ty : TypeId} {pos : String} {af : Array Edge} {g : Option (Nat × Bool)}
theorem eq_nilS {a : Option Addr} {m c : Nat} {t u : TypeId} (ht : P.underlying t = some (.slice u)) (n : Nat) (w : World) : (Op.equalIn (n + 1) t (.slice a m c) (.slice none 0 0)).run P w = .ok (isNilV (.slice a m c)) w := by
 cases a <;> simp [Op.equalIn, run_underlying ht, isNilV]
theorem r_eqlNilS {X Y : Operand} {v : Value} {t t' u sz : TypeId} {h : J3} {xs : List (List Value)} (ht : P.underlying t = some (.slice u)) (s : FrS h sz v xs) (hx : ev e X = v) (hy : ev e Y = .slice none 0 0) (w : World) :
  (execOp (ev e) ⟨d, .binOp .eql t X Y t', ty, pos, af, g⟩).run P w = .ok (.value (.bool (isNilV v))) w := by
 obtain ⟨a, c, rfl, _⟩ := s.out
 have h0 := eq_nilS (P := P) (a := a) (m := xs.length) (c := c) ht 9999 w
 simp [execOp, hx, hy, eqGuard, binOp, Op.equal, Op.maxDepth, h0]
end ops
section rules
variable {P : Program} {n : Nat} {cx : Cx} {e : X5} {L : List Chunk} {ops : Array Oper} {rest : List Oper} {Q : Ue} {F : X5 → List Chunk → Prop} {ss : List Kd} {d : Nat} {ty : TypeId} {pos : String} {af : Array Edge} {g : Option (Nat × Bool)}
end rules
end Go.Lx

/- Rules: slices whose elements hold slices, as they came in: cells read off the known memory, and what each element stands for. Conditions: none. -/
namespace Go.Lx
open Go Go.Vc Go.Md
def U3 (h : J3) (v : Value) (sz i j : Nat) : Value :=
 if j < sz then match v with
 | .slice (some ⟨b, off, _⟩) _ _ => match h b with
  | some (.cells cs _ _) => cs.getD (off + i * sz + j) undef
  | _ => undef
 | _ => undef else undef
def elC (h : J3) (v : Value) (sz i : Nat) : List Value := (List.range sz).map (U3 h v sz i)
class Mon {α : Type} (G : J3 → (Nat → Value) → α → Prop) : Prop where
 mono : ∀ {h h' : J3}, (∀ b o, h b = some o → h' b = some o) → ∀ c x, G h c x → G h' c x
structure FrN {α : Type} (h : J3) (sz : Nat) (v : Value) (G : J3 → (Nat → Value) → α → Prop) (xs : List α) : Prop where
 frs : FrS h sz v ((List.range xs.length).map (elC h v sz))
 el : ∀ (i : Nat) (x : α), xs[i]? = some x → G h (U3 h v sz i) x
theorem elH_mono {h h' : J3} {v : Value} {sz : Nat} {ys : List (List Value)} (f : FrS h sz v ys) (hy : 0 < ys.length) (k : ∀ b o, h b = some o → h' b = some o) (i : Nat) : U3 h v sz i = U3 h' v sz i := by
 funext j
 obtain ⟨a, c, rfl, _, _, r⟩ := f.out
 rcases r with r | ⟨b, off, cs, T, m, rfl, hb, _⟩
 ·subst r; simp at hy
 ·simp only [U3, hb, k b _ hb]
theorem FrN.mono {α : Type} {h h' : J3} {sz : Nat} {v : Value} {G : J3 → (Nat → Value) → α → Prop} [M : Mon G] {xs : List α} (f : FrN h sz v G xs) (k : ∀ b o, h b = some o → h' b = some o) : FrN h' sz v G xs := by
 have key : ∀ i, i < xs.length → U3 h v sz i = U3 h' v sz i := fun i hi => elH_mono f.frs (by simp; omega) k i
 refine ⟨?_, fun i x hx => ?_⟩
 ·have := f.frs.mono k
  have e : (List.range xs.length).map (elC h v sz) = (List.range xs.length).map (elC h' v sz) := by
   apply List.map_congr_left
   intro i hi
   unfold elC
   rw [key i (by simpa using hi)]
  rwa [e] at this
 ·have hi : i < xs.length := by
   rcases Nat.lt_or_ge i xs.length with h | h
   ·exact h
   ·rw [List.getElem?_eq_none h] at hx; cases hx
  rw [← key i hi]
  exact M.mono k _ _ (f.el i x hx)
theorem FrN.nil {α : Type} (h : J3) (sz : Nat) (G : J3 → (Nat → Value) → α → Prop) : FrN h sz (.slice none 0 0) G [] := ⟨FrS.nil _ _, by simp⟩
section acc
variable {α : Type} {h : J3} {sz : Nat} {v : Value} {G : J3 → (Nat → Value) → α → Prop} {xs ys : List α}
theorem FrN.cells (f : FrN h sz v G xs) : v.cells.toList = [v] := f.frs.cells
theorem FrN.one (f : FrN h sz v G xs) : v.oneCell' = true := f.frs.one
theorem FrN.eq (f : FrN h sz v G xs) : v = .slice (sa v) xs.length (sc v) := by
 have := f.frs.eq; rwa [List.length_map, List.length_range] at this
theorem FrN.len (f : FrN h sz v G xs) : xs.length ≤ sc v ∧ sc v ≤ 9223372036854775807 := by
 have := f.frs.len; rwa [List.length_map, List.length_range] at this
theorem FrN.at (f : FrN h sz v G xs) {i : Int} {x : α} (g : Qn xs i = some x) : G h (U3 h v sz i.toNat) x := f.el _ _ (Yo g).2.2
theorem FrN.ix (_ : FrN h sz v G xs) {i : Int} {x : α} (g : Qn xs i = some x) : Qn (List.range xs.length) i = some i.toNat := by
 obtain ⟨h0, h1, _⟩ := Yo g
 rw [gAt_ok h0 (by simpa using h1)]; simp
theorem FrN.nilV (f : FrN h sz v G xs) (hb : isNilV v = true) : xs = [] := by
 have := FrS.nilV f.frs hb
 exact List.eq_nil_of_length_eq_zero (by simpa using congrArg List.length this)
theorem gCut_range {l q : Int} (e : Um xs l q = some ys) : Um (List.range xs.length) l q = some (((List.range xs.length).drop l.toNat).take (q.toNat - l.toNat)) := by
 obtain ⟨g0, g1, g2, _⟩ := Va e
 exact gCut_ok ⟨g0, g1, by simpa using g2⟩
theorem FrN.cut (f : FrN h sz v G xs) {l q : Int} (e : Um xs l q = some ys) : FrN h sz (cutV sz v l q) G ys := by
 obtain ⟨g0, g1, g2, rfl⟩ := Va e
 have hl := f.len
 have h0 := FrS.cut f.frs (gCut_range e)
 have hlen : ((xs.drop l.toNat).take (q.toNat - l.toNat)).length = q.toNat - l.toNat := by rw [List.length_take, List.length_drop]; omega
 have key : ∀ i, i < q.toNat - l.toNat → U3 h (cutV sz v l q) sz i = U3 h v sz (l.toNat + i) := by
  intro i hi
  funext j
  obtain ⟨a, c, hva, h1, _, r⟩ := f.frs.out
  simp only [List.length_map, List.length_range] at hva h1
  rcases r with r | ⟨b, off, cs, T, m, ha, hb, _⟩
  ·have := congrArg List.length r
   simp at this
   rw [this] at g2
   simp at g2
   omega
  ·have hm : ¬ c = l.toNat := by omega
   rw [hva, ha]
   simp only [cutV, sa, sc, Y4, if_neg hm, Option.map_some, Addr.add_lit, U3, hb]
   rw [show off + l.toNat * sz + i * sz + j = off + (l.toNat + i) * sz + j from by rw [Nat.add_mul]; omega]
 refine ⟨?_, fun i x hx => ?_⟩
 ·have e1 : ((List.range ((xs.drop l.toNat).take (q.toNat - l.toNat)).length).map (elC h (cutV sz v l q) sz)) = (((List.range xs.length).drop l.toNat).take (q.toNat - l.toNat)).map (elC h v sz) := by
   rw [hlen]
   apply List.ext_getElem
   ·simp; omega
   ·intro i h1 h2
    simp only [List.length_map, List.length_range] at h1
    simp only [List.getElem_map, List.getElem_range, List.getElem_take, List.getElem_drop]
    unfold elC
    rw [key i h1]
  rw [e1]; exact h0
 ·have hi : i < q.toNat - l.toNat := by
   rcases Nat.lt_or_ge i (q.toNat - l.toNat) with h | h
   ·exact h
   ·rw [List.getElem?_eq_none (by rw [hlen]; exact h)] at hx; cases hx
  rw [key i hi]
  rw [List.getElem?_take, if_pos hi, List.getElem?_drop] at hx
  exact f.el _ _ hx
end acc
theorem FrN.cutL {α : Type} {h : J3} {sz : Nat} {a : Option Addr} {n c : Nat} {G : J3 → (Nat → Value) → α → Prop} {xs ys : List α} {l q : Int} (s : FrN h sz (.slice a n c) G xs) (e : Um xs l q = some ys) : FrN h sz (.slice (Y4 a l.toNat c sz) ys.length (c - l.toNat)) G ys := by
 have := s.cut e
 rw [gCut_len e]
 exact this
theorem rd_of {l l' vs : List Value} {j n : Nat} (e : l = l') (h : rd l' j n = some vs) : rd l j n = some vs := by subst e; exact h
theorem rg_of {l l' : List Value} {j : Nat} {v : Value} (e : l = l') (h : rg l' j = some v) : rg l j = some v := by subst e; exact h
def AllG {α : Type} (G : J3 → (Nat → Value) → α → Prop) (h : J3) (sz : Nat) : List Value → List α → Prop
 | cs, [] => cs = []
 | cs, x :: r => G h (fun j => (cs.take sz).getD j undef) x ∧ AllG G h sz (cs.drop sz) r
theorem AllG.el {α : Type} {G : J3 → (Nat → Value) → α → Prop} {h : J3} {sz : Nat} : ∀ {cs : List Value} {xs : List α}, AllG G h sz cs xs → ∀ (i : Nat) (x : α), xs[i]? = some x → G h (fun j => ((cs.drop (i * sz)).take sz).getD j undef) x
 | _, [], _, i, x, hx => by simp at hx
 | cs, y :: r, hp, 0, x, hx => by
  simp at hx; subst hx
  have := hp.1
  simpa using this
 | cs, y :: r, hp, i + 1, x, hx => by
  have := AllG.el hp.2 i x (by simpa using hx)
  rw [List.drop_drop, show sz + i * sz = (i + 1) * sz from by rw [Nat.succ_mul]; omega] at this
  exact this
section rules
variable {P : Program} {n : Nat} {cx : Cx} {e : X5} {L : List Chunk}
theorem frn_box {α : Type} {G : J3 → (Nat → Value) → α → Prop} {w : World} {i b m T sz : Nat} {cs : List Value} {xs : List α} (hS : Sat cx w L) (hL : L[i]? = some (Jp b cs T)) (hl : cs.length = m * sz) (hm : xs.length = m) (hm' : Nat.ble m 9223372036854775807 = true)
  (hG : AllG G (fun b => w.heap[b]?) sz cs xs) : FrN (fun b => w.heap[b]?) sz (.slice (some ⟨b, 0, none⟩) m m) G xs := by
 subst hm
 have hb : w.heap[b]? = some (.cells cs.toArray T (0, 0)) := Q8 hS hL
 have key : ∀ i, U3 (fun b => w.heap[b]?) (.slice (some ⟨b, 0, none⟩) xs.length xs.length) sz i = fun j => ((cs.drop (i * sz)).take sz).getD j undef := by
  intro i; funext j
  simp only [U3, hb, Nat.zero_add, List.getD_eq_getElem?_getD, Array.getD_eq_getD_getElem?, List.getElem?_toArray, List.getElem?_take, List.getElem?_drop]
  split <;> rfl
 refine ⟨⟨some ⟨b, 0, none⟩, xs.length, by simp, by simp, by simpa using hm', .inr ⟨b, 0, cs.toArray, T, (0, 0), rfl, hb, fun i x hx => ?_⟩⟩, fun i x hx => ?_⟩
 ·have hi : i < xs.length := by
   rcases Nat.lt_or_ge i xs.length with h | h
   ·exact h
   ·rw [List.getElem?_eq_none (by simpa using h)] at hx; cases hx
  simp only [List.getElem?_map, List.getElem?_range hi, Option.map_some, Option.some.injEq] at hx
  subst hx
  refine ⟨by simp [elC], fun j v hv => ?_⟩
  unfold elC at hv
  rw [key i] at hv
  have hj : j < sz := by
   rcases Nat.lt_or_ge j sz with h | h
   ·exact h
   ·rw [List.getElem?_eq_none (by simpa using h)] at hv; cases hv
  simp only [List.getElem?_map, List.getElem?_range hj, Option.map_some, Option.some.injEq] at hv
  have hlt : i * sz + j < cs.length := by
   rw [hl]
   have : (i + 1) * sz ≤ xs.length * sz := Nat.mul_le_mul_right _ (by omega)
   rw [Nat.succ_mul] at this
   omega
  rw [← hv]
  simp [List.getD_eq_getElem?_getD, List.getElem?_eq_getElem hlt, List.getElem?_take, List.getElem?_drop, hj]
 ·rw [key i]
  exact hG.el i x hx
section ops
variable {d : Option Nat} {ty : TypeId} {pos : String} {af : Array Edge} {g : Option (Nat × Bool)}
theorem r_lenFN {α : Type} {G : J3 → (Nat → Value) → α → Prop} {X : Operand} {t u sz : TypeId} {h : J3} {v : Value} {xs : List α} (hu : P.underlying t = some (.slice u)) (hx : ev e X = v) (hs : FrN h sz v G xs) (w : World) :
  (execOp (ev e) ⟨d, .call ⟨.builtin .len, #[X], #[t]⟩, ty, pos, af, g⟩).run P w = .ok (.value (.int .i64 xs.length)) w :=
 Uj (P := P) (d := d) (ty := ty) (pos := pos) (af := af) (g := g) hu (hx.trans hs.eq) w
end ops
end rules
end Go.Lx

/- Rules: strings.Builder, as a chunk that holds octets. Conditions: none. -/
namespace Go.Lx
open Go Go.Vc Go.Md
abbrev e8 (x : Int) : List Value := [.int .u8 x]
section rules
variable {P : Program} {n : Nat} {cx : Cx} {Q : Ue} {K : X5 → World → Prop} {e : X5} {L : List Chunk} {ops : Array Oper} {F : X5 → List Chunk → Prop} {rest : List Oper} {ss : List Kd} {d : Nat} {ty : TypeId} {pos : String} {af : Array Edge} {g : Option (Nat × Bool)}
section ops
end ops
end rules
end Go.Lx

/- Rules: parts of arrays as arguments. Conditions: none. -/
namespace Go.Lx
open Go Go.Vc Go.Md
section rules
variable {P : Program} {cx : Cx} {e : X5} {L : List Chunk}
end rules
theorem cells_sz {v : Value} (h : v.cells.toList = [v]) : v.cells.size = 1 := by have := congrArg List.length h; simpa using this
def litC (cs : List Value) (sz i : Nat) : List Value := (List.range sz).map fun j => ((cs.drop (i * sz)).take sz).getD j undef
theorem gAt_range {α : Type} {xs : List α} {i : Int} {x : α} (g : Qn xs i = some x) : Qn (List.range xs.length) i = some i.toNat := by
 obtain ⟨h0, h1, _⟩ := Yo g
 rw [gAt_ok h0 (by simpa using h1)]; simp
section rules
variable {P : Program} {n : Nat} {cx : Cx} {e : X5} {L : List Chunk} {d : Nat} {ty : TypeId} {pos : String} {af : Array Edge} {g : Option (Nat × Bool)}
theorem r_cap {dd : Option Nat} {X : Operand} {t u m c : Nat} {a : Option Addr} (hu : P.underlying t = some (.slice u)) (hx : ev e X = .slice a m c) (w : World) :
  (execOp (ev e) ⟨dd, .call ⟨.builtin .cap, #[X], #[t]⟩, ty, pos, af, g⟩).run P w = .ok (.value (.int .i64 (c : Nat))) w := by
 simp [execOp, resolve, invoke, builtin, hx, Builtin.cap_, run_underlying hu, goInt]
theorem r_sliceH0 {dd : Option Nat} {X B : Operand} {g0 m c : Nat} {t u sz : Nat} {kb : IntKind} (hu : P.underlying t = some (.slice u)) (hs : ∀ w, (sizeOf u).run P w = .ok sz w)
  (hx : ev e X = .slice (some ⟨g0, 0, none⟩) m c) (hb : ev e B = .int kb 0) (w : World) :
  (execOp (ev e) ⟨dd, .slice t X none (some B) none, ty, pos, af, g⟩).run P w = .ok (.value (.slice (some ⟨g0, 0, none⟩) 0 c)) w := by
 have h := r_sliceH (P := P) (d := dd) (ty := ty) (pos := pos) (af := af) (g := g) hu hs hx hb (Int.le_refl 0) (by omega) w
 have e1 : Y4 (some (⟨g0, 0, none⟩ : Addr)) 0 c sz = some ⟨g0, 0, none⟩ := by
  unfold Y4; split
  ·rfl
  ·simp [Addr.add_lit]
 rw [h, e1]; rfl
end rules
end Go.Lx

/- Rules: slices of one's own whose elements hold slices: rows of raw cells, facts on what they stand for, and a pool of memory that nobody turns any more. Conditions: none. -/
namespace Go.Lx
open Go Go.Vc Go.Md
def idC (l : List Value) : List Value := l
def noH : J3 := fun _ => none
structure AllC {α : Type} (G : J3 → (Nat → Value) → α → Prop) (h : J3) (sz : Nat) (css : List (List Value)) (xs : List α) : Prop where
 len : css.length = xs.length
 el : ∀ (i : Nat) (cs : List Value) (x : α), css[i]? = some cs → xs[i]? = some x → cs.length = sz ∧ G h (fun j => cs.getD j undef) x
section allc
variable {α : Type} {G : J3 → (Nat → Value) → α → Prop} {h h' : J3} {sz : Nat} {css : List (List Value)} {xs ys : List α}
theorem AllC.nil : AllC G h sz [] ([] : List α) := ⟨rfl, by simp⟩
theorem AllC.snoc (p : AllC G h sz css xs) {cs : List Value} {x : α} (hl : cs.length = sz) (hG : G h (fun j => cs.getD j undef) x) : AllC G h sz (css ++ [cs]) (xs ++ [x]) := by
 refine ⟨by simp [p.len], fun i c y hc hy => ?_⟩
 rcases Nat.lt_or_ge i css.length with hi | hi
 ·rw [List.getElem?_append_left hi] at hc
  rw [List.getElem?_append_left (by rw [← p.len]; exact hi)] at hy
  exact p.el i c y hc hy
 ·rw [List.getElem?_append_right hi] at hc
  rw [List.getElem?_append_right (by rw [← p.len]; exact hi), ← p.len] at hy
  have h0 : i - css.length = 0 := by
   rcases Nat.eq_zero_or_pos (i - css.length) with h | h
   ·exact h
   ·obtain ⟨q, hq⟩ : ∃ q, i - css.length = q + 1 := ⟨i - css.length - 1, by omega⟩
    rw [hq] at hc; simp at hc
  rw [h0] at hc hy
  simp at hc hy
  subst hc hy
  exact ⟨hl, hG⟩
theorem AllC.mono [M : Mon G] (p : AllC G h sz css xs) (k : ∀ b o, h b = some o → h' b = some o) : AllC G h' sz css xs :=
 ⟨p.len, fun i c x hc hx => ⟨(p.el i c x hc hx).1, M.mono k _ _ (p.el i c x hc hx).2⟩⟩
theorem AllC.get (p : AllC G h sz css xs) {i : Int} {x : α} (g : Qn xs i = some x) : css[i.toNat]? = some (css.getD i.toNat []) := by
 obtain ⟨h0, h1, _⟩ := Yo g
 rw [List.getD_eq_getElem?_getD, List.getElem?_eq_getElem (by rw [p.len]; exact h1)]; rfl
theorem AllC.ix (p : AllC G h sz css xs) {i : Int} {x : α} (g : Qn xs i = some x) : Qn css i = some (css.getD i.toNat []) := by
 unfold Qn; rw [if_pos (Yo g).1]; exact p.get g
theorem AllC.at (p : AllC G h sz css xs) {i : Int} {x : α} (g : Qn xs i = some x) : G h (fun j => (css.getD i.toNat []).getD j undef) x := (p.el _ _ _ (p.get g) (Yo g).2.2).2
theorem AllC.eta (p : AllC G h sz css xs) {i : Int} {x : α} (g : Qn xs i = some x) : idC (css.getD i.toNat []) = (List.range sz).map fun j => (css.getD i.toNat []).getD j undef := by
 have hl := (p.el _ _ _ (p.get g) (Yo g).2.2).1
 unfold idC
 generalize css.getD i.toNat [] = l at hl
 subst hl
 apply List.ext_getElem
 ·simp
 ·intro j h1 h2
  simp [List.getD_eq_getElem?_getD, List.getElem?_eq_getElem h1]
theorem AllC.app (p : AllC G h sz css xs) {by_ : Nat} {news zs : List α} {nc : List (List Value)} (g : gApp by_ xs news = some zs) (hn : nc.length = news.length) : gApp by_ css nc = some (css ++ nc) := by
 obtain ⟨_, h1, h2⟩ := gApp_some g
 exact Uh (by rw [p.len, hn]; exact ⟨h1, h2⟩)
theorem AllC.snocG (p : AllC G h sz css xs) {by_ : Nat} {x : α} {zs : List α} {cs : List Value} (g : gApp by_ xs [x] = some zs) (hl : cs.length = sz) (hG : G h (fun j => cs.getD j undef) x) : AllC G h sz (css ++ [cs]) zs := by
 obtain ⟨rfl, _⟩ := gApp_some g
 exact p.snoc hl hG
end allc
def Wo (base hp : J3) : Chunk where
 P S w := (∀ b o, base b = some o → hp b = some o) ∧ ∀ b o, hp b = some o → base b = some o ∨ (S b ∧ w.heap[b]? = some o)
 loc S w w' h := fun ⟨h1, h2⟩ => ⟨h1, fun b o hb => (h2 b o hb).imp id fun ⟨hs, hw⟩ => ⟨hs, (h b hs).trans hw⟩⟩
section rules
variable {cx : Cx} {K : X5 → World → Prop} {e : X5} {L : List Chunk} {base hp : J3}
theorem c_poolNew (base : J3) (k : At cx K e (L ++ [Wo base base])) : At cx K e L :=
 ⟨fun w hF hS => k.out w hF (hS.snoc hF (Grow.refl w) (S := Zh) ⟨fun _ _ h => h, fun _ _ h => .inl h⟩ (fun _ h => h.elim))⟩
theorem pool_now {w : World} {i : Nat} (hS : Sat cx w L) (hi : L[i]? = some (Wo base hp)) (hb : ∀ b o, base b = some o → w.heap[b]? = some o) : ∀ b o, hp b = some o → w.heap[b]? = some o := fun b o h => by
 obtain ⟨S, hP, _⟩ := hS.at hi
 rcases hP.2 b o h with h | h
 ·exact hb b o h
 ·exact h.2
theorem noH_le {h : J3} : ∀ b o, noH b = some o → h b = some o := fun _ _ h => by cases h
open Classical in
theorem c_freeze {C : Chunk} {Φ : J3 → Prop} (i j : Nat) (hi : L[i]? = some (Wo base hp)) (hj : L[j]? = some C) (hne : i ≠ j) (hb : ∀ w, Fr cx w → ∀ b o, base b = some o → w.heap[b]? = some o)
  (hC : ∀ S w (H : J3), C.P S w → (∀ b o, S b → w.heap[b]? = some o → H b = some o) → (∀ b o, hp b = some o → H b = some o) → Φ H)
  (k : ∀ hp', (∀ b o, hp b = some o → hp' b = some o) → Φ hp' → At cx K e ((L.set i (Wo base hp')).set j empC)) : At cx K e L :=
 ⟨fun w hF hS => by
  have hnow := pool_now hS hi (hb w hF)
  obtain ⟨fp, h1, h2, h3⟩ := hS.out
  have hil : i < L.length := by
   rcases Nat.lt_or_ge i L.length with h | h
   ·exact h
   ·simp [List.getElem?_eq_none h] at hi
  have hjl : j < L.length := by
   rcases Nat.lt_or_ge j L.length with h | h
   ·exact h
   ·simp [List.getElem?_eq_none h] at hj
  have hji : ¬ j = i := fun h => hne h.symm
  have le : ∀ b o, hp b = some o → (fun b => if fp j b then w.heap[b]? else hp b) b = some o := fun b o h => by
   show (if fp j b then w.heap[b]? else hp b) = some o
   split
   ·exact hnow b o h
   ·exact h
  refine (k (fun b => if fp j b then w.heap[b]? else hp b) le (hC (fp j) w _ (h1 j C hj) (fun b o hs h => by show (if fp j b then w.heap[b]? else hp b) = some o; rw [if_pos hs]; exact h) le)).out w hF ?_
  have key : ∀ q b, (if q = i then fp i b ∨ fp j b else if q = j then False else fp q b) → (q = i ∧ (fp i b ∨ fp j b)) ∨ (q ≠ i ∧ q ≠ j ∧ fp q b) := by
   intro q b h
   by_cases hqi : q = i
   ·simp only [hqi, if_true] at h; exact .inl ⟨hqi, h⟩
   ·by_cases hqj : q = j
    ·simp only [hqj, hji, if_true, if_false] at h
    ·simp only [hqi, hqj, if_false] at h; exact .inr ⟨hqi, hqj, h⟩
  refine ⟨fun q b => if q = i then fp i b ∨ fp j b else if q = j then False else fp q b, ?_, ?_, ?_⟩
  ·intro q c hc
   by_cases hqj : q = j
   ·subst hqj
    rw [List.getElem?_set_self (by simpa using hjl)] at hc
    cases hc
    show ∀ b, ¬ _
    intro b h
    simp [hji] at h
   ·rw [List.getElem?_set_ne (fun h => hqj h.symm)] at hc
    by_cases hqi : q = i
    ·subst hqi
     rw [List.getElem?_set_self hil] at hc
     cases hc
     simp only [if_true]
     have hP := h1 q _ hi
     refine ⟨fun b o h => le b o (hP.1 b o h), fun b o h => ?_⟩
     have h : (if fp j b then w.heap[b]? else hp b) = some o := h
     split at h
     ·rename_i hs; exact .inr ⟨.inr hs, h⟩
     ·rcases hP.2 b o h with h | h
      ·exact .inl h
      ·exact .inr ⟨.inl h.1, h.2⟩
    ·rw [List.getElem?_set_ne (fun h => hqi h.symm)] at hc
     simp only [hqi, hqj, if_false]
     exact h1 q c hc
  ·intro q b h
   rcases key q b h with ⟨rfl, h | h⟩ | ⟨_, _, h⟩
   ·have := h2 q b h; exact ⟨by simpa using hil, this.2⟩
   ·have := h2 j b h; exact ⟨by simpa using hil, this.2⟩
   ·have := h2 q b h; exact ⟨by simpa using this.1, this.2⟩
  ·intro q r b hq hr
   rcases key q b hq with ⟨hqi, hq | hq⟩ | ⟨hqi, hqj, hq⟩ <;> rcases key r b hr with ⟨hri, hr | hr⟩ | ⟨hri, hrj, hr⟩
   ·omega
   ·omega
   ·exact absurd (h3 i r b hq hr) (fun h => hri h.symm)
   ·omega
   ·omega
   ·exact absurd (h3 j r b hq hr) (fun h => hrj h.symm)
   ·exact absurd (h3 q i b hq hr) hqi
   ·exact absurd (h3 q j b hq hr) hqj
   ·exact h3 q r b hq hr⟩
theorem FrS.sub {w : World} {S : Nat → Prop} {H : J3} {sz : Nat} {v : Value} {xs : List (List Value)} (f : FrS (fun b => w.heap[b]?) sz v xs) (hd : ∀ b, v.ownBlock = some b → S b) (hH : ∀ b o, S b → w.heap[b]? = some o → H b = some o) : FrS H sz v xs := by
 obtain ⟨a, c, rfl, h1, h2, r⟩ := f.out
 refine ⟨a, c, rfl, h1, h2, ?_⟩
 rcases r with r | ⟨b, off, cs, T, m, rfl, hb, r⟩
 ·exact .inl r
 ·exact .inr ⟨b, off, cs, T, m, rfl, hH b _ (hd b rfl) hb, r⟩
theorem fz_ro {α : Type} {sz n : Nat} {v : Value} {xs : List α} {f : α → List Value} (hp : J3) : ∀ S w (H : J3), (roV sz v n (xs.map f)).P S w → (∀ b o, S b → w.heap[b]? = some o → H b = some o) → (∀ b o, hp b = some o → H b = some o) → FrS H sz v (xs.map f) :=
 fun _ _ _ hP hH _ => hP.2.1.sub hP.2.2 hH
theorem fz_own {α : Type} {E sz n : Nat} {v : Value} {xs : List α} {f : α → List Value} (hp : J3) : ∀ S w (H : J3), (Qq E sz v n (xs.map f)).P S w → (∀ b o, S b → w.heap[b]? = some o → H b = some o) → (∀ b o, hp b = some o → H b = some o) → FrS H sz v (xs.map f) :=
 fun S w H hP hH k => fz_ro hp S w H ((row_ro E sz v n _).out S w hP) hH k
theorem frn_of {α : Type} {G : J3 → (Nat → Value) → α → Prop} {h : J3} {sz : Nat} {v : Value} {css : List (List Value)} {xs : List α} (f : FrS h sz v (css.map idC)) (p : AllC G h sz css xs) : FrN h sz v G xs := by
 have hid : css.map idC = css := by unfold idC; simp
 rw [hid] at f
 have cellE : ∀ i, i < xs.length → U3 h v sz i = fun j => (css.getD i []).getD j undef := by
  intro i hi
  funext j
  have hi' : i < css.length := by rw [p.len]; exact hi
  have hcl : (css[i]).length = sz := (p.el i css[i] xs[i] (List.getElem?_eq_getElem hi') (List.getElem?_eq_getElem hi)).1
  have e1 : css.getD i [] = css[i] := by simp [List.getD_eq_getElem?_getD, List.getElem?_eq_getElem hi']
  rw [e1]
  by_cases hj : j < sz
  ·obtain ⟨a, c, rfl, _, _, r⟩ := f.out
   rcases r with r | ⟨b, off, cs, T, m, rfl, hb, r⟩
   ·subst r; simp at hi'
   ·have h2 := (r i css[i] (List.getElem?_eq_getElem hi')).2 j ((css[i])[j]'(by omega)) (List.getElem?_eq_getElem (by omega))
    simp only [U3, if_pos hj, hb]
    rw [Array.getD_eq_getD_getElem?, h2]
    simp [List.getD_eq_getElem?_getD, List.getElem?_eq_getElem (show j < (css[i]).length by omega)]
  ·unfold U3
   rw [if_neg hj, List.getD_eq_getElem?_getD, List.getElem?_eq_none (by omega)]; rfl
 have cells : ∀ i, i < xs.length → elC h v sz i = css.getD i [] := by
  intro i hi
  have hi' : i < css.length := by rw [p.len]; exact hi
  have hcl : (css[i]).length = sz := (p.el i css[i] xs[i] (List.getElem?_eq_getElem hi') (List.getElem?_eq_getElem hi)).1
  unfold elC
  rw [cellE i hi]
  have e1 : css.getD i [] = css[i] := by simp [List.getD_eq_getElem?_getD, List.getElem?_eq_getElem hi']
  rw [e1]
  apply List.ext_getElem
  ·simp [hcl]
  ·intro j h1 h2
   simp only [List.length_map, List.length_range] at h1
   simp [List.getD_eq_getElem?_getD, List.getElem?_eq_getElem h2]
 refine ⟨?_, fun i x hx => ?_⟩
 ·have e : (List.range xs.length).map (elC h v sz) = css := by
   apply List.ext_getElem
   ·simp [p.len]
   ·intro i h1 h2
    simp only [List.length_map, List.length_range] at h1
    rw [List.getElem_map, List.getElem_range, cells i h1]
    simp [List.getD_eq_getElem?_getD, List.getElem?_eq_getElem h2]
  rw [e]; exact f
 ·have hi : i < xs.length := by
   rcases Nat.lt_or_ge i xs.length with h | h
   ·exact h
   ·rw [List.getElem?_eq_none h] at hx; cases hx
  have hi' : i < css.length := by rw [p.len]; exact hi
  rw [cellE i hi]
  have e1 : css.getD i [] = css[i] := by simp [List.getD_eq_getElem?_getD, List.getElem?_eq_getElem hi']
  rw [e1]
  exact (p.el i css[i] x (List.getElem?_eq_getElem hi') hx).2
theorem app63 {α : Type} {by_ : Nat} {xs ys zs : List α} (g : gApp by_ xs ys = some zs) : (xs ++ ys).length * by_ ≤ 140737488355328 := by
 obtain ⟨_, _, h⟩ := gApp_some g
 rwa [List.length_append]
open Classical in
theorem c_poolJoin {hp1 : J3} (i j : Nat) (hi : L[i]? = some (Wo base hp)) (hj : L[j]? = some (Wo noH hp1)) (hne : i ≠ j) (hb : ∀ w, Fr cx w → ∀ b o, base b = some o → w.heap[b]? = some o)
  (k : ∀ hp', (∀ b o, hp b = some o → hp' b = some o) → (∀ b o, hp1 b = some o → hp' b = some o) → At cx K e ((L.set i (Wo base hp')).set j empC)) : At cx K e L :=
 c_freeze (Φ := fun H => ∀ b o, hp1 b = some o → H b = some o) i j hi hj hne hb (fun S w H hP hH _ b o h => (hP.2 b o h).elim (fun h => by cases h) fun h => hH b o h.1 h.2) k
def rowD {α : Type} (E sz : Nat) (G : J3 → (Nat → Value) → α → Prop) (v : Value) (n : Nat) (xs : List α) : Chunk where
 P S w := ∃ (hp : J3) (css : List (List Value)), AllC G hp sz css xs ∧ n = css.length ∧ (Yk (Wo noH hp) (Qq E sz v n (css.map idC))).P S w
 loc S w w' h := by
  rintro ⟨hp, css, h1, h2, h3⟩
  exact ⟨hp, css, h1, h2, Chunk.loc _ _ _ _ h h3⟩
def roD {α : Type} (sz : Nat) (G : J3 → (Nat → Value) → α → Prop) (v : Value) (n : Nat) (xs : List α) : Chunk where
 P S w := ∃ (hp : J3) (css : List (List Value)), AllC G hp sz css xs ∧ n = css.length ∧ (Yk (Wo noH hp) (roV sz v n (css.map idC))).P S w
 loc S w w' h := by
  rintro ⟨hp, css, h1, h2, h3⟩
  exact ⟨hp, css, h1, h2, Chunk.loc _ _ _ _ h h3⟩
theorem imp_rowD {α : Type} {G : J3 → (Nat → Value) → α → Prop} {E sz n : Nat} {p : Option Addr × Nat} {css : List (List Value)} {xs : List α} (hn : n = css.length) (f : AllC G hp sz css xs) :
  Imp (Yk (Wo noH hp) (Qq E sz (.slice p.1 n p.2) n (css.map idC))) (rowD E sz G (.slice p.1 n p.2) n xs) := ⟨fun S w h => ⟨hp, css, f, hn, h⟩⟩
theorem imp_roD {α : Type} {G : J3 → (Nat → Value) → α → Prop} {sz n : Nat} {p : Option Addr × Nat} {css : List (List Value)} {xs : List α} (hn : n = css.length) (f : AllC G hp sz css xs) :
  Imp (Yk (Wo noH hp) (roV sz (.slice p.1 n p.2) n (css.map idC))) (roD sz G (.slice p.1 n p.2) n xs) := ⟨fun S w h => ⟨hp, css, f, hn, h⟩⟩
theorem c_show {C : Chunk} {τ : Type} {D : τ → Chunk} {φ : τ → Prop} (i : Nat) (hi : L[i]? = some C) (h : ∀ S w, C.P S w → ∃ t, φ t ∧ (D t).P S w) (k : ∀ t, φ t → At cx K e (L.set i (D t))) : At cx K e L :=
 ⟨fun w hF hS => by
  obtain ⟨fp, h1, h2, h3⟩ := hS.out
  obtain ⟨t, ht, hD⟩ := h _ _ (h1 i _ hi)
  have hil : i < L.length := by
   rcases Nat.lt_or_ge i L.length with h | h
   ·exact h
   ·simp [List.getElem?_eq_none h] at hi
  refine (k t ht).out w hF ⟨fp, fun j c hj => ?_, fun j b hb => by simpa using h2 j b hb, h3⟩
  by_cases hji : j = i
  ·subst hji
   rw [List.getElem?_set_self hil] at hj
   cases hj
   exact hD
  ·rw [List.getElem?_set_ne (fun h => hji h.symm)] at hj
   exact h1 j c hj⟩
theorem c_rowD {α : Type} {G : J3 → (Nat → Value) → α → Prop} {E sz n : Nat} {p : Option Addr × Nat} {xs : List α} (i : Nat) (hi : L[i]? = some (rowD E sz G (.slice p.1 n p.2) n xs))
  (k : ∀ (hp : J3) (css : List (List Value)), n = css.length → AllC G hp sz css xs → At cx K e (L.set i (Yk (Wo noH hp) (Qq E sz (.slice p.1 n p.2) n (css.map idC))))) : At cx K e L :=
 c_show (τ := J3 × List (List Value)) (D := fun t => Yk (Wo noH t.1) (Qq E sz (.slice p.1 n p.2) n (t.2.map idC))) (φ := fun t => n = t.2.length ∧ AllC G t.1 sz t.2 xs) i hi (fun S w ⟨hp, css, h1, h2, h3⟩ => ⟨(hp, css), ⟨h2, h1⟩, h3⟩) fun t ht => k t.1 t.2 ht.1 ht.2
theorem c_roD {α : Type} {G : J3 → (Nat → Value) → α → Prop} {sz n : Nat} {p : Option Addr × Nat} {xs : List α} (i : Nat) (hi : L[i]? = some (roD sz G (.slice p.1 n p.2) n xs))
  (k : ∀ (hp : J3) (css : List (List Value)), n = css.length → AllC G hp sz css xs → At cx K e (L.set i (Yk (Wo noH hp) (roV sz (.slice p.1 n p.2) n (css.map idC))))) : At cx K e L :=
 c_show (τ := J3 × List (List Value)) (D := fun t => Yk (Wo noH t.1) (roV sz (.slice p.1 n p.2) n (t.2.map idC))) (φ := fun t => n = t.2.length ∧ AllC G t.1 sz t.2 xs) i hi (fun S w ⟨hp, css, h1, h2, h3⟩ => ⟨(hp, css), ⟨h2, h1⟩, h3⟩) fun t ht => k t.1 t.2 ht.1 ht.2
end rules
end Go.Lx

/- The kit's contracts of slices.Sort at rows of one's own: the row is sorted in place. Conditions: the row is shorter than 2^62. -/
namespace Go.Vc
open Go Go.Md Go.Shelf Go.Sort Go.Proofs
theorem flat1 {α : Type} (f : α → Value) (l : List α) : (l.map fun x => [f x]).flatten = l.map f := by
 induction l with
 | nil => rfl
 | cons x l ih => simp [ih]
theorem sort_ints {P : Program} {ρ : Ren} (Ly : Lays.n189 P ρ) {E : TypeId} {a0 r : List Int} {p0 : Option Addr × Nat} {n0 : Nat} {w : World} {S : Nat → Prop}
  (hcs : (Qq E 1 (.slice p0.1 n0 p0.2) n0 (a0.map fun x => [.int .i64 x])).P S w) (hlt : ∀ b, S b → b < w.heap.size) (hn0 : n0 = a0.length) (H : gSortI a0 = some r) :
  Does P (ρ.f 189) (List.toArray [.slice p0.1 n0 p0.2]) w (fun v w' => ∃ _ : Unit, v = .tuple #[] ∧ Turn w w' S (Qq E 1 (.slice p0.1 n0 p0.2) n0 (r.map fun x => [.int .i64 x]))) := by
 obtain ⟨p, c⟩ := p0
 unfold gSortI at H
 split at H
 case isFalse => cases H
 rename_i hsz
 cases H
 subst hn0
 have hcs0 := hcs
 obtain ⟨⟨hown, hlen, hall⟩, hb⟩ := hcs
 rw [flat1] at hown
 rcases hown.2 with ⟨h0, h1⟩ | ⟨g, cap, cur, hv, hbase, hh, h1, h2, h3, h4⟩
 ·have hnil : a0 = [] := List.eq_nil_of_length_eq_zero h1
  subst hnil
  refine Calls.mono (Any.slices_Sort_int_none Ly p c w) ?_
  rintro e w' ⟨rfl, rfl⟩
  exact ⟨_, rfl, (), rfl, ⟨rfl, rfl, rfl, Nat.le_refl _, fun _ _ _ => rfl, S, by simpa using hcs0, fun b h => ⟨hlt b h, .inl h⟩⟩⟩
 ·simp only [Value.slice.injEq] at hv
  obtain ⟨hv1, -, hv2⟩ := hv
  subst hv1 hv2
  have hgl : g < w.heap.size := (Array.getElem?_eq_some_iff.1 hh).1
  have hH : Holds (Value.int .i64) w g 0 a0.toArray := holds_of_blockI hh (by simpa using h4)
  refine Calls.mono (Any.slices_Sort_int Ly g 0 c a0 w hH hgl hsz) ?_
  rintro e w' ⟨rfl, n, os, rfl⟩
  have hl : (a0.mergeSort fun x y => decide (x ≤ y)).length = a0.length := List.length_mergeSort _
  have hG := grownBy_sortedI (w := w) (g := g) (n := n) (os := os) (a0.mergeSort fun x y => decide (x ≤ y)).toArray
  obtain ⟨g1, g2, g3, g4, g5⟩ := hG
  have hR := ownsRow_sortedI (base := 0) (w := w) (n := n) (os := os) hl (Nat.zero_le _) hh h1 h2 h3
  have hSg : S g := hb g rfl
  refine ⟨_, rfl, (), rfl, ⟨g1, g2, g3, g4, fun b hbl hnb => g5 b hbl (fun h => hnb (by cases h; exact hSg)), S, ⟨⟨by rw [flat1]; exact hR, by simp [hl], fun x hx => ?_⟩, hb⟩, fun b h => ⟨Nat.lt_of_lt_of_le (hlt b h) g4, .inl h⟩⟩⟩
  obtain ⟨y, _, rfl⟩ := List.mem_map.1 hx
  rfl
end Go.Vc

/- The kit's contract of slices.SortFunc at rows of one's own of structs: the row is sorted in place. Conditions: the row is shorter than 2^62; the comparing function is a total order. -/
namespace Go.Vc
open Go Go.Md Go.Shelf Go.Sort Go.Proofs
theorem flatE_len {α : Type} (enc : α → List Value) (k : Nat) (hk : ∀ x, (enc x).length = k) (l : List α) : (l.map enc).flatten.length = l.length * k := by
 induction l with
 | nil => simp
 | cons x l ih => simp [ih, hk, Nat.add_mul]; omega
theorem flatE_get {α : Type} [Inhabited α] (enc : α → List Value) (k : Nat) (hk : ∀ x, (enc x).length = k) : ∀ (l : List α) (t : Nat), t < l.length * k → (l.map enc).flatten[t]? = some (enc (l[t / k]!))[t % k]!
 | [], t, h => by simp at h
 | x :: l, t, h => by
  have k0 : 0 < k := by rcases Nat.eq_zero_or_pos k with h0 | h0
                        ·subst h0; simp at h
                        ·exact h0
  rw [List.map_cons, List.flatten_cons]
  rcases Nat.lt_or_ge t k with h1 | h1
  ·rw [List.getElem?_append_left (by rw [hk]; exact h1), Nat.div_eq_of_lt h1, Nat.mod_eq_of_lt h1, List.getElem!_cons_zero, List.getElem?_eq_getElem (by rw [hk]; exact h1), getElem!_pos _ t (by rw [hk]; exact h1)]
  ·rw [List.getElem?_append_right (by rw [hk]; exact h1), hk, flatE_get enc k hk l (t - k) (by simp only [List.length_cons, Nat.add_mul, Nat.one_mul] at h; omega)]
   have e1 : t / k = (t - k) / k + 1 := by rw [← Nat.sub_add_cancel h1]; simp [Nat.add_div_right _ k0]
   have e2 : t % k = (t - k) % k := by rw [Nat.mod_eq_sub_mod h1]
   rw [e1, e2, List.getElem!_cons_succ]
theorem flatK_toList {α : Type} [Inhabited α] (enc : α → List Value) (k : Nat) (hk : ∀ x, (enc x).length = k) (d : Array α) : (flatK enc k d).toList = (d.toList.map enc).flatten := by
 apply List.ext_getElem?
 intro t
 by_cases h : t < d.size * k
 ·have h2 := flatE_get enc k hk d.toList t (by simpa using h)
  have k0 : 0 < k := by rcases Nat.eq_zero_or_pos k with h0 | h0
                        ·subst h0; simp at h
                        ·exact h0
  have hlt : t / k < d.size := (Nat.div_lt_iff_lt_mul k0).2 h
  have e0 : d.toList[t / k]! = d[t / k]! := by rw [getElem!_pos d.toList (t / k) (by simpa using hlt), getElem!_pos d (t / k) hlt]; simp
  rw [h2, Array.getElem?_toList, Array.getElem?_eq_getElem (by simpa using h), ← getElem!_pos _ t (by simpa using h), get_flatK _ _ _ _ h, e0]
 ·rw [List.getElem?_eq_none (by simpa using h), List.getElem?_eq_none (by rw [flatE_len enc k hk]; simpa using h)]
end Go.Vc

/- Rules: rows of one's own that are known to have room: append within it. Conditions: none. -/
namespace Go.Lx
open Go Go.Vc Go.Md
def _root_.Go.Vc.Kd.dv (a : Nat) (rds : List Nat) (φ : Value → Value) : Kd := .g [a] rds [] (fun vs _ v => v = φ (vs.headD undef)) (fun _ _ _ => [])
section rules
variable {P : Program} {cx : Cx} {ops : Array Oper} {F : X5 → List Chunk → Prop} {ss : List Kd} {rest : List Oper} {e : X5} {L : List Chunk}
end rules
def rowC (E : TypeId) (sz : Nat) (v : Value) (n : Nat) (xs : List (List Value)) (c : Nat) : Chunk where
 P S w := (Qq E sz v n xs).P S w ∧ c ≤ sc v
 loc S w w' h := fun ⟨h1, h2⟩ => ⟨(Qq E sz v n xs).loc S w w' h h1, h2⟩
theorem imp_rowC (E : TypeId) (sz : Nat) (v : Value) (n : Nat) (xs : List (List Value)) (c : Nat) : Imp (rowC E sz v n xs c) (Qq E sz v n xs) := ⟨fun _ _ h => h.1⟩
theorem imp_C0 (E : TypeId) (sz : Nat) (v : Value) : Imp (Qq E sz v 0 []) (rowC E sz v 0 [] 0) := ⟨fun _ _ h => ⟨h, Nat.zero_le _⟩⟩
section rules
variable {P : Program} {n : Nat} {cx : Cx} {e : X5} {L : List Chunk} {d : Nat} {ty : TypeId} {pos : String} {af : Array Edge} {g : Option (Nat × Bool)}
theorem run_append_in {S X : Operand} {t E : TypeId} {I : TypeInfo} {sz : Nat} {w : World} {v : Value} {m : Nat} {xs : List Value} {ad : Addr} {q c : Nat} {news : List Value}
  (ht : P.underlying t = some (.slice E)) (hi : P.info? E = some I) (hsize : I.size = sz)
  (hs : ev e S = v) (hown : w.ownsRow 0 E sz v m xs) (hx : ev e X = .slice (some ad) q c) (hl : news.length = q * sz) (hnews : ∀ j u, news[j]? = some u → w.cell? (ad.add j) = some u) (h1 : ∀ u ∈ news, u.oneCell' = true) (hroom : m + q ≤ sc v) :
  ∃ v' w', (execOp (ev e) ⟨some d, .call ⟨.builtin .append, #[S, X], #[t, t]⟩, ty, pos, af, g⟩).run P w = .ok (.value v') w' ∧ w'.ownsRow 0 E sz v' (m + q) (xs ++ news) ∧ w.grownBy w' v.ownBlock ∧ v'.ownBlock = v.ownBlock ∧ sc v' = sc v := by
 subst hsize
 have hlen : (xs ++ news).length = (m + q) * I.size := by rw [List.length_append, hown.1, hl, Nat.add_mul]
 rcases hown.2 with ⟨rfl, rfl⟩ | ⟨g0, cap, cur, rfl, hbg, hg, hnc, hcm, hcs, htake⟩
 ·have hq : q = 0 := by simp only [sc] at hroom; omega
  subst hq
  have hn : news = [] := List.eq_nil_of_length_eq_zero (by simpa using hl)
  subst hn
  have hxs : xs = [] := List.eq_nil_of_length_eq_zero (by simpa using hown.1)
  subst hxs
  refine ⟨.slice none 0 0, w, ?_, World.ownsRow_nil w 0 E I.size, ⟨rfl, rfl, rfl, Nat.le_refl _, fun _ _ _ => rfl⟩, rfl, rfl⟩
  have hr : (Builtin.append_ #[t, t] ty #[.slice none 0 0, .slice (some ad) 0 c]).run P w = .ok (.slice none 0 0) w := by
   simp [Builtin.append_, run_underlying ht, sizeOf, typeInfo, hi, Builtin.lenOf, Builtin.firstCells, loadCells, loadCellsFrom]
  simp only [execOp, resolve, invoke, builtin, Sem.run_bind, Sem.run_pure, Result.andThen_ok, List.map_toArray, List.map_cons, List.map_nil, hs, hx, hr]
 ·simp only [sc] at hroom
  have hfit : m * I.size + news.length ≤ cur.size := by rw [hl, hcs, ← Nat.add_mul]; exact Nat.mul_le_mul_right _ hroom
  have hr := run_append_room (P := P) w t ty E I ht hi g0 m cap cur hg ad q c news hl hnews h1 hroom hfit
  have he : (execOp (ev e) ⟨some d, .call ⟨.builtin .append, #[S, X], #[t, t]⟩, ty, pos, af, g⟩).run P w = .ok (.value (.slice (some ⟨g0, 0, none⟩) (m + q) cap)) (w.setRow g0 (cur.toList.take (m * I.size) ++ news ++ cur.toList.drop (m * I.size + news.length)).toArray) := by
   simp only [execOp, resolve, invoke, builtin, Sem.run_bind, Sem.run_pure, Result.andThen_ok, List.map_toArray, List.map_cons, List.map_nil, hs, hx, hr]
  refine ⟨_, _, he, ⟨hlen, .inr ⟨g0, cap, _, rfl, hbg, setRow_heap w g0 cur _ E _ hg, hroom, hcm, ?_, ?_⟩⟩, ⟨rfl, rfl, rfl, by simp, fun k _ hk => setRow_other w g0 k _ (fun e => hk (by simp [Value.ownBlock, e]))⟩, rfl, rfl⟩
  ·simp only [List.size_toArray, List.length_append, List.length_take, List.length_drop, Array.length_toList]
   omega
  ·rw [htake, ← hlen]
   exact List.take_left
theorem turns_appC {α : Type} {f : α → List Value} {ys ls zs : List α} {i : Nat} {S X : Operand} {t E : TypeId} {I : TypeInfo} {z : Value} {sz by_ : Nat} {p : Option Addr × Nat} {rds : List Nat} {V : Value} {a : Option Addr} {c m q cp : Nat} (hn : m = ys.length)
  (ht : P.underlying t = some (.slice E)) (hi : P.info? E = some I) (_hz : I.zero = some z) (hsize : I.size = sz) (_hby : I.bytes = by_) (_hzs : z.cells.size = sz) (_hsz : Nat.blt 0 sz = true)
  (hL : L[i]? = some (rowC E sz (.slice p.1 m p.2) m (ys.map f) cp)) (hs : ev e S = .slice p.1 m p.2) (hx : ev e X = V) (hV : V = .slice a q c) (hq : q = ls.length)
  (hnews : ∀ w L', Fr cx w → Sat cx w L' → (∀ j, j ∈ rds → L'[j]? = L[j]?) → Row w a sz (ls.map f)) (hf : ∀ x, (f x).length = sz) (h1 : ∀ x, (f x).all Value.oneCell' = true) (hg : gApC cp ys ls = some zs) :
  Turns P cx e ⟨some d, .call ⟨.builtin .append, #[S, X], #[t, t]⟩, ty, pos, af, g⟩ L i rds (fun p' : Option Addr × Nat => .slice p'.1 zs.length p'.2) (fun p' => rowC E sz (.slice p'.1 zs.length p'.2) zs.length (zs.map f) cp) := by
 subst hn hq
 obtain ⟨rfl, hb1⟩ := gApC_some hg
 intro w L' hF hS hl hi'
 have hr := hnews w L' hF hS fun j hj => hi' j (.inl hj)
 have hL' := (hi' i (.inr rfl)).trans hL
 obtain ⟨S0, ⟨⟨⟨ho, hlen, hlx⟩, hob⟩, hcp⟩, _⟩ := hS.at hL'
 cases ha : a with
 | some ad =>
  subst ha
  have hnl : ∀ x ∈ ls.map f, x.length = sz := fun x hx => by obtain ⟨y, _, rfl⟩ := List.mem_map.1 hx; exact hf y
  have hfl : (ls.map f).flatten.length = ls.length * sz := by rw [flat_len (ls.map f) hnl, List.length_map]
  have hcell : ∀ j u, (ls.map f).flatten[j]? = some u → w.cell? (ad.add j) = some u := by
   intro j u hj
   obtain ⟨i', k', x, g1, g2, g3⟩ := flat_get (ls.map f) hnl j u hj
   rcases hr with h | ⟨b, off, ha, h⟩
   ·rw [h] at g1; simp at g1
   ·cases ha
    have := (h i' x g1).2 k' u g2
    rw [Addr.add_lit, g3, ← Nat.add_assoc]
    exact this
  obtain ⟨v', w', hrun, h2, h3, h5, h6⟩ := run_append_in (P := P) (ty := ty) (pos := pos) (af := af) (g := g) (d := d) ht hi hsize hs ho (hx.trans hV) hfl hcell (by
   intro u hu
   obtain ⟨x, hx, hux⟩ := List.mem_flatten.1 hu
   obtain ⟨y, _, rfl⟩ := List.mem_map.1 hx
   exact List.all_eq_true.1 (h1 y) u hux) (Nat.le_trans hb1.1 hcp)
  obtain ⟨p', rfl⟩ := Jaq h2
  rw [← List.flatten_append] at h2
  have hlc : (zs_ : List α) → zs_ = ys ++ ls → True := fun _ _ => trivial
  obtain ⟨hF', hS'⟩ := hS.turnOf hF hL' (C := rowC E sz (.slice p'.1 (ys.length + ls.length) p'.2) (ys.length + ls.length) ((ys.map f) ++ (ls.map f)) cp) fun S1 hp => by
   have ht := turn_append hp.1.2 h2 h3 (.inl h5) (by simp) (by
    intro x hx
    rcases List.mem_append.1 hx with h | h
    ·exact hlx x h
    ·exact hnl x h)
   obtain ⟨k1, k2, k3, k4, k5, S2, k6, k7⟩ := ht
   exact ⟨k1, k2, k3, k4, k5, S2, ⟨k6, by rw [h6]; exact hcp⟩, k7⟩
  unfold RunsTo
  rw [hrun]
  refine ⟨p', by rw [List.length_append], hF', ?_⟩
  rw [List.length_append, List.map_append]
  exact hS'
 | none =>
  subst ha
  have hls : ls = [] := by
   rcases hr with h | ⟨b, off, h, _⟩
   ·simpa using h
   ·cases h
  subst hls
  have he : (execOp (ev e) ⟨some d, .call ⟨.builtin .append, #[S, X], #[t, t]⟩, ty, pos, af, g⟩).run P w = .ok (.value (.slice p.1 ys.length p.2)) w := by
   simp only [execOp, resolve, invoke, builtin, Sem.run_bind, Sem.run_pure, Result.andThen_ok, List.map_toArray, List.map_cons, List.map_nil, hs, hx, hV, List.length_nil, U2 t ty E I sz ht hi _ _ _ c ho]
  unfold RunsTo
  rw [he]
  refine ⟨p, by simp, hF, ?_⟩
  have : L'.set i (rowC E sz (.slice p.1 (ys.length + 0) p.2) (ys.length + 0) ((ys ++ []).map f) cp) = L' := by
   rw [List.append_nil, Nat.add_zero]
   refine List.ext_getElem? fun j => ?_
   rw [List.getElem?_set]
   split
   ·rename_i h; subst h
    split
    ·exact hL'.symm
    ·rename_i h; rw [List.getElem?_eq_none (by omega)]
   ·rfl
  rw [List.append_nil] at this ⊢
  rw [show ys.length + 0 = ys.length from rfl] at this
  rw [this]
  exact hS
theorem makes_zerosC {S N : Operand} {t tn E : TypeId} {I : TypeInfo} {z : Value} {sz by_ m : Nat} {k kn : IntKind} {rds : List Nat} (ht : P.underlying t = some (.slice E)) (htn : P.underlying tn = some (.int kn)) (hi : P.info? E = some I) (hz : I.zero = some z) (hsize : I.size = sz) (hby : I.bytes = by_) (hzs : z.cells.size = sz) (hsz : Nat.blt 0 sz = true)
  (hs : ev e S = .slice none 0 0) (hn : ev e N = .int k (m : Int)) (h0 : 0 < m) (hm : m ≤ 281474976710656) (hb : by_ * m ≤ 281474976710656) :
  Makes P cx e ⟨some d, .call ⟨.builtin .append, #[S, N], #[t, tn]⟩, ty, pos, af, g⟩ L rds (fun x : Nat × Nat => .slice (some ⟨x.1, 0, none⟩) m x.2) (fun x => rowC E sz (.slice (some ⟨x.1, 0, none⟩) 0 x.2) 0 [] m) := fun w L' hF hS hi' => by
 subst hsize hby
 have hr := Lib.run_append_nil_zeros (P := P) w t tn ty E I z k kn ht htn hi hz m h0 (by simpa using hsz) (by omega) (by rw [Nat.mul_comm]; omega)
 have hge := grownCap_ge w m 0 E
 have hcm : grownCap w m 0 E ≤ maxLen := grownCap_le_maxLen w m 0 E (by simp only [maxLen]; omega)
 have he : (execOp (ev e) ⟨some d, .call ⟨.builtin .append, #[S, N], #[t, tn]⟩, ty, pos, af, g⟩).run P w = .ok (.value (.slice (some ⟨w.heap.size, 0, none⟩) m (grownCap w m 0 E))) (w.drew.alloc (.cells (Builtin.zeroCells z.cells m ++ Builtin.zeroCells z.cells (grownCap w m 0 E - m)) E)) := by
  simp only [execOp, resolve, invoke, builtin, Sem.run_bind, Sem.run_pure, Result.andThen_ok, List.map_toArray, List.map_cons, List.map_nil, hs, hn, hr]
 unfold RunsTo
 rw [he]
 have hby := grown_by w (.cells (Builtin.zeroCells z.cells m ++ Builtin.zeroCells z.cells (grownCap w m 0 E - m)) E) none
 refine ⟨(w.heap.size, grownCap w m 0 E), rfl, hby.os, hby.tape, hby.output, hby.size, fun b hb _ => hby.block b hb (by simp), fun b => b = w.heap.size, ⟨⟨⟨⟨by simp, .inr ⟨w.heap.size, _, _, rfl, Nat.zero_le _, heap_alloc_new w.drew _, Nat.zero_le _, hcm, ?_, by simp⟩⟩, rfl, by simp⟩, fun b hb => ?_⟩, hge⟩, fun b hb => ?_⟩
 ·simp only [Array.size_append, size_zeroCells, hzs]
  rw [← Nat.add_mul]
  congr 1
  omega
 ·simp [Value.ownBlock] at hb; exact hb.symm
 ·subst hb
  exact ⟨by simp, .inr (Nat.le_refl _)⟩
end rules
end Go.Lx

/- Taking elements out of a row of one's own: append(s[:a], s[b:]...) at one row. Conditions: none. -/
namespace Go.Lx
open Go Go.Vc Go.Md
section rules
variable {P : Program} {n : Nat} {cx : Cx} {e : X5} {L : List Chunk} {d : Nat} {ty : TypeId} {pos : String} {af : Array Edge} {g : Option (Nat × Bool)}
theorem flat_takeN {sz : Nat} : ∀ {xs : List (List Value)} (a : Nat), (∀ x ∈ xs, x.length = sz) → xs.flatten.take (a * sz) = (xs.take a).flatten
 | [], a, _ => by simp
 | x :: xs, 0, _ => by simp
 | x :: xs, a + 1, h => by
  have hx := h x (by simp)
  rw [List.take_succ_cons, List.flatten_cons, List.flatten_cons, Nat.succ_mul, List.take_append, hx, List.take_of_length_le (by omega), show a * sz + sz - sz = a * sz from by omega, flat_takeN a fun y hy => h y (by simp [hy])]
end rules
end Go.Lx

/- Rules: the beginning of a row of one's own as a row, slices with three indices, clear of a part of a row. Conditions: none. -/
namespace Go.Lx
open Go Go.Vc Go.Md
theorem cutA_zero (a : Option Addr) (m sz : Nat) : Y4 a 0 m sz = a := by
 unfold Y4
 split
 ·rfl
 ·cases a with
  | none => rfl
  | some x => obtain ⟨b, o, f⟩ := x; simp [Addr.add]
section ops
variable {P : Program} {e : X5} {d : Option Nat} {ty : TypeId} {pos : String} {af : Array Edge} {g : Option (Nat × Bool)}
theorem run_sliceHO0 {α : Type} {X B : Operand} {a : Option Addr} {m c : Nat} {t u sz : Nat} {kb : IntKind} {q : Int} {xs ys : List α} {w : World} (hu : P.underlying t = some (.slice u)) (hs : ∀ w, (sizeOf u).run P w = .ok sz w)
  (hx : ev e X = .slice a m c) (hb : ev e B = .int kb q) (hm : m = xs.length) (hc : m ≤ c) (hg : Um xs 0 q = some ys) :
  (execOp (ev e) ⟨d, .slice t X none (some B) none, ty, pos, af, g⟩).run P w = .ok (.value (.slice a ys.length c)) w := by
 obtain ⟨g0, g1, g2, _⟩ := Va hg
 have hl := gCut_len hg
 rw [r_sliceH hu hs hx hb g1 (by omega) w, hl, cutA_zero]; rfl
end ops
section rules
variable {P : Program} {n : Nat} {cx : Cx} {e : X5} {L : List Chunk} {d : Nat} {ty : TypeId} {pos : String} {af : Array Edge} {g : Option (Nat × Bool)}
theorem Turns.pre {σ : Type} {o : Oper} {i : Nat} {rds : List Nat} {G : σ → Value} {D : σ → Chunk} {C C' : Chunk} (hI : Imp C C') (hL : L[i]? = some C) (hr : i ∉ rds) (h : Turns P cx e o (L.set i C') i rds G D) : Turns P cx e o L i rds G D := by
 intro w L' hF hS hl hi
 have hLi := (hi i (.inr rfl)).trans hL
 have hS' : Sat cx w (L'.set i C') := hS.set hF hLi (Nat.le_refl _) fun S hp hb => ⟨S, hI.out S w hp, fun b hs => ⟨(hb b hs).1, .inl hs⟩, fun _ _ _ => rfl⟩
 have hil : i < L.length := by
  rcases Nat.lt_or_ge i L.length with h | h
  ·exact h
  ·rw [List.getElem?_eq_none h] at hL; cases hL
 have := h w (L'.set i C') hF hS' (by simp [hl]) fun j hj => by
  by_cases hji : j = i
  ·subst hji; rw [List.getElem?_set_self (by omega), List.getElem?_set_self hil]
  ·rw [List.getElem?_set_ne (fun e => hji e.symm), List.getElem?_set_ne (fun e => hji e.symm)]
   exact hi j (hj.imp_right fun h => h)
 simpa [List.set_set] using this
theorem flat_dropN {sz : Nat} : ∀ {xs : List (List Value)} (a : Nat), (∀ x ∈ xs, x.length = sz) → xs.flatten.drop (a * sz) = (xs.drop a).flatten
 | [], a, _ => by simp
 | x :: xs, 0, _ => by simp
 | x :: xs, a + 1, h => by
  have hx := h x (by simp)
  rw [List.drop_succ_cons, List.flatten_cons, Nat.succ_mul, List.drop_append, hx, List.drop_eq_nil_of_le (by omega), List.nil_append, show a * sz + sz - sz = a * sz from by omega, flat_dropN a fun y hy => h y (by simp [hy])]
theorem splice_take {β : Type} (cl Z : List β) (A N : Nat) (h1 : A + Z.length ≤ N) (h2 : N ≤ cl.length) : (cl.take A ++ Z ++ cl.drop (A + Z.length)).take N = (cl.take N).take A ++ (Z ++ (cl.take N).drop (A + Z.length)) := by
 have e1 : min A cl.length = A := by omega
 rw [List.append_assoc, List.take_append, List.length_take, e1, List.take_of_length_le (l := cl.take A) (by rw [List.length_take]; omega), List.take_append, List.take_of_length_le (l := Z) (by omega), List.take_take, Nat.min_eq_left (show A ≤ N by omega), List.drop_take, Nat.sub_sub]
theorem zeros_flat {z : Value} {cs : List Value} (hz : z.cells.toList = cs) (q : Nat) : (Builtin.zeroCells z.cells q).toList = (List.replicate q cs).flatten := by
 subst hz
 unfold Builtin.zeroCells
 simp only [Array.toList_map, Array.toList_range]
 have key : ∀ q, (List.range (q * z.cells.size)).map (fun j => z.cells[j % z.cells.size]!) = (List.replicate q z.cells.toList).flatten := by
  intro q
  induction q with
  | zero => simp
  | succ q ih =>
   rw [List.replicate_succ', List.flatten_concat, Nat.succ_mul, List.range_add, List.map_append, ih, List.map_map]
   congr 1
   apply List.ext_getElem
   ·simp
   ·intro j h1 h2
    simp only [List.length_map, List.length_range] at h1
    simp only [List.getElem_map, List.getElem_range, Function.comp, Nat.add_comm, Nat.add_mul_mod_self_right, Nat.mod_eq_of_lt h1, Array.getElem_toList]
    rw [getElem!_pos z.cells _ h1]
 exact key q
end rules
end Go.Lx

/- Rules: results that are pointers, nil or to new memory. Conditions: none. -/
namespace Go.Lx
open Go Go.Vc Go.Md
def optP {α : Type} (o : Option α) (b : Nat) : Value := match o with | none => .pointer none | some _ => .pointer (some ⟨b, 0, none⟩)
def optC {α : Type} (o : Option α) (C : α → Chunk) : Chunk := match o with | none => empC | some a => C a
def obxC {α : Type} (pv : Value) (o : Option α) (b : Nat) (C : α → Chunk) : Chunk where
 P S w := (optC o C).P S w ∧ pv = optP o b
 loc S w w' h := fun ⟨h1, h2⟩ => ⟨(optC o C).loc S w w' h h1, h2⟩
theorem imp_obx {α : Type} {b : Nat} {z : α} (C : α → Chunk) : Imp (C z) (obxC (.pointer (some ⟨b, 0, none⟩)) (some z) b C) := ⟨fun _ _ h => ⟨h, rfl⟩⟩
theorem imp_obxNil {α : Type} {b : Nat} (C : α → Chunk) : Imp empC (obxC (.pointer none) (none : Option α) b C) := ⟨fun _ _ h => ⟨h, rfl⟩⟩
section rules
variable {cx : Cx} {K : X5 → World → Prop} {e : X5} {L : List Chunk}
theorem c_emp (k : At cx K e (L ++ [empC])) : At cx K e L := ⟨fun w hF hS => k.out w hF (hS.emp hF)⟩
theorem c_obx {α : Type} {pv : Value} {o : Option α} {b : Nat} {C : α → Chunk} {z : α} (i : Nat) (hL : L[i]? = some (obxC pv o b C)) (ho : o = some z) (k : pv = .pointer (some ⟨b, 0, none⟩) → At cx K e (L.set i (C z))) : At cx K e L := by
 subst ho
 refine c_know (φ := pv = .pointer (some ⟨b, 0, none⟩)) (fun w hF hS => ?_) fun h => c_imp i hL ⟨fun S w hp => hp.1⟩ (k h)
 obtain ⟨S, hp, _⟩ := hS.at hL
 exact hp.2
end rules
section ops
variable {P : Program} {cx : Cx} {e : X5} {L : List Chunk} {d : Option Nat} {ty : TypeId} {pos : String} {af : Array Edge} {g : Option (Nat × Bool)}
end ops
section rules
variable {P : Program} {cx : Cx} {ops : Array Oper} {F : X5 → List Chunk → Prop} {rest : List Oper} {ss : List Kd} {e : X5} {L : List Chunk} {d : Nat}
end rules
end Go.Lx

/- Rules: slices of slices in boxes; parts of them, also such as begin further on; literals and appends of slices that a drawn region makes. Conditions: those that each rule names. -/
namespace Go.Lx
open Go Go.Vc Go.Md
def cutL {β : Type} (xs : List β) (l q : Int) : List β := (xs.drop l.toNat).take (q.toNat - l.toNat)
section allc
variable {α : Type} {G : J3 → (Nat → Value) → α → Prop} {h : J3} {sz : Nat} {css : List (List Value)} {xs ys : List α} {l q : Int}
theorem AllC.cut (p : AllC G h sz css xs) (g : Um xs l q = some ys) : AllC G h sz (cutL css l q) ys := by
 obtain ⟨g0, g1, g2, rfl⟩ := Va g
 refine ⟨by simp [cutL, p.len], fun i cs x h1 h2 => ?_⟩
 unfold cutL at h1
 rw [List.getElem?_take] at h1 h2
 split at h1
 ·rename_i hi
  rw [if_pos hi] at h2
  rw [List.getElem?_drop] at h1 h2
  exact p.el _ cs x h1 h2
 ·cases h1
theorem AllC.append {cs2 : List (List Value)} (p : AllC G h sz css xs) (q : AllC G h sz cs2 ys) : AllC G h sz (css ++ cs2) (xs ++ ys) := by
 refine ⟨by simp [p.len, q.len], fun i c x hc hx => ?_⟩
 have hl := p.len
 by_cases hi : i < css.length
 ·rw [List.getElem?_append_left hi] at hc
  rw [List.getElem?_append_left (by omega)] at hx
  exact p.el i c x hc hx
 ·rw [List.getElem?_append_right (by omega)] at hc
  rw [List.getElem?_append_right (by omega), ← hl] at hx
  exact q.el _ c x hc hx
end allc
section rules
variable {P : Program} {n : Nat} {cx : Cx} {e : X5} {L : List Chunk} {d : Nat} {ty : TypeId} {pos : String} {af : Array Edge} {g : Option (Nat × Bool)}
def offR (w : World) (E sz : Nat) (v : Value) (n : Nat) (xs : List (List Value)) : Prop :=
 ∃ g off cap cur, v = .slice (some ⟨g, off, none⟩) n cap ∧ w.heap[g]? = some (.cells cur E (0, 0)) ∧ n ≤ cap ∧ cap ≤ maxLen ∧ off + cap * sz ≤ cur.size ∧ (cur.toList.drop off).take (n * sz) = xs.flatten
def Q0 (E sz : Nat) (v : Value) (n : Nat) (xs : List (List Value)) : Chunk where
 P S w := ((w.ownsRow 0 E sz v n xs.flatten ∨ offR w E sz v n xs) ∧ xs.length = n ∧ ∀ x ∈ xs, x.length = sz) ∧ ∀ b, v.ownBlock = some b → S b
 loc S w w' h := by
  rintro ⟨⟨h2, h3⟩, h4⟩
  refine ⟨⟨?_, h3⟩, h4⟩
  rcases h2 with h2 | ⟨g, off, cap, cur, rfl, hh, hr⟩
  ·exact .inl ((Qq E sz v n xs).loc S w w' h ⟨⟨h2, h3⟩, h4⟩).1.1
  ·exact .inr ⟨g, off, cap, cur, rfl, (h g (h4 g rfl)).trans hh, hr⟩
theorem imp_rowO (E sz : Nat) (v : Value) (n : Nat) (xs : List (List Value)) : Imp (Qq E sz v n xs) (Q0 E sz v n xs) := ⟨fun _ _ ⟨⟨h1, h2⟩, h3⟩ => ⟨⟨.inl h1, h2⟩, h3⟩⟩
theorem offR.frs {w : World} {E sz : Nat} {v : Value} {n : Nat} {xs : List (List Value)} (h : offR w E sz v n xs) (hn : xs.length = n) (hl : ∀ x ∈ xs, x.length = sz) : FrS (fun b => w.heap[b]?) sz v xs := by
 obtain ⟨g, off, cap, cur, rfl, hh, hnc, hm, hcs, ht⟩ := h
 subst hn
 refine ⟨some ⟨g, off, none⟩, cap, rfl, hnc, by simpa [maxLen] using hm, .inr ⟨g, off, cur, E, (0, 0), rfl, hh, fun i x hx => ⟨hl x (List.mem_of_getElem? hx), fun j v hv => ?_⟩⟩⟩
 have hr := row_get xs i x (List.all_eq_true.2 fun x hx => by simpa using hl x hx) hx j v hv
 rw [← ht, List.getElem?_take] at hr
 split at hr
 ·rw [List.getElem?_drop, Array.getElem?_toList] at hr
  rw [← hr, Nat.add_assoc]
 ·cases hr
theorem rowO_frs0 {w : World} {E sz : Nat} {v : Value} {n : Nat} {xs : List (List Value)} {S : Nat → Prop} (h : (Q0 E sz v n xs).P S w) : FrS (fun b => w.heap[b]?) sz v xs := by
 obtain ⟨⟨h1, h2, h3⟩, _⟩ := h
 exact h1.elim (fun h => row_FrS h h2 h3) (fun h => h.frs h2 h3)
theorem frs_off {α : Type} {w : World} {i E sz n : Nat} {p : Option Addr × Nat} {xs : List α} {f : α → List Value} (_ : n = xs.length) (hS : Sat cx w L) (hL : L[i]? = some (Q0 E sz (.slice p.1 n p.2) n (xs.map f))) : FrS (fun b => w.heap[b]?) sz (.slice p.1 n p.2) (xs.map f) := by
 obtain ⟨S, h, _⟩ := hS.at hL
 exact rowO_frs0 h
theorem offOf {w : World} {i E sz n c : Nat} {a : Option Addr} {xs : List (List Value)} (hS : Sat cx w L) (hL : L[i]? = some (Q0 E sz (.slice a n c) n xs)) : Row w a sz xs := by
 obtain ⟨S, h, _⟩ := hS.at hL
 obtain ⟨a', c', hv, _, _, r⟩ := (rowO_frs0 h).out
 simp only [Value.slice.injEq] at hv
 obtain ⟨rfl, _, rfl⟩ := hv
 exact r.row fun _ _ h => h
theorem imp_cutO {E sz m : Nat} {p : Option Addr × Nat} {xs ys : List (List Value)} {l q : Int} (hm : m = xs.length) (g : Um xs l q = some ys) :
  Imp (Q0 E sz (.slice p.1 m p.2) m (xs.map idC)) (Q0 E sz (.slice (Y4 p.1 l.toNat p.2 sz) ys.length (p.2 - l.toNat)) ys.length (ys.map idC)) := by
 refine ⟨fun S w => ?_⟩
 obtain ⟨g0, g1, g2, rfl⟩ := Va g
 subst hm
 have hid : ∀ zs : List (List Value), zs.map idC = zs := fun zs => List.map_id' zs
 rw [hid, hid]
 rintro ⟨⟨h1, h2, h3⟩, hob⟩
 have hl : ((xs.drop l.toNat).take (q.toNat - l.toNat)).length = q.toNat - l.toNat := by rw [List.length_take, List.length_drop]; omega
 refine ⟨⟨?_, rfl, fun x hx => h3 x (List.mem_of_mem_drop (List.mem_of_mem_take hx))⟩, fun b hb => hob b (by rw [own_cut (y := xs.length)] at hb; rw [← hb]; cases p.1 <;> rfl)⟩
 have hfl : ∀ (zs : List (List Value)) (k : Nat), (∀ x ∈ zs, x.length = sz) → zs.flatten.drop (k * sz) = (zs.drop k).flatten := fun zs k hz => flat_dropN k hz
 have key : ∀ gb off cap (cur : Array Value), Value.slice p.1 xs.length p.2 = .slice (some ⟨gb, off, none⟩) xs.length cap → w.heap[gb]? = some (.cells cur E (0, 0)) → xs.length ≤ cap → cap ≤ maxLen → off + cap * sz ≤ cur.size → (cur.toList.drop off).take (xs.length * sz) = xs.flatten →
   offR w E sz (.slice (Y4 p.1 l.toNat p.2 sz) ((xs.drop l.toNat).take (q.toNat - l.toNat)).length (p.2 - l.toNat)) ((xs.drop l.toNat).take (q.toNat - l.toNat)).length ((xs.drop l.toNat).take (q.toNat - l.toNat)) := by
  intro gb off cap cur hv hh hnc hm hcs ht
  simp only [Value.slice.injEq] at hv
  obtain ⟨e1, _, e2⟩ := hv
  rw [e1, e2, hl]
  have hflat : ((xs.drop l.toNat).take (q.toNat - l.toNat)).flatten = (cur.toList.drop (off + l.toNat * sz)).take ((q.toNat - l.toNat) * sz) := by
   rw [← flat_takeN _ (fun x hx => h3 x (List.mem_of_mem_drop hx)), ← hfl xs _ h3, ← ht, List.drop_take, List.take_take, List.drop_drop]
   rw [Nat.min_eq_left]
   rw [← Nat.sub_mul]
   exact Nat.mul_le_mul_right _ (by omega)
  unfold Y4
  by_cases hc : cap = l.toNat
  ·rw [if_pos hc]
   refine ⟨gb, off, cap - l.toNat, cur, rfl, hh, by omega, by omega, ?_, ?_⟩
   ·have : (cap - l.toNat) * sz ≤ cap * sz := Nat.mul_le_mul_right _ (by omega)
    omega
   ·have h0 : q.toNat - l.toNat = 0 := by omega
    rw [h0]; simp
  ·rw [if_neg hc]
   refine ⟨gb, off + l.toNat * sz, cap - l.toNat, cur, by simp [Addr.add_lit], hh, by omega, by omega, ?_, hflat.symm⟩
   have : l.toNat * sz + (cap - l.toNat) * sz = cap * sz := by rw [← Nat.add_mul]; congr 1; omega
   omega
 rcases h1 with ⟨_, ⟨hv, h0⟩ | ⟨gb, cap, cur, hv, _, hh, hnc, hm, hcs, ht⟩⟩ | ⟨gb, off, cap, cur, hv, hh, hnc, hm, hcs, ht⟩
 ·have hx : xs = [] := List.eq_nil_of_length_eq_zero h0
  subst hx
  have hq0 : l.toNat = 0 := by simp at g2; omega
  simp only [Value.slice.injEq] at hv
  refine .inl ⟨by simp, .inl ⟨?_, by simp⟩⟩
  rw [hv.1, hv.2.2]
  simp [Y4]
 ·exact .inr (key gb 0 cap cur hv hh hnc hm (by omega) (by simpa using ht))
 ·exact .inr (key gb off cap cur hv hh hnc hm hcs ht)
theorem own0 {w : World} {base E sz n : Nat} {v : Value} {xs : List Value} (h : w.ownsRow base E sz v n xs) : w.ownsRow 0 E sz v n xs :=
 ⟨h.1, h.2.imp id fun ⟨g, cap, cur, h1, _, h3⟩ => ⟨g, cap, cur, h1, Nat.zero_le _, h3⟩⟩
theorem turns_appendO {i : Nat} {S X : Operand} {t E : TypeId} {I : TypeInfo} {z : Value} {sz by_ : Nat} {p : Option Addr × Nat} {m : Nat} {xs : List (List Value)} {ad : Addr} {q c : Nat} {news : List (List Value)} {rds : List Nat}
  (ht : P.underlying t = some (.slice E)) (hi : P.info? E = some I) (hz : I.zero = some z) (hsize : I.size = sz) (hby : I.bytes = by_) (hzs : z.cells.size = sz) (hsz : Nat.blt 0 sz = true)
  (hL : L[i]? = some (Q0 E sz (.slice p.1 m p.2) m xs)) (hs : ev e S = .slice p.1 m p.2) (hx : ev e X = .slice (some ad) q c) (hq : news.length = q) (hnl : ∀ x ∈ news, x.length = sz)
  (hnews : ∀ w L', Fr cx w → Sat cx w L' → (∀ j, j ∈ rds → L'[j]? = L[j]?) → Row w (some ad) sz news) (h1 : ∀ x ∈ news, ∀ u ∈ x, u.oneCell' = true)
  (h63 : m + q ≤ maxLen) (hbytes : (m + q) * by_ ≤ 140737488355328) :
  Turns P cx e ⟨some d, .call ⟨.builtin .append, #[S, X], #[t, t]⟩, ty, pos, af, g⟩ L i rds (fun p' : Option Addr × Nat => .slice p'.1 (m + q) p'.2) (fun p' => Q0 E sz (.slice p'.1 (m + q) p'.2) (m + q) (xs ++ news)) := fun w L' hF hS hl hi' => by
 subst hsize
 have hL' := (hi' i (.inr rfl)).trans hL
 obtain ⟨S0, ⟨⟨ho, hlen, hlx⟩, hob⟩, hS0⟩ := hS.at hL'
 have hsz' : 0 < I.size := by simpa using hsz
 have hfl : news.flatten.length = q * I.size := by rw [flat_len news hnl, hq]
 have hle : (xs ++ news).length = m + q := by simp [hlen, hq]
 have hcell : ∀ j u, news.flatten[j]? = some u → w.cell? (ad.add j) = some u := by
  intro j u hj
  obtain ⟨i', k', x, g1, g2, g3⟩ := flat_get news hnl j u hj
  rcases hnews w L' hF hS (fun j hj => hi' j (.inl hj)) with h | ⟨b, off, ha, h⟩
  ·subst h; simp at g1
  ·cases ha
   have := (h i' x g1).2 k' u g2
   rw [Addr.add_lit, g3, ← Nat.add_assoc]
   exact this
 have hone : ∀ u ∈ news.flatten, u.oneCell' = true := fun u hu => by
  obtain ⟨x, hx, hux⟩ := List.mem_flatten.1 hu
  exact h1 x hx u hux
 have hall : ∀ x ∈ xs ++ news, x.length = I.size := fun x hx => by
  rcases List.mem_append.1 hx with h | h
  ·exact hlx x h
  ·exact hnl x h
 have hflat : (xs ++ news).flatten = xs.flatten ++ news.flatten := List.flatten_append
 rcases ho with ho | ⟨g0, off, cap, cur, hv, hh, hnc, hcm, hfit, htk⟩
 ·obtain ⟨v', w', hr, h2, h3, h5⟩ := run_append_at (P := P) (ty := ty) (pos := pos) (af := af) (g := g) (d := some d) ht hi hz rfl hby hzs hsz' hs ho hx hfl hcell hone h63 hbytes
  obtain ⟨p', rfl⟩ := Jaq h2
  rw [← hflat] at h2
  obtain ⟨hF', hS'⟩ := hS.turnOf hF hL' (C := Q0 E I.size (.slice p'.1 (m + q) p'.2) (m + q) (xs ++ news)) fun S1 hp => by
   have t1 := turn_append (xs' := xs ++ news) hp.2 h2 h3 h5 hle hall
   obtain ⟨S2, k1, k2⟩ := t1.out
   exact ⟨t1.os, t1.tape, t1.output, t1.size, t1.block, S2, (imp_rowO _ _ _ _ _).out _ _ k1, k2⟩
  unfold RunsTo
  rw [hr]
  exact ⟨p', rfl, hF', hS'⟩
 ·simp only [Value.slice.injEq] at hv
  obtain ⟨e1, _, e2⟩ := hv
  have hs' : ev e S = .slice (some ⟨g0, off, none⟩) m cap := by rw [hs, e1, e2]
  have hexec : ∀ v w', (Builtin.append_ #[t, t] ty #[.slice (some ⟨g0, off, none⟩) m cap, .slice (some ad) q c]).run P w = .ok v w' → (execOp (ev e) ⟨some d, .call ⟨.builtin .append, #[S, X], #[t, t]⟩, ty, pos, af, g⟩).run P w = .ok (.value v) w' := by
   intro v w' hr
   simp only [execOp, resolve, invoke, builtin, Sem.run_bind, Sem.run_pure, Result.andThen_ok, List.map_toArray, List.map_cons, List.map_nil, hs', hx, hr]
  have hcur : cur.toList.length = cur.size := Array.length_toList
  by_cases hroom : m + q ≤ cap
  ·have hfit' : off + m * I.size + news.flatten.length ≤ cur.size := by
    have : (m + q) * I.size ≤ cap * I.size := Nat.mul_le_mul_right _ hroom
    rw [Nat.add_mul] at this; omega
   have hfc := run_firstCells_some (P := P) w I.size q ad q c news.flatten hfl hcell
   have hst := run_storeCells_at (P := P) g0 (off + m * I.size) E news.flatten 0 cur w hh (by simpa using hfit') hone
   simp only [Nat.add_zero] at hst
   have hr2 : (Builtin.append_ #[t, t] ty #[.slice (some ⟨g0, off, none⟩) m cap, .slice (some ad) q c]).run P w = .ok (.slice (some ⟨g0, off, none⟩) (m + q) cap) (w.setRow g0 (cur.toList.take (off + m * I.size) ++ news.flatten ++ cur.toList.drop (off + m * I.size + news.flatten.length)).toArray) := by
    simp [Builtin.append_, run_underlying ht, sizeOf, typeInfo, hi, Builtin.lenOf, hroom, hfc, Addr.add_lit, hst]
   have hr := hexec _ _ hr2
   have hlen2 : (cur.toList.take (off + m * I.size) ++ news.flatten ++ cur.toList.drop (off + m * I.size + news.flatten.length)).length = cur.size := by
    simp only [List.length_append, List.length_take, List.length_drop, hcur]; omega
   obtain ⟨hF', hS'⟩ := hS.turnOf hF hL' (C := Q0 E I.size (.slice (some ⟨g0, off, none⟩) (m + q) cap) (m + q) (xs ++ news)) (w' := w.setRow g0 (cur.toList.take (off + m * I.size) ++ news.flatten ++ cur.toList.drop (off + m * I.size + news.flatten.length)).toArray) fun S1 hp => by
    have hg1 : S1 g0 := hp.2 g0 (by rw [e1]; rfl)
    refine ⟨rfl, rfl, rfl, by simp [World.setRow], fun b' hb' hn => ?_, (fun x => x = g0), ⟨⟨.inr ⟨g0, off, cap, _, rfl, setRow_heap w g0 cur _ E _ hh, hroom, hcm, by rw [List.size_toArray, hlen2]; exact hfit, ?_⟩, hle, hall⟩, fun b' hb' => by cases hb'; rfl⟩, fun b' hb' => ⟨?_, .inl (by rw [hb']; exact hg1)⟩⟩
    ·exact setRow_other w g0 b' _ fun h => hn (by rw [h]; exact hg1)
    ·rw [hflat]
     have hd : (cur.toList.take (off + m * I.size) ++ news.flatten ++ cur.toList.drop (off + m * I.size + news.flatten.length)).drop off = ((cur.toList.drop off).take (m * I.size) ++ news.flatten) ++ cur.toList.drop (off + m * I.size + news.flatten.length) := by
      rw [List.append_assoc, List.drop_append_of_le_length (by rw [List.length_take, hcur]; omega), List.drop_take, Nat.add_sub_cancel_left, List.append_assoc]
     have hl2 : ((cur.toList.drop off).take (m * I.size) ++ news.flatten).length = (m + q) * I.size := by
      rw [List.length_append, List.length_take, List.length_drop, hcur, Nat.add_mul, Nat.min_eq_left (by omega)]; omega
     show ((cur.toList.take (off + m * I.size) ++ news.flatten ++ cur.toList.drop (off + m * I.size + news.flatten.length)).toArray.toList.drop off).take _ = _
     rw [List.toList_toArray, hd, ← hl2, List.take_left, htk]
    ·rw [hb', setRow_size]; exact (Array.getElem?_eq_some_iff.1 hh).1
   unfold RunsTo
   rw [hr]
   exact ⟨(some ⟨g0, off, none⟩, cap), rfl, hF', hS'⟩
  ·have hgr := run_append_arg_grows (P := P) w t ty E I z I.size by_ ht hi hz rfl hby hzs hsz' ⟨g0, off, none⟩ m cap xs.flatten (by rw [flat_len xs hlx, hlen]) (fun j u hj => ?_) ad q c news.flatten hfl hcell (by omega) h63 hbytes
   ·obtain ⟨v', w', hr, h2, h3⟩ := hgr
    have hr := hexec _ _ hr
    obtain ⟨p', rfl⟩ := Jaq (own0 h2)
    rw [← hflat] at h2
    obtain ⟨hF', hS'⟩ := hS.turnOf hF hL' (C := Q0 E I.size (.slice p'.1 (m + q) p'.2) (m + q) (xs ++ news)) fun S1 hp => by
     refine ⟨h3.os, h3.tape, h3.output, h3.size, fun b' hb' _ => h3.block b' hb' (by simp), fun b' => (Value.slice p'.1 (m + q) p'.2).ownBlock = some b', ⟨⟨.inl (own0 h2), hle, hall⟩, fun _ h => h⟩, fun b' hb' => ⟨(h2.lt b' hb').2, .inr (h2.lt b' hb').1⟩⟩
    unfold RunsTo
    rw [hr]
    exact ⟨p', rfl, hF', hS'⟩
   ·obtain ⟨i', k', x, g1, g2, g3⟩ := flat_get xs hlx j u hj
    have hr := (offR.frs ⟨g0, off, cap, cur, rfl, hh, hnc, hcm, hfit, htk⟩ hlen hlx).out
    obtain ⟨a', c', hv', _, _, r⟩ := hr
    simp only [Value.slice.injEq] at hv'
    obtain ⟨rfl, _, rfl⟩ := hv'
    rcases r.row (w := w) (fun _ _ h => h) with h | ⟨b', off', ha, h⟩
    ·subst h; simp at g1
    ·cases ha
     have := (h i' x g1).2 k' u g2
     rw [Addr.add_lit, g3, ← Nat.add_assoc]
     exact this
theorem turns_appF {α : Type} {f : α → List Value} {ys ls zs : List α} {i : Nat} {S X : Operand} {t E : TypeId} {I : TypeInfo} {z : Value} {sz by_ : Nat} {p : Option Addr × Nat} {rds : List Nat} {V : Value} {a : Addr} {c m q : Nat} (hn : m = ys.length)
  (ht : P.underlying t = some (.slice E)) (hi : P.info? E = some I) (hz : I.zero = some z) (hsize : I.size = sz) (hby : I.bytes = by_) (hzs : z.cells.size = sz) (hsz : Nat.blt 0 sz = true)
  (hL : L[i]? = some (Q0 E sz (.slice p.1 m p.2) m (ys.map f))) (hs : ev e S = .slice p.1 m p.2) (hx : ev e X = V) (hV : V = .slice (some a) q c) (hq : q = ls.length)
  (hnews : ∀ w L', Fr cx w → Sat cx w L' → (∀ j, j ∈ rds → L'[j]? = L[j]?) → Row w (some a) sz (ls.map f)) (hf : ∀ x, (f x).length = sz) (h1 : ∀ x, (f x).all Value.oneCell' = true) (hg : gApp by_ ys ls = some zs) :
  Turns P cx e ⟨some d, .call ⟨.builtin .append, #[S, X], #[t, t]⟩, ty, pos, af, g⟩ L i rds (fun p' : Option Addr × Nat => .slice p'.1 zs.length p'.2) (fun p' => Q0 E sz (.slice p'.1 zs.length p'.2) zs.length (zs.map f)) := by
 subst hn hq
 obtain ⟨rfl, hb1, hb2⟩ := gApp_some hg
 rw [List.length_append, List.map_append]
 exact turns_appendO ht hi hz hsize hby hzs hsz hL hs (hx.trans hV) (by rw [List.length_map]) (fun x hx => by
  obtain ⟨y, _, rfl⟩ := List.mem_map.1 hx; exact hf y) hnews (fun x hx u hu => by
  obtain ⟨y, _, rfl⟩ := List.mem_map.1 hx; exact List.all_eq_true.1 (h1 y) u hu) (by simp only [maxLen]; omega) hb2
theorem frb_off {α : Type} {w : World} {S : Nat → Prop} {i j E sz n : Nat} {p : Option Addr × Nat} {xs : List α} {f : α → List Value} {L' : List Chunk} (_ : n = xs.length) (hA : Apart L' i w S) (_ : Sat cx w L') (hji : j ≠ i) (hL : L'[j]? = some (Q0 E sz (.slice p.1 n p.2) n (xs.map f))) : FrS (but w S) sz (.slice p.1 n p.2) (xs.map f) := by
 obtain ⟨S', h1, h2⟩ := hA j _ hji hL
 exact (rowO_frs0 h1).but fun b hb => h2 b (h1.2 b hb)
end rules
noncomputable def os0 : Os := by constructor <;> exact default
section rules
variable {P : Program} {cx : Cx} {ops : Array Oper} {F : X5 → List Chunk → Prop} {rest : List Oper} {ss : List Kd} {e : X5} {L : List Chunk} {d : Nat}
end rules
end Go.Lx

/- Rules: stores of slices that a region makes into elements of nested rows. Conditions: none. -/
namespace Go.Lx
open Go Go.Vc Go.Md
end Go.Lx
namespace Go.Lx
open Go Go.Vc Go.Md
theorem rowO_of_turn {w w' : World} {S : Nat → Prop} {E sz n : Nat} {v : Value} {xs : List (List Value)} (h : Turn w w' S (Qq E sz v n xs)) : Turn w w' S (Q0 E sz v n xs) := by
 obtain ⟨a, b, c, d, e, S', h1, h2⟩ := h
 exact ⟨a, b, c, d, e, S', (imp_rowO E sz v n xs).out _ _ h1, h2⟩
section rules
variable {P : Program} {n : Nat} {cx : Cx} {e : X5} {L : List Chunk} {ops : Array Oper} {rest : List Oper} {F : X5 → List Chunk → Prop} {ss : List Kd} {ty : TypeId} {pos : String} {af : Array Edge} {g : Option (Nat × Bool)}
end rules
end Go.Lx
namespace Go.Lx
open Go Go.Vc Go.Md
section
variable {cx : Cx} {K : X5 → World → Prop} {e : X5} {L : List Chunk}
end
end Go.Lx
namespace Go.Lx
open Go Go.Vc Go.Md
section
variable {P : Program} {n : Nat} {cx : Cx} {e : X5} {L : List Chunk} {ops : Array Oper} {rest : List Oper} {F : X5 → List Chunk → Prop} {ss : List Kd} {ty : TypeId} {pos : String} {af : Array Edge} {g : Option (Nat × Bool)}
theorem d_readE {o : Oper} {d : Nat} {v : Value} {rds : List Nat} (hw : Y3 ops o e = true) (hd : o.dst = some d) (hr : ∀ w L', Fr cx w → Sat cx w L' → (∀ i ∈ rds, L'[i]? = L[i]?) → (execOp (ev e) o).run P w = .ok (.value v) w)
  (k : Sq P cx ops F rest ss (upd e d v) L) : Sq P cx ops F (o :: rest) (.d rds v :: ss) e L := d_readD hr hw hd k
theorem run_fieldG {α : Type} {f : α → List Value} {xs : List α} {x' : α} {i : Int} {d : Option Nat} {T fld k fo ft fsz bo : Nat} {a : Option Addr} {nm tg pk : String} {em : Bool} {X : Operand} {fs : Array Field} {sz' : Nat} {w : World} (hu : ∀ w, (underlying T).run P w = .ok (.struct fs) w)
  (hf : fs[fld]? = some ⟨nm, ft, fo, em, tg, pk, bo⟩) (hs : ∀ w, (sizeOf ft).run P w = .ok fsz w) (hsz : Nat.blt 0 fsz = true) (hp : ev e X = ptrAt a k) (hR : Row w a sz' (xs.map f)) (hg : Qn xs i = some x') :
  (execOp (ev e) ⟨d, .fieldAddr T X fld, ty, pos, af, g⟩).run P w = .ok (.value (ptrAt a (k + fo))) w :=
 r_fieldP hu hf hs hsz hp (hR.some (by rw [List.length_map]; exact (Yo hg).2.1)) w
end
end Go.Lx
namespace Go.Lx
open Go Go.Vc Go.Md
section
variable {P : Program} {n : Nat} {cx : Cx} {e : X5} {L : List Chunk} {ops : Array Oper} {rest : List Oper} {F : X5 → List Chunk → Prop} {ss : List Kd} {ty : TypeId} {pos : String} {af : Array Edge} {g : Option (Nat × Bool)}
end
end Go.Lx
namespace Go.Lx
open Go Go.Vc Go.Md
section
variable {P : Program} {n : Nat} {cx : Cx} {e : X5} {L : List Chunk} {ty : TypeId} {pos : String} {af : Array Edge} {g : Option (Nat × Bool)}
end
end Go.Lx

/- Rules: slices.Delete's operations at a row of one's own that may be a part of a longer one. Conditions: none. -/
namespace Go.Lx
open Go Go.Vc Go.Md
theorem rowO_off {S : Nat → Prop} {w : World} {E sz n c : Nat} {a : Option Addr} {xs : List (List Value)} (h : (Q0 E sz (.slice a n c) n xs).P S w) (hc : 0 < c) :
  ∃ g off cur, a = some ⟨g, off, none⟩ ∧ S g ∧ w.heap[g]? = some (.cells cur E (0, 0)) ∧ n ≤ c ∧ c ≤ maxLen ∧ off + c * sz ≤ cur.size ∧ (cur.toList.drop off).take (n * sz) = xs.flatten := by
 obtain ⟨⟨h1, hlen, hlx⟩, hb⟩ := h
 rcases h1 with h1 | ⟨g, off, cap, cur, hv, hh, q1, q2, q3, q4⟩
 ·rcases h1.2 with ⟨hv, h0⟩ | ⟨g, cap, cur, hv, hbase, hh, q1, q2, q3, q4⟩
  ·simp only [Value.slice.injEq] at hv; omega
  ·simp only [Value.slice.injEq] at hv
   obtain ⟨rfl, -, rfl⟩ := hv
   exact ⟨g, 0, cur, rfl, hb g rfl, hh, q1, q2, by omega, by simpa using q4⟩
 ·simp only [Value.slice.injEq] at hv
  obtain ⟨rfl, -, rfl⟩ := hv
  exact ⟨g, off, cur, rfl, hb g rfl, hh, q1, q2, q3, q4⟩
section
variable {P : Program} {n : Nat} {cx : Cx} {e : X5} {L : List Chunk} {d : Option Nat} {ty : TypeId} {pos : String} {af : Array Edge} {g : Option (Nat × Bool)}
theorem capOfO {w : World} {i E sz n c : Nat} {a : Option Addr} {xs : List (List Value)} (hS : Sat cx w L) (hL : L[i]? = some (Q0 E sz (.slice a n c) n xs)) : n ≤ c := by
 obtain ⟨S, ⟨⟨h1, hlen, hlx⟩, hb⟩, _⟩ := hS.at hL
 rcases h1 with h1 | ⟨g, off, cap, cur, hv, hh, q1, _⟩
 ·rcases h1.2 with ⟨hv, h0⟩ | ⟨g, cap, cur, hv, hbase, hh, q1, _⟩
  ·omega
  ·simp only [Value.slice.injEq] at hv; omega
 ·simp only [Value.slice.injEq] at hv; omega
end
end Go.Lx
namespace Go.Lx
open Go Go.Vc Go.Md
section
variable {cx : Cx} {L : List Chunk} {w : World}
end
end Go.Lx
namespace Go.Lx
open Go Go.Vc Go.Md
end Go.Lx

/- Rules: slices.Insert's operations at a row of one's own without room: an append that makes a new row with zeros, copies of elements of many cells. Conditions: none. -/
namespace Go.Lx
open Go Go.Vc Go.Md
section
variable {P : Program} {n : Nat} {cx : Cx} {e : X5} {L : List Chunk} {d : Nat} {ty : TypeId} {pos : String} {af : Array Edge} {g : Option (Nat × Bool)}
end
end Go.Lx
namespace Go.Lx
open Go Go.Vc Go.Md
end Go.Lx
namespace Go.Vc
open Go
section
variable {P : Program} {cx : Cx} {e : X5} {L : List Chunk}
end
end Go.Vc

/- Rules: rows that may be known, over the frozen memory. Conditions: none. -/
namespace Go.Lx
open Go Go.Vc Go.Md
section
variable {cx : Cx} {L : List Chunk}
end
end Go.Lx

/- The kit's contract of slices.SortFunc at nested rows, by a number that each element has for itself. Conditions: the numbers are different, and not too large. -/
namespace Go.Lx
open Go Go.Md Go.Vc Go.Shelf Go.Sort Go.Proofs
end Go.Lx

/- Short forms of rules, for walks that would be too long for one claim. Conditions: none. -/
namespace Go.Lx
open Go Go.Md Go.Vc Go.Shelf Go.Sort Go.Proofs
section
variable {P : Program} {n : Nat} {cx : Cx} {Q : Ue} {e : X5} {L : List Chunk} {ops : Array Oper} {rest : List Oper} {d : Nat} {ty : TypeId} {pos : String} {af : Array Edge} {g : Option (Nat × Bool)} {X : Operand}
theorem c_dr {K : X5 → World → Prop} (i : Nat) (k : At cx K e (L.eraseIdx i)) : At cx K e L := by
 refine c_sel ((List.range L.length).eraseIdx i) (L.eraseIdx i) ?_ (List.nodup_range.sublist (List.eraseIdx_sublist _ _)) k
 refine List.ext_getElem? fun j => ?_
 rw [List.getElem?_map, List.getElem?_map, List.getElem?_eraseIdx, List.getElem?_eraseIdx]
 split
 ·by_cases h : j < L.length
  ·rw [List.getElem?_range h]; simp [List.getElem?_eq_getElem h]
  ·rw [List.getElem?_eq_none (by simpa using h), List.getElem?_eq_none (by simpa using h)]; rfl
 ·by_cases h : j + 1 < L.length
  ·rw [List.getElem?_range h]; simp [List.getElem?_eq_getElem h]
  ·rw [List.getElem?_eq_none (by simpa using h), List.getElem?_eq_none (by simpa using h)]; rfl
end
section
variable {P : Program} {cx : Cx} {e : X5} {L : List Chunk} {ops : Array Oper} {F : X5 → List Chunk → Prop} {rest : List Oper} {ss : List Kd} {d : Nat} {ty : TypeId} {pos : String} {af : Array Edge} {g : Option (Nat × Bool)} {X : Operand}
end
section
variable {α : Type} {a b : α} {l : List α} {n : Nat}
theorem z1 : (a :: l).set 0 b = b :: l := rfl
theorem z2 : (a :: l).set (n + 1) b = a :: l.set n b := rfl
theorem z3 : (a :: l).eraseIdx 0 = l := rfl
theorem z4 : (a :: l).eraseIdx (n + 1) = a :: l.eraseIdx n := rfl
theorem z5 {m : List α} : (a :: l) ++ m = a :: (l ++ m) := rfl
theorem z6 {m : List α} : [] ++ m = m := rfl
theorem z7 : List.replicate (n + 1) a = a :: List.replicate n a := rfl
theorem z8 : List.replicate 0 a = [] := rfl
end
end Go.Lx

/- Rules: rows out of strings (their block bears a mark behind its cells), appended to; append of something to a row that may be full. Conditions: none. -/
namespace Go.Lx
open Go Go.Vc Go.Md
section plain
variable {P : Program}
end plain
def markR (w : World) (E sz : Nat) (v : Value) (n : Nat) (xs : List (List Value)) : Prop :=
 ∃ g cap cur k, v = .slice (some ⟨g, 0, none⟩) n cap ∧ w.heap[g]? = some (.cells cur E k) ∧ cur.size ≤ k.1 ∧ n ≤ cap ∧ cap ≤ maxLen ∧ cur.size = cap * sz ∧ cur.toList.take (n * sz) = xs.flatten
def mkC (w : World) (E sz : Nat) (v : Value) (n : Nat) (xs : List (List Value)) : Prop :=
 (apC w E sz v n xs ∨ markR w E sz v n xs) ∧ xs.length = n ∧ ∀ x ∈ xs, x.length = sz
theorem markR.frs {w : World} {E sz : Nat} {v : Value} {n : Nat} {xs : List (List Value)} (h : markR w E sz v n xs) (hn : xs.length = n) (hl : ∀ x ∈ xs, x.length = sz) : FrS (fun b => w.heap[b]?) sz v xs := by
 obtain ⟨g, cap, cur, k, rfl, hh, _, hnc, hm, hcs, ht⟩ := h
 subst hn
 refine ⟨some ⟨g, 0, none⟩, cap, rfl, hnc, by simpa [maxLen] using hm, .inr ⟨g, 0, cur, E, k, rfl, hh, fun i x hx => ⟨hl x (List.mem_of_getElem? hx), fun j v hv => ?_⟩⟩⟩
 have hi : i < xs.length := by
  rcases Nat.lt_or_ge i xs.length with h | h
  ·exact h
  ·rw [List.getElem?_eq_none h] at hx; cases hx
 have hj : j < sz := by
  have := hl x (List.mem_of_getElem? hx)
  rcases Nat.lt_or_ge j x.length with h | h
  ·omega
  ·rw [List.getElem?_eq_none h] at hv; cases hv
 have hr := row_get xs i x (List.all_eq_true.2 fun x hx => by simpa using hl x hx) hx j v hv
 rw [← ht, List.getElem?_take] at hr
 split at hr
 ·rw [Nat.zero_add, ← Array.getElem?_toList]; exact hr
 ·cases hr
theorem mkC.frs {w : World} {E sz : Nat} {v : Value} {n : Nat} {xs : List (List Value)} (h : mkC w E sz v n xs) : FrS (fun b => w.heap[b]?) sz v xs :=
 h.1.elim (fun h1 => h1.frs) (fun h1 => h1.frs h.2.1 h.2.2)
theorem mkC.lt {w : World} {E sz : Nat} {v : Value} {n : Nat} {xs : List (List Value)} (h : mkC w E sz v n xs) (b : Nat) (hb : v.ownBlock = some b) : b < w.heap.size := by
 rcases h.1 with h1 | ⟨g, cap, cur, k, rfl, h1, _⟩
 ·exact h1.lt b hb
 ·simp [Value.ownBlock] at hb
  subst hb
  exact (Array.getElem?_eq_some_iff.1 h1).1
theorem mkC.slice {w : World} {E sz : Nat} {v : Value} {n : Nat} {xs : List (List Value)} (h : mkC w E sz v n xs) : ∃ p : Option Addr × Nat, v = .slice p.1 n p.2 := by
 rcases h.1 with h1 | ⟨g, cap, cur, k, rfl, _⟩
 ·exact h1.slice
 ·exact ⟨(some ⟨g, 0, none⟩, cap), rfl⟩
def mkV (E : TypeId) (sz : Nat) (v : Value) (n : Nat) (xs : List (List Value)) : Chunk where
 P S w := mkC w E sz v n xs ∧ ∀ b, v.ownBlock = some b → S b
 loc S w w' h := by
  rintro ⟨⟨h1 | ⟨g, cap, cur, k, rfl, hh, hr⟩, h3⟩, h4⟩
  ·exact ⟨⟨.inl ((apV E sz v n xs).loc S w w' h ⟨h1, h4⟩).1, h3⟩, h4⟩
  ·exact ⟨⟨.inr ⟨g, cap, cur, k, rfl, (h g (h4 g rfl)).trans hh, hr⟩, h3⟩, h4⟩
section rules
variable {P : Program} {n : Nat} {cx : Cx} {e : X5} {L : List Chunk} {d : Nat} {ty : TypeId} {pos : String} {af : Array Edge} {g : Option (Nat × Bool)}
theorem frs_mk {α : Type} {w : World} {i E sz m : Nat} {v : Value} {xs : List α} {f : α → List Value} (hS : Sat cx w L) (hL : L[i]? = some (mkV E sz v m (xs.map f))) : FrS (fun b => w.heap[b]?) sz v (xs.map f) := by
 obtain ⟨S, ⟨h, _⟩, _⟩ := hS.at hL
 exact h.frs
theorem bytes_flat {f : Int → List Value} (hf : ∀ x, f x = [.int .u8 x]) (s : List UInt8) : ((ofStr s).map f).flatten = s.map fun b => Value.int .u8 (b.toNat : Int) := by
 unfold ofStr
 induction s with
 | nil => rfl
 | cons c s ih => simp only [List.map_cons, List.flatten_cons, hf, List.singleton_append, List.cons.injEq, true_and]; simpa using ih
theorem makes_bytes {f : Int → List Value} {X : Operand} {src dst E : TypeId} {s : List UInt8} {rds : List Nat} (hs : P.underlying src = some .string) (hd : P.underlying dst = some (.slice E)) (he : P.underlying E = some (.int .u8)) (hx : ev e X = str s) (hf : ∀ x, f x = [.int .u8 x]) (hl : s.length ≤ 9223372036854775807) :
  Makes P cx e ⟨some d, .convert src dst X, ty, pos, af, g⟩ L rds (fun p : Option Addr × Nat => .slice p.1 (ofStr s).length p.2) (fun p => mkV E 1 (.slice p.1 (ofStr s).length p.2) (ofStr s).length ((ofStr s).map f)) := fun w L' hF hS hi' => by
 have hr := Lib.run_convert_string_bytes (P := P) w src dst E ⟨s.toArray⟩ hs hd he
 have hsz : (⟨s.toArray⟩ : ByteArray).size = s.length := strSize s
 have hlen : (ofStr s).length = s.length := by unfold ofStr; simp
 have hcs : (Lib.bytesCells w E ⟨s.toArray⟩).size = grownCap w s.length 0 E := by
  have := grownCap_ge w s.length 0 E
  unfold Lib.bytesCells
  rw [hsz]; simp; omega
 have hx' : (execOp (ev e) ⟨some d, .convert src dst X, ty, pos, af, g⟩).run P w = .ok (.value (.slice (some ⟨w.heap.size, 0, none⟩) s.length (grownCap w s.length 0 E))) (Lib.bytesWorld w E ⟨s.toArray⟩) := by
  have hr' : (convert src dst (str s)).run P w = .ok (.slice (some ⟨w.heap.size, 0, none⟩) s.length (grownCap w s.length 0 E)) (Lib.bytesWorld w E ⟨s.toArray⟩) := by
   rw [hsz] at hr; exact hr
  simp only [execOp, Sem.run_bind, hx, hr', Result.andThen_ok, Sem.run_pure]
 unfold RunsTo
 rw [hx']
 refine ⟨(some ⟨w.heap.size, 0, none⟩, grownCap w s.length 0 E), by rw [hlen], ?_⟩
 have hsize := Lib.bytesWorld_size w E ⟨s.toArray⟩
 rw [hlen]
 refine ⟨by simp [Lib.bytesWorld, World.freeze, World.alloc, World.drew, -World.alloc_eq, -World.drew_eq], by simp [Lib.bytesWorld, World.freeze, World.alloc, World.drew, -World.alloc_eq, -World.drew_eq], by simp [Lib.bytesWorld, World.freeze, World.alloc, World.drew, -World.alloc_eq, -World.drew_eq], by rw [hsize]; omega, fun b hb _ => Lib.bytesWorld_at_old w E _ b hb, fun b => b = w.heap.size, ⟨⟨.inr ?_, by rw [List.length_map, hlen], fun x hx => ?_⟩, fun b hb => ?_⟩, fun b hb => ?_⟩
 ·refine ⟨w.heap.size, _, _, _, rfl, Lib.bytesWorld_at_new w E ⟨s.toArray⟩, Nat.le_refl _, grownCap_ge w _ 0 E, grownCap_le_maxLen w _ 0 E (by simp only [maxLen]; exact hl), by rw [hcs, Nat.mul_one], ?_⟩
  rw [bytes_flat hf, Nat.mul_one]
  unfold Lib.bytesCells
  simp
 ·obtain ⟨y, _, rfl⟩ := List.mem_map.1 hx
  rw [hf]; rfl
 ·simp [Value.ownBlock] at hb; exact hb.symm
 ·subst hb
  exact ⟨by rw [hsize]; omega, .inr (Nat.le_refl _)⟩
theorem makes_byt {f : Int → List Value} {X : Operand} {src dst E : TypeId} {s : List UInt8} {xs : List Int} {rds : List Nat} (hs : P.underlying src = some .string) (hd : P.underlying dst = some (.slice E)) (he : P.underlying E = some (.int .u8)) (hx : ev e X = str s) (hf : ∀ x, f x = [.int .u8 x]) (hg : gByt s = some xs) :
  Makes P cx e ⟨some d, .convert src dst X, ty, pos, af, g⟩ L rds (fun p : Option Addr × Nat => .slice p.1 xs.length p.2) (fun p => mkV E 1 (.slice p.1 xs.length p.2) xs.length (xs.map f)) := by
 obtain ⟨rfl, hl⟩ := gByt_some hg
 exact makes_bytes hs hd he hx hf hl
end rules
end Go.Lx

/- Rules: maps of one's own: made, read, written, ranged over in whatever order. Conditions: those that each rule names. -/
namespace Go.Lx
open Go Go.Vc Go.Md
open Go.MapKept (IsKey Stamped)
structure KeyF {κ : Type} (d : TypeDesc) (fk : κ → Value) : Prop where
 isKey : ∀ k, IsKey d (fk k)
 inj : ∀ a b, fk a = fk b → a = b
theorem keyF_int {k : IntKind} : KeyF (.int k) (fun x : Int => Value.int k x) := ⟨fun x => by simp [IsKey], fun a b h => by simpa using h⟩
def Ents {κ ν : Type} (fk : κ → Value) (fv : ν → Value) (es : List MapEntry) (xs : List (κ × ν)) : Prop := es.map (fun e => (e.key, e.val)) = xs.map (fun p => (fk p.1, fv p.2))
def mapC {κ ν : Type} (fk : κ → Value) (fv : ν → Value) (b : Nat) (xs : List (κ × ν)) : Chunk where
 P S w := (∀ x, S x ↔ x = b) ∧ ∃ es clock, w.heap[b]? = some (.map es clock) ∧ Stamped es clock ∧ Ents fk fv es.toList xs
 loc S w w' h hp := ⟨hp.1, by rw [h b ((hp.1 b).2 rfl)]; exact hp.2⟩
theorem Ents.len {κ ν : Type} {fk : κ → Value} {fv : ν → Value} {es : List MapEntry} {xs : List (κ × ν)} (h : Ents fk fv es xs) : es.length = xs.length := by
 have := congrArg List.length h; simpa using this
theorem Ents.keys {κ ν : Type} {fk : κ → Value} {fv : ν → Value} {es : List MapEntry} {xs : List (κ × ν)} (h : Ents fk fv es xs) : es.map (·.key) = xs.map (fun p => fk p.1) := by
 have := congrArg (List.map Prod.fst) h; simpa [Function.comp_def] using this
theorem Ents.isKey {κ ν : Type} {d : TypeDesc} {fk : κ → Value} {fv : ν → Value} (K : KeyF d fk) {es : List MapEntry} {xs : List (κ × ν)} (h : Ents fk fv es xs) : ∀ x ∈ es, IsKey d x.key := by
 intro x hx
 have : x.key ∈ es.map (·.key) := List.mem_map.2 ⟨x, hx, rfl⟩
 rw [h.keys] at this
 obtain ⟨p, _, hp⟩ := List.mem_map.1 this
 rw [← hp]; exact K.isKey _
theorem Ents.at {κ ν : Type} {fk : κ → Value} {fv : ν → Value} {es : List MapEntry} {xs : List (κ × ν)} (h : Ents fk fv es xs) {j : Nat} {e : MapEntry} (he : es[j]? = some e) : ∃ p, xs[j]? = some p ∧ e.key = fk p.1 ∧ e.val = fv p.2 := by
 have := congrArg (fun l => l[j]?) h
 simp only [List.getElem?_map, he, Option.map_some] at this
 cases hx : xs[j]? with
 | none => rw [hx] at this; simp at this
 | some p => rw [hx] at this; simp at this; exact ⟨p, rfl, this.1, this.2⟩
section find
variable {κ ν : Type} [DecidableEq κ] {d : TypeDesc} {fk : κ → Value} {fv : ν → Value}
theorem mGet_none {xs : List (κ × ν)} {k : κ} (h : ∀ p ∈ xs, p.1 ≠ k) : mGet xs k = none ∧ mHas xs k = false := by
 constructor
 ·unfold mGet
  rw [List.find?_eq_none.2 (fun p hp => by simpa using h p hp)]; rfl
 ·unfold mHas
  rw [List.any_eq_false]
  intro p hp; simpa using h p hp
theorem mGet_at : ∀ {xs : List (κ × ν)} {k : κ} {j : Nat} {v : ν}, (xs.map (·.1)).Nodup → xs[j]? = some (k, v) → mGet xs k = some v ∧ mHas xs k = true
 | [], _, j, _, _, h => by simp at h
 | p :: xs, k, 0, v, _, h => by simp at h; subst h; simp [mGet, mHas]
 | p :: xs, k, j + 1, v, hn, h => by
  simp only [List.getElem?_cons_succ] at h
  simp only [List.map_cons, List.nodup_cons] at hn
  have hne : p.1 ≠ k := fun q => hn.1 (q ▸ List.mem_map.2 ⟨(k, v), List.mem_of_getElem? h, rfl⟩)
  obtain ⟨h1, h2⟩ := mGet_at hn.2 h
  constructor
  ·unfold mGet at h1 ⊢
   rw [List.find?_cons_of_neg (by simpa using hne)]; exact h1
  ·unfold mHas at h2 ⊢
   simp only [List.any_cons, h2, Bool.or_true]
omit [DecidableEq κ] in
theorem nodup_of (K : KeyF d fk) {es : List MapEntry} {xs : List (κ × ν)} (h : Ents fk fv es xs) (hn : (es.map (·.key)).Nodup) : (xs.map (·.1)).Nodup := by
 rw [h.keys] at hn
 have : xs.map (fun p => fk p.1) = (xs.map (·.1)).map fk := by simp
 rw [this] at hn
 exact (List.pairwise_map.1 hn).imp fun h q => h (congrArg fk q)
theorem find_map (K : KeyF d fk) {es : List MapEntry} {xs : List (κ × ν)} (h : Ents fk fv es xs) (hn : (es.map (·.key)).Nodup) (k : κ) :
  (Instr.findNow d (fk k) es 0 = some none ∧ (∀ x ∈ es, x.key ≠ fk k) ∧ mGet xs k = none ∧ mHas xs k = false) ∨
  ∃ j e v, Instr.findNow d (fk k) es 0 = some (some (j, e.val)) ∧ es[j]? = some e ∧ e.key = fk k ∧ e.val = fv v ∧ xs[j]? = some (k, v) ∧ mGet xs k = some v ∧ mHas xs k = true := by
 rcases Go.MapKept.findNow_spec (K.isKey k) es 0 (h.isKey K) with ⟨h1, h2⟩ | ⟨j, e, h1, h2, h3⟩
 ·refine .inl ⟨h1, h2, mGet_none fun p hp q => ?_⟩
  have : fk p.1 ∈ es.map (·.key) := by rw [h.keys]; exact List.mem_map.2 ⟨p, hp, rfl⟩
  obtain ⟨x, hx, hk⟩ := List.mem_map.1 this
  exact h2 x hx (by rw [hk, q])
 ·obtain ⟨p, hp, e1, e2⟩ := h.at h2
  have hk : p.1 = k := K.inj _ _ (e1.symm.trans h3)
  have hp' : xs[j]? = some (k, p.2) := by rw [hp, ← hk]
  have := mGet_at (nodup_of K h hn) hp'
  exact .inr ⟨j, e, p.2, by simpa using h1, h2, h3, e2, hp', this.1, this.2⟩
end find
theorem ents_modify {κ ν : Type} [DecidableEq κ] {fk : κ → Value} {fv : ν → Value} {es : Array MapEntry} {xs : List (κ × ν)} {j : Nat} {k : κ} {v v0 : ν} (h : Ents fk fv es.toList xs) (hn : (xs.map (·.1)).Nodup) (hj : xs[j]? = some (k, v0)) (hh : mHas xs k = true) :
  Ents fk fv (es.modify j fun e => { e with key := fk k, val := fv v }).toList (Un xs k v) := by
 have hm : Un xs k v = xs.map fun p => if p.1 = k then (k, v) else p := by unfold Un; rw [if_pos hh]
 rw [hm]
 unfold Ents
 apply List.ext_getElem?
 intro i
 have hi := congrArg (fun l => l[i]?) h
 simp only [List.getElem?_map, Array.getElem?_toList, Array.getElem?_modify] at hi ⊢
 by_cases hij : j = i
 ·subst hij
  rw [hj] at hi ⊢
  simp only [if_true, Option.map_some, Option.map_map]
  cases he : es[j]? with
  | none => rw [he] at hi; simp at hi
  | some e => simp
 ·rw [if_neg hij, hi]
  cases hx : xs[i]? with
  | none => rfl
  | some p =>
   have hne : p.1 ≠ k := by
    intro q
    have hil : i < xs.length := by
     rcases Nat.lt_or_ge i xs.length with h | h
     ·exact h
     ·rw [List.getElem?_eq_none h] at hx; cases hx
    have hjl : j < xs.length := by
     rcases Nat.lt_or_ge j xs.length with h | h
     ·exact h
     ·rw [List.getElem?_eq_none h] at hj; cases hj
    have H := List.pairwise_iff_getElem.1 hn
    have ej : (xs.map (·.1))[j]'(by simpa using hjl) = k := by
     have := (List.getElem?_eq_some_iff.1 hj).2; simp [this]
    have ei : (xs.map (·.1))[i]'(by simpa using hil) = k := by
     have := (List.getElem?_eq_some_iff.1 hx).2; simp [this, q]
    rcases Nat.lt_trichotomy j i with l | l | l
    ·exact H j i (by simpa using hjl) (by simpa using hil) l (ej.trans ei.symm)
    ·exact hij l
    ·exact H i j (by simpa using hil) (by simpa using hjl) l (ei.trans ej.symm)
   simp [hne]
theorem ents_push {κ ν : Type} [DecidableEq κ] {fk : κ → Value} {fv : ν → Value} {es : Array MapEntry} {xs : List (κ × ν)} {k : κ} {v : ν} {c : Nat} (h : Ents fk fv es.toList xs) (hh : mHas xs k = false) :
  Ents fk fv (es.push { key := fk k, val := fv v, born := c }).toList (Un xs k v) := by
 have hm : Un xs k v = xs ++ [(k, v)] := by unfold Un; rw [if_neg (by simp [hh])]
 rw [hm]
 unfold Ents at h ⊢
 simp [h]
section ops
variable {P : Program} {cx : Cx} {e : X5} {L : List Chunk} {ty : TypeId} {pos : String} {af : Array Edge} {g : Option (Nat × Bool)}
variable {κ ν : Type} [DecidableEq κ] {fk : κ → Value} {fv : ν → Value}
omit [DecidableEq κ] in
theorem makes_map {t d : Nat} {rds : List Nat} : Makes P cx e ⟨some d, .makeMap t none, ty, pos, af, g⟩ L rds (fun b : Nat => .map (some b)) (fun b => mapC fk fv b ([] : List (κ × ν))) := fun w L' hF hS _ => by
 unfold RunsTo
 have hr : (execOp (ev e) ⟨some d, .makeMap t none, ty, pos, af, g⟩).run P w = .ok (.value (.map (some w.heap.size))) (w.alloc (.map #[] 0)) := by
  simp [execOp, Instr.makeMap]
 rw [hr]
 have gr := Up w (.map #[] 0)
 exact ⟨w.heap.size, rfl, gr.os, gr.tape, gr.output, gr.size, fun b hb _ => gr.block b hb, fun x => x = w.heap.size, ⟨fun _ => Iff.rfl, #[], 0, Go.heap_alloc_new w _, Go.MapKept.stamped_empty 0, rfl⟩, fun b hb => by subst hb; exact ⟨by simp, .inr (Nat.le_refl _)⟩⟩
theorem turns_mset {u : Bool} {dk : TypeDesc} {t kt et : TypeId} {M I X : Operand} {b i : Nat} {xs : List (κ × ν)} {k : κ} {v : ν} {rds : List Nat} {o : Op} (K : KeyF dk fk) (ho : o = .insert t M I X ∨ o = .mapUpdate t M I X) (ht : P.underlying t = some (.map kt et)) (hk : P.underlying kt = some dk)
  (hm : ev e M = .map (some b)) (hi : ev e I = fk k) (hx : ev e X = fv v) (hL : L[i]? = some (mapC fk fv b xs)) {dst : Option Nat} :
  Turns P cx e ⟨dst, o, ty, pos, af, g⟩ L i rds (fun _ : Unit => undef) (fun _ => mapC fk fv b (Un xs k v)) := fun w L' hF hS _ hi' => by
 have hL' := (hi' i (.inr rfl)).trans hL
 obtain ⟨S, ⟨_, es, clock, hb, hst, hen⟩, _⟩ := hS.at hL'
 have hlt : b < w.heap.size := (Array.getElem?_eq_some_iff.1 hb).1
 obtain ⟨es', clock', hrun, hst', hen'⟩ : ∃ es' clock', (execOp (ev e) ⟨dst, o, ty, pos, af, g⟩).run P w = .ok .skip { w with heap := w.heap.setIfInBounds b (.map es' clock') } ∧ Stamped es' clock' ∧ Ents fk fv es'.toList (Un xs k v) := by
  rcases find_map K hen hst.2.2 k with ⟨h1, h2, _, h4⟩ | ⟨j, e0, v0, h1, h2, h3, _, h5, _, h7⟩
  ·refine ⟨_, _, ?_, Go.MapKept.stamped_push hst h2, ents_push (v := v) hen h4⟩
   rcases ho with rfl | rfl <;> simp [execOp, Instr.mapUpdate, hm, hi, hx, run_underlying ht, Go.MapKept.run_getObj_map hb, Go.MapKept.run_checkKey hk (K.isKey k), Go.MapKept.run_findKey hk h1, Go.MapKept.run_setObj_map _ hb, Result.andThen]
  ·have h2' : es[j]? = some e0 := by simpa using h2
   refine ⟨es.modify j fun e => { e with key := fk k, val := fv v }, clock, ?_, Go.MapKept.stamped_modify hst j _ (fun _ _ => rfl) (fun x _ hx => by rw [h2'] at hx; cases hx; exact h3.symm), ents_modify (v := v) hen (nodup_of K hen hst.2.2) h5 h7⟩
   rcases ho with rfl | rfl <;> simp [execOp, Instr.mapUpdate, hm, hi, hx, run_underlying ht, Go.MapKept.run_getObj_map hb, Go.MapKept.run_checkKey hk (K.isKey k), Go.MapKept.run_findKey hk h1, h2', h3, Go.MapKept.run_keyThatStays (K.isKey k), Go.MapKept.run_setObj_map _ hb, Result.andThen]
 unfold RunsTo
 rw [hrun]
 have hS' := hS.turnOf (w' := { w with heap := w.heap.setIfInBounds b (.map es' clock') }) hF hL' (C := mapC fk fv b (Un xs k v)) fun S1 hp1 =>
  ⟨rfl, rfl, rfl, by simp, fun x _ hx => by rw [Array.getElem?_setIfInBounds_ne (fun h => hx ((hp1.1 x).2 h.symm))], S1, ⟨hp1.1, es', clock', by simp [hlt], hst', hen'⟩, fun x hx => ⟨by rw [(hp1.1 x).1 hx]; simpa using hlt, .inl hx⟩⟩
 exact ⟨(), rfl, hS'.1, hS'.2⟩
end ops
def mapB (v : Value) : Nat := match v with | .map (some b) => b | _ => 0
section rules
variable {P : Program} {n : Nat} {cx : Cx} {Q : Ue} {e : X5} {L : List Chunk} {ops : Array Oper} {rest_ : List Oper} {ty : TypeId} {pos : String} {af : Array Edge} {g : Option (Nat × Bool)} {κ ν : Type} {fk : κ → Value} {fv : ν → Value}
end rules
end Go.Lx

/- The kit's contract of slices.Compact at rows of one's own. Conditions: none. -/
namespace Go.Vc
open Go Go.Md Go.Shelf Go.Sort Go.Proofs
theorem cmpL_snoc {α : Type} [DecidableEq α] : ∀ (l : List α) (x : α), cmpL (l ++ [x]) = cmpL l ++ (if l.getLast? = some x then [] else [x]) := by
 have key : ∀ (l : List α) (p x : α), Zg p (l ++ [x]) = Zg p l ++ (if (p :: l).getLast? = some x then [] else [x]) := by
  intro l
  induction l with
  | nil =>
   intro p x
   by_cases h : x = p
   ·simp [Zg, h]
   ·have h' : ¬ p = x := fun e => h e.symm
    simp [Zg, h, h']
  | cons y l ih =>
   intro p x
   by_cases h : y = p
   ·subst h
    simp only [List.cons_append, Zg, if_true, ih]
    simp
   ·simp only [List.cons_append, Zg, h, if_false, ih]
    simp
 intro l x
 cases l with
 | nil => simp [cmpL, Zg]
 | cons y l => simp only [List.cons_append, cmpL, key]
theorem getLast?_at {α : Type} [Inhabited α] (l : List α) (m : Nat) (hm : m + 1 ≤ l.length) : (l.take (m + 1)).getLast? = some l.toArray[m]! := by
 rw [List.getLast?_eq_getElem?, List.length_take, Nat.min_eq_left hm, List.getElem?_take, if_pos (by omega)]
 have h : m < l.length := by omega
 simp [List.getElem?_eq_getElem h, getElem!_pos, h]
theorem compact_lib {α : Type} [Inhabited α] [DecidableEq α] (l : List α) : Lib.compact l = cmpL l := by
 have key : ∀ m, m ≤ l.length → Lib.compactUpTo l.toArray m = cmpL (l.take m) := by
  intro m
  induction m with
  | zero => intro _; simp [Lib.compactUpTo, cmpL]
  | succ m ih =>
   intro hm
   have h : m < l.length := by omega
   rw [Lib.compactUpTo_succ, ih (by omega), List.take_add_one, List.getElem?_eq_getElem h, Option.toList_some, cmpL_snoc]
   congr 1
   have e : l.toArray[m]! = l[m] := by simp [getElem!_pos, h]
   rw [e]
   cases m with
   | zero => simp [Lib.keeps]
   | succ m =>
    rw [getLast?_at l m (by omega)]
    by_cases hk : l.toArray[m]! = l[m + 1]
    ·rw [Lib.keeps_neg (by omega) (by rw [e]; exact hk.symm), hk, if_pos rfl]; rfl
    ·rw [Lib.keeps_pos (by rw [e]; exact fun h => hk h.symm), if_pos rfl, if_neg (fun h => hk (Option.some.inj h))]
 have := key l.length (Nat.le_refl _)
 rw [List.take_length] at this
 exact this
theorem cmpL_len {α : Type} [DecidableEq α] (l : List α) : (cmpL l).length ≤ l.length := by
 have key : ∀ (l : List α) (p : α), (Zg p l).length ≤ l.length := by
  intro l
  induction l with
  | nil => intro p; simp [Zg]
  | cons y l ih =>
   intro p
   simp only [Zg]
   split
   ·have := ih p; simp only [List.length_cons]; omega
   ·have := ih y; simp only [List.length_cons]; omega
 cases l with
 | nil => simp [cmpL]
 | cons y l => have := key l y; simp only [cmpL, List.length_cons]; omega
theorem compact_strs {P : Program} {ρ : Ren} (Ly : Lays.n194 P ρ) {E : TypeId} {a0 r : List (List UInt8)} {p0 : Option Addr × Nat} {n0 : Nat} {w : World} {S : Nat → Prop}
  (hcs : (Qq E 1 (.slice p0.1 n0 p0.2) n0 (a0.map fun x => [encStr x])).P S w) (hlt : ∀ b, S b → b < w.heap.size) (hn0 : n0 = a0.length) (H : gCmpS a0 = some r) :
  Does P (ρ.f 194) (List.toArray [.slice p0.1 n0 p0.2]) w (fun v w' => ∃ x : Option Addr × Nat, v = .slice x.1 r.length x.2 ∧ Turn w w' S (Qq E 1 (.slice x.1 r.length x.2) r.length (r.map fun x => [encStr x]))) := by
 obtain ⟨p, c⟩ := p0
 unfold gCmpS at H
 split at H
 case isFalse => cases H
 rename_i hsz
 cases H
 subst hn0
 have hcs0 := hcs
 obtain ⟨⟨hown, hlen, hall⟩, hb⟩ := hcs
 rw [flat1] at hown
 rcases hown.2 with ⟨h0, h1⟩ | ⟨g, cap, cur, hv, hbase, hh, h1, h2, h3, h4⟩
 ·have hnil : a0 = [] := List.eq_nil_of_length_eq_zero h1
  subst hnil
  refine Calls.mono (Any.slices_Compact_string_empty Ly p c w) ?_
  rintro e w' ⟨rfl, rfl⟩
  exact ⟨_, rfl, (p, c), rfl, ⟨rfl, rfl, rfl, Nat.le_refl _, fun _ _ _ => rfl, S, by simpa [cmpL] using hcs0, fun b h => ⟨hlt b h, .inl h⟩⟩⟩
 ·simp only [Value.slice.injEq] at hv
  obtain ⟨hv1, -, hv2⟩ := hv
  subst hv1 hv2
  have hgl : g < w.heap.size := (Array.getElem?_eq_some_iff.1 hh).1
  have hH : Holds (encStr) w g 0 a0.toArray := holds_of_block hh (by simpa using h4)
  refine Calls.mono (Any.slices_Compact_string Ly g 0 c a0 w hH (by omega) h1) ?_
  rintro e w' ⟨rfl, q, rfl⟩
  rw [compact_lib]
  have hle := cmpL_len a0
  generalize hz : cmpL a0 = z at hle
  have hts : (z ++ List.replicate (a0.length - z.length) []).length = a0.length := by simp; omega
  have hG := grownBy_sorted (w := w) (g := g) (n := q) (os := #[]) (z ++ List.replicate (a0.length - z.length) []).toArray
  have hR := ownsRow_sorted (base := 0) (w := w) (n := q) (os := #[]) hts (Nat.zero_le _) hh h1 h2 h3
  have hgr : ∀ W : World, Go.Sort.grow W #[] = W := fun W => by cases W; simp [Go.Sort.grow]
  rw [hgr] at hG hR
  obtain ⟨g1, g2, g3, g4, g5⟩ := hG
  have hSg : S g := hb g rfl
  rcases hR.2 with ⟨h0, _⟩ | ⟨g', cap', cur', hv', hbase', hh', k1, k2, k3, k4⟩
  ·cases h0
  ·simp only [Value.slice.injEq, Option.some.injEq, Addr.mk.injEq, and_true, true_and] at hv'
   obtain ⟨rfl, rfl⟩ := hv'
   refine ⟨_, rfl, (some ⟨g, 0, none⟩, c), rfl, ⟨g1, g2, g3, g4, fun b hbl hnb => g5 b hbl (fun h => hnb (by cases h; exact hSg)), S, ⟨⟨?_, by simp, fun x hx => ?_⟩, fun b h => by cases h; exact hSg⟩, fun b h => ⟨Nat.lt_of_lt_of_le (hlt b h) g4, .inl h⟩⟩⟩
   ·rw [flat1]
    refine ⟨by simp, .inr ⟨g, c, cur', rfl, Nat.zero_le _, hh', by omega, k2, k3, ?_⟩⟩
    have := congrArg (List.take z.length) k4
    have e2 : (List.map encStr (z ++ List.replicate (a0.length - z.length) [])).take z.length = z.map encStr := by
     rw [List.map_append, List.take_append_of_le_length (by simp)]; exact List.take_of_length_le (by simp)
    rw [List.take_take, Nat.min_eq_left (by omega), e2] at this
    rw [Nat.mul_one]; exact this
   ·obtain ⟨y, _, rfl⟩ := List.mem_map.1 hx
    rfl
end Go.Vc
namespace Go.Lx
open Go Go.Vc
section ops
variable {P : Program} {e : X5} {d : Option Nat} {ty : TypeId} {pos : String} {af : Array Edge} {g : Option (Nat × Bool)}
end ops
end Go.Lx

/- Rules: maps that are only read; the kit's contract of slices.Compact at []int. Conditions: none. -/
namespace Go.Lx
open Go Go.Vc Go.Md
open Go.MapKept (IsKey Stamped)
structure FrM {κ ν : Type} (h : J3) (fk : κ → Value) (fv : ν → Value) (v : Value) (xs : List (κ × ν)) : Prop where
 out : ∃ b es clock, v = .map (some b) ∧ h b = some (.map es clock) ∧ Stamped es clock ∧ Ents fk fv es.toList xs
section
variable {κ ν : Type} {fk : κ → Value} {fv : ν → Value} {h h' : J3} {v : Value} {xs : List (κ × ν)}
theorem FrM.mono (f : FrM h fk fv v xs) (k : ∀ b o, h b = some o → h' b = some o) : FrM h' fk fv v xs := by
 obtain ⟨b, es, c, h1, h2, h3, h4⟩ := f.out
 exact ⟨b, es, c, h1, k _ _ h2, h3, h4⟩
theorem FrM.cells (f : FrM h fk fv v xs) : v.cells.toList = [v] := by
 obtain ⟨b, es, c, rfl, _⟩ := f.out; rfl
theorem FrM.one (f : FrM h fk fv v xs) : v.oneCell' = true := by
 obtain ⟨b, es, c, rfl, _⟩ := f.out; rfl
end
section
variable {P : Program} {cx : Cx} {e : X5} {L : List Chunk} {ty : TypeId} {pos : String} {af : Array Edge} {g : Option (Nat × Bool)}
variable {κ ν : Type} {fk : κ → Value} {fv : ν → Value}
theorem frs_map {w : World} {i b : Nat} {xs : List (κ × ν)} (hS : Sat cx w L) (hL : L[i]? = some (mapC fk fv b xs)) : FrM (fun b => w.heap[b]?) fk fv (.map (some b)) xs := by
 obtain ⟨S, ⟨_, es, c, hb, hst, hen⟩, _⟩ := hS.at hL
 exact ⟨b, es, c, rfl, hb, hst, hen⟩
theorem frb_map {w : World} {S : Nat → Prop} {i j b : Nat} {xs : List (κ × ν)} {L' : List Chunk} (hA : Apart L' i w S) (hji : j ≠ i) (hL : L'[j]? = some (mapC fk fv b xs)) : FrM (but w S) fk fv (.map (some b)) xs := by
 obtain ⟨S', ⟨h1, es, c, hb, hst, hen⟩, h2⟩ := hA j _ hji hL
 exact ⟨b, es, c, rfl, but_some hb (h2 b ((h1 b).2 rfl)), hst, hen⟩
theorem run_lookupF [DecidableEq κ] {d : Option Nat} {dk : TypeDesc} {t kt et : TypeId} {X I : Operand} {v : Value} {xs : List (κ × ν)} {k : κ} {z : ν} {w : World} (K : KeyF dk fk) (ht : P.underlying t = some (.map kt et)) (hk : P.underlying kt = some dk) (hz : ∀ w, (zeroValue et).run P w = .ok (fv z) w)
  (hx : ev e X = v) (hi : ev e I = fk k) (f : FrM (fun b => w.heap[b]?) fk fv v xs) :
  (execOp (ev e) ⟨d, .lookup t X I false, ty, pos, af, g⟩).run P w = .ok (.value (fv ((mGet xs k).getD z))) w := by
 obtain ⟨b, es, clock, rfl, hb, hst, hen⟩ := f.out
 rcases find_map K hen hst.2.2 k with ⟨h1, _, h3, _⟩ | ⟨j, e0, v, h1, _, _, h4, _, h6, _⟩
 ·simp [execOp, Instr.lookup, hx, hi, run_underlying ht, Go.MapKept.run_getObj_map hb, Go.MapKept.run_checkKey hk (K.isKey k), Go.MapKept.run_findKey hk h1, hz w, h3, Result.andThen]
 ·simp [execOp, Instr.lookup, hx, hi, run_underlying ht, Go.MapKept.run_getObj_map hb, Go.MapKept.run_checkKey hk (K.isKey k), Go.MapKept.run_findKey hk h1, h6, h4, Result.andThen]
end
end Go.Lx
namespace Go.Vc
open Go Go.Md Go.Shelf Go.Sort Go.Proofs
theorem compact_ints {P : Program} {ρ : Ren} (Ly : Lays2.n20 P ρ) {E : TypeId} {a0 r : List Int} {p0 : Option Addr × Nat} {n0 : Nat} {w : World} {S : Nat → Prop}
  (hcs : (Qq E 1 (.slice p0.1 n0 p0.2) n0 (a0.map fun x => [.int .i64 x])).P S w) (hlt : ∀ b, S b → b < w.heap.size) (hn0 : n0 = a0.length) (H : gCmpI a0 = some r) :
  Does P (ρ.f 20) (List.toArray [.slice p0.1 n0 p0.2]) w (fun v w' => ∃ x : Option Addr × Nat, v = .slice x.1 r.length x.2 ∧ Turn w w' S (Qq E 1 (.slice x.1 r.length x.2) r.length (r.map fun x => [.int .i64 x]))) := by
 obtain ⟨p, c⟩ := p0
 unfold gCmpI at H
 split at H
 case isFalse => cases H
 rename_i hsz
 cases H
 subst hn0
 have hcs0 := hcs
 obtain ⟨⟨hown, hlen, hall⟩, hb⟩ := hcs
 rw [flat1] at hown
 rcases hown.2 with ⟨h0, h1⟩ | ⟨g, cap, cur, hv, hbase, hh, h1, h2, h3, h4⟩
 ·have hnil : a0 = [] := List.eq_nil_of_length_eq_zero h1
  subst hnil
  refine Calls.mono (Any.slices_Compact_int_empty Ly p c w) ?_
  rintro e w' ⟨rfl, rfl⟩
  exact ⟨_, rfl, (p, c), rfl, ⟨rfl, rfl, rfl, Nat.le_refl _, fun _ _ _ => rfl, S, by simpa [cmpL] using hcs0, fun b h => ⟨hlt b h, .inl h⟩⟩⟩
 ·simp only [Value.slice.injEq] at hv
  obtain ⟨hv1, -, hv2⟩ := hv
  subst hv1 hv2
  have hgl : g < w.heap.size := (Array.getElem?_eq_some_iff.1 hh).1
  have hH : Holds (Value.int .i64) w g 0 a0.toArray := holds_of_blockI hh (by simpa using h4)
  refine Calls.mono (Any.slices_Compact_int Ly g 0 c a0 w hH (by omega) h1) ?_
  rintro e w' ⟨rfl, q, rfl⟩
  rw [compact_lib]
  have hle := cmpL_len a0
  generalize hz : cmpL a0 = z at hle
  have hts : (z ++ List.replicate (a0.length - z.length) 0).length = a0.length := by simp; omega
  have hG := grownBy_sortedI (w := w) (g := g) (n := q) (os := #[]) (z ++ List.replicate (a0.length - z.length) 0).toArray
  have hR := ownsRow_sortedI (base := 0) (w := w) (n := q) (os := #[]) hts (Nat.zero_le _) hh h1 h2 h3
  have hgr : ∀ W : World, Go.Sort.grow W #[] = W := fun W => by cases W; simp [Go.Sort.grow]
  rw [hgr] at hG hR
  obtain ⟨g1, g2, g3, g4, g5⟩ := hG
  have hSg : S g := hb g rfl
  rcases hR.2 with ⟨h0, _⟩ | ⟨g', cap', cur', hv', hbase', hh', k1, k2, k3, k4⟩
  ·cases h0
  ·simp only [Value.slice.injEq, Option.some.injEq, Addr.mk.injEq, and_true, true_and] at hv'
   obtain ⟨rfl, rfl⟩ := hv'
   refine ⟨_, rfl, (some ⟨g, 0, none⟩, c), rfl, ⟨g1, g2, g3, g4, fun b hbl hnb => g5 b hbl (fun h => hnb (by cases h; exact hSg)), S, ⟨⟨?_, by simp, fun x hx => ?_⟩, fun b h => by cases h; exact hSg⟩, fun b h => ⟨Nat.lt_of_lt_of_le (hlt b h) g4, .inl h⟩⟩⟩
   ·rw [flat1]
    refine ⟨by simp, .inr ⟨g, c, cur', rfl, Nat.zero_le _, hh', by omega, k2, k3, ?_⟩⟩
    have := congrArg (List.take z.length) k4
    have e2 : (List.map (Value.int .i64) (z ++ List.replicate (a0.length - z.length) 0)).take z.length = z.map (Value.int .i64) := by
     rw [List.map_append, List.take_append_of_le_length (by simp)]; exact List.take_of_length_le (by simp)
    rw [List.take_take, Nat.min_eq_left (by omega), e2] at this
    rw [Nat.mul_one]; exact this
   ·obtain ⟨y, _, rfl⟩ := List.mem_map.1 hx
    rfl
end Go.Vc

/- Rules: maps whose keys are structs, compared part by part. Conditions: those that each rule names. -/
namespace Go.Lx
open Go Go.Vc Go.Md
open Go.MapKept (IsKey Stamped)
structure KeyG {κ : Type} [DecidableEq κ] (P : Program) (kt : TypeId) (fk : κ → Value) : Prop where
 inj : ∀ a b, fk a = fk b → a = b
 chk : ∀ k em w, (Instr.checkKey em 10000 kt (fk k)).run P w = .ok () w
 now : ∃ d, P.underlying kt = some d ∧ ∀ a b, Instr.sameNow d (fk a) (fk b) = none
 eql : ∀ a b w, (Op.equal kt (fk a) (fk b)).run P w = .ok (decide (a = b)) w
 bits : ∀ k, Instr.sameBits 10000 (fk k) (fk k) = true
theorem chk_struct {P : Program} {kt : TypeId} {fs : Array Field} {cs : Array Value} {em : Bool} {n : Nat} {w : World} (hd : P.underlying kt = some (.struct fs)) (h : ∀ f ∈ fs.toList, ∃ v, (part f.type cs f.offset).run P w = .ok v w ∧ (Instr.checkKey em n f.type v).run P w = .ok () w) :
  (Instr.checkKey em (n + 1) kt (.agg cs)).run P w = .ok () w := by
 rw [Instr.checkKey]
 simp only [Sem.run_bind, run_underlying hd, Result.andThen]
 rw [← Array.forIn_toList]
 revert h
 generalize fs.toList = l
 intro h
 induction l with
 | nil => simp
 | cons f l ih =>
  obtain ⟨v, h1, h2⟩ := h f (by simp)
  have ih := ih fun f hf => h f (by simp [hf])
  rw [List.forIn_cons]
  by_cases hn : f.name ≠ "_"
  ·simp only [hn, ne_eq, not_false_eq_true, if_true, Sem.run_bind, h1, h2, Result.andThen, Sem.run_pure]
   exact ih
  ·simp only [hn, if_false, Sem.run_bind, Result.andThen, Sem.run_pure]
   exact ih
section find
variable {κ ν : Type} [DecidableEq κ] {P : Program} {kt : TypeId} {fk : κ → Value} {fv : ν → Value}
theorem nodup_ofG (K : KeyG P kt fk) {es : List MapEntry} {xs : List (κ × ν)} (h : Ents fk fv es xs) (hn : (es.map (·.key)).Nodup) : (xs.map (·.1)).Nodup := by
 rw [h.keys] at hn
 have : xs.map (fun p => fk p.1) = (xs.map (·.1)).map fk := by simp
 rw [this] at hn
 exact (List.pairwise_map.1 hn).imp fun h q => h (congrArg fk q)
theorem asking (K : KeyG P kt fk) (k : κ) : ∀ (es : List MapEntry) (xs : List (κ × ν)) (i : Nat), Ents fk fv es xs →
  ((∀ w, (Instr.findAsking kt (fk k) es i).run P w = .ok none w) ∧ ∀ p ∈ xs, p.1 ≠ k) ∨
  ∃ j e v, (∀ w, (Instr.findAsking kt (fk k) es i).run P w = .ok (some (i + j, e.val)) w) ∧ es[j]? = some e ∧ e.key = fk k ∧ e.val = fv v ∧ xs[j]? = some (k, v)
 | [], xs, i, h => by
  have : xs = [] := by unfold Ents at h; simpa using h.symm
  subst this
  exact .inl ⟨fun w => by simp [Instr.findAsking], fun p hp => by cases hp⟩
 | e :: es, [], i, h => by unfold Ents at h; simp at h
 | e :: es, p :: xs, i, h => by
  have h' := h
  unfold Ents at h'
  simp only [List.map_cons, List.cons.injEq, Prod.mk.injEq] at h'
  obtain ⟨⟨h1, h2⟩, h3⟩ := h'
  by_cases hk : k = p.1
  ·refine .inr ⟨0, e, p.2, fun w => ?_, rfl, by rw [h1, hk], h2, by rw [hk]; rfl⟩
   simp [Instr.findAsking, h1, K.eql, hk, Result.andThen]
  ·have hs : ∀ w, (Instr.findAsking kt (fk k) (e :: es) i).run P w = (Instr.findAsking kt (fk k) es (i + 1)).run P w := fun w => by
    rw [Instr.findAsking]
    simp [h1, K.eql, hk, Result.andThen]
   rcases asking K k es xs (i + 1) h3 with ⟨h4, h5⟩ | ⟨j, e', v, h4, h5, h6, h7, h8⟩
   ·refine .inl ⟨fun w => by rw [hs, h4], fun q hq => ?_⟩
    rcases List.mem_cons.1 hq with rfl | hq
    ·exact fun e => hk e.symm
    ·exact h5 q hq
   ·exact .inr ⟨j + 1, e', v, fun w => by rw [hs, h4]; congr 3; omega, by simpa using h5, h6, h7, by simpa using h8⟩
theorem find_mapG (K : KeyG P kt fk) {es : List MapEntry} {xs : List (κ × ν)} (h : Ents fk fv es xs) (hn : (es.map (·.key)).Nodup) (k : κ) :
  ((∀ w, (Instr.findKey kt (fk k) es).run P w = .ok none w) ∧ (∀ x ∈ es, x.key ≠ fk k) ∧ mGet xs k = none ∧ mHas xs k = false) ∨
  ∃ j e v, (∀ w, (Instr.findKey kt (fk k) es).run P w = .ok (some (j, e.val)) w) ∧ es[j]? = some e ∧ e.key = fk k ∧ e.val = fv v ∧ xs[j]? = some (k, v) ∧ mGet xs k = some v ∧ mHas xs k = true := by
 obtain ⟨d, hd, hs⟩ := K.now
 have hfk : ∀ w, (Instr.findKey kt (fk k) es).run P w = (Instr.findAsking kt (fk k) es 0).run P w := fun w => by
  cases hes : es with
  | nil => simp [Instr.findKey, run_underlying hd, Result.andThen, Instr.findNow, Instr.findAsking]
  | cons e es' =>
   have h' := h
   rw [hes] at h'
   obtain ⟨p, _, hp, _⟩ := h'.at (j := 0) (e := e) rfl
   simp [Instr.findKey, run_underlying hd, Result.andThen, Instr.findNow, hp, hs]
 rcases asking K k es xs 0 h with ⟨h1, h2⟩ | ⟨j, e, v, h1, h2, h3, h4, h5⟩
 ·refine .inl ⟨fun w => by rw [hfk, h1], fun x hx q => ?_, mGet_none h2⟩
  have : x.key ∈ es.map (·.key) := List.mem_map.2 ⟨x, hx, rfl⟩
  rw [h.keys] at this
  obtain ⟨p, hp, hpk⟩ := List.mem_map.1 this
  exact h2 p hp (K.inj _ _ (hpk.trans q))
 ·have := mGet_at (nodup_ofG K h hn) h5
  exact .inr ⟨j, e, v, fun w => by rw [hfk, h1]; simp, h2, h3, h4, h5, this.1, this.2⟩
end find
section rules
variable {P : Program} {cx : Cx} {e : X5} {L : List Chunk} {ty : TypeId} {pos : String} {af : Array Edge} {g : Option (Nat × Bool)}
variable {κ ν : Type} [DecidableEq κ] {fk : κ → Value} {fv : ν → Value}
theorem run_lookupG {d : Option Nat} {t kt et : TypeId} {X I : Operand} {b i : Nat} {xs : List (κ × ν)} {k : κ} {z : ν} {w : World} (K : KeyG P kt fk) (ht : P.underlying t = some (.map kt et)) (hz : ∀ w, (zeroValue et).run P w = .ok (fv z) w)
  (hx : ev e X = .map (some b)) (hi : ev e I = fk k) (hS : Sat cx w L) (hL : L[i]? = some (mapC fk fv b xs)) :
  (execOp (ev e) ⟨d, .lookup t X I false, ty, pos, af, g⟩).run P w = .ok (.value (fv ((mGet xs k).getD z))) w := by
 obtain ⟨S, ⟨_, es, clock, hb, hst, hen⟩, _⟩ := hS.at hL
 rcases find_mapG K hen hst.2.2 k with ⟨h1, _, h3, _⟩ | ⟨j, e0, v, h1, _, _, h4, _, h6, _⟩
 ·simp [execOp, Instr.lookup, hx, hi, run_underlying ht, Go.MapKept.run_getObj_map hb, K.chk, h1, hz w, h3, Result.andThen]
 ·simp [execOp, Instr.lookup, hx, hi, run_underlying ht, Go.MapKept.run_getObj_map hb, K.chk, h1, h6, h4, Result.andThen]
theorem run_lookupFG {d : Option Nat} {t kt et : TypeId} {X I : Operand} {v : Value} {xs : List (κ × ν)} {k : κ} {z : ν} {w : World} (K : KeyG P kt fk) (ht : P.underlying t = some (.map kt et)) (hz : ∀ w, (zeroValue et).run P w = .ok (fv z) w)
  (hx : ev e X = v) (hi : ev e I = fk k) (f : FrM (fun b => w.heap[b]?) fk fv v xs) :
  (execOp (ev e) ⟨d, .lookup t X I false, ty, pos, af, g⟩).run P w = .ok (.value (fv ((mGet xs k).getD z))) w := by
 obtain ⟨b, es, clock, rfl, hb, hst, hen⟩ := f.out
 rcases find_mapG K hen hst.2.2 k with ⟨h1, _, h3, _⟩ | ⟨j, e0, v, h1, _, _, h4, _, h6, _⟩
 ·simp [execOp, Instr.lookup, hx, hi, run_underlying ht, Go.MapKept.run_getObj_map hb, K.chk, h1, hz w, h3, Result.andThen]
 ·simp [execOp, Instr.lookup, hx, hi, run_underlying ht, Go.MapKept.run_getObj_map hb, K.chk, h1, h6, h4, Result.andThen]
theorem turns_msetG {u : Bool} {t kt et : TypeId} {M I X : Operand} {b i : Nat} {xs : List (κ × ν)} {k : κ} {v : ν} {rds : List Nat} {o : Op} (K : KeyG P kt fk) (ho : o = .insert t M I X ∨ o = .mapUpdate t M I X) (ht : P.underlying t = some (.map kt et))
  (hm : ev e M = .map (some b)) (hi : ev e I = fk k) (hx : ev e X = fv v) (hL : L[i]? = some (mapC fk fv b xs)) {dst : Option Nat} :
  Turns P cx e ⟨dst, o, ty, pos, af, g⟩ L i rds (fun _ : Unit => undef) (fun _ => mapC fk fv b (Un xs k v)) := fun w L' hF hS _ hi' => by
 have hL' := (hi' i (.inr rfl)).trans hL
 obtain ⟨S, ⟨_, es, clock, hb, hst, hen⟩, _⟩ := hS.at hL'
 have hlt : b < w.heap.size := (Array.getElem?_eq_some_iff.1 hb).1
 have hstay : ∀ w, (Instr.keyThatStays (fk k) (fk k)).run P w = .ok (fk k) w := fun w => by simp [Instr.keyThatStays, K.bits]
 obtain ⟨es', clock', hrun, hst', hen'⟩ : ∃ es' clock', (execOp (ev e) ⟨dst, o, ty, pos, af, g⟩).run P w = .ok .skip { w with heap := w.heap.setIfInBounds b (.map es' clock') } ∧ Stamped es' clock' ∧ Ents fk fv es'.toList (Un xs k v) := by
  rcases find_mapG K hen hst.2.2 k with ⟨h1, h2, _, h4⟩ | ⟨j, e0, v0, h1, h2, h3, _, h5, _, h7⟩
  ·refine ⟨_, _, ?_, Go.MapKept.stamped_push hst h2, ents_push (v := v) hen h4⟩
   rcases ho with rfl | rfl <;> simp [execOp, Instr.mapUpdate, hm, hi, hx, run_underlying ht, Go.MapKept.run_getObj_map hb, K.chk, h1, Go.MapKept.run_setObj_map _ hb, Result.andThen]
  ·have h2' : es[j]? = some e0 := by simpa using h2
   refine ⟨es.modify j fun e => { e with key := fk k, val := fv v }, clock, ?_, Go.MapKept.stamped_modify hst j _ (fun _ _ => rfl) (fun x _ hx => by rw [h2'] at hx; cases hx; exact h3.symm), ents_modify (v := v) hen (nodup_ofG K hen hst.2.2) h5 h7⟩
   rcases ho with rfl | rfl <;> simp [execOp, Instr.mapUpdate, hm, hi, hx, run_underlying ht, Go.MapKept.run_getObj_map hb, K.chk, h1, h2', h3, hstay, Go.MapKept.run_setObj_map _ hb, Result.andThen]
 unfold RunsTo
 rw [hrun]
 have hS' := hS.turnOf (w' := { w with heap := w.heap.setIfInBounds b (.map es' clock') }) hF hL' (C := mapC fk fv b (Un xs k v)) fun S1 hp1 =>
  ⟨rfl, rfl, rfl, by simp, fun x _ hx => by rw [Array.getElem?_setIfInBounds_ne (fun h => hx ((hp1.1 x).2 h.symm))], S1, ⟨hp1.1, es', clock', by simp [hlt], hst', hen'⟩, fun x hx => ⟨by rw [(hp1.1 x).1 hx]; simpa using hlt, .inl hx⟩⟩
 exact ⟨(), rfl, hS'.1, hS'.2⟩
end rules
end Go.Lx

/- In a drawn region: a call that turns two chunks at once; what it leaves is told behind the region. Conditions: those that each rule names. -/
namespace Go.Lx
open Go Go.Vc Go.Md
def exC {σ : Type} (C : σ → Chunk) : Chunk where
 P S w := ∃ x, (C x).P S w
 loc S w w' h := fun ⟨x, hx⟩ => ⟨x, (C x).loc S w w' h hx⟩
theorem imp_ex {σ : Type} (C : σ → Chunk) (x : σ) : Imp (C x) (exC C) := ⟨fun _ _ h => ⟨x, h⟩⟩
section
variable {P : Program} {cx : Cx} {e : X5} {L : List Chunk} {ops : Array Oper} {F : X5 → List Chunk → Prop} {rest : List Oper} {ss : List Kd}
theorem sat_ex {σ : Type} {w : World} {i : Nat} {C : σ → Chunk} (hL : L[i]? = some (exC C)) (hS : Sat cx w L) : ∃ x, Sat cx w (L.set i (C x)) := by
 obtain ⟨fp, h1, h2, h3⟩ := hS.out
 obtain ⟨x, hx⟩ := h1 i _ hL
 have hil : i < L.length := by
  rcases Nat.lt_or_ge i L.length with h | h
  ·exact h
  ·simp [List.getElem?_eq_none h] at hL
 refine ⟨x, fp, fun j c hc => ?_, fun j b hb => ?_, h3⟩
 ·by_cases hji : j = i
  ·subst hji
   rw [List.getElem?_set_self hil] at hc
   cases hc; exact hx
  ·rw [List.getElem?_set_ne (fun h => hji h.symm)] at hc
   exact h1 j c hc
 ·have := h2 j b hb
  exact ⟨by simpa using this.1, this.2⟩
theorem c_ex {σ : Type} {K : X5 → World → Prop} (i : Nat) {C : σ → Chunk} (hL : L[i]? = some (exC C)) (k : ∀ x, At cx K e (L.set i (C x))) : At cx K e L :=
 ⟨fun w hF hS => by
  obtain ⟨x, hx⟩ := sat_ex hL hS
  exact (k x).out w hF hx⟩
theorem sat_both {w : World} {i j : Nat} {C D : Chunk} (hF : Fr cx w) (hS : Sat cx w L) (hi : L[i]? = some C) (hj : L[j]? = some D) (hne : i ≠ j) : Sat cx w ((L.set i (Yk C D)).set j empC) :=
 (Z6 (e := fun _ => undef) (K := fun _ w => Sat cx w ((L.set i (Yk C D)).set j empC)) i j hi hj hne ⟨fun _ _ h => h⟩).out w hF hS
theorem sat_imp {w : World} {i : Nat} {C D : Chunk} (hF : Fr cx w) (hS : Sat cx w L) (hi : L[i]? = some C) (h : Imp C D) : Sat cx w (L.set i D) :=
 (c_imp (e := fun _ => undef) (K := fun _ w => Sat cx w (L.set i D)) i hi h ⟨fun _ _ h => h⟩).out w hF hS
def _root_.Go.Vc.Kd.t2 (i j : Nat) (rds : List Nat) (v0 : Value) (C : Chunk) : Kd := .g [] rds [i, j] (fun _ _ v => v = v0) (fun _ _ _ => [C, empC])
theorem d_turn2 {σ : Type} {o : Oper} {d i j : Nat} {rds : List Nat} {v0 : Value} {C : σ → Chunk} {Ci Cj : Chunk} (h : Turns P cx e o ((L.set i (Yk Ci Cj)).set j empC) i rds (fun _ : σ => v0) C) (hi : L[i]? = some Ci) (hj : L[j]? = some Cj) (hne : i ≠ j)
  (hr : (∀ q ∈ rds, q ≠ i ∧ q ≠ j)) (hw : Y3 ops o e = true) (hd : o.dst = some d) (k : Sq P cx ops F rest ss (upd e d v0) ((L.set i (exC C)).set j empC)) : Sq P cx ops F (o :: rest) (.t2 i j rds v0 (exC C) :: ss) e L := by
 have hil : i < L.length := by
  rcases Nat.lt_or_ge i L.length with h | h
  ·exact h
  ·simp [List.getElem?_eq_none h] at hi
 have hjl : j < L.length := by
  rcases Nat.lt_or_ge j L.length with h | h
  ·exact h
  ·simp [List.getElem?_eq_none h] at hj
 refine .take hw ⟨v0, rfl⟩ ⟨fun w L' hF hS hl hi' => ?_⟩ fun v' hv' => ?_
 ·have hLi : L'[i]? = some Ci := (hi' i (.inr (by simp [Kd.t2, Kd.wrs]))).trans hi
  have hLj : L'[j]? = some Cj := (hi' j (.inr (by simp [Kd.t2, Kd.wrs]))).trans hj
  have hS2 := sat_both hF hS hLi hLj hne
  refine (h w _ hF hS2 (by simpa using hl) fun q hq => ?_).mono fun v w' ⟨x, hv, hF', hS'⟩ => ?_
  ·by_cases hqi : q = i
   ·subst hqi
    rw [List.getElem?_set_ne (fun h => hne h.symm), List.getElem?_set_ne (fun h => hne h.symm), List.getElem?_set_self (by omega), List.getElem?_set_self hil]
   ·have hq' : q ∈ rds := hq.resolve_right hqi
    have hqj := (hr q hq').2
    rw [List.getElem?_set_ne (fun h => hqj h.symm), List.getElem?_set_ne (fun h => hqj h.symm), List.getElem?_set_ne (fun h => hqi h.symm), List.getElem?_set_ne (fun h => hqi h.symm)]
    exact hi' q (.inl hq')
  ·subst hv
   refine ⟨rfl, hF', ?_⟩
   show Sat cx w' ((L'.set i (exC C)).set j empC)
   have e1 : (((L'.set i (Yk Ci Cj)).set j empC).set i (C x)) = (L'.set i (C x)).set j empC := by
    rw [List.set_comm _ _ (fun h => hne h.symm), List.set_set]
   rw [e1] at hS'
   have hget : ((L'.set i (C x)).set j empC)[i]? = some (C x) := by
    rw [List.getElem?_set_ne (fun h => hne h.symm), List.getElem?_set_self (by omega)]
   have := sat_imp hF' hS' hget (imp_ex C x)
   rw [List.set_comm _ _ (fun h => hne h.symm), List.set_set] at this
   exact this
 ·have hv : v' = v0 := hv'
  subst hv
  show Sq P cx ops F rest ss (putD e o.dst v') ((L.set i (exC C)).set j empC)
  rw [hd]
  exact k
end
end Go.Lx

/- Rules: rows of one's own that may be parts of their blocks: length, stores of whole elements. Conditions: those that each rule names. -/
namespace Go.Lx
open Go Go.Vc Go.Md
section rules
variable {P : Program} {n : Nat} {cx : Cx} {e : X5} {L : List Chunk} {ops : Array Oper} {rest : List Oper} {ty : TypeId} {pos : String} {af : Array Edge} {g : Option (Nat × Bool)}
theorem lenOfO {w : World} {i E sz n : Nat} {v : Value} {xs : List (List Value)} (hS : Sat cx w L) (hL : L[i]? = some (Q0 E sz v n xs)) : xs.length = n := by
 obtain ⟨S, ⟨⟨h1, h2, h3⟩, _⟩, _⟩ := hS.at hL
 exact h2
theorem run_storeGO {T i j sz szT k m c : Nat} {A X : Operand} {x : Value} {a : Option Addr} {y y' vs : List Value} {xs : List (List Value)} {E : TypeId} {w : World} {S : Nat → Prop} (hs : ∀ w, (sizeOf T).run P w = .ok szT w) (hp : ev e A = ptrAt a k) (hk : k = i * sz + j) (hx : ev e X = x) (hc : x.cells.toList = vs) (hsz : vs.length = szT)
  (hpos : Nat.blt 0 szT = true) (hone : vs.all Value.oneCell' = true) (hy : xs[i]? = some y) (hv : wr y j vs = some y') (h : (Q0 E sz (.slice a m c) m xs).P S w) (hlt : ∀ b, S b → b < w.heap.size) :
  ∃ w', (execOp (ev e) ⟨none, .store T A X, ty, pos, af, g⟩).run P w = .ok .skip w' ∧ Turn w w' S (Q0 E sz (.slice a m c) m (xs.set i y')) := by
 obtain ⟨⟨h1, hlen, hlx⟩, hb⟩ := h
 have hpos' : 0 < vs.length := by rw [hsz]; simpa using hpos
 obtain ⟨g1, g2⟩ := wr_eq hv hpos'
 have hi : i < xs.length := by
  rcases Nat.lt_or_ge i xs.length with h | h
  ·exact h
  ·simp [List.getElem?_eq_none h] at hy
 have hyl := hlx y (List.mem_of_getElem? hy)
 have hl2 : ∀ z ∈ xs.set i y', z.length = sz := fun z hz => by
  rcases List.mem_or_eq_of_mem_set hz with h | h
  ·exact hlx z h
  ·subst h; rw [g2]; simp only [List.length_append, List.length_take, List.length_drop]; omega
 rcases h1 with ho | ⟨b, off, cap, cur, hv0, hh, q1, q2, q3, q4⟩
 ·obtain ⟨w', hr, h2, h3⟩ := run_storeR (P := P) (ty := ty) (pos := pos) (af := af) (g := g) hs hp hk hx hc hsz hpos hone hy hv ho hlen hlx
  exact ⟨w', hr, rowO_of_turn (turn_append hb h2 h3 (.inl rfl) (by simp [hlen]) hl2)⟩
 ·simp only [Value.slice.injEq] at hv0
  obtain ⟨rfl, -, rfl⟩ := hv0
  have hcap : m * sz ≤ c * sz := Nat.mul_le_mul_right _ q1
  have hle : (i + 1) * sz ≤ m * sz := Nat.mul_le_mul_right _ (by omega)
  rw [Nat.succ_mul] at hle
  have hst := run_storeCells_at P b (off + k) E vs 0 cur w hh (by rw [hk]; omega) (by simpa using hone)
  have hsz' : x.cells.size = szT := by rw [← hsz, ← hc]; simp
  have hp' : ev e A = .pointer (some ⟨b, off + k, none⟩) := by rw [hp]; rfl
  simp only [Nat.add_zero] at hst
  have hSb : S b := hb b rfl
  have hset := setRow_heap w b cur (cur.toList.take (off + k) ++ vs ++ cur.toList.drop (off + k + vs.length)).toArray E (0, 0) hh
  refine ⟨w.setRow b (cur.toList.take (off + k) ++ vs ++ cur.toList.drop (off + k + vs.length)).toArray, by
   simp only [execOp, Instr.storeAt, Instr.sureAddr, storeVar, hp', hx, Sem.run_bind, Sem.run_pure, Result.andThen_ok, hs, hsz', ne_eq, not_true_eq_false, if_false, hc, hst], ?_⟩
  refine ⟨rfl, rfl, rfl, by simp, fun d hd hn => setRow_other w b d _ (fun e => hn (e ▸ hSb)), S, ⟨⟨.inr ⟨b, off, c, _, rfl, hset, q1, q2, ?_, ?_⟩, by simp [hlen], hl2⟩, hb⟩, fun d hd => ⟨by simpa using hlt d hd, .inl hd⟩⟩
  ·simp only [List.size_toArray, List.length_append, List.length_take, List.length_drop, Array.length_toList]
   rw [hk]; omega
  ·have hsc := set_cells (cur := cur.toList.drop off) (j := j) (vs := vs) (x' := y') hlx q4 hlen hy (by simp only [List.length_drop, Array.length_toList]; omega) g1 g2
   rw [← hsc]
   congr 1
   show (cur.toList.take (off + k) ++ vs ++ cur.toList.drop (off + k + vs.length)).drop off = _
   rw [List.append_assoc, List.drop_append_of_le_length (by simp only [List.length_take, Array.length_toList]; rw [hk]; omega), List.drop_take, List.drop_drop, ← hk, ← List.append_assoc]
   congr 2
   ·congr 1; omega
   ·rw [show off + (k + vs.length) = off + k + vs.length by omega]
theorem turns_storeGO {α : Type} {q T j sz szT k c E m : Nat} {A X : Operand} {x : Value} {a : Option Addr} {vs : List Value} {f : α → List Value} {xs ys : List α} {i : Int} {z : α} {rds : List Nat} (hm : m = xs.length) (hs : ∀ w, (sizeOf T).run P w = .ok szT w)
  (hp : ev e A = ptrAt a k) (hk : k = i.toNat * sz + j) (hx : ev e X = x) (hc : x.cells.toList = vs) (hsz : vs.length = szT)
  (hpos : Nat.blt 0 szT = true) (hone : vs.all Value.oneCell' = true) (hL : L[q]? = some (Q0 E sz (.slice a m c) m (xs.map f))) (hv : ∀ y, Qn xs i = some y → wr (f y) j vs = some (f z)) (hg : gSet xs i z = some ys) :
  Turns P cx e ⟨none, .store T A X, ty, pos, af, g⟩ L q rds (fun _ : Unit => undef) (fun _ => Q0 E sz (.slice a m c) m (ys.map f)) := by
 subst hm
 intro w L' hF hS hl hi
 have hL' := (hi q (.inr rfl)).trans hL
 obtain ⟨h0, h1, rfl⟩ := gSet_some hg
 have hat : Qn xs i = some xs[i.toNat] := gAt_ok h0 h1
 have hv' := hv _ hat
 have hy := map_at (f := f) hat
 have hrun := fun (S1 : Nat → Prop) (h : (Q0 E sz (.slice a xs.length c) xs.length (xs.map f)).P S1 w) (hlt : ∀ b, S1 b → b < w.heap.size) => run_storeGO (P := P) (ty := ty) (pos := pos) (af := af) (g := g) hs hp hk hx hc hsz hpos hone hy hv' h hlt
 obtain ⟨S0, hC, hlt⟩ := hS.at hL'
 obtain ⟨w', hr, ht⟩ := hrun S0 hC (fun b hb => (hlt b hb).1)
 have hF' := hF.turn ht fun b hs => (hlt b hs).2
 have hS' := hS.turnAt hF hL' (w' := w') (C := Q0 E sz (.slice a xs.length c) xs.length ((xs.map f).set i.toNat (f z))) (fun S1 hp hlt1 => by
  obtain ⟨w1, hr1, ht1⟩ := hrun S1 hp fun b hb => (hlt1 b hb).1
  rw [hr] at hr1
  cases hr1
  exact ht1) ht.size
 unfold RunsTo
 rw [hr, List.map_set]
 exact ⟨(), rfl, hF', hS'⟩
theorem turns_clearVO {α : Type} {f : α → List Value} {ys ts : List α} {z0 : α} {i : Nat} {X : Operand} {t E : TypeId} {z : Value} {sz : Nat} {p : Option Addr × Nat} {rds : List Nat} {c m : Nat} {a q : Int} (hm : m = ys.length)
  (ht : P.underlying t = some (.slice E)) (hz : ∀ w, (zeroValue E).run P w = .ok z w) (hzs : z.cells.toList = f z0) (hf : ∀ x, (f x).length = sz) (h1 : ∀ x, (f x).all Value.oneCell' = true)
  (hL : L[i]? = some (Q0 E sz (.slice p.1 m p.2) m (ys.map f))) (hg : Um ys a q = some ts) (hx : ev e X = .slice (Y4 p.1 a.toNat p.2 sz) ts.length c) {dst : Option Nat} :
  Turns P cx e ⟨dst, .call ⟨.builtin .clear, #[X], #[t]⟩, ty, pos, af, g⟩ L i rds (fun _ : Unit => .tuple #[]) (fun _ => Q0 E sz (.slice p.1 m p.2) m ((clrL ys a q z0).map f)) := by
 subst hm
 intro w L' hF hS hl hi'
 have hL' := (hi' i (.inr rfl)).trans hL
 obtain ⟨S0, hC, hlt⟩ := hS.at hL'
 have hlen : (ys.map f).length = ys.length := hC.1.2.1
 have hlx : ∀ x ∈ ys.map f, x.length = sz := hC.1.2.2
 have hn := gCut_len hg
 obtain ⟨g0, g1, g2, hts⟩ := Va hg
 have hset : ∀ C, L'[i]? = some C → L'.set i C = L' := by
  intro C hC
  refine List.ext_getElem? fun j => ?_
  rw [List.getElem?_set]
  split
  ·rename_i h; subst h
   split
   ·exact hC.symm
   ·rename_i h; rw [List.getElem?_eq_none (by omega)]
  ·rfl
 rcases Nat.eq_zero_or_pos ts.length with hq0 | hq0
 ·rw [hq0] at hx
  have he : (execOp (ev e) ⟨dst, .call ⟨.builtin .clear, #[X], #[t]⟩, ty, pos, af, g⟩).run P w = .ok (.value (.tuple #[])) w := by
   have hr : (Builtin.clear_ #[t] ty #[.slice (Y4 p.1 a.toNat p.2 sz) 0 c]).run P w = .ok (.tuple #[]) w := by
    cases Y4 p.1 a.toNat p.2 sz <;> simp [Builtin.clear_, run_underlying ht]
   simp only [execOp, resolve, invoke, builtin, Sem.run_bind, Sem.run_pure, Result.andThen_ok, List.map_toArray, List.map_cons, List.map_nil, hx, hr]
  have hc : clrL ys a q z0 = ys := by
   unfold clrL
   have : q.toNat = a.toNat := by omega
   rw [this, Nat.sub_self, List.replicate_zero, List.nil_append, List.take_append_drop]
  unfold RunsTo
  rw [he, hc]
  exact ⟨(), rfl, hF, by rw [hset _ hL']; exact hS⟩
 ·have hcap := capOfO hS hL'
  obtain ⟨b0, off, cur, e1, hSg, hg0, hnc, hcm, hfit0, htk⟩ := rowO_off hC (by omega)
  have hcut : Y4 p.1 a.toNat p.2 sz = some ⟨b0, off + a.toNat * sz, none⟩ := by
   unfold Y4
   rw [if_neg (by omega), e1]; simp [Addr.add]
  rw [hcut] at hx
  have hzc := zeros_flat hzs ts.length
  have hzl : (Builtin.zeroCells z.cells ts.length).toList.length = ts.length * sz := by rw [hzc, flat_len (sz := sz) _ (fun x hx => by rw [(List.mem_replicate.1 hx).2]; exact hf z0), List.length_replicate]
  have hz1 : ∀ v ∈ (Builtin.zeroCells z.cells ts.length).toList, v.oneCell' = true := by
   intro v hv
   rw [hzc] at hv
   obtain ⟨l, hl, hvl⟩ := List.mem_flatten.1 hv
   rw [(List.mem_replicate.1 hl).2] at hvl
   exact List.all_eq_true.1 (h1 z0) v hvl
  have hle : a.toNat * sz + ts.length * sz ≤ ys.length * sz := by rw [← Nat.add_mul]; exact Nat.mul_le_mul_right _ (by omega)
  have hle2 : ys.length * sz ≤ p.2 * sz := Nat.mul_le_mul_right _ hnc
  have hfit : off + a.toNat * sz + 0 + (Builtin.zeroCells z.cells ts.length).toList.length ≤ cur.size := by rw [hzl]; omega
  have hst := run_storeCells_at (P := P) b0 (off + a.toNat * sz) E (Builtin.zeroCells z.cells ts.length).toList 0 cur w hg0 hfit hz1
  generalize hnw : (cur.toList.take (off + a.toNat * sz + 0) ++ (Builtin.zeroCells z.cells ts.length).toList ++ cur.toList.drop (off + a.toNat * sz + 0 + (Builtin.zeroCells z.cells ts.length).toList.length)) = new at hst
  have hflat : (clrL ys a q z0).map f = (ys.map f).take a.toNat ++ (List.replicate ts.length (f z0) ++ (ys.map f).drop q.toNat) := by
   unfold clrL
   rw [hn]; simp [List.map_append, List.map_take, List.map_drop, List.map_replicate]
  have hdrop : new.drop off = (cur.toList.drop off).take (a.toNat * sz) ++ (Builtin.zeroCells z.cells ts.length).toList ++ (cur.toList.drop off).drop (a.toNat * sz + (Builtin.zeroCells z.cells ts.length).toList.length) := by
   rw [← hnw, Nat.add_zero, List.append_assoc, List.drop_append_of_le_length (by rw [List.length_take, Array.length_toList]; omega), List.drop_take, Nat.add_sub_cancel_left, List.drop_drop, ← List.append_assoc]
   congr 2
   omega
  have hnew : (new.drop off).take (ys.length * sz) = ((clrL ys a q z0).map f).flatten := by
   have e4 : q.toNat * sz = a.toNat * sz + ts.length * sz := by rw [← Nat.add_mul]; congr 1; omega
   rw [hdrop, splice_take _ _ _ _ (by rw [hzl]; omega) (by have : cur.toList.length = cur.size := Array.length_toList; rw [List.length_drop]; omega), htk, hflat, List.flatten_append, List.flatten_append, ← hzc, ← flat_takeN a.toNat hlx, ← flat_dropN q.toNat hlx, hzl, e4]
  have he : (execOp (ev e) ⟨dst, .call ⟨.builtin .clear, #[X], #[t]⟩, ty, pos, af, g⟩).run P w = .ok (.value (.tuple #[])) (w.setRow b0 new.toArray) := by
   have hr : (Builtin.clear_ #[t] ty #[.slice (some ⟨b0, off + a.toNat * sz, none⟩) ts.length c]).run P w = .ok (.tuple #[]) (w.setRow b0 new.toArray) := by
    obtain ⟨q', hq'⟩ : ∃ q', ts.length = q' + 1 := ⟨ts.length - 1, by omega⟩
    rw [hq'] at hst ⊢
    simp only [Builtin.clear_, Sem.run_bind, run_underlying ht, Result.andThen_ok, hz, hst, Sem.run_pure, List.getElem?_toArray, List.getElem?_cons_zero]
   simp only [execOp, resolve, invoke, builtin, Sem.run_bind, Sem.run_pure, Result.andThen_ok, List.map_toArray, List.map_cons, List.map_nil, hx, hr]
  have hlc : ∀ x ∈ (clrL ys a q z0).map f, x.length = sz := fun x hx => by obtain ⟨y, _, rfl⟩ := List.mem_map.1 hx; exact hf y
  have hsz2 : new.toArray.size = cur.size := by
   have hf2 := hfit
   rw [← hnw]
   simp only [List.size_toArray, List.length_append, List.length_take, List.length_drop, Array.length_toList] at hf2 ⊢
   omega
  obtain ⟨hF', hS'⟩ := hS.turnOf hF hL' (C := Q0 E sz (.slice p.1 ys.length p.2) ys.length ((clrL ys a q z0).map f)) (w' := w.setRow b0 new.toArray) fun S1 hp => by
   have hg1 : S1 b0 := hp.2 b0 (by rw [e1]; rfl)
   refine ⟨rfl, rfl, rfl, by simp [World.setRow], fun b' hb' hn => ?_, (fun x => x = b0), ⟨⟨.inr ⟨b0, off, p.2, _, by rw [e1], setRow_heap w b0 cur _ E _ hg0, hnc, hcm, by rw [hsz2]; exact hfit0, hnew⟩, by rw [List.length_map, clrL_len hg], hlc⟩, fun b' hb' => by rw [e1] at hb'; cases hb'; rfl⟩, fun b' hb' => ⟨?_, .inl (by rw [hb']; exact hg1)⟩⟩
   ·exact setRow_other w b0 b' _ fun h => hn (by rw [h]; exact hg1)
   ·rw [hb', setRow_size]; exact (Array.getElem?_eq_some_iff.1 hg0).1
  unfold RunsTo
  rw [he]
  exact ⟨(), rfl, hF', hS'⟩
theorem run_append_noneO {w : World} {S : Nat → Prop} {E sz m c' : Nat} {p : Option Addr × Nat} {xs : List (List Value)} (t ty : TypeId) (i : TypeInfo) (ht : P.underlying t = some (.slice E)) (hi : P.info? E = some i) (h : (Q0 E sz (.slice p.1 m p.2) m xs).P S w) :
  (Builtin.append_ #[t, t] ty #[.slice p.1 m p.2, .slice none 0 c']).run P w = .ok (.slice p.1 m p.2) w := by
 rcases h.1.1 with ho | ⟨b, off, cap, cur, hv, hh, q1, _⟩
 ·exact U2 t ty E i sz ht hi _ _ _ c' ho
 ·rw [hv]
  simp [Builtin.append_, run_underlying ht, sizeOf, typeInfo, hi, Builtin.lenOf, Builtin.firstCells, q1, storeCells]
theorem turns_appFG {α : Type} {f : α → List Value} {ys ls zs : List α} {i d : Nat} {S X : Operand} {t E : TypeId} {I : TypeInfo} {z : Value} {sz by_ : Nat} {p : Option Addr × Nat} {rds : List Nat} {V : Value} {a : Option Addr} {c m q : Nat} (hn : m = ys.length)
  (ht : P.underlying t = some (.slice E)) (hi : P.info? E = some I) (hz : I.zero = some z) (hsize : I.size = sz) (hby : I.bytes = by_) (hzs : z.cells.size = sz) (hsz : Nat.blt 0 sz = true)
  (hL : L[i]? = some (Q0 E sz (.slice p.1 m p.2) m (ys.map f))) (hs : ev e S = .slice p.1 m p.2) (hx : ev e X = V) (hV : V = .slice a q c) (hq : q = ls.length)
  (hnews : ∀ w L', Fr cx w → Sat cx w L' → (∀ j, j ∈ rds → L'[j]? = L[j]?) → Row w a sz (ls.map f)) (hf : ∀ x, (f x).length = sz) (h1 : ∀ x, (f x).all Value.oneCell' = true) (hg : gApp by_ ys ls = some zs) :
  Turns P cx e ⟨some d, .call ⟨.builtin .append, #[S, X], #[t, t]⟩, ty, pos, af, g⟩ L i rds (fun p' : Option Addr × Nat => .slice p'.1 zs.length p'.2) (fun p' => Q0 E sz (.slice p'.1 zs.length p'.2) zs.length (zs.map f)) := by
 cases ha : a with
 | some ad =>
  subst ha
  exact turns_appF (a := ad) hn ht hi hz hsize hby hzs hsz hL hs hx hV hq hnews hf h1 hg
 | none =>
  subst ha
  subst hn hq
  obtain ⟨rfl, hb1, hb2⟩ := gApp_some hg
  rw [List.length_append]
  intro w L' hF hS hl hi'
  have hr := hnews w L' hF hS fun j hj => hi' j (.inl hj)
  have hls : ls = [] := by
   rcases hr with h | ⟨b, off, h, _⟩
   ·simpa using h
   ·cases h
  subst hls
  have hL' := (hi' i (.inr rfl)).trans hL
  obtain ⟨S0, hC, _⟩ := hS.at hL'
  have he : (execOp (ev e) ⟨some d, .call ⟨.builtin .append, #[S, X], #[t, t]⟩, ty, pos, af, g⟩).run P w = .ok (.value (.slice p.1 ys.length p.2)) w := by
   simp only [execOp, resolve, invoke, builtin, Sem.run_bind, Sem.run_pure, Result.andThen_ok, List.map_toArray, List.map_cons, List.map_nil, hs, hx, hV, List.length_nil, run_append_noneO t ty I ht hi hC]
  unfold RunsTo
  rw [he]
  refine ⟨p, by simp, hF, ?_⟩
  have : L'.set i (Q0 E sz (.slice p.1 (ys.length + 0) p.2) (ys.length + 0) ((ys ++ []).map f)) = L' := by
   rw [List.append_nil, Nat.add_zero]
   refine List.ext_getElem? fun j => ?_
   rw [List.getElem?_set]
   split
   ·rename_i h; subst h
    split
    ·exact hL'.symm
    ·rename_i h; rw [List.getElem?_eq_none (by omega)]
   ·rfl
  show Sat cx w (L'.set i (Q0 E sz (.slice p.1 (ys.length + ([] : List α).length) p.2) (ys.length + ([] : List α).length) ((ys ++ []).map f)))
  rw [List.length_nil, this]
  exact hS
end rules
theorem imp_shrinkO {α : Type} {E sz m : Nat} {p : Option Addr × Nat} {f : α → List Value} {xs ys : List α} {q : Int} (hm : m = xs.length) (g : Um xs 0 q = some ys) :
  Imp (Q0 E sz (.slice p.1 m p.2) m (xs.map f)) (Q0 E sz (.slice p.1 ys.length p.2) ys.length (ys.map f)) := by
 have g2 : Um (xs.map f) 0 q = some (ys.map f) := by
  obtain ⟨h0, h1, h2, rfl⟩ := Va g
  unfold Um
  rw [if_pos ⟨h0, h1, by simpa using h2⟩]
  simp [List.map_take]
 have h := imp_cutO (E := E) (sz := sz) (m := m) (p := p) (by simpa using hm) g2
 have hid : ∀ zs : List (List Value), zs.map idC = zs := fun zs => List.map_id' zs
 rw [hid, hid] at h
 simpa [cutA_zero] using h
end Go.Lx

/- The kit's contract of slices.SortFunc at rows of one's own that may be parts of their blocks. Conditions: the row is shorter than 2^62; the comparing function is an order, and tells all elements apart. -/
namespace Go.Lx
open Go Go.Vc Go.Md Go.Shelf Go.Sort Go.Proofs
theorem holds_of_cellsO {w : World} {g off : Nat} {cur : Array Value} {e : TypeId} {F : Array Value} (hb : w.heap[g]? = some (.cells cur e (0, 0))) (ht : (cur.toList.drop off).take F.size = F.toList) : Holds id w g off F := by
 intro j hj
 refine ⟨?_, by simp [World.frozen?, hb]⟩
 have h1 : ((cur.toList.drop off).take F.size)[j]? = F.toList[j]? := by rw [ht]
 rw [List.getElem?_take_of_lt hj, List.getElem?_drop] at h1
 simp only [World.cell?, hb]
 simp only [Option.isSome_none, Bool.false_eq_true, if_false]
 rw [← Array.getElem?_toList, h1]
 simp [hj]
theorem heap_sortedO {w : World} {g off n : Nat} {os : Array Obj} {cur : Array Value} {e : TypeId} {fr : Nat × Nat} (F : Array Value) (hb : w.heap[g]? = some (.cells cur e fr)) :
  (grow (putRow id (Sort.ahead w n) g off F) os).heap[g]? = some (.cells (putCells id off F cur) e fr) := by
 have hg : g < w.heap.size := (Array.getElem?_eq_some_iff.1 hb).1
 rw [heap_grow_old _ _ (by simpa using hg)]
 simp [putRow, mapBlock, Sort.ahead, Array.getElem?_modify, hb, onCells]
theorem grownBy_sortedO {w : World} {g off n : Nat} {os : Array Obj} (F : Array Value) : w.grownBy (grow (putRow id (Sort.ahead w n) g off F) os) (some g) := by
 refine ⟨rfl, rfl, rfl, by simp, fun k hk hne => ?_⟩
 rw [heap_grow_old _ _ (by simpa using hk)]
 have : g ≠ k := fun e => hne (by rw [e])
 simp [putRow, mapBlock, Sort.ahead, Array.getElem?_modify, this]
theorem take_putCellsO (cur : Array Value) (off : Nat) (F : Array Value) (h : off + F.size ≤ cur.size) : ((putCells id off F cur).toList.drop off).take F.size = F.toList := by
 apply List.ext_getElem?
 intro j
 by_cases hj : j < F.size
 ·rw [List.getElem?_take_of_lt hj, List.getElem?_drop, Array.getElem?_toList]
  simp [putCells, hj, show off + j < cur.size by omega]
 ·rw [List.getElem?_take_eq_none (by omega), List.getElem?_eq_none (by simp; omega)]
theorem swo_pre {α : Type} {cmp : α → α → Option Int} (c : CmpPre cmp) : SWO (ltOf fun x y => (cmp x y).getD 0) where
 irrefl x := by have := c.flip x x; unfold ltOf; simp; omega
 trans x y z h1 h2 := by
  unfold ltOf at *
  simp at *
  have a1 := c.flip x y
  have a2 := c.flip y z
  have a3 := c.flip z x
  have a6 := c.flip x z
  have t2 := c.trans x y z (by omega) (by omega)
  rcases Int.lt_or_le ((cmp x z).getD 0) 0 with h | h
  ·exact h
  ·have e0 : (cmp x z).getD 0 = 0 := by omega
   have t := c.trans z x y (by omega) (by omega)
   omega
 ntrans x y z h1 h2 := by
  unfold ltOf at *
  simp at *
  have a1 := c.flip x y
  have a2 := c.flip y z
  have a3 := c.flip z x
  have a4 := c.flip y x
  have a5 := c.flip z y
  have a6 := c.flip x z
  have t := c.trans z y x (by omega) (by omega)
  omega
theorem sort_funcO {P : Program} {ρ : Ren} (Ly : SlLaysF0.n6 P ρ) {α : Type} {k : Nat} (aE : ∀ w, (isAgg (ρ.t 24)).run P w = .ok true w) (zE : ∀ w, (Go.sizeOf (ρ.t 24)).run P w = .ok k w) (enc : α → List Value) (hk : ∀ x, (enc x).length = k)
  (h1 : ∀ x, ∀ v ∈ enc x, v.oneCell' = true) {cf : α → α → Option Int} {g : Nat} (eg : ∀ args w, (callFunc g args).run P w = .ok (.enter g args) w)
  (hcl : ∀ (x y : α) (v : Int) (W : World), cf x y = some v → Calls P g #[.agg (enc x).toArray, .agg (enc y).toArray] W fun e w' => e = .returned (.int .i64 v) ∧ ∃ q os', w' = Go.Sort.grow (W.drewN q) os')
  {E : TypeId} {a0 r : List α} {p0 : Option Addr × Nat} {n0 : Nat} {w : World} {S : Nat → Prop}
  (hcs : (Q0 E k (.slice p0.1 n0 p0.2) n0 (a0.map enc)).P S w) (hlt : ∀ b, S b → b < w.heap.size) (hn0 : n0 = a0.length) (H : gSortU a0 cf = some r) :
  Does P (ρ.f 6) (List.toArray [.slice p0.1 n0 p0.2, .func (.func g) #[] #[]]) w (fun v w' => ∃ _ : Unit, v = .tuple #[] ∧ Turn w w' S (Q0 E k (.slice p0.1 n0 p0.2) n0 (r.map enc))) := by
 obtain ⟨p, c⟩ := p0
 obtain ⟨rfl, hsz, hok, hu⟩ := gSortU_some H
 subst hn0
 have hcs0 := hcs
 rcases List.eq_nil_or_concat a0 with rfl | ⟨_, x0, hx0⟩
 ·refine Calls.mono (AnyF.slices_SortFunc_none { Ly with } _ c (.func (.func g) #[] #[]) w) ?_
  rintro e w' ⟨rfl, rfl⟩
  exact ⟨_, rfl, (), rfl, ⟨rfl, rfl, rfl, Nat.le_refl _, fun _ _ _ => rfl, S, by simpa using hcs0, fun b h => ⟨hlt b h, .inl h⟩⟩⟩
 ·have hpos : 0 < a0.length := by rw [hx0]; simp
  have hcap : a0.length ≤ c := by
   rcases hcs.1.1 with h | ⟨_, _, _, _, hv, _, h, _⟩
   ·rcases h.2 with ⟨hv, h0⟩ | ⟨_, _, _, hv, _, _, h, _⟩
    ·omega
    ·simp only [Value.slice.injEq] at hv; omega
   ·simp only [Value.slice.injEq] at hv; omega
  obtain ⟨b, off, cur, e1, hSg, hh, q1, q2, q3, q4⟩ := rowO_off hcs (by omega)
  have e1 : p = some ⟨b, off, none⟩ := e1
  have q1 : a0.length ≤ c := q1
  have q2 : c ≤ maxLen := q2
  have q3 : off + c * k ≤ cur.size := q3
  subst e1
  haveI : Inhabited α := ⟨x0⟩
  have hgl : b < w.heap.size := (Array.getElem?_eq_some_iff.1 hh).1
  have hfs : ∀ l : List α, (flatK enc k l.toArray).toList = (l.map enc).flatten := fun l => flatK_toList enc k hk l.toArray
  have hH : HoldsK enc k w b off a0.toArray := by
   refine holds_of_cellsO hh ?_
   rw [hfs, size_flatK, ← q4]
   simp
  have hcmp : CmpLays P g #[] enc k (fun x y => (cf x y).getD 0) b off a0.toArray.size w := fun m os dk _ x y => by
   obtain ⟨v, hv⟩ := hok.tot x y
   have := hcl x y v (sortWorldK enc k w b off m dk os) hv
   have e : (cf x y).getD 0 = v := by rw [hv]; rfl
   simp only [e]
   exact this
  have main := AnyQ.slices_SortFunc Ly k aE zE enc hk h1 (fun x y => (cf x y).getD 0) (swo_pre hok) g #[] b off c a0.toArray w eg hcmp hH hgl (by simpa using hsz)
  rw [show a0.toArray.size = a0.length by simp] at main
  refine Calls.mono main ?_
  rintro e w' ⟨rfl, d', n, os, hperm, hsorted, rfl⟩
  have hds : d'.size = a0.length := by simpa using hperm.1
  have hp : d'.toList.Perm a0 := by
   have := hperm.2.2
   have z1 : (d'.extract 0 a0.length).toList = d'.toList := by rw [← hds]; simp
   have z2 : (a0.toArray.extract 0 a0.length).toList = a0 := by simp
   rw [z1, z2] at this
   exact this
  have hd : d'.toList = a0.mergeSort (leC cf) := by
   refine sortU_is hok hu hp ?_
   rw [List.pairwise_iff_getElem]
   intro i j hi hj hij
   have := hsorted i j (Nat.zero_le _) hij (by simpa [hds] using hj)
   rw [getElem!_pos d' j (by simpa using hj), getElem!_pos d' i (by simpa using hi)] at this
   unfold ltOf at this
   unfold leC
   have a1 := hok.flip d'[j] d'[i]
   have a2 := hok.flip d'[i] d'[j]
   simp at this ⊢
   simp at hi hj
   omega
  have hflat : (flatK enc k d').toList = ((a0.mergeSort (leC cf)).map enc).flatten := by rw [flatK_toList enc k hk, hd]
  obtain ⟨g1, g2, g3, g4, g5⟩ := grownBy_sortedO (w := w) (g := b) (off := off) (n := n) (os := os) (flatK enc k d')
  have hll : (a0.mergeSort (leC cf)).length = a0.length := List.length_mergeSort _
  have hszk : (flatK enc k d').size = a0.length * k := by rw [size_flatK, hds]
  have hle : a0.length * k ≤ c * k := Nat.mul_le_mul_right k q1
  refine ⟨_, rfl, (), rfl, ⟨g1, g2, g3, g4, fun z hz hnz => g5 z hz (fun h => hnz (by cases h; exact hSg)), S, ⟨⟨.inr ⟨b, off, c, _, rfl, heap_sortedO _ hh, q1, q2, by simp [putCells]; exact q3, ?_⟩, by simp [hll], fun x hx => ?_⟩, hcs0.2⟩, fun z h => ⟨Nat.lt_of_lt_of_le (hlt z h) g4, .inl h⟩⟩⟩
  ·rw [← hflat]
   have := take_putCellsO cur off (flatK enc k d') (by rw [hszk]; omega)
   rw [hszk] at this
   exact this
  ·obtain ⟨y, _, rfl⟩ := List.mem_map.1 hx
   exact hk y
theorem ltB_gt : ∀ a b : List UInt8, (!ltB a b && !(a == b)) = ltB b a
 | [], [] => rfl
 | [], _ :: _ => rfl
 | _ :: _, [] => rfl
 | a :: xs, b :: ys => by
  have ih := ltB_gt xs ys
  rw [ltB, ltB]
  rcases Nat.lt_trichotomy a.toNat b.toNat with h | h | h
  ·have h1 : a < b := UInt8.lt_iff_toNat_lt.2 h
   have h2 : ¬ b < a := fun h3 => by have := UInt8.lt_iff_toNat_lt.1 h3; omega
   have h3 : ¬ b = a := fun h4 => by subst h4; omega
   simp [h1, h2, h3]
  ·have h1 : a = b := UInt8.toNat_inj.1 h
   subst h1
   have h2 : ¬ a < a := fun h3 => by have := UInt8.lt_iff_toNat_lt.1 h3; omega
   simp [h2, ← ih]
  ·have h1 : b < a := UInt8.lt_iff_toNat_lt.2 h
   have h2 : ¬ a < b := fun h3 => by have := UInt8.lt_iff_toNat_lt.1 h3; omega
   have h3 : ¬ a = b := fun h4 => by subst h4; omega
   simp [h1, h2, h3]
section ops
variable {P : Program} {e : X5} {d : Option Nat} {ty : TypeId} {pos : String} {af : Array Edge} {g : Option (Nat × Bool)}
theorem r_gtrT {X Y : Operand} {a b : List UInt8} {t t' : TypeId} (hx : ev e X = str a) (hy : ev e Y = str b) (w : World) :
  (execOp (ev e) ⟨d, .binOp .gtr t X Y t', ty, pos, af, g⟩).run P w = .ok (.value (.bool (ltB b a))) w := by
 simp [execOp, hx, hy, eqGuard, str, binOp, Op.stringOp, less_eq, ltB_gt]
end ops
end Go.Lx

/- A function that compares two structs part by part, walked with the kit's own tactics. Conditions: none. -/
namespace Go.Proofs
open Go Go.Md Go.Vc Go.Lx
theorem Tryz.isNaNS (x : List UInt8) (w : World) : Calls Tryz.prog 109 #[.string ⟨x.toArray⟩] w fun e w' => e = .returned (.bool false) ∧ w' = w := by
 go_enter Tryz.func109, Tryz.ntmps109
 go_wp2
 go_ret
 exact ⟨by simp, rfl⟩
def cS (x y : List UInt8) : Int := if ltB x y = true then -1 else if ltB y x = true then 1 else 0
set_option maxHeartbeats 1000000 in
theorem Tryz.cmpStr (x y : List UInt8) (w : World) : Calls Tryz.prog 82 #[.string ⟨x.toArray⟩, .string ⟨y.toArray⟩] w fun e w' => e = .returned (.int .i64 (cS x y)) ∧ w' = w := by
 go_enter Tryz.func82, Tryz.ntmps82
 go_wp2_with (go_at_call 109; refine (Tryz.isNaNS _ _).mono ?_; rintro e w' ⟨rfl, hw⟩; rw [hw])
 all_goals (go_ret; refine ⟨?_, rfl⟩; unfold cS; have hg := ltB_gt x y; by_cases hxy : x = y <;> simp_all [less_eq] <;> (rw [beq_eq_false_iff_ne.mpr hxy] at hg; simpa using hg.symm))
theorem Tryz.cmpOrF (blk : Nat) (v0 v1 v2 v3 v4 r : Int) (hr0 : v0 ≠ 0 → r = v0) (hr1 : v0 = 0 → v1 ≠ 0 → r = v1) (hr2 : v0 = 0 → v1 = 0 → v2 ≠ 0 → r = v2) (hr3 : v0 = 0 → v1 = 0 → v2 = 0 → v3 ≠ 0 → r = v3) (hr4 : v0 = 0 → v1 = 0 → v2 = 0 → v3 = 0 → r = v4) (w : World) (g0 : w.cell? ⟨blk, 0, none⟩ = some (.int .i64 v0)) (g1 : w.cell? ⟨blk, 1, none⟩ = some (.int .i64 v1)) (g2 : w.cell? ⟨blk, 2, none⟩ = some (.int .i64 v2)) (g3 : w.cell? ⟨blk, 3, none⟩ = some (.int .i64 v3)) (g4 : w.cell? ⟨blk, 4, none⟩ = some (.int .i64 v4)) :
  Calls Tryz.prog 80 #[.slice (some ⟨blk, 0, none⟩) 5 5] w fun e w' => e = .returned (.int .i64 r) ∧ w' = w := by
 go_enter Tryz.func80, Tryz.ntmps80
 go_wp2
 go_loop [8] (fun i => (i = .int .i64 0) ∨ (i = .int .i64 1 ∧ v0 = 0) ∨ (i = .int .i64 2 ∧ v0 = 0 ∧ v1 = 0) ∨ (i = .int .i64 3 ∧ v0 = 0 ∧ v1 = 0 ∧ v2 = 0) ∨ (i = .int .i64 4 ∧ v0 = 0 ∧ v1 = 0 ∧ v2 = 0 ∧ v3 = 0) ∨ (i = .int .i64 5 ∧ v0 = 0 ∧ v1 = 0 ∧ v2 = 0 ∧ v3 = 0 ∧ v4 = 0)) (fun i => match i with | .int _ q => 5 - q.toNat | _ => 0)
 case atStart => exact .inl rfl
 case round =>
  rcases hrel with rfl | ⟨rfl, z0⟩ | ⟨rfl, z0, z1⟩ | ⟨rfl, z0, z1, z2⟩ | ⟨rfl, z0, z1, z2, z3⟩ | ⟨rfl, z0, z1, z2, z3, z4⟩
  ·go_wp2
   all_goals first
    | (go_ret; exact ⟨by first | rfl | (rw [hr0  (by simp_all)]; rfl), rfl⟩)
    | (simp; rename_i hz; exact by simpa using hz)
  ·go_wp2
   all_goals first
    | (go_ret; exact ⟨by first | rfl | (rw [hr1 z0 (by simp_all)]; rfl), rfl⟩)
    | (simp; rename_i hz; exact ⟨z0, by simpa using hz⟩)
  ·go_wp2
   all_goals first
    | (go_ret; exact ⟨by first | rfl | (rw [hr2 z0 z1 (by simp_all)]; rfl), rfl⟩)
    | (simp; rename_i hz; exact ⟨z0, z1, by simpa using hz⟩)
  ·go_wp2
   all_goals first
    | (go_ret; exact ⟨by first | rfl | (rw [hr3 z0 z1 z2 (by simp_all)]; rfl), rfl⟩)
    | (simp; rename_i hz; exact ⟨z0, z1, z2, by simpa using hz⟩)
  ·go_wp2
   all_goals first
    | (go_ret; exact ⟨by first | rfl | (rw [hr4 z0 z1 z2 z3]; rfl), rfl⟩)
    | (simp; rename_i hz; exact ⟨z0, z1, z2, z3, by simpa using hz⟩)
  ·go_wp2
   go_ret
   exact ⟨by first | rfl | (rw [hr4 z0 z1 z2 z3, z4]; rfl) | simp_all, rfl⟩
open Go.Sort
set_option maxRecDepth 100000 in
set_option maxHeartbeats 4000000 in
theorem Tryz.closureF (a0 a1 a2 a3 a4 a6 b0 b1 b2 b3 b4 b6 r : Int) (a5 a7 b5 b7 : List UInt8) (W : World) (hcmp : ∀ (x y : Int) (W' : World), Calls Tryz.prog 81 #[.int .i64 x, .int .i64 y] W' fun e w' => e = .returned (.int .i64 (Lib.compareInt x y)) ∧ w' = W')
  (hr0 : (Lib.compareInt a3 b3) ≠ 0 → r = (Lib.compareInt a3 b3)) (hr1 : (Lib.compareInt a3 b3) = 0 → (Lib.compareInt a4 b4) ≠ 0 → r = (Lib.compareInt a4 b4)) (hr2 : (Lib.compareInt a3 b3) = 0 → (Lib.compareInt a4 b4) = 0 → (cS a5 b5) ≠ 0 → r = (cS a5 b5)) (hr3 : (Lib.compareInt a3 b3) = 0 → (Lib.compareInt a4 b4) = 0 → (cS a5 b5) = 0 → (Lib.compareInt a0 b0) ≠ 0 → r = (Lib.compareInt a0 b0)) (hr4 : (Lib.compareInt a3 b3) = 0 → (Lib.compareInt a4 b4) = 0 → (cS a5 b5) = 0 → (Lib.compareInt a0 b0) = 0 → r = (Lib.compareInt a1 b1)) :
  Calls Tryz.prog 53 #[.agg #[.int .i64 a0, .int .i64 a1, .int .i64 a2, .int .i64 a3, .int .i64 a4, .string ⟨a5.toArray⟩, .int .i64 a6, .string ⟨a7.toArray⟩], .agg #[.int .i64 b0, .int .i64 b1, .int .i64 b2, .int .i64 b3, .int .i64 b4, .string ⟨b5.toArray⟩, .int .i64 b6, .string ⟨b7.toArray⟩]] W fun e w' => e = .returned (.int .i64 r) ∧ ∃ q os', w' = Go.Sort.grow (W.drewN q) os' := by
 have h0 := fun W' => hcmp a3 b3 W'
 have h1 := fun W' => hcmp a4 b4 W'
 have h2 := fun W' => Tryz.cmpStr a5 b5 W'
 have h3 := fun W' => hcmp a0 b0 W'
 have h4 := fun W' => hcmp a1 b1 W'
 have hor := fun (blk : Nat) (w : World) g0 g1 g2 g3 g4 => Tryz.cmpOrF blk (Lib.compareInt a3 b3) (Lib.compareInt a4 b4) (cS a5 b5) (Lib.compareInt a0 b0) (Lib.compareInt a1 b1) r hr0 hr1 hr2 hr3 hr4 w g0 g1 g2 g3 g4
 clear hr0 hr1 hr2 hr3 hr4 hcmp
 generalize Lib.compareInt a3 b3 = p0 at *
 generalize Lib.compareInt a4 b4 = p1 at *
 generalize cS a5 b5 = p2 at *
 generalize Lib.compareInt a0 b0 = p3 at *
 generalize Lib.compareInt a1 b1 = p4 at *
 go_enter Tryz.func53, Tryz.ntmps53
 go_wp2
 refine wp_region_still_tail 29 (by kernel_rfl) (by kernel_rfl) ?_
 simp only [List.take_succ_cons, List.take_zero, List.drop_succ_cons, List.drop_zero]
 generalize hw1 : ({ heap := _, tape := _, drawn := _, os := _, output := _ } : World) = w1
 have eh : w1.heap = (W.heap.push (.cells #[.int .i64 a0, .int .i64 a1, .int .i64 a2, .int .i64 a3, .int .i64 a4, .string ⟨a5.toArray⟩, .int .i64 a6, .string ⟨a7.toArray⟩] 52 (0, 0))).push (.cells #[.int .i64 b0, .int .i64 b1, .int .i64 b2, .int .i64 b3, .int .i64 b4, .string ⟨b5.toArray⟩, .int .i64 b6, .string ⟨b7.toArray⟩] 52 (0, 0)) := by subst hw1; rfl
 have c0 : w1.cell? ⟨W.heap.size, 3, none⟩ = some (.int .i64 a3) := by simp [World.cell?, eh, Array.getElem?_push, Array.getElem_push]
 have c1 : w1.cell? ⟨W.heap.size, 4, none⟩ = some (.int .i64 a4) := by simp [World.cell?, eh, Array.getElem?_push, Array.getElem_push]
 have c2 : w1.cell? ⟨W.heap.size, 5, none⟩ = some (.string ⟨a5.toArray⟩) := by simp [World.cell?, eh, Array.getElem?_push, Array.getElem_push]
 have c3 : w1.cell? ⟨W.heap.size, 0, none⟩ = some (.int .i64 a0) := by simp [World.cell?, eh, Array.getElem?_push, Array.getElem_push]
 have c4 : w1.cell? ⟨W.heap.size, 1, none⟩ = some (.int .i64 a1) := by simp [World.cell?, eh, Array.getElem?_push, Array.getElem_push]
 have c5 : w1.cell? ⟨W.heap.size + 1, 3, none⟩ = some (.int .i64 b3) := by simp [World.cell?, eh, Array.getElem?_push, Array.getElem_push]
 have c6 : w1.cell? ⟨W.heap.size + 1, 4, none⟩ = some (.int .i64 b4) := by simp [World.cell?, eh, Array.getElem?_push, Array.getElem_push]
 have c7 : w1.cell? ⟨W.heap.size + 1, 5, none⟩ = some (.string ⟨b5.toArray⟩) := by simp [World.cell?, eh, Array.getElem?_push, Array.getElem_push]
 have c8 : w1.cell? ⟨W.heap.size + 1, 0, none⟩ = some (.int .i64 b0) := by simp [World.cell?, eh, Array.getElem?_push, Array.getElem_push]
 have c9 : w1.cell? ⟨W.heap.size + 1, 1, none⟩ = some (.int .i64 b1) := by simp [World.cell?, eh, Array.getElem?_push, Array.getElem_push]
 have hg : ∃ q os', w1 = Go.Sort.grow (W.drewN q) os' := ⟨1, #[.cells #[.int .i64 a0, .int .i64 a1, .int .i64 a2, .int .i64 a3, .int .i64 a4, .string ⟨a5.toArray⟩, .int .i64 a6, .string ⟨a7.toArray⟩] 52 (0, 0), .cells #[.int .i64 b0, .int .i64 b1, .int .i64 b2, .int .i64 b3, .int .i64 b4, .string ⟨b5.toArray⟩, .int .i64 b6, .string ⟨b7.toArray⟩] 52 (0, 0)], by
  subst hw1
  unfold Go.Sort.grow World.drewN
  congr 1⟩
 clear eh
 clear hw1
 repeat still_step
 still_call (h0 w1)
 repeat still_step
 still_call (h1 w1)
 repeat still_step
 still_call (h2 w1)
 repeat still_step
 still_call (h3 w1)
 repeat still_step
 still_call (h4 w1)
 repeat still_step
 refine wpStill_nil ?_
 clear c0 c1 c2 c3 c4 c5 c6 c7 c8 c9 h0 h1 h2 h3 h4
 have e0 : (w1.alloc (.cells #[.int .i64 p0, .int .i64 p1, .int .i64 p2, .int .i64 p3, .int .i64 p4] 3)).cell? ⟨w1.heap.size, 0, none⟩ = some (.int .i64 p0) := by
  show (match (w1.heap.push (.cells #[.int .i64 p0, .int .i64 p1, .int .i64 p2, .int .i64 p3, .int .i64 p4] 3 (0, 0)))[w1.heap.size]? with | some (.cells c _ _) => c[0]? | _ => none) = _
  simp
 have e1 : (w1.alloc (.cells #[.int .i64 p0, .int .i64 p1, .int .i64 p2, .int .i64 p3, .int .i64 p4] 3)).cell? ⟨w1.heap.size, 1, none⟩ = some (.int .i64 p1) := by
  show (match (w1.heap.push (.cells #[.int .i64 p0, .int .i64 p1, .int .i64 p2, .int .i64 p3, .int .i64 p4] 3 (0, 0)))[w1.heap.size]? with | some (.cells c _ _) => c[1]? | _ => none) = _
  simp
 have e2 : (w1.alloc (.cells #[.int .i64 p0, .int .i64 p1, .int .i64 p2, .int .i64 p3, .int .i64 p4] 3)).cell? ⟨w1.heap.size, 2, none⟩ = some (.int .i64 p2) := by
  show (match (w1.heap.push (.cells #[.int .i64 p0, .int .i64 p1, .int .i64 p2, .int .i64 p3, .int .i64 p4] 3 (0, 0)))[w1.heap.size]? with | some (.cells c _ _) => c[2]? | _ => none) = _
  simp
 have e3 : (w1.alloc (.cells #[.int .i64 p0, .int .i64 p1, .int .i64 p2, .int .i64 p3, .int .i64 p4] 3)).cell? ⟨w1.heap.size, 3, none⟩ = some (.int .i64 p3) := by
  show (match (w1.heap.push (.cells #[.int .i64 p0, .int .i64 p1, .int .i64 p2, .int .i64 p3, .int .i64 p4] 3 (0, 0)))[w1.heap.size]? with | some (.cells c _ _) => c[3]? | _ => none) = _
  simp
 have e4 : (w1.alloc (.cells #[.int .i64 p0, .int .i64 p1, .int .i64 p2, .int .i64 p3, .int .i64 p4] 3)).cell? ⟨w1.heap.size, 4, none⟩ = some (.int .i64 p4) := by
  show (match (w1.heap.push (.cells #[.int .i64 p0, .int .i64 p1, .int .i64 p2, .int .i64 p3, .int .i64 p4] 3 (0, 0)))[w1.heap.size]? with | some (.cells c _ _) => c[4]? | _ => none) = _
  simp
 have hor2 := hor _ _ e0 e1 e2 e3 e4
 clear hor e0 e1 e2 e3 e4
 go_wp2_with (go_at_call 80; refine hor2.mono ?_; rintro e w' ⟨rfl, rfl⟩)
 go_ret
 obtain ⟨q0, os0, rfl⟩ := hg
 exact ⟨rfl, q0, os0 ++ #[.cells #[.int .i64 p0, .int .i64 p1, .int .i64 p2, .int .i64 p3, .int .i64 p4] 3 (0, 0)], by rw [Go.Sort.alloc_eq_grow, Go.Sort.grow_grow]⟩
end Go.Proofs

/- Functions that compare two structs against their models. Conditions: none. -/
namespace Go.Proofs
open Go Go.Md Go.M Go.Vc Go.Lx
theorem Tryz.compare_model (a b : Int) : cmp_Compare_int a b = some (Lib.compareInt a b) := by
 unfold cmp_Compare_int Wf Lib.compareInt
 simp only [Jg, ne_eq, not_true_eq_false, decide_false, Jk]
 by_cases h1 : a < b
 ·simp [h1]
 ·by_cases h2 : b < a <;> simp [h1, h2]
theorem Tryz.compare_modelS (a b : List UInt8) : W1 a b = some (cS a b) := by
 unfold W1 Uu cS
 simp only [Jg, ne_eq, not_true_eq_false, decide_false, Jk]
 by_cases h1 : ltB a b = true
 ·simp [h1]
 ·by_cases h2 : ltB b a = true <;> simp [h1, h2]
theorem Tryz.or_model3 (p0 p1 p2 : Int) : W3 [p0, p1, p2] = some (if p0 ≠ 0 then p0 else if p1 ≠ 0 then p1 else p2) := by
 unfold W3
 by_cases h0 : p0 = 0
 ·subst h0
  rw [Yu (b := (1 : Int)) (fun next => by simp [Qb, Qn, gI])]
  by_cases h1 : p1 = 0
  ·subst h1
   rw [Yu (b := (2 : Int)) (fun next => by simp [Qb, Qn, gI])]
   by_cases h2 : p2 = 0
   ·subst h2
    rw [Yu (b := (3 : Int)) (fun next => by simp [Qb, Qn, gI])]
    rw [Yq (o := some 0) (fun next => by simp [Qb])]
    simp
   ·rw [Yq (o := some p2) (fun next => by simp [Qb, Qn, h2])]
    simp [h2]
  ·rw [Yq (o := some p1) (fun next => by simp [Qb, Qn, h1])]
   simp [h1]
 ·rw [Yq (o := some p0) (fun next => by simp [Qb, Qn, h0])]
  simp [h0]
theorem Tryz.or_model5 (p0 p1 p2 p3 p4 : Int) : W3 [p0, p1, p2, p3, p4] = some (if p0 ≠ 0 then p0 else if p1 ≠ 0 then p1 else if p2 ≠ 0 then p2 else if p3 ≠ 0 then p3 else p4) := by
 unfold W3
 by_cases h0 : p0 = 0
 ·subst h0
  rw [Yu (b := (1 : Int)) (fun next => by simp [Qb, Qn, gI])]
  by_cases h1 : p1 = 0
  ·subst h1
   rw [Yu (b := (2 : Int)) (fun next => by simp [Qb, Qn, gI])]
   by_cases h2 : p2 = 0
   ·subst h2
    rw [Yu (b := (3 : Int)) (fun next => by simp [Qb, Qn, gI])]
    by_cases h3 : p3 = 0
    ·subst h3
     rw [Yu (b := (4 : Int)) (fun next => by simp [Qb, Qn, gI])]
     by_cases h4 : p4 = 0
     ·subst h4
      rw [Yu (b := (5 : Int)) (fun next => by simp [Qb, Qn, gI])]
      rw [Yq (o := some 0) (fun next => by simp [Qb])]
      simp
     ·rw [Yq (o := some p4) (fun next => by simp [Qb, Qn, h4])]
      simp [h4]
    ·rw [Yq (o := some p3) (fun next => by simp [Qb, Qn, h3])]
     simp [h3]
   ·rw [Yq (o := some p2) (fun next => by simp [Qb, Qn, h2])]
    simp [h2]
  ·rw [Yq (o := some p1) (fun next => by simp [Qb, Qn, h1])]
   simp [h1]
 ·rw [Yq (o := some p0) (fun next => by simp [Qb, Qn, h0])]
  simp [h0]
theorem Tryz.facts_model (x y : T_sync_Fact) : Xk x y = some (if Lib.compareInt x.Kind y.Kind ≠ 0 then Lib.compareInt x.Kind y.Kind else if Lib.compareInt x.Id y.Id ≠ 0 then Lib.compareInt x.Id y.Id else if cS x.Name y.Name ≠ 0 then cS x.Name y.Name else if Lib.compareInt x.Dot.Device y.Dot.Device ≠ 0 then Lib.compareInt x.Dot.Device y.Dot.Device else Lib.compareInt x.Dot.N y.Dot.N) := by
 unfold Xk
 rw [Tryz.compare_model, Jg, Tryz.compare_model, Jg, Tryz.compare_modelS, Jg, Tryz.compare_model, Jg, Tryz.compare_model, Jg, Tryz.or_model5, Jg]
theorem Tryz.cmpF (x y : T_sync_Fact) (v : Int) (W : World) (hv : Xk x y = some v) :
  Calls Tryz.prog 53 #[.agg #[.int .i64 x.Dot.Device, .int .i64 x.Dot.N, .int .i64 x.Time, .int .i64 x.Kind, .int .i64 x.Id, .string ⟨x.Name.toArray⟩, .int .i64 x.Num, .string ⟨x.Text.toArray⟩], .agg #[.int .i64 y.Dot.Device, .int .i64 y.Dot.N, .int .i64 y.Time, .int .i64 y.Kind, .int .i64 y.Id, .string ⟨y.Name.toArray⟩, .int .i64 y.Num, .string ⟨y.Text.toArray⟩]] W fun e w' => e = .returned (.int .i64 v) ∧ ∃ q os', w' = Go.Sort.grow (W.drewN q) os' := by
 rw [Tryz.facts_model] at hv
 cases hv
 refine Tryz.closureF x.Dot.Device x.Dot.N x.Time x.Kind x.Id x.Num y.Dot.Device y.Dot.N y.Time y.Kind y.Id y.Num _ x.Name x.Text y.Name y.Text W (fun a b W' => ?_) (fun  g0 => by rw [if_pos g0]) (fun g0 g1 => by rw [if_neg (by simpa using g0), if_pos g1]) (fun g0 g1 g2 => by rw [if_neg (by simpa using g0), if_neg (by simpa using g1), if_pos g2]) (fun g0 g1 g2 g3 => by rw [if_neg (by simpa using g0), if_neg (by simpa using g1), if_neg (by simpa using g2), if_pos g3]) (fun g0 g1 g2 g3 => by rw [if_neg (by simpa using g0), if_neg (by simpa using g1), if_neg (by simpa using g2), if_neg (by simpa using g3)])
 exact AnyG.cmp_Compare_int Tryz.cmpI81 a b W'
theorem Tryz.entersF (args : Array Value) (w : World) : (callFunc 53 args).run Tryz.prog w = .ok (.enter 53 args) w := enters_of Tryz.func53 (by kernel_rfl) rfl args w
end Go.Proofs

/- The kit's contracts of decimal numerals, of octets in strings, of strings.Repeat and strings.Join, in our words; tables among the package's variables. Conditions: none. -/
namespace Go.Lx
open Go Go.Vc Go.Md Go.Shelf Go.Proofs
theorem ixB_lib (l : List UInt8) (c : UInt8) : ixB l c = Lib.indexByte l c := by
 induction l with
 | nil => rfl
 | cons b l ih => simp only [ixB, Lib.indexByte, ih, beq_iff_eq]
theorem run_ixB {P : Program} {s : List UInt8} {c r : Int} (h : gIxB s c = some r) (w : World) : (Extern.BytealgIndexByte.indexByte #[str s, .int .u8 c]).run P w = .ok (.int .i64 r) w := by
 cases h
 rw [Lib.run_indexByteString, ixB_lib]
def TabH (P : Program) (h : J3) (name : String) (k : IntKind) (zs : List Int) : Prop := ∃ g T m, P.globalNamed name = some g ∧ h g = some (.cells (zs.map fun z => Value.int k z).toArray T m)
theorem TabH.mono {P : Program} {h h' : J3} {name : String} {k : IntKind} {zs : List Int} (t : TabH P h name k zs) (hh : ∀ b o, h b = some o → h' b = some o) : TabH P h' name k zs := by
 obtain ⟨g, T, m, h1, h2⟩ := t
 exact ⟨g, T, m, h1, hh _ _ h2⟩
end Go.Lx

/- Rules: loops that go a known number of rounds; slices of three pointers to new memory, or nil. Conditions: none. -/
namespace Go.Lx
open Go Go.Vc Go.Md
structure RC (P : Program) (n : Nat) (c : Code) (Q : Ue) (m : Nat) (e : X5) (w : World) : Prop where
 out : ∀ a, Sim n a e → Code.rounds P c (lift n Q) m a w
section rules
variable {P : Program} {n : Nat} {Q : Ue} {cx : Cx} {K : X5 → World → Prop} {e : X5} {L : List Chunk}
theorem c_loopR {c : Code} (m : Nat) (h : At cx (RC P n c Q m) e L) : At cx (WC P n (.loop c) Q) e L :=
 ⟨fun w hF hS => ⟨fun a ha => wp_loop_rounds m ((h.out w hF hS).out a ha)⟩⟩
theorem c_round {c : Code} {m : Nat} (h : At cx (WC P n c (ThenQ (RC P n c Q m) Q)) e L) : At cx (RC P n c Q (m + 1)) e L :=
 ⟨fun w hF hS => ⟨fun a ha => by
  show c.wp P (Exit.then (Code.rounds P c (lift n Q) m) (lift n Q)) a w
  exact Code.wp_mono (fun x' a' w' hq => by
   obtain ⟨e', hs, hq⟩ := hq
   cases x' <;> first | exact ⟨e', hs, hq⟩ | exact hq.out a' hs) ((h.out w hF hS).out a ha)⟩⟩
abbrev e_ptr (a : Option Addr) : List Value := [.pointer a]
end rules
end Go.Lx
