/- Rules: facts that are carried as chunks which own nothing; functions as results; copies into rows; arrays out of slices. Conditions: none. -/
import Derived.Test.YthhaabhnlndnoaaGreatLx9
import Derived.Test.YthhaabhnlndnoaaGreatMd3
import Derived.Laws.CopyRow
import Derived.Laws.IdiomCopy
namespace Go.Lx
open Go Go.Vc Go.Md

/-- A fact, as a chunk that owns nothing. -/
def factC (φ : Prop) : Chunk where
  P S _ := (∀ b, ¬ S b) ∧ φ
  loc _ _ _ _ h := h

section rules
variable {cx : Cx} {K : Env → World → Prop} {e : Env} {L : List Chunk}

theorem c_fact {φ : Prop} (i : Nat) (hL : L[i]? = some (factC φ)) (k : φ → At cx K e L) : At cx K e L :=
  ⟨fun w hF hS => by
    obtain ⟨S, hp, _⟩ := hS.at hL
    exact (k hp.2).out w hF hS⟩

theorem c_addFact {φ : Prop} (h : φ) (k : At cx K e (L ++ [factC φ])) : At cx K e L :=
  ⟨fun w hF hS => k.out w hF (hS.snoc hF (Grow.refl w) (S := noS) ⟨fun _ h => h, h⟩ (fun _ h => h.elim))⟩

end rules

/-- A function that may be nil, and that leans on no memory. -/
def FnV {μ : Type} (P : Program) (v : Value) (m : Option μ) (R : μ → World → List Value → (Value → World → Prop) → Prop) : Prop := (m = none ∧ v = .nilFunc) ∨ ∃ g, m = some g ∧ ∀ h, FnH P h v (R g)

theorem FnV.nil {μ : Type} {P : Program} {R : μ → World → List Value → (Value → World → Prop) → Prop} : FnV P .nilFunc none R := .inl ⟨rfl, rfl⟩
theorem FnV.mk {μ : Type} {P : Program} {v : Value} {g : μ} {R : μ → World → List Value → (Value → World → Prop) → Prop} (h : ∀ h, FnH P h v (R g)) : FnV P v (some g) R := .inr ⟨g, rfl, h⟩
theorem FnV.cells {μ : Type} {P : Program} {v : Value} {m : Option μ} {R : μ → World → List Value → (Value → World → Prop) → Prop} (f : FnV P v m R) : v.cells.toList = [v] := by
  rcases f with ⟨_, rfl⟩ | ⟨g, _, f⟩
  · rfl
  · exact (f fun _ => none).cells
theorem FnV.one {μ : Type} {P : Program} {v : Value} {m : Option μ} {R : μ → World → List Value → (Value → World → Prop) → Prop} (f : FnV P v m R) : v.oneCell' = true := by
  rcases f with ⟨_, rfl⟩ | ⟨g, _, f⟩
  · rfl
  · exact (f fun _ => none).one
theorem FnV.fn {μ : Type} {P : Program} {v : Value} {m : Option μ} {g : μ} {R : μ → World → List Value → (Value → World → Prop) → Prop} (f : FnV P v m R) (hm : m = some g) (h : Heap) : FnH P h v (R g) := by
  rcases f with ⟨h1, _⟩ | ⟨g', h1, f⟩
  · rw [hm] at h1; cases h1
  · rw [hm] at h1; cases h1; exact f h

section ops
variable {P : Program} {e : Env} {d : Option Nat} {ty : TypeId} {pos : String} {af : Array Edge} {g : Option (Nat × Bool)}

theorem eq_nilFn {μ : Type} {v : Value} {m : Option μ} {R : μ → World → List Value → (Value → World → Prop) → Prop} {t : TypeId} {a1 a2 a3} (ht : P.underlying t = some (.func a1 a2 a3)) (f : FnV P v m R) (n : Nat) (w : World) : (Op.equalIn (n + 1) t v .nilFunc).run P w = .ok m.isNone w := by
  rcases f with ⟨rfl, rfl⟩ | ⟨g, rfl, f⟩
  · simp [Op.equalIn, run_underlying ht]
  · obtain ⟨g, pre, caps, rfl, _⟩ := (f fun _ => none).out
    simp [Op.equalIn, run_underlying ht]

theorem r_eqlFn {μ : Type} {X Y : Operand} {v : Value} {m : Option μ} {R : μ → World → List Value → (Value → World → Prop) → Prop} {t t' : TypeId} {a1 a2 a3} (ht : P.underlying t = some (.func a1 a2 a3)) (hx : ev e X = v) (hy : ev e Y = .nilFunc) (f : FnV P v m R) (w : World) :
    (execOp (ev e) ⟨d, .binOp .eql t X Y t', ty, pos, af, g⟩).run P w = .ok (.value (.bool m.isNone)) w := by
  have h0 := eq_nilFn (P := P) ht f 9999 w
  rcases f with ⟨rfl, rfl⟩ | ⟨g, rfl, f⟩
  · simp [execOp, hx, hy, eqGuard, binOp, Op.equal, Op.maxDepth, h0]
  · obtain ⟨g, pre, caps, rfl, _⟩ := (f fun _ => none).out
    simp [execOp, hx, hy, eqGuard, binOp, Op.equal, Op.maxDepth, h0]

theorem r_neqFn {μ : Type} {X Y : Operand} {v : Value} {m : Option μ} {R : μ → World → List Value → (Value → World → Prop) → Prop} {t t' : TypeId} {a1 a2 a3} (ht : P.underlying t = some (.func a1 a2 a3)) (hx : ev e X = v) (hy : ev e Y = .nilFunc) (f : FnV P v m R) (w : World) :
    (execOp (ev e) ⟨d, .binOp .neq t X Y t', ty, pos, af, g⟩).run P w = .ok (.value (.bool m.isSome)) w := by
  have h0 := eq_nilFn (P := P) ht f 9999 w
  rcases f with ⟨rfl, rfl⟩ | ⟨g, rfl, f⟩
  · simp [execOp, hx, hy, eqGuard, binOp, Op.equal, Op.maxDepth, h0]
  · obtain ⟨g, pre, caps, rfl, _⟩ := (f fun _ => none).out
    simp [execOp, hx, hy, eqGuard, binOp, Op.equal, Op.maxDepth, h0]

/-- A field of a struct's value. -/
theorem r_fieldV {X : Operand} {T fld ft fo : Nat} {nm tg pk : String} {em : Bool} {bo : Nat} {fs : Array Field} {cs : Array Value} {v : Value} (hu : ∀ w, (underlying T).run P w = .ok (.struct fs) w) (hA : ∀ w, (isAgg ft).run P w = .ok false w)
    (hx : ev e X = .agg cs) (hf : fs[fld]? = some ⟨nm, ft, fo, em, tg, pk, bo⟩) (hv : cs[fo]? = some v) (w : World) :
    (execOp (ev e) ⟨d, .field T X fld, ty, pos, af, g⟩).run P w = .ok (.value v) w := by
  simp [execOp, Instr.field, hx, hu, hf, asAgg, part, hA, hv]
theorem r_fieldVN {X : Operand} {T fld ft fo sz : Nat} {nm tg pk : String} {em : Bool} {bo : Nat} {fs : Array Field} {cs : Array Value} {vs : Array Value} (hu : ∀ w, (underlying T).run P w = .ok (.struct fs) w) (hA : ∀ w, (isAgg ft).run P w = .ok true w) (hs : ∀ w, (sizeOf ft).run P w = .ok sz w)
    (hx : ev e X = .agg cs) (hf : fs[fld]? = some ⟨nm, ft, fo, em, tg, pk, bo⟩) (hv : cs.extract fo (fo + sz) = vs) (w : World) :
    (execOp (ev e) ⟨d, .field T X fld, ty, pos, af, g⟩).run P w = .ok (.value (.agg vs)) w := by
  simp [execOp, Instr.field, hx, hu, hf, asAgg, part, hA, hs, hv]

theorem run_eqIntsC {dp t u len : Nat} {k k' : IntKind} (x y : Nat → Int) (ht : P.underlying t = some (.array len u)) (hu : P.underlying u = some (.int k')) (hA : ∀ w, (isAgg u).run P w = .ok false w) (hs : ∀ w, (sizeOf u).run P w = .ok 1 w) (w : World) :
    (Op.equalIn (dp + 2) t (.agg (arrC len fun j => [.int k (x j)]).toArray) (.agg (arrC len fun j => [.int k (y j)]).toArray)).run P w = .ok (decide ((List.range len).map x = (List.range len).map y)) w := by
  have e1 : ∀ z : Nat → Int, arrC len (fun j => [Value.int k (z j)]) = ((List.range len).map z).map (Value.int k) := fun z => by
    rw [List.map_map, List.map_eq_flatMap]; rfl
  rw [e1 x, e1 y]
  exact run_eqInts (d := dp) (len := len) (k := k) (k' := k') _ _ (by simp) (by simp) ht hu hA hs w

/-- A slice as an array: the pointer to its cells. -/
theorem r_sap {X : Operand} {arr n u m c : Nat} {a : Option Addr} (hu : ∀ w, (underlying arr).run P w = .ok (.array n u) w) (hx : ev e X = .slice a m c) (hm : n ≤ m) (w : World) :
    (execOp (ev e) ⟨d, .sliceToArrayPointer arr X, ty, pos, af, g⟩).run P w = .ok (.value (.pointer a)) w := by
  have : ¬ m < n := by omega
  simp [execOp, Instr.arrayAt, hx, hu, this]

/-- The load of an array off a slice's cells. -/
theorem run_loadSA {α : Type} [Inhabited α] {T n k sz : Nat} {a : Option Addr} {A : Operand} {f : α → List Value} {xs : List α} {vs : List Value} {w : World} (hA : ∀ w, (isAgg T).run P w = .ok true w) (hs : ∀ w, (sizeOf T).run P w = .ok k w)
    (hp : ev e A = .pointer a) (hr : Row w a sz (xs.map f)) (hn : n ≤ xs.length) (hpos : Nat.blt 0 n = true) (hk : n * sz = k) (hf : ∀ x, (f x).length = sz) (hv : ((List.range n).map fun j => f (ofL xs j)).flatten = vs) :
    (execOp (ev e) ⟨d, .load T A, ty, pos, af, g⟩).run P w = .ok (.value (.agg vs.toArray)) w := by
  have hpos' : 0 < n := by simpa using hpos
  have e1 : ((List.range n).map fun j => f (ofL xs j)) = (xs.take n).map f := by
    apply List.ext_getElem
    · simp; omega
    · intro j h1 h2
      simp only [List.length_map, List.length_range] at h1
      simp only [List.getElem_map, List.getElem_range, List.getElem_take, ofL, List.getD_eq_getElem?_getD, List.getElem?_eq_getElem (show j < xs.length by omega), Option.getD_some]
  have hlen : ∀ x ∈ (xs.take n).map f, x.length = sz := fun x hx => by
    obtain ⟨y, _, rfl⟩ := List.mem_map.1 hx; exact hf y
  have hl : vs.length = k := by
    rw [← hv, e1, flat_len (sz := sz) _ hlen, List.length_map, List.length_take, Nat.min_eq_left hn, hk]
  rcases hr with hr | ⟨b, off, rfl, hr⟩
  · have : xs.length = 0 := by simpa using congrArg List.length hr
    omega
  · have hget : ∀ j v, vs[j]? = some v → w.cell? ⟨b, off + j, none⟩ = some v := by
      intro j v hj
      rw [← hv, e1] at hj
      obtain ⟨i, q, x, hx, hq, rfl⟩ := flat_get _ hlen j v hj
      have hx' : (xs.map f)[i]? = some x := by
        rw [List.map_take, List.getElem?_take] at hx
        split at hx
        · exact hx
        · cases hx
      have := (hr i x hx').2 q v hq
      rw [← Nat.add_assoc]; exact this
    have := run_loadVar_agg (P := P) (w := w) hA hs hl hget
    simp [execOp, Instr.loadAt, Instr.sureAddr, hp, this]

/-- All of an array that a pointer leads to. -/
theorem r_sliceArrAll {X : Operand} {t el n b o sz : Nat} (ht : P.underlying t = some (.array n el)) (hs : ∀ w, (sizeOf el).run P w = .ok sz w)
    (hx : ev e X = .pointer (some ⟨b, o, none⟩)) (w : World) :
    (execOp (ev e) ⟨d, .slice t X none none none, ty, pos, af, g⟩).run P w = .ok (.value (.slice (some ⟨b, o, none⟩) n n)) w := by
  have e1 : P.arrayLen t = n := by simp [Program.arrayLen, ht]
  have e2 : P.elem t = el := by simp [Program.elem, ht]
  have ht' : P.underlying t = some (.array (P.arrayLen t) (P.elem t)) := by rw [e1, e2]; exact ht
  simp only [execOp, Option.map_none, hx, Sem.run_bind, run_sliceAt_array_all w t ⟨b, o, none⟩ ht', e1, e2, hs, Result.andThen_ok, Sem.run_pure, slicedAt, Nat.sub_zero, Nat.zero_mul, Addr.add_lit, Nat.add_zero, ite_self]

end ops

theorem flat1_take {α : Type} {f : α → List Value} (hf : ∀ x, (f x).length = 1) : ∀ (l : List α) (k : Nat), ((l.map f).flatten).take k = ((l.take k).map f).flatten
  | [], k => by simp
  | x :: r, 0 => by simp
  | x :: r, k + 1 => by
    have h1 := hf x
    obtain ⟨y, hy⟩ := List.length_eq_one_iff.1 h1
    simp only [List.map_cons, List.flatten_cons, List.take_succ_cons, hy, List.singleton_append]
    rw [flat1_take hf r k]
theorem flat1_drop {α : Type} {f : α → List Value} (hf : ∀ x, (f x).length = 1) : ∀ (l : List α) (k : Nat), ((l.map f).flatten).drop k = ((l.drop k).map f).flatten
  | [], k => by simp
  | x :: r, 0 => by simp
  | x :: r, k + 1 => by
    have h1 := hf x
    obtain ⟨y, hy⟩ := List.length_eq_one_iff.1 h1
    simp only [List.map_cons, List.flatten_cons, List.drop_succ_cons, hy, List.singleton_append]
    rw [flat1_drop hf r k]
theorem flat1_len {α : Type} {f : α → List Value} (hf : ∀ x, (f x).length = 1) (l : List α) : ((l.map f).flatten).length = l.length := by
  rw [flat_len (sz := 1) _ (fun x hx => by obtain ⟨y, _, rfl⟩ := List.mem_map.1 hx; exact hf y)]; simp

section rules
variable {P : Program} {n : Nat} {cx : Cx} {e : Env} {L : List Chunk} {ops : Array Oper} {rest : List Oper} {Q : Post} {F : Env → List Chunk → Prop} {ss : List Kd} {d : Option Nat} {ty : TypeId} {pos : String} {af : Array Edge} {g : Option (Nat × Bool)}

/-- In a drawn region: an operation that turns a chunk, and whose value nobody asks for. -/
theorem d_turn0 {σ : Type} {o : Oper} {i : Nat} {rds : List Nat} {G : σ → Value} {C : σ → Chunk} {Cv : Value → Chunk} (x0 : σ) (h : Turns P cx e o L i rds G C) (hC : ∀ x, Cv (G x) = C x) (hw : want ops o e = true) (hd : o.dst = none)
    (k : ∀ x, Sq P cx ops F rest ss e (L.set i (C x))) : Sq P cx ops F (o :: rest) (.t i rds G Cv :: ss) e L := by
  refine .take hw ⟨G x0, x0, rfl⟩ ⟨fun w L' hF hS hl hi => ?_⟩ fun v' hv' => ?_
  · refine (h w L' hF hS hl fun j hj => hi j (by simpa [Kd.t, Kd.rds, Kd.wrs] using hj)).mono fun v w' ⟨x, hv, hF', hS'⟩ => ?_
    subst hv
    refine ⟨⟨x, rfl⟩, hF', ?_⟩
    show Sat cx w' (L'.set i (Cv (G x)))
    rw [hC]; exact hS'
  · obtain ⟨x, rfl⟩ : ∃ x, v' = G x := hv'
    show Sq P cx ops F rest ss (putD e o.dst (G x)) (L.set i (Cv (G x)))
    rw [hC, hd]
    exact k x

/-- copy into a row of one's own, from a place on; what is copied lies anywhere. -/
theorem run_copyG {α : Type} {f : α → List Value} {xs ts ys : List α} {t u E m q c cd : Nat} {p : Option Addr × Nat} {a : Option Addr} {lo hi : Int} {w : World} {D X : Operand} (hm : m = xs.length) (ht : P.underlying t = some (.slice E)) (hi1 : (P.info? E).map (·.size) = some 1)
    (ho : w.ownsRow 0 E 1 (.slice p.1 m p.2) m (xs.map f).flatten) (hd : ev e D = .slice (cutA p.1 lo.toNat p.2 1) ts.length cd) (hcut : gCut xs lo hi = some ts)
    (hx : ev e X = .slice a q c) (hq : q = ys.length) (hR : Row w a 1 (ys.map f)) (hf : ∀ x, (f x).length = 1) (h1 : ∀ x, (f x).all Value.oneCell' = true) :
    ∃ w', (execOp (ev e) ⟨d, .call ⟨.builtin .copy, #[D, X], #[t, u]⟩, ty, pos, af, g⟩).run P w = .ok (.value (.int .i64 (min ts.length ys.length : Nat))) w' ∧ w'.ownsRow 0 E 1 (.slice p.1 m p.2) m ((cpyL xs lo ts.length ys).map f).flatten ∧ w.grownBy w' (Value.slice p.1 m p.2).ownBlock := by
  subst hm hq
  obtain ⟨g0, g1, g2, hts⟩ := gCut_some hcut
  have htl : ts.length = hi.toNat - lo.toNat := gCut_len hcut
  by_cases h0 : min ts.length ys.length = 0
  · have hc : cpyL xs lo ts.length ys = xs := by
      unfold cpyL
      have h2 : ys.take ts.length = [] := by
        apply List.eq_nil_of_length_eq_zero; rw [List.length_take]; exact h0
      rw [h2, h0, List.nil_append, Nat.add_zero, List.take_append_drop]
    refine ⟨w, ?_, by rw [hc]; exact ho, ⟨rfl, rfl, rfl, Nat.le_refl _, fun _ _ _ => rfl⟩⟩
    have hrun := run_copy_none (P := P) w t u ty E (cutA p.1 lo.toNat p.2 1) a ts.length cd ys.length c ht hi1 (by show min ys.length ts.length = 0; omega)
    simp only [execOp, resolve, invoke, builtin, Sem.run_bind, Sem.run_pure, Result.andThen_ok, List.map_toArray, List.map_cons, List.map_nil, hd, hx, hrun, h0]
    rfl
  · have hxs : 0 < xs.length := by omega
    rcases ho.2 with ⟨_, hz⟩ | ⟨g0', cap, cur, hv0, hb0, hh, hnc, hcm, hcs, htk⟩
    · omega
    · simp only [Value.slice.injEq] at hv0
      obtain ⟨hp1, _, rfl⟩ := hv0
      have hcut' : cutA p.1 lo.toNat p.2 1 = some ⟨g0', lo.toNat, none⟩ := by
        rw [hp1]; unfold cutA
        rw [if_neg (by omega)]; simp [Addr.add_lit]
      rcases hR with hR | ⟨b, off, rfl, hR⟩
      · have : ys.length = 0 := by simpa using congrArg List.length hR
        omega
      · let k := min ts.length ys.length
        have hcsl : (((ys.take k).map f).flatten).length = k := by
          rw [flat1_len hf, List.length_take]; omega
        have hone : ∀ v ∈ ((ys.take k).map f).flatten, v.oneCell' = true := by
          intro v hv
          rw [List.mem_flatten] at hv
          obtain ⟨l, hl, hv⟩ := hv
          obtain ⟨y, _, rfl⟩ := List.mem_map.1 hl
          exact List.all_eq_true.1 (h1 y) v hv
        have hlen : ∀ x ∈ ys.map f, x.length = 1 := fun x hx => by
          obtain ⟨y, _, rfl⟩ := List.mem_map.1 hx; exact hf y
        have hsrc : ∀ j v, (((ys.take k).map f).flatten)[j]? = some v → w.cell? ((⟨b, off, none⟩ : Addr).add j) = some v := by
          intro j v hj
          rw [← flat1_take hf, List.getElem?_take] at hj
          split at hj
          · obtain ⟨i, q, x, hx, hq, rfl⟩ := flat_get _ hlen j v hj
            have := (hR i x hx).2 q v hq
            rw [Addr.add_lit, ← Nat.add_assoc]; exact this
          · cases hj
        have hcur : cur.size = p.2 := by omega
        have hfit : lo.toNat + (((ys.take k).map f).flatten).length ≤ cur.size := by rw [hcsl]; omega
        have hrun := run_copy_row (P := P) w t u ty E g0' lo.toNat ts.length cd ⟨b, off, none⟩ ys.length c cur E _ ht hi1 hh (by rw [hcsl]; show k = min ys.length ts.length; omega) hsrc hfit hone
        let new : Array Value := (cur.toList.take lo.toNat ++ ((ys.take k).map f).flatten ++ cur.toList.drop (lo.toNat + (((ys.take k).map f).flatten).length)).toArray
        refine ⟨w.setRow g0' new, ?_, ⟨?_, .inr ⟨g0', p.2, new, by rw [hp1], hb0, setRow_heap w g0' cur new E (0, 0) hh, hnc, hcm, ?_, ?_⟩⟩, ⟨rfl, rfl, rfl, by simp, fun b' _ hb => setRow_other w g0' b' _ (fun e => hb (by simp [Value.ownBlock, hp1, e]))⟩⟩
        · simp only [execOp, resolve, invoke, builtin, Sem.run_bind, Sem.run_pure, Result.andThen_ok, List.map_toArray, List.map_cons, List.map_nil, hd, hx, hcut', hrun, new, hcsl]
          rfl
        · rw [flat1_len hf, cpyL_len (by omega)]; omega
        · simp only [new, List.size_toArray, List.length_append, List.length_take, List.length_drop, Array.length_toList, hcsl]
          omega
        · simp only [new]
          rw [List.toList_toArray, hcsl]
          rw [Nat.mul_one] at htk ⊢
          have e1 : cur.toList = ((xs.map f).flatten) ++ cur.toList.drop xs.length := by rw [← htk, List.take_append_drop]
          have hcl : ((xs.map f).flatten).length = xs.length := flat1_len hf xs
          have e2 : (cpyL xs lo ts.length ys).map f = (xs.take lo.toNat).map f ++ ((ys.take k).map f ++ (xs.drop (lo.toNat + k)).map f) := by
            unfold cpyL
            have : ys.take ts.length = ys.take k := by
              rcases Nat.le_total ts.length ys.length with h | h
              · show _ = ys.take (min ts.length ys.length); rw [Nat.min_eq_left h]
              · show _ = ys.take (min ts.length ys.length); rw [Nat.min_eq_right h, List.take_of_length_le h, List.take_of_length_le (Nat.le_refl _)]
            rw [this, List.map_append, List.map_append]
          rw [e2, List.flatten_append, List.flatten_append, ← flat1_take hf xs, ← flat1_drop hf xs]
          generalize hX : (xs.map f).flatten = X at *
          generalize hY : ((ys.take k).map f).flatten = Y at *
          have hlo : lo.toNat + k ≤ xs.length := by show lo.toNat + min ts.length ys.length ≤ _; omega
          have e3 : cur.toList.take lo.toNat = X.take lo.toNat := by
            rw [e1, List.take_append_of_le_length (by omega)]
          have e4 : cur.toList.drop (lo.toNat + k) = X.drop (lo.toNat + k) ++ cur.toList.drop xs.length := by
            conv => lhs; rw [e1]
            rw [List.drop_append_of_le_length (by omega)]
          rw [e3, e4, List.append_assoc, ← List.append_assoc, ← List.append_assoc]
          rw [List.take_append_of_le_length, List.take_of_length_le]
          · rw [List.append_assoc]
          · simp only [List.length_append, List.length_take, List.length_drop]; omega
          · simp only [List.length_append, List.length_take, List.length_drop]; omega

theorem turns_copyG {α : Type} {f : α → List Value} {xs ts ys : List α} {i t u E m q c cd : Nat} {p : Option Addr × Nat} {a : Option Addr} {lo hi : Int} {D X : Operand} {rds : List Nat} (hm : m = xs.length) (ht : P.underlying t = some (.slice E)) (hi1 : (P.info? E).map (·.size) = some 1)
    (hL : L[i]? = some (rowV E 1 (.slice p.1 m p.2) m (xs.map f))) (hd : ev e D = .slice (cutA p.1 lo.toNat p.2 1) ts.length cd) (hcut : gCut xs lo hi = some ts)
    (hx : ev e X = .slice a q c) (hq : q = ys.length) (hnews : ∀ w L', Fr cx w → Sat cx w L' → (∀ j, j ∈ rds → L'[j]? = L[j]?) → Row w a 1 (ys.map f)) (hf : ∀ x, (f x).length = 1) (h1 : ∀ x, (f x).all Value.oneCell' = true) :
    Turns P cx e ⟨d, .call ⟨.builtin .copy, #[D, X], #[t, u]⟩, ty, pos, af, g⟩ L i rds (fun _ : Unit => .int .i64 (min ts.length ys.length : Nat)) (fun _ => rowV E 1 (.slice p.1 m p.2) m ((cpyL xs lo ts.length ys).map f)) := by
  intro w L' hF hS hl hi'
  have hL' := (hi' i (.inr rfl)).trans hL
  obtain ⟨S0, ⟨⟨ho, hlen, hlx⟩, hob⟩, _⟩ := hS.at hL'
  obtain ⟨w', hr, h2, h3⟩ := run_copyG (P := P) (d := d) (ty := ty) (pos := pos) (af := af) (g := g) (u := u) hm ht hi1 ho hd hcut hx hq (hnews w L' hF hS fun j hj => hi' j (.inl hj)) hf h1
  obtain ⟨g0, g1, g2, hts⟩ := gCut_some hcut
  have htl : ts.length = hi.toNat - lo.toNat := gCut_len hcut
  obtain ⟨hF', hS'⟩ := hS.turnOf hF hL' (C := rowV E 1 (.slice p.1 m p.2) m ((cpyL xs lo ts.length ys).map f)) fun S1 hp => turn_append hp.2 h2 h3 (.inl rfl) (by rw [List.length_map, cpyL_len (by omega)]; exact hm.symm) (by
    intro z hz
    obtain ⟨y, _, rfl⟩ := List.mem_map.1 hz; exact hf y)
  unfold RunsTo
  rw [hr]
  exact ⟨(), rfl, hF', hS'⟩

/-- An operation that turns a chunk, and whose value nobody asks for. -/
theorem l_turn0 {σ : Type} {o : Oper} {i : Nat} {rds : List Nat} {G : σ → Value} {C : σ → Chunk} (h : Turns P cx e o L i rds G C) (hw : want ops o e = true) (hd : o.dst = none)
    (k : ∀ x, At cx (WL P n ops Q rest) e (L.set i (C x))) : At cx (WL P n ops Q (o :: rest)) e L :=
  ⟨fun w hF hS => ⟨fun a ha => by
    have hr := (h w L hF hS rfl (fun _ _ => rfl)).mono (R' := fun _ w' => WL P n ops Q rest e w') fun v w' ⟨x, hv, hF', hS'⟩ => (k x).out w' hF' hS'
    unfold RunsTo at hr
    unfold wpList
    rw [want_eq ha, hw, if_pos rfl]
    refine .inl ?_
    unfold Oper.wp
    rw [ha.ev]
    generalize (execOp (ev e) o).run P w = r at hr
    cases r with
    | halt x w' => exact hr.elim
    | ok nx w' =>
      cases nx with
      | value v =>
        show wpList P ops (lift n Q) rest (a.put o.dst v) w'
        rw [hd]
        exact hr.out _ ha
      | skip =>
        show wpList P ops (lift n Q) rest (a.put o.dst undef) w'
        rw [hd]
        exact hr.out _ ha
      | enter f args =>
        refine Calls.mono hr ?_
        rintro en w'' ⟨v, rfl, hk⟩
        show wpList P ops (lift n Q) rest (a.put o.dst v) w''
        rw [hd]
        exact hk.out _ ha
      | _ => exact hr.elim⟩⟩

end rules

/-! ### functions as results -/

/-- A contract: the call returns a value of which φ holds. -/
def RetF (P : Program) (f : FuncId) (args : List Value) (φ : Value → Prop) : Prop := ∀ w, Does P f args.toArray w fun v w' => φ v ∧ Grow w w'

theorem RetF.ex {P : Program} {f : FuncId} {args : List Value} {φ : Value → Prop} (h : RetF P f args φ) : ∃ v, φ v := by
  obtain ⟨_, _, _, ⟨v, _, hv, _⟩, _⟩ := h default []
  exact ⟨v, hv⟩

theorem enterRetF {P : Program} {f : FuncId} {fn : Func} {c : Code} {args : List Value} {n : Nat} {φ : Value → Prop} (hf : P.funcs[f]? = some fn) (hb : fn.body = some c) (hn : fn.ntmps = n) (hle : Nat.ble args.length n = true)
    (h : ∀ w, At ⟨w, fun _ => False⟩ (WC P n c (BodyQ P fn fun v' w' => φ v' ∧ Grow w w')) (lget args) []) : RetF P f args φ :=
  fun w => enter hf hb hn hle (fun _ => False) [] (Sat.nil _ _) (h w)

theorem finF {w0 : World} {L : List Chunk} {v : Value} {φ : Value → Prop} (h : φ v) : ∀ w, Fr ⟨w0, fun _ => False⟩ w → Sat ⟨w0, fun _ => False⟩ w L → (φ v ∧ Grow w0 w) :=
  fun w hF _ => ⟨h, hF.os, hF.tape, hF.output, hF.size, fun k hk => hF.block k (by simp [Cx.own]; exact hk)⟩

def _root_.Go.Vc.Kd.fv (φ : Value → Prop) : Kd := .g [] [] [] (fun _ _ v => φ v) (fun _ _ _ => [])

section rules
variable {P : Program} {n : Nat} {cx : Cx} {e : Env} {L : List Chunk} {ops : Array Oper} {rest : List Oper} {Q : Post} {F : Env → List Chunk → Prop} {ss : List Kd} {d : Nat} {ty : TypeId} {pos : String} {af : Array Edge} {g : Option (Nat × Bool)}

theorem l_callF {f : FuncId} {A : Array Operand} {tys : Array TypeId} {args : List Value} {φ : Value → Prop} (h : RetF P f args φ) (hc : ∀ args w, (callFunc f args).run P w = .ok (.enter f args) w)
    (hw : want ops ⟨some d, .call ⟨.value (.func f), A, tys⟩, ty, pos, af, g⟩ e = true) (hn : Nat.blt d n = true) (ha : A.toList.map (ev e) = args)
    (k : ∀ v, φ v → At cx (WL P n ops Q rest) (upd e d v) L) : At cx (WL P n ops Q (⟨some d, .call ⟨.value (.func f), A, tys⟩, ty, pos, af, g⟩ :: rest)) e L :=
  l_calls hw rfl hn (run_call hc ha) fun w hF hS => (h w).mono fun v' w' ⟨hv, hg⟩ => (k v' hv).out w' (hF.grow hg) (hS.grow hg)

theorem d_callF {f : FuncId} {A : Array Operand} {tys : Array TypeId} {args : List Value} {φ : Value → Prop} (h : RetF P f args φ) (hc : ∀ args w, (callFunc f args).run P w = .ok (.enter f args) w)
    (hw : want ops ⟨some d, .call ⟨.value (.func f), A, tys⟩, ty, pos, af, g⟩ e = true) (ha : A.toList.map (ev e) = args)
    (k : ∀ v, φ v → Sq P cx ops F rest ss (upd e d v) L) : Sq P cx ops F (⟨some d, .call ⟨.value (.func f), A, tys⟩, ty, pos, af, g⟩ :: rest) (.fv φ :: ss) e L := by
  refine .take hw h.ex ⟨fun w L' hF hS _ hi => ?_⟩ fun v' hv' => ?_
  · unfold RunsTo
    rw [run_call hc ha]
    exact (h w).mono fun v' w' ⟨h1, h2⟩ => ⟨h1, hF.grow h2, hS.grow h2⟩
  · exact k v' hv'

end rules


end Go.Lx
