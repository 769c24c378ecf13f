/- Slices, loops with what they leave alone, and calls whose contracts read memory. Conditions: none. -/
import Derived.Test.YthhaabhnlndnoaaGreatVc5
import Derived.LoopN
import Derived.Laws.StructEq
namespace Go.Vc
open Go

theorem vI {k : IntKind} {a b : Int} (h : a = b) : Value.int k a = Value.int k b := by rw [h]
theorem vB {a b : Bool} (h : a = b) : Value.bool a = Value.bool b := by rw [h]
theorem vD {p q : Prop} [Decidable p] [Decidable q] (h : p ↔ q) : Value.bool (decide p) = Value.bool (decide q) := by simp [h]

section rules
variable {P : Program} {n : Nat} {cx : Cx} {Q : Post} {e : Env} {L : List Chunk} {ops : Array Oper} {rest : List Oper} {F : Env → List Chunk → Prop} {ss : List Kd}
variable {ty : TypeId} {pos : String} {af : Array Edge} {g : Option (Nat × Bool)}

/-! ### tests that are known -/

theorem r_decT {o : Oper} {p : Prop} [Decidable p] (h : ∀ w, (execOp (ev e) o).run P w = .ok (.value (.bool (decide p))) w) (hp : p) (w : World) : (execOp (ev e) o).run P w = .ok (.value (.bool true)) w := by
  rw [h, decide_eq_true hp]
theorem r_decF {o : Oper} {p : Prop} [Decidable p] (h : ∀ w, (execOp (ev e) o).run P w = .ok (.value (.bool (decide p))) w) (hp : ¬ p) (w : World) : (execOp (ev e) o).run P w = .ok (.value (.bool false)) w := by
  rw [h, decide_eq_false hp]

theorem r_eqlB {d : Option Nat} {t t' : TypeId} {X Y : Operand} {x y : Bool} (hu : P.underlying t = some .bool) (hx : ev e X = .bool x) (hy : ev e Y = .bool y) (w : World) :
    (execOp (ev e) ⟨d, .binOp .eql t X Y t', ty, pos, af, g⟩).run P w = .ok (.value (.bool (decide (x = y)))) w := by
  have : (Op.equalIn Op.maxDepth t (.bool x) (.bool y)).run P w = .ok (x == y) w := run_equalIn_bool' w _ t x y hu
  simp [execOp, hx, hy, eqGuard, binOp, Op.equal, this]
  rfl

theorem r_neqB {d : Option Nat} {t t' : TypeId} {X Y : Operand} {x y : Bool} (hu : P.underlying t = some .bool) (hx : ev e X = .bool x) (hy : ev e Y = .bool y) (w : World) :
    (execOp (ev e) ⟨d, .binOp .neq t X Y t', ty, pos, af, g⟩).run P w = .ok (.value (.bool (decide (x ≠ y)))) w := by
  have : (Op.equalIn Op.maxDepth t (.bool x) (.bool y)).run P w = .ok (x == y) w := run_equalIn_bool' w _ t x y hu
  simp [execOp, hx, hy, eqGuard, binOp, Op.equal, this]
  cases x <;> cases y <;> rfl

/-- Structs of the kinds that a fact of the program treats. -/
theorem r_eqlA {d : Option Nat} {t t' : TypeId} {X Y : Operand} {xs ys : Array Value} {b : Bool} (hg : P.eqGuardType P.depth t = false) (heq : ∀ w, (Op.equalIn Op.maxDepth t (.agg xs) (.agg ys)).run P w = .ok b w)
    (hx : ev e X = .agg xs) (hy : ev e Y = .agg ys) (w : World) :
    (execOp (ev e) ⟨d, .binOp .eql t X Y t', ty, pos, af, g⟩).run P w = .ok (.value (.bool b)) w := by
  simp [execOp, hx, hy, eqGuard, binOp, Op.equal, heq, hg]

theorem r_neqA {d : Option Nat} {t t' : TypeId} {X Y : Operand} {xs ys : Array Value} {b : Bool} (hg : P.eqGuardType P.depth t = false) (heq : ∀ w, (Op.equalIn Op.maxDepth t (.agg xs) (.agg ys)).run P w = .ok b w)
    (hx : ev e X = .agg xs) (hy : ev e Y = .agg ys) (w : World) :
    (execOp (ev e) ⟨d, .binOp .neq t X Y t', ty, pos, af, g⟩).run P w = .ok (.value (.bool (!b))) w := by
  simp [execOp, hx, hy, eqGuard, binOp, Op.equal, heq, hg]

/-- The chain's newest slot holds a bool that is known. -/
theorem knownT {K : Env → World → Prop} {b : Bool} {d : Nat} (hb : b = true) (k : At cx K (upd e d (.bool true)) L) : At cx K (upd e d (.bool b)) L := by rw [hb]; exact k
theorem knownF {K : Env → World → Prop} {b : Bool} {d : Nat} (hb : b = false) (k : At cx K (upd e d (.bool false)) L) : At cx K (upd e d (.bool b)) L := by rw [hb]; exact k
theorem knownTS {b : Bool} {d : Nat} {os : List Oper} (hb : b = true) (k : Sq P cx ops F os ss (upd e d (.bool true)) L) : Sq P cx ops F os ss (upd e d (.bool b)) L := by rw [hb]; exact k
theorem knownFS {b : Bool} {d : Nat} {os : List Oper} (hb : b = false) (k : Sq P cx ops F os ss (upd e d (.bool false)) L) : Sq P cx ops F os ss (upd e d (.bool b)) L := by rw [hb]; exact k

/-! ### loops -/

/-- A loop that is unrolled. -/
structure WR (P : Program) (n : Nat) (m : Nat) (c : Code) (Q : Post) (e : Env) (w : World) : Prop where
  out : ∀ a, Sim n a e → Code.rounds P c (lift n Q) m a w

theorem c_unroll {c : Code} (m : Nat) (h : At cx (WR P n m c Q) e L) : At cx (WC P n (.loop c) Q) e L :=
  ⟨fun w hF hS => ⟨fun a ha => wp_loop_rounds m ((h.out w hF hS).out a ha)⟩⟩

theorem c_once {c : Code} {m : Nat} (h : At cx (WC P n c (ThenQ (WR P n m c Q) Q)) e L) : At cx (WR P n (m + 1) c Q) e L :=
  ⟨fun w hF hS => ⟨fun a ha => Code.wp_mono (fun x' a' w' hq => by
    obtain ⟨e', hs, hq⟩ := hq
    cases x' <;> first | exact ⟨e', hs, hq⟩ | exact WR.out hq a' hs) ((h.out w hF hS).out a ha)⟩⟩

/-- What lies outside M is as it was. -/
def Keeps (M : List Nat) (e e' : Env) : Prop := ∀ t, (M.any fun x => Nat.beq x t) = false → e' t = e t

def mix (M : List Nat) (h e : Env) : Env := fun t => bif M.any fun x => Nat.beq x t then h t else e t

theorem Keeps.refl (M : List Nat) (e : Env) : Keeps M e e := fun _ _ => rfl
theorem Keeps.mix {M : List Nat} {h e : Env} : Keeps M e (mix M h e) := fun t ht => by simp [Vc.mix, ht]
theorem Keeps.upd {M : List Nat} {e e' : Env} {d : Nat} {v : Value} (h : Keeps M e e') (hd : (M.any fun x => Nat.beq x d) = true) : Keeps M e (upd e' d v) := fun t ht => by
  rw [upd_ne _ _ _ _ (fun hh => by rw [hh, hd] at ht; cases ht)]
  exact h t ht
theorem Keeps.mkE {M : List Nat} {e e' : Env} (h : Keeps M e e') : ∀ l : List (Nat × Value), (l.all fun p => M.any fun x => Nat.beq x p.1) = true → Keeps M e (mkE l e')
  | [], _ => h
  | (a, v) :: r, hl => fun t ht => by
    simp only [List.all_cons, Bool.and_eq_true] at hl
    have hne : t ≠ a := fun hh => by rw [hh, hl.1] at ht; cases ht
    have := Keeps.mkE h r hl.2 t ht
    simp only [Vc.mkE, beq_eq]
    simpa [hne] using this
theorem Keeps.mix2 {M M' : List Nat} {e e' h : Env} (k : Keeps M e e') (hs : (M'.all fun y => M.any fun x => Nat.beq x y) = true) : Keeps M e (Vc.mix M' h e') := fun t ht => by
  have : (M'.any fun x => Nat.beq x t) = false := by
    rw [Bool.eq_false_iff]
    intro hh
    obtain ⟨y, hy, hyt⟩ := List.any_eq_true.1 hh
    have hyt' : y = t := by simpa using hyt
    have := List.all_eq_true.1 hs y hy
    rw [hyt', ht] at this
    cases this
  simp [Vc.mix, this]
  exact k t ht

structure RoundK {σ : Type} (cx : Cx) (M : List Nat) (e0 : Env) (st : σ → List (Nat × Value)) (hp : σ → List Chunk) (I : σ → Prop) (m : Nat) (μ : σ → Nat) (e : Env) (w : World) : Prop where
  out : ∃ s, Agree e (st s) ∧ Keeps M e0 e ∧ Fr cx w ∧ Sat cx w (hp s) ∧ I s ∧ μ s < m

/-- A loop: the slots of M are turned, those of 'st' are known at its head; the chunks of 'mods' are turned, the others stay. -/
theorem c_loopK {σ : Type} {c : Code} (M : List Nat) (st : σ → List (Nat × Value)) (mods : σ → List (Nat × Chunk)) (I : σ → Prop) (μ : σ → Nat) (s0 : σ) (hI : I s0) (hst : Agree e (st s0)) (hL : setAll L (mods s0) = L)
    (round : ∀ s g, I s → At cx (WC P n c (ThenQ (RoundK cx M e st (fun s => setAll L (mods s)) I (μ s) μ) Q)) (mkE (st s) (mix M g e)) (setAll L (mods s))) : At cx (WC P n (.loop c) Q) e L :=
  ⟨fun w hF hS => ⟨fun a ha => by
    refine wp_loop_ghost (fun m a' w' => ∃ e' s, Sim n a' e' ∧ Agree e' (st s) ∧ Keeps M e e' ∧ Fr cx w' ∧ Sat cx w' (setAll L (mods s)) ∧ I s ∧ μ s = m) (μ s0) ⟨e, s0, ha, hst, Keeps.refl M e, hF, by rw [hL]; exact hS, hI, rfl⟩ ?_
    rintro m a w ⟨e', s, ha, hst, hk, hF, hS, hI, rfl⟩
    have hmix : mix M e' e = e' := by
      funext t
      simp only [mix]
      cases hm : M.any fun x => Nat.beq x t with
      | true => rfl
      | false => exact (hk t hm).symm
    have hr := ((round s e' hI).out w hF hS).out a (by rw [hmix, mkE_self e' _ hst]; exact ha)
    refine wp_mono hr ?_
    rintro x a' w' ⟨e'', hs', hq⟩
    cases x with
    | normal =>
      obtain ⟨s', h1, h2, h3, h4, h5, h6⟩ := hq.out
      exact ⟨μ s', h6, e'', s', hs', h1, h2, h3, h4, h5, rfl⟩
    | exit i => exact ⟨e'', hs', hq⟩
    | goto i => exact ⟨e'', hs', hq⟩
    | ret => exact ⟨e'', hs', hq⟩
    | panic i => exact ⟨e'', hs', hq⟩
    | outgrown => exact ⟨e'', hs', hq⟩⟩⟩

theorem c_roundK {σ : Type} {M : List Nat} {e0 : Env} {st : σ → List (Nat × Value)} {hp : σ → List Chunk} {I : σ → Prop} {m : Nat} {μ : σ → Nat} (s : σ) (sel : List Nat) (hst : Agree e (st s)) (hk : Keeps M e0 e) (hnd : sel.Nodup) (hL : sel.map (fun i => L[i]?) = (hp s).map some) (hI : I s) (hm : μ s < m) :
    At cx (RoundK cx M e0 st hp I m μ) e L := ⟨fun _ hF hS => ⟨s, hst, hk, hF, hS.select sel hnd hL, hI, hm⟩⟩

/-- Ways that meet again: the slots of M may differ, those of 'st' are known. -/
theorem c_join {σ : Type} {x y : Code} (M : List Nat) (st : σ → List (Nat × Value)) (mods : σ → List (Nat × Chunk)) (I : σ → Prop)
    (h1 : At cx (WC P n x (ThenQ (RoundK cx M e st (fun s => setAll L (mods s)) I 1 (fun _ => 0)) Q)) e L)
    (h2 : ∀ s g, I s → At cx (WC P n y Q) (mkE (st s) (mix M g e)) (setAll L (mods s))) : At cx (WC P n (.seq x y) Q) e L :=
  c_seq ⟨fun w hF hS => ⟨fun a ha => Code.wp_mono (fun x' a' w' hq => by
    obtain ⟨e', hs, hq⟩ := hq
    cases x' with
    | normal =>
      obtain ⟨s, g1, g2, g3, g4, g5, _⟩ := hq.out
      have hmix : mix M e' e = e' := by
        funext t
        simp only [mix]
        cases hm : M.any fun x => Nat.beq x t with
        | true => rfl
        | false => exact (g2 t hm).symm
      exact ⟨e', hs, by
        have := (h2 s e' g5).out w' g3 g4
        rwa [hmix, mkE_self e' _ g1] at this⟩
    | exit i => exact ⟨e', hs, hq⟩
    | goto i => exact ⟨e', hs, hq⟩
    | ret => exact ⟨e', hs, hq⟩
    | panic i => exact ⟨e', hs, hq⟩
    | outgrown => exact ⟨e', hs, hq⟩) ((h1.out w hF hS).out a ha)⟩⟩

/-! ### slices that are read -/

/-- The rows of a slice: each of sz cells. -/
def Row (w : World) (a : Option Addr) (sz : Nat) (xs : List (List Value)) : Prop :=
  xs = [] ∨ ∃ b off, a = some ⟨b, off, none⟩ ∧ ∀ (i : Nat) (x : List Value), xs[i]? = some x → x.length = sz ∧ ∀ (j : Nat) (v : Value), x[j]? = some v → w.cell? ⟨b, off + i * sz + j, none⟩ = some v

theorem Row.grow {w w' : World} {a : Option Addr} {sz : Nat} {xs : List (List Value)} (h : Row w a sz xs) (g : Grow w w') : Row w' a sz xs := by
  rcases h with h | ⟨b, off, ha, h⟩
  · exact .inl h
  · refine .inr ⟨b, off, ha, fun i x hx => ⟨(h i x hx).1, fun j v hv => ?_⟩⟩
    have hc := (h i x hx).2 j v hv
    have hlt : b < w.heap.size := World.block_lt_of_cell? w _ hc
    rw [Go.RowKit.Below.cell g (p := ⟨b, off + i * sz + j, none⟩) hlt]
    exact hc

/-- An argument's rows, wherever the walk stands. -/
theorem Row.arg {a : Option Addr} {sz : Nat} {xs : List (List Value)} {w0 w : World} (h : Row w0 a sz xs) (hF : Fr ⟨w0, fun _ => False⟩ w) : Row w a sz xs :=
  h.grow ⟨hF.os, hF.tape, hF.output, hF.size, fun k hk => hF.block k (by simp [Cx.own]; exact hk)⟩

theorem Row.some {w : World} {a : Option Addr} {sz : Nat} {xs : List (List Value)} (h : Row w a sz xs) {i : Nat} (hi : i < xs.length) : ∃ b off, a = some ⟨b, off, none⟩ := by
  rcases h with h | ⟨b, off, ha, _⟩
  · subst h; simp at hi
  · exact ⟨b, off, ha⟩

theorem row_get {sz : Nat} : ∀ (xs : List (List Value)) (i : Nat) (x : List Value), (xs.all fun x => Nat.beq x.length sz) = true → xs[i]? = some x → ∀ (j : Nat) (v : Value), x[j]? = some v → xs.flatten[i * sz + j]? = some v
  | [], i, x, _, hx, _, _, _ => by simp at hx
  | y :: ys, i, x, hl, hx, j, v, hv => by
    simp only [List.all_cons, Bool.and_eq_true] at hl
    have hy : y.length = sz := by simpa using hl.1
    have hj : j < x.length := by
      rcases Nat.lt_or_ge j x.length with h | h
      · exact h
      · simp [List.getElem?_eq_none h] at hv
    cases i with
    | zero =>
      simp at hx; subst hx
      simp only [List.flatten_cons, Nat.zero_mul, Nat.zero_add]
      rw [List.getElem?_append_left hj]
      exact hv
    | succ i =>
      simp at hx
      have := row_get ys i x hl.2 hx j v hv
      simp only [List.flatten_cons]
      rw [List.getElem?_append_right (by rw [Nat.succ_mul]; omega)]
      rw [show (i + 1) * sz + j - y.length = i * sz + j from by rw [Nat.succ_mul]; omega]
      exact this

theorem row_box {w : World} {i b : Nat} {cs : List Value} {T : TypeId} {sz : Nat} {xs : List (List Value)} (hS : Sat cx w L) (hL : L[i]? = some (cellsC b cs T)) (hcs : xs.flatten = cs) (hlen : (xs.all fun x => Nat.beq x.length sz) = true) : Row w (some ⟨b, 0, none⟩) sz xs := by
  refine .inr ⟨b, 0, rfl, fun i x hx => ⟨?_, fun j v hv => ?_⟩⟩
  · have := List.all_eq_true.1 hlen x (List.mem_of_getElem? hx)
    simpa using this
  · rw [cell_of (sat_cell hS hL), ← hcs, Nat.zero_add]
    exact row_get xs i x hlen hx j v hv

theorem el_map {α : Type} {f : α → List Value} {xs : List α} {k : Nat} (h : k < xs.length) : (xs.map f)[k]? = some (f xs[k]) := by
  rw [List.getElem?_map, List.getElem?_eq_getElem h]; rfl

theorem Row.at {w : World} {a : Option Addr} {sz : Nat} {α : Type} {f : α → List Value} {xs : List α} (h : Row w a sz (xs.map f)) {k : Nat} (hk : k < xs.length) : ∃ b off, a = Option.some ⟨b, off, none⟩ :=
  h.some (i := k) (by simpa using hk)

def ptrAt (a : Option Addr) (k : Nat) : Value :=
  match a with
  | some x => .pointer (some ⟨x.block, x.off + k, none⟩)
  | none => undef

theorem r_len {d : Option Nat} {X : Operand} {a : Option Addr} {m c : Nat} {t u : TypeId} (hu : P.underlying t = some (.slice u)) (hx : ev e X = .slice a m c) (w : World) :
    (execOp (ev e) ⟨d, .call ⟨.builtin .len, #[X], #[t]⟩, ty, pos, af, g⟩).run P w = .ok (.value (.int .i64 m)) w := by
  simp [execOp, resolve, invoke, builtin, hx, Builtin.len_, run_underlying hu, goInt]

theorem r_lenS {d : Option Nat} {X : Operand} {s : ByteArray} {t : TypeId} (hu : P.underlying t = some .string) (hx : ev e X = .string s) (w : World) :
    (execOp (ev e) ⟨d, .call ⟨.builtin .len, #[X], #[t]⟩, ty, pos, af, g⟩).run P w = .ok (.value (.int .i64 s.size)) w := by
  simp [execOp, resolve, invoke, builtin, hx, Builtin.len_, run_underlying hu, goInt]

theorem r_index {d : Option Nat} {X I : Operand} {a : Option Addr} {m c : Nat} {t u sz : Nat} {k : IntKind} {i : Int} (hu : P.underlying t = some (.slice u)) (hs : ∀ w, (sizeOf u).run P w = .ok sz w)
    (hx : ev e X = .slice a m c) (hi : ev e I = .int k i) (ha : ∃ b off, a = some ⟨b, off, none⟩) (h0 : 0 ≤ i) (h1 : i < m) (w : World) :
    (execOp (ev e) ⟨d, .indexAddr t X I, ty, pos, af, g⟩).run P w = .ok (.value (ptrAt a (i.toNat * sz))) w := by
  obtain ⟨b, off, rfl⟩ := ha
  simp [execOp, Instr.indexAt, hx, hi, asIntOf, run_underlying hu, h0, h1, hs, ptrAt, Addr.add_lit]

theorem r_fieldP {d : Option Nat} {T fld k fo ft fsz bo : Nat} {a : Option Addr} {nm tg pk : String} {em : Bool} {X : Operand} {fs : Array Field} (hu : ∀ w, (underlying T).run P w = .ok (.struct fs) w)
    (hf : fs[fld]? = some ⟨nm, ft, fo, em, tg, pk, bo⟩) (hs : ∀ w, (sizeOf ft).run P w = .ok fsz w) (hsz : Nat.blt 0 fsz = true) (hp : ev e X = ptrAt a k) (ha : ∃ b off, a = some ⟨b, off, none⟩) (w : World) :
    (execOp (ev e) ⟨d, .fieldAddr T X fld, ty, pos, af, g⟩).run P w = .ok (.value (ptrAt a (k + fo))) w := by
  obtain ⟨b, off, rfl⟩ := ha
  rw [r_field hu hf hs hsz hp w]
  simp [ptrAt, Nat.add_assoc]

theorem run_loadP1 {T k : Nat} {d : Option Nat} {a : Option Addr} {A : Operand} {sz i j : Nat} {xs : List (List Value)} {x : List Value} {v : Value} {w : World} (hA : ∀ w, (isAgg T).run P w = .ok false w)
    (hp : ev e A = ptrAt a k) (hk : k = i * sz + j) (hr : Row w a sz xs) (hx : xs[i]? = some x) (hv : rg x j = some v) :
    (execOp (ev e) ⟨d, .load T A, ty, pos, af, g⟩).run P w = .ok (.value v) w := by
  rcases hr with rfl | ⟨b, off, rfl, h⟩
  · simp at hx
  · have hc := (h i x hx).2 j v (by rw [← rg_eq]; exact hv)
    subst hk
    have hp' : ev e A = .pointer (some ⟨b, off + i * sz + j, none⟩) := by rw [hp]; simp [ptrAt, Nat.add_assoc]
    simp [execOp, Instr.loadAt, Instr.sureAddr, hp', run_loadVar_one hA hc]

theorem run_loadPN {T k m : Nat} {d : Option Nat} {a : Option Addr} {A : Operand} {sz i j : Nat} {xs : List (List Value)} {x vs : List Value} {w : World} (hA : ∀ w, (isAgg T).run P w = .ok true w) (hs : ∀ w, (sizeOf T).run P w = .ok m w)
    (hp : ev e A = ptrAt a k) (hk : k = i * sz + j) (hr : Row w a sz xs) (hx : xs[i]? = some x) (hv : rd x j m = some vs) :
    (execOp (ev e) ⟨d, .load T A, ty, pos, af, g⟩).run P w = .ok (.value (.agg vs.toArray)) w := by
  rcases hr with rfl | ⟨b, off, rfl, h⟩
  · simp at hx
  · obtain ⟨h1, h2⟩ := rd_get hv
    subst hk
    have hp' : ev e A = .pointer (some ⟨b, off + i * sz + j, none⟩) := by rw [hp]; simp [ptrAt, Nat.add_assoc]
    have := run_loadVar_agg (P := P) (w := w) (b := b) (o := off + i * sz + j) hA hs h1 (fun q v hq => by
      rw [Nat.add_assoc]; exact (h i x hx).2 (j + q) v (h2 q v hq))
    simp [execOp, Instr.loadAt, Instr.sureAddr, hp', this]

/-- A value that is read off memory that the walk knows of. -/
theorem l_read {o : Oper} {d : Nat} {v : Value} (hr : ∀ w, Fr cx w → Sat cx w L → (execOp (ev e) o).run P w = .ok (.value v) w) (hw : want ops o e = true) (hd : o.dst = some d) (hn : Nat.blt d n = true)
    (k : At cx (WL P n ops Q rest) (upd e d v) L) : At cx (WL P n ops Q (o :: rest)) e L :=
  l_yields hw hd hn fun w hF hS => ⟨v, w, hr w hF hS, k.out w hF hS⟩

/-- The same in a drawn region: off memory that does not turn there. -/
theorem d_read {o : Oper} {d : Nat} {v : Value} (hr : ∀ w, Fr cx w → (execOp (ev e) o).run P w = .ok (.value v) w) (hw : want ops o e = true) (hd : o.dst = some d)
    (k : Sq P cx ops F rest ss (upd e d v) L) : Sq P cx ops F (o :: rest) (.d [] v :: ss) e L :=
  d_det hw hd (fun w _ hF _ _ => by unfold RunsTo; rw [hr w hF]; exact ⟨rfl, Grow.refl w⟩) k

/-- A call whose contract reads memory. -/
theorem l_callG {d : Nat} {f : FuncId} {A : Array Operand} {tys : Array TypeId} {args : List Value} {v : Value} (h : ∀ w, Fr cx w → Sat cx w L → Does P f args.toArray w fun v' w' => v' = v ∧ Grow w w') (hc : ∀ args w, (callFunc f args).run P w = .ok (.enter f args) w)
    (hw : want ops ⟨some d, .call ⟨.value (.func f), A, tys⟩, ty, pos, af, g⟩ e = true) (hn : Nat.blt d n = true) (ha : A.toList.map (ev e) = args)
    (k : At cx (WL P n ops Q rest) (upd e d v) L) : At cx (WL P n ops Q (⟨some d, .call ⟨.value (.func f), A, tys⟩, ty, pos, af, g⟩ :: rest)) e L :=
  l_calls hw rfl hn (run_call hc ha) fun w hF hS => (h w hF hS).mono fun v' w' ⟨hv, hg⟩ => by
    subst hv
    exact k.out w' (hF.grow hg) (hS.grow hg)

theorem d_callG {d : Nat} {f : FuncId} {A : Array Operand} {tys : Array TypeId} {args : List Value} {v : Value} (h : ∀ w, Fr cx w → Does P f args.toArray w fun v' w' => v' = v ∧ Grow w w') (hc : ∀ args w, (callFunc f args).run P w = .ok (.enter f args) w)
    (hw : want ops ⟨some d, .call ⟨.value (.func f), A, tys⟩, ty, pos, af, g⟩ e = true) (ha : A.toList.map (ev e) = args)
    (k : Sq P cx ops F rest ss (upd e d v) L) : Sq P cx ops F (⟨some d, .call ⟨.value (.func f), A, tys⟩, ty, pos, af, g⟩ :: rest) (.d [] v :: ss) e L :=
  d_det hw rfl (fun w _ hF _ _ => by
    unfold RunsTo
    rw [run_call hc ha]
    exact h w hF) k

/-- The same in a drawn region, off chunks that are only read. -/
theorem d_callD {d : Nat} {f : FuncId} {A : Array Operand} {tys : Array TypeId} {args : List Value} {v : Value} {rds : List Nat} (h : ∀ w L', Fr cx w → Sat cx w L' → (∀ i ∈ rds, L'[i]? = L[i]?) → Does P f args.toArray w fun v' w' => v' = v ∧ Grow w w') (hc : ∀ args w, (callFunc f args).run P w = .ok (.enter f args) w)
    (hw : want ops ⟨some d, .call ⟨.value (.func f), A, tys⟩, ty, pos, af, g⟩ e = true) (ha : A.toList.map (ev e) = args)
    (k : Sq P cx ops F rest ss (upd e d v) L) : Sq P cx ops F (⟨some d, .call ⟨.value (.func f), A, tys⟩, ty, pos, af, g⟩ :: rest) (.d rds v :: ss) e L :=
  d_det hw rfl (fun w L' hF hS hi => by
    unfold RunsTo
    rw [run_call hc ha]
    exact h w L' hF hS hi) k

/-! ### floats: the square root of a whole number -/

theorem r_convIF {d : Option Nat} {X : Operand} {s t : TypeId} {x : Int} {su : TypeDesc} (hs : ∀ w, (underlying s).run P w = .ok su w) (ht : ∀ w, (underlying t).run P w = .ok (.float .f64) w) (hx : ev e X = .int .i64 x) (h0 : 0 ≤ x) (w : World) :
    (execOp (ev e) ⟨d, .convert s t X, ty, pos, af, g⟩).run P w = .ok (.value (.float .f64 (Ieee.double.nearest false x.toNat 0))) w := by
  have h1 : decide (x < 0) = false := by simp; omega
  have h2 : x.natAbs = x.toNat := by omega
  simp [execOp, hx, convert, hs, ht, Conv.intToFloat, FloatKind.nearest, FloatKind.encode, FloatKind.format, Ieee.Format.write, h1, h2]

theorem r_convFI {d : Option Nat} {X : Operand} {s t : TypeId} {x : Nat} {r : Int} {su : TypeDesc} (hs : ∀ w, (underlying s).run P w = .ok su w) (ht : ∀ w, (underlying t).run P w = .ok (.int .i64) w) (hx : ev e X = .float .f64 x) (hr : (Ieee.double.read x).toInt .zero = some r) (hb : -9223372036854775808 ≤ r ∧ r ≤ 9223372036854775807) (w : World) :
    (execOp (ev e) ⟨d, .convert s t X, ty, pos, af, g⟩).run P w = .ok (.value (.int .i64 r)) w := by
  have h1 : IntKind.i64.min ≤ r ∧ r ≤ IntKind.i64.max := hb
  simp [execOp, hx, convert, hs, ht, Conv.floatToInt, FloatKind.decode, FloatKind.format, hr, h1]
  intro hh
  omega

/-- A function of the machine's own. -/
theorem r_ext {d : Option Nat} {f : FuncId} {A : Array Operand} {tys : Array TypeId} {args : List Value} {v : Value} (hc : ∀ w, (callFunc f args.toArray).run P w = .ok (.value v) w) (ha : A.toList.map (ev e) = args) (w : World) :
    (execOp (ev e) ⟨d, .call ⟨.value (.func f), A, tys⟩, ty, pos, af, g⟩).run P w = .ok (.value v) w := by
  subst ha
  have : (A.toList.map (ev e)).toArray = A.map (ev e) := by rw [← Array.toList_map, Array.toArray_toList]
  rw [this] at hc
  simp only [execOp, resolve, ev, Deferred.ofValue, Sem.run_bind, Sem.run_pure, Result.andThen_ok, invoke, hc, Array.append_empty, Array.empty_append]

/-! ### slice literals -/

theorem fold_set (off : Nat) : ∀ (vs : List Value) (j : Nat) (cs : Array Value), off + j + vs.length ≤ cs.size →
    ((vs.zipIdx j).foldl (fun cs (p : Value × Nat) => cs.setIfInBounds (off + p.2) p.1) cs).toList = cs.toList.take (off + j) ++ vs ++ cs.toList.drop (off + j + vs.length)
  | [], j, cs, _ => by simp
  | v :: vs, j, cs, h => by
    simp only [List.zipIdx_cons, List.foldl_cons]
    rw [fold_set off vs (j + 1) _ (by simp at h ⊢; omega)]
    have hlt : off + j < cs.size := by simp at h; omega
    simp only [Array.toList_setIfInBounds, List.length_cons]
    have e1 : (cs.toList.set (off + j) v).take (off + (j + 1)) = cs.toList.take (off + j) ++ [v] := by
      rw [show off + (j + 1) = (off + j) + 1 from by omega, List.take_add_one]
      rw [List.take_set_of_le (Nat.le_refl _)]
      simp [hlt]
    have e2 : (cs.toList.set (off + j) v).drop (off + (j + 1) + vs.length) = cs.toList.drop (off + j + (vs.length + 1)) := by
      rw [List.drop_set_of_lt (by omega)]
      congr 1; omega
    rw [e1, e2]
    simp

theorem fill_all (sz : Nat) : ∀ (vs : List Value) (i : Nat) (cs : Array Value), (∀ v ∈ vs, v.cells.size = sz) → cs.size = (i + vs.length) * sz →
    ∃ out : Array Value, Instr.fill (fun i => some (i * sz, sz)) cs ((vs.zipIdx i).map fun p => (p.2, p.1)) = some out ∧ out.toList = cs.toList.take (i * sz) ++ vs.flatMap fun v => v.cells.toList
  | [], i, cs, _, hsz => ⟨cs, rfl, by simp at hsz; simp [← hsz, List.take_of_length_le]⟩
  | v :: vs, i, cs, hv, hsz => by
    have h1 : v.cells.size = sz := hv v (by simp)
    have hle : i * sz + v.cells.size ≤ cs.size := by
      rw [h1, hsz, ← Nat.succ_mul]; exact Nat.mul_le_mul_right _ (by simp)
    have hf := fold_set (i * sz) v.cells.toList 0 cs (by simpa using hle)
    obtain ⟨out, ho1, ho2⟩ := fill_all sz vs (i + 1) (v.cells.zipIdx.foldl (fun cs (p : Value × Nat) => cs.setIfInBounds (i * sz + p.2) p.1) cs) (fun u hu => hv u (by simp [hu])) (by
      have : (v.cells.zipIdx.foldl (fun cs (p : Value × Nat) => cs.setIfInBounds (i * sz + p.2) p.1) cs).size = cs.size := by
        rw [← Array.foldl_toList, ← Array.length_toList, Array.toList_zipIdx, hf]
        simp
        omega
      rw [this, hsz]; simp; congr 1; omega)
    refine ⟨out, ?_, ?_⟩
    · simp only [List.zipIdx_cons, List.map_cons, Instr.fill]
      rw [if_neg (by simp [h1]; omega)]
      exact ho1
    · rw [ho2, ← Array.foldl_toList, Array.toList_zipIdx, hf]
      simp only [List.flatMap_cons]
      rw [show (i + 1) * sz = i * sz + v.cells.toList.length from by rw [Nat.succ_mul]; simp [h1]]
      simp only [Nat.add_zero]
      have hl : (cs.toList.take (i * sz) ++ v.cells.toList).length = i * sz + v.cells.toList.length := by simp; omega
      rw [List.take_left' hl, List.append_assoc]

theorem run_buildSlice {d : Option Nat} {t u sz m : Nat} {parts : Array (Nat × Operand)} {z : Value} {vs : List Value} {cs : List Value} (hu : P.underlying t = some (.slice u)) (hs : ∀ w, (sizeOf u).run P w = .ok sz w) (hz : ∀ w, (zeroValue u).run P w = .ok z w)
    (hps : parts.toList.map (fun (i, x) => (i, ev e x)) = (vs.zipIdx 0).map fun p => (p.2, p.1)) (hm : vs.length = m) (hall : (vs.all fun v => Nat.beq v.cells.size sz) = true) (hb : Nat.ble (m * sz) 16777216 = true) (hcs : (vs.flatMap fun v => v.cells.toList) = cs) (w : World) :
    (execOp (ev e) ⟨d, .buildSlice t m parts, ty, pos, af, g⟩).run P w = .ok (.value (.slice (some ⟨w.heap.size, 0, none⟩) m m)) (w.alloc (.cells cs.toArray u)) := by
  have hps' : (parts.map fun (i, x) => (i, ev e x)).toList = (vs.zipIdx 0).map fun p => (p.2, p.1) := by rw [← hps, Array.toList_map]
  have hb' : m * sz ≤ 16777216 := by simpa using hb
  have hall' : ∀ v ∈ vs, v.cells.size = sz := fun v hv => by simpa using List.all_eq_true.1 hall v hv
  have key : ∀ cs0 : Array Value, cs0.size = m * sz → Instr.fill (fun i => some (i * sz, sz)) cs0 ((vs.zipIdx 0).map fun p => (p.2, p.1)) = some cs.toArray := by
    intro cs0 h0
    obtain ⟨out, h1, h2⟩ := fill_all sz vs 0 cs0 hall' (by rw [h0, Nat.zero_add, hm])
    rw [h1]
    congr 1
    apply Array.ext'
    rw [h2, ← hcs]; simp
  have h24 : ¬ m * sz > 2 ^ 24 := by omega
  by_cases h0 : m * sz = 0
  · simp only [execOp, Instr.buildSlice, Sem.run_bind, run_underlying hu, Result.andThen_ok, hs, hps', h24, if_false]
    simp only [h0, if_true, Sem.run_pure, pure_bind]
    rw [key _ (by simp [h0])]
    simp [newRow, newObj, Sem.run]
  · have hk := key ((Array.range (m * sz)).map (z.cells[· % z.cells.size]!)) (by simp)
    simp only [execOp, Instr.buildSlice, Sem.run_bind, run_underlying hu, Result.andThen_ok, hs, hps', h24, h0, if_false, hz, Sem.run_pure, hk]
    simp [newRow, newObj, Sem.run]

theorem l_buildSlice {d : Nat} {t u sz m : Nat} {parts : Array (Nat × Operand)} {z : Value} {vs cs : List Value} (hu : P.underlying t = some (.slice u)) (hs : ∀ w, (sizeOf u).run P w = .ok sz w) (hz : ∀ w, (zeroValue u).run P w = .ok z w)
    (hw : want ops ⟨some d, .buildSlice t m parts, ty, pos, af, g⟩ e = true) (hn : Nat.blt d n = true)
    (hps : parts.toList.map (fun (i, x) => (i, ev e x)) = (vs.zipIdx 0).map fun p => (p.2, p.1)) (hm : vs.length = m) (hall : (vs.all fun v => Nat.beq v.cells.size sz) = true) (hb : Nat.ble (m * sz) 16777216 = true) (hcs : (vs.flatMap fun v => v.cells.toList) = cs)
    (k : ∀ b, At cx (WL P n ops Q rest) (upd e d (.slice (some ⟨b, 0, none⟩) m m)) (L ++ [cellsC b cs u])) : At cx (WL P n ops Q (⟨some d, .buildSlice t m parts, ty, pos, af, g⟩ :: rest)) e L :=
  l_yields hw rfl hn fun w hF hS => ⟨.slice (some ⟨w.heap.size, 0, none⟩) m m, w.alloc (.cells cs.toArray u), run_buildSlice hu hs hz hps hm hall hb hcs w, (k w.heap.size).out _ (hF.grow (grow_alloc w _)) (sat_new hF hS cs u)⟩

end rules
end Go.Vc
