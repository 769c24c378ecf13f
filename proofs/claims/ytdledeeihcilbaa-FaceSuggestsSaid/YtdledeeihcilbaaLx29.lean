/- Rules: stores of slices that a region makes into elements of nested rows. Conditions: none. -/
import Derived.Test.YtdledeeihcilbaaLx26
namespace Go.Lx
open Go Go.Vc Go.Md

/-- A cell of a row of cells. -/
def setR (css : List (List Value)) (i : Int) (j : Nat) (v : Value) : List (List Value) := css.set i.toNat ((css.getD i.toNat []).set j v)
def updF (c : Nat → Value) (j : Nat) (v : Value) (q : Nat) : Value := cond (Nat.beq q j) v (c q)
theorem setR_len (css : List (List Value)) (i : Int) (j : Nat) (v : Value) : (setR css i j v).length = css.length := by simp [setR]
theorem lenR {α : Type} {css : List (List Value)} {xs ys : List α} {i : Int} {j : Nat} {v : Value} {x : α} (h : css.length = xs.length) (g : gSet xs i x = some ys) : (setR css i j v).length = ys.length := by
  obtain ⟨_, _, rfl⟩ := gSet_some g
  rw [setR_len, h, List.length_set]
theorem ixR {α : Type} {css : List (List Value)} {xs : List α} {i : Int} {x : α} (h : css.length = xs.length) (g : gAt xs i = some x) : gAt css i = some (css.getD i.toNat []) := by
  obtain ⟨h0, h1, _⟩ := gAt_some g
  unfold gAt
  rw [if_pos h0, List.getD_eq_getElem?_getD, List.getElem?_eq_getElem (by rw [h]; exact h1)]; rfl

theorem AllC.setR {α : Type} {G : Heap → (Nat → Value) → α → Prop} {h : Heap} {sz : Nat} {css : List (List Value)} {xs ys : List α} (p : AllC G h sz css xs) {i : Int} {x x' : α} {j : Nat} {v : Value} (g : gAt xs i = some x) (g2 : gSet xs i x' = some ys) (hj : Nat.blt j sz = true)
    (hG : G h (updF (fun q => (css.getD i.toNat []).getD q undef) j v) x') : AllC G h sz (Go.Lx.setR css i j v) ys := by
  have hj' : j < sz := by simpa using hj
  obtain ⟨h0, h1, rfl⟩ := gSet_some g2
  have hget := p.get g
  have hl := (p.el _ _ _ hget (gAt_some g).2.2).1
  refine ⟨by rw [setR_len, p.len, List.length_set], fun k c y hc hy => ?_⟩
  unfold Go.Lx.setR at hc
  rw [List.getElem?_set] at hc hy
  by_cases hk : i.toNat = k
  · subst hk
    rw [if_pos rfl, if_pos (by rw [p.len]; exact h1)] at hc
    rw [if_pos rfl, if_pos h1] at hy
    cases hc; cases hy
    refine ⟨by rw [List.length_set]; exact hl, ?_⟩
    have : (fun q => ((css.getD i.toNat []).set j v).getD q undef) = updF (fun q => (css.getD i.toNat []).getD q undef) j v := by
      funext q
      unfold updF
      simp only [List.getD_eq_getElem?_getD, List.getElem?_set]
      by_cases hq : j = q
      · subst hq
        have : Nat.beq j j = true := by simp
        simp only [List.getD_eq_getElem?_getD] at hl
        rw [this, if_pos rfl, if_pos (by rw [hl]; exact hj')]; rfl
      · have : Nat.beq q j = false := by
          cases hb : Nat.beq q j with
          | false => rfl
          | true => exact absurd (Nat.eq_of_beq_eq_true hb).symm hq
        rw [this, if_neg hq]; rfl
    rw [this]; exact hG
  · rw [if_neg hk] at hc hy
    exact p.el k c y hc hy

theorem wr_set {y : List Value} {j : Nat} {v : Value} (h : j < y.length) : wr y j [v] = some (y.set j v) := by
  induction y generalizing j with
  | nil => simp at h
  | cons a y ih =>
    cases j with
    | zero => simp [wr, wrn]
    | succ j =>
      show (wr y j [v]).map (a :: ·) = _
      rw [ih (by simpa using h)]; rfl

end Go.Lx
namespace Go.Lx
open Go Go.Vc Go.Md

theorem flatten_setR (sz j : Nat) (x : Value) : ∀ (css : List (List Value)) (i : Nat), (∀ y ∈ css, y.length = sz) → i < css.length → j < sz → (css.set i ((css.getD i []).set j x)).flatten = css.flatten.set (i * sz + j) x
  | [], i, _, h, _ => by simp at h
  | y :: css, 0, hl, _, hj => by
    have hy := hl y (by simp)
    simp only [List.set_cons_zero, List.getD_cons_zero, List.flatten_cons, Nat.zero_mul, Nat.zero_add]
    rw [List.set_append_left _ _ (by rw [hy]; exact hj)]
  | y :: css, i + 1, hl, h, hj => by
    have hy := hl y (by simp)
    have ih := flatten_setR sz j x css i (fun z hz => hl z (List.mem_cons_of_mem _ hz)) (by simpa using h) hj
    simp only [List.set_cons_succ, List.getD_cons_succ, List.flatten_cons]
    rw [ih, List.set_append_right _ _ (by rw [hy, Nat.add_mul]; omega), hy]
    congr 2
    rw [Nat.add_mul]; omega

theorem rowO_of_turn {w w' : World} {S : Nat → Prop} {E sz n : Nat} {v : Value} {xs : List (List Value)} (h : Turn w w' S (rowV E sz v n xs)) : Turn w w' S (rowO E sz v n xs) := by
  obtain ⟨a, b, c, d, e, S', h1, h2⟩ := h
  exact ⟨a, b, c, d, e, S', (imp_rowO E sz v n xs).out _ _ h1, h2⟩

section rules
variable {P : Program} {n : Nat} {cx : Cx} {e : Env} {L : List Chunk} {ops : Array Oper} {rest : List Oper} {F : Env → List Chunk → Prop} {ss : List Kd} {ty : TypeId} {pos : String} {af : Array Edge} {g : Option (Nat × Bool)}

theorem run_storeO {T j sz k m c E i : Nat} {A X : Operand} {x : Value} {a : Option Addr} {css : List (List Value)} {w : World} {S : Nat → Prop} (hs : ∀ w, (sizeOf T).run P w = .ok 1 w) (hp : ev e A = ptrAt a k) (hk : k = i * sz + j) (hx : ev e X = x) (hc : x.cells.toList = [x])
    (hone : [x].all Value.oneCell' = true) (hj : j < sz) (hi : i < css.length) (h : (rowO E sz (.slice a m c) m css).P S w) (hlt : ∀ b, S b → b < w.heap.size) :
    ∃ w', (execOp (ev e) ⟨none, .store T A X, ty, pos, af, g⟩).run P w = .ok .skip w' ∧ Turn w w' S (rowO E sz (.slice a m c) m (css.set i ((css.getD i []).set j x))) := by
  obtain ⟨⟨h1, hlen, hlx⟩, hb⟩ := h
  have hget : css[i]? = some (css.getD i []) := by rw [List.getD_eq_getElem?_getD, List.getElem?_eq_getElem hi]; rfl
  have hyl := hlx _ (List.mem_of_getElem? hget)
  have hl2 : ∀ x' ∈ css.set i ((css.getD i []).set j x), x'.length = sz := fun z' hz => by
    rcases List.mem_or_eq_of_mem_set hz with h | h
    · exact hlx z' h
    · subst h; rw [List.length_set]; exact hyl
  rcases h1 with ho | ⟨b, off, cap, cur, hv, hh, q1, q2, q3, q4⟩
  · have hv' : wr (css.getD i []) j [x] = some ((css.getD i []).set j x) := wr_set (by rw [hyl]; exact hj)
    obtain ⟨w', hr, h2, h3⟩ := run_storeR (P := P) (ty := ty) (pos := pos) (af := af) (g := g) hs hp hk hx hc rfl rfl hone hget hv' ho hlen hlx
    exact ⟨w', hr, rowO_of_turn (turn_append hb h2 h3 (.inl rfl) (by simp [hlen]) hl2)⟩
  · simp only [Value.slice.injEq] at hv
    obtain ⟨rfl, -, rfl⟩ := hv
    have hbound : i * sz + j < m * sz := by
      have := Nat.mul_le_mul_right sz (show i + 1 ≤ m by omega)
      rw [Nat.add_mul, Nat.one_mul] at this; omega
    have hcs : off + (i * sz + j) < cur.size := by
      have := Nat.mul_le_mul_right sz q1
      omega
    have hp' : ev e A = .pointer (some ⟨b, off + (i * sz + j), none⟩) := by rw [hp, hk]; rfl
    have hw := wr_set (y := cur.toList) (j := off + (i * sz + j)) (v := x) (by simpa using hcs)
    have hb' : w.heap[b]? = some (.cells cur.toList.toArray E (0, 0)) := by rw [hh]
    refine ⟨_, Go.Vc.run_store hs hp' hx hc rfl rfl hone hw hb', ?_⟩
    have hset := setRow_heap w b cur.toList.toArray (cur.toList.set (off + (i * sz + j)) x).toArray E (0, 0) hb'
    have hSb : S b := hb b rfl
    refine ⟨rfl, rfl, rfl, by simp, fun d hd hn => setRow_other w b d _ (fun e => hn (e ▸ hSb)), S, ⟨⟨.inr ⟨b, off, c, _, rfl, hset, q1, q2, by simpa using q3, ?_⟩, by simp [hlen], hl2⟩, hb⟩, fun d hd => ⟨by simpa using hlt d hd, .inl hd⟩⟩
    rw [flatten_setR sz j x css i hlx hi hj, ← q4]
    show ((cur.toList.set (off + (i * sz + j)) x).drop off).take (m * sz) = _
    rw [List.drop_set, if_neg (by omega), Nat.add_sub_cancel_left, List.take_set]

end rules
end Go.Lx

namespace Go.Lx
open Go Go.Vc Go.Md
/-- A nested row of one's own that may be a part of a longer one, with what it leads to. -/
def rofD {α : Type} (E sz : Nat) (G : Heap → (Nat → Value) → α → Prop) (v : Value) (n : Nat) (xs : List α) : Chunk where
  P S w := ∃ (hp : Heap) (css : List (List Value)), AllC G hp sz css xs ∧ n = css.length ∧ (bothC (poolC noH hp) (rowO E sz v n (css.map idC))).P S w
  loc S w w' h := by
    rintro ⟨hp, css, h1, h2, h3⟩
    exact ⟨hp, css, h1, h2, Chunk.loc _ _ _ _ h h3⟩
theorem imp_rofD {α : Type} {G : Heap → (Nat → Value) → α → Prop} {hp : Heap} {E sz n : Nat} {p : Option Addr × Nat} {css : List (List Value)} {xs : List α} (hn : n = css.length) (f : AllC G hp sz css xs) :
    Imp (bothC (poolC noH hp) (rowO E sz (.slice p.1 n p.2) n (css.map idC))) (rofD E sz G (.slice p.1 n p.2) n xs) := ⟨fun S w h => ⟨hp, css, f, hn, h⟩⟩
section
variable {cx : Cx} {K : Env → World → Prop} {e : Env} {L : List Chunk}
theorem c_rofD {α : Type} {G : Heap → (Nat → Value) → α → Prop} {E sz n : Nat} {p : Option Addr × Nat} {xs : List α} (i : Nat) (hi : L[i]? = some (rofD E sz G (.slice p.1 n p.2) n xs))
    (k : ∀ (hp : Heap) (css : List (List Value)), n = css.length → AllC G hp sz css xs → At cx K e (L.set i (bothC (poolC noH hp) (rowO E sz (.slice p.1 n p.2) n (css.map idC))))) : At cx K e L :=
  c_show (τ := Heap × List (List Value)) (D := fun t => bothC (poolC noH t.1) (rowO E sz (.slice p.1 n p.2) n (t.2.map idC))) (φ := fun t => n = t.2.length ∧ AllC G t.1 sz t.2 xs) i hi (fun S w ⟨hp, css, h1, h2, h3⟩ => ⟨(hp, css), ⟨h2, h1⟩, h3⟩) fun t ht => k t.1 t.2 ht.1 ht.2
end
end Go.Lx

namespace Go.Lx
open Go Go.Vc Go.Md
section
variable {P : Program} {n : Nat} {cx : Cx} {e : Env} {L : List Chunk} {ops : Array Oper} {rest : List Oper} {F : Env → List Chunk → Prop} {ss : List Kd} {ty : TypeId} {pos : String} {af : Array Edge} {g : Option (Nat × Bool)}

theorem d_readE {o : Oper} {d : Nat} {v : Value} {rds : List Nat} (hw : want ops o e = true) (hd : o.dst = some d) (hr : ∀ w L', Fr cx w → Sat cx w L' → (∀ i ∈ rds, L'[i]? = L[i]?) → (execOp (ev e) o).run P w = .ok (.value v) w)
    (k : Sq P cx ops F rest ss (upd e d v) L) : Sq P cx ops F (o :: rest) (.d rds v :: ss) e L := d_readD hr hw hd k

theorem run_fieldG {α : Type} {f : α → List Value} {xs : List α} {x' : α} {i : Int} {d : Option Nat} {T fld k fo ft fsz bo : Nat} {a : Option Addr} {nm tg pk : String} {em : Bool} {X : Operand} {fs : Array Field} {sz' : Nat} {w : World} (hu : ∀ w, (underlying T).run P w = .ok (.struct fs) w)
    (hf : fs[fld]? = some ⟨nm, ft, fo, em, tg, pk, bo⟩) (hs : ∀ w, (sizeOf ft).run P w = .ok fsz w) (hsz : Nat.blt 0 fsz = true) (hp : ev e X = ptrAt a k) (hR : Row w a sz' (xs.map f)) (hg : gAt xs i = some x') :
    (execOp (ev e) ⟨d, .fieldAddr T X fld, ty, pos, af, g⟩).run P w = .ok (.value (ptrAt a (k + fo))) w :=
  r_fieldP hu hf hs hsz hp (hR.some (by rw [List.length_map]; exact (gAt_some hg).2.1)) w

theorem someOfO {α : Type} {w : World} {i E sz n c : Nat} {a : Option Addr} {f : α → List Value} {xs : List α} {k : Int} {x : α} (hS : Sat cx w L) (hL : L[i]? = some (rowO E sz (.slice a n c) n (xs.map f))) (hg : gAt xs k = some x) : ∃ b off, a = some ⟨b, off, none⟩ := by
  obtain ⟨S, ⟨⟨h1, h2, h3⟩, _⟩, _⟩ := hS.at hL
  have := (gAt_some hg).2.1
  rcases h1 with h1 | ⟨g, off, cap, cur, hv, _⟩
  · rcases h1.2 with ⟨hv, h0⟩ | ⟨g, cap, cur, hv, _⟩
    · rw [List.length_map] at h2; omega
    · simp only [Value.slice.injEq] at hv; exact ⟨g, 0, hv.1⟩
  · simp only [Value.slice.injEq] at hv; exact ⟨g, off, hv.1⟩

end
end Go.Lx

namespace Go.Lx
open Go Go.Vc Go.Md

def ptrB : Value → Nat
  | .pointer (some ⟨b, _, _⟩) => b
  | _ => 0
def ptrO : Value → Nat
  | .pointer (some ⟨_, o, _⟩) => o
  | _ => 0

/-- A chunk in which one cell has been set. -/
def stC (C : Chunk) (b o : Nat) (x : Value) : Chunk where
  P S w := ∃ (w0 : World) (cur : Array Value) (T : TypeId), C.P S w0 ∧ S b ∧ w0.heap[b]? = some (.cells cur T (0, 0)) ∧ w.heap[b]? = some (.cells (cur.toList.set o x).toArray T (0, 0)) ∧ ∀ d, S d → d ≠ b → w.heap[d]? = w0.heap[d]?
  loc S w w' h := by
    rintro ⟨w0, cur, T, h1, h2, h3, h4, h5⟩
    exact ⟨w0, cur, T, h1, h2, h3, (h b h2).trans h4, fun d hd hne => (h d hd).trans (h5 d hd hne)⟩
def stV (C : Option Chunk) (v x : Value) : Chunk := match C with
  | some C => stC C (ptrB v) (ptrO v) x
  | none => empC

theorem turn_st {C : Chunk} {b o : Nat} {x : Value} {w : World} {S : Nat → Prop} {cur : Array Value} {T : TypeId} (hp : C.P S w) (hSb : S b) (hb : w.heap[b]? = some (.cells cur T (0, 0))) (hlt : ∀ b, S b → b < w.heap.size) :
    Turn w (w.setRow b (cur.toList.set o x).toArray) S (stC C b o x) :=
  ⟨rfl, rfl, rfl, by simp, fun d hd hn => setRow_other w b d _ (fun e => hn (e ▸ hSb)), S,
    ⟨w, cur, T, hp, hSb, hb, setRow_heap w b cur (cur.toList.set o x).toArray T (0, 0) hb, fun d hd hne => setRow_other w b d _ hne⟩, fun d hd => ⟨by simpa using hlt d hd, .inl hd⟩⟩

theorem rowO_block {S : Nat → Prop} {w : World} {E sz n c t : Nat} {a : Option Addr} {css : List (List Value)} (h : (rowO E sz (.slice a n c) n css).P S w) (ht : t < n * sz) :
    ∃ g off cur, a = some ⟨g, off, none⟩ ∧ S g ∧ w.heap[g]? = some (.cells cur E (0, 0)) ∧ off + t < cur.size := by
  obtain ⟨⟨h1, hlen, hlx⟩, hb⟩ := h
  rcases h1 with h1 | ⟨g, off, cap, cur, hv, hh, q1, q2, q3, q4⟩
  · rcases h1.2 with ⟨hv, h0⟩ | ⟨g, cap, cur, hv, hbase, hh, q1, q2, q3, q4⟩
    · rw [h0] at ht; simp at ht
    · simp only [Value.slice.injEq] at hv
      obtain ⟨rfl, -, rfl⟩ := hv
      have := Nat.mul_le_mul_right sz q1
      exact ⟨g, 0, cur, rfl, hb g rfl, hh, by omega⟩
  · simp only [Value.slice.injEq] at hv
    obtain ⟨rfl, -, rfl⟩ := hv
    have := Nat.mul_le_mul_right sz q1
    exact ⟨g, off, cur, rfl, hb g rfl, hh, by omega⟩

theorem cell_in {n sz i j : Nat} (hi : i < n) (hj : j < sz) : i * sz + j < n * sz := by
  have := Nat.mul_le_mul_right sz (show i + 1 ≤ n by omega)
  rw [Nat.add_mul, Nat.one_mul] at this; omega

theorem idC_map (l : List (List Value)) : l.map idC = l := by
  have : (idC : List Value → List Value) = id := rfl
  rw [this, List.map_id]

theorem imp_stO {C : Chunk} {E sz n c j : Nat} {a : Option Addr} {css : List (List Value)} {i : Int} {x v : Value} (h : Imp C (rowO E sz (.slice a n c) n (css.map idC))) {α : Type} {xs : List α} {y : α} (hl : css.length = xs.length) (hg : gAt xs i = some y) (hj : Nat.blt j sz = true)
    (hv : v = ptrAt a (i.toNat * sz + j)) : Imp (stC C (ptrB v) (ptrO v) x) (rowO E sz (.slice a n c) n ((setR css i j x).map idC)) := ⟨fun S w ⟨w0, cur', T', hp, hSb, hb0, hb1, hoth⟩ => by
  subst hv
  have hj' : j < sz := by simpa using hj
  obtain ⟨_, hi, _⟩ := gAt_some (ixR hl hg)
  have h0 := h.out S w0 hp
  rw [idC_map] at h0 ⊢
  obtain ⟨⟨h1, hlen, hlx⟩, hb⟩ := h0
  have hget : css[i.toNat]? = some (css.getD i.toNat []) := by rw [List.getD_eq_getElem?_getD, List.getElem?_eq_getElem hi]; rfl
  have hyl := hlx _ (List.mem_of_getElem? hget)
  have hl2 : ∀ x' ∈ setR css i j x, x'.length = sz := fun z' hz => by
    rcases List.mem_or_eq_of_mem_set hz with h | h
    · exact hlx z' h
    · subst h; rw [List.length_set]; exact hyl
  have hin := cell_in (n := n) (by omega : i.toNat < n) hj'
  have hfl := flatten_setR sz j x css i.toNat hlx hi hj'
  refine ⟨⟨?_, by rw [setR_len]; exact hlen, hl2⟩, hb⟩
  rcases h1 with h1 | ⟨g, off, cap, cur, hv, hh, q1, q2, q3, q4⟩
  · rcases h1.2 with ⟨hv, h0⟩ | ⟨g, cap, cur, hv, hbase, hh, q1, q2, q3, q4⟩
    · rw [h0] at hin; simp at hin
    · simp only [Value.slice.injEq] at hv
      obtain ⟨rfl, -, rfl⟩ := hv
      have e1 : ptrB (ptrAt (some (⟨g, 0, none⟩ : Addr)) (i.toNat * sz + j)) = g := rfl
      have e2 : ptrO (ptrAt (some (⟨g, 0, none⟩ : Addr)) (i.toNat * sz + j)) = i.toNat * sz + j := Nat.zero_add _
      rw [e1] at hb0 hb1
      rw [e2] at hb1
      rw [hh] at hb0
      simp only [Option.some.injEq, Obj.cells.injEq] at hb0
      obtain ⟨rfl, rfl, -⟩ := hb0
      refine .inl ⟨?_, .inr ⟨g, c, _, rfl, hbase, hb1, q1, q2, by simpa using q3, ?_⟩⟩
      · have h9 := h1.1
        unfold setR; rw [hfl, List.length_set]; exact h9
      · unfold setR; rw [hfl, ← q4]
        show (cur.toList.set (i.toNat * sz + j) x).take (n * sz) = _
        rw [List.take_set]
  · simp only [Value.slice.injEq] at hv
    obtain ⟨rfl, -, rfl⟩ := hv
    have e1 : ptrB (ptrAt (some (⟨g, off, none⟩ : Addr)) (i.toNat * sz + j)) = g := rfl
    have e2 : ptrO (ptrAt (some (⟨g, off, none⟩ : Addr)) (i.toNat * sz + j)) = off + (i.toNat * sz + j) := rfl
    rw [e1] at hb0 hb1
    rw [e2] at hb1
    rw [hh] at hb0
    simp only [Option.some.injEq, Obj.cells.injEq] at hb0
    obtain ⟨rfl, rfl, -⟩ := hb0
    refine .inr ⟨g, off, c, _, rfl, hb1, q1, q2, by simpa using q3, ?_⟩
    unfold setR; rw [hfl, ← q4]
    show ((cur.toList.set (off + (i.toNat * sz + j)) x).drop off).take (n * sz) = _
    rw [List.drop_set, if_neg (by omega), Nat.add_sub_cancel_left, List.take_set]⟩

theorem imp_stV {C : Chunk} {E sz n c j : Nat} {a : Option Addr} {css : List (List Value)} {i : Int} {x v : Value} (h : Imp C (rowV E sz (.slice a n c) n (css.map idC))) {α : Type} {xs : List α} {y : α} (hl : css.length = xs.length) (hg : gAt xs i = some y) (hj : Nat.blt j sz = true)
    (hv : v = ptrAt a (i.toNat * sz + j)) : Imp (stC C (ptrB v) (ptrO v) x) (rowV E sz (.slice a n c) n ((setR css i j x).map idC)) := ⟨fun S w ⟨w0, cur', T', hp, hSb, hb0, hb1, hoth⟩ => by
  subst hv
  have hj' : j < sz := by simpa using hj
  obtain ⟨_, hi, _⟩ := gAt_some (ixR hl hg)
  have h0 := h.out S w0 hp
  rw [idC_map] at h0 ⊢
  obtain ⟨⟨h1, hlen, hlx⟩, hb⟩ := h0
  have hget : css[i.toNat]? = some (css.getD i.toNat []) := by rw [List.getD_eq_getElem?_getD, List.getElem?_eq_getElem hi]; rfl
  have hyl := hlx _ (List.mem_of_getElem? hget)
  have hl2 : ∀ x' ∈ setR css i j x, x'.length = sz := fun z' hz => by
    rcases List.mem_or_eq_of_mem_set hz with h | h
    · exact hlx z' h
    · subst h; rw [List.length_set]; exact hyl
  have hin := cell_in (n := n) (by omega : i.toNat < n) hj'
  have hfl := flatten_setR sz j x css i.toNat hlx hi hj'
  refine ⟨⟨?_, by rw [setR_len]; exact hlen, hl2⟩, hb⟩
  rcases h1.2 with ⟨hv, h0⟩ | ⟨g, cap, cur, hv, hbase, hh, q1, q2, q3, q4⟩
  · rw [h0] at hin; simp at hin
  · simp only [Value.slice.injEq] at hv
    obtain ⟨rfl, -, rfl⟩ := hv
    have e1 : ptrB (ptrAt (some (⟨g, 0, none⟩ : Addr)) (i.toNat * sz + j)) = g := rfl
    have e2 : ptrO (ptrAt (some (⟨g, 0, none⟩ : Addr)) (i.toNat * sz + j)) = i.toNat * sz + j := Nat.zero_add _
    rw [e1] at hb0 hb1
    rw [e2] at hb1
    rw [hh] at hb0
    simp only [Option.some.injEq, Obj.cells.injEq] at hb0
    obtain ⟨rfl, rfl, -⟩ := hb0
    refine ⟨?_, .inr ⟨g, c, _, rfl, hbase, hb1, q1, q2, by simpa using q3, ?_⟩⟩
    · have h9 := h1.1
      unfold setR; rw [hfl, List.length_set]; exact h9
    · unfold setR; rw [hfl, ← q4]
      show (cur.toList.set (i.toNat * sz + j) x).take (n * sz) = _
      rw [List.take_set]⟩

theorem imp_stB {C : Chunk} {b o T : Nat} {cs cs' : List Value} {x : Value} (h : Imp C (cellsC b cs T)) (hcs : cs.set o x = cs') : Imp (stC C b o x) (cellsC b cs' T) := ⟨fun S w ⟨w0, cur', T', hp, hSb, hb0, hb1, hoth⟩ => by
  have h0 := h.out S w0 hp
  have hb := h0.2
  rw [hb0] at hb
  simp only [Option.some.injEq, Obj.cells.injEq] at hb
  obtain ⟨rfl, rfl, -⟩ := hb
  subst hcs
  exact ⟨h0.1, hb1⟩⟩

section
variable {P : Program} {n : Nat} {cx : Cx} {e : Env} {L : List Chunk} {ops : Array Oper} {rest : List Oper} {F : Env → List Chunk → Prop} {ss : List Kd} {ty : TypeId} {pos : String} {af : Array Edge} {g : Option (Nat × Bool)}

/-- A store of a value that the region makes, whatever the chunk. -/
def Kd.stk (a q i : Nat) : Kd := .g [a, q] [i] [i] (fun _ _ v => v = undef) (fun vs l _ => [stV (l.headD none) (vs.headD undef) (vs.getD 1 undef)])

theorem d_storeC {i : Nat} {a q T : Nat} {x va : Value} {C : Chunk} (hs : ∀ w, (sizeOf T).run P w = .ok 1 w) (hw : want ops ⟨none, .store T (.tmp a) (.tmp q), ty, pos, af, g⟩ e = true) (hp : e a = va) (hx : e q = x) (hc : x.cells.toList = [x]) (hone : [x].all Value.oneCell' = true)
    (hL : L[i]? = some C) (hblk : ∀ S w, C.P S w → ∃ b o cur T0, va = .pointer (some ⟨b, o, none⟩) ∧ S b ∧ w.heap[b]? = some (.cells cur T0 (0, 0)) ∧ o < cur.size)
    (k : Sq P cx ops F rest ss e (L.set i (stC C (ptrB va) (ptrO va) x))) : Sq P cx ops F (⟨none, .store T (.tmp a) (.tmp q), ty, pos, af, g⟩ :: rest) (Kd.stk a q i :: ss) e L := by
  have hst : stV (([i].map (Go.Vc.look L)).headD none) (([a, q].map e).headD undef) (([a, q].map e).getD 1 undef) = stC C (ptrB va) (ptrO va) x := by
    show stV (Go.Vc.look L i) (e a) (e q) = _
    have : Go.Vc.look L i = some C := hL
    rw [this, hp, hx]; rfl
  refine .take hw ⟨undef, rfl⟩ ⟨fun w L' hF hS _ hi => ?_⟩ fun v' hv' => ?_
  · have hL' := (hi i (.inl (by simp [Kd.stk, Kd.rds]))).trans hL
    obtain ⟨S0, hC, hlt⟩ := hS.at hL'
    obtain ⟨b, o, cur, T0, hva, hSb, hb, ho⟩ := hblk S0 w hC
    have hw' := wr_set (y := cur.toList) (j := o) (v := x) (by simpa using ho)
    have hrun := Go.Vc.run_store (P := P) (ty := ty) (pos := pos) (af := af) (g := g) hs (show ev e (.tmp a) = .pointer (some ⟨b, o, none⟩) from hp.trans hva) (show ev e (.tmp q) = x from hx) hc rfl rfl hone hw' (show w.heap[b]? = some (.cells cur.toList.toArray T0 (0, 0)) from hb)
    have e1 : ptrB va = b := by rw [hva]; rfl
    have e2 : ptrO va = o := by rw [hva]; rfl
    rw [e1, e2] at hst
    have ht := turn_st (o := o) (x := x) hC hSb hb (fun b hb => (hlt b hb).1)
    have hF' := hF.turn ht fun b hs => (hlt b hs).2
    have hS' := hS.turnAt hF hL' (w' := w.setRow b (cur.toList.set o x).toArray) (C := stC C b o x) (fun S1 hp1 hlt1 => by
      obtain ⟨b1, o1, cur1, T1, hva1, hSb1, hb1, ho1⟩ := hblk S1 w hp1
      rw [hva] at hva1
      simp only [Value.pointer.injEq, Option.some.injEq, Addr.mk.injEq, and_true] at hva1
      obtain ⟨rfl, rfl⟩ := hva1
      exact turn_st hp1 hSb1 hb fun b hb => (hlt1 b hb).1) ht.size
    unfold RunsTo
    rw [hrun]
    refine ⟨rfl, hF', ?_⟩
    show Sat cx _ (L'.set i (stV (([i].map (Go.Vc.look L)).headD none) (([a, q].map e).headD undef) (([a, q].map e).getD 1 undef)))
    rw [hst]
    exact hS'
  · show Sq P cx ops F rest ss (putD e none v') (L.set i (stV (([i].map (Go.Vc.look L)).headD none) (([a, q].map e).headD undef) (([a, q].map e).getD 1 undef)))
    rw [hst]
    exact k

theorem blk_row {C : Chunk} {E sz n c j : Nat} {a : Option Addr} {css : List (List Value)} {i : Int} {v : Value} (h : Imp C (rowO E sz (.slice a n c) n (css.map idC))) (hn : n = css.length) {α : Type} {xs : List α} {y : α} (hl : css.length = xs.length) (hg : gAt xs i = some y) (hj : Nat.blt j sz = true) (hv : v = ptrAt a (i.toNat * sz + j)) :
    ∀ S w, C.P S w → ∃ b o cur T0, v = .pointer (some ⟨b, o, none⟩) ∧ S b ∧ w.heap[b]? = some (.cells cur T0 (0, 0)) ∧ o < cur.size := fun S w hp => by
  obtain ⟨_, hi, _⟩ := gAt_some (ixR hl hg)
  obtain ⟨g, off, cur, rfl, h1, h2, h3⟩ := rowO_block (h.out S w hp) (cell_in (n := n) (by omega : i.toNat < n) (by simpa using hj : j < sz))
  exact ⟨g, _, cur, E, hv.trans rfl, h1, h2, h3⟩
theorem Imp.toO {C : Chunk} {E sz n : Nat} {v : Value} {xs : List (List Value)} (h : Imp C (rowV E sz v n xs)) : Imp C (rowO E sz v n xs) := ⟨fun S w hp => (imp_rowO E sz v n xs).out S w (h.out S w hp)⟩
theorem blk_box {C : Chunk} {b o T : Nat} {cs : List Value} {v : Value} (h : Imp C (cellsC b cs T)) (hv : v = .pointer (some ⟨b, o, none⟩)) (ho : Nat.blt o cs.length = true) :
    ∀ S w, C.P S w → ∃ b o cur T0, v = .pointer (some ⟨b, o, none⟩) ∧ S b ∧ w.heap[b]? = some (.cells cur T0 (0, 0)) ∧ o < cur.size := fun S w hp =>
  have h0 := h.out S w hp
  ⟨b, o, cs.toArray, T, hv, (h0.1 b).2 rfl, h0.2, by simpa using ho⟩

theorem offOfI {C : Chunk} {w : World} {i E sz n c : Nat} {a : Option Addr} {xs : List (List Value)} (hI : Imp C (rowO E sz (.slice a n c) n xs)) (hS : Sat cx w L) (hL : L[i]? = some C) : Row w a sz xs := by
  obtain ⟨S, hp, _⟩ := hS.at hL
  exact (rowO_frs0 (hI.out S w hp)).row fun _ _ h => h
end
end Go.Lx
