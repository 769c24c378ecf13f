/- Rules: stores of slices that a region makes into elements of nested rows. Conditions: none. -/
import Derived.Test.YthhaabhnlndnoaaGreatLx26
import Derived.Test.YthhaabhnlndnoaaGreatMd7
namespace Go.Lx
open Go Go.Vc Go.Md

/-- A cell of a row of cells. -/
def setR (css : List (List Value)) (i : Int) (j : Nat) (v : Value) : List (List Value) := css.set i.toNat ((css.getD i.toNat []).set j v)
def updF (c : Nat → Value) (j : Nat) (v : Value) (q : Nat) : Value := cond (Nat.beq q j) v (c q)
theorem setR_len (css : List (List Value)) (i : Int) (j : Nat) (v : Value) : (setR css i j v).length = css.length := by simp [setR]
theorem lenR {α : Type} {css : List (List Value)} {xs ys : List α} {i : Int} {j : Nat} {v : Value} {x : α} (h : css.length = xs.length) (g : gSet xs i x = some ys) : (setR css i j v).length = ys.length := by
  obtain ⟨_, _, rfl⟩ := gSet_some g
  rw [setR_len, h, List.length_set]
theorem ixR {α : Type} {css : List (List Value)} {xs : List α} {i : Int} {x : α} (h : css.length = xs.length) (g : gAt xs i = some x) : gAt css i = some (css.getD i.toNat []) := by
  obtain ⟨h0, h1, _⟩ := gAt_some g
  unfold gAt
  rw [if_pos h0, List.getD_eq_getElem?_getD, List.getElem?_eq_getElem (by rw [h]; exact h1)]; rfl

theorem AllC.setR {α : Type} {G : Heap → (Nat → Value) → α → Prop} {h : Heap} {sz : Nat} {css : List (List Value)} {xs ys : List α} (p : AllC G h sz css xs) {i : Int} {x x' : α} {j : Nat} {v : Value} (g : gAt xs i = some x) (g2 : gSet xs i x' = some ys) (hj : Nat.blt j sz = true)
    (hG : G h (updF (fun q => (css.getD i.toNat []).getD q undef) j v) x') : AllC G h sz (Go.Lx.setR css i j v) ys := by
  have hj' : j < sz := by simpa using hj
  obtain ⟨h0, h1, rfl⟩ := gSet_some g2
  have hget := p.get g
  have hl := (p.el _ _ _ hget (gAt_some g).2.2).1
  refine ⟨by rw [setR_len, p.len, List.length_set], fun k c y hc hy => ?_⟩
  unfold Go.Lx.setR at hc
  rw [List.getElem?_set] at hc hy
  by_cases hk : i.toNat = k
  · subst hk
    rw [if_pos rfl, if_pos (by rw [p.len]; exact h1)] at hc
    rw [if_pos rfl, if_pos h1] at hy
    cases hc; cases hy
    refine ⟨by rw [List.length_set]; exact hl, ?_⟩
    have : (fun q => ((css.getD i.toNat []).set j v).getD q undef) = updF (fun q => (css.getD i.toNat []).getD q undef) j v := by
      funext q
      unfold updF
      simp only [List.getD_eq_getElem?_getD, List.getElem?_set]
      by_cases hq : j = q
      · subst hq
        have : Nat.beq j j = true := by simp
        simp only [List.getD_eq_getElem?_getD] at hl
        rw [this, if_pos rfl, if_pos (by rw [hl]; exact hj')]; rfl
      · have : Nat.beq q j = false := by
          cases hb : Nat.beq q j with
          | false => rfl
          | true => exact absurd (Nat.eq_of_beq_eq_true hb).symm hq
        rw [this, if_neg hq]; rfl
    rw [this]; exact hG
  · rw [if_neg hk] at hc hy
    exact p.el k c y hc hy

theorem wr_set {y : List Value} {j : Nat} {v : Value} (h : j < y.length) : wr y j [v] = some (y.set j v) := by
  induction y generalizing j with
  | nil => simp at h
  | cons a y ih =>
    cases j with
    | zero => simp [wr, wrn]
    | succ j =>
      show (wr y j [v]).map (a :: ·) = _
      rw [ih (by simpa using h)]; rfl

end Go.Lx
namespace Go.Lx
open Go Go.Vc Go.Md

theorem flatten_setR (sz j : Nat) (x : Value) : ∀ (css : List (List Value)) (i : Nat), (∀ y ∈ css, y.length = sz) → i < css.length → j < sz → (css.set i ((css.getD i []).set j x)).flatten = css.flatten.set (i * sz + j) x
  | [], i, _, h, _ => by simp at h
  | y :: css, 0, hl, _, hj => by
    have hy := hl y (by simp)
    simp only [List.set_cons_zero, List.getD_cons_zero, List.flatten_cons, Nat.zero_mul, Nat.zero_add]
    rw [List.set_append_left _ _ (by rw [hy]; exact hj)]
  | y :: css, i + 1, hl, h, hj => by
    have hy := hl y (by simp)
    have ih := flatten_setR sz j x css i (fun z hz => hl z (List.mem_cons_of_mem _ hz)) (by simpa using h) hj
    simp only [List.set_cons_succ, List.getD_cons_succ, List.flatten_cons]
    rw [ih, List.set_append_right _ _ (by rw [hy, Nat.add_mul]; omega), hy]
    congr 2
    rw [Nat.add_mul]; omega

theorem rowO_of_turn {w w' : World} {S : Nat → Prop} {E sz n : Nat} {v : Value} {xs : List (List Value)} (h : Turn w w' S (rowV E sz v n xs)) : Turn w w' S (rowO E sz v n xs) := by
  obtain ⟨a, b, c, d, e, S', h1, h2⟩ := h
  exact ⟨a, b, c, d, e, S', (imp_rowO E sz v n xs).out _ _ h1, h2⟩

section rules
variable {P : Program} {n : Nat} {cx : Cx} {e : Env} {L : List Chunk} {ops : Array Oper} {rest : List Oper} {F : Env → List Chunk → Prop} {ss : List Kd} {ty : TypeId} {pos : String} {af : Array Edge} {g : Option (Nat × Bool)}

theorem run_storeO {T j sz k m c E i : Nat} {A X : Operand} {x : Value} {a : Option Addr} {css : List (List Value)} {w : World} {S : Nat → Prop} (hs : ∀ w, (sizeOf T).run P w = .ok 1 w) (hp : ev e A = ptrAt a k) (hk : k = i * sz + j) (hx : ev e X = x) (hc : x.cells.toList = [x])
    (hone : [x].all Value.oneCell' = true) (hj : j < sz) (hi : i < css.length) (h : (rowO E sz (.slice a m c) m css).P S w) (hlt : ∀ b, S b → b < w.heap.size) :
    ∃ w', (execOp (ev e) ⟨none, .store T A X, ty, pos, af, g⟩).run P w = .ok .skip w' ∧ Turn w w' S (rowO E sz (.slice a m c) m (css.set i ((css.getD i []).set j x))) := by
  obtain ⟨⟨h1, hlen, hlx⟩, hb⟩ := h
  have hget : css[i]? = some (css.getD i []) := by rw [List.getD_eq_getElem?_getD, List.getElem?_eq_getElem hi]; rfl
  have hyl := hlx _ (List.mem_of_getElem? hget)
  have hl2 : ∀ x' ∈ css.set i ((css.getD i []).set j x), x'.length = sz := fun z' hz => by
    rcases List.mem_or_eq_of_mem_set hz with h | h
    · exact hlx z' h
    · subst h; rw [List.length_set]; exact hyl
  rcases h1 with ho | ⟨b, off, cap, cur, hv, hh, q1, q2, q3, q4⟩
  · have hv' : wr (css.getD i []) j [x] = some ((css.getD i []).set j x) := wr_set (by rw [hyl]; exact hj)
    obtain ⟨w', hr, h2, h3⟩ := run_storeR (P := P) (ty := ty) (pos := pos) (af := af) (g := g) hs hp hk hx hc rfl rfl hone hget hv' ho hlen hlx
    exact ⟨w', hr, rowO_of_turn (turn_append hb h2 h3 (.inl rfl) (by simp [hlen]) hl2)⟩
  · simp only [Value.slice.injEq] at hv
    obtain ⟨rfl, -, rfl⟩ := hv
    have hbound : i * sz + j < m * sz := by
      have := Nat.mul_le_mul_right sz (show i + 1 ≤ m by omega)
      rw [Nat.add_mul, Nat.one_mul] at this; omega
    have hcs : off + (i * sz + j) < cur.size := by
      have := Nat.mul_le_mul_right sz q1
      omega
    have hp' : ev e A = .pointer (some ⟨b, off + (i * sz + j), none⟩) := by rw [hp, hk]; rfl
    have hw := wr_set (y := cur.toList) (j := off + (i * sz + j)) (v := x) (by simpa using hcs)
    have hb' : w.heap[b]? = some (.cells cur.toList.toArray E (0, 0)) := by rw [hh]
    refine ⟨_, Go.Vc.run_store hs hp' hx hc rfl rfl hone hw hb', ?_⟩
    have hset := setRow_heap w b cur.toList.toArray (cur.toList.set (off + (i * sz + j)) x).toArray E (0, 0) hb'
    have hSb : S b := hb b rfl
    refine ⟨rfl, rfl, rfl, by simp, fun d hd hn => setRow_other w b d _ (fun e => hn (e ▸ hSb)), S, ⟨⟨.inr ⟨b, off, c, _, rfl, hset, q1, q2, by simpa using q3, ?_⟩, by simp [hlen], hl2⟩, hb⟩, fun d hd => ⟨by simpa using hlt d hd, .inl hd⟩⟩
    rw [flatten_setR sz j x css i hlx hi hj, ← q4]
    show ((cur.toList.set (off + (i * sz + j)) x).drop off).take (m * sz) = _
    rw [List.drop_set, if_neg (by omega), Nat.add_sub_cancel_left, List.take_set]

end rules
end Go.Lx

namespace Go.Lx
open Go Go.Vc Go.Md
/-- A nested row of one's own that may be a part of a longer one, with what it leads to. -/
def rofD {α : Type} (k : Bool) (E sz : Nat) (G : Heap → (Nat → Value) → α → Prop) (v : Value) (n : Nat) (xs : List α) : Chunk where
  P S w := ∃ (hp : Heap) (css : List (List Value)), AllC G hp sz css xs ∧ n = css.length ∧ (k = true → ∃ a, v = .slice a n n) ∧ (bothC (poolC noH hp) (rowO E sz v n (css.map idC))).P S w
  loc S w w' h := by
    rintro ⟨hp, css, h1, h2, h4, h3⟩
    exact ⟨hp, css, h1, h2, h4, Chunk.loc _ _ _ _ h h3⟩
theorem imp_rofD {α : Type} {k : Bool} {G : Heap → (Nat → Value) → α → Prop} {hp : Heap} {E sz n : Nat} {p : Option Addr × Nat} {css : List (List Value)} {xs : List α} (hn : n = css.length) (hc : k = true → p.2 = n) (f : AllC G hp sz css xs) :
    Imp (bothC (poolC noH hp) (rowO E sz (.slice p.1 n p.2) n (css.map idC))) (rofD k E sz G (.slice p.1 n p.2) n xs) := ⟨fun S w h => ⟨hp, css, f, hn, fun hk => ⟨p.1, by rw [hc hk]⟩, h⟩⟩
section
variable {cx : Cx} {K : Env → World → Prop} {e : Env} {L : List Chunk}
theorem c_rofD {α : Type} {kc : Bool} {G : Heap → (Nat → Value) → α → Prop} {E sz n : Nat} {p : Option Addr × Nat} {xs : List α} (i : Nat) (hi : L[i]? = some (rofD kc E sz G (.slice p.1 n p.2) n xs))
    (k : ∀ (hp : Heap) (css : List (List Value)), n = css.length → (kc = true → p.2 = n) → AllC G hp sz css xs → At cx K e (L.set i (bothC (poolC noH hp) (rowO E sz (.slice p.1 n p.2) n (css.map idC))))) : At cx K e L :=
  c_show (τ := Heap × List (List Value)) (D := fun t => bothC (poolC noH t.1) (rowO E sz (.slice p.1 n p.2) n (t.2.map idC))) (φ := fun t => n = t.2.length ∧ (kc = true → p.2 = n) ∧ AllC G t.1 sz t.2 xs) i hi (fun S w ⟨hp, css, h1, h2, h5, h3⟩ => ⟨(hp, css), ⟨h2, fun hk => by obtain ⟨_, h4⟩ := h5 hk; simp only [Value.slice.injEq] at h4; exact h4.2.2, h1⟩, h3⟩) fun t ht => k t.1 t.2 ht.1 ht.2.1 ht.2.2
end
end Go.Lx

namespace Go.Lx
open Go Go.Vc Go.Md
section
variable {P : Program} {n : Nat} {cx : Cx} {e : Env} {L : List Chunk} {ops : Array Oper} {rest : List Oper} {F : Env → List Chunk → Prop} {ss : List Kd} {ty : TypeId} {pos : String} {af : Array Edge} {g : Option (Nat × Bool)}

theorem d_readE {o : Oper} {d : Nat} {v : Value} {rds : List Nat} (hw : want ops o e = true) (hd : o.dst = some d) (hr : ∀ w L', Fr cx w → Sat cx w L' → (∀ i ∈ rds, L'[i]? = L[i]?) → (execOp (ev e) o).run P w = .ok (.value v) w)
    (k : Sq P cx ops F rest ss (upd e d v) L) : Sq P cx ops F (o :: rest) (.d rds v :: ss) e L := d_readD hr hw hd k

theorem run_fieldG {α : Type} {f : α → List Value} {xs : List α} {x' : α} {i : Int} {d : Option Nat} {T fld k fo ft fsz bo : Nat} {a : Option Addr} {nm tg pk : String} {em : Bool} {X : Operand} {fs : Array Field} {sz' : Nat} {w : World} (hu : ∀ w, (underlying T).run P w = .ok (.struct fs) w)
    (hf : fs[fld]? = some ⟨nm, ft, fo, em, tg, pk, bo⟩) (hs : ∀ w, (sizeOf ft).run P w = .ok fsz w) (hsz : Nat.blt 0 fsz = true) (hp : ev e X = ptrAt a k) (hR : Row w a sz' (xs.map f)) (hg : gAt xs i = some x') :
    (execOp (ev e) ⟨d, .fieldAddr T X fld, ty, pos, af, g⟩).run P w = .ok (.value (ptrAt a (k + fo))) w :=
  r_fieldP hu hf hs hsz hp (hR.some (by rw [List.length_map]; exact (gAt_some hg).2.1)) w

theorem someOfO {α : Type} {w : World} {i E sz n c : Nat} {a : Option Addr} {f : α → List Value} {xs : List α} {k : Int} {x : α} (hS : Sat cx w L) (hL : L[i]? = some (rowO E sz (.slice a n c) n (xs.map f))) (hg : gAt xs k = some x) : ∃ b off, a = some ⟨b, off, none⟩ := by
  obtain ⟨S, ⟨⟨h1, h2, h3⟩, _⟩, _⟩ := hS.at hL
  have := (gAt_some hg).2.1
  rcases h1 with h1 | ⟨g, off, cap, cur, hv, _⟩
  · rcases h1.2 with ⟨hv, h0⟩ | ⟨g, cap, cur, hv, _⟩
    · rw [List.length_map] at h2; omega
    · simp only [Value.slice.injEq] at hv; exact ⟨g, 0, hv.1⟩
  · simp only [Value.slice.injEq] at hv; exact ⟨g, off, hv.1⟩

end
end Go.Lx

namespace Go.Lx
open Go Go.Vc Go.Md

def ptrB : Value → Nat
  | .pointer (some ⟨b, _, _⟩) => b
  | _ => 0
def ptrO : Value → Nat
  | .pointer (some ⟨_, o, _⟩) => o
  | _ => 0

/-- A chunk in which one cell has been set. -/
def stC (C : Chunk) (b o : Nat) (x : Value) : Chunk where
  P S w := ∃ (w0 : World) (cur : Array Value) (T : TypeId), C.P S w0 ∧ S b ∧ w0.heap[b]? = some (.cells cur T (0, 0)) ∧ w.heap[b]? = some (.cells (cur.toList.set o x).toArray T (0, 0)) ∧ ∀ d, S d → d ≠ b → w.heap[d]? = w0.heap[d]?
  loc S w w' h := by
    rintro ⟨w0, cur, T, h1, h2, h3, h4, h5⟩
    exact ⟨w0, cur, T, h1, h2, h3, (h b h2).trans h4, fun d hd hne => (h d hd).trans (h5 d hd hne)⟩
def stV (C : Option Chunk) (v x : Value) : Chunk := match C with
  | some C => stC C (ptrB v) (ptrO v) x
  | none => empC

theorem turn_st {C : Chunk} {b o : Nat} {x : Value} {w : World} {S : Nat → Prop} {cur : Array Value} {T : TypeId} (hp : C.P S w) (hSb : S b) (hb : w.heap[b]? = some (.cells cur T (0, 0))) (hlt : ∀ b, S b → b < w.heap.size) :
    Turn w (w.setRow b (cur.toList.set o x).toArray) S (stC C b o x) :=
  ⟨rfl, rfl, rfl, by simp, fun d hd hn => setRow_other w b d _ (fun e => hn (e ▸ hSb)), S,
    ⟨w, cur, T, hp, hSb, hb, setRow_heap w b cur (cur.toList.set o x).toArray T (0, 0) hb, fun d hd hne => setRow_other w b d _ hne⟩, fun d hd => ⟨by simpa using hlt d hd, .inl hd⟩⟩

theorem rowO_block {S : Nat → Prop} {w : World} {E sz n c t : Nat} {a : Option Addr} {css : List (List Value)} (h : (rowO E sz (.slice a n c) n css).P S w) (ht : t < n * sz) :
    ∃ g off cur, a = some ⟨g, off, none⟩ ∧ S g ∧ w.heap[g]? = some (.cells cur E (0, 0)) ∧ off + t < cur.size := by
  obtain ⟨⟨h1, hlen, hlx⟩, hb⟩ := h
  rcases h1 with h1 | ⟨g, off, cap, cur, hv, hh, q1, q2, q3, q4⟩
  · rcases h1.2 with ⟨hv, h0⟩ | ⟨g, cap, cur, hv, hbase, hh, q1, q2, q3, q4⟩
    · rw [h0] at ht; simp at ht
    · simp only [Value.slice.injEq] at hv
      obtain ⟨rfl, -, rfl⟩ := hv
      have := Nat.mul_le_mul_right sz q1
      exact ⟨g, 0, cur, rfl, hb g rfl, hh, by omega⟩
  · simp only [Value.slice.injEq] at hv
    obtain ⟨rfl, -, rfl⟩ := hv
    have := Nat.mul_le_mul_right sz q1
    exact ⟨g, off, cur, rfl, hb g rfl, hh, by omega⟩

theorem cell_in {n sz i j : Nat} (hi : i < n) (hj : j < sz) : i * sz + j < n * sz := by
  have := Nat.mul_le_mul_right sz (show i + 1 ≤ n by omega)
  rw [Nat.add_mul, Nat.one_mul] at this; omega

theorem idC_map (l : List (List Value)) : l.map idC = l := by
  have : (idC : List Value → List Value) = id := rfl
  rw [this, List.map_id]

theorem imp_stO {C : Chunk} {E sz n c j : Nat} {a : Option Addr} {css : List (List Value)} {i : Int} {x v : Value} (h : Imp C (rowO E sz (.slice a n c) n (css.map idC))) {α : Type} {xs : List α} {y : α} (hl : css.length = xs.length) (hg : gAt xs i = some y) (hj : Nat.blt j sz = true)
    (hv : v = ptrAt a (i.toNat * sz + j)) : Imp (stC C (ptrB v) (ptrO v) x) (rowO E sz (.slice a n c) n ((setR css i j x).map idC)) := ⟨fun S w ⟨w0, cur', T', hp, hSb, hb0, hb1, hoth⟩ => by
  subst hv
  have hj' : j < sz := by simpa using hj
  obtain ⟨_, hi, _⟩ := gAt_some (ixR hl hg)
  have h0 := h.out S w0 hp
  rw [idC_map] at h0 ⊢
  obtain ⟨⟨h1, hlen, hlx⟩, hb⟩ := h0
  have hget : css[i.toNat]? = some (css.getD i.toNat []) := by rw [List.getD_eq_getElem?_getD, List.getElem?_eq_getElem hi]; rfl
  have hyl := hlx _ (List.mem_of_getElem? hget)
  have hl2 : ∀ x' ∈ setR css i j x, x'.length = sz := fun z' hz => by
    rcases List.mem_or_eq_of_mem_set hz with h | h
    · exact hlx z' h
    · subst h; rw [List.length_set]; exact hyl
  have hin := cell_in (n := n) (by omega : i.toNat < n) hj'
  have hfl := flatten_setR sz j x css i.toNat hlx hi hj'
  refine ⟨⟨?_, by rw [setR_len]; exact hlen, hl2⟩, hb⟩
  rcases h1 with h1 | ⟨g, off, cap, cur, hv, hh, q1, q2, q3, q4⟩
  · rcases h1.2 with ⟨hv, h0⟩ | ⟨g, cap, cur, hv, hbase, hh, q1, q2, q3, q4⟩
    · rw [h0] at hin; simp at hin
    · simp only [Value.slice.injEq] at hv
      obtain ⟨rfl, -, rfl⟩ := hv
      have e1 : ptrB (ptrAt (some (⟨g, 0, none⟩ : Addr)) (i.toNat * sz + j)) = g := rfl
      have e2 : ptrO (ptrAt (some (⟨g, 0, none⟩ : Addr)) (i.toNat * sz + j)) = i.toNat * sz + j := Nat.zero_add _
      rw [e1] at hb0 hb1
      rw [e2] at hb1
      rw [hh] at hb0
      simp only [Option.some.injEq, Obj.cells.injEq] at hb0
      obtain ⟨rfl, rfl, -⟩ := hb0
      refine .inl ⟨?_, .inr ⟨g, c, _, rfl, hbase, hb1, q1, q2, by simpa using q3, ?_⟩⟩
      · have h9 := h1.1
        unfold setR; rw [hfl, List.length_set]; exact h9
      · unfold setR; rw [hfl, ← q4]
        show (cur.toList.set (i.toNat * sz + j) x).take (n * sz) = _
        rw [List.take_set]
  · simp only [Value.slice.injEq] at hv
    obtain ⟨rfl, -, rfl⟩ := hv
    have e1 : ptrB (ptrAt (some (⟨g, off, none⟩ : Addr)) (i.toNat * sz + j)) = g := rfl
    have e2 : ptrO (ptrAt (some (⟨g, off, none⟩ : Addr)) (i.toNat * sz + j)) = off + (i.toNat * sz + j) := rfl
    rw [e1] at hb0 hb1
    rw [e2] at hb1
    rw [hh] at hb0
    simp only [Option.some.injEq, Obj.cells.injEq] at hb0
    obtain ⟨rfl, rfl, -⟩ := hb0
    refine .inr ⟨g, off, c, _, rfl, hb1, q1, q2, by simpa using q3, ?_⟩
    unfold setR; rw [hfl, ← q4]
    show ((cur.toList.set (off + (i.toNat * sz + j)) x).drop off).take (n * sz) = _
    rw [List.drop_set, if_neg (by omega), Nat.add_sub_cancel_left, List.take_set]⟩

theorem imp_stV {C : Chunk} {E sz n c j : Nat} {a : Option Addr} {css : List (List Value)} {i : Int} {x v : Value} (h : Imp C (rowV E sz (.slice a n c) n (css.map idC))) {α : Type} {xs : List α} {y : α} (hl : css.length = xs.length) (hg : gAt xs i = some y) (hj : Nat.blt j sz = true)
    (hv : v = ptrAt a (i.toNat * sz + j)) : Imp (stC C (ptrB v) (ptrO v) x) (rowV E sz (.slice a n c) n ((setR css i j x).map idC)) := ⟨fun S w ⟨w0, cur', T', hp, hSb, hb0, hb1, hoth⟩ => by
  subst hv
  have hj' : j < sz := by simpa using hj
  obtain ⟨_, hi, _⟩ := gAt_some (ixR hl hg)
  have h0 := h.out S w0 hp
  rw [idC_map] at h0 ⊢
  obtain ⟨⟨h1, hlen, hlx⟩, hb⟩ := h0
  have hget : css[i.toNat]? = some (css.getD i.toNat []) := by rw [List.getD_eq_getElem?_getD, List.getElem?_eq_getElem hi]; rfl
  have hyl := hlx _ (List.mem_of_getElem? hget)
  have hl2 : ∀ x' ∈ setR css i j x, x'.length = sz := fun z' hz => by
    rcases List.mem_or_eq_of_mem_set hz with h | h
    · exact hlx z' h
    · subst h; rw [List.length_set]; exact hyl
  have hin := cell_in (n := n) (by omega : i.toNat < n) hj'
  have hfl := flatten_setR sz j x css i.toNat hlx hi hj'
  refine ⟨⟨?_, by rw [setR_len]; exact hlen, hl2⟩, hb⟩
  rcases h1.2 with ⟨hv, h0⟩ | ⟨g, cap, cur, hv, hbase, hh, q1, q2, q3, q4⟩
  · rw [h0] at hin; simp at hin
  · simp only [Value.slice.injEq] at hv
    obtain ⟨rfl, -, rfl⟩ := hv
    have e1 : ptrB (ptrAt (some (⟨g, 0, none⟩ : Addr)) (i.toNat * sz + j)) = g := rfl
    have e2 : ptrO (ptrAt (some (⟨g, 0, none⟩ : Addr)) (i.toNat * sz + j)) = i.toNat * sz + j := Nat.zero_add _
    rw [e1] at hb0 hb1
    rw [e2] at hb1
    rw [hh] at hb0
    simp only [Option.some.injEq, Obj.cells.injEq] at hb0
    obtain ⟨rfl, rfl, -⟩ := hb0
    refine ⟨?_, .inr ⟨g, c, _, rfl, hbase, hb1, q1, q2, by simpa using q3, ?_⟩⟩
    · have h9 := h1.1
      unfold setR; rw [hfl, List.length_set]; exact h9
    · unfold setR; rw [hfl, ← q4]
      show (cur.toList.set (i.toNat * sz + j) x).take (n * sz) = _
      rw [List.take_set]⟩

theorem imp_stB {C : Chunk} {b o T : Nat} {cs cs' : List Value} {x : Value} (h : Imp C (cellsC b cs T)) (hcs : cs.set o x = cs') : Imp (stC C b o x) (cellsC b cs' T) := ⟨fun S w ⟨w0, cur', T', hp, hSb, hb0, hb1, hoth⟩ => by
  have h0 := h.out S w0 hp
  have hb := h0.2
  rw [hb0] at hb
  simp only [Option.some.injEq, Obj.cells.injEq] at hb
  obtain ⟨rfl, rfl, -⟩ := hb
  subst hcs
  exact ⟨h0.1, hb1⟩⟩

section
variable {P : Program} {n : Nat} {cx : Cx} {e : Env} {L : List Chunk} {ops : Array Oper} {rest : List Oper} {F : Env → List Chunk → Prop} {ss : List Kd} {ty : TypeId} {pos : String} {af : Array Edge} {g : Option (Nat × Bool)}

/-- A store of a value that the region makes, whatever the chunk. -/
def Kd.stk (a q i : Nat) : Kd := .g [a, q] [i] [i] (fun _ _ v => v = undef) (fun vs l _ => [stV (l.headD none) (vs.headD undef) (vs.getD 1 undef)])

theorem d_storeC {i : Nat} {a q T : Nat} {x va : Value} {C : Chunk} (hs : ∀ w, (sizeOf T).run P w = .ok 1 w) (hw : want ops ⟨none, .store T (.tmp a) (.tmp q), ty, pos, af, g⟩ e = true) (hp : e a = va) (hx : e q = x) (hc : x.cells.toList = [x]) (hone : [x].all Value.oneCell' = true)
    (hL : L[i]? = some C) (hblk : ∀ S w, C.P S w → ∃ b o cur T0, va = .pointer (some ⟨b, o, none⟩) ∧ S b ∧ w.heap[b]? = some (.cells cur T0 (0, 0)) ∧ o < cur.size)
    (k : Sq P cx ops F rest ss e (L.set i (stC C (ptrB va) (ptrO va) x))) : Sq P cx ops F (⟨none, .store T (.tmp a) (.tmp q), ty, pos, af, g⟩ :: rest) (Kd.stk a q i :: ss) e L := by
  have hst : stV (([i].map (Go.Vc.look L)).headD none) (([a, q].map e).headD undef) (([a, q].map e).getD 1 undef) = stC C (ptrB va) (ptrO va) x := by
    show stV (Go.Vc.look L i) (e a) (e q) = _
    have : Go.Vc.look L i = some C := hL
    rw [this, hp, hx]; rfl
  refine .take hw ⟨undef, rfl⟩ ⟨fun w L' hF hS _ hi => ?_⟩ fun v' hv' => ?_
  · have hL' := (hi i (.inl (by simp [Kd.stk, Kd.rds]))).trans hL
    obtain ⟨S0, hC, hlt⟩ := hS.at hL'
    obtain ⟨b, o, cur, T0, hva, hSb, hb, ho⟩ := hblk S0 w hC
    have hw' := wr_set (y := cur.toList) (j := o) (v := x) (by simpa using ho)
    have hrun := Go.Vc.run_store (P := P) (ty := ty) (pos := pos) (af := af) (g := g) hs (show ev e (.tmp a) = .pointer (some ⟨b, o, none⟩) from hp.trans hva) (show ev e (.tmp q) = x from hx) hc rfl rfl hone hw' (show w.heap[b]? = some (.cells cur.toList.toArray T0 (0, 0)) from hb)
    have e1 : ptrB va = b := by rw [hva]; rfl
    have e2 : ptrO va = o := by rw [hva]; rfl
    rw [e1, e2] at hst
    have ht := turn_st (o := o) (x := x) hC hSb hb (fun b hb => (hlt b hb).1)
    have hF' := hF.turn ht fun b hs => (hlt b hs).2
    have hS' := hS.turnAt hF hL' (w' := w.setRow b (cur.toList.set o x).toArray) (C := stC C b o x) (fun S1 hp1 hlt1 => by
      obtain ⟨b1, o1, cur1, T1, hva1, hSb1, hb1, ho1⟩ := hblk S1 w hp1
      rw [hva] at hva1
      simp only [Value.pointer.injEq, Option.some.injEq, Addr.mk.injEq, and_true] at hva1
      obtain ⟨rfl, rfl⟩ := hva1
      exact turn_st hp1 hSb1 hb fun b hb => (hlt1 b hb).1) ht.size
    unfold RunsTo
    rw [hrun]
    refine ⟨rfl, hF', ?_⟩
    show Sat cx _ (L'.set i (stV (([i].map (Go.Vc.look L)).headD none) (([a, q].map e).headD undef) (([a, q].map e).getD 1 undef)))
    rw [hst]
    exact hS'
  · show Sq P cx ops F rest ss (putD e none v') (L.set i (stV (([i].map (Go.Vc.look L)).headD none) (([a, q].map e).headD undef) (([a, q].map e).getD 1 undef)))
    rw [hst]
    exact k

theorem blk_row {C : Chunk} {E sz n c j : Nat} {a : Option Addr} {css : List (List Value)} {i : Int} {v : Value} (h : Imp C (rowO E sz (.slice a n c) n (css.map idC))) (hn : n = css.length) {α : Type} {xs : List α} {y : α} (hl : css.length = xs.length) (hg : gAt xs i = some y) (hj : Nat.blt j sz = true) (hv : v = ptrAt a (i.toNat * sz + j)) :
    ∀ S w, C.P S w → ∃ b o cur T0, v = .pointer (some ⟨b, o, none⟩) ∧ S b ∧ w.heap[b]? = some (.cells cur T0 (0, 0)) ∧ o < cur.size := fun S w hp => by
  obtain ⟨_, hi, _⟩ := gAt_some (ixR hl hg)
  obtain ⟨g, off, cur, rfl, h1, h2, h3⟩ := rowO_block (h.out S w hp) (cell_in (n := n) (by omega : i.toNat < n) (by simpa using hj : j < sz))
  exact ⟨g, _, cur, E, hv.trans rfl, h1, h2, h3⟩
theorem Imp.toO {C : Chunk} {E sz n : Nat} {v : Value} {xs : List (List Value)} (h : Imp C (rowV E sz v n xs)) : Imp C (rowO E sz v n xs) := ⟨fun S w hp => (imp_rowO E sz v n xs).out S w (h.out S w hp)⟩
theorem blk_box {C : Chunk} {b o T : Nat} {cs : List Value} {v : Value} (h : Imp C (cellsC b cs T)) (hv : v = .pointer (some ⟨b, o, none⟩)) (ho : Nat.blt o cs.length = true) :
    ∀ S w, C.P S w → ∃ b o cur T0, v = .pointer (some ⟨b, o, none⟩) ∧ S b ∧ w.heap[b]? = some (.cells cur T0 (0, 0)) ∧ o < cur.size := fun S w hp =>
  have h0 := h.out S w hp
  ⟨b, o, cs.toArray, T, hv, (h0.1 b).2 rfl, h0.2, by simpa using ho⟩

theorem offOfI {C : Chunk} {w : World} {i E sz n c : Nat} {a : Option Addr} {xs : List (List Value)} (hI : Imp C (rowO E sz (.slice a n c) n xs)) (hS : Sat cx w L) (hL : L[i]? = some C) : Row w a sz xs := by
  obtain ⟨S, hp, _⟩ := hS.at hL
  exact (rowO_frs0 (hI.out S w hp)).row fun _ _ h => h
end
end Go.Lx

namespace Go.Lx
open Go Go.Vc Go.Md
section
variable {P : Program} {n : Nat} {cx : Cx} {e : Env} {L : List Chunk} {ty : TypeId} {pos : String} {af : Array Edge} {g : Option (Nat × Bool)}

theorem run_nilG {α : Type} {f : α → List Value} {xs : List α} {x' : α} {i : Int} {d : Option Nat} {k sz' : Nat} {a : Option Addr} {X : Operand} {w : World} (hx : ev e X = ptrAt a k) (hR : Row w a sz' (xs.map f)) (hg : gAt xs i = some x') :
    (execOp (ev e) ⟨d, .nilCheck X, ty, pos, af, g⟩).run P w = .ok (.value (ptrAt a k)) w := by
  obtain ⟨b, off, rfl⟩ := hR.some (i := i.toNat) (by rw [List.length_map]; exact (gAt_some hg).2.1)
  exact r_nilCheck (hx.trans rfl) w

theorem turns_storeO {α : Type} {q T j sz k c E m : Nat} {A X : Operand} {x : Value} {a : Option Addr} {css : List (List Value)} {xs : List α} {i : Int} {xe : α} (hm : m = css.length) (hml : css.length = xs.length) (hs : ∀ w, (sizeOf T).run P w = .ok 1 w)
    (hp : ev e A = ptrAt a k) (hk : k = i.toNat * sz + j) (hx : ev e X = x) (hc : x.cells.toList = [x]) (hone : [x].all Value.oneCell' = true) (hj : Nat.blt j sz = true)
    (hL : L[q]? = some (rowO E sz (.slice a m c) m (css.map idC))) (hg : gAt xs i = some xe) :
    Turns P cx e ⟨none, .store T A X, ty, pos, af, g⟩ L q [] (fun _ : Unit => undef) (fun _ => rowO E sz (.slice a m c) m ((setR css i j x).map idC)) := by
  subst hm
  intro w L' hF hS hl hi
  have hL' := (hi q (.inr rfl)).trans hL
  rw [idC_map] at hL'
  rw [idC_map]
  obtain ⟨_, h1, _⟩ := gAt_some (ixR hml hg)
  have hrun := fun (S1 : Nat → Prop) (h : (rowO E sz (.slice a css.length c) css.length css).P S1 w) (hlt : ∀ b, S1 b → b < w.heap.size) => run_storeO (P := P) (ty := ty) (pos := pos) (af := af) (g := g) hs hp hk hx hc hone (by simpa using hj) h1 h hlt
  obtain ⟨S0, hC, hlt⟩ := hS.at hL'
  obtain ⟨w', hr, ht⟩ := hrun S0 hC (fun b hb => (hlt b hb).1)
  have hF' := hF.turn ht fun b hs => (hlt b hs).2
  have hS' := hS.turnAt hF hL' (w' := w') (C := rowO E sz (.slice a css.length c) css.length (css.set i.toNat ((css.getD i.toNat []).set j x))) (fun S1 hp hlt1 => by
    obtain ⟨w1, hr1, ht1⟩ := hrun S1 hp fun b hb => (hlt1 b hb).1
    rw [hr] at hr1
    cases hr1
    exact ht1) ht.size
  unfold RunsTo
  rw [hr]
  exact ⟨(), rfl, hF', hS'⟩

theorem turns_storeV {α : Type} {q T j sz k c E m : Nat} {A X : Operand} {x : Value} {a : Option Addr} {css : List (List Value)} {xs : List α} {i : Int} {xe : α} (hm : m = css.length) (hml : css.length = xs.length) (hs : ∀ w, (sizeOf T).run P w = .ok 1 w)
    (hp : ev e A = ptrAt a k) (hk : k = i.toNat * sz + j) (hx : ev e X = x) (hc : x.cells.toList = [x]) (hone : [x].all Value.oneCell' = true) (hj : Nat.blt j sz = true)
    (hL : L[q]? = some (rowV E sz (.slice a m c) m (css.map idC))) (hg : gAt xs i = some xe) :
    Turns P cx e ⟨none, .store T A X, ty, pos, af, g⟩ L q [] (fun _ : Unit => undef) (fun _ => rowV E sz (.slice a m c) m ((setR css i j x).map idC)) := by
  subst hm
  intro w L' hF hS hl hi
  have hL' := (hi q (.inr rfl)).trans hL
  rw [idC_map] at hL'
  rw [idC_map]
  obtain ⟨_, h1, hget⟩ := gAt_some (ixR hml hg)
  obtain ⟨S0, ⟨⟨ho, hlen, hlx⟩, hob⟩, hlt⟩ := hS.at hL'
  have hyl := hlx _ (List.mem_of_getElem? hget)
  have hv' : wr (css.getD i.toNat []) j [x] = some ((css.getD i.toNat []).set j x) := wr_set (by rw [hyl]; simpa using hj)
  obtain ⟨w', hr, h2, h3⟩ := run_storeR (P := P) (ty := ty) (pos := pos) (af := af) (g := g) hs hp hk hx hc rfl rfl hone hget hv' ho hlen hlx
  obtain ⟨hF', hS'⟩ := hS.turnOf hF hL' (C := rowV E sz (.slice a css.length c) css.length (css.set i.toNat ((css.getD i.toNat []).set j x))) fun S1 hp => turn_append hp.2 h2 h3 (.inl rfl) (by simp [hlen]) (by
    intro z' hz
    rcases List.mem_or_eq_of_mem_set hz with h | h
    · exact hlx z' h
    · subst h; rw [List.length_set]; exact hyl)
  unfold RunsTo
  rw [hr]
  exact ⟨(), rfl, hF', hS'⟩
end
end Go.Lx

/- Rules: slices.Delete's operations at a row of one's own that may be a part of a longer one. Conditions: none. -/
namespace Go.Lx
open Go Go.Vc Go.Md

/-- Such a row with room has a place. -/
theorem rowO_off {S : Nat → Prop} {w : World} {E sz n c : Nat} {a : Option Addr} {xs : List (List Value)} (h : (rowO E sz (.slice a n c) n xs).P S w) (hc : 0 < c) :
    ∃ g off cur, a = some ⟨g, off, none⟩ ∧ S g ∧ w.heap[g]? = some (.cells cur E (0, 0)) ∧ n ≤ c ∧ c ≤ maxLen ∧ off + c * sz ≤ cur.size ∧ (cur.toList.drop off).take (n * sz) = xs.flatten := by
  obtain ⟨⟨h1, hlen, hlx⟩, hb⟩ := h
  rcases h1 with h1 | ⟨g, off, cap, cur, hv, hh, q1, q2, q3, q4⟩
  · rcases h1.2 with ⟨hv, h0⟩ | ⟨g, cap, cur, hv, hbase, hh, q1, q2, q3, q4⟩
    · simp only [Value.slice.injEq] at hv; omega
    · simp only [Value.slice.injEq] at hv
      obtain ⟨rfl, -, rfl⟩ := hv
      exact ⟨g, 0, cur, rfl, hb g rfl, hh, q1, q2, by omega, by simpa using q4⟩
  · simp only [Value.slice.injEq] at hv
    obtain ⟨rfl, -, rfl⟩ := hv
    exact ⟨g, off, cur, rfl, hb g rfl, hh, q1, q2, q3, q4⟩

section
variable {P : Program} {n : Nat} {cx : Cx} {e : Env} {L : List Chunk} {d : Option Nat} {ty : TypeId} {pos : String} {af : Array Edge} {g : Option (Nat × Bool)}

theorem capOfO {w : World} {i E sz n c : Nat} {a : Option Addr} {xs : List (List Value)} (hS : Sat cx w L) (hL : L[i]? = some (rowO E sz (.slice a n c) n xs)) : n ≤ c := by
  obtain ⟨S, ⟨⟨h1, hlen, hlx⟩, hb⟩, _⟩ := hS.at hL
  rcases h1 with h1 | ⟨g, off, cap, cur, hv, hh, q1, _⟩
  · rcases h1.2 with ⟨hv, h0⟩ | ⟨g, cap, cur, hv, hbase, hh, q1, _⟩
    · omega
    · simp only [Value.slice.injEq] at hv; omega
  · simp only [Value.slice.injEq] at hv; omega

theorem cutA_none {a : Option Addr} {l m sz : Nat} (h : cutA a l m sz = none) : a = none := by
  unfold cutA at h
  split at h
  · exact h
  · cases a with
    | none => rfl
    | some a => cases h

/-- append(s[:a], s[j:]...) in place. -/
theorem turns_delO {xs news : List (List Value)} {i : Nat} {S X : Operand} {t E : TypeId} {I : TypeInfo} {sz : Nat} {p : Option Addr × Nat} {rds : List Nat} {ax : Option Addr} {c m a q : Nat} (hm0 : 0 < m) {dd : Nat}
    (ht : P.underlying t = some (.slice E)) (hi : P.info? E = some I) (hsize : I.size = sz)
    (hL : L[i]? = some (rowO E sz (.slice p.1 m p.2) m xs)) (ha : a + q ≤ m) (hs : ev e S = .slice p.1 a p.2) (hx : ev e X = .slice ax q c) (hax0 : ax = none → p.1 = none) (hq : q = news.length)
    (hnews : ∀ w L', Fr cx w → Sat cx w L' → L'[i]? = L[i]? → Row w ax sz news) (hnl : ∀ x ∈ news, x.length = sz) (h1 : ∀ x ∈ news, ∀ u ∈ x, u.oneCell' = true) :
    Turns P cx e ⟨some dd, .call ⟨.builtin .append, #[S, X], #[t, t]⟩, ty, pos, af, g⟩ L i rds (fun _ : Unit => .slice p.1 (a + q) p.2) (fun _ => rowO E sz (.slice p.1 (a + q) p.2) (a + q) (xs.take a ++ news)) := by
  subst hsize hq
  intro w L' hF hS hl hi'
  have hLi := hi' i (.inr rfl)
  have hr := hnews w L' hF hS hLi
  have hL' := hLi.trans hL
  obtain ⟨S0, hC, hlt⟩ := hS.at hL'
  have hmc : m ≤ p.2 := capOfO hS hL'
  have hlen : xs.length = m := hC.1.2.1
  have hlx : ∀ x ∈ xs, x.length = I.size := hC.1.2.2
  obtain ⟨g0, off, cur, e1, hSg, hh, hnc, hcm, hfit, htk⟩ := rowO_off hC (by omega)
  have hta : (xs.take a).length = a := by rw [List.length_take]; omega
  have hall : ∀ x ∈ xs.take a ++ news, x.length = I.size := fun x hx => by
    rcases List.mem_append.1 hx with h | h
    · exact hlx x (List.mem_of_mem_take h)
    · exact hnl x h
  have hfl : news.flatten.length = news.length * I.size := by rw [flat_len news hnl]
  have hone : ∀ u ∈ news.flatten, u.oneCell' = true := fun u hu => by
    obtain ⟨x, hx, hux⟩ := List.mem_flatten.1 hu
    exact h1 x hx u hux
  have hcur : cur.toList.length = cur.size := Array.length_toList
  have hs' : ev e S = .slice (some ⟨g0, off, none⟩) a p.2 := by rw [hs, e1]
  have hexec : ∀ v w', (Builtin.append_ #[t, t] ty #[.slice (some ⟨g0, off, none⟩) a p.2, .slice ax news.length c]).run P w = .ok v w' → (execOp (ev e) ⟨some dd, .call ⟨.builtin .append, #[S, X], #[t, t]⟩, ty, pos, af, g⟩).run P w = .ok (.value v) w' := by
    intro v w' hr
    simp only [execOp, resolve, invoke, builtin, Sem.run_bind, Sem.run_pure, Result.andThen_ok, List.map_toArray, List.map_cons, List.map_nil, hs', hx, hr]
  have hroom : a + news.length ≤ p.2 := by omega
  have hpre : (cur.toList.drop off).take (a * I.size) = (xs.take a).flatten := by
    have hle : a * I.size ≤ m * I.size := Nat.mul_le_mul_right _ (by omega)
    have : ((cur.toList.drop off).take (m * I.size)).take (a * I.size) = (cur.toList.drop off).take (a * I.size) := by rw [List.take_take, Nat.min_eq_left hle]
    rw [← this, htk]
    have hsplit : xs.flatten = (xs.take a).flatten ++ (xs.drop a).flatten := by rw [← List.flatten_append, List.take_append_drop]
    have hl3 : (xs.take a).flatten.length = a * I.size := by rw [flat_len _ (fun x hx => hlx x (List.mem_of_mem_take hx)), hta]
    rw [hsplit, ← hl3, List.take_left]
  have hfit' : off + a * I.size + news.flatten.length ≤ cur.size := by
    have : (a + news.length) * I.size ≤ p.2 * I.size := Nat.mul_le_mul_right _ hroom
    rw [Nat.add_mul] at this; omega
  have hst := run_storeCells_at (P := P) g0 (off + a * I.size) E news.flatten 0 cur w hh (by simpa using hfit') hone
  simp only [Nat.add_zero] at hst
  have hr2 : (Builtin.append_ #[t, t] ty #[.slice (some ⟨g0, off, none⟩) a p.2, .slice ax news.length c]).run P w = .ok (.slice (some ⟨g0, off, none⟩) (a + news.length) p.2) (w.setRow g0 (cur.toList.take (off + a * I.size) ++ news.flatten ++ cur.toList.drop (off + a * I.size + news.flatten.length)).toArray) := by
    cases hax : ax with
    | some ad =>
      subst hax
      have hcell : ∀ j u, news.flatten[j]? = some u → w.cell? (ad.add j) = some u := by
        intro j u hj
        obtain ⟨i', k', x, g1, g2, g3⟩ := flat_get news hnl j u hj
        rcases hr with h | ⟨b, off, ha, h⟩
        · subst h; simp at g1
        · cases ha
          have := (h i' x g1).2 k' u g2
          rw [Addr.add_lit, g3, ← Nat.add_assoc]
          exact this
      have hfc := run_firstCells_some (P := P) w I.size news.length ad news.length c news.flatten hfl hcell
      simp [Builtin.append_, run_underlying ht, sizeOf, typeInfo, hi, Builtin.lenOf, hroom, hfc, Addr.add_lit, hst]
    | none =>
      subst hax
      rw [hax0 rfl] at e1
      cases e1
  have hr := hexec _ _ hr2
  have hlen2 : (cur.toList.take (off + a * I.size) ++ news.flatten ++ cur.toList.drop (off + a * I.size + news.flatten.length)).length = cur.size := by
    simp only [List.length_append, List.length_take, List.length_drop, hcur]; omega
  obtain ⟨hF', hS'⟩ := hS.turnOf hF hL' (C := rowO E I.size (.slice p.1 (a + news.length) p.2) (a + news.length) (xs.take a ++ news)) (w' := w.setRow g0 (cur.toList.take (off + a * I.size) ++ news.flatten ++ cur.toList.drop (off + a * I.size + news.flatten.length)).toArray) fun S1 hp => by
    have hg1 : S1 g0 := hp.2 g0 (by rw [e1]; rfl)
    refine ⟨rfl, rfl, rfl, by simp [World.setRow], fun b' hb' hn => ?_, (fun x => x = g0), ⟨⟨.inr ⟨g0, off, p.2, _, by rw [e1], setRow_heap w g0 cur _ E _ hh, hroom, hcm, by rw [List.size_toArray, hlen2]; exact hfit, ?_⟩, by rw [List.length_append, hta], hall⟩, fun b' hb' => by rw [e1] at hb'; cases hb'; rfl⟩, fun b' hb' => ⟨?_, .inl (by rw [hb']; exact hg1)⟩⟩
    · exact setRow_other w g0 b' _ fun h => hn (by rw [h]; exact hg1)
    · rw [List.flatten_append]
      have hd : (cur.toList.take (off + a * I.size) ++ news.flatten ++ cur.toList.drop (off + a * I.size + news.flatten.length)).drop off = ((cur.toList.drop off).take (a * I.size) ++ news.flatten) ++ cur.toList.drop (off + a * I.size + news.flatten.length) := by
        rw [List.append_assoc, List.drop_append_of_le_length (by rw [List.length_take, hcur]; omega), List.drop_take, Nat.add_sub_cancel_left, List.append_assoc]
      have hl2 : ((cur.toList.drop off).take (a * I.size) ++ news.flatten).length = (a + news.length) * I.size := by
        rw [List.length_append, List.length_take, List.length_drop, hcur, Nat.add_mul, Nat.min_eq_left (by omega)]; omega
      show ((cur.toList.take (off + a * I.size) ++ news.flatten ++ cur.toList.drop (off + a * I.size + news.flatten.length)).toArray.toList.drop off).take _ = _
      rw [List.toList_toArray, hd, ← hl2, List.take_left, hpre]
    · rw [hb', setRow_size]; exact (Array.getElem?_eq_some_iff.1 hh).1
  unfold RunsTo
  rw [hr]
  exact ⟨(), by rw [e1], hF', hS'⟩

/-- clear of the room behind. -/
theorem turns_clearO {i : Nat} {X : Operand} {t E : TypeId} {z : Value} {sz : Nat} {p : Option Addr × Nat} {rds : List Nat} {c m q : Nat} {xs : List (List Value)}
    (ht : P.underlying t = some (.slice E)) (hz : ∀ w, (zeroValue E).run P w = .ok z w) (hzs : z.cells.size = sz) (h1 : z.cells.toList.all Value.oneCell' = true)
    (hL : L[i]? = some (rowO E sz (.slice p.1 m p.2) m xs)) (hx : ev e X = .slice (cutA p.1 m p.2 sz) q c) (hq : m + q ≤ p.2) {dst : Option Nat} :
    Turns P cx e ⟨dst, .call ⟨.builtin .clear, #[X], #[t]⟩, ty, pos, af, g⟩ L i rds (fun _ : Unit => .tuple #[]) (fun _ => rowO E sz (.slice p.1 m p.2) m xs) := by
  intro w L' hF hS hl hi'
  have hL' := (hi' i (.inr rfl)).trans hL
  obtain ⟨S0, hC, hlt⟩ := hS.at hL'
  have hset : L'.set i (rowO E sz (.slice p.1 m p.2) m xs) = L' := by
    refine List.ext_getElem? fun j => ?_
    rw [List.getElem?_set]
    split
    · rename_i h; subst h
      split
      · exact hL'.symm
      · rename_i h; rw [List.getElem?_eq_none (by omega)]
    · rfl
  rcases Nat.eq_zero_or_pos q with hq0 | hq0
  · subst hq0
    have he : (execOp (ev e) ⟨dst, .call ⟨.builtin .clear, #[X], #[t]⟩, ty, pos, af, g⟩).run P w = .ok (.value (.tuple #[])) w := by
      have hr : (Builtin.clear_ #[t] ty #[.slice (cutA p.1 m p.2 sz) 0 c]).run P w = .ok (.tuple #[]) w := by
        cases cutA p.1 m p.2 sz <;> simp [Builtin.clear_, run_underlying ht]
      simp only [execOp, resolve, invoke, builtin, Sem.run_bind, Sem.run_pure, Result.andThen_ok, List.map_toArray, List.map_cons, List.map_nil, hx, hr]
    unfold RunsTo
    rw [he]
    exact ⟨(), rfl, hF, by rw [hset]; exact hS⟩
  · obtain ⟨g0, off, cur, e1, hSg, hg, hnc, hcm, hfit0, htk⟩ := rowO_off hC (by omega)
    have hlen : xs.length = m := hC.1.2.1
    have hlx : ∀ x ∈ xs, x.length = sz := hC.1.2.2
    have hcut : cutA p.1 m p.2 sz = some ⟨g0, off + m * sz, none⟩ := by
      unfold cutA
      rw [if_neg (by omega), e1]; simp [Addr.add]
    rw [hcut] at hx
    have hzl : (Builtin.zeroCells z.cells q).toList.length = q * sz := by unfold Builtin.zeroCells; simp [hzs]
    have hmq : m * sz + q * sz ≤ p.2 * sz := by rw [← Nat.add_mul]; exact Nat.mul_le_mul_right _ hq
    have hfit : off + m * sz + 0 + (Builtin.zeroCells z.cells q).toList.length ≤ cur.size := by rw [hzl]; omega
    have hst := run_storeCells_at (P := P) g0 (off + m * sz) E (Builtin.zeroCells z.cells q).toList 0 cur w hg hfit (zero_one h1)
    generalize hnew : (cur.toList.take (off + m * sz + 0) ++ (Builtin.zeroCells z.cells q).toList ++ cur.toList.drop (off + m * sz + 0 + (Builtin.zeroCells z.cells q).toList.length)) = new at hst
    have he : (execOp (ev e) ⟨dst, .call ⟨.builtin .clear, #[X], #[t]⟩, ty, pos, af, g⟩).run P w = .ok (.value (.tuple #[])) (w.setRow g0 new.toArray) := by
      have hr : (Builtin.clear_ #[t] ty #[.slice (some ⟨g0, off + m * sz, none⟩) q c]).run P w = .ok (.tuple #[]) (w.setRow g0 new.toArray) := by
        obtain ⟨q', rfl⟩ : ∃ q', q = q' + 1 := ⟨q - 1, by omega⟩
        simp only [Builtin.clear_, Sem.run_bind, run_underlying ht, Result.andThen_ok, hz, hst, Sem.run_pure, List.getElem?_toArray, List.getElem?_cons_zero]
      simp only [execOp, resolve, invoke, builtin, Sem.run_bind, Sem.run_pure, Result.andThen_ok, List.map_toArray, List.map_cons, List.map_nil, hx, hr]
    have hsz2 : new.toArray.size = cur.size := by
      have hf2 := hfit
      rw [← hnew]
      simp only [List.size_toArray, List.length_append, List.length_take, List.length_drop, Array.length_toList] at hf2 ⊢
      omega
    have htk2 : (new.drop off).take (m * sz) = xs.flatten := by
      rw [← htk, ← hnew, Nat.add_zero, List.append_assoc, List.drop_append_of_le_length (by rw [List.length_take, Array.length_toList]; omega), List.drop_take, Nat.add_sub_cancel_left]
      rw [List.take_append_of_le_length (by rw [List.length_take, List.length_drop, Array.length_toList]; omega), List.take_take, Nat.min_self]
    obtain ⟨hF', hS'⟩ := hS.turnOf hF hL' (C := rowO E sz (.slice p.1 m p.2) m xs) (w' := w.setRow g0 new.toArray) fun S1 hp => by
      have hg1 : S1 g0 := hp.2 g0 (by rw [e1]; rfl)
      refine ⟨rfl, rfl, rfl, by simp [World.setRow], fun b' hb' hn => ?_, (fun x => x = g0), ⟨⟨.inr ⟨g0, off, p.2, _, by rw [e1], setRow_heap w g0 cur _ E _ hg, hnc, hcm, by rw [hsz2]; exact hfit0, htk2⟩, hlen, hlx⟩, fun b' hb' => by rw [e1] at hb'; cases hb'; rfl⟩, fun b' hb' => ⟨?_, .inl (by rw [hb']; exact hg1)⟩⟩
      · exact setRow_other w g0 b' _ fun h => hn (by rw [h]; exact hg1)
      · rw [hb', setRow_size]; exact (Array.getElem?_eq_some_iff.1 hg).1
    unfold RunsTo
    rw [he]
    exact ⟨(), rfl, hF', hS'⟩
end
end Go.Lx

namespace Go.Lx
open Go Go.Vc Go.Md
theorem AllC.del {α : Type} {G : Heap → (Nat → Value) → α → Prop} {h : Heap} {sz : Nat} {css : List (List Value)} {xs ys : List α} {i j : Int} (p : AllC G h sz css xs) (g : gDelN xs i j = some ys) : gDelN css i j = some (delL css i j) ∧ AllC G h sz (delL css i j) ys := by
  obtain ⟨rfl, h0, h1, h2⟩ := gDelN_some g
  have hl := p.len
  refine ⟨gDelN_ok ⟨h0, h1, by rw [hl]; exact h2⟩, ?_⟩
  unfold delL
  have q1 := p.cut (l := 0) (q := i) (ys := xs.take i.toNat) (by rw [gCut_to (by omega)])
  have q2 := p.cut (l := j) (q := xs.length) (ys := xs.drop j.toNat) (by rw [gCut_from (by omega)])
  have e1 : cutL css 0 i = css.take i.toNat := by unfold cutL; simp
  have e2 : cutL css j xs.length = css.drop j.toNat := by
    unfold cutL
    rw [List.take_of_length_le (by rw [List.length_drop, hl]; omega)]
  rw [e1] at q1
  rw [e2] at q2
  exact q1.append q2

/-- The cells of elements are single cells, where each element's are. -/
theorem AllC.ones {α : Type} {G : Heap → (Nat → Value) → α → Prop} {h : Heap} {sz : Nat} {css : List (List Value)} {xs : List α} (p : AllC G h sz css xs) (hG : ∀ (c : Nat → Value) x, G h c x → ∀ j, j < sz → (c j).oneCell' = true) : ∀ cs ∈ css, ∀ u ∈ cs, u.oneCell' = true := by
  intro cs hcs u hu
  obtain ⟨i, hi, rfl⟩ := List.getElem_of_mem hcs
  obtain ⟨j, hj, rfl⟩ := List.getElem_of_mem hu
  have hx : i < xs.length := by rw [← p.len]; exact hi
  obtain ⟨h1, h2⟩ := p.el i css[i] xs[i] (List.getElem?_eq_getElem hi) (List.getElem?_eq_getElem hx)
  have := hG _ _ h2 j (by omega)
  simpa [List.getD_eq_getElem?_getD, List.getElem?_eq_getElem hj] using this
section
variable {cx : Cx} {L : List Chunk} {w : World}
theorem rowO_all {i E sz n c : Nat} {a : Option Addr} {xs : List (List Value)} (hS : Sat cx w L) (hL : L[i]? = some (rowO E sz (.slice a n c) n xs)) : ∀ x ∈ xs, x.length = sz := by
  obtain ⟨S, ⟨⟨h1, hlen, hlx⟩, hb⟩, _⟩ := hS.at hL
  exact hlx
end
end Go.Lx

namespace Go.Lx
open Go Go.Vc Go.Md
/-- Such a row, its spare room cut off. -/
theorem imp_clipRO (E sz : Nat) (a : Option Addr) (n c : Nat) (xs : List (List Value)) : Imp (rowO E sz (.slice a n c) n xs) (rowO E sz (.slice (cutA a 0 n sz) n n) n xs) := ⟨fun S w h => by
  have hcut : cutA a 0 n sz = a := cutA_zero _ _ _
  rw [hcut]
  obtain ⟨⟨h1, hlen, hlx⟩, hb⟩ := h
  refine ⟨⟨?_, hlen, hlx⟩, fun b hb' => hb b (by rw [← hb']; cases a <;> rfl)⟩
  rcases h1 with h1 | ⟨g, off, cap, cur, hv, hh, q1, q2, q3, q4⟩
  · rcases h1.2 with ⟨hv, h0⟩ | ⟨g, cap, cur, hv, hbase, hh, q1, q2, q3, q4⟩
    · simp only [Value.slice.injEq] at hv
      obtain ⟨rfl, rfl, rfl⟩ := hv
      exact .inl ⟨h1.1, .inl ⟨rfl, rfl⟩⟩
    · simp only [Value.slice.injEq] at hv
      obtain ⟨rfl, -, rfl⟩ := hv
      have := Nat.mul_le_mul_right sz q1
      exact .inr ⟨g, 0, n, cur, rfl, hh, Nat.le_refl _, by omega, by omega, by simpa using q4⟩
  · simp only [Value.slice.injEq] at hv
    obtain ⟨rfl, -, rfl⟩ := hv
    have := Nat.mul_le_mul_right sz q1
    exact .inr ⟨g, off, n, cur, rfl, hh, Nat.le_refl _, by omega, by omega, q4⟩⟩
end Go.Lx

/- Rules: slices.Insert's operations at a row of one's own without room: an append that makes a new row with zeros, copies of elements of many cells. Conditions: none. -/
namespace Go.Lx
open Go Go.Vc Go.Md

section
variable {P : Program} {n : Nat} {cx : Cx} {e : Env} {L : List Chunk} {d : Nat} {ty : TypeId} {pos : String} {af : Array Edge} {g : Option (Nat × Bool)}

theorem zeros_rep (z : Array Value) (n : Nat) (hz : 0 < z.size) : (Builtin.zeroCells z n).toList = (List.replicate n z.toList).flatten := made_rep z n hz

/-- append(s[:a], make([]T, k)...) where there is no room: a new row. -/
theorem makes_growZ {xs : List (List Value)} {i : Nat} {S N : Operand} {t tn E : TypeId} {I : TypeInfo} {z : Value} {sz by_ : Nat} {p : Option Addr × Nat} {m a k : Nat} {kn kk : IntKind}
    (ht : P.underlying t = some (.slice E)) (htn : P.underlying tn = some (.int kn)) (hi : P.info? E = some I) (hz : I.zero = some z) (hsize : I.size = sz) (hby : I.bytes = by_) (hzs : z.cells.size = sz) (hsz : Nat.blt 0 sz = true)
    (hL : L[i]? = some (rowO E sz (.slice p.1 m p.2) m xs)) (hs : ev e S = .slice p.1 a p.2) (ha : a ≤ m) (hx : ev e N = .int kk (k : Int)) (h0 : 0 < p.2) (hg : p.2 < a + k) (h63 : a + k ≤ maxLen) (hbytes : (a + k) * by_ ≤ 140737488355328) :
    Makes P cx e ⟨some d, .call ⟨.builtin .append, #[S, N], #[t, tn]⟩, ty, pos, af, g⟩ L [i] (fun p' : Option Addr × Nat => .slice p'.1 (a + k) p'.2) (fun p' => rowV E sz (.slice p'.1 (a + k) p'.2) (a + k) (xs.take a ++ List.replicate k z.cells.toList)) := by
  subst hsize hby
  intro w L' hF hS hi'
  have hL' := (hi' i (by simp)).trans hL
  obtain ⟨S0, hC, hlt⟩ := hS.at hL'
  have hlen : xs.length = m := hC.1.2.1
  have hlx : ∀ x ∈ xs, x.length = I.size := hC.1.2.2
  obtain ⟨g0, off, cur, e1, hSg, hh, hnc, hcm, hfit, htk⟩ := rowO_off hC h0
  have hsz' : 0 < I.size := by simpa using hsz
  have hta : (xs.take a).length = a := by rw [List.length_take]; omega
  have hlo : (xs.take a).flatten.length = a * I.size := by rw [flat_len _ (fun x hx => hlx x (List.mem_of_mem_take hx)), hta]
  have hcell : ∀ j u, (xs.take a).flatten[j]? = some u → w.cell? ((⟨g0, off, none⟩ : Addr).add j) = some u := by
    intro j u hj
    obtain ⟨i', k', x, g1, g2, g3⟩ := flat_get _ (fun x hx => hlx x (List.mem_of_mem_take hx)) j u hj
    have hr := offOf hS hL'
    rcases hr with h | ⟨b, off', ha', h⟩
    · subst h; simp at g1
    · rw [e1] at ha'; cases ha'
      have hg1 : xs[i']? = some x := by
        rw [List.getElem?_take] at g1
        split at g1
        · exact g1
        · cases g1
      have := (h i' x hg1).2 k' u g2
      rw [Addr.add_lit, g3, ← Nat.add_assoc]
      exact this
  have hw : IntKind.i64.wrap (k : Int) = k := by rw [IntKind.wrap_i64]; simp only [maxLen] at h63; omega
  have hn : ¬ (a + k ≤ p.2) := by omega
  have hk0 : 0 < k := by omega
  have h63' : ¬ (9223372036854775807 < ((a : Int) + (k : Int))) := by simp only [maxLen] at h63; omega
  have h48 : Builtin.nextslicecap (a + k) p.2 * I.bytes ≤ 281474976710656 := growslice_fits hg hbytes
  have h48' : ¬ (281474976710656 < Builtin.nextslicecap (a + k) p.2 * I.bytes) := by omega
  have hkb : k * I.bytes ≤ 140737488355328 := Nat.le_trans (Nat.mul_le_mul_right _ (by omega)) hbytes
  have h48i : ¬ (281474976710656 < (k : Int) * (I.bytes : Int)) := by
    rw [← Int.natCast_mul]; omega
  have hneg : ¬ ((k : Int) < 0) := by omega
  have hns : ¬ (k * I.size = 0) := Nat.mul_ne_zero (by omega) (by omega)
  have hns1 : ¬ k = 0 := by omega
  have hns2 : ¬ I.size = 0 := by omega
  have hfo := run_firstCells_some (P := P) w.drew I.size a ⟨g0, off, none⟩ a p.2 (xs.take a).flatten hlo (by simpa using hcell)
  have hr2 : (Builtin.append_ #[t, tn] ty #[.slice (some ⟨g0, off, none⟩) a p.2, .int kk k]).run P w =
      .ok (.slice (some ⟨w.heap.size, 0, none⟩) (a + k) (grownCap w (a + k) p.2 E))
        (w.drew.alloc (.cells ((xs.take a).flatten.toArray ++ Builtin.zeroCells z.cells k ++ Builtin.zeroCells z.cells (grownCap w (a + k) p.2 E - (a + k))) E)) := by
    simp [Builtin.append_, run_underlying ht, run_underlying htn, sizeOf, typeInfo, zeroValue, hi, hz, asInt, asIntOf, hw, hn, hneg, hns, h63', h48', h48i, Question.forced, hfo, newRow, grownCap]
  have hge := grownCap_ge w (a + k) p.2 E
  have hcm2 : grownCap w (a + k) p.2 E ≤ maxLen := grownCap_le_maxLen w (a + k) p.2 E h63
  have hexec : (execOp (ev e) ⟨some d, .call ⟨.builtin .append, #[S, N], #[t, tn]⟩, ty, pos, af, g⟩).run P w = .ok (.value (.slice (some ⟨w.heap.size, 0, none⟩) (a + k) (grownCap w (a + k) p.2 E))) (w.drew.alloc (.cells ((xs.take a).flatten.toArray ++ Builtin.zeroCells z.cells k ++ Builtin.zeroCells z.cells (grownCap w (a + k) p.2 E - (a + k))) E)) := by
    have hs' : ev e S = .slice (some ⟨g0, off, none⟩) a p.2 := by rw [hs, e1]
    simp only [execOp, resolve, invoke, builtin, Sem.run_bind, Sem.run_pure, Result.andThen_ok, List.map_toArray, List.map_cons, List.map_nil, hs', hx, hr2]
  have hall : ∀ x ∈ xs.take a ++ List.replicate k z.cells.toList, x.length = I.size := fun x hx => by
    rcases List.mem_append.1 hx with h | h
    · exact hlx x (List.mem_of_mem_take h)
    · rw [List.eq_of_mem_replicate h]; simpa using hzs
  have hown : (w.drew.alloc (.cells ((xs.take a).flatten.toArray ++ Builtin.zeroCells z.cells k ++ Builtin.zeroCells z.cells (grownCap w (a + k) p.2 E - (a + k))) E)).ownsRow w.heap.size E I.size (.slice (some ⟨w.heap.size, 0, none⟩) (a + k) (grownCap w (a + k) p.2 E)) (a + k) (xs.take a ++ List.replicate k z.cells.toList).flatten := by
    have hfl : (xs.take a ++ List.replicate k z.cells.toList).flatten.length = (a + k) * I.size := by rw [flat_len _ hall]; congr 1; simp [hta]
    refine ⟨hfl, .inr ⟨w.heap.size, _, _, rfl, Nat.le_refl _, heap_alloc_new w.drew _, hge, hcm2, ?_, ?_⟩⟩
    · simp only [Array.size_append, List.size_toArray, size_zeroCells, hzs, hlo, ← Nat.add_mul]
      congr 1
      omega
    · simp only [Array.toList_append, List.append_assoc]
      rw [zeros_rep _ k (by rw [hzs]; exact hsz'), ← hfl, List.flatten_append, ← List.append_assoc, List.take_left]
  unfold RunsTo
  rw [hexec]
  refine ⟨(_, _), rfl, ⟨rfl, rfl, rfl, by simp, fun b hb _ => heap_alloc_old w.drew _ b hb, fun b' => b' = w.heap.size, ⟨⟨own0 hown, by simp [hta], hall⟩, fun b hb => by cases hb; rfl⟩, fun b hb => ?_⟩⟩
  subst hb
  exact ⟨(hown.lt _ rfl).2, .inr (Nat.le_refl _)⟩

/-- copy of elements of many cells into a row. -/
theorem turns_copyK {xs news : List (List Value)} {i : Nat} {D X : Operand} {t u E : TypeId} {I : TypeInfo} {sz : Nat} {p : Option Addr × Nat} {rds : List Nat} {ax : Option Addr} {dl cd c m a q : Nat} {dst : Option Nat}
    (ht : P.underlying t = some (.slice E)) (hi : P.info? E = some I) (hsize : I.size = sz)
    (hL : L[i]? = some (rowV E sz (.slice p.1 m p.2) m xs)) (hm : m = xs.length) (hd : ev e D = .slice (cutA p.1 a p.2 sz) dl cd) (ha : a + dl ≤ m) (hx : ev e X = .slice ax q c) (hql : q ≤ dl) (hq : q = news.length) (hq0 : 0 < q)
    (hnews : ∀ w L', Fr cx w → Sat cx w L' → (∀ j, j ∈ rds → L'[j]? = L[j]?) → Row w ax sz news) (hnl : ∀ x ∈ news, x.length = sz) (h1 : ∀ x ∈ news, ∀ u ∈ x, u.oneCell' = true) :
    Turns P cx e ⟨dst, .call ⟨.builtin .copy, #[D, X], #[t, u]⟩, ty, pos, af, g⟩ L i rds (fun _ : Unit => .int .i64 (q : Int)) (fun _ => rowV E sz (.slice p.1 m p.2) m (xs.take a ++ news ++ xs.drop (a + q))) := by
  subst hsize hq hm
  intro w L' hF hS hl hi'
  have hr := hnews w L' hF hS (fun j hj => hi' j (.inl hj))
  have hL' := (hi' i (.inr rfl)).trans hL
  obtain ⟨S0, ⟨⟨ho, hlen, hlx⟩, hob⟩, hlt⟩ := hS.at hL'
  have hall : ∀ x ∈ xs.take a ++ news ++ xs.drop (a + news.length), x.length = I.size := fun x hx => by
    rcases List.mem_append.1 hx with h | h
    · rcases List.mem_append.1 h with h | h
      · exact hlx x (List.mem_of_mem_take h)
      · exact hnl x h
    · exact hlx x (List.mem_of_mem_drop h)
  have hle : (xs.take a ++ news ++ xs.drop (a + news.length)).length = xs.length := by
    simp only [List.length_append, List.length_take, List.length_drop]; omega
  have hmin : Nat.min news.length dl = news.length := Nat.min_eq_left hql
  · rcases ho.2 with ⟨_, hz⟩ | ⟨g0, cap, cur, hv0, hb0, hh, hnc, hcm, hcs, htk⟩
    · omega
    · simp only [Value.slice.injEq] at hv0
      obtain ⟨hp1, _, hp2⟩ := hv0
      have hcut : cutA p.1 a p.2 I.size = some ⟨g0, a * I.size, none⟩ := by
        rw [hp1]; unfold cutA
        rw [if_neg (by omega)]; simp [Addr.add_lit]
      rcases hr with hr | ⟨b, off, hax, hr⟩
      · rw [hr] at hq0; exact absurd hq0 (by simp)
      subst hax
      have hfl : news.flatten.length = news.length * I.size := by rw [flat_len news hnl]
      have hcell : ∀ j u, news.flatten[j]? = some u → w.cell? ((⟨b, off, none⟩ : Addr).add j) = some u := by
        intro j u hj
        obtain ⟨i', k', x, g1, g2, g3⟩ := flat_get news hnl j u hj
        have := (hr i' x g1).2 k' u g2
        rw [Addr.add_lit, g3, ← Nat.add_assoc]
        exact this
      have hone : ∀ u ∈ news.flatten, u.oneCell' = true := fun u hu => by
        obtain ⟨x, hx, hux⟩ := List.mem_flatten.1 hu
        exact h1 x hx u hux
      have hcur : cur.toList.length = cur.size := Array.length_toList
      have hsum : (a + news.length) * I.size ≤ xs.length * I.size := Nat.mul_le_mul_right _ (by omega)
      have hsum2 : xs.length * I.size ≤ cap * I.size := Nat.mul_le_mul_right _ hnc
      have hfit : a * I.size + news.flatten.length ≤ cur.size := by
        rw [Nat.add_mul] at hsum; omega
      have hfc := run_firstCells_some (P := P) w I.size news.length ⟨b, off, none⟩ news.length c news.flatten hfl hcell
      have hst := run_storeCells_at (P := P) g0 (a * I.size) E news.flatten 0 cur w hh (by simpa using hfit) hone
      simp only [Nat.add_zero] at hst
      have hr2 : (Builtin.copy_ #[t, u] ty #[.slice (some ⟨g0, a * I.size, none⟩) dl cd, .slice (some ⟨b, off, none⟩) news.length c]).run P w = .ok (goInt news.length) (w.setRow g0 (cur.toList.take (a * I.size) ++ news.flatten ++ cur.toList.drop (a * I.size + news.flatten.length)).toArray) := by
        have hmin2 : min news.length dl = news.length := hmin
        simp [Builtin.copy_, run_underlying ht, Builtin.lenOf, sizeOf, typeInfo, hi, hmin, hmin2, hfc, hst]
      have hexec : (execOp (ev e) ⟨dst, .call ⟨.builtin .copy, #[D, X], #[t, u]⟩, ty, pos, af, g⟩).run P w = .ok (.value (.int .i64 (news.length : Int))) (w.setRow g0 (cur.toList.take (a * I.size) ++ news.flatten ++ cur.toList.drop (a * I.size + news.flatten.length)).toArray) := by
        simp only [execOp, resolve, invoke, builtin, Sem.run_bind, Sem.run_pure, Result.andThen_ok, List.map_toArray, List.map_cons, List.map_nil, hd, hcut, hx, hr2]
        rfl
      have hxf : xs.flatten.length = xs.length * I.size := flat_len xs hlx
      have e2 : (xs.take a ++ news ++ xs.drop (a + news.length)).flatten = xs.flatten.take (a * I.size) ++ news.flatten ++ xs.flatten.drop ((a + news.length) * I.size) := by
        rw [List.flatten_append, List.flatten_append, ← flat_takeN _ hlx, ← flat_dropN _ hlx]
      have hlen2 : (cur.toList.take (a * I.size) ++ news.flatten ++ cur.toList.drop (a * I.size + news.flatten.length)).length = cur.size := by
        simp only [List.length_append, List.length_take, List.length_drop, hcur]; omega
      have e1 : cur.toList = xs.flatten ++ cur.toList.drop (xs.length * I.size) := by rw [← htk, List.take_append_drop]
      have hown : (w.setRow g0 (cur.toList.take (a * I.size) ++ news.flatten ++ cur.toList.drop (a * I.size + news.flatten.length)).toArray).ownsRow 0 E I.size (.slice p.1 xs.length p.2) xs.length (xs.take a ++ news ++ xs.drop (a + news.length)).flatten := by
        refine ⟨by rw [flat_len _ hall, hle], .inr ⟨g0, cap, _, by rw [hp1, hp2], hb0, setRow_heap w g0 cur _ E (0, 0) hh, hnc, hcm, by rw [List.size_toArray, hlen2]; exact hcs, ?_⟩⟩
        rw [List.toList_toArray, e2]
        have hal : a * I.size ≤ xs.flatten.length := by rw [hxf]; exact Nat.mul_le_mul_right _ (by omega)
        have e3 : cur.toList.take (a * I.size) = xs.flatten.take (a * I.size) := by
          rw [e1, List.take_append_of_le_length hal]
        have e4 : cur.toList.drop (a * I.size + news.flatten.length) = xs.flatten.drop ((a + news.length) * I.size) ++ cur.toList.drop (xs.length * I.size) := by
          conv => lhs; rw [e1]
          rw [hfl, ← Nat.add_mul, List.drop_append_of_le_length (by rw [hxf]; exact hsum)]
        rw [e3, e4, ← List.append_assoc]
        have hl3 : (xs.flatten.take (a * I.size) ++ news.flatten ++ xs.flatten.drop ((a + news.length) * I.size)).length = xs.length * I.size := by
          rw [← e2, flat_len _ hall, hle]
        rw [← hl3, List.take_left]
      have hgb : w.grownBy (w.setRow g0 (cur.toList.take (a * I.size) ++ news.flatten ++ cur.toList.drop (a * I.size + news.flatten.length)).toArray) (Value.slice p.1 xs.length p.2).ownBlock :=
        ⟨rfl, rfl, rfl, by simp, fun b' _ hb => setRow_other w g0 b' _ (fun e => hb (by simp [Value.ownBlock, hp1, e]))⟩
      obtain ⟨hF', hS'⟩ := hS.turnOf hF hL' (C := rowV E I.size (.slice p.1 xs.length p.2) xs.length (xs.take a ++ news ++ xs.drop (a + news.length))) fun S1 hp => turn_append hp.2 hown hgb (.inl rfl) hle hall
      unfold RunsTo
      rw [hexec]
      exact ⟨(), rfl, hF', hS'⟩
end
end Go.Lx

namespace Go.Lx
open Go Go.Vc Go.Md
theorem AllC.ins {α : Type} {G : Heap → (Nat → Value) → α → Prop} {h : Heap} {sz by_ : Nat} {css : List (List Value)} {xs ys : List α} {i : Int} {x : α} {cs : List Value} (p : AllC G h sz css xs) (g : gInsN by_ xs i x = some ys) (hl : cs.length = sz) (hG : G h (fun j => cs.getD j undef) x) :
    gInsN by_ css i cs = some (insL css i cs) ∧ AllC G h sz (insL css i cs) ys := by
  obtain ⟨rfl, h0, h1, h2, h3⟩ := gInsN_some g
  have hn := p.len
  refine ⟨gInsN_ok ⟨h0, by rw [hn]; exact h1, by rw [hn]; exact h2, by rw [hn]; exact h3⟩, ?_⟩
  unfold insL
  have q1 := p.cut (l := 0) (q := i) (ys := xs.take i.toNat) (by rw [gCut_to (by omega)])
  have q2 := p.cut (l := i) (q := xs.length) (ys := xs.drop i.toNat) (by rw [gCut_from (by omega)])
  have e1 : cutL css 0 i = css.take i.toNat := by unfold cutL; simp
  have e2 : cutL css i xs.length = css.drop i.toNat := by
    unfold cutL
    rw [List.take_of_length_le (by rw [List.length_drop, hn]; omega)]
  rw [e1] at q1
  rw [e2] at q2
  have q3 : AllC G h sz [cs] [x] := by
    have := (AllC.nil (G := G) (h := h) (sz := sz)).snoc hl hG
    simpa using this
  exact q1.append (q3.append q2)
theorem insL_len {α : Type} {xs : List α} {i : Int} {x : α} (h : i ≤ xs.length) (h0 : 0 ≤ i) : (insL xs i x).length = xs.length + 1 := by
  unfold insL
  simp only [List.length_append, List.length_take, List.length_drop, List.length_cons, List.length_nil]; omega
end Go.Lx

namespace Go.Vc
open Go
section
variable {P : Program} {cx : Cx} {e : Env} {L : List Chunk}
/-- A result of one cell that lies in a box; then one in a slot. -/
theorem retC1t {i : Nat} {fn : Func} {R : Value → World → Prop} {t T T0 b u : Nat} {v v2 : Value} (hA : ∀ w, (isAgg T).run P w = .ok false w) (hr : fn.results = #[.cell t T, .tmp u])
    (ht : e t = .pointer (some ⟨b, 0, none⟩)) (hL : L[i]? = some (cellsC b [v] T0)) (h2 : e u = v2) (k : ∀ w, Fr cx w → Sat cx w L → R (.tuple #[v, v2]) w) : At cx (BodyQ P fn R .ret) e L :=
  ⟨fun w hF hS tmps hts => ⟨.tuple #[v, v2], by
    have hl := run_loadVar_one (P := P) (w := w) (b := b) (o := 0) hA (by rw [cell_of (sat_cell hS hL)]; rfl)
    rw [results_cell1t hr tmps w (by rw [hts, ht]) hl, hts, h2], k w hF hS⟩⟩
theorem retC1 {i : Nat} {fn : Func} {R : Value → World → Prop} {t T T0 b : Nat} {v : Value} (hA : ∀ w, (isAgg T).run P w = .ok false w) (hr : fn.results = #[.cell t T])
    (ht : e t = .pointer (some ⟨b, 0, none⟩)) (hL : L[i]? = some (cellsC b [v] T0)) (k : ∀ w, Fr cx w → Sat cx w L → R v w) : At cx (BodyQ P fn R .ret) e L :=
  ⟨fun w hF hS tmps hts => ⟨v, by
    have hl := run_loadVar_one (P := P) (w := w) (b := b) (o := 0) hA (by rw [cell_of (sat_cell hS hL)]; rfl)
    exact results_cell1 hr tmps w (by rw [hts, ht]) hl, k w hF hS⟩⟩
end
end Go.Vc
