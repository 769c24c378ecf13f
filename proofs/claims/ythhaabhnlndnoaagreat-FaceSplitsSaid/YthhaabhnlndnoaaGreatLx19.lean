/- Rules: rows of one's own that are known to have room: append within it. Conditions: none. -/
import Derived.Test.YthhaabhnlndnoaaGreatLx15
import Derived.Test.YthhaabhnlndnoaaGreatMd5
namespace Go.Lx
open Go Go.Vc Go.Md

/-! ### in drawn regions: values that hang on what the region makes -/

/-- One value, told by the slots that it hangs on. -/
def _root_.Go.Vc.Kd.dv (a : Nat) (rds : List Nat) (φ : Value → Value) : Kd := .g [a] rds [] (fun vs _ v => v = φ (vs.headD undef)) (fun _ _ _ => [])

section rules
variable {P : Program} {cx : Cx} {ops : Array Oper} {F : Env → List Chunk → Prop} {ss : List Kd} {rest : List Oper} {e : Env} {L : List Chunk}
theorem d_readV {o : Oper} {d a : Nat} {v : Value} {φ : Value → Value} {rds : List Nat} (hv : φ (e a) = v) (hr : ∀ w L', Fr cx w → Sat cx w L' → (∀ i ∈ rds, L'[i]? = L[i]?) → (execOp (ev e) o).run P w = .ok (.value v) w) (hw : want ops o e = true) (hd : o.dst = some d)
    (k : Sq P cx ops F rest ss (upd e d v) L) : Sq P cx ops F (o :: rest) (.dv a rds φ :: ss) e L := by
  subst hv
  refine .take hw ⟨_, rfl⟩ ⟨fun w L' hF hS _ hi => ?_⟩ fun v' hv' => ?_
  · unfold RunsTo
    rw [hr w L' hF hS fun i hm => hi i (.inl hm)]
    exact ⟨rfl, hF.grow (Grow.refl w), hS.grow (Grow.refl w)⟩
  · have : v' = φ (e a) := hv'
    subst this
    rw [hd]
    exact k
end rules

/-- A row of one's own, with room for so many elements. -/
def rowC (E : TypeId) (sz : Nat) (v : Value) (n : Nat) (xs : List (List Value)) (c : Nat) : Chunk where
  P S w := (rowV E sz v n xs).P S w ∧ c ≤ sc v
  loc S w w' h := fun ⟨h1, h2⟩ => ⟨(rowV E sz v n xs).loc S w w' h h1, h2⟩

theorem imp_rowC (E : TypeId) (sz : Nat) (v : Value) (n : Nat) (xs : List (List Value)) (c : Nat) : Imp (rowC E sz v n xs c) (rowV E sz v n xs) := ⟨fun _ _ h => h.1⟩

theorem imp_C0 (E : TypeId) (sz : Nat) (v : Value) : Imp (rowV E sz v 0 []) (rowC E sz v 0 [] 0) := ⟨fun _ _ h => ⟨h, Nat.zero_le _⟩⟩

section rules
variable {P : Program} {n : Nat} {cx : Cx} {e : Env} {L : List Chunk} {d : Nat} {ty : TypeId} {pos : String} {af : Array Edge} {g : Option (Nat × Bool)}

theorem run_append_in {S X : Operand} {t E : TypeId} {I : TypeInfo} {sz : Nat} {w : World} {v : Value} {m : Nat} {xs : List Value} {ad : Addr} {q c : Nat} {news : List Value}
    (ht : P.underlying t = some (.slice E)) (hi : P.info? E = some I) (hsize : I.size = sz)
    (hs : ev e S = v) (hown : w.ownsRow 0 E sz v m xs) (hx : ev e X = .slice (some ad) q c) (hl : news.length = q * sz) (hnews : ∀ j u, news[j]? = some u → w.cell? (ad.add j) = some u) (h1 : ∀ u ∈ news, u.oneCell' = true) (hroom : m + q ≤ sc v) :
    ∃ v' w', (execOp (ev e) ⟨some d, .call ⟨.builtin .append, #[S, X], #[t, t]⟩, ty, pos, af, g⟩).run P w = .ok (.value v') w' ∧ w'.ownsRow 0 E sz v' (m + q) (xs ++ news) ∧ w.grownBy w' v.ownBlock ∧ v'.ownBlock = v.ownBlock ∧ sc v' = sc v := by
  subst hsize
  have hlen : (xs ++ news).length = (m + q) * I.size := by rw [List.length_append, hown.1, hl, Nat.add_mul]
  rcases hown.2 with ⟨rfl, rfl⟩ | ⟨g0, cap, cur, rfl, hbg, hg, hnc, hcm, hcs, htake⟩
  · have hq : q = 0 := by simp only [sc] at hroom; omega
    subst hq
    have hn : news = [] := List.eq_nil_of_length_eq_zero (by simpa using hl)
    subst hn
    have hxs : xs = [] := List.eq_nil_of_length_eq_zero (by simpa using hown.1)
    subst hxs
    refine ⟨.slice none 0 0, w, ?_, World.ownsRow_nil w 0 E I.size, ⟨rfl, rfl, rfl, Nat.le_refl _, fun _ _ _ => rfl⟩, rfl, rfl⟩
    have hr : (Builtin.append_ #[t, t] ty #[.slice none 0 0, .slice (some ad) 0 c]).run P w = .ok (.slice none 0 0) w := by
      simp [Builtin.append_, run_underlying ht, sizeOf, typeInfo, hi, Builtin.lenOf, Builtin.firstCells, loadCells, loadCellsFrom]
    simp only [execOp, resolve, invoke, builtin, Sem.run_bind, Sem.run_pure, Result.andThen_ok, List.map_toArray, List.map_cons, List.map_nil, hs, hx, hr]
  · simp only [sc] at hroom
    have hfit : m * I.size + news.length ≤ cur.size := by rw [hl, hcs, ← Nat.add_mul]; exact Nat.mul_le_mul_right _ hroom
    have hr := run_append_room (P := P) w t ty E I ht hi g0 m cap cur hg ad q c news hl hnews h1 hroom hfit
    have he : (execOp (ev e) ⟨some d, .call ⟨.builtin .append, #[S, X], #[t, t]⟩, ty, pos, af, g⟩).run P w = .ok (.value (.slice (some ⟨g0, 0, none⟩) (m + q) cap)) (w.setRow g0 (cur.toList.take (m * I.size) ++ news ++ cur.toList.drop (m * I.size + news.length)).toArray) := by
      simp only [execOp, resolve, invoke, builtin, Sem.run_bind, Sem.run_pure, Result.andThen_ok, List.map_toArray, List.map_cons, List.map_nil, hs, hx, hr]
    refine ⟨_, _, he, ⟨hlen, .inr ⟨g0, cap, _, rfl, hbg, setRow_heap w g0 cur _ E _ hg, hroom, hcm, ?_, ?_⟩⟩, ⟨rfl, rfl, rfl, by simp, fun k _ hk => setRow_other w g0 k _ (fun e => hk (by simp [Value.ownBlock, e]))⟩, rfl, rfl⟩
    · simp only [List.size_toArray, List.length_append, List.length_take, List.length_drop, Array.length_toList]
      omega
    · rw [htake, ← hlen]
      exact List.take_left

/-- append onto a row with room. -/
theorem turns_appC {α : Type} {f : α → List Value} {ys ls zs : List α} {i : Nat} {S X : Operand} {t E : TypeId} {I : TypeInfo} {z : Value} {sz by_ : Nat} {p : Option Addr × Nat} {rds : List Nat} {V : Value} {a : Option Addr} {c m q cp : Nat} (hn : m = ys.length)
    (ht : P.underlying t = some (.slice E)) (hi : P.info? E = some I) (_hz : I.zero = some z) (hsize : I.size = sz) (_hby : I.bytes = by_) (_hzs : z.cells.size = sz) (_hsz : Nat.blt 0 sz = true)
    (hL : L[i]? = some (rowC E sz (.slice p.1 m p.2) m (ys.map f) cp)) (hs : ev e S = .slice p.1 m p.2) (hx : ev e X = V) (hV : V = .slice a q c) (hq : q = ls.length)
    (hnews : ∀ w L', Fr cx w → Sat cx w L' → (∀ j, j ∈ rds → L'[j]? = L[j]?) → Row w a sz (ls.map f)) (hf : ∀ x, (f x).length = sz) (h1 : ∀ x, (f x).all Value.oneCell' = true) (hg : gApC cp ys ls = some zs) :
    Turns P cx e ⟨some d, .call ⟨.builtin .append, #[S, X], #[t, t]⟩, ty, pos, af, g⟩ L i rds (fun p' : Option Addr × Nat => .slice p'.1 zs.length p'.2) (fun p' => rowC E sz (.slice p'.1 zs.length p'.2) zs.length (zs.map f) cp) := by
  subst hn hq
  obtain ⟨rfl, hb1⟩ := gApC_some hg
  intro w L' hF hS hl hi'
  have hr := hnews w L' hF hS fun j hj => hi' j (.inl hj)
  have hL' := (hi' i (.inr rfl)).trans hL
  obtain ⟨S0, ⟨⟨⟨ho, hlen, hlx⟩, hob⟩, hcp⟩, _⟩ := hS.at hL'
  cases ha : a with
  | some ad =>
    subst ha
    have hnl : ∀ x ∈ ls.map f, x.length = sz := fun x hx => by obtain ⟨y, _, rfl⟩ := List.mem_map.1 hx; exact hf y
    have hfl : (ls.map f).flatten.length = ls.length * sz := by rw [flat_len (ls.map f) hnl, List.length_map]
    have hcell : ∀ j u, (ls.map f).flatten[j]? = some u → w.cell? (ad.add j) = some u := by
      intro j u hj
      obtain ⟨i', k', x, g1, g2, g3⟩ := flat_get (ls.map f) hnl j u hj
      rcases hr with h | ⟨b, off, ha, h⟩
      · rw [h] at g1; simp at g1
      · cases ha
        have := (h i' x g1).2 k' u g2
        rw [Addr.add_lit, g3, ← Nat.add_assoc]
        exact this
    obtain ⟨v', w', hrun, h2, h3, h5, h6⟩ := run_append_in (P := P) (ty := ty) (pos := pos) (af := af) (g := g) (d := d) ht hi hsize hs ho (hx.trans hV) hfl hcell (by
      intro u hu
      obtain ⟨x, hx, hux⟩ := List.mem_flatten.1 hu
      obtain ⟨y, _, rfl⟩ := List.mem_map.1 hx
      exact List.all_eq_true.1 (h1 y) u hux) (Nat.le_trans hb1.1 hcp)
    obtain ⟨p', rfl⟩ := slice_of_row h2
    rw [← List.flatten_append] at h2
    have hlc : (zs_ : List α) → zs_ = ys ++ ls → True := fun _ _ => trivial
    obtain ⟨hF', hS'⟩ := hS.turnOf hF hL' (C := rowC E sz (.slice p'.1 (ys.length + ls.length) p'.2) (ys.length + ls.length) ((ys.map f) ++ (ls.map f)) cp) fun S1 hp => by
      have ht := turn_append hp.1.2 h2 h3 (.inl h5) (by simp) (by
        intro x hx
        rcases List.mem_append.1 hx with h | h
        · exact hlx x h
        · exact hnl x h)
      obtain ⟨k1, k2, k3, k4, k5, S2, k6, k7⟩ := ht
      exact ⟨k1, k2, k3, k4, k5, S2, ⟨k6, by rw [h6]; exact hcp⟩, k7⟩
    unfold RunsTo
    rw [hrun]
    refine ⟨p', by rw [List.length_append], hF', ?_⟩
    rw [List.length_append, List.map_append]
    exact hS'
  | none =>
    subst ha
    have hls : ls = [] := by
      rcases hr with h | ⟨b, off, h, _⟩
      · simpa using h
      · cases h
    subst hls
    have he : (execOp (ev e) ⟨some d, .call ⟨.builtin .append, #[S, X], #[t, t]⟩, ty, pos, af, g⟩).run P w = .ok (.value (.slice p.1 ys.length p.2)) w := by
      simp only [execOp, resolve, invoke, builtin, Sem.run_bind, Sem.run_pure, Result.andThen_ok, List.map_toArray, List.map_cons, List.map_nil, hs, hx, hV, List.length_nil, run_append_none_cap t ty E I sz ht hi _ _ _ c ho]
    unfold RunsTo
    rw [he]
    refine ⟨p, by simp, hF, ?_⟩
    have : L'.set i (rowC E sz (.slice p.1 (ys.length + 0) p.2) (ys.length + 0) ((ys ++ []).map f) cp) = L' := by
      rw [List.append_nil, Nat.add_zero]
      refine List.ext_getElem? fun j => ?_
      rw [List.getElem?_set]
      split
      · rename_i h; subst h
        split
        · exact hL'.symm
        · rename_i h; rw [List.getElem?_eq_none (by omega)]
      · rfl
    rw [List.append_nil] at this ⊢
    rw [show ys.length + 0 = ys.length from rfl] at this
    rw [this]
    exact hS

/-- append(nil, make([]T, n)...): a row without elements, and with room. -/
theorem makes_zerosC {S N : Operand} {t tn E : TypeId} {I : TypeInfo} {z : Value} {sz by_ m : Nat} {k kn : IntKind} {rds : List Nat} (ht : P.underlying t = some (.slice E)) (htn : P.underlying tn = some (.int kn)) (hi : P.info? E = some I) (hz : I.zero = some z) (hsize : I.size = sz) (hby : I.bytes = by_) (hzs : z.cells.size = sz) (hsz : Nat.blt 0 sz = true)
    (hs : ev e S = .slice none 0 0) (hn : ev e N = .int k (m : Int)) (h0 : 0 < m) (hm : m ≤ 281474976710656) (hb : by_ * m ≤ 281474976710656) :
    Makes P cx e ⟨some d, .call ⟨.builtin .append, #[S, N], #[t, tn]⟩, ty, pos, af, g⟩ L rds (fun x : Nat × Nat => .slice (some ⟨x.1, 0, none⟩) m x.2) (fun x => rowC E sz (.slice (some ⟨x.1, 0, none⟩) 0 x.2) 0 [] m) := fun w L' hF hS hi' => by
  subst hsize hby
  have hr := Lib.run_append_nil_zeros (P := P) w t tn ty E I z k kn ht htn hi hz m h0 (by simpa using hsz) (by omega) (by rw [Nat.mul_comm]; omega)
  have hge := grownCap_ge w m 0 E
  have hcm : grownCap w m 0 E ≤ maxLen := grownCap_le_maxLen w m 0 E (by simp only [maxLen]; omega)
  have he : (execOp (ev e) ⟨some d, .call ⟨.builtin .append, #[S, N], #[t, tn]⟩, ty, pos, af, g⟩).run P w = .ok (.value (.slice (some ⟨w.heap.size, 0, none⟩) m (grownCap w m 0 E))) (w.drew.alloc (.cells (Builtin.zeroCells z.cells m ++ Builtin.zeroCells z.cells (grownCap w m 0 E - m)) E)) := by
    simp only [execOp, resolve, invoke, builtin, Sem.run_bind, Sem.run_pure, Result.andThen_ok, List.map_toArray, List.map_cons, List.map_nil, hs, hn, hr]
  unfold RunsTo
  rw [he]
  have hby := grown_by w (.cells (Builtin.zeroCells z.cells m ++ Builtin.zeroCells z.cells (grownCap w m 0 E - m)) E) none
  refine ⟨(w.heap.size, grownCap w m 0 E), rfl, hby.os, hby.tape, hby.output, hby.size, fun b hb _ => hby.block b hb (by simp), fun b => b = w.heap.size, ⟨⟨⟨⟨by simp, .inr ⟨w.heap.size, _, _, rfl, Nat.zero_le _, heap_alloc_new w.drew _, Nat.zero_le _, hcm, ?_, by simp⟩⟩, rfl, by simp⟩, fun b hb => ?_⟩, hge⟩, fun b hb => ?_⟩
  · simp only [Array.size_append, size_zeroCells, hzs]
    rw [← Nat.add_mul]
    congr 1
    omega
  · simp [Value.ownBlock] at hb; exact hb.symm
  · subst hb
    exact ⟨by simp, .inr (Nat.le_refl _)⟩
end rules
end Go.Lx
