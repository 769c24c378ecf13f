/- Rules: the beginning of a row of one's own as a row, slices with three indices, clear of a part of a row. Conditions: none. -/
import Derived.Test.YthhaabhnlndnoaaGreatLx21
import Derived.Test.YthhaabhnlndnoaaGreatMd5
namespace Go.Lx
open Go Go.Vc Go.Md

theorem cutA_zero (a : Option Addr) (m sz : Nat) : cutA a 0 m sz = a := by
  unfold cutA
  split
  · rfl
  · cases a with
    | none => rfl
    | some x => obtain ⟨b, o, f⟩ := x; simp [Addr.add]

theorem Row.cut0G {α : Type} {w : World} {a : Option Addr} {m c sz : Nat} {f : α → List Value} {xs ys : List α} {q : Int} (h : Row w a sz (xs.map f)) (hm : m = xs.length) (hc : m ≤ c) (e : gCut xs 0 q = some ys) : Row w a sz (ys.map f) := by
  have := Row.cutG h hm hc e
  rwa [show (0 : Int).toNat = 0 from rfl, cutA_zero] at this

theorem FrS.cut0 {α : Type} {h : Heap} {sz : Nat} {a : Option Addr} {n c : Nat} {f : α → List Value} {xs ys : List α} {q : Int} (s : FrS h sz (.slice a n c) (xs.map f)) (e : gCut xs 0 q = some ys) : FrS h sz (.slice a ys.length c) (ys.map f) := by
  have := FrS.cutL s e
  rwa [show (0 : Int).toNat = 0 from rfl, cutA_zero, Nat.sub_zero] at this
theorem FrN.cut0 {α : Type} {h : Heap} {sz : Nat} {a : Option Addr} {n c : Nat} {G : Heap → (Nat → Value) → α → Prop} {xs ys : List α} {q : Int} (s : FrN h sz (.slice a n c) G xs) (e : gCut xs 0 q = some ys) : FrN h sz (.slice a ys.length c) G ys := by
  have := s.cutL e
  rwa [show (0 : Int).toNat = 0 from rfl, cutA_zero, Nat.sub_zero] at this

section ops
variable {P : Program} {e : Env} {d : Option Nat} {ty : TypeId} {pos : String} {af : Array Edge} {g : Option (Nat × Bool)}

theorem run_sliceHO0 {α : Type} {X B : Operand} {a : Option Addr} {m c : Nat} {t u sz : Nat} {kb : IntKind} {q : Int} {xs ys : List α} {w : World} (hu : P.underlying t = some (.slice u)) (hs : ∀ w, (sizeOf u).run P w = .ok sz w)
    (hx : ev e X = .slice a m c) (hb : ev e B = .int kb q) (hm : m = xs.length) (hc : m ≤ c) (hg : gCut xs 0 q = some ys) :
    (execOp (ev e) ⟨d, .slice t X none (some B) none, ty, pos, af, g⟩).run P w = .ok (.value (.slice a ys.length c)) w := by
  obtain ⟨g0, g1, g2, _⟩ := gCut_some hg
  have hl := gCut_len hg
  rw [r_sliceH hu hs hx hb g1 (by omega) w, hl, cutA_zero]; rfl

/-- s[i:j:len(s)]. -/
theorem run_slice3O {α : Type} {X A B M : Operand} {a : Option Addr} {m c : Nat} {t u sz : Nat} {ka kb km : IntKind} {l q : Int} {xs ys : List α} {w : World} (hu : P.underlying t = some (.slice u)) (hs : ∀ w, (sizeOf u).run P w = .ok sz w)
    (hx : ev e X = .slice a m c) (ha : ev e A = .int ka l) (hb : ev e B = .int kb q) (hmx : ev e M = .int km (xs.length : Int)) (hm : m = xs.length) (hc : m ≤ c) (hg : gCut xs l q = some ys) :
    (execOp (ev e) ⟨d, .slice t X (some A) (some B) (some M), ty, pos, af, g⟩).run P w = .ok (.value (.slice (cutA a l.toNat m sz) ys.length (m - l.toNat))) w := by
  obtain ⟨g0, g1, g2, _⟩ := gCut_some hg
  have hl := gCut_len hg
  have hu' : P.underlying t = some (.slice (P.elem t)) := by rw [elem_of hu]; exact hu
  subst hm
  simp only [execOp, Option.map_some, Option.map_none, hx, ha, hb, hmx, Sem.run_bind, run_sliceAt_slice w t _ _ _ _ hu', run_slice_lhm w t a _ c hu' ka kb km l q _ g0 g1 g2 (Int.ofNat_le.2 hc), elem_of hu, hs, Result.andThen_ok, Sem.run_pure, sliced, cutA, Int.toNat_natCast, hl]

/-- The room behind a row that has become shorter. -/
theorem run_sliceRoom {X A B : Operand} {a : Option Addr} {m c : Nat} {t u sz : Nat} {ka kb : IntKind} {q : Int} {w : World} (hu : P.underlying t = some (.slice u)) (hs : ∀ w, (sizeOf u).run P w = .ok sz w)
    (hx : ev e X = .slice a m c) (ha : ev e A = .int ka (m : Int)) (hb : ev e B = .int kb q) (h1 : (m : Int) ≤ q) (h2 : q ≤ c) :
    (execOp (ev e) ⟨d, .slice t X (some A) (some B) none, ty, pos, af, g⟩).run P w = .ok (.value (.slice (cutA a m c sz) (q.toNat - m) (c - m))) w := by
  have := r_sliceLH (d := d) (ty := ty) (pos := pos) (af := af) (g := g) hu hs hx ha hb (Int.natCast_nonneg m) h1 h2 w
  rwa [Int.toNat_natCast] at this
end ops

section rules
variable {P : Program} {n : Nat} {cx : Cx} {e : Env} {L : List Chunk} {d : Nat} {ty : TypeId} {pos : String} {af : Array Edge} {g : Option (Nat × Bool)}

theorem roomOf {w : World} {i E sz n m c : Nat} {a : Option Addr} {xs : List (List Value)} (hS : Sat cx w L) (hL : L[i]? = some (rowC E sz (.slice a n c) n xs m)) : m ≤ c := by
  obtain ⟨S, ⟨_, h⟩, _⟩ := hS.at hL
  exact h

/-- A row that has an element has a place. -/
theorem someOf {α : Type} {w : World} {i E sz n c : Nat} {a : Option Addr} {f : α → List Value} {xs : List α} {k : Int} {x : α} (hS : Sat cx w L) (hL : L[i]? = some (rowV E sz (.slice a n c) n (xs.map f))) (hg : gAt xs k = some x) : ∃ b off, a = some ⟨b, off, none⟩ := by
  obtain ⟨S, ⟨⟨h1, h2, h3⟩, _⟩, _⟩ := hS.at hL
  have := (gAt_some hg).2.1
  rcases h1.2 with ⟨hv, h0⟩ | ⟨g, cap, cur, hv, _, hh, hnc, _⟩
  · rw [List.length_map] at h2; omega
  · simp only [Value.slice.injEq] at hv; exact ⟨g, 0, hv.1⟩

theorem capC {w : World} {i E sz n m c : Nat} {a : Option Addr} {xs : List (List Value)} (hS : Sat cx w L) (hL : L[i]? = some (rowC E sz (.slice a n c) n xs m)) : n ≤ c := by
  obtain ⟨S, ⟨⟨⟨h1, h2, h3⟩, _⟩, _⟩, _⟩ := hS.at hL
  rcases h1.2 with ⟨hv, h0⟩ | ⟨g, cap, cur, hv, _, hh, hnc, _⟩
  · simp only [Value.slice.injEq] at hv; omega
  · simp only [Value.slice.injEq] at hv; omega

/-- The beginning of a row, as a row with room. -/
theorem imp_shrink {α : Type} {E sz m : Nat} {p : Option Addr × Nat} {f : α → List Value} {xs ys : List α} {q : Int} (hm : m = xs.length) (g : gCut xs 0 q = some ys) :
    Imp (rowV E sz (.slice p.1 m p.2) m (xs.map f)) (rowC E sz (.slice p.1 ys.length p.2) ys.length (ys.map f) xs.length) := by
  refine ⟨fun S w => ?_⟩
  obtain ⟨g0, g1, g2, rfl⟩ := gCut_some g
  subst hm
  rintro ⟨⟨ho, hlen, hlx⟩, hob⟩
  have hl : ((xs.drop (0 : Int).toNat).take (q.toNat - (0 : Int).toNat)).length = q.toNat := by rw [List.length_take, List.length_drop]; simp; omega
  rw [hl]
  have hoa := owns_take ho (a := q.toNat) (by omega)
  rw [flat_takeN q.toNat hlx, ← List.map_take] at hoa
  have e : (xs.drop (0 : Int).toNat).take (q.toNat - (0 : Int).toNat) = xs.take q.toNat := by simp
  rw [e]
  refine ⟨⟨⟨hoa, by rw [List.length_map, List.length_take]; omega, fun x hx => ?_⟩, fun b hb => hob b ((ownBlock_len _ _ _ _) ▸ hb)⟩, ?_⟩
  · obtain ⟨y, hy, rfl⟩ := List.mem_map.1 hx
    exact hlx _ (List.mem_map_of_mem (List.mem_of_mem_take hy))
  · rcases ho.2 with ⟨hv, h0⟩ | ⟨g, cap, cur, hv, _, hh, hnc, _⟩
    · simp only [Value.slice.injEq] at hv; simp only [sc]; omega
    · simp only [Value.slice.injEq] at hv; simp only [sc]; omega

/-- A turn, of a chunk that is told otherwise first. -/
theorem Turns.pre {σ : Type} {o : Oper} {i : Nat} {rds : List Nat} {G : σ → Value} {D : σ → Chunk} {C C' : Chunk} (hI : Imp C C') (hL : L[i]? = some C) (hr : i ∉ rds) (h : Turns P cx e o (L.set i C') i rds G D) : Turns P cx e o L i rds G D := by
  intro w L' hF hS hl hi
  have hLi := (hi i (.inr rfl)).trans hL
  have hS' : Sat cx w (L'.set i C') := hS.set hF hLi (Nat.le_refl _) fun S hp hb => ⟨S, hI.out S w hp, fun b hs => ⟨(hb b hs).1, .inl hs⟩, fun _ _ _ => rfl⟩
  have hil : i < L.length := by
    rcases Nat.lt_or_ge i L.length with h | h
    · exact h
    · rw [List.getElem?_eq_none h] at hL; cases hL
  have := h w (L'.set i C') hF hS' (by simp [hl]) fun j hj => by
    by_cases hji : j = i
    · subst hji; rw [List.getElem?_set_self (by omega), List.getElem?_set_self hil]
    · rw [List.getElem?_set_ne (fun e => hji e.symm), List.getElem?_set_ne (fun e => hji e.symm)]
      exact hi j (hj.imp_right fun h => h)
  simpa [List.set_set] using this

/-- append to the beginning of a row. -/
theorem turns_appP {α : Type} {f : α → List Value} {ys0 ys ls zs : List α} {i : Nat} {S X : Operand} {t E : TypeId} {I : TypeInfo} {z : Value} {sz by_ : Nat} {p : Option Addr × Nat} {rds : List Nat} {V : Value} {a : Option Addr} {c m q : Nat} {b : Int} (hn : m = ys0.length) (hb : gCut ys0 0 b = some ys) (hri : i ∉ rds)
    (ht : P.underlying t = some (.slice E)) (hi : P.info? E = some I) (hz : I.zero = some z) (hsize : I.size = sz) (hby : I.bytes = by_) (hzs : z.cells.size = sz) (hsz : Nat.blt 0 sz = true)
    (hL : L[i]? = some (rowV E sz (.slice p.1 m p.2) m (ys0.map f))) (hs : ev e S = .slice p.1 ys.length p.2) (hx : ev e X = V) (hV : V = .slice a q c) (hq : q = ls.length)
    (hnews : ∀ w L', Fr cx w → Sat cx w L' → (∀ j, j ∈ rds → L'[j]? = L[j]?) → Row w a sz (ls.map f)) (hf : ∀ x, (f x).length = sz) (h1 : ∀ x, (f x).all Value.oneCell' = true) (hg : gApp by_ ys ls = some zs) :
    Turns P cx e ⟨some d, .call ⟨.builtin .append, #[S, X], #[t, t]⟩, ty, pos, af, g⟩ L i rds (fun p' : Option Addr × Nat => .slice p'.1 zs.length p'.2) (fun p' => rowV E sz (.slice p'.1 zs.length p'.2) zs.length (zs.map f)) := by
  have hil : i < L.length := by
    rcases Nat.lt_or_ge i L.length with h | h
    · exact h
    · rw [List.getElem?_eq_none h] at hL; cases hL
  refine Turns.pre (C' := rowV E sz (.slice p.1 ys.length p.2) ys.length (ys.map f)) ⟨fun S w hp => ((imp_shrink hn hb).out S w hp).1⟩ hL hri ?_
  refine turns_appG (z := z) rfl ht hi hz hsize hby hzs hsz (List.getElem?_set_self hil) hs hx hV hq (fun w L' hF hS hj => hnews w L' hF hS fun j hjr => ?_) hf h1 hg
  rw [hj j hjr, List.getElem?_set_ne]
  intro e; subst e; exact hri hjr

/-- append of a part of a row to its beginning. -/
theorem turns_delG {α : Type} {f : α → List Value} {ys ys1 ls zs : List α} {i : Nat} {S X : Operand} {t E : TypeId} {I : TypeInfo} {sz : Nat} {p : Option Addr × Nat} {rds : List Nat} {m : Nat} {b j k : Int} (hn : m = ys.length)
    (ht : P.underlying t = some (.slice E)) (hi : P.info? E = some I) (hsize : I.size = sz) (hb : gCut ys 0 b = some ys1) (hc : gCut ys j k = some ls)
    (hL : L[i]? = some (rowV E sz (.slice p.1 m p.2) m (ys.map f))) (hs : ev e S = .slice p.1 ys1.length p.2) (hx : ev e X = .slice (cutA p.1 j.toNat p.2 sz) ls.length (p.2 - j.toNat))
    (hf : ∀ x, (f x).length = sz) (h1 : ∀ x, (f x).all Value.oneCell' = true) (hg : gApR ys ys1 ls = some zs) :
    Turns P cx e ⟨some d, .call ⟨.builtin .append, #[S, X], #[t, t]⟩, ty, pos, af, g⟩ L i rds (fun p' : Option Addr × Nat => .slice p'.1 zs.length p'.2) (fun p' => rowC E sz (.slice p'.1 zs.length p'.2) zs.length (zs.map f) ys.length) := by
  subst hn
  obtain ⟨rfl, hle⟩ := gApR_some hg
  have h0 := gCut_some hb
  have e1 : ys.take ys1.length = ys1 := by
    obtain ⟨_, g1, g2, e⟩ := h0
    have hl := gCut_len hb
    rw [hl, e]; simp
  have key := turns_del (P := P) (cx := cx) (e := e) (d := d) (ty := ty) (pos := pos) (af := af) (g := g) (rds := rds) (ls := ls) (a := ys1.length) rfl ht hi hsize hL (by omega) hs hx rfl rfl (fun w L' hF hS hj => Row.cutG (rowOf (i := i) hS (hj.trans hL)) rfl (capOf (i := i) hS (hj.trans hL)) hc) hf h1
  rw [e1] at key
  simp only [List.length_append]
  exact key

theorem flat_dropN {sz : Nat} : ∀ {xs : List (List Value)} (a : Nat), (∀ x ∈ xs, x.length = sz) → xs.flatten.drop (a * sz) = (xs.drop a).flatten
  | [], a, _ => by simp
  | x :: xs, 0, _ => by simp
  | x :: xs, a + 1, h => by
    have hx := h x (by simp)
    rw [List.drop_succ_cons, List.flatten_cons, Nat.succ_mul, List.drop_append, hx, List.drop_eq_nil_of_le (by omega), List.nil_append, show a * sz + sz - sz = a * sz from by omega, flat_dropN a fun y hy => h y (by simp [hy])]

theorem splice_take {β : Type} (cl Z : List β) (A N : Nat) (h1 : A + Z.length ≤ N) (h2 : N ≤ cl.length) : (cl.take A ++ Z ++ cl.drop (A + Z.length)).take N = (cl.take N).take A ++ (Z ++ (cl.take N).drop (A + Z.length)) := by
  have e1 : min A cl.length = A := by omega
  rw [List.append_assoc, List.take_append, List.length_take, e1, List.take_of_length_le (l := cl.take A) (by rw [List.length_take]; omega), List.take_append, List.take_of_length_le (l := Z) (by omega), List.take_take, Nat.min_eq_left (show A ≤ N by omega), List.drop_take, Nat.sub_sub]

theorem zeros_flat {z : Value} {cs : List Value} (hz : z.cells.toList = cs) (q : Nat) : (Builtin.zeroCells z.cells q).toList = (List.replicate q cs).flatten := by
  subst hz
  unfold Builtin.zeroCells
  simp only [Array.toList_map, Array.toList_range]
  have key : ∀ q, (List.range (q * z.cells.size)).map (fun j => z.cells[j % z.cells.size]!) = (List.replicate q z.cells.toList).flatten := by
    intro q
    induction q with
    | zero => simp
    | succ q ih =>
      rw [List.replicate_succ', List.flatten_concat, Nat.succ_mul, List.range_add, List.map_append, ih, List.map_map]
      congr 1
      apply List.ext_getElem
      · simp
      · intro j h1 h2
        simp only [List.length_map, List.length_range] at h1
        simp only [List.getElem_map, List.getElem_range, Function.comp, Nat.add_comm, Nat.add_mul_mod_self_right, Nat.mod_eq_of_lt h1, Array.getElem_toList]
        rw [getElem!_pos z.cells _ h1]
  exact key q

/-- clear of a part of a row. -/
theorem turns_clearV {α : Type} {f : α → List Value} {ys ts : List α} {z0 : α} {i : Nat} {X : Operand} {t E : TypeId} {z : Value} {sz : Nat} {p : Option Addr × Nat} {rds : List Nat} {c m : Nat} {a q : Int} (hm : m = ys.length)
    (ht : P.underlying t = some (.slice E)) (hz : ∀ w, (zeroValue E).run P w = .ok z w) (hzs : z.cells.toList = f z0) (hf : ∀ x, (f x).length = sz) (h1 : ∀ x, (f x).all Value.oneCell' = true)
    (hL : L[i]? = some (rowV E sz (.slice p.1 m p.2) m (ys.map f))) (hg : gCut ys a q = some ts) (hx : ev e X = .slice (cutA p.1 a.toNat p.2 sz) ts.length c) {dst : Option Nat} :
    Turns P cx e ⟨dst, .call ⟨.builtin .clear, #[X], #[t]⟩, ty, pos, af, g⟩ L i rds (fun _ : Unit => .tuple #[]) (fun _ => rowV E sz (.slice p.1 m p.2) m ((clrL ys a q z0).map f)) := by
  subst hm
  intro w L' hF hS hl hi'
  have hL' := (hi' i (.inr rfl)).trans hL
  obtain ⟨S0, ⟨⟨ho, hlen, hlx⟩, hob⟩, _⟩ := hS.at hL'
  have hn := gCut_len hg
  obtain ⟨g0, g1, g2, hts⟩ := gCut_some hg
  have hset : ∀ C, L'[i]? = some C → L'.set i C = L' := by
    intro C hC
    refine List.ext_getElem? fun j => ?_
    rw [List.getElem?_set]
    split
    · rename_i h; subst h
      split
      · exact hC.symm
      · rename_i h; rw [List.getElem?_eq_none (by omega)]
    · rfl
  rcases Nat.eq_zero_or_pos ts.length with hq0 | hq0
  · rw [hq0] at hx
    have he : (execOp (ev e) ⟨dst, .call ⟨.builtin .clear, #[X], #[t]⟩, ty, pos, af, g⟩).run P w = .ok (.value (.tuple #[])) w := by
      have hr : (Builtin.clear_ #[t] ty #[.slice (cutA p.1 a.toNat p.2 sz) 0 c]).run P w = .ok (.tuple #[]) w := by
        cases cutA p.1 a.toNat p.2 sz <;> simp [Builtin.clear_, run_underlying ht]
      simp only [execOp, resolve, invoke, builtin, Sem.run_bind, Sem.run_pure, Result.andThen_ok, List.map_toArray, List.map_cons, List.map_nil, hx, hr]
    have hc : clrL ys a q z0 = ys := by
      unfold clrL
      have : q.toNat = a.toNat := by omega
      rw [this, Nat.sub_self, List.replicate_zero, List.nil_append, List.take_append_drop]
    unfold RunsTo
    rw [he, hc]
    exact ⟨(), rfl, hF, by rw [hset _ hL']; exact hS⟩
  · rcases ho.2 with ⟨hv, hm⟩ | ⟨b0, cap, cur, hv, hbg, hg0, hnc, hcm, hcs, htake⟩
    · injection hv with e1 e2 e3
      omega
    · have hv' := hv
      injection hv with e1 e2 e3
      have hcut : cutA p.1 a.toNat p.2 sz = some ⟨b0, a.toNat * sz, none⟩ := by
        unfold cutA
        rw [if_neg (by omega), e1]; simp [Addr.add]; try omega
      rw [hcut] at hx
      have hzc := zeros_flat hzs ts.length
      have hzl : (Builtin.zeroCells z.cells ts.length).toList.length = ts.length * sz := by rw [hzc, flat_len (sz := sz) _ (fun x hx => by rw [(List.mem_replicate.1 hx).2]; exact hf z0), List.length_replicate]
      have hz1 : ∀ v ∈ (Builtin.zeroCells z.cells ts.length).toList, v.oneCell' = true := by
        intro v hv
        rw [hzc] at hv
        obtain ⟨l, hl, hvl⟩ := List.mem_flatten.1 hv
        rw [(List.mem_replicate.1 hl).2] at hvl
        exact List.all_eq_true.1 (h1 z0) v hvl
      have hle : a.toNat * sz + ts.length * sz ≤ ys.length * sz := by rw [← Nat.add_mul]; exact Nat.mul_le_mul_right _ (by omega)
      have hle2 : ys.length * sz ≤ cur.size := by rw [hcs]; exact Nat.mul_le_mul_right _ (by omega)
      have hfit : a.toNat * sz + 0 + (Builtin.zeroCells z.cells ts.length).toList.length ≤ cur.size := by rw [hzl]; omega
      have hst := run_storeCells_at (P := P) b0 (a.toNat * sz) E (Builtin.zeroCells z.cells ts.length).toList 0 cur w hg0 hfit hz1
      have hflat : (clrL ys a q z0).map f = (ys.map f).take a.toNat ++ (List.replicate ts.length (f z0) ++ (ys.map f).drop q.toNat) := by
        unfold clrL
        rw [hn]; simp [List.map_append, List.map_take, List.map_drop, List.map_replicate]
      have hnew : (cur.toList.take (a.toNat * sz + 0) ++ (Builtin.zeroCells z.cells ts.length).toList ++ cur.toList.drop (a.toNat * sz + 0 + (Builtin.zeroCells z.cells ts.length).toList.length)).take (ys.length * sz) = ((clrL ys a q z0).map f).flatten := by
        have e4 : q.toNat * sz = a.toNat * sz + ts.length * sz := by rw [← Nat.add_mul]; congr 1; omega
        rw [Nat.add_zero, splice_take _ _ _ _ (by rw [hzl]; omega) (by rw [Array.length_toList]; omega), htake, hflat, List.flatten_append, List.flatten_append, ← hzc, ← flat_takeN a.toNat hlx, ← flat_dropN q.toNat hlx, hzl, e4]
      have he : (execOp (ev e) ⟨dst, .call ⟨.builtin .clear, #[X], #[t]⟩, ty, pos, af, g⟩).run P w = .ok (.value (.tuple #[])) (w.setRow b0 (cur.toList.take (a.toNat * sz + 0) ++ (Builtin.zeroCells z.cells ts.length).toList ++ cur.toList.drop (a.toNat * sz + 0 + (Builtin.zeroCells z.cells ts.length).toList.length)).toArray) := by
        have hr : (Builtin.clear_ #[t] ty #[.slice (some ⟨b0, a.toNat * sz, none⟩) ts.length c]).run P w = .ok (.tuple #[]) (w.setRow b0 (cur.toList.take (a.toNat * sz + 0) ++ (Builtin.zeroCells z.cells ts.length).toList ++ cur.toList.drop (a.toNat * sz + 0 + (Builtin.zeroCells z.cells ts.length).toList.length)).toArray) := by
          obtain ⟨q', hq'⟩ : ∃ q', ts.length = q' + 1 := ⟨ts.length - 1, by omega⟩
          rw [hq'] at hst ⊢
          simp only [Builtin.clear_, Sem.run_bind, run_underlying ht, Result.andThen_ok, hz, hst, Sem.run_pure, List.getElem?_toArray, List.getElem?_cons_zero]
        simp only [execOp, resolve, invoke, builtin, Sem.run_bind, Sem.run_pure, Result.andThen_ok, List.map_toArray, List.map_cons, List.map_nil, hx, hr]
      have hlc : ∀ x ∈ (clrL ys a q z0).map f, x.length = sz := fun x hx => by obtain ⟨y, _, rfl⟩ := List.mem_map.1 hx; exact hf y
      have hown : (w.setRow b0 (cur.toList.take (a.toNat * sz + 0) ++ (Builtin.zeroCells z.cells ts.length).toList ++ cur.toList.drop (a.toNat * sz + 0 + (Builtin.zeroCells z.cells ts.length).toList.length)).toArray).ownsRow 0 E sz (.slice p.1 ys.length p.2) ys.length ((clrL ys a q z0).map f).flatten := by
        refine ⟨by rw [flat_len _ hlc, List.length_map, clrL_len hg], .inr ⟨b0, cap, _, hv', hbg, setRow_heap w b0 cur _ E _ hg0, hnc, hcm, ?_, ?_⟩⟩
        · have hf2 := hfit
          simp only [List.size_toArray, List.length_append, List.length_take, List.length_drop, Array.length_toList] at hf2 ⊢
          omega
        · exact hnew
      obtain ⟨hF', hS'⟩ := hS.turnOf hF hL' (C := rowV E sz (.slice p.1 ys.length p.2) ys.length ((clrL ys a q z0).map f)) fun S1 hp => by
        exact turn_append (w := w) (v := .slice p.1 ys.length p.2) (v' := .slice p.1 ys.length p.2) (fun b hb => hp.2 b hb) hown ⟨rfl, rfl, rfl, by simp, fun k _ hk => setRow_other w b0 k _ (fun e => hk (by rw [e1]; simp [Value.ownBlock, e]))⟩ (.inl rfl) (by rw [List.length_map, clrL_len hg]) hlc
      unfold RunsTo
      rw [he]
      exact ⟨(), rfl, hF', hS'⟩
end rules
end Go.Lx
