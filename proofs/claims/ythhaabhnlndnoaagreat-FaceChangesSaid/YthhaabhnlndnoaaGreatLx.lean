/- Walks that are led by a model: the rules for single operations, loops and joins, each with the guard that the model names. Conditions: none. -/
import Derived.Test.YthhaabhnlndnoaaGreatVc1
import Derived.Test.YthhaabhnlndnoaaGreatMd
import Derived.Lib.AppendStr
import Derived.Laws.BytesString
import Derived.Laws.RangeString
import Derived.Laws.CopyRow
import Derived.Laws.IdiomCopy
import Derived.Lib.UnsafeStr
import Derived.Lib.Builder
import Derived.Laws.Pointers
import Derived.Lib.AppendZeros
namespace Go.Lx
open Go Go.Vc Go.Md
abbrev Qg := Nat → Option Obj
def Know (h : Qg) (w : World) (S : Nat → Prop) : Prop := ∀ b o, h b = some o → w.heap[b]? = some o ∧ ¬ S b
theorem Know.now {h : Qg} {w0 w : World} {S : Nat → Prop} (k : Know h w0 S) (hF : Fr ⟨w0, S⟩ w) (b : Nat) (o : Obj) (hb : h b = some o) : w.heap[b]? = some o := by
 obtain ⟨h1, h2⟩ := k b o hb
 have hlt : b < w0.heap.size := by
  rcases Nat.lt_or_ge b w0.heap.size with h | h
  ·exact h
  ·rw [Array.getElem?_eq_none h] at h1; cases h1
 have hn : ¬ (Cx.own ⟨w0, S⟩ b) := by
  rintro (h | h)
  ·exact absurd h (by show ¬ w0.heap.size ≤ b; omega)
  ·exact h2 h
 rw [hF.block b hn]
 exact h1
def RowH (h : Qg) (a : Option Addr) (sz : Nat) (xs : List (List Value)) : Prop :=
 xs = [] ∨ ∃ b off cs T m, a = some ⟨b, off, none⟩ ∧ h b = some (.cells cs T m) ∧ ∀ (i : Nat) (x : List Value), xs[i]? = some x → x.length = sz ∧ ∀ (j : Nat) (v : Value), x[j]? = some v → cs[off + i * sz + j]? = some v
theorem RowH.row {h : Qg} {w : World} {a : Option Addr} {sz : Nat} {xs : List (List Value)} (r : RowH h a sz xs) (k : ∀ b o, h b = some o → w.heap[b]? = some o) : Row w a sz xs := by
 rcases r with r | ⟨b, off, cs, T, m, ha, hb, r⟩
 ·exact .inl r
 ·refine .inr ⟨b, off, ha, fun i x hx => ⟨(r i x hx).1, fun j v hv => ?_⟩⟩
  have := (r i x hx).2 j v hv
  simp [World.cell?, k b _ hb, this]
structure FrS (h : Qg) (sz : Nat) (v : Value) (xs : List (List Value)) : Prop where
 out : ∃ a c, v = .slice a xs.length c ∧ xs.length ≤ c ∧ c ≤ 9223372036854775807 ∧ RowH h a sz xs
def sa : Value → Option Addr | .slice a _ _ => a | _ => none
def sc : Value → Nat | .slice _ _ c => c | _ => 0
theorem FrS.eq {h : Qg} {sz : Nat} {v : Value} {xs : List (List Value)} (f : FrS h sz v xs) : v = .slice (sa v) xs.length (sc v) := by
 obtain ⟨a, c, rfl, _⟩ := f.out; rfl
theorem FrS.len {h : Qg} {sz : Nat} {v : Value} {xs : List (List Value)} (f : FrS h sz v xs) : xs.length ≤ sc v ∧ sc v ≤ 9223372036854775807 := by
 obtain ⟨a, c, rfl, h1, h2, _⟩ := f.out; exact ⟨h1, h2⟩
theorem FrS.row {h : Qg} {sz : Nat} {v : Value} {xs : List (List Value)} (f : FrS h sz v xs) {w : World} (k : ∀ b o, h b = some o → w.heap[b]? = some o) : Row w (sa v) sz xs := by
 obtain ⟨a, c, rfl, _, _, r⟩ := f.out; exact r.row k
theorem FrS.nil (h : Qg) (sz : Nat) : FrS h sz (.slice none 0 0) [] := ⟨none, 0, rfl, by simp, by simp, .inl rfl⟩
theorem RowH.cut {h : Qg} {a : Option Addr} {sz : Nat} {xs : List (List Value)} (r : RowH h a sz xs) (l q m : Nat) (hq : l + q ≤ m) : RowH h (Za a l m sz) sz ((xs.drop l).take q) := by
 rcases r with r | ⟨b, off, cs, T, m', rfl, hb, r⟩
 ·subst r; exact .inl (by simp)
 ·unfold Za
  by_cases hm : m = l
  ·have hq0 : q = 0 := by omega
   subst hq0
   exact .inl (by simp)
  ·rw [if_neg hm]
   refine .inr ⟨b, off + l * sz, cs, T, m', by simp [Addr.add_lit], hb, fun i x hx => ?_⟩
   rw [List.getElem?_take] at hx
   split at hx
   ·rw [List.getElem?_drop] at hx
    obtain ⟨h1, h2⟩ := r (l + i) x hx
    refine ⟨h1, fun j v hv => ?_⟩
    have := h2 j v hv
    rw [show off + l * sz + i * sz + j = off + (l + i) * sz + j from by rw [Nat.add_mul]; omega]
    exact this
   ·cases hx
def cutV (sz : Nat) (v : Value) (l h : Int) : Value := .slice (Za (sa v) l.toNat (sc v) sz) (h.toNat - l.toNat) (sc v - l.toNat)
theorem FrS.cut {α : Type} {h : Qg} {sz : Nat} {v : Value} {f : α → List Value} {xs ys : List α} {l q : Int} (s : FrS h sz v (xs.map f)) (e : Ux xs l q = some ys) : FrS h sz (cutV sz v l q) (ys.map f) := by
 obtain ⟨a, c, rfl, h1, h2, r⟩ := s.out
 obtain ⟨g0, g1, g2, rfl⟩ := Wz e
 have hl : ((xs.drop l.toNat).take (q.toNat - l.toNat)).length = q.toNat - l.toNat := by
  rw [List.length_take, List.length_drop]; omega
 simp only [List.length_map] at h1
 refine ⟨⟨Za a l.toNat c sz, c - l.toNat, ?_, ?_, by omega, ?_⟩⟩
 ·simp only [cutV, sa, sc, List.length_map, hl]
 ·rw [List.length_map, hl]; omega
 ·rw [List.map_take, List.map_drop]
  exact r.cut _ _ _ (by omega)
theorem FrS.mono {h h' : Qg} {sz : Nat} {v : Value} {xs : List (List Value)} (s : FrS h sz v xs) (le : ∀ b o, h b = some o → h' b = some o) : FrS h' sz v xs := by
 obtain ⟨a, c, rfl, h1, h2, r⟩ := s.out
 refine ⟨a, c, rfl, h1, h2, ?_⟩
 rcases r with r | ⟨b, off, cs, T, m, ha, hb, r⟩
 ·exact .inl r
 ·exact .inr ⟨b, off, cs, T, m, ha, le b _ hb, r⟩
section ops
variable {P : Program} {e : Zk} {d : Option Nat} {ty : TypeId} {pos : String} {af : Array Edge} {g : Option (Nat × Bool)}
section bin
variable {X Y : Operand} {x y z : Int} {t t' : TypeId} {kd k2 : IntKind}
theorem Qp (hx : ev e X = .int .i64 x) (hy : ev e Y = .int .i64 y) (h : gI (x + y) = some z) (w : World) :
  (execOp (ev e) ⟨d, .binOp .add t X Y t', ty, pos, af, g⟩).run P w = .ok (.value (.int .i64 z)) w := by
 obtain ⟨rfl, hb⟩ := gI_some h; exact r_add hx hy hb w
theorem Zl (hx : ev e X = .int .i64 x) (hy : ev e Y = .int .i64 y) (h : gI (x - y) = some z) (w : World) :
  (execOp (ev e) ⟨d, .binOp .sub t X Y t', ty, pos, af, g⟩).run P w = .ok (.value (.int .i64 z)) w := by
 obtain ⟨rfl, hb⟩ := gI_some h; exact r_sub hx hy hb w
theorem r_mulG (hx : ev e X = .int .i64 x) (hy : ev e Y = .int .i64 y) (h : gI (x * y) = some z) (w : World) :
  (execOp (ev e) ⟨d, .binOp .mul t X Y t', ty, pos, af, g⟩).run P w = .ok (.value (.int .i64 z)) w := by
 obtain ⟨rfl, hb⟩ := gI_some h; exact r_mul hx hy hb w
theorem r_quoG (hx : ev e X = .int .i64 x) (hy : ev e Y = .int .i64 y) (h : gQuo x y = some z) (w : World) :
  (execOp (ev e) ⟨d, .binOp .quo t X Y t', ty, pos, af, g⟩).run P w = .ok (.value (.int .i64 z)) w := by
 obtain ⟨h0, rfl, hb⟩ := gQuo_some h
 exact r_bin hx hy (fun w => by simp [binOp, Op.intDiv, h0, IntWalk.i64_in _ hb]) w
end bin
theorem Y0 {X : Operand} {t u sz : TypeId} {h : Qg} {v : Value} {xs : List (List Value)} {α : Type} {ys : List α} {f : α → List Value} (hu : P.underlying t = some (.slice u)) (hx : ev e X = v) (hs : FrS h sz v xs) (hxs : xs = ys.map f) (w : World) :
  (execOp (ev e) ⟨d, .call ⟨.builtin .len, #[X], #[t]⟩, ty, pos, af, g⟩).run P w = .ok (.value (.int .i64 ys.length)) w := by
 have := Jaw (P := P) (d := d) (ty := ty) (pos := pos) (af := af) (g := g) hu (hx.trans hs.eq) w
 rw [this, hxs, List.length_map]
theorem Qe {X I : Operand} {t u sz : Nat} {h : Qg} {v : Value} {α : Type} {f : α → List Value} {xs : List α} {x : α} {k : IntKind} {i : Int} (hu : P.underlying t = some (.slice u)) (hs : ∀ w, (sizeOf u).run P w = .ok sz w)
  (hx : ev e X = v) (hi : ev e I = .int k i) (hf : FrS h sz v (xs.map f)) (hg : Jk xs i = some x) (w : World) :
  (execOp (ev e) ⟨d, .indexAddr t X I, ty, pos, af, g⟩).run P w = .ok (.value (Zn (sa v) (i.toNat * sz))) w := by
 obtain ⟨h0, h1, h2⟩ := Ye hg
 obtain ⟨a, c, rfl, _, _, r⟩ := hf.out
 have ha : ∃ b off, a = some ⟨b, off, none⟩ := by
  rcases r with r | ⟨b, off, cs, T, m, ha, _⟩
  ·simp at r; subst r; simp at h1
  ·exact ⟨b, off, ha⟩
 exact r_index hu hs hx hi ha h0 (by rw [List.length_map]; omega) w
theorem Ym {h : Qg} {sz : Nat} {v : Value} {α : Type} {f : α → List Value} {xs : List α} {x : α} {i : Int} (hf : FrS h sz v (xs.map f)) (hg : Jk xs i = some x) : ∃ b off, sa v = some ⟨b, off, none⟩ := by
 obtain ⟨h0, h1, h2⟩ := Ye hg
 obtain ⟨a, c, rfl, _, _, r⟩ := hf.out
 rcases r with r | ⟨b, off, cs, T, m, ha, _⟩
 ·simp at r; subst r; simp at h1
 ·exact ⟨b, off, ha⟩
theorem map_at {α : Type} {f : α → List Value} {xs : List α} {x : α} {i : Int} (hg : Jk xs i = some x) : (xs.map f)[i.toNat]? = some (f x) := by
 obtain ⟨h0, h1, h2⟩ := Ye hg
 rw [List.getElem?_map, h2]; rfl
theorem J3 {X I : Operand} {a : Option Addr} {m c : Nat} {t u sz sz' : Nat} {k : IntKind} {i : Int} {α : Type} {f : α → List Value} {xs : List α} {x : α} {w : World} (hu : P.underlying t = some (.slice u)) (hs : ∀ w, (sizeOf u).run P w = .ok sz w)
  (hx : ev e X = .slice a m c) (hi : ev e I = .int k i) (hR : Row w a sz' (xs.map f)) (hm : m = xs.length) (hg : Jk xs i = some x) :
  (execOp (ev e) ⟨d, .indexAddr t X I, ty, pos, af, g⟩).run P w = .ok (.value (Zn a (i.toNat * sz))) w := by
 obtain ⟨h0, h1, h2⟩ := Ye hg
 exact r_index hu hs hx hi (hR.some (i := i.toNat) (by simpa using h1)) h0 (by omega) w
theorem J2 {T k : Nat} {a : Option Addr} {A : Operand} {sz j : Nat} {α : Type} {f : α → List Value} {xs : List α} {x : α} {i : Int} {v : Value} {w : World} (hA : ∀ w, (isAgg T).run P w = .ok false w)
  (hp : ev e A = Zn a k) (hk : k = i.toNat * sz + j) (hr : Row w a sz (xs.map f)) (hg : Jk xs i = some x) (hv : rg (f x) j = some v) :
  (execOp (ev e) ⟨d, .load T A, ty, pos, af, g⟩).run P w = .ok (.value v) w :=
 run_loadP1 (i := i.toNat) (j := j) hA hp hk hr (map_at hg) hv
theorem Qj {T k m : Nat} {a : Option Addr} {A : Operand} {sz j : Nat} {α : Type} {f : α → List Value} {xs : List α} {x : α} {i : Int} {vs : List Value} {w : World} (hA : ∀ w, (isAgg T).run P w = .ok true w) (hs : ∀ w, (sizeOf T).run P w = .ok m w)
  (hp : ev e A = Zn a k) (hk : k = i.toNat * sz + j) (hr : Row w a sz (xs.map f)) (hg : Jk xs i = some x) (hv : rd (f x) j m = some vs) :
  (execOp (ev e) ⟨d, .load T A, ty, pos, af, g⟩).run P w = .ok (.value (.agg vs.toArray)) w :=
 run_loadPN (i := i.toNat) (j := j) hA hs hp hk hr (map_at hg) hv
theorem r_octG {t : TypeId} {X I : Operand} {s : List UInt8} {k : IntKind} {i c : Int} (hu : P.underlying t = some .string) (hx : ev e X = Xt s) (hi : ev e I = .int k i) (h : gOct s i = some c) (w : World) :
  (execOp (ev e) ⟨d, .index t X I, ty, pos, af, g⟩).run P w = .ok (.value (.int .u8 c)) w := by
 obtain ⟨h0, h1, rfl⟩ := gOct_some h; exact r_indexT hu hx hi h0 h1 w
end ops
section rules
variable {P : Program} {n : Nat} {cx : Cx} {Q : Post} {e : Zk} {L : List Chunk} {ops : Array Oper} {F : Zk → List Chunk → Prop} {rest : List Oper} {ss : List Kd}
structure RoundA {σ τ : Type} (cx : Cx) (st : σ → τ → List (Nat × Value)) (hp : σ → τ → List Chunk) (I : σ → τ → Nat → Prop) (m : Nat) (e : Zk) (w : World) : Prop where
 out : ∃ s t k, Agree e (st s t) ∧ Fr cx w ∧ Sat cx w (hp s t) ∧ I s t k ∧ k < m
theorem X6 {σ τ ρ : Type} {c : Code} {r : ρ} (B : (σ → Option ρ) → σ → Option ρ) (st : σ → τ → List (Nat × Value)) (hp : σ → τ → List Chunk) (G : σ → τ → Prop) (s0 : σ) (t0 : τ) (sel : List Nat)
  (H : Zx B s0 = some r) (hG : G s0 t0) (hst : Agree e (st s0 t0)) (hnd : sel.Nodup) (hL : sel.map (fun i => L[i]?) = (hp s0 t0).map some)
  (round : ∀ (s : σ) (t : τ) (m : Nat) (g : Zk), B (it B m) s = some r → G s t →
   At cx (WC P n c (ThenQ (RoundA cx st hp (fun s t k => it B k s = some r ∧ G s t) (m + 1)) Q)) (mkE (st s t) g) (hp s t)) :
  At cx (WC P n (.loop c) Q) e L :=
 ⟨fun w hF hS => ⟨fun a ha => by
  obtain ⟨m0, hm0⟩ := fix_it H
  refine wp_loop_ghost (fun m a' w' => ∃ e' s t, Sim n a' e' ∧ Agree e' (st s t) ∧ Fr cx w' ∧ Sat cx w' (hp s t) ∧ it B m s = some r ∧ G s t) m0 ⟨e, s0, t0, ha, hst, hF, hS.select sel hnd hL, hm0, hG⟩ ?_
  rintro m a w ⟨e', s, t, ha, hst, hF, hS, hI, hg⟩
  cases m with
  | zero => cases hI
  | succ m =>
   have hr := ((round s t m e' hI hg).out w hF hS).out a (by rw [mkE_self e' _ hst]; exact ha)
   refine wp_mono hr ?_
   rintro x a' w' ⟨e'', hs', hq⟩
   cases x with
   | normal =>
    obtain ⟨s', t', m', h1, h3, h4, ⟨h5, h7⟩, h6⟩ := hq.out
    exact ⟨m', h6, e'', s', t', hs', h1, h3, h4, h5, h7⟩
   | exit i => exact ⟨e'', hs', hq⟩
   | goto i => exact ⟨e'', hs', hq⟩
   | ret => exact ⟨e'', hs', hq⟩
   | panic i => exact ⟨e'', hs', hq⟩
   | outgrown => exact ⟨e'', hs', hq⟩⟩⟩
theorem Js {σ τ : Type} {st : σ → τ → List (Nat × Value)} {hp : σ → τ → List Chunk} {I : σ → τ → Nat → Prop} {m : Nat} (s : σ) (t : τ) (k : Nat) (sel : List Nat) (hst : Agree e (st s t)) (hnd : sel.Nodup) (hL : sel.map (fun i => L[i]?) = (hp s t).map some) (hI : I s t k) (hm : k < m) :
  At cx (RoundA cx st hp I m) e L :=
 ⟨fun _ hF hS => ⟨s, t, k, hst, hF, hS.select sel hnd hL, hI, hm⟩⟩
theorem Xf {σ τ ρ : Type} {x y : Code} {r : ρ} (J : σ → Option ρ) (st : σ → τ → List (Nat × Value)) (hp : σ → τ → List Chunk) (G : σ → τ → Prop)
  (h1 : At cx (WC P n x (ThenQ (RoundA cx st hp (fun s t _ => J s = some r ∧ G s t) 1) Q)) e L)
  (h2 : ∀ (s : σ) (t : τ) (g : Zk), J s = some r → G s t → At cx (WC P n y Q) (mkE (st s t) g) (hp s t)) : At cx (WC P n (.seq x y) Q) e L :=
 Jc ⟨fun w hF hS => ⟨fun a ha => Code.wp_mono (fun x' a' w' hq => by
  obtain ⟨e', hs, hq⟩ := hq
  cases x' with
  | normal =>
   obtain ⟨s, t, m, g1, g3, g4, ⟨g5, g7⟩, _⟩ := hq.out
   exact ⟨e', hs, by
    have := (h2 s t e' g5 g7).out w' g3 g4
    rwa [mkE_self e' _ g1] at this⟩
  | exit i => exact ⟨e', hs, hq⟩
  | goto i => exact ⟨e', hs, hq⟩
  | ret => exact ⟨e', hs, hq⟩
  | panic i => exact ⟨e', hs, hq⟩
  | outgrown => exact ⟨e', hs, hq⟩) ((h1.out w hF hS).out a ha)⟩⟩
theorem Jp (w : World) : Know (fun b => w.heap[b]?) w Yl := fun b o h => ⟨h, fun x => x⟩
theorem frs_own {α : Type} {w : World} {i E sz n : Nat} {p : Option Addr × Nat} {xs : List α} {f : α → List Value} (hn : n = xs.length) (hS : Sat cx w L) (hL : L[i]? = some (J5 E sz (.slice p.1 n p.2) n (xs.map f))) : FrS (fun b => w.heap[b]?) sz (.slice p.1 n p.2) (xs.map f) := by
 subst hn
 obtain ⟨S, ⟨⟨h1, h2, h3⟩, _⟩, _⟩ := hS.at hL
 have hr := ownsRow_Row h1 h2 h3
 rcases h1.2 with ⟨hv, h0⟩ | ⟨g, cap, cur, hv, _, hh, hnc, hm, hcs, ht⟩
 ·simp only [Value.slice.injEq] at hv
  have hxs : xs = [] := List.eq_nil_of_length_eq_zero h0
  subst hxs
  refine ⟨⟨p.1, p.2, by simp, by simp, by omega, .inl (by simp)⟩⟩
 ·simp only [Value.slice.injEq] at hv
  obtain ⟨hp, _, hc⟩ := hv
  refine ⟨⟨p.1, p.2, by simp, by rw [List.length_map, hc]; exact hnc, by rw [hc]; simpa [maxLen] using hm, ?_⟩⟩
  rcases hr with hr | ⟨b, off, ha, hr⟩
  ·exact .inl hr
  ·rw [hp] at ha
   simp only [Option.some.injEq, Addr.mk.injEq] at ha
   obtain ⟨rfl, rfl, _⟩ := ha
   refine .inr ⟨g, 0, cur, E, _, hp, hh, fun i x hx => ⟨(hr i x hx).1, fun j v hv => ?_⟩⟩
   have := (hr i x hx).2 j v hv
   simpa [World.cell?, hh] using this
theorem frs_box {α : Type} {w : World} {i b m T sz : Nat} {cs : List Value} {xs : List α} {f : α → List Value} (hS : Sat cx w L) (hL : L[i]? = some (Q1 b cs T)) (hcs : (xs.map f).flatten = cs) (hl : ((xs.map f).all fun x => Nat.beq x.length sz) = true) (hm : xs.length = m) (hm' : Nat.ble m 9223372036854775807 = true) :
  FrS (fun b => w.heap[b]?) sz (.slice (some ⟨b, 0, none⟩) m m) (xs.map f) := by
 subst hm
 refine ⟨⟨some ⟨b, 0, none⟩, xs.length, by simp, by simp, by simpa using hm', .inr ⟨b, 0, cs.toArray, T, (0, 0), rfl, Zr hS hL, fun i x hx => ⟨?_, fun j v hv => ?_⟩⟩⟩⟩
 ·have := List.all_eq_true.1 hl x (List.mem_of_getElem? hx)
  simpa using this
 ·have := row_get _ i x hl hx j v hv
  rw [hcs] at this
  simpa using this
end rules
end Go.Lx

/- More rules for walks that are led by a model: kinds of numbers, shifts, arrays, stores, appends, several results. Conditions: none. -/
namespace Go.Lx
open Go Go.Vc Go.Md
theorem wr_u64 (x : Int) : IntKind.u64.wrap x = wU64 x := by simp [IntKind.wrap, IntKind.bits, IntKind.signed, wU64]
theorem wr_i64 (x : Int) : IntKind.i64.wrap x = Xm x := by simp [IntKind.wrap, IntKind.bits, IntKind.signed, Xm]
section ops
variable {P : Program} {e : Zk} {d : Option Nat} {ty : TypeId} {pos : String} {af : Array Edge} {g : Option (Nat × Bool)}
section bin
variable {X Y : Operand} {x y z u : Int} {t t' : TypeId} {kd k2 : IntKind} {bits : Nat}
theorem r_bin2 {op : BinOp} {v : Value} (hx : ev e X = .int kd x) (hy : ev e Y = .int k2 y) (hg : ∀ w, (eqGuard op t X Y (.int kd x) (.int k2 y)).run P w = .ok () w)
  (hr : ∀ w, (binOp op t (.int kd x) (.int k2 y)).run P w = .ok v w) (w : World) :
  (execOp (ev e) ⟨d, .binOp op t X Y t', ty, pos, af, g⟩).run P w = .ok (.value v) w := by
 simp [execOp, hx, hy, hg, hr]
theorem r_shrG (hx : ev e X = .int kd x) (hy : ev e Y = .int k2 y) (hbits : kd.bits = bits) (h : gShr bits x y = some z) (w : World) :
  (execOp (ev e) ⟨d, .binOp .shr t X Y t', ty, pos, af, g⟩).run P w = .ok (.value (.int kd z)) w := by
 subst hbits
 unfold gShr at h; split at h
 ·cases h
  refine r_bin2 hx hy (fun w => rfl) (fun w => ?_) w
  have hf : x.fdiv (2 ^ min y.toNat kd.bits) = x / 2 ^ min y.toNat kd.bits := Int.fdiv_eq_ediv_of_nonneg _ (Int.pow_nonneg (by omega))
  have hn : ¬ y < 0 := by omega
  rw [show binOp .shr t (.int kd x) (.int k2 y) = Op.shift .shr kd x k2 y from rfl]
  unfold Op.shift
  rw [if_neg hn]
  simp only [hf, Sem.run_pure]
 ·cases h
end bin
theorem Ja0 {X : Operand} {s t : TypeId} {k0 k1 : IntKind} {x y : Int} {su : TypeDesc} (hs : ∀ w, (underlying s).run P w = .ok su w) (ht : ∀ w, (underlying t).run P w = .ok (.int k1) w)
  (hx : ev e X = .int k0 x) (hr : k1.wrap x = y) (w : World) :
  (execOp (ev e) ⟨d, .convert s t X, ty, pos, af, g⟩).run P w = .ok (.value (.int k1 y)) w := by
 subst hr
 simp [execOp, hx, convert, hs, ht, Conv.intToInt]
theorem r_indexS {X I : Operand} {b m c : Nat} {t u sz : Nat} {k : IntKind} {i : Int} {α : Type} {xs : List α} {x : α} (hu : P.underlying t = some (.slice u)) (hs : ∀ w, (sizeOf u).run P w = .ok sz w)
  (hx : ev e X = .slice (some ⟨b, 0, none⟩) m c) (hi : ev e I = .int k i) (hg : Jk xs i = some x) (hm : xs.length = m) (w : World) :
  (execOp (ev e) ⟨d, .indexAddr t X I, ty, pos, af, g⟩).run P w = .ok (.value (Zn (some ⟨b, 0, none⟩) (i.toNat * sz))) w := by
 obtain ⟨h0, h1, _⟩ := Ye hg
 exact r_index hu hs hx hi ⟨_, _, rfl⟩ h0 (by omega) w
theorem r_indexAG {t u len : Nat} {X I : Operand} {cs : List Value} {k : IntKind} {i : Int} {q : Nat} {f : Nat → Value} (hu : ∀ w, (underlying t).run P w = .ok (.array len u) w) (hA : ∀ w, (isAgg u).run P w = .ok false w) (hs : ∀ w, (sizeOf u).run P w = .ok 1 w)
  (hx : ev e X = .agg cs.toArray) (hi : ev e I = .int k i) (hcs : (List.range len).map f = cs) (h : gIx len i = some q) (w : World) :
  (execOp (ev e) ⟨d, .index t X I, ty, pos, af, g⟩).run P w = .ok (.value (f q)) w := by
 obtain ⟨h0, h1, rfl⟩ := gIx_some h
 subst hcs
 refine r_indexA hu hA hs hx hi h0 h1 ?_ w
 simp [show i.toNat < len by omega]
theorem flat_range {f : Nat → List Value} {sz : Nat} (hf : ∀ j, (f j).length = sz) : ∀ (n i : Nat), i < n → ((List.range n).flatMap f).length = n * sz ∧ (((List.range n).flatMap f).drop (i * sz)).take sz = f i := by
 intro n
 induction n with
 | zero => intro i h; omega
 | succ n ih =>
  intro i hi
  rw [List.range_succ, List.flatMap_append, List.flatMap_singleton]
  have hl : ((List.range n).flatMap f).length = n * sz := by
   cases n with
   | zero => simp
   | succ n => exact (ih 0 (by omega)).1
  refine ⟨by rw [List.length_append, hl, hf, Nat.succ_mul], ?_⟩
  rcases Nat.lt_or_ge i n with h | h
  ·have hle : (i + 1) * sz ≤ n * sz := Nat.mul_le_mul_right _ h
   rw [Nat.succ_mul] at hle
   rw [List.drop_append_of_le_length (by omega), List.take_append_of_le_length (by rw [List.length_drop]; omega)]
   exact (ih i h).2
  ·have : i = n := by omega
   subst this
   rw [← hl, List.drop_left, List.take_of_length_le (by rw [hf]; omega)]
theorem r_indexPG {t u len sz b o : Nat} {X I : Operand} {k : IntKind} {i : Int} {q : Nat} (hu : ∀ w, (underlying t).run P w = .ok (.array len u) w) (hs : ∀ w, (sizeOf u).run P w = .ok sz w)
  (hx : ev e X = .pointer (some ⟨b, o, none⟩)) (hi : ev e I = .int k i) (h : gIx len i = some q) (w : World) :
  (execOp (ev e) ⟨d, .indexAddr t X I, ty, pos, af, g⟩).run P w = .ok (.value (.pointer (some ⟨b, o + q * sz, none⟩))) w := by
 obtain ⟨h0, h1, rfl⟩ := gIx_some h
 exact r_indexPA hu hs hx hi h0 h1 w
theorem rg_arr {pre post cs : List Value} {f : Nat → List Value} {n sz q o k : Nat} {v : Value} (hcs : cs = pre ++ ((List.range n).flatMap f ++ post)) (ho : pre.length = o) (hf : ∀ j, (f j).length = sz) (hk : k < n) (hv : rg (f k) q = some v) : rg cs (o + k * sz + q) = some v := by
 subst hcs ho
 obtain ⟨hl, ht⟩ := flat_range hf n k hk
 rw [rg_eq] at hv ⊢
 have hq : q < sz := by
  rcases Nat.lt_or_ge q sz with h | h
  ·exact h
  ·rw [List.getElem?_eq_none (by rw [hf]; exact h)] at hv; cases hv
 have hle : k * sz + sz ≤ n * sz := by rw [← Nat.succ_mul]; exact Nat.mul_le_mul_right _ (by omega)
 rw [Nat.add_assoc, List.getElem?_append_right (by omega), Nat.add_sub_cancel_left, List.getElem?_append_left (by omega), ← hv, ← ht, List.getElem?_take, if_pos hq, List.getElem?_drop]
end ops
section rules
variable {P : Program} {n : Nat} {cx : Cx} {Q : Post} {e : Zk} {L : List Chunk} {ops : Array Oper} {F : Zk → List Chunk → Prop} {rest : List Oper} {ss : List Kd}
variable {d : Nat} {ty : TypeId} {pos : String} {af : Array Edge} {g : Option (Nat × Bool)}
def bothC (C D : Chunk) : Chunk where
 P S w := ∃ S1 S2 : Nat → Prop, C.P S1 w ∧ D.P S2 w ∧ (∀ b, S1 b → S b) ∧ (∀ b, S2 b → S b) ∧ ∀ b, S1 b → ¬ S2 b
 loc S w w' h := by
  rintro ⟨S1, S2, h1, h2, h3, h4, h5⟩
  exact ⟨S1, S2, C.loc _ _ _ (fun b hb => h b (h3 b hb)) h1, D.loc _ _ _ (fun b hb => h b (h4 b hb)) h2, h3, h4, h5⟩
theorem V7 {K : Zk → World → Prop} (i : Nat) {C D : Chunk} (hL : L[i]? = some (bothC C D)) (k : At cx K e (L.set i C ++ [D])) : At cx K e L :=
 ⟨fun w hF hS => k.out w hF (by
  obtain ⟨fp, h1, h2, h3⟩ := hS.out
  obtain ⟨S1, S2, k1, k2, k3, k4, k5⟩ := h1 i _ hL
  have hil : i < L.length := by
   rcases Nat.lt_or_ge i L.length with h | h
   ·exact h
   ·simp [List.getElem?_eq_none h] at hL
  refine ⟨fun j b => if j = i then S1 b else if j = L.length then S2 b else fp j b, ?_, ?_, ?_⟩
  ·intro j c hc
   by_cases hj : j = L.length
   ·subst hj
    rw [List.getElem?_append_right (by simp)] at hc
    simp at hc
    subst hc
    have : ¬ L.length = i := by omega
    simpa [this] using k2
   ·have hjl : j < L.length := by
     rcases Nat.lt_or_ge j L.length with h | h
     ·exact h
     ·rw [List.getElem?_append_right (by simpa using h)] at hc
      rw [List.getElem?_eq_none (by simp; omega)] at hc
      cases hc
    rw [List.getElem?_append_left (by simpa using hjl)] at hc
    by_cases hji : j = i
    ·subst hji
     rw [List.getElem?_set_self hil] at hc
     cases hc
     simpa using k1
    ·rw [List.getElem?_set_ne (fun h => hji h.symm)] at hc
     simpa [hji, hj] using h1 j c hc
  ·intro j b hb
   by_cases hji : j = i
   ·simp only [hji, if_true] at hb
    have := h2 i b (k3 b hb)
    exact ⟨by simp; omega, this.2⟩
   ·by_cases hj : j = L.length
    ·subst hj
     have hne : ¬ L.length = i := by omega
     simp only [hne, if_true, if_false] at hb
     exact ⟨by simp, (h2 i b (k4 b hb)).2⟩
    ·simp only [hji, hj, if_false] at hb
     obtain ⟨a1, a2⟩ := h2 j b hb
     exact ⟨by simp; omega, a2⟩
  ·intro j q b hj hq
   have key : ∀ j, (if j = i then S1 b else if j = L.length then S2 b else fp j b) → (j = i ∧ S1 b) ∨ (j = L.length ∧ j ≠ i ∧ S2 b) ∨ (j ≠ i ∧ j ≠ L.length ∧ fp j b) := by
    intro j h
    by_cases hji : j = i
    ·simp only [hji, if_true] at h; exact .inl ⟨hji, h⟩
    ·by_cases hjl : j = L.length
     ·simp only [hji, hjl, if_true, if_false] at h
      have hne : ¬ L.length = i := by omega
      simp only [hne, if_false] at h
      exact .inr (.inl ⟨hjl, hji, h⟩)
     ·simp only [hji, hjl, if_false] at h; exact .inr (.inr ⟨hji, hjl, h⟩)
   rcases key j hj with ⟨a1, a2⟩ | ⟨a1, a0, a2⟩ | ⟨a1, a3, a2⟩ <;> rcases key q hq with ⟨c1, c2⟩ | ⟨c1, c0, c2⟩ | ⟨c1, c3, c2⟩
   ·omega
   ·exact absurd c2 (k5 b a2)
   ·exact absurd (h3 i q b (k3 b a2) c2) (fun h => c1 h.symm)
   ·exact absurd a2 (k5 b c2)
   ·omega
   ·exact absurd (h3 i q b (k4 b a2) c2) (fun h => c1 h.symm)
   ·exact absurd (h3 i j b (k3 b c2) a2) (fun h => a1 h.symm)
   ·exact absurd (h3 i j b (k4 b c2) a2) (fun h => a1 h.symm)
   ·exact h3 j q b a2 c2)⟩
theorem Yp {K : Zk → World → Prop} (i j : Nat) {C D : Chunk} (hi : L[i]? = some C) (hj : L[j]? = some D) (hne : i ≠ j) (k : At cx K e ((L.set i (bothC C D)).set j empC)) : At cx K e L :=
 ⟨fun w hF hS => k.out w hF (by
  obtain ⟨fp, h1, h2, h3⟩ := hS.out
  have hil : i < L.length := by
   rcases Nat.lt_or_ge i L.length with h | h
   ·exact h
   ·simp [List.getElem?_eq_none h] at hi
  have hjl : j < L.length := by
   rcases Nat.lt_or_ge j L.length with h | h
   ·exact h
   ·simp [List.getElem?_eq_none h] at hj
  refine ⟨fun q b => if q = i then fp i b ∨ fp j b else if q = j then False else fp q b, ?_, ?_, ?_⟩
  ·intro q c hc
   by_cases hqj : q = j
   ·subst hqj
    rw [List.getElem?_set_self (by simpa using hjl)] at hc
    cases hc
    have : ¬ q = i := fun h => hne h.symm
    simp only [this, if_true, if_false]
    exact fun b h => h
   ·rw [List.getElem?_set_ne (fun h => hqj h.symm)] at hc
    by_cases hqi : q = i
    ·subst hqi
     rw [List.getElem?_set_self hil] at hc
     cases hc
     simp only [if_true]
     exact ⟨fp q, fp j, h1 q C hi, h1 j D hj, fun b h => .inl h, fun b h => .inr h, fun b a c => hne (h3 q j b a c)⟩
    ·rw [List.getElem?_set_ne (fun h => hqi h.symm)] at hc
     simp only [hqi, hqj, if_false]
     exact h1 q c hc
  ·intro q b hb
   by_cases hqi : q = i
   ·simp only [hqi, if_true] at hb
    refine ⟨by simp [hqi, hil], ?_⟩
    rcases hb with hb | hb
    ·exact (h2 i b hb).2
    ·exact (h2 j b hb).2
   ·by_cases hqj : q = j
    ·have hji : ¬ j = i := fun h => hne h.symm
     simp only [hqj, hji, if_true, if_false] at hb
    ·simp only [hqi, hqj, if_false] at hb
     obtain ⟨a1, a2⟩ := h2 q b hb
     exact ⟨by simpa using a1, a2⟩
  ·intro p q b hp hq
   have key : ∀ q, (if q = i then fp i b ∨ fp j b else if q = j then False else fp q b) → (q = i ∧ (fp i b ∨ fp j b)) ∨ (q ≠ i ∧ q ≠ j ∧ fp q b) := by
    intro q h
    by_cases hqi : q = i
    ·simp only [hqi, if_true] at h; exact .inl ⟨hqi, h⟩
    ·by_cases hqj : q = j
     ·have hji : ¬ j = i := fun h => hne h.symm
      simp only [hqj, hji, if_true, if_false] at h
     ·simp only [hqi, hqj, if_false] at h; exact .inr ⟨hqi, hqj, h⟩
   rcases key p hp with ⟨a1, a2⟩ | ⟨a1, a3, a2⟩ <;> rcases key q hq with ⟨c1, c2⟩ | ⟨c1, c3, c2⟩
   ·omega
   ·rcases a2 with a2 | a2
    ·exact absurd (h3 i q b a2 c2) (fun h => c1 h.symm)
    ·exact absurd (h3 j q b a2 c2) (fun h => c3 h.symm)
   ·rcases c2 with c2 | c2
    ·exact absurd (h3 i p b c2 a2) (fun h => a1 h.symm)
    ·exact absurd (h3 j p b c2 a2) (fun h => a3 h.symm)
   ·exact h3 p q b a2 c2)⟩
def roV (sz : Nat) (v : Value) (n : Nat) (xs : List (List Value)) : Chunk where
 P S w := n = xs.length ∧ FrS (fun b => w.heap[b]?) sz v xs ∧ ∀ b, v.ownBlock = some b → S b
 loc S w w' h := by
  rintro ⟨h1, h2, h3⟩
  refine ⟨h1, ?_, h3⟩
  obtain ⟨a, c, rfl, g1, g2, r⟩ := h2.out
  refine ⟨a, c, rfl, g1, g2, ?_⟩
  rcases r with r | ⟨b, off, cs, T, m, rfl, hb, r⟩
  ·exact .inl r
  ·exact .inr ⟨b, off, cs, T, m, rfl, (h b (h3 b rfl)).trans hb, r⟩
theorem row_FrS {w : World} {E sz : Nat} {v : Value} {n : Nat} {xs : List (List Value)} (h : w.ownsRow 0 E sz v n xs.flatten) (hn : xs.length = n) (hl : ∀ x ∈ xs, x.length = sz) : FrS (fun b => w.heap[b]?) sz v xs := by
 rcases h.2 with ⟨rfl, h0⟩ | ⟨g, cap, cur, rfl, _, hh, hnc, hm, hcs, ht⟩
 ·have : xs = [] := List.eq_nil_of_length_eq_zero (hn.trans h0)
  subst this
  exact ⟨none, 0, by simp, by simp, by simp, .inl rfl⟩
 ·subst hn
  have hr := ownsRow_Row h rfl hl
  refine ⟨some ⟨g, 0, none⟩, cap, rfl, hnc, by simpa [maxLen] using hm, ?_⟩
  rcases hr with hr | ⟨b, off, ha, hr⟩
  ·exact .inl hr
  ·simp only [Option.some.injEq, Addr.mk.injEq] at ha
   obtain ⟨rfl, rfl, _⟩ := ha
   refine .inr ⟨g, 0, cur, E, _, rfl, hh, fun i x hx => ⟨(hr i x hx).1, fun j v hv => ?_⟩⟩
   have := (hr i x hx).2 j v hv
   simpa [World.cell?, hh] using this
theorem row_ro (E sz : Nat) (v : Value) (n : Nat) (xs : List (List Value)) : Imp (J5 E sz v n xs) (roV sz v n xs) := ⟨fun S w ⟨⟨h1, h2, h3⟩, h4⟩ => ⟨h2.symm, row_FrS h1 h2 h3, h4⟩⟩
theorem imp_clipO (E sz : Nat) (a : Option Addr) (n c : Nat) (xs : List (List Value)) : Imp (J5 E sz (.slice a n c) n xs) (roV sz (.slice (Za a 0 n sz) n n) n xs) := ⟨fun S w ⟨⟨h1, h2, h3⟩, h4⟩ => by
 have hf := row_FrS h1 h2 h3
 subst h2
 obtain ⟨a', c', hv, g1, g2, r⟩ := hf.out
 simp only [Value.slice.injEq] at hv
 obtain ⟨rfl, _, rfl⟩ := hv
 refine ⟨rfl, ⟨_, _, rfl, Nat.le_refl _, by omega, ?_⟩, fun b hb => h4 b ?_⟩
 ·have := r.cut 0 xs.length xs.length (by omega)
  rwa [List.drop_zero, List.take_of_length_le (Nat.le_refl _)] at this
 ·rw [own_cut (y := xs.length)] at hb; rw [← hb]; cases a <;> rfl⟩
theorem frs_rd {α : Type} {w : World} {i sz n : Nat} {v : Value} {xs : List α} {f : α → List Value} (hS : Sat cx w L) (hL : L[i]? = some (roV sz v n (xs.map f))) : FrS (fun b => w.heap[b]?) sz v (xs.map f) := by
 obtain ⟨S, ⟨_, h2, _⟩, _⟩ := hS.at hL
 exact h2
theorem ret0 {fn : Func} {R : Value → World → Prop} (hr : fn.results = #[]) (k : ∀ w, Fr cx w → Sat cx w L → R (.tuple #[]) w) : At cx (BodyQ P fn R .ret) e L :=
 ⟨fun w hF hS tmps hs => ⟨.tuple #[], by simp [results, hr], k w hF hS⟩⟩
theorem ret0n {fn : Func} {R : Value → World → Prop} (hr : fn.results = #[]) (k : ∀ w, Fr cx w → Sat cx w L → R (.tuple #[]) w) : At cx (BodyQ P fn R .normal) e L :=
 ⟨fun w hF hS tmps hs => ⟨.tuple #[], by simp [results, hr], k w hF hS⟩⟩
theorem l_storeG {α : Type} {q T j sz szT k c E m : Nat} {A X : Operand} {x : Value} {a : Option Addr} {vs : List Value} {f : α → List Value} {xs ys : List α} {i : Int} {z : α} (hm : m = xs.length) (hs : ∀ w, (sizeOf T).run P w = .ok szT w)
  (hw : Zu ops ⟨none, .store T A X, ty, pos, af, g⟩ e = true) (hp : ev e A = Zn a k) (hk : k = i.toNat * sz + j) (hx : ev e X = x) (hc : x.cells.toList = vs) (hsz : vs.length = szT)
  (hpos : Nat.blt 0 szT = true) (hone : vs.all Value.oneCell' = true) (hL : L[q]? = some (J5 E sz (.slice a m c) m (xs.map f))) (hv : ∀ y, Jk xs i = some y → wr (f y) j vs = some (f z)) (hg : Q6 xs i z = some ys)
  (k' : At cx (WL P n ops Q rest) e (L.set q (J5 E sz (.slice a m c) m (ys.map f)))) : At cx (WL P n ops Q (⟨none, .store T A X, ty, pos, af, g⟩ :: rest)) e L := by
 subst hm
 obtain ⟨h0, h1, rfl⟩ := gSet_some hg
 have hat : Jk xs i = some xs[i.toNat] := gAt_ok h0 h1
 exact l_storeR (i := i.toNat) (j := j) (y := f xs[i.toNat]) hs hw hp hk hx hc hsz hpos hone hL (map_at hat) (hv _ hat) (by rw [List.map_set]) k'
theorem run_append_none_cap {w : World} {base : Nat} (t ty e : TypeId) (i : TypeInfo) (size : Nat) (ht : P.underlying t = some (.slice e)) (hi : P.info? e = some i)
  (v : Value) (n : Nat) (xs : List Value) (c : Nat) (hown : w.ownsRow base e size v n xs) :
  (Builtin.append_ #[t, t] ty #[v, .slice none 0 c]).run P w = .ok v w := by
 rcases hown.2 with ⟨rfl, rfl⟩ | ⟨g, cap, cur, rfl, _, _, hnc, _⟩
 ·simp [Builtin.append_, run_underlying ht, sizeOf, typeInfo, hi, Builtin.lenOf, Builtin.firstCells]
 ·simp [Builtin.append_, run_underlying ht, sizeOf, typeInfo, hi, Builtin.lenOf, Builtin.firstCells, hnc, storeCells]
theorem Ur {α : Type} {f : α → List Value} {ys ls zs : List α} {i : Nat} {S X : Operand} {t E : TypeId} {I : TypeInfo} {z : Value} {sz by_ : Nat} {p : Option Addr × Nat} {rds : List Nat} {V : Value} {a : Option Addr} {c m q : Nat} (hn : m = ys.length)
  (ht : P.underlying t = some (.slice E)) (hi : P.info? E = some I) (hz : I.zero = some z) (hsize : I.size = sz) (hby : I.bytes = by_) (hzs : z.cells.size = sz) (hsz : Nat.blt 0 sz = true)
  (hL : L[i]? = some (J5 E sz (.slice p.1 m p.2) m (ys.map f))) (hs : ev e S = .slice p.1 m p.2) (hx : ev e X = V) (hV : V = .slice a q c) (hq : q = ls.length)
  (hnews : ∀ w L', Fr cx w → Sat cx w L' → (∀ j, j ∈ rds → L'[j]? = L[j]?) → Row w a sz (ls.map f)) (hf : ∀ x, (f x).length = sz) (h1 : ∀ x, (f x).all Value.oneCell' = true) (hg : gApp by_ ys ls = some zs) :
  Turns P cx e ⟨some d, .call ⟨.builtin .append, #[S, X], #[t, t]⟩, ty, pos, af, g⟩ L i rds (fun p' : Option Addr × Nat => .slice p'.1 zs.length p'.2) (fun p' => J5 E sz (.slice p'.1 zs.length p'.2) zs.length (zs.map f)) := by
 subst hn hq
 obtain ⟨rfl, hb1, hb2⟩ := gApp_some hg
 rw [List.length_append]
 cases ha : a with
 | some ad =>
  subst ha
  exact turns_append (ad := ad) ht hi hz hsize hby hzs hsz hL hs (hx.trans hV) (by rw [List.length_map]) (fun x hx => by
   obtain ⟨y, _, rfl⟩ := List.mem_map.1 hx; exact hf y) hnews (fun x hx u hu => by
   obtain ⟨y, _, rfl⟩ := List.mem_map.1 hx; exact List.all_eq_true.1 (h1 y) u hu) (by rw [List.map_append]) rfl (by omega) hb2
 | none =>
  subst ha
  intro w L' hF hS hl hi'
  have hr := hnews w L' hF hS fun j hj => hi' j (.inl hj)
  have hls : ls = [] := by
   rcases hr with h | ⟨b, off, h, _⟩
   ·simpa using h
   ·cases h
  subst hls
  have hL' := (hi' i (.inr rfl)).trans hL
  obtain ⟨S0, ⟨⟨ho, _⟩, _⟩, _⟩ := hS.at hL'
  have he : (execOp (ev e) ⟨some d, .call ⟨.builtin .append, #[S, X], #[t, t]⟩, ty, pos, af, g⟩).run P w = .ok (.value (.slice p.1 ys.length p.2)) w := by
   simp only [execOp, resolve, invoke, builtin, Sem.run_bind, Sem.run_pure, Result.andThen_ok, List.map_toArray, List.map_cons, List.map_nil, hs, hx, hV, List.length_nil, run_append_none_cap t ty E I sz ht hi _ _ _ c ho]
  unfold RunsTo
  rw [he]
  refine ⟨p, by simp, hF, ?_⟩
  have : L'.set i (J5 E sz (.slice p.1 (ys.length + 0) p.2) (ys.length + 0) ((ys ++ []).map f)) = L' := by
   rw [List.append_nil, Nat.add_zero]
   refine List.ext_getElem? fun j => ?_
   rw [List.getElem?_set]
   split
   ·rename_i h; subst h
    split
    ·exact hL'.symm
    ·rename_i h; rw [List.getElem?_eq_none (by omega)]
   ·rfl
  show Sat cx w (L'.set i (J5 E sz (.slice p.1 (ys.length + ([] : List α).length) p.2) (ys.length + ([] : List α).length) ((ys ++ []).map f)))
  rw [List.length_nil, this]
  exact hS
end rules
end Go.Lx

/- Rules: octets and strings, slices that may be appended to whether they are one's own or full, clips. Conditions: none. -/
namespace Go.Lx
open Go Go.Vc Go.Md
theorem grown_by (w : World) (o : Obj) (row : Option Nat) : w.grownBy (w.drew.alloc o) row := ⟨rfl, rfl, rfl, by simp, fun k hk _ => (by first | exact heap_alloc_old w.drew _ k hk | exact heap_alloc_old w.drew _ hk)⟩
def apC (w : World) (E sz : Nat) (v : Value) (n : Nat) (xs : List (List Value)) : Prop :=
 (w.ownsRow 0 E sz v n xs.flatten ∨ (FrS (fun b => w.heap[b]?) sz v xs ∧ ∃ b o, v = .slice (some ⟨b, 0, none⟩) n n ∧ w.heap[b]? = some o)) ∧ xs.length = n ∧ ∀ x ∈ xs, x.length = sz
def apV (E : TypeId) (sz : Nat) (v : Value) (n : Nat) (xs : List (List Value)) : Chunk where
 P S w := apC w E sz v n xs ∧ ∀ b, v.ownBlock = some b → S b
 loc S w w' h := by
  rintro ⟨⟨h1 | ⟨h1, b, o, h2, h5⟩, h3⟩, h4⟩
  ·exact ⟨⟨.inl ((J5 E sz v n xs).loc S w w' h ⟨⟨h1, h3⟩, h4⟩).1.1, h3⟩, h4⟩
  ·exact ⟨⟨.inr ⟨((roV sz v n xs).loc S w w' h ⟨h3.1.symm, h1, h4⟩).2.1, b, o, h2, (h b (h4 b (by rw [h2]; rfl))).trans h5⟩, h3⟩, h4⟩
theorem apC.frs {w : World} {E sz : Nat} {v : Value} {n : Nat} {xs : List (List Value)} (h : apC w E sz v n xs) : FrS (fun b => w.heap[b]?) sz v xs :=
 h.1.elim (fun h1 => row_FrS h1 h.2.1 h.2.2) (fun h1 => h1.1)
theorem apC.lt {w : World} {E sz : Nat} {v : Value} {n : Nat} {xs : List (List Value)} (h : apC w E sz v n xs) (b : Nat) (hb : v.ownBlock = some b) : b < w.heap.size := by
 rcases h.1 with h1 | ⟨_, b', o, rfl, h1⟩
 ·exact (h1.lt b hb).2
 ·simp [Value.ownBlock] at hb
  subst hb
  exact (Array.getElem?_eq_some_iff.1 h1).1
theorem apC.slice {w : World} {E sz : Nat} {v : Value} {n : Nat} {xs : List (List Value)} (h : apC w E sz v n xs) : ∃ p : Option Addr × Nat, v = .slice p.1 n p.2 := by
 rcases h.1 with h1 | ⟨_, b', o, rfl, h1⟩
 ·exact Jct h1
 ·exact ⟨(some ⟨b', 0, none⟩, n), rfl⟩
section rules
variable {P : Program} {n : Nat} {cx : Cx} {e : Zk} {L : List Chunk} {d : Nat} {ty : TypeId} {pos : String} {af : Array Edge} {g : Option (Nat × Bool)}
theorem strSize (s : List UInt8) : (⟨s.toArray⟩ : ByteArray).size = s.length := by simp [ByteArray.size]
end rules
end Go.Lx

/- Rules: values that are functions: what is known of one, the call of one, and the making of one; boxes that a closure knows of. Conditions: none. -/
namespace Go.Lx
open Go Go.Vc Go.Md
structure FnH (P : Program) (h : Qg) (v : Value) (R : World → List Value → (Value → World → Prop) → Prop) : Prop where
 out : ∃ (f : FuncId) (pre caps : Array Value), v = .func (.func f) pre caps ∧ (∀ args w, (callFunc f args).run P w = .ok (.enter f args) w) ∧
  ∀ args post w, Know h w Yl → R w args post → Does P f (pre.toList ++ (args ++ caps.toList)).toArray w post
theorem FnH.mono {P : Program} {h h' : Qg} {v : Value} {R : World → List Value → (Value → World → Prop) → Prop} (f : FnH P h v R) (k : ∀ b o, h b = some o → h' b = some o) : FnH P h' v R := by
 obtain ⟨g, pre, caps, h1, h2, h3⟩ := f.out
 exact ⟨g, pre, caps, h1, h2, fun args r w hw hR => h3 args r w (fun b o hb => hw b o (k b o hb)) hR⟩
theorem FnH.cells {P : Program} {h : Qg} {v : Value} {R : World → List Value → (Value → World → Prop) → Prop} (f : FnH P h v R) : v.cells.toList = [v] := by
 obtain ⟨g, pre, caps, rfl, _⟩ := f.out; rfl
theorem FnH.one {P : Program} {h : Qg} {v : Value} {R : World → List Value → (Value → World → Prop) → Prop} (f : FnH P h v R) : v.oneCell' = true := by
 obtain ⟨g, pre, caps, rfl, _⟩ := f.out; rfl
theorem FrS.cells {h : Qg} {sz : Nat} {v : Value} {xs : List (List Value)} (f : FrS h sz v xs) : v.cells.toList = [v] := by
 obtain ⟨a, c, rfl, _⟩ := f.out; rfl
theorem FrS.one {h : Qg} {sz : Nat} {v : Value} {xs : List (List Value)} (f : FrS h sz v xs) : v.oneCell' = true := by
 obtain ⟨a, c, rfl, _⟩ := f.out; rfl
theorem Know.up {h : Qg} {w : World} {S : Nat → Prop} (k : Know h w S) : ∀ b o, h b = some o → w.heap[b]? = some o := fun b o hb => (k b o hb).1
section rules
variable {P : Program} {n : Nat} {cx : Cx} {e : Zk} {L : List Chunk} {ops : Array Oper} {rest : List Oper} {Q : Post} {F : Zk → List Chunk → Prop} {ss : List Kd} {d : Nat} {ty : TypeId} {pos : String} {af : Array Edge} {g : Option (Nat × Bool)}
theorem run_callVP {f : FuncId} {X : Operand} {A : Array Operand} {tys : Array TypeId} {args : List Value} {pre caps : Array Value} (hc : ∀ args w, (callFunc f args).run P w = .ok (.enter f args) w) (hX : ev e X = .func (.func f) pre caps) (ha : A.toList.map (ev e) = args) (w : World) :
  (execOp (ev e) ⟨some d, .call ⟨.value X, A, tys⟩, ty, pos, af, g⟩).run P w = .ok (.enter f (pre.toList ++ (args ++ caps.toList)).toArray) w := by
 subst ha
 have : (pre.toList ++ (A.toList.map (ev e) ++ caps.toList)).toArray = pre ++ A.map (ev e) ++ caps := by
  apply Array.ext'
  simp
 rw [this]
 simp only [execOp, resolve, hX, Deferred.ofValue, Sem.run_bind, Sem.run_pure, Result.andThen_ok, invoke, hc]
theorem runs_callV {X : Operand} {A : Array Operand} {tys : Array TypeId} {args : List Value} {v : Value} {h : Qg} {R : World → List Value → (Value → World → Prop) → Prop} {post : Value → World → Prop} {w : World} (hf : FnH P h v R) (hk : Know h w Yl) (hR : R w args post) (hX : ev e X = v) (ha : A.toList.map (ev e) = args) :
  RunsTo P (ev e) ⟨some d, .call ⟨.value X, A, tys⟩, ty, pos, af, g⟩ w post := by
 obtain ⟨f, pre, caps, rfl, hc, hd⟩ := hf.out
 unfold RunsTo
 rw [run_callVP hc hX ha]
 exact hd args post w hk hR
theorem l_callV {X : Operand} {A : Array Operand} {tys : Array TypeId} {args : List Value} {v r : Value} {R : World → List Value → (Value → World → Prop) → Prop} (hf : ∀ w, Fr cx w → Sat cx w L → FnH P (fun b => w.heap[b]?) v R ∧ R w args (fun v' w' => v' = r ∧ Grow w w')) (hX : ev e X = v)
  (hw : Zu ops ⟨some d, .call ⟨.value X, A, tys⟩, ty, pos, af, g⟩ e = true) (hn : Nat.blt d n = true) (ha : A.toList.map (ev e) = args)
  (k : At cx (WL P n ops Q rest) (upd e d r) L) : At cx (WL P n ops Q (⟨some d, .call ⟨.value X, A, tys⟩, ty, pos, af, g⟩ :: rest)) e L :=
 l_runs hw rfl hn fun w hF hS => (runs_callV (hf w hF hS).1 (Jp w) (hf w hF hS).2 hX ha).mono fun v' w' ⟨hv, hg⟩ => by
  subst hv
  exact k.out w' (hF.grow hg) (hS.grow hg)
theorem d_callV {X : Operand} {A : Array Operand} {tys : Array TypeId} {args : List Value} {v r : Value} {rds : List Nat} {R : World → List Value → (Value → World → Prop) → Prop} (hf : ∀ w L', Fr cx w → Sat cx w L' → (∀ i ∈ rds, L'[i]? = L[i]?) → FnH P (fun b => w.heap[b]?) v R ∧ R w args (fun v' w' => v' = r ∧ Grow w w')) (hX : ev e X = v)
  (hw : Zu ops ⟨some d, .call ⟨.value X, A, tys⟩, ty, pos, af, g⟩ e = true) (ha : A.toList.map (ev e) = args)
  (k : Sq P cx ops F rest ss (upd e d r) L) : Sq P cx ops F (⟨some d, .call ⟨.value X, A, tys⟩, ty, pos, af, g⟩ :: rest) (.d rds r :: ss) e L :=
 d_det hw rfl (fun w L' hF hS hi => runs_callV (hf w L' hF hS hi).1 (Jp w) (hf w L' hF hS hi).2 hX ha) k
theorem Jak {dd : Option Nat} {f : FuncId} {cs : Array Operand} {caps : Array Value} (hcs : cs.toList.map (ev e) = caps.toList) (w : World) :
  (execOp (ev e) ⟨dd, .makeFunc (.func f) #[] cs, ty, pos, af, g⟩).run P w = .ok (.value (.func (.func f) #[] caps)) w := by
 have : caps = cs.map (ev e) := by apply Array.ext'; rw [← hcs]; simp
 subst this
 simp [execOp, Instr.makeFunc]
theorem Vg {dd : Option Nat} {T b o t : Nat} {A : Operand} {v : Value} {cs : List Value} {w : World} (hA : ∀ w, (isAgg T).run P w = .ok false w) (hp : ev e A = .pointer (some ⟨b, o, none⟩)) (hb : w.heap[b]? = some (.cells cs.toArray t (0, 0))) (hv : rg cs o = some v) :
  (execOp (ev e) ⟨dd, .load T A, ty, pos, af, g⟩).run P w = .ok (.value v) w := by
 have hc := cell_of (o := o) hb
 rw [← rg_eq, hv] at hc
 simp [execOp, Instr.loadAt, Instr.sureAddr, hp, Jao hA hc]
theorem run_loadKN {dd : Option Nat} {T b o t sz : Nat} {A : Operand} {cs vs : List Value} {w : World} (hA : ∀ w, (isAgg T).run P w = .ok true w) (hs : ∀ w, (sizeOf T).run P w = .ok sz w) (hp : ev e A = .pointer (some ⟨b, o, none⟩)) (hb : w.heap[b]? = some (.cells cs.toArray t (0, 0))) (hv : rd cs o sz = some vs) :
  (execOp (ev e) ⟨dd, .load T A, ty, pos, af, g⟩).run P w = .ok (.value (.agg vs.toArray)) w := by
 obtain ⟨h1, h2⟩ := rd_get hv
 have hr := Jb3 (P := P) (w := w) (b := b) (o := o) hA hs h1 (fun j v hj => by rw [cell_of hb]; exact h2 j v hj)
 simp [execOp, Instr.loadAt, Instr.sureAddr, hp, hr]
end rules
end Go.Lx

/- Rules: calls that take memory of the caller's own and hand it back turned. Conditions: none. -/
namespace Go.Lx
open Go Go.Vc Go.Md
open Classical in
noncomputable def but (w : World) (S : Nat → Prop) : Qg := fun b => if S b then none else w.heap[b]?
theorem but_some {w : World} {S : Nat → Prop} {b : Nat} {o : Obj} (hb : w.heap[b]? = some o) (hn : ¬ S b) : but w S b = some o := by
 unfold but; rw [if_neg hn]; exact hb
theorem Y4 (w : World) (S : Nat → Prop) : Know (but w S) w S := fun b o h => by
 unfold but at h
 split at h
 ·cases h
 ·exact ⟨h, by assumption⟩
section rules
variable {P : Program} {n : Nat} {cx : Cx} {e : Zk} {L : List Chunk} {d : Nat} {ty : TypeId} {pos : String} {af : Array Edge} {g : Option (Nat × Bool)}
theorem Know.but {h : Qg} {w0 w : World} {S0 S : Nat → Prop} (k : Know h w0 S0) (hF : Fr ⟨w0, S0⟩ w) (ho : ∀ b, S b → Cx.own ⟨w0, S0⟩ b) : ∀ b o, h b = some o → but w S b = some o := fun b o hb => by
 refine but_some (k.now hF b o hb) fun hs => ?_
 obtain ⟨h1, h2⟩ := k b o hb
 have hlt : b < w0.heap.size := by
  rcases Nat.lt_or_ge b w0.heap.size with h | h
  ·exact h
  ·rw [Array.getElem?_eq_none h] at h1; cases h1
 rcases ho b hs with h | h
 ·exact absurd h (by show ¬ w0.heap.size ≤ b; omega)
 ·exact h2 h
theorem FrS.but {w : World} {S : Nat → Prop} {sz : Nat} {v : Value} {xs : List (List Value)} (f : FrS (fun b => w.heap[b]?) sz v xs) (hd : ∀ b, v.ownBlock = some b → ¬ S b) : FrS (but w S) sz v xs := by
 obtain ⟨a, c, rfl, h1, h2, r⟩ := f.out
 refine ⟨a, c, rfl, h1, h2, ?_⟩
 rcases r with r | ⟨b, off, cs, T, m, rfl, hb, r⟩
 ·exact .inl r
 ·exact .inr ⟨b, off, cs, T, m, rfl, but_some hb (hd b rfl), r⟩
def Apart (L' : List Chunk) (i : Nat) (w : World) (S : Nat → Prop) : Prop := ∀ j C, j ≠ i → L'[j]? = some C → ∃ S', C.P S' w ∧ ∀ b, S' b → ¬ S b
theorem frb_box {α : Type} {w : World} {S : Nat → Prop} {i j b m T sz : Nat} {cs : List Value} {xs : List α} {f : α → List Value} {L' : List Chunk} (hA : Apart L' i w S) (hS : Sat cx w L') (hji : j ≠ i) (hL : L'[j]? = some (Q1 b cs T)) (hcs : (xs.map f).flatten = cs) (hl : ((xs.map f).all fun x => Nat.beq x.length sz) = true) (hm : xs.length = m) (hm' : Nat.ble m 9223372036854775807 = true) :
  FrS (but w S) sz (.slice (some ⟨b, 0, none⟩) m m) (xs.map f) := by
 obtain ⟨S', h1, h2⟩ := hA j _ hji hL
 exact (frs_box hS hL hcs hl hm hm').but fun q hq => h2 q ((h1.1 q).2 (by simpa [Value.ownBlock] using hq.symm))
theorem cell_but {w : World} {S : Nat → Prop} {i j b T : Nat} {cs : List Value} {L' : List Chunk} (hA : Apart L' i w S) (hS : Sat cx w L') (hji : j ≠ i) (hL : L'[j]? = some (Q1 b cs T)) : but w S b = some (.cells cs.toArray T (0, 0)) := by
 obtain ⟨S', h1, h2⟩ := hA j _ hji hL
 exact but_some (Zr hS hL) (h2 b ((h1.1 b).2 rfl))
theorem c_sel {K : Zk → World → Prop} (sel : List Nat) (L' : List Chunk) (hs : sel.map (fun i => L[i]?) = L'.map some) (hnd : sel.Nodup) (k : At cx K e L') : At cx K e L :=
 ⟨fun w hF hS => k.out w hF (hS.select sel hnd hs)⟩
theorem turns_opB {σ : Type} {o : Oper} {i : Nat} {f : FuncId} {args : List Value} {rds : List Nat} {G : σ → Value} {C0 : Chunk} {C : σ → Chunk} (hL : L[i]? = some C0)
  (h : ∀ w L' S, Fr cx w → Sat cx w L' → (∀ j ∈ rds, L'[j]? = L[j]?) → C0.P S w → (∀ b, S b → b < w.heap.size) → (∀ b, S b → cx.own b) → Apart L' i w S → Does P f args.toArray w fun v w' => ∃ x, v = G x ∧ Turn w w' S (C x)) (hr : ∀ w, (execOp (ev e) o).run P w = .ok (.enter f args.toArray) w) : Turns P cx e o L i rds G C := fun w L' hF hS hl hi => by
 unfold RunsTo
 rw [hr w]
 have hL' := (hi i (.inr rfl)).trans hL
 show Does P f args.toArray w _
 obtain ⟨fp, h1, h2, h3⟩ := hS.out
 have hSi : ∀ b, fp i b → b < w.heap.size ∧ cx.own b := fun b hb => (h2 i b hb).2
 refine (h w L' (fp i) hF hS (fun j hj => hi j (.inl hj)) (h1 i C0 hL') (fun b hb => (hSi b hb).1) (fun b hb => (hSi b hb).2) (fun j C hji hC => ⟨fp j, h1 j C hC, fun b hb hbi => hji (h3 j i b hb hbi)⟩)).mono fun v' w' ⟨x, hv, ht⟩ => ⟨x, hv, hF.turn ht fun b hb => (hSi b hb).2, ?_⟩
 obtain ⟨S', k1, k2⟩ := ht.out
 have hil : i < L'.length := by
  rcases Nat.lt_or_ge i L'.length with h | h
  ·exact h
  ·simp [List.getElem?_eq_none h] at hL'
 refine ⟨fun j b => if j = i then S' b else fp j b, ?_, ?_, ?_⟩
 ·intro j c hc'
  by_cases hji : j = i
  ·subst hji
   simp [List.getElem?_set_self hil] at hc'
   subst hc'
   simpa using k1
  ·rw [List.getElem?_set_ne (fun e => hji e.symm)] at hc'
   simp only [hji, if_false]
   exact c.loc _ _ _ (fun b hb => ht.block b (h2 j b hb).2.1 (fun hib => hji (h3 j i b hb hib))) (h1 j c hc')
 ·intro j b hb
  by_cases hji : j = i
  ·simp only [hji, if_true] at hb
   refine ⟨by simp [hji, hil], (k2 b hb).1, ?_⟩
   rcases (k2 b hb).2 with h | h
   ·exact (h2 i b h).2.2
   ·exact .inl (Nat.le_trans hF.size h)
  ·simp only [hji, if_false] at hb
   obtain ⟨a1, a2, a3⟩ := h2 j b hb
   exact ⟨by simpa using a1, Nat.lt_of_lt_of_le a2 ht.size, a3⟩
 ·intro j q b hj hq
  by_cases hji : j = i <;> by_cases hqi : q = i <;> simp only [hji, hqi, if_true, if_false] at hj hq
  ·omega
  ·obtain ⟨_, a2, _⟩ := h2 q b hq
   rcases (k2 b hj).2 with h | h
   ·exact absurd (h3 q i b hq h) hqi
   ·omega
  ·obtain ⟨_, a2, _⟩ := h2 j b hj
   rcases (k2 b hq).2 with h | h
   ·exact absurd (h3 j i b hj h) hji
   ·omega
  ·exact h3 j q b hj hq
theorem Xj {σ : Type} {i : Nat} {f : FuncId} {A : Array Operand} {tys : Array TypeId} {args : List Value} {rds : List Nat} {G : σ → Value} {C0 : Chunk} {C : σ → Chunk} (hL : L[i]? = some C0)
  (h : ∀ w L' S, Fr cx w → Sat cx w L' → (∀ j ∈ rds, L'[j]? = L[j]?) → C0.P S w → (∀ b, S b → b < w.heap.size) → (∀ b, S b → cx.own b) → Apart L' i w S → Does P f args.toArray w fun v w' => ∃ x, v = G x ∧ Turn w w' S (C x)) (hc : ∀ args w, (callFunc f args).run P w = .ok (.enter f args) w)
  (ha : A.toList.map (ev e) = args) : Turns P cx e ⟨some d, .call ⟨.value (.func f), A, tys⟩, ty, pos, af, g⟩ L i rds G C :=
 turns_opB hL h (run_call hc ha)
end rules
end Go.Lx

/- Rules: floating-point numbers; stores into rows in a drawn region. Conditions: none. -/
namespace Go.Lx
open Go Go.Vc Go.Md
section ops
variable {P : Program} {e : Zk} {d : Option Nat} {ty : TypeId} {pos : String} {af : Array Edge} {g : Option (Nat × Bool)}
theorem r_lenN {X : Operand} {a : Option Addr} {m c k : Nat} {t u : TypeId} (hu : P.underlying t = some (.slice u)) (hx : ev e X = .slice a m c) (h : m = k) (w : World) :
  (execOp (ev e) ⟨d, .call ⟨.builtin .len, #[X], #[t]⟩, ty, pos, af, g⟩).run P w = .ok (.value (.int .i64 k)) w := by
 subst h; exact Jaw hu hx w
end ops
def Kd.sr (i : Nat) (C : Chunk) : Kd := .g [] [i] [i] (fun _ _ v => v = undef) (fun _ _ _ => [C])
section rules
variable {P : Program} {n : Nat} {cx : Cx} {e : Zk} {L : List Chunk} {ops : Array Oper} {rest : List Oper} {F : Zk → List Chunk → Prop} {ss : List Kd} {ty : TypeId} {pos : String} {af : Array Edge} {g : Option (Nat × Bool)}
theorem d_storeG {α : Type} {q T j sz szT k c E m : Nat} {A X : Operand} {x : Value} {a : Option Addr} {vs : List Value} {f : α → List Value} {xs ys : List α} {i : Int} {z : α} (hm : m = xs.length) (hs : ∀ w, (sizeOf T).run P w = .ok szT w)
  (hw : Zu ops ⟨none, .store T A X, ty, pos, af, g⟩ e = true) (hp : ev e A = Zn a k) (hk : k = i.toNat * sz + j) (hx : ev e X = x) (hc : x.cells.toList = vs) (hsz : vs.length = szT)
  (hpos : Nat.blt 0 szT = true) (hone : vs.all Value.oneCell' = true) (hL : L[q]? = some (J5 E sz (.slice a m c) m (xs.map f))) (hv : ∀ y, Jk xs i = some y → wr (f y) j vs = some (f z)) (hg : Q6 xs i z = some ys)
  (k' : Sq P cx ops F rest ss e (L.set q (J5 E sz (.slice a m c) m (ys.map f)))) : Sq P cx ops F (⟨none, .store T A X, ty, pos, af, g⟩ :: rest) (Kd.sr q (J5 E sz (.slice a m c) m (ys.map f)) :: ss) e L := by
 subst hm
 obtain ⟨h0, h1, rfl⟩ := gSet_some hg
 have hat : Jk xs i = some xs[i.toNat] := gAt_ok h0 h1
 have hv' := hv _ hat
 have hy := map_at (f := f) hat
 refine .take hw ⟨undef, rfl⟩ ⟨fun w L' hF hS _ hi => ?_⟩ fun v' hv' => ?_
 ·have hL' := (hi q (.inl (by simp [Kd.sr, Kd.rds]))).trans hL
  obtain ⟨S0, ⟨⟨ho, hlen, hlx⟩, hob⟩, _⟩ := hS.at hL'
  obtain ⟨w', hr, h2, h3⟩ := run_storeR (P := P) (ty := ty) (pos := pos) (af := af) (g := g) hs hp hk hx hc hsz hpos hone hy hv' ho hlen hlx
  have hpos' : 0 < vs.length := by rw [hsz]; simpa using hpos
  obtain ⟨g1, g2⟩ := wr_eq hv' hpos'
  obtain ⟨hF', hS'⟩ := hS.turnOf hF hL' (C := J5 E sz (.slice a xs.length c) xs.length ((xs.map f).set i.toNat (f z))) fun S1 hp => Ug hp.2 h2 h3 (.inl rfl) (by simp [hlen]) (by
   intro z' hz
   rcases List.mem_or_eq_of_mem_set hz with h | h
   ·exact hlx z' h
   ·subst h; rw [g2]; have := hlx _ (List.mem_of_getElem? hy); simp only [List.length_append, List.length_take, List.length_drop]; omega)
  unfold RunsTo
  rw [hr]
  refine ⟨rfl, hF', ?_⟩
  rw [← List.map_set] at hS'
  exact hS'
 ·exact k'
end rules
end Go.Lx

/- Rules: slices of arrays as strings; a range over a string of ASCII octets; long arrays as boxes. Conditions: none. -/
namespace Go.Lx
open Go Go.Vc Go.Md
section ops
variable {P : Program} {cx : Cx} {e : Zk} {L : List Chunk} {d : Option Nat} {ty : TypeId} {pos : String} {af : Array Edge} {g : Option (Nat × Bool)}
theorem r_nilCheck {X : Operand} {a : Addr} (hx : ev e X = .pointer (some a)) (w : World) :
  (execOp (ev e) ⟨d, .nilCheck X, ty, pos, af, g⟩).run P w = .ok (.value (.pointer (some a))) w := by
 simp only [execOp, hx, Sem.run_pure]
end ops
end Go.Lx

/- Rules: a character as a string; strings in their order. Conditions: none. -/
namespace Go.Lx
open Go Go.Vc Go.Md
section ops
variable {P : Program} {e : Zk} {d : Option Nat} {ty : TypeId} {pos : String} {af : Array Edge} {g : Option (Nat × Bool)}
end ops
end Go.Lx

/- Rules: parts of rows of one's own, that are only read. Conditions: none. -/
namespace Go.Lx
open Go Go.Vc Go.Md
theorem gCut_len {α : Type} {xs ys : List α} {l q : Int} (e : Ux xs l q = some ys) : ys.length = q.toNat - l.toNat := by
 obtain ⟨g0, g1, g2, rfl⟩ := Wz e
 rw [List.length_take, List.length_drop]; omega
theorem Row.cutG {α : Type} {w : World} {a : Option Addr} {m c sz : Nat} {f : α → List Value} {xs ys : List α} {l q : Int} (h : Row w a sz (xs.map f)) (hm : m = xs.length) (hc : m ≤ c) (e : Ux xs l q = some ys) : Row w (Za a l.toNat c sz) sz (ys.map f) := by
 obtain ⟨g0, g1, g2, rfl⟩ := Wz e
 have := Row.cut h l.toNat (q.toNat - l.toNat) c (by omega)
 rw [← List.map_drop, ← List.map_take] at this
 exact this
section ops
variable {P : Program} {e : Zk} {d : Option Nat} {ty : TypeId} {pos : String} {af : Array Edge} {g : Option (Nat × Bool)}
theorem Ja8 {α : Type} {X A : Operand} {a : Option Addr} {m c : Nat} {t u sz : Nat} {ka : IntKind} {l : Int} {xs ys : List α} {w : World} (hu : P.underlying t = some (.slice u)) (hs : ∀ w, (sizeOf u).run P w = .ok sz w)
  (hx : ev e X = .slice a m c) (ha : ev e A = .int ka l) (hm : m = xs.length) (_hc : m ≤ c) (hg : Ux xs l xs.length = some ys) :
  (execOp (ev e) ⟨d, .slice t X (some A) none none, ty, pos, af, g⟩).run P w = .ok (.value (.slice (Za a l.toNat c sz) ys.length (c - l.toNat))) w := by
 obtain ⟨g0, g1, g2, _⟩ := Wz hg
 have hl := gCut_len hg
 rw [r_sliceL hu hs hx ha g0 (by omega) w]
 congr 4; omega
end ops
end Go.Lx

/- Rules: facts that are carried as chunks which own nothing; functions as results; copies into rows; arrays out of slices. Conditions: none. -/
namespace Go.Lx
open Go Go.Vc Go.Md
def factC (φ : Prop) : Chunk where
 P S _ := (∀ b, ¬ S b) ∧ φ
 loc _ _ _ _ h := h
section rules
variable {cx : Cx} {K : Zk → World → Prop} {e : Zk} {L : List Chunk}
theorem c_fact {φ : Prop} (i : Nat) (hL : L[i]? = some (factC φ)) (k : φ → At cx K e L) : At cx K e L :=
 ⟨fun w hF hS => by
  obtain ⟨S, hp, _⟩ := hS.at hL
  exact (k hp.2).out w hF hS⟩
end rules
def FnV {μ : Type} (P : Program) (v : Value) (m : Option μ) (R : μ → World → List Value → (Value → World → Prop) → Prop) : Prop := (m = none ∧ v = .nilFunc) ∨ ∃ g, m = some g ∧ ∀ h, FnH P h v (R g)
theorem FnV.nil {μ : Type} {P : Program} {R : μ → World → List Value → (Value → World → Prop) → Prop} : FnV P .nilFunc none R := .inl ⟨rfl, rfl⟩
theorem FnV.mk {μ : Type} {P : Program} {v : Value} {g : μ} {R : μ → World → List Value → (Value → World → Prop) → Prop} (h : ∀ h, FnH P h v (R g)) : FnV P v (some g) R := .inr ⟨g, rfl, h⟩
theorem FnV.cells {μ : Type} {P : Program} {v : Value} {m : Option μ} {R : μ → World → List Value → (Value → World → Prop) → Prop} (f : FnV P v m R) : v.cells.toList = [v] := by
 rcases f with ⟨_, rfl⟩ | ⟨g, _, f⟩
 ·rfl
 ·exact (f fun _ => none).cells
theorem FnV.one {μ : Type} {P : Program} {v : Value} {m : Option μ} {R : μ → World → List Value → (Value → World → Prop) → Prop} (f : FnV P v m R) : v.oneCell' = true := by
 rcases f with ⟨_, rfl⟩ | ⟨g, _, f⟩
 ·rfl
 ·exact (f fun _ => none).one
theorem FnV.fn {μ : Type} {P : Program} {v : Value} {m : Option μ} {g : μ} {R : μ → World → List Value → (Value → World → Prop) → Prop} (f : FnV P v m R) (hm : m = some g) (h : Qg) : FnH P h v (R g) := by
 rcases f with ⟨h1, _⟩ | ⟨g', h1, f⟩
 ·rw [hm] at h1; cases h1
 ·rw [hm] at h1; cases h1; exact f h
section ops
variable {P : Program} {e : Zk} {d : Option Nat} {ty : TypeId} {pos : String} {af : Array Edge} {g : Option (Nat × Bool)}
end ops
section rules
variable {P : Program} {n : Nat} {cx : Cx} {e : Zk} {L : List Chunk} {ops : Array Oper} {rest : List Oper} {Q : Post} {F : Zk → List Chunk → Prop} {ss : List Kd} {d : Option Nat} {ty : TypeId} {pos : String} {af : Array Edge} {g : Option (Nat × Bool)}
theorem Jb4 {σ : Type} {o : Oper} {i : Nat} {rds : List Nat} {G : σ → Value} {C : σ → Chunk} (h : Turns P cx e o L i rds G C) (hw : Zu ops o e = true) (hd : o.dst = none)
  (k : ∀ x, At cx (WL P n ops Q rest) e (L.set i (C x))) : At cx (WL P n ops Q (o :: rest)) e L :=
 ⟨fun w hF hS => ⟨fun a ha => by
  have hr := (h w L hF hS rfl (fun _ _ => rfl)).mono (R' := fun _ w' => WL P n ops Q rest e w') fun v w' ⟨x, hv, hF', hS'⟩ => (k x).out w' hF' hS'
  unfold RunsTo at hr
  unfold wpList
  rw [want_eq ha, hw, if_pos rfl]
  refine .inl ?_
  unfold Oper.wp
  rw [ha.ev]
  generalize (execOp (ev e) o).run P w = r at hr
  cases r with
  | halt x w' => exact hr.elim
  | ok nx w' =>
   cases nx with
   | value v =>
    show wpList P ops (lift n Q) rest (a.put o.dst v) w'
    rw [hd]
    exact hr.out _ ha
   | skip =>
    show wpList P ops (lift n Q) rest (a.put o.dst undef) w'
    rw [hd]
    exact hr.out _ ha
   | enter f args =>
    refine Calls.mono hr ?_
    rintro en w'' ⟨v, rfl, hk⟩
    show wpList P ops (lift n Q) rest (a.put o.dst v) w''
    rw [hd]
    exact hk.out _ ha
   | _ => exact hr.elim⟩⟩
end rules
def _root_.Go.Vc.Kd.fv (φ : Value → Prop) : Kd := .g [] [] [] (fun _ _ v => φ v) (fun _ _ _ => [])
section rules
variable {P : Program} {n : Nat} {cx : Cx} {e : Zk} {L : List Chunk} {ops : Array Oper} {rest : List Oper} {Q : Post} {F : Zk → List Chunk → Prop} {ss : List Kd} {d : Nat} {ty : TypeId} {pos : String} {af : Array Edge} {g : Option (Nat × Bool)}
end rules
end Go.Lx

/- Rules: results that came in; rows that are only read and may be the caller's; slices compared with nil; parts of known slices. Conditions: none. -/
namespace Go.Lx
open Go Go.Vc Go.Md
theorem Know.at {h : Qg} {w0 w : World} {S : Nat → Prop} (k : Know h w0 S) (hF : Fr ⟨w0, S⟩ w) : Know h w Yl := fun b o hb => ⟨k.now hF b o hb, fun x => x⟩
theorem FrS.cutL {α : Type} {h : Qg} {sz : Nat} {a : Option Addr} {n c : Nat} {f : α → List Value} {xs ys : List α} {l q : Int} (s : FrS h sz (.slice a n c) (xs.map f)) (e : Ux xs l q = some ys) : FrS h sz (.slice (Za a l.toNat c sz) ys.length (c - l.toNat)) (ys.map f) := by
 have := s.cut e
 rw [gCut_len e]
 exact this
theorem FrS.form {h : Qg} {sz : Nat} {v : Value} {α : Type} {f : α → List Value} {xs : List α} (s : FrS h sz v (xs.map f)) : ∃ p : Option Addr × Nat, v = .slice p.1 xs.length p.2 := by
 obtain ⟨a, c, rfl, _⟩ := s.out
 exact ⟨(a, c), by rw [List.length_map]⟩
def isNilV : Value → Bool | .slice none _ _ => true | _ => false
theorem FrS.nilV {h : Qg} {sz : Nat} {v : Value} {α : Type} {f : α → List Value} {xs : List α} (s : FrS h sz v (xs.map f)) (hb : isNilV v = true) : xs = [] := by
 obtain ⟨a, c, rfl, _, _, r⟩ := s.out
 rcases r with r | ⟨b, off, cs, T, m, rfl, _⟩
 ·simpa using r
 ·simp [isNilV] at hb
section ops
variable {P : Program} {e : Zk} {d : Option Nat} {ty : TypeId} {pos : String} {af : Array Edge} {g : Option (Nat × Bool)}
theorem eq_nilS {a : Option Addr} {m c : Nat} {t u : TypeId} (ht : P.underlying t = some (.slice u)) (n : Nat) (w : World) : (Op.equalIn (n + 1) t (.slice a m c) (.slice none 0 0)).run P w = .ok (isNilV (.slice a m c)) w := by
 cases a <;> simp [Op.equalIn, run_underlying ht, isNilV]
theorem r_eqlNilS {X Y : Operand} {v : Value} {t t' u sz : TypeId} {h : Qg} {xs : List (List Value)} (ht : P.underlying t = some (.slice u)) (s : FrS h sz v xs) (hx : ev e X = v) (hy : ev e Y = .slice none 0 0) (w : World) :
  (execOp (ev e) ⟨d, .binOp .eql t X Y t', ty, pos, af, g⟩).run P w = .ok (.value (.bool (isNilV v))) w := by
 obtain ⟨a, c, rfl, _⟩ := s.out
 have h0 := eq_nilS (P := P) (a := a) (m := xs.length) (c := c) ht 9999 w
 simp [execOp, hx, hy, eqGuard, binOp, Op.equal, Op.maxDepth, h0]
end ops
section rules
variable {P : Program} {n : Nat} {cx : Cx} {e : Zk} {L : List Chunk} {ops : Array Oper} {rest : List Oper} {Q : Post} {F : Zk → List Chunk → Prop} {ss : List Kd} {d : Nat} {ty : TypeId} {pos : String} {af : Array Edge} {g : Option (Nat × Bool)}
def roH (h : Qg) (sz : Nat) (v : Value) (n : Nat) (xs : List (List Value)) : Chunk where
 P S w := (roV sz v n xs).P S w ∨ ((∀ b, ¬ S b) ∧ n = xs.length ∧ FrS h sz v xs)
 loc S w w' hb hp := hp.elim (fun h => .inl ((roV sz v n xs).loc S w w' hb h)) .inr
theorem c_frz {α : Type} {K : Zk → World → Prop} {h : Qg} {sz : Nat} {p : Option Addr × Nat} {xs : List α} {f : α → List Value} (s : FrS h sz (.slice p.1 xs.length p.2) (xs.map f)) (k : At cx K e (L ++ [roH h sz (.slice p.1 xs.length p.2) xs.length (xs.map f)])) : At cx K e L :=
 ⟨fun w hF hS => k.out w hF (hS.snoc hF (Grow.refl w) (S := Yl) (.inr ⟨fun _ h => h, by rw [List.length_map], s⟩) (fun _ h => h.elim))⟩
theorem imp_rowH (h : Qg) (E sz : Nat) (v : Value) (n : Nat) (xs : List (List Value)) : Imp (J5 E sz v n xs) (roH h sz v n xs) := ⟨fun S w hp => .inl ((row_ro E sz v n xs).out S w hp)⟩
def _root_.Go.Vc.Kd.sv (a b i : Nat) (cs : Value → List Value) (T : TypeId) : Kd := .g [a, b] [i] [i] (fun _ _ v => v = undef) (fun vs _ _ => [boxOf (vs.headD undef) (cs (vs.getD 1 undef)) T])
theorem d_storeV {i : Nat} {a q T T0 b o sz : Nat} {x : Value} {cs vs : List Value} {cs' : Value → List Value} (hs : ∀ w, (sizeOf T).run P w = .ok sz w)
  (hw : Zu ops ⟨none, .store T (.tmp a) (.tmp q), ty, pos, af, g⟩ e = true) (hp : e a = .pointer (some ⟨b, o, none⟩)) (hx : e q = x) (hc : x.cells.toList = vs) (hsz : vs.length = sz) (hpos : Nat.blt 0 sz = true)
  (hone : vs.all Value.oneCell' = true) (hL : L[i]? = some (Q1 b cs T0)) (hv : wr cs o vs = some (cs' x))
  (k : Sq P cx ops F rest ss e (L.set i (Q1 b (cs' x) T0))) : Sq P cx ops F (⟨none, .store T (.tmp a) (.tmp q), ty, pos, af, g⟩ :: rest) (.sv a q i cs' T0 :: ss) e L := by
 have hbox : boxOf (([a, q].map e).headD undef) (cs' (([a, q].map e).getD 1 undef)) T0 = Q1 b (cs' x) T0 := by
  have h1 : ([a, q].map e).headD undef = e a := rfl
  have h2 : ([a, q].map e).getD 1 undef = e q := rfl
  rw [h1, h2, hp, hx]; rfl
 refine .take hw ⟨undef, rfl⟩ ⟨fun w L' hF hS _ hi => ?_⟩ fun v' hv' => ?_
 ·have hL' := (hi i (.inl (by simp [Kd.sv, Kd.rds]))).trans hL
  have hb := Zr hS hL'
  unfold RunsTo
  rw [Go.Vc.run_store hs (by exact hp) (by exact hx) hc hsz hpos hone hv hb]
  have hset := setRow_heap w b cs.toArray (cs' x).toArray T0 (0, 0) hb
  refine ⟨rfl, ⟨hF.os, hF.tape, hF.output, by simpa using hF.size, fun c hcn => ?_⟩, ?_⟩
  ·rw [setRow_other w b c _ (fun e => ?_)]
   ·exact hF.block c hcn
   ·obtain ⟨fp, f1, f2, _⟩ := hS.out
    have := (f2 i b ((f1 i _ hL').1 b |>.2 rfl)).2.2
    subst e
    exact hcn this
  ·show Sat cx _ (L'.set i (boxOf (([a, q].map e).headD undef) (cs' (([a, q].map e).getD 1 undef)) T0))
   rw [hbox]
   exact hS.set hF hL' (by simp) fun S hSp hSo => ⟨S, ⟨hSp.1, hset⟩, fun c hc => ⟨by simpa using (hSo c hc).1, .inl hc⟩, fun c _ hcS => setRow_other w b c _ (fun e => hcS ((hSp.1 c).2 e))⟩
 ·have hbox' := hbox
  show Sq P cx ops F rest ss (putD e none v') (L.set i (boxOf (([a, q].map e).headD undef) (cs' (([a, q].map e).getD 1 undef)) T0))
  rw [hbox]
  exact k
end rules
end Go.Lx

/- Rules: slices whose elements hold slices, as they came in: cells read off the known memory, and what each element stands for. Conditions: none. -/
namespace Go.Lx
open Go Go.Vc Go.Md
def Qu (h : Qg) (v : Value) (sz i j : Nat) : Value :=
 if j < sz then match v with
 | .slice (some ⟨b, off, _⟩) _ _ => match h b with
  | some (.cells cs _ _) => cs.getD (off + i * sz + j) undef
  | _ => undef
 | _ => undef else undef
def elC (h : Qg) (v : Value) (sz i : Nat) : List Value := (List.range sz).map (Qu h v sz i)
class Mon {α : Type} (G : Qg → (Nat → Value) → α → Prop) : Prop where
 mono : ∀ {h h' : Qg}, (∀ b o, h b = some o → h' b = some o) → ∀ c x, G h c x → G h' c x
structure FrN {α : Type} (h : Qg) (sz : Nat) (v : Value) (G : Qg → (Nat → Value) → α → Prop) (xs : List α) : Prop where
 frs : FrS h sz v ((List.range xs.length).map (elC h v sz))
 el : ∀ (i : Nat) (x : α), xs[i]? = some x → G h (Qu h v sz i) x
theorem elH_mono {h h' : Qg} {v : Value} {sz : Nat} {ys : List (List Value)} (f : FrS h sz v ys) (hy : 0 < ys.length) (k : ∀ b o, h b = some o → h' b = some o) (i : Nat) : Qu h v sz i = Qu h' v sz i := by
 funext j
 obtain ⟨a, c, rfl, _, _, r⟩ := f.out
 rcases r with r | ⟨b, off, cs, T, m, rfl, hb, _⟩
 ·subst r; simp at hy
 ·simp only [Qu, hb, k b _ hb]
theorem FrN.mono {α : Type} {h h' : Qg} {sz : Nat} {v : Value} {G : Qg → (Nat → Value) → α → Prop} [M : Mon G] {xs : List α} (f : FrN h sz v G xs) (k : ∀ b o, h b = some o → h' b = some o) : FrN h' sz v G xs := by
 have key : ∀ i, i < xs.length → Qu h v sz i = Qu h' v sz i := fun i hi => elH_mono f.frs (by simp; omega) k i
 refine ⟨?_, fun i x hx => ?_⟩
 ·have := f.frs.mono k
  have e : (List.range xs.length).map (elC h v sz) = (List.range xs.length).map (elC h' v sz) := by
   apply List.map_congr_left
   intro i hi
   unfold elC
   rw [key i (by simpa using hi)]
  rwa [e] at this
 ·have hi : i < xs.length := by
   rcases Nat.lt_or_ge i xs.length with h | h
   ·exact h
   ·rw [List.getElem?_eq_none h] at hx; cases hx
  rw [← key i hi]
  exact M.mono k _ _ (f.el i x hx)
theorem FrN.nil {α : Type} (h : Qg) (sz : Nat) (G : Qg → (Nat → Value) → α → Prop) : FrN h sz (.slice none 0 0) G [] := ⟨FrS.nil _ _, by simp⟩
section acc
variable {α : Type} {h : Qg} {sz : Nat} {v : Value} {G : Qg → (Nat → Value) → α → Prop} {xs ys : List α}
theorem FrN.cells (f : FrN h sz v G xs) : v.cells.toList = [v] := f.frs.cells
theorem FrN.one (f : FrN h sz v G xs) : v.oneCell' = true := f.frs.one
theorem FrN.eq (f : FrN h sz v G xs) : v = .slice (sa v) xs.length (sc v) := by
 have := f.frs.eq; rwa [List.length_map, List.length_range] at this
theorem FrN.form (f : FrN h sz v G xs) : ∃ p : Option Addr × Nat, v = .slice p.1 xs.length p.2 := by
 obtain ⟨p, hp⟩ := FrS.form f.frs; exact ⟨p, by rw [List.length_range] at hp; exact hp⟩
theorem FrN.len (f : FrN h sz v G xs) : xs.length ≤ sc v ∧ sc v ≤ 9223372036854775807 := by
 have := f.frs.len; rwa [List.length_map, List.length_range] at this
theorem FrN.at (f : FrN h sz v G xs) {i : Int} {x : α} (g : Jk xs i = some x) : G h (Qu h v sz i.toNat) x := f.el _ _ (Ye g).2.2
theorem FrN.ix (_ : FrN h sz v G xs) {i : Int} {x : α} (g : Jk xs i = some x) : Jk (List.range xs.length) i = some i.toNat := by
 obtain ⟨h0, h1, _⟩ := Ye g
 rw [gAt_ok h0 (by simpa using h1)]; simp
theorem FrN.nilV (f : FrN h sz v G xs) (hb : isNilV v = true) : xs = [] := by
 have := FrS.nilV f.frs hb
 exact List.eq_nil_of_length_eq_zero (by simpa using congrArg List.length this)
theorem gCut_range {l q : Int} (e : Ux xs l q = some ys) : Ux (List.range xs.length) l q = some (((List.range xs.length).drop l.toNat).take (q.toNat - l.toNat)) := by
 obtain ⟨g0, g1, g2, _⟩ := Wz e
 exact gCut_ok ⟨g0, g1, by simpa using g2⟩
theorem FrN.cut (f : FrN h sz v G xs) {l q : Int} (e : Ux xs l q = some ys) : FrN h sz (cutV sz v l q) G ys := by
 obtain ⟨g0, g1, g2, rfl⟩ := Wz e
 have hl := f.len
 have h0 := FrS.cut f.frs (gCut_range e)
 have hlen : ((xs.drop l.toNat).take (q.toNat - l.toNat)).length = q.toNat - l.toNat := by rw [List.length_take, List.length_drop]; omega
 have key : ∀ i, i < q.toNat - l.toNat → Qu h (cutV sz v l q) sz i = Qu h v sz (l.toNat + i) := by
  intro i hi
  funext j
  obtain ⟨a, c, hva, h1, _, r⟩ := f.frs.out
  simp only [List.length_map, List.length_range] at hva h1
  rcases r with r | ⟨b, off, cs, T, m, ha, hb, _⟩
  ·have := congrArg List.length r
   simp at this
   rw [this] at g2
   simp at g2
   omega
  ·have hm : ¬ c = l.toNat := by omega
   rw [hva, ha]
   simp only [cutV, sa, sc, Za, if_neg hm, Option.map_some, Addr.add_lit, Qu, hb]
   rw [show off + l.toNat * sz + i * sz + j = off + (l.toNat + i) * sz + j from by rw [Nat.add_mul]; omega]
 refine ⟨?_, fun i x hx => ?_⟩
 ·have e1 : ((List.range ((xs.drop l.toNat).take (q.toNat - l.toNat)).length).map (elC h (cutV sz v l q) sz)) = (((List.range xs.length).drop l.toNat).take (q.toNat - l.toNat)).map (elC h v sz) := by
   rw [hlen]
   apply List.ext_getElem
   ·simp; omega
   ·intro i h1 h2
    simp only [List.length_map, List.length_range] at h1
    simp only [List.getElem_map, List.getElem_range, List.getElem_take, List.getElem_drop]
    unfold elC
    rw [key i h1]
  rw [e1]; exact h0
 ·have hi : i < q.toNat - l.toNat := by
   rcases Nat.lt_or_ge i (q.toNat - l.toNat) with h | h
   ·exact h
   ·rw [List.getElem?_eq_none (by rw [hlen]; exact h)] at hx; cases hx
  rw [key i hi]
  rw [List.getElem?_take, if_pos hi, List.getElem?_drop] at hx
  exact f.el _ _ hx
end acc
theorem FrN.cutL {α : Type} {h : Qg} {sz : Nat} {a : Option Addr} {n c : Nat} {G : Qg → (Nat → Value) → α → Prop} {xs ys : List α} {l q : Int} (s : FrN h sz (.slice a n c) G xs) (e : Ux xs l q = some ys) : FrN h sz (.slice (Za a l.toNat c sz) ys.length (c - l.toNat)) G ys := by
 have := s.cut e
 rw [gCut_len e]
 exact this
theorem rd_of {l l' vs : List Value} {j n : Nat} (e : l = l') (h : rd l' j n = some vs) : rd l j n = some vs := by subst e; exact h
theorem V4 {l l' : List Value} {j : Nat} {v : Value} (e : l = l') (h : rg l' j = some v) : rg l j = some v := by subst e; exact h
def AllG {α : Type} (G : Qg → (Nat → Value) → α → Prop) (h : Qg) (sz : Nat) : List Value → List α → Prop
 | cs, [] => cs = []
 | cs, x :: r => G h (fun j => (cs.take sz).getD j undef) x ∧ AllG G h sz (cs.drop sz) r
theorem AllG.el {α : Type} {G : Qg → (Nat → Value) → α → Prop} {h : Qg} {sz : Nat} : ∀ {cs : List Value} {xs : List α}, AllG G h sz cs xs → ∀ (i : Nat) (x : α), xs[i]? = some x → G h (fun j => ((cs.drop (i * sz)).take sz).getD j undef) x
 | _, [], _, i, x, hx => by simp at hx
 | cs, y :: r, hp, 0, x, hx => by
  simp at hx; subst hx
  have := hp.1
  simpa using this
 | cs, y :: r, hp, i + 1, x, hx => by
  have := AllG.el hp.2 i x (by simpa using hx)
  rw [List.drop_drop, show sz + i * sz = (i + 1) * sz from by rw [Nat.succ_mul]; omega] at this
  exact this
section rules
variable {P : Program} {n : Nat} {cx : Cx} {e : Zk} {L : List Chunk}
theorem frn_box {α : Type} {G : Qg → (Nat → Value) → α → Prop} {w : World} {i b m T sz : Nat} {cs : List Value} {xs : List α} (hS : Sat cx w L) (hL : L[i]? = some (Q1 b cs T)) (hl : cs.length = m * sz) (hm : xs.length = m) (hm' : Nat.ble m 9223372036854775807 = true)
  (hG : AllG G (fun b => w.heap[b]?) sz cs xs) : FrN (fun b => w.heap[b]?) sz (.slice (some ⟨b, 0, none⟩) m m) G xs := by
 subst hm
 have hb : w.heap[b]? = some (.cells cs.toArray T (0, 0)) := Zr hS hL
 have key : ∀ i, Qu (fun b => w.heap[b]?) (.slice (some ⟨b, 0, none⟩) xs.length xs.length) sz i = fun j => ((cs.drop (i * sz)).take sz).getD j undef := by
  intro i; funext j
  simp only [Qu, hb, Nat.zero_add, List.getD_eq_getElem?_getD, Array.getD_eq_getD_getElem?, List.getElem?_toArray, List.getElem?_take, List.getElem?_drop]
  split <;> rfl
 refine ⟨⟨some ⟨b, 0, none⟩, xs.length, by simp, by simp, by simpa using hm', .inr ⟨b, 0, cs.toArray, T, (0, 0), rfl, hb, fun i x hx => ?_⟩⟩, fun i x hx => ?_⟩
 ·have hi : i < xs.length := by
   rcases Nat.lt_or_ge i xs.length with h | h
   ·exact h
   ·rw [List.getElem?_eq_none (by simpa using h)] at hx; cases hx
  simp only [List.getElem?_map, List.getElem?_range hi, Option.map_some, Option.some.injEq] at hx
  subst hx
  refine ⟨by simp [elC], fun j v hv => ?_⟩
  unfold elC at hv
  rw [key i] at hv
  have hj : j < sz := by
   rcases Nat.lt_or_ge j sz with h | h
   ·exact h
   ·rw [List.getElem?_eq_none (by simpa using h)] at hv; cases hv
  simp only [List.getElem?_map, List.getElem?_range hj, Option.map_some, Option.some.injEq] at hv
  have hlt : i * sz + j < cs.length := by
   rw [hl]
   have : (i + 1) * sz ≤ xs.length * sz := Nat.mul_le_mul_right _ (by omega)
   rw [Nat.succ_mul] at this
   omega
  rw [← hv]
  simp [List.getD_eq_getElem?_getD, List.getElem?_eq_getElem hlt, List.getElem?_take, List.getElem?_drop, hj]
 ·rw [key i]
  exact hG.el i x hx
section ops
variable {d : Option Nat} {ty : TypeId} {pos : String} {af : Array Edge} {g : Option (Nat × Bool)}
theorem Uh {α : Type} {G : Qg → (Nat → Value) → α → Prop} {X : Operand} {t u sz : TypeId} {h : Qg} {v : Value} {xs : List α} (hu : P.underlying t = some (.slice u)) (hx : ev e X = v) (hs : FrN h sz v G xs) (w : World) :
  (execOp (ev e) ⟨d, .call ⟨.builtin .len, #[X], #[t]⟩, ty, pos, af, g⟩).run P w = .ok (.value (.int .i64 xs.length)) w :=
 Jaw (P := P) (d := d) (ty := ty) (pos := pos) (af := af) (g := g) hu (hx.trans hs.eq) w
end ops
end rules
end Go.Lx

/- Rules: strings.Builder, as a chunk that holds octets. Conditions: none. -/
namespace Go.Lx
open Go Go.Vc Go.Md
section rules
variable {P : Program} {n : Nat} {cx : Cx} {Q : Post} {K : Zk → World → Prop} {e : Zk} {L : List Chunk} {ops : Array Oper} {F : Zk → List Chunk → Prop} {rest : List Oper} {ss : List Kd} {d : Nat} {ty : TypeId} {pos : String} {af : Array Edge} {g : Option (Nat × Bool)}
section ops
end ops
end rules
end Go.Lx

/- Rules: parts of arrays as arguments. Conditions: none. -/
namespace Go.Lx
open Go Go.Vc Go.Md
section rules
variable {P : Program} {cx : Cx} {e : Zk} {L : List Chunk}
end rules
theorem cells_sz {v : Value} (h : v.cells.toList = [v]) : v.cells.size = 1 := by have := congrArg List.length h; simpa using this
def litC (cs : List Value) (sz i : Nat) : List Value := (List.range sz).map fun j => ((cs.drop (i * sz)).take sz).getD j undef
theorem gAt_range {α : Type} {xs : List α} {i : Int} {x : α} (g : Jk xs i = some x) : Jk (List.range xs.length) i = some i.toNat := by
 obtain ⟨h0, h1, _⟩ := Ye g
 rw [gAt_ok h0 (by simpa using h1)]; simp
def vcells : Value → List Value | .tuple vs => vs.toList.flatMap fun v => v.cells.toList | v => v.cells.toList
def vcell (v : Value) (k : Nat) : Value := (vcells v).getD k undef
section rules
variable {P : Program} {n : Nat} {cx : Cx} {e : Zk} {L : List Chunk} {d : Nat} {ty : TypeId} {pos : String} {af : Array Edge} {g : Option (Nat × Bool)}
theorem r_cap {dd : Option Nat} {X : Operand} {t u m c : Nat} {a : Option Addr} (hu : P.underlying t = some (.slice u)) (hx : ev e X = .slice a m c) (w : World) :
  (execOp (ev e) ⟨dd, .call ⟨.builtin .cap, #[X], #[t]⟩, ty, pos, af, g⟩).run P w = .ok (.value (.int .i64 (c : Nat))) w := by
 simp [execOp, resolve, invoke, builtin, hx, Builtin.cap_, run_underlying hu, goInt]
theorem r_sliceH0 {dd : Option Nat} {X B : Operand} {g0 m c : Nat} {t u sz : Nat} {kb : IntKind} (hu : P.underlying t = some (.slice u)) (hs : ∀ w, (sizeOf u).run P w = .ok sz w)
  (hx : ev e X = .slice (some ⟨g0, 0, none⟩) m c) (hb : ev e B = .int kb 0) (w : World) :
  (execOp (ev e) ⟨dd, .slice t X none (some B) none, ty, pos, af, g⟩).run P w = .ok (.value (.slice (some ⟨g0, 0, none⟩) 0 c)) w := by
 have h := r_sliceH (P := P) (d := dd) (ty := ty) (pos := pos) (af := af) (g := g) hu hs hx hb (Int.le_refl 0) (by omega) w
 have e1 : Za (some (⟨g0, 0, none⟩ : Addr)) 0 c sz = some ⟨g0, 0, none⟩ := by
  unfold Za; split
  ·rfl
  ·simp [Addr.add_lit]
 rw [h, e1]; rfl
end rules
end Go.Lx

/- Rules: slices of one's own whose elements hold slices: rows of raw cells, facts on what they stand for, and a pool of memory that nobody turns any more. Conditions: none. -/
namespace Go.Lx
open Go Go.Vc Go.Md
def idC (l : List Value) : List Value := l
def Yo : Qg := fun _ => none
structure AllC {α : Type} (G : Qg → (Nat → Value) → α → Prop) (h : Qg) (sz : Nat) (css : List (List Value)) (xs : List α) : Prop where
 len : css.length = xs.length
 el : ∀ (i : Nat) (cs : List Value) (x : α), css[i]? = some cs → xs[i]? = some x → cs.length = sz ∧ G h (fun j => cs.getD j undef) x
section allc
variable {α : Type} {G : Qg → (Nat → Value) → α → Prop} {h h' : Qg} {sz : Nat} {css : List (List Value)} {xs ys : List α}
theorem AllC.nil : AllC G h sz [] ([] : List α) := ⟨rfl, by simp⟩
theorem AllC.snoc (p : AllC G h sz css xs) {cs : List Value} {x : α} (hl : cs.length = sz) (hG : G h (fun j => cs.getD j undef) x) : AllC G h sz (css ++ [cs]) (xs ++ [x]) := by
 refine ⟨by simp [p.len], fun i c y hc hy => ?_⟩
 rcases Nat.lt_or_ge i css.length with hi | hi
 ·rw [List.getElem?_append_left hi] at hc
  rw [List.getElem?_append_left (by rw [← p.len]; exact hi)] at hy
  exact p.el i c y hc hy
 ·rw [List.getElem?_append_right hi] at hc
  rw [List.getElem?_append_right (by rw [← p.len]; exact hi), ← p.len] at hy
  have h0 : i - css.length = 0 := by
   rcases Nat.eq_zero_or_pos (i - css.length) with h | h
   ·exact h
   ·obtain ⟨q, hq⟩ : ∃ q, i - css.length = q + 1 := ⟨i - css.length - 1, by omega⟩
    rw [hq] at hc; simp at hc
  rw [h0] at hc hy
  simp at hc hy
  subst hc hy
  exact ⟨hl, hG⟩
theorem AllC.mono [M : Mon G] (p : AllC G h sz css xs) (k : ∀ b o, h b = some o → h' b = some o) : AllC G h' sz css xs :=
 ⟨p.len, fun i c x hc hx => ⟨(p.el i c x hc hx).1, M.mono k _ _ (p.el i c x hc hx).2⟩⟩
theorem AllC.get (p : AllC G h sz css xs) {i : Int} {x : α} (g : Jk xs i = some x) : css[i.toNat]? = some (css.getD i.toNat []) := by
 obtain ⟨h0, h1, _⟩ := Ye g
 rw [List.getD_eq_getElem?_getD, List.getElem?_eq_getElem (by rw [p.len]; exact h1)]; rfl
theorem AllC.ix (p : AllC G h sz css xs) {i : Int} {x : α} (g : Jk xs i = some x) : Jk css i = some (css.getD i.toNat []) := by
 unfold Jk; rw [if_pos (Ye g).1]; exact p.get g
theorem AllC.at (p : AllC G h sz css xs) {i : Int} {x : α} (g : Jk xs i = some x) : G h (fun j => (css.getD i.toNat []).getD j undef) x := (p.el _ _ _ (p.get g) (Ye g).2.2).2
theorem AllC.eta (p : AllC G h sz css xs) {i : Int} {x : α} (g : Jk xs i = some x) : idC (css.getD i.toNat []) = (List.range sz).map fun j => (css.getD i.toNat []).getD j undef := by
 have hl := (p.el _ _ _ (p.get g) (Ye g).2.2).1
 unfold idC
 generalize css.getD i.toNat [] = l at hl
 subst hl
 apply List.ext_getElem
 ·simp
 ·intro j h1 h2
  simp [List.getD_eq_getElem?_getD, List.getElem?_eq_getElem h1]
theorem AllC.app (p : AllC G h sz css xs) {by_ : Nat} {news zs : List α} {nc : List (List Value)} (g : gApp by_ xs news = some zs) (hn : nc.length = news.length) : gApp by_ css nc = some (css ++ nc) := by
 obtain ⟨_, h1, h2⟩ := gApp_some g
 exact W9 (by rw [p.len, hn]; exact ⟨h1, h2⟩)
theorem AllC.snocG (p : AllC G h sz css xs) {by_ : Nat} {x : α} {zs : List α} {cs : List Value} (g : gApp by_ xs [x] = some zs) (hl : cs.length = sz) (hG : G h (fun j => cs.getD j undef) x) : AllC G h sz (css ++ [cs]) zs := by
 obtain ⟨rfl, _⟩ := gApp_some g
 exact p.snoc hl hG
end allc
def Yx (base hp : Qg) : Chunk where
 P S w := (∀ b o, base b = some o → hp b = some o) ∧ ∀ b o, hp b = some o → base b = some o ∨ (S b ∧ w.heap[b]? = some o)
 loc S w w' h := fun ⟨h1, h2⟩ => ⟨h1, fun b o hb => (h2 b o hb).imp id fun ⟨hs, hw⟩ => ⟨hs, (h b hs).trans hw⟩⟩
section rules
variable {cx : Cx} {K : Zk → World → Prop} {e : Zk} {L : List Chunk} {base hp : Qg}
theorem Wy (base : Qg) (k : At cx K e (L ++ [Yx base base])) : At cx K e L :=
 ⟨fun w hF hS => k.out w hF (hS.snoc hF (Grow.refl w) (S := Yl) ⟨fun _ _ h => h, fun _ _ h => .inl h⟩ (fun _ h => h.elim))⟩
theorem Xi {w : World} {i : Nat} (hS : Sat cx w L) (hi : L[i]? = some (Yx base hp)) (hb : ∀ b o, base b = some o → w.heap[b]? = some o) : ∀ b o, hp b = some o → w.heap[b]? = some o := fun b o h => by
 obtain ⟨S, hP, _⟩ := hS.at hi
 rcases hP.2 b o h with h | h
 ·exact hb b o h
 ·exact h.2
theorem Qo {h : Qg} : ∀ b o, Yo b = some o → h b = some o := fun _ _ h => by cases h
open Classical in
theorem Yq {C : Chunk} {Φ : Qg → Prop} (i j : Nat) (hi : L[i]? = some (Yx base hp)) (hj : L[j]? = some C) (hne : i ≠ j) (hb : ∀ w, Fr cx w → ∀ b o, base b = some o → w.heap[b]? = some o)
  (hC : ∀ S w (H : Qg), C.P S w → (∀ b o, S b → w.heap[b]? = some o → H b = some o) → (∀ b o, hp b = some o → H b = some o) → Φ H)
  (k : ∀ hp', (∀ b o, hp b = some o → hp' b = some o) → Φ hp' → At cx K e ((L.set i (Yx base hp')).set j empC)) : At cx K e L :=
 ⟨fun w hF hS => by
  have hnow := Xi hS hi (hb w hF)
  obtain ⟨fp, h1, h2, h3⟩ := hS.out
  have hil : i < L.length := by
   rcases Nat.lt_or_ge i L.length with h | h
   ·exact h
   ·simp [List.getElem?_eq_none h] at hi
  have hjl : j < L.length := by
   rcases Nat.lt_or_ge j L.length with h | h
   ·exact h
   ·simp [List.getElem?_eq_none h] at hj
  have hji : ¬ j = i := fun h => hne h.symm
  have le : ∀ b o, hp b = some o → (fun b => if fp j b then w.heap[b]? else hp b) b = some o := fun b o h => by
   show (if fp j b then w.heap[b]? else hp b) = some o
   split
   ·exact hnow b o h
   ·exact h
  refine (k (fun b => if fp j b then w.heap[b]? else hp b) le (hC (fp j) w _ (h1 j C hj) (fun b o hs h => by show (if fp j b then w.heap[b]? else hp b) = some o; rw [if_pos hs]; exact h) le)).out w hF ?_
  have key : ∀ q b, (if q = i then fp i b ∨ fp j b else if q = j then False else fp q b) → (q = i ∧ (fp i b ∨ fp j b)) ∨ (q ≠ i ∧ q ≠ j ∧ fp q b) := by
   intro q b h
   by_cases hqi : q = i
   ·simp only [hqi, if_true] at h; exact .inl ⟨hqi, h⟩
   ·by_cases hqj : q = j
    ·simp only [hqj, hji, if_true, if_false] at h
    ·simp only [hqi, hqj, if_false] at h; exact .inr ⟨hqi, hqj, h⟩
  refine ⟨fun q b => if q = i then fp i b ∨ fp j b else if q = j then False else fp q b, ?_, ?_, ?_⟩
  ·intro q c hc
   by_cases hqj : q = j
   ·subst hqj
    rw [List.getElem?_set_self (by simpa using hjl)] at hc
    cases hc
    show ∀ b, ¬ _
    intro b h
    simp [hji] at h
   ·rw [List.getElem?_set_ne (fun h => hqj h.symm)] at hc
    by_cases hqi : q = i
    ·subst hqi
     rw [List.getElem?_set_self hil] at hc
     cases hc
     simp only [if_true]
     have hP := h1 q _ hi
     refine ⟨fun b o h => le b o (hP.1 b o h), fun b o h => ?_⟩
     have h : (if fp j b then w.heap[b]? else hp b) = some o := h
     split at h
     ·rename_i hs; exact .inr ⟨.inr hs, h⟩
     ·rcases hP.2 b o h with h | h
      ·exact .inl h
      ·exact .inr ⟨.inl h.1, h.2⟩
    ·rw [List.getElem?_set_ne (fun h => hqi h.symm)] at hc
     simp only [hqi, hqj, if_false]
     exact h1 q c hc
  ·intro q b h
   rcases key q b h with ⟨rfl, h | h⟩ | ⟨_, _, h⟩
   ·have := h2 q b h; exact ⟨by simpa using hil, this.2⟩
   ·have := h2 j b h; exact ⟨by simpa using hil, this.2⟩
   ·have := h2 q b h; exact ⟨by simpa using this.1, this.2⟩
  ·intro q r b hq hr
   rcases key q b hq with ⟨hqi, hq | hq⟩ | ⟨hqi, hqj, hq⟩ <;> rcases key r b hr with ⟨hri, hr | hr⟩ | ⟨hri, hrj, hr⟩
   ·omega
   ·omega
   ·exact absurd (h3 i r b hq hr) (fun h => hri h.symm)
   ·omega
   ·omega
   ·exact absurd (h3 j r b hq hr) (fun h => hrj h.symm)
   ·exact absurd (h3 q i b hq hr) hqi
   ·exact absurd (h3 q j b hq hr) hqj
   ·exact h3 q r b hq hr⟩
theorem FrS.sub {w : World} {S : Nat → Prop} {H : Qg} {sz : Nat} {v : Value} {xs : List (List Value)} (f : FrS (fun b => w.heap[b]?) sz v xs) (hd : ∀ b, v.ownBlock = some b → S b) (hH : ∀ b o, S b → w.heap[b]? = some o → H b = some o) : FrS H sz v xs := by
 obtain ⟨a, c, rfl, h1, h2, r⟩ := f.out
 refine ⟨a, c, rfl, h1, h2, ?_⟩
 rcases r with r | ⟨b, off, cs, T, m, rfl, hb, r⟩
 ·exact .inl r
 ·exact .inr ⟨b, off, cs, T, m, rfl, hH b _ (hd b rfl) hb, r⟩
theorem fz_ro {α : Type} {sz n : Nat} {v : Value} {xs : List α} {f : α → List Value} (hp : Qg) : ∀ S w (H : Qg), (roV sz v n (xs.map f)).P S w → (∀ b o, S b → w.heap[b]? = some o → H b = some o) → (∀ b o, hp b = some o → H b = some o) → FrS H sz v (xs.map f) :=
 fun _ _ _ hP hH _ => hP.2.1.sub hP.2.2 hH
theorem fz_own {α : Type} {E sz n : Nat} {v : Value} {xs : List α} {f : α → List Value} (hp : Qg) : ∀ S w (H : Qg), (J5 E sz v n (xs.map f)).P S w → (∀ b o, S b → w.heap[b]? = some o → H b = some o) → (∀ b o, hp b = some o → H b = some o) → FrS H sz v (xs.map f) :=
 fun S w H hP hH k => fz_ro hp S w H ((row_ro E sz v n _).out S w hP) hH k
theorem U7 {α : Type} {G : Qg → (Nat → Value) → α → Prop} {h : Qg} {sz : Nat} {v : Value} {css : List (List Value)} {xs : List α} (f : FrS h sz v (css.map idC)) (p : AllC G h sz css xs) : FrN h sz v G xs := by
 have hid : css.map idC = css := by unfold idC; simp
 rw [hid] at f
 have cellE : ∀ i, i < xs.length → Qu h v sz i = fun j => (css.getD i []).getD j undef := by
  intro i hi
  funext j
  have hi' : i < css.length := by rw [p.len]; exact hi
  have hcl : (css[i]).length = sz := (p.el i css[i] xs[i] (List.getElem?_eq_getElem hi') (List.getElem?_eq_getElem hi)).1
  have e1 : css.getD i [] = css[i] := by simp [List.getD_eq_getElem?_getD, List.getElem?_eq_getElem hi']
  rw [e1]
  by_cases hj : j < sz
  ·obtain ⟨a, c, rfl, _, _, r⟩ := f.out
   rcases r with r | ⟨b, off, cs, T, m, rfl, hb, r⟩
   ·subst r; simp at hi'
   ·have h2 := (r i css[i] (List.getElem?_eq_getElem hi')).2 j ((css[i])[j]'(by omega)) (List.getElem?_eq_getElem (by omega))
    simp only [Qu, if_pos hj, hb]
    rw [Array.getD_eq_getD_getElem?, h2]
    simp [List.getD_eq_getElem?_getD, List.getElem?_eq_getElem (show j < (css[i]).length by omega)]
  ·unfold Qu
   rw [if_neg hj, List.getD_eq_getElem?_getD, List.getElem?_eq_none (by omega)]; rfl
 have cells : ∀ i, i < xs.length → elC h v sz i = css.getD i [] := by
  intro i hi
  have hi' : i < css.length := by rw [p.len]; exact hi
  have hcl : (css[i]).length = sz := (p.el i css[i] xs[i] (List.getElem?_eq_getElem hi') (List.getElem?_eq_getElem hi)).1
  unfold elC
  rw [cellE i hi]
  have e1 : css.getD i [] = css[i] := by simp [List.getD_eq_getElem?_getD, List.getElem?_eq_getElem hi']
  rw [e1]
  apply List.ext_getElem
  ·simp [hcl]
  ·intro j h1 h2
   simp only [List.length_map, List.length_range] at h1
   simp [List.getD_eq_getElem?_getD, List.getElem?_eq_getElem h2]
 refine ⟨?_, fun i x hx => ?_⟩
 ·have e : (List.range xs.length).map (elC h v sz) = css := by
   apply List.ext_getElem
   ·simp [p.len]
   ·intro i h1 h2
    simp only [List.length_map, List.length_range] at h1
    rw [List.getElem_map, List.getElem_range, cells i h1]
    simp [List.getD_eq_getElem?_getD, List.getElem?_eq_getElem h2]
  rw [e]; exact f
 ·have hi : i < xs.length := by
   rcases Nat.lt_or_ge i xs.length with h | h
   ·exact h
   ·rw [List.getElem?_eq_none h] at hx; cases hx
  have hi' : i < css.length := by rw [p.len]; exact hi
  rw [cellE i hi]
  have e1 : css.getD i [] = css[i] := by simp [List.getD_eq_getElem?_getD, List.getElem?_eq_getElem hi']
  rw [e1]
  exact (p.el i css[i] x (List.getElem?_eq_getElem hi') hx).2
theorem app63 {α : Type} {by_ : Nat} {xs ys zs : List α} (g : gApp by_ xs ys = some zs) : (xs ++ ys).length * by_ ≤ 140737488355328 := by
 obtain ⟨_, _, h⟩ := gApp_some g
 rwa [List.length_append]
open Classical in
theorem Yv {hp1 : Qg} (i j : Nat) (hi : L[i]? = some (Yx base hp)) (hj : L[j]? = some (Yx Yo hp1)) (hne : i ≠ j) (hb : ∀ w, Fr cx w → ∀ b o, base b = some o → w.heap[b]? = some o)
  (k : ∀ hp', (∀ b o, hp b = some o → hp' b = some o) → (∀ b o, hp1 b = some o → hp' b = some o) → At cx K e ((L.set i (Yx base hp')).set j empC)) : At cx K e L :=
 Yq (Φ := fun H => ∀ b o, hp1 b = some o → H b = some o) i j hi hj hne hb (fun S w H hP hH _ b o h => (hP.2 b o h).elim (fun h => by cases h) fun h => hH b o h.1 h.2) k
def rowD {α : Type} (E sz : Nat) (G : Qg → (Nat → Value) → α → Prop) (v : Value) (n : Nat) (xs : List α) : Chunk where
 P S w := ∃ (hp : Qg) (css : List (List Value)), AllC G hp sz css xs ∧ n = css.length ∧ (bothC (Yx Yo hp) (J5 E sz v n (css.map idC))).P S w
 loc S w w' h := by
  rintro ⟨hp, css, h1, h2, h3⟩
  exact ⟨hp, css, h1, h2, Chunk.loc _ _ _ _ h h3⟩
theorem Vo {α : Type} {G : Qg → (Nat → Value) → α → Prop} {E sz n : Nat} {p : Option Addr × Nat} {css : List (List Value)} {xs : List α} (hn : n = css.length) (f : AllC G hp sz css xs) :
  Imp (bothC (Yx Yo hp) (J5 E sz (.slice p.1 n p.2) n (css.map idC))) (rowD E sz G (.slice p.1 n p.2) n xs) := ⟨fun S w h => ⟨hp, css, f, hn, h⟩⟩
theorem c_show {C : Chunk} {τ : Type} {D : τ → Chunk} {φ : τ → Prop} (i : Nat) (hi : L[i]? = some C) (h : ∀ S w, C.P S w → ∃ t, φ t ∧ (D t).P S w) (k : ∀ t, φ t → At cx K e (L.set i (D t))) : At cx K e L :=
 ⟨fun w hF hS => by
  obtain ⟨fp, h1, h2, h3⟩ := hS.out
  obtain ⟨t, ht, hD⟩ := h _ _ (h1 i _ hi)
  have hil : i < L.length := by
   rcases Nat.lt_or_ge i L.length with h | h
   ·exact h
   ·simp [List.getElem?_eq_none h] at hi
  refine (k t ht).out w hF ⟨fp, fun j c hj => ?_, fun j b hb => by simpa using h2 j b hb, h3⟩
  by_cases hji : j = i
  ·subst hji
   rw [List.getElem?_set_self hil] at hj
   cases hj
   exact hD
  ·rw [List.getElem?_set_ne (fun h => hji h.symm)] at hj
   exact h1 j c hj⟩
theorem c_rowD {α : Type} {G : Qg → (Nat → Value) → α → Prop} {E sz n : Nat} {p : Option Addr × Nat} {xs : List α} (i : Nat) (hi : L[i]? = some (rowD E sz G (.slice p.1 n p.2) n xs))
  (k : ∀ (hp : Qg) (css : List (List Value)), n = css.length → AllC G hp sz css xs → At cx K e (L.set i (bothC (Yx Yo hp) (J5 E sz (.slice p.1 n p.2) n (css.map idC))))) : At cx K e L :=
 c_show (τ := Qg × List (List Value)) (D := fun t => bothC (Yx Yo t.1) (J5 E sz (.slice p.1 n p.2) n (t.2.map idC))) (φ := fun t => n = t.2.length ∧ AllC G t.1 sz t.2 xs) i hi (fun S w ⟨hp, css, h1, h2, h3⟩ => ⟨(hp, css), ⟨h2, h1⟩, h3⟩) fun t ht => k t.1 t.2 ht.1 ht.2
end rules
end Go.Lx
