/- Walks that are led by a model: the rules for single operations, loops and joins, each with the guard that the model names. Conditions: none. -/
import Derived.Test.YthhaabhnlndnoaaGreatVc8
import Derived.Test.YthhaabhnlndnoaaGreatMd
namespace Go.Lx
open Go Go.Vc Go.Md

/-! ### memory that nobody turns -/

abbrev Heap := Nat → Option Obj

/-- What is known of memory that the call neither owns nor turns. -/
def Know (h : Heap) (w : World) (S : Nat → Prop) : Prop := ∀ b o, h b = some o → w.heap[b]? = some o ∧ ¬ S b

theorem Know.now {h : Heap} {w0 w : World} {S : Nat → Prop} (k : Know h w0 S) (hF : Fr ⟨w0, S⟩ w) (b : Nat) (o : Obj) (hb : h b = some o) : w.heap[b]? = some o := by
  obtain ⟨h1, h2⟩ := k b o hb
  have hlt : b < w0.heap.size := by
    rcases Nat.lt_or_ge b w0.heap.size with h | h
    · exact h
    · rw [Array.getElem?_eq_none h] at h1; cases h1
  have hn : ¬ (Cx.own ⟨w0, S⟩ b) := by
    rintro (h | h)
    · exact absurd h (by show ¬ w0.heap.size ≤ b; omega)
    · exact h2 h
  rw [hF.block b hn]
  exact h1

/-- The rows of a slice, as the known memory has them. -/
def RowH (h : Heap) (a : Option Addr) (sz : Nat) (xs : List (List Value)) : Prop :=
  xs = [] ∨ ∃ b off cs T m, a = some ⟨b, off, none⟩ ∧ h b = some (.cells cs T m) ∧ ∀ (i : Nat) (x : List Value), xs[i]? = some x → x.length = sz ∧ ∀ (j : Nat) (v : Value), x[j]? = some v → cs[off + i * sz + j]? = some v

theorem RowH.row {h : Heap} {w : World} {a : Option Addr} {sz : Nat} {xs : List (List Value)} (r : RowH h a sz xs) (k : ∀ b o, h b = some o → w.heap[b]? = some o) : Row w a sz xs := by
  rcases r with r | ⟨b, off, cs, T, m, ha, hb, r⟩
  · exact .inl r
  · refine .inr ⟨b, off, ha, fun i x hx => ⟨(r i x hx).1, fun j v hv => ?_⟩⟩
    have := (r i x hx).2 j v hv
    simp [World.cell?, k b _ hb, this]

/-- A slice that is only read: its value, and its rows. -/
structure FrS (h : Heap) (sz : Nat) (v : Value) (xs : List (List Value)) : Prop where
  out : ∃ a c, v = .slice a xs.length c ∧ xs.length ≤ c ∧ c ≤ 9223372036854775807 ∧ RowH h a sz xs

def sa : Value → Option Addr | .slice a _ _ => a | _ => none
def sc : Value → Nat | .slice _ _ c => c | _ => 0

theorem FrS.eq {h : Heap} {sz : Nat} {v : Value} {xs : List (List Value)} (f : FrS h sz v xs) : v = .slice (sa v) xs.length (sc v) := by
  obtain ⟨a, c, rfl, _⟩ := f.out; rfl
theorem FrS.len {h : Heap} {sz : Nat} {v : Value} {xs : List (List Value)} (f : FrS h sz v xs) : xs.length ≤ sc v ∧ sc v ≤ 9223372036854775807 := by
  obtain ⟨a, c, rfl, h1, h2, _⟩ := f.out; exact ⟨h1, h2⟩
theorem FrS.row {h : Heap} {sz : Nat} {v : Value} {xs : List (List Value)} (f : FrS h sz v xs) {w : World} (k : ∀ b o, h b = some o → w.heap[b]? = some o) : Row w (sa v) sz xs := by
  obtain ⟨a, c, rfl, _, _, r⟩ := f.out; exact r.row k

theorem FrS.nil (h : Heap) (sz : Nat) : FrS h sz (.slice none 0 0) [] := ⟨none, 0, rfl, by simp, by simp, .inl rfl⟩

theorem RowH.cut {h : Heap} {a : Option Addr} {sz : Nat} {xs : List (List Value)} (r : RowH h a sz xs) (l q m : Nat) (hq : l + q ≤ m) : RowH h (cutA a l m sz) sz ((xs.drop l).take q) := by
  rcases r with r | ⟨b, off, cs, T, m', rfl, hb, r⟩
  · subst r; exact .inl (by simp)
  · unfold cutA
    by_cases hm : m = l
    · have hq0 : q = 0 := by omega
      subst hq0
      exact .inl (by simp)
    · rw [if_neg hm]
      refine .inr ⟨b, off + l * sz, cs, T, m', by simp [Addr.add_lit], hb, fun i x hx => ?_⟩
      rw [List.getElem?_take] at hx
      split at hx
      · rw [List.getElem?_drop] at hx
        obtain ⟨h1, h2⟩ := r (l + i) x hx
        refine ⟨h1, fun j v hv => ?_⟩
        have := h2 j v hv
        rw [show off + l * sz + i * sz + j = off + (l + i) * sz + j from by rw [Nat.add_mul]; omega]
        exact this
      · cases hx

/-- A part of a slice that is only read. -/
def cutV (sz : Nat) (v : Value) (l h : Int) : Value := .slice (cutA (sa v) l.toNat (sc v) sz) (h.toNat - l.toNat) (sc v - l.toNat)

theorem FrS.cut {α : Type} {h : Heap} {sz : Nat} {v : Value} {f : α → List Value} {xs ys : List α} {l q : Int} (s : FrS h sz v (xs.map f)) (e : gCut xs l q = some ys) : FrS h sz (cutV sz v l q) (ys.map f) := by
  obtain ⟨a, c, rfl, h1, h2, r⟩ := s.out
  obtain ⟨g0, g1, g2, rfl⟩ := gCut_some e
  have hl : ((xs.drop l.toNat).take (q.toNat - l.toNat)).length = q.toNat - l.toNat := by
    rw [List.length_take, List.length_drop]; omega
  simp only [List.length_map] at h1
  refine ⟨⟨cutA a l.toNat c sz, c - l.toNat, ?_, ?_, by omega, ?_⟩⟩
  · simp only [cutV, sa, sc, List.length_map, hl]
  · rw [List.length_map, hl]; omega
  · rw [List.map_take, List.map_drop]
    exact r.cut _ _ _ (by omega)

theorem FrS.mono {h h' : Heap} {sz : Nat} {v : Value} {xs : List (List Value)} (s : FrS h sz v xs) (le : ∀ b o, h b = some o → h' b = some o) : FrS h' sz v xs := by
  obtain ⟨a, c, rfl, h1, h2, r⟩ := s.out
  refine ⟨a, c, rfl, h1, h2, ?_⟩
  rcases r with r | ⟨b, off, cs, T, m, ha, hb, r⟩
  · exact .inl r
  · exact .inr ⟨b, off, cs, T, m, ha, le b _ hb, r⟩

/-! ### single operations -/

section ops
variable {P : Program} {e : Env} {d : Option Nat} {ty : TypeId} {pos : String} {af : Array Edge} {g : Option (Nat × Bool)}

section bin
variable {X Y : Operand} {x y z : Int} {t t' : TypeId} {kd k2 : IntKind}

theorem r_addG (hx : ev e X = .int .i64 x) (hy : ev e Y = .int .i64 y) (h : gI (x + y) = some z) (w : World) :
    (execOp (ev e) ⟨d, .binOp .add t X Y t', ty, pos, af, g⟩).run P w = .ok (.value (.int .i64 z)) w := by
  obtain ⟨rfl, hb⟩ := gI_some h; exact r_add hx hy hb w
theorem r_subG (hx : ev e X = .int .i64 x) (hy : ev e Y = .int .i64 y) (h : gI (x - y) = some z) (w : World) :
    (execOp (ev e) ⟨d, .binOp .sub t X Y t', ty, pos, af, g⟩).run P w = .ok (.value (.int .i64 z)) w := by
  obtain ⟨rfl, hb⟩ := gI_some h; exact r_sub hx hy hb w
theorem r_mulG (hx : ev e X = .int .i64 x) (hy : ev e Y = .int .i64 y) (h : gI (x * y) = some z) (w : World) :
    (execOp (ev e) ⟨d, .binOp .mul t X Y t', ty, pos, af, g⟩).run P w = .ok (.value (.int .i64 z)) w := by
  obtain ⟨rfl, hb⟩ := gI_some h; exact r_mul hx hy hb w
theorem r_quoG (hx : ev e X = .int .i64 x) (hy : ev e Y = .int .i64 y) (h : gQuo x y = some z) (w : World) :
    (execOp (ev e) ⟨d, .binOp .quo t X Y t', ty, pos, af, g⟩).run P w = .ok (.value (.int .i64 z)) w := by
  obtain ⟨h0, rfl, hb⟩ := gQuo_some h
  exact r_bin hx hy (fun w => by simp [binOp, Op.intDiv, h0, IntWalk.i64_in _ hb]) w
theorem r_remG (hx : ev e X = .int kd x) (hy : ev e Y = .int kd y) (h : gRem x y = some z) (w : World) :
    (execOp (ev e) ⟨d, .binOp .rem t X Y t', ty, pos, af, g⟩).run P w = .ok (.value (.int kd z)) w := by
  obtain ⟨h0, rfl⟩ := gRem_some h; exact r_rem hx hy h0 w
end bin

theorem r_negG {X : Operand} {x z : Int} {t : TypeId} (hx : ev e X = .int .i64 x) (h : gI (-x) = some z) (w : World) :
    (execOp (ev e) ⟨d, .unOp .neg t X, ty, pos, af, g⟩).run P w = .ok (.value (.int .i64 z)) w := by
  obtain ⟨rfl, hb⟩ := gI_some h
  have h0 : IntKind.i64.wrap (0 - x) = -x := by rw [IntWalk.i64_in _ (by omega)]; omega
  simp [execOp, hx, Op.unary, Op.intArith] ; simpa using h0

theorem r_lenF {X : Operand} {t u sz : TypeId} {h : Heap} {v : Value} {xs : List (List Value)} {α : Type} {ys : List α} {f : α → List Value} (hu : P.underlying t = some (.slice u)) (hx : ev e X = v) (hs : FrS h sz v xs) (hxs : xs = ys.map f) (w : World) :
    (execOp (ev e) ⟨d, .call ⟨.builtin .len, #[X], #[t]⟩, ty, pos, af, g⟩).run P w = .ok (.value (.int .i64 ys.length)) w := by
  have := r_len (P := P) (d := d) (ty := ty) (pos := pos) (af := af) (g := g) hu (hx.trans hs.eq) w
  rw [this, hxs, List.length_map]

theorem r_indexF {X I : Operand} {t u sz : Nat} {h : Heap} {v : Value} {α : Type} {f : α → List Value} {xs : List α} {x : α} {k : IntKind} {i : Int} (hu : P.underlying t = some (.slice u)) (hs : ∀ w, (sizeOf u).run P w = .ok sz w)
    (hx : ev e X = v) (hi : ev e I = .int k i) (hf : FrS h sz v (xs.map f)) (hg : gAt xs i = some x) (w : World) :
    (execOp (ev e) ⟨d, .indexAddr t X I, ty, pos, af, g⟩).run P w = .ok (.value (ptrAt (sa v) (i.toNat * sz))) w := by
  obtain ⟨h0, h1, h2⟩ := gAt_some hg
  obtain ⟨a, c, rfl, _, _, r⟩ := hf.out
  have ha : ∃ b off, a = some ⟨b, off, none⟩ := by
    rcases r with r | ⟨b, off, cs, T, m, ha, _⟩
    · simp at r; subst r; simp at h1
    · exact ⟨b, off, ha⟩
  exact r_index hu hs hx hi ha h0 (by rw [List.length_map]; omega) w

theorem some_of_at {h : Heap} {sz : Nat} {v : Value} {α : Type} {f : α → List Value} {xs : List α} {x : α} {i : Int} (hf : FrS h sz v (xs.map f)) (hg : gAt xs i = some x) : ∃ b off, sa v = some ⟨b, off, none⟩ := by
  obtain ⟨h0, h1, h2⟩ := gAt_some hg
  obtain ⟨a, c, rfl, _, _, r⟩ := hf.out
  rcases r with r | ⟨b, off, cs, T, m, ha, _⟩
  · simp at r; subst r; simp at h1
  · exact ⟨b, off, ha⟩

theorem map_at {α : Type} {f : α → List Value} {xs : List α} {x : α} {i : Int} (hg : gAt xs i = some x) : (xs.map f)[i.toNat]? = some (f x) := by
  obtain ⟨h0, h1, h2⟩ := gAt_some hg
  rw [List.getElem?_map, h2]; rfl

/-- The address of an element of a row of one's own. -/
theorem run_indexO {X I : Operand} {a : Option Addr} {m c : Nat} {t u sz sz' : Nat} {k : IntKind} {i : Int} {α : Type} {f : α → List Value} {xs : List α} {x : α} {w : World} (hu : P.underlying t = some (.slice u)) (hs : ∀ w, (sizeOf u).run P w = .ok sz w)
    (hx : ev e X = .slice a m c) (hi : ev e I = .int k i) (hR : Row w a sz' (xs.map f)) (hm : m = xs.length) (hg : gAt xs i = some x) :
    (execOp (ev e) ⟨d, .indexAddr t X I, ty, pos, af, g⟩).run P w = .ok (.value (ptrAt a (i.toNat * sz))) w := by
  obtain ⟨h0, h1, h2⟩ := gAt_some hg
  exact r_index hu hs hx hi (hR.some (i := i.toNat) (by simpa using h1)) h0 (by omega) w

/-- A load off an element. -/
theorem run_loadG1 {T k : Nat} {a : Option Addr} {A : Operand} {sz j : Nat} {α : Type} {f : α → List Value} {xs : List α} {x : α} {i : Int} {v : Value} {w : World} (hA : ∀ w, (isAgg T).run P w = .ok false w)
    (hp : ev e A = ptrAt a k) (hk : k = i.toNat * sz + j) (hr : Row w a sz (xs.map f)) (hg : gAt xs i = some x) (hv : rg (f x) j = some v) :
    (execOp (ev e) ⟨d, .load T A, ty, pos, af, g⟩).run P w = .ok (.value v) w :=
  run_loadP1 (i := i.toNat) (j := j) hA hp hk hr (map_at hg) hv

theorem run_loadGN {T k m : Nat} {a : Option Addr} {A : Operand} {sz j : Nat} {α : Type} {f : α → List Value} {xs : List α} {x : α} {i : Int} {vs : List Value} {w : World} (hA : ∀ w, (isAgg T).run P w = .ok true w) (hs : ∀ w, (sizeOf T).run P w = .ok m w)
    (hp : ev e A = ptrAt a k) (hk : k = i.toNat * sz + j) (hr : Row w a sz (xs.map f)) (hg : gAt xs i = some x) (hv : rd (f x) j m = some vs) :
    (execOp (ev e) ⟨d, .load T A, ty, pos, af, g⟩).run P w = .ok (.value (.agg vs.toArray)) w :=
  run_loadPN (i := i.toNat) (j := j) hA hs hp hk hr (map_at hg) hv

/-! strings -/

theorem r_concatG {t t' : TypeId} {X Y : Operand} {a b c : List UInt8} (hx : ev e X = str a) (hy : ev e Y = str b) (h : gCat a b = some c) (w : World) :
    (execOp (ev e) ⟨d, .binOp .add t X Y t', ty, pos, af, g⟩).run P w = .ok (.value (str c)) w := by
  obtain ⟨rfl, hl⟩ := gCat_some h; exact r_concat hx hy hl w

theorem r_octG {t : TypeId} {X I : Operand} {s : List UInt8} {k : IntKind} {i c : Int} (hu : P.underlying t = some .string) (hx : ev e X = str s) (hi : ev e I = .int k i) (h : gOct s i = some c) (w : World) :
    (execOp (ev e) ⟨d, .index t X I, ty, pos, af, g⟩).run P w = .ok (.value (.int .u8 c)) w := by
  obtain ⟨h0, h1, rfl⟩ := gOct_some h; exact r_indexT hu hx hi h0 h1 w

theorem r_cutTG {t : TypeId} {X A B : Operand} {s u : List UInt8} {ka kb : IntKind} {l h : Int} (hu : P.underlying t = some .string) (hx : ev e X = str s) (ha : ev e A = .int ka l) (hb : ev e B = .int kb h) (hg : gCut s l h = some u) (w : World) :
    (execOp (ev e) ⟨d, .slice t X (some A) (some B) none, ty, pos, af, g⟩).run P w = .ok (.value (str u)) w := by
  obtain ⟨h0, h1, h2, rfl⟩ := gCut_some hg; exact r_cutT hu hx ha hb h0 h1 h2 w

theorem r_cutToG {t : TypeId} {X B : Operand} {s u : List UInt8} {kb : IntKind} {h : Int} (hu : P.underlying t = some .string) (hx : ev e X = str s) (hb : ev e B = .int kb h) (hg : gCut s 0 h = some u) (w : World) :
    (execOp (ev e) ⟨d, .slice t X none (some B) none, ty, pos, af, g⟩).run P w = .ok (.value (str u)) w := by
  obtain ⟨h0, h1, h2, rfl⟩ := gCut_some hg
  have := r_cutTo (P := P) (d := d) (ty := ty) (pos := pos) (af := af) (g := g) hu hx hb h1 h2 w
  simpa using this

theorem r_cutFromG {t : TypeId} {X A : Operand} {s u : List UInt8} {ka : IntKind} {l : Int} (hu : P.underlying t = some .string) (hx : ev e X = str s) (ha : ev e A = .int ka l) (hg : gCut s l s.length = some u) (w : World) :
    (execOp (ev e) ⟨d, .slice t X (some A) none none, ty, pos, af, g⟩).run P w = .ok (.value (str u)) w := by
  obtain ⟨h0, h1, h2, rfl⟩ := gCut_some hg
  have := r_cutFrom (P := P) (d := d) (ty := ty) (pos := pos) (af := af) (g := g) hu hx ha h0 h1 w
  rw [this, List.take_of_length_le (by simp)]

end ops

/-! ### loops and joins -/

section rules
variable {P : Program} {n : Nat} {cx : Cx} {Q : Post} {e : Env} {L : List Chunk} {ops : Array Oper} {F : Env → List Chunk → Prop} {rest : List Oper} {ss : List Kd}

/-- What a way, or a round, leaves: s is the model's state, t what the walk alone knows. -/
structure RoundA {σ τ : Type} (cx : Cx) (st : σ → τ → List (Nat × Value)) (hp : σ → τ → List Chunk) (I : σ → τ → Nat → Prop) (m : Nat) (e : Env) (w : World) : Prop where
  out : ∃ s t k, Agree e (st s t) ∧ Fr cx w ∧ Sat cx w (hp s t) ∧ I s t k ∧ k < m

/-- A loop that does what the model's loop does. -/
theorem c_fix {σ τ ρ : Type} {c : Code} {r : ρ} (B : (σ → Option ρ) → σ → Option ρ) (st : σ → τ → List (Nat × Value)) (hp : σ → τ → List Chunk) (G : σ → τ → Prop) (s0 : σ) (t0 : τ) (sel : List Nat)
    (H : fix B s0 = some r) (hG : G s0 t0) (hst : Agree e (st s0 t0)) (hnd : sel.Nodup) (hL : sel.map (fun i => L[i]?) = (hp s0 t0).map some)
    (round : ∀ (s : σ) (t : τ) (m : Nat) (g : Env), B (it B m) s = some r → G s t →
      At cx (WC P n c (ThenQ (RoundA cx st hp (fun s t k => it B k s = some r ∧ G s t) (m + 1)) Q)) (mkE (st s t) g) (hp s t)) :
    At cx (WC P n (.loop c) Q) e L :=
  ⟨fun w hF hS => ⟨fun a ha => by
    obtain ⟨m0, hm0⟩ := fix_it H
    refine wp_loop_ghost (fun m a' w' => ∃ e' s t, Sim n a' e' ∧ Agree e' (st s t) ∧ Fr cx w' ∧ Sat cx w' (hp s t) ∧ it B m s = some r ∧ G s t) m0 ⟨e, s0, t0, ha, hst, hF, hS.select sel hnd hL, hm0, hG⟩ ?_
    rintro m a w ⟨e', s, t, ha, hst, hF, hS, hI, hg⟩
    cases m with
    | zero => cases hI
    | succ m =>
      have hr := ((round s t m e' hI hg).out w hF hS).out a (by rw [mkE_self e' _ hst]; exact ha)
      refine wp_mono hr ?_
      rintro x a' w' ⟨e'', hs', hq⟩
      cases x with
      | normal =>
        obtain ⟨s', t', m', h1, h3, h4, ⟨h5, h7⟩, h6⟩ := hq.out
        exact ⟨m', h6, e'', s', t', hs', h1, h3, h4, h5, h7⟩
      | exit i => exact ⟨e'', hs', hq⟩
      | goto i => exact ⟨e'', hs', hq⟩
      | ret => exact ⟨e'', hs', hq⟩
      | panic i => exact ⟨e'', hs', hq⟩
      | outgrown => exact ⟨e'', hs', hq⟩⟩⟩

/-- The end of a round, or of a way. -/
theorem c_close {σ τ : Type} {st : σ → τ → List (Nat × Value)} {hp : σ → τ → List Chunk} {I : σ → τ → Nat → Prop} {m : Nat} (s : σ) (t : τ) (k : Nat) (sel : List Nat) (hst : Agree e (st s t)) (hnd : sel.Nodup) (hL : sel.map (fun i => L[i]?) = (hp s t).map some) (hI : I s t k) (hm : k < m) :
    At cx (RoundA cx st hp I m) e L :=
  ⟨fun _ hF hS => ⟨s, t, k, hst, hF, hS.select sel hnd hL, hI, hm⟩⟩

/-- Ways that meet again. -/
theorem c_meet {σ τ ρ : Type} {x y : Code} {r : ρ} (J : σ → Option ρ) (st : σ → τ → List (Nat × Value)) (hp : σ → τ → List Chunk) (G : σ → τ → Prop)
    (h1 : At cx (WC P n x (ThenQ (RoundA cx st hp (fun s t _ => J s = some r ∧ G s t) 1) Q)) e L)
    (h2 : ∀ (s : σ) (t : τ) (g : Env), J s = some r → G s t → At cx (WC P n y Q) (mkE (st s t) g) (hp s t)) : At cx (WC P n (.seq x y) Q) e L :=
  c_seq ⟨fun w hF hS => ⟨fun a ha => Code.wp_mono (fun x' a' w' hq => by
    obtain ⟨e', hs, hq⟩ := hq
    cases x' with
    | normal =>
      obtain ⟨s, t, m, g1, g3, g4, ⟨g5, g7⟩, _⟩ := hq.out
      exact ⟨e', hs, by
        have := (h2 s t e' g5 g7).out w' g3 g4
        rwa [mkE_self e' _ g1] at this⟩
    | exit i => exact ⟨e', hs, hq⟩
    | goto i => exact ⟨e', hs, hq⟩
    | ret => exact ⟨e', hs, hq⟩
    | panic i => exact ⟨e', hs, hq⟩
    | outgrown => exact ⟨e', hs, hq⟩) ((h1.out w hF hS).out a ha)⟩⟩

/-- The state, said plainly. -/
theorem c_tidyF {K : Env → World → Prop} {l : List (Nat × Value)} {h : Env} (l' : List (Nat × Value)) (L' : List Chunk) (h1 : l = l') (h2 : L = L') (k : At cx K (mkE l' h) L') : At cx K (mkE l h) L := by
  subst h1 h2; exact k

/-! ### slices of one's own, read as they stand -/

theorem know_all (w : World) : Know (fun b => w.heap[b]?) w noS := fun b o h => ⟨h, fun x => x⟩

theorem frs_own {α : Type} {w : World} {i E sz n : Nat} {p : Option Addr × Nat} {xs : List α} {f : α → List Value} (hn : n = xs.length) (hS : Sat cx w L) (hL : L[i]? = some (rowV E sz (.slice p.1 n p.2) n (xs.map f))) : FrS (fun b => w.heap[b]?) sz (.slice p.1 n p.2) (xs.map f) := by
  subst hn
  obtain ⟨S, ⟨⟨h1, h2, h3⟩, _⟩, _⟩ := hS.at hL
  have hr := ownsRow_Row h1 h2 h3
  rcases h1.2 with ⟨hv, h0⟩ | ⟨g, cap, cur, hv, _, hh, hnc, hm, hcs, ht⟩
  · simp only [Value.slice.injEq] at hv
    have hxs : xs = [] := List.eq_nil_of_length_eq_zero h0
    subst hxs
    refine ⟨⟨p.1, p.2, by simp, by simp, by omega, .inl (by simp)⟩⟩
  · simp only [Value.slice.injEq] at hv
    obtain ⟨hp, _, hc⟩ := hv
    refine ⟨⟨p.1, p.2, by simp, by rw [List.length_map, hc]; exact hnc, by rw [hc]; simpa [maxLen] using hm, ?_⟩⟩
    rcases hr with hr | ⟨b, off, ha, hr⟩
    · exact .inl hr
    · rw [hp] at ha
      simp only [Option.some.injEq, Addr.mk.injEq] at ha
      obtain ⟨rfl, rfl, _⟩ := ha
      refine .inr ⟨g, 0, cur, E, _, hp, hh, fun i x hx => ⟨(hr i x hx).1, fun j v hv => ?_⟩⟩
      have := (hr i x hx).2 j v hv
      simpa [World.cell?, hh] using this

theorem frs_box {α : Type} {w : World} {i b m T sz : Nat} {cs : List Value} {xs : List α} {f : α → List Value} (hS : Sat cx w L) (hL : L[i]? = some (cellsC b cs T)) (hcs : (xs.map f).flatten = cs) (hl : ((xs.map f).all fun x => Nat.beq x.length sz) = true) (hm : xs.length = m) (hm' : Nat.ble m 9223372036854775807 = true) :
    FrS (fun b => w.heap[b]?) sz (.slice (some ⟨b, 0, none⟩) m m) (xs.map f) := by
  subst hm
  refine ⟨⟨some ⟨b, 0, none⟩, xs.length, by simp, by simp, by simpa using hm', .inr ⟨b, 0, cs.toArray, T, (0, 0), rfl, sat_cell hS hL, fun i x hx => ⟨?_, fun j v hv => ?_⟩⟩⟩⟩
  · have := List.all_eq_true.1 hl x (List.mem_of_getElem? hx)
    simpa using this
  · have := row_get _ i x hl hx j v hv
    rw [hcs] at this
    simpa using this

end rules
end Go.Lx
