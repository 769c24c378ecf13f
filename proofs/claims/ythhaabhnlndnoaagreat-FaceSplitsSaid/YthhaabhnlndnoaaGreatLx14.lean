/- Rules: parts of arrays as arguments. Conditions: none. -/
import Derived.Test.YthhaabhnlndnoaaGreatLx13
import Derived.Lib.AppendZeros
namespace Go.Lx
open Go Go.Vc Go.Md

section rules
variable {P : Program} {cx : Cx} {e : Env} {L : List Chunk}

theorem frs_arr {w : World} {i b : Nat} {cs : List Value} {T n : Nat} {q : Int} {α : Type} {f : α → List Value} {a : Nat → α} {l : List α} (hS : Sat cx w L) (hL : L[i]? = some (cellsC b cs T)) (hcs : ((List.range n).map fun j => f (a j)).flatten = cs) (hlen : ∀ x, (f x).length = 1) (hg : gCutA n a q = some l) (hn : Nat.ble n 9223372036854775807 = true) :
    FrS (fun b => w.heap[b]?) 1 (.slice (some ⟨b, 0, none⟩) l.length n) (l.map f) := by
  have hr := row_arr hS hL hcs hlen hg
  obtain ⟨h0, h1, rfl⟩ := gCutA_some hg
  refine ⟨some ⟨b, 0, none⟩, n, by simp, by simp; omega, by simpa using hn, ?_⟩
  rcases hr with h | ⟨b', off, h, hh⟩
  · exact .inl h
  · simp only [Option.some.injEq, Addr.mk.injEq] at h
    obtain ⟨rfl, rfl, _⟩ := h
    refine .inr ⟨b, 0, cs.toArray, T, (0, 0), rfl, sat_cell hS hL, fun i x hx => ⟨(hh i x hx).1, fun j v hv => ?_⟩⟩
    have := (hh i x hx).2 j v hv
    simpa [World.cell?, sat_cell hS hL] using this

end rules

theorem cells_sz {v : Value} (h : v.cells.toList = [v]) : v.cells.size = 1 := by have := congrArg List.length h; simpa using this

/-- The cells of an element of a literal. -/
def litC (cs : List Value) (sz i : Nat) : List Value := (List.range sz).map fun j => ((cs.drop (i * sz)).take sz).getD j undef
theorem gAt_range {α : Type} {xs : List α} {i : Int} {x : α} (g : gAt xs i = some x) : gAt (List.range xs.length) i = some i.toNat := by
  obtain ⟨h0, h1, _⟩ := gAt_some g
  rw [gAt_ok h0 (by simpa using h1)]; simp

/-- The cells of a value, those of a tuple one behind the other. -/
def vcells : Value → List Value | .tuple vs => vs.toList.flatMap fun v => v.cells.toList | v => v.cells.toList
def vcell (v : Value) (k : Nat) : Value := (vcells v).getD k undef

section rules
variable {P : Program} {n : Nat} {cx : Cx} {e : Env} {L : List Chunk} {d : Nat} {ty : TypeId} {pos : String} {af : Array Edge} {g : Option (Nat × Bool)}

theorem r_cap {dd : Option Nat} {X : Operand} {t u m c : Nat} {a : Option Addr} (hu : P.underlying t = some (.slice u)) (hx : ev e X = .slice a m c) (w : World) :
    (execOp (ev e) ⟨dd, .call ⟨.builtin .cap, #[X], #[t]⟩, ty, pos, af, g⟩).run P w = .ok (.value (.int .i64 (c : Nat))) w := by
  simp [execOp, resolve, invoke, builtin, hx, Builtin.cap_, run_underlying hu, goInt]

theorem r_min3 {dd : Option Nat} {X Y Z : Operand} {x y z : Int} {kd : IntKind} {tys : Array TypeId} (hx : ev e X = .int kd x) (hy : ev e Y = .int kd y) (hz : ev e Z = .int kd z) (w : World) :
    (execOp (ev e) ⟨dd, .call ⟨.builtin .min, #[X, Y, Z], tys⟩, ty, pos, af, g⟩).run P w = .ok (.value (.int kd (min (min x y) z))) w := by
  have h1 : (if y < x then y else x) = min x y := by rw [Int.min_def]; split <;> split <;> omega
  have h2 : (if z < min x y then z else min x y) = min (min x y) z := by rw [Int.min_def (min x y) z]; split <;> split <;> omega
  simp [execOp, resolve, invoke, builtin, hx, hy, hz, Builtin.min_, Builtin.min2, h1, h2]
theorem r_max3 {dd : Option Nat} {X Y Z : Operand} {x y z : Int} {kd : IntKind} {tys : Array TypeId} (hx : ev e X = .int kd x) (hy : ev e Y = .int kd y) (hz : ev e Z = .int kd z) (w : World) :
    (execOp (ev e) ⟨dd, .call ⟨.builtin .max, #[X, Y, Z], tys⟩, ty, pos, af, g⟩).run P w = .ok (.value (.int kd (max (max x y) z))) w := by
  have h1 : (if x < y then y else x) = max x y := by rw [Int.max_def]; split <;> split <;> omega
  have h2 : (if max x y < z then z else max x y) = max (max x y) z := by rw [Int.max_def (max x y) z]; split <;> split <;> omega
  simp [execOp, resolve, invoke, builtin, hx, hy, hz, Builtin.max_, Builtin.max2, h1, h2]

theorem r_sliceH0 {dd : Option Nat} {X B : Operand} {g0 m c : Nat} {t u sz : Nat} {kb : IntKind} (hu : P.underlying t = some (.slice u)) (hs : ∀ w, (sizeOf u).run P w = .ok sz w)
    (hx : ev e X = .slice (some ⟨g0, 0, none⟩) m c) (hb : ev e B = .int kb 0) (w : World) :
    (execOp (ev e) ⟨dd, .slice t X none (some B) none, ty, pos, af, g⟩).run P w = .ok (.value (.slice (some ⟨g0, 0, none⟩) 0 c)) w := by
  have h := r_sliceH (P := P) (d := dd) (ty := ty) (pos := pos) (af := af) (g := g) hu hs hx hb (Int.le_refl 0) (by omega) w
  have e1 : cutA (some (⟨g0, 0, none⟩ : Addr)) 0 c sz = some ⟨g0, 0, none⟩ := by
    unfold cutA; split
    · rfl
    · simp [Addr.add_lit]
  rw [h, e1]; rfl

/-- append(nil, make([]T, n)...): told as a row without elements, and with room. -/
theorem makes_zeros {S N : Operand} {t tn E : TypeId} {I : TypeInfo} {z : Value} {sz by_ m : Nat} {k kn : IntKind} {rds : List Nat} (ht : P.underlying t = some (.slice E)) (htn : P.underlying tn = some (.int kn)) (hi : P.info? E = some I) (hz : I.zero = some z) (hsize : I.size = sz) (hby : I.bytes = by_) (hzs : z.cells.size = sz) (hsz : Nat.blt 0 sz = true)
    (hs : ev e S = .slice none 0 0) (hn : ev e N = .int k (m : Int)) (h0 : 0 < m) (hm : m ≤ 140737488355328) (hb : by_ * m ≤ 140737488355328) :
    Makes P cx e ⟨some d, .call ⟨.builtin .append, #[S, N], #[t, tn]⟩, ty, pos, af, g⟩ L rds (fun x : Nat × Nat => .slice (some ⟨x.1, 0, none⟩) m x.2) (fun x => rowV E sz (.slice (some ⟨x.1, 0, none⟩) 0 x.2) 0 []) := fun w L' hF hS hi' => by
  subst hsize hby
  have hr := Lib.run_append_nil_zeros (P := P) w t tn ty E I z k kn ht htn hi hz m h0 (by simpa using hsz) (by omega) (by rw [Nat.mul_comm]; omega)
  have hge := grownCap_ge w m 0 E
  have hcm : grownCap w m 0 E ≤ maxLen := grownCap_le_maxLen w m 0 E (by simp only [maxLen]; omega)
  have he : (execOp (ev e) ⟨some d, .call ⟨.builtin .append, #[S, N], #[t, tn]⟩, ty, pos, af, g⟩).run P w = .ok (.value (.slice (some ⟨w.heap.size, 0, none⟩) m (grownCap w m 0 E))) (w.drew.alloc (.cells (Builtin.zeroCells z.cells m ++ Builtin.zeroCells z.cells (grownCap w m 0 E - m)) E)) := by
    simp only [execOp, resolve, invoke, builtin, Sem.run_bind, Sem.run_pure, Result.andThen_ok, List.map_toArray, List.map_cons, List.map_nil, hs, hn, hr]
  unfold RunsTo
  rw [he]
  have hby := grown_by w (.cells (Builtin.zeroCells z.cells m ++ Builtin.zeroCells z.cells (grownCap w m 0 E - m)) E) none
  refine ⟨(w.heap.size, grownCap w m 0 E), rfl, hby.os, hby.tape, hby.output, hby.size, fun b hb _ => hby.block b hb (by simp), fun b => b = w.heap.size, ⟨⟨⟨by simp, .inr ⟨w.heap.size, _, _, rfl, Nat.zero_le _, heap_alloc_new w.drew _, Nat.zero_le _, hcm, ?_, by simp⟩⟩, rfl, by simp⟩, fun b hb => ?_⟩, fun b hb => ?_⟩
  · simp only [Array.size_append, size_zeroCells, hzs]
    rw [← Nat.add_mul]
    congr 1
    omega
  · simp [Value.ownBlock] at hb; exact hb.symm
  · subst hb
    exact ⟨by simp, .inr (Nat.le_refl _)⟩

end rules
end Go.Lx
