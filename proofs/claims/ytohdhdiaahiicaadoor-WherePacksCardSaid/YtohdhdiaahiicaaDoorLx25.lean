/- Rules: bytes.Buffer, as a chunk that holds octets. Conditions: none. -/
import Derived.Test.YtohdhdiaahiicaaDoorLx24
import Derived.Shelf.Bytes.GrowSlice
namespace Go.Lx
open Go Go.Vc Go.Md Go.Shelf

/-- The parts of a buffer: its box and its row. -/
abbrev bufB (b T E n : Nat) (xs : List (List Value)) (p : Option Addr × Nat) (lr : Int) : Chunk :=
  bothC (cellsC b [.slice p.1 n p.2, .int .i64 0, .int .i8 lr] T) (rowV E 1 (.slice p.1 n p.2) n xs)

/-- A buffer of the call's own that has only been written. -/
def bufC (b T E : Nat) (bs : List UInt8) : Chunk where
  P S w := ∃ (p : Option Addr × Nat) (lr : Int), (bufB b T E (ofStr bs).length ((ofStr bs).map e8) p lr).P S w
  loc S w w' h := by
    rintro ⟨p, lr, hc⟩
    exact ⟨p, lr, Chunk.loc _ _ _ _ h hc⟩

theorem imp_bufNew (b T E : Nat) : Imp (cellsC b [.slice none 0 0, .int .i64 0, .int .i8 0] T) (bufC b T E []) := ⟨fun S w h =>
  ⟨(none, 0), 0, S, fun _ => False, h, ⟨⟨World.ownsRow_nil _ _ _ _, rfl, by simp [ofStr]⟩, by simp [Value.ownBlock]⟩, fun _ h => h, fun _ h => h.elim, fun _ _ h => h⟩⟩
theorem imp_buf {b T E : Nat} {p : Option Addr × Nat} {lr : Int} {bs : List UInt8} : Imp (bufB b T E (ofStr bs).length ((ofStr bs).map e8) p lr) (bufC b T E bs) := ⟨fun _ _ h => ⟨p, lr, h⟩⟩

section rules
variable {P : Program} {n : Nat} {cx : Cx} {Q : Post} {K : Env → World → Prop} {e : Env} {L : List Chunk} {d : Nat} {ty : TypeId} {pos : String} {af : Array Edge} {g : Option (Nat × Bool)}

theorem c_buf (i : Nat) {b T E : Nat} {bs : List UInt8} (hL : L[i]? = some (bufC b T E bs)) (k : ∀ (p : Option Addr × Nat) (lr : Int), At cx K e (L.set i (bufB b T E (ofStr bs).length ((ofStr bs).map e8) p lr))) : At cx K e L :=
  c_show (τ := (Option Addr × Nat) × Int) (D := fun t => bufB b T E (ofStr bs).length ((ofStr bs).map e8) t.1 t.2) (φ := fun _ => True) i hL (fun _ _ ⟨p, lr, h⟩ => ⟨(p, lr), trivial, h⟩) fun t _ => k t.1 t.2

/-- One element more, of whatever lies there. -/
theorem c_more (i : Nat) {E m c : Nat} {a : Option Addr} {xs : List (List Value)} (hL : L[i]? = some (rowV E 1 (.slice a m c) m xs)) (hc : m + 1 ≤ c) (k : ∀ y : Value, At cx K e (L.set i (rowV E 1 (.slice a (m + 1) c) (m + 1) (xs ++ [[y]])))) : At cx K e L :=
  c_show (τ := Value) (D := fun y => rowV E 1 (.slice a (m + 1) c) (m + 1) (xs ++ [[y]])) (φ := fun _ => True) i hL (fun S w h => by
    obtain ⟨⟨ho, hn, hx⟩, hb⟩ := h
    rcases ho.2 with ⟨hv, _⟩ | ⟨q, cap, cur, hv, hq, hh, hnc, hm, hcs, ht⟩
    · simp only [Value.slice.injEq] at hv; omega
    · simp only [Value.slice.injEq] at hv
      obtain ⟨rfl, -, rfl⟩ := hv
      have hlt : m < cur.size := by omega
      refine ⟨cur[m], trivial, ⟨⟨?_, .inr ⟨q, c, cur, rfl, hq, hh, hc, hm, hcs, ?_⟩⟩, by rw [List.length_append, hn]; rfl, ?_⟩, hb⟩
      · have := ho.1
        rw [List.flatten_append, List.length_append, this]; simp
      · rw [Nat.mul_one] at ht ⊢
        rw [List.take_add_one, ht, List.flatten_append]
        simp [hlt]
      · intro x hx'
        rcases List.mem_append.1 hx' with h | h
        · exact hx x h
        · rw [List.mem_singleton.1 h]; rfl) fun y _ => k y

/-- A row of one's own that is not nil lies at the head of a block. -/
theorem rowParts {w : World} {i E m c : Nat} {a : Option Addr} {xs : List (List Value)} (hS : Sat cx w L) (hL : L[i]? = some (rowV E 1 (.slice a m c) m xs)) : (a = none ∧ m = 0 ∧ c = 0) ∨ ∃ q, ∃ cur : Array Value, a = some ⟨q, 0, none⟩ ∧ w.heap[q]? = some (.cells cur E (0, 0)) ∧ m ≤ c ∧ c ≤ maxLen ∧ cur.size = c ∧ cur.toList.take m = xs.flatten := by
  obtain ⟨S, ⟨⟨ho, hn, hx⟩, _⟩, _⟩ := hS.at hL
  rcases ho.2 with ⟨hv, h0⟩ | ⟨q, cap, cur, hv, _, hh, hnc, hm, hcs, ht⟩
  · simp only [Value.slice.injEq] at hv; exact .inl ⟨hv.1, h0, hv.2.2⟩
  · simp only [Value.slice.injEq] at hv
    obtain ⟨rfl, -, rfl⟩ := hv
    rw [Nat.mul_one] at ht hcs
    exact .inr ⟨q, cur, rfl, hh, hnc, hm, hcs, ht⟩

/-- bytes.growSlice by one, of a row that is full. -/
theorem growS_does {ρ : Ren} (Ly : Go.Proofs.LaysM.n290 P ρ) {w : World} {i m : Nat} {p : Option Addr × Nat} {xs : List (List Value)} (hS : Sat cx w L) (hL : L[i]? = some (rowV (ρ.t 5) 1 (.slice p.1 m p.2) m xs)) (hp : p.1 ≠ none) (hc : ¬ m + 1 ≤ p.2) (hlim : m + 1 ≤ 140737488355328) (h1 : ∀ v ∈ xs.flatten, v.oneCell' = true) :
    Does P (ρ.f 290) (List.toArray [.slice p.1 m p.2, .int .i64 1]) w (fun v w' => ∃ x : Option Addr × Nat, v = .slice x.1 m x.2 ∧ Turn w w' noS (rowC (ρ.t 5) 1 (.slice x.1 m x.2) m xs (m + 1))) := by
  obtain ⟨S, ⟨⟨ho, hn, hx⟩, _⟩, _⟩ := hS.at hL
  obtain ⟨a, c⟩ := p
  rcases rowParts hS hL with ⟨h, _⟩ | ⟨q, cur, rfl, hh, hmc, hcm, hcs, ht⟩
  · exact absurd h hp
  · simp only at hc hmc hcs ht hh ho ⊢
    have hfl : xs.flatten.length = m := by have := ho.1; omega
    refine Calls.mono (Go.Proofs.Any.bytes_growSlice_row Ly q m c 1 cur w hh hcs hmc (Nat.le_refl _) hlim (by omega) (by rw [ht]; exact h1)) ?_
    rintro en w' ⟨cap2, cells, rfl, g1, g2, g3, g4, g5, g6⟩
    refine ⟨_, rfl, (some ⟨w.heap.size, 0, none⟩, cap2), rfl, g6.os, g6.tape, g6.output, g6.size, fun b hb _ => g6.block b hb, fun b => b = w.heap.size, ?_, fun b hb => ?_⟩
    · refine ⟨⟨⟨⟨by rw [hfl, Nat.mul_one], .inr ⟨w.heap.size, cap2, cells, rfl, Nat.zero_le _, g1, by omega, g5, by omega, ?_⟩⟩, hn, hx⟩, fun b hb => ?_⟩, ?_⟩
      · rw [Nat.mul_one, g3, ht]
      · simp [Value.ownBlock] at hb; exact hb.symm
      · exact g4
    · subst hb
      have := (Array.getElem?_eq_some_iff.1 g1).1
      exact ⟨this, .inr (Nat.le_refl _)⟩

/-- make([]E, 1, c). -/
theorem makes_make1 {N C : Operand} {t E : TypeId} {I : TypeInfo} {z : Value} {by_ c : Nat} {kl kc : IntKind} {rds : List Nat} (ht : P.underlying t = some (.slice E)) (hi : P.info? E = some I) (hz : I.zero = some z) (hsize : I.size = 1) (hby : I.bytes = by_) (hz1 : z.cells = #[z])
    (hn : ev e N = .int kl 1) (hc : ev e C = .int kc (c : Int)) (h1 : 1 ≤ c) (hb : by_ * c ≤ 281474976710656) (h63 : c ≤ 9223372036854775807) :
    Makes P cx e ⟨some d, .makeSlice t N C, ty, pos, af, g⟩ L rds (fun p : Option Addr × Nat => .slice p.1 1 p.2) (fun p => rowV E 1 (.slice p.1 1 p.2) 1 [[z]]) := fun w L' hF hS hi' => by
  subst hby
  have hb' : (I.bytes : Int) * (c : Int) ≤ 281474976710656 := by
    have h : ((I.bytes * c : Nat) : Int) ≤ 281474976710656 := by omega
    rwa [Int.natCast_mul] at h
  have hr := run_make (P := P) w t E I z ht hi hz kl kc 1 c (by omega) (by omega) hb' (by omega)
  simp only [Int.toNat_natCast, hsize, Nat.mul_one, hz1] at hr
  unfold RunsTo
  simp only [execOp, hn, hc, hr, Sem.run_bind, Sem.run_pure, Result.andThen_ok]
  have gr := grow_alloc w (.cells (madeCells #[z] c) E)
  have hsz : (madeCells #[z] c).size = c := by simp [madeCells]
  refine ⟨(some ⟨w.heap.size, 0, none⟩, c), rfl, gr.os, gr.tape, gr.output, gr.size, fun b hb _ => gr.block b hb, fun b => b = w.heap.size, ⟨⟨⟨by simp, .inr ⟨w.heap.size, c, _, rfl, Nat.zero_le _, Go.heap_alloc_new w _, h1, by simpa [maxLen] using h63, by omega, ?_⟩⟩, by simp, by simp⟩, fun b hb => ?_⟩, fun b hb => ?_⟩
  · have h2 := made_rep #[z] c (by simp)
    rw [show c * (#[z] : Array Value).size = c from by simp] at h2
    rw [h2]
    obtain ⟨c', rfl⟩ : ∃ c', c = c' + 1 := ⟨c - 1, by omega⟩
    simp [List.replicate_succ]
  · simp [Value.ownBlock] at hb; exact hb.symm
  · subst hb
    exact ⟨by simp, .inr (Nat.le_refl _)⟩

/-! ### what a walk over a buffer needs beside -/

theorem map_idC (xs : List (List Value)) : xs.map idC = xs := List.map_id' xs
theorem imp_bufN {b T E m : Nat} {p : Option Addr × Nat} {lr : Int} {xs : List (List Value)} {bs : List UInt8} (hn : m = (ofStr bs).length) (hx : xs = (ofStr bs).map e8) : Imp (bufB b T E m xs p lr) (bufC b T E bs) := by
  subst hn hx; exact imp_buf
theorem capMax {w : World} {i E m c : Nat} {a : Option Addr} {xs : List (List Value)} (hS : Sat cx w L) (hL : L[i]? = some (rowV E 1 (.slice a m c) m xs)) : c ≤ 9223372036854775807 := by
  rcases rowParts hS hL with ⟨_, _, h⟩ | ⟨_, _, _, _, _, h, _⟩
  · omega
  · simpa [maxLen] using h
theorem nilOr {w : World} {i E m c : Nat} {a : Option Addr} {xs : List (List Value)} (hS : Sat cx w L) (hL : L[i]? = some (rowV E 1 (.slice a m c) m xs)) : (a = none ∧ m = 0 ∧ c = 0) ∨ a ≠ none := by
  rcases rowParts hS hL with h | ⟨_, _, h, _⟩
  · exact .inl h
  · exact .inr (by rw [h]; simp)

section ops
variable {dd : Option Nat}
theorem r_sliceUp {X B : Operand} {a : Option Addr} {m c : Nat} {t u sz : Nat} {kb : IntKind} (hu : P.underlying t = some (.slice u)) (hs : ∀ w, (sizeOf u).run P w = .ok sz w)
    (hx : ev e X = .slice a m c) (hb : ev e B = .int kb ((m : Int) + 1)) (h : m + 1 ≤ c) (w : World) :
    (execOp (ev e) ⟨dd, .slice t X none (some B) none, ty, pos, af, g⟩).run P w = .ok (.value (.slice a (m + 1) c)) w := by
  have h0 := r_sliceH (P := P) (d := dd) (ty := ty) (pos := pos) (af := af) (g := g) hu hs hx hb (by omega) (by omega) w
  rw [cutA_zero, show ((m : Int) + 1).toNat = m + 1 from by omega] at h0
  exact h0
theorem r_slice0 {X A : Operand} {a : Option Addr} {m c : Nat} {t u sz : Nat} {ka : IntKind} (hu : P.underlying t = some (.slice u)) (hs : ∀ w, (sizeOf u).run P w = .ok sz w)
    (hx : ev e X = .slice a m c) (ha : ev e A = .int ka 0) (w : World) :
    (execOp (ev e) ⟨dd, .slice t X (some A) none none, ty, pos, af, g⟩).run P w = .ok (.value (.slice a m c)) w := by
  have h0 := r_sliceL (P := P) (d := dd) (ty := ty) (pos := pos) (af := af) (g := g) hu hs hx ha (Int.le_refl 0) (by omega) w
  rw [show (0 : Int).toNat = 0 from rfl, cutA_zero, Nat.sub_zero, Nat.sub_zero] at h0
  exact h0
theorem r_eqlNilV {X Y : Operand} {a : Option Addr} {m c : Nat} {t t' u : TypeId} (ht : P.underlying t = some (.slice u)) (hx : ev e X = .slice a m c) (hy : ev e Y = .slice none 0 0) (w : World) :
    (execOp (ev e) ⟨dd, .binOp .eql t X Y t', ty, pos, af, g⟩).run P w = .ok (.value (.bool (isNilV (.slice a m c)))) w := by
  have h0 := eq_nilS (P := P) (a := a) (m := m) (c := c) ht 9999 w
  simp [execOp, hx, hy, eqGuard, binOp, Op.equal, Op.maxDepth, h0]
theorem run_bytesS {w : World} {bs : List UInt8} {X : Operand} {s t E : TypeId} {a : Option Addr} {c m : Nat} (hm : m = (ofStr bs).length) (hs : P.underlying s = some (.slice E)) (he : P.underlying E = some (.int .u8)) (ht : P.underlying t = some .string)
    (hx : ev e X = .slice a m c) (hR : Row w a 1 ((ofStr bs).map e8)) : (execOp (ev e) ⟨dd, .convert s t X, ty, pos, af, g⟩).run P w = .ok (.value (str bs)) w := by
  have h0 := run_bytes (P := P) (dd := dd) (ty := ty) (pos := pos) (af := af) (g := g) (w := w) (f := e8) (xs := ofStr bs) hm hs he ht hx (fun _ => rfl) hR
  have h1 : toStr (ofStr bs) = bs := by
    unfold toStr ofStr
    rw [List.map_map]
    conv => rhs; rw [← List.map_id bs]
    apply List.map_congr_left
    intro c _
    show UInt8.ofNat ((c.toNat : Int).toNat) = c
    rw [Int.toNat_natCast, UInt8.ofNat_toNat]
  rw [h1] at h0
  exact h0
end ops
end rules
end Go.Lx
