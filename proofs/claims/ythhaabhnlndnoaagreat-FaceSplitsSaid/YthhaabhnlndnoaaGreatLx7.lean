/- Rules: slices of arrays as strings; a range over a string of ASCII octets; long arrays as boxes. Conditions: none. -/
import Derived.Test.YthhaabhnlndnoaaGreatLx6
import Derived.Test.YthhaabhnlndnoaaGreatMd2
import Derived.Laws.RangeString
namespace Go.Lx
open Go Go.Vc Go.Md

theorem caseB {p : Prop} (b : Bool) (ht : b = true → p) (hf : b = false → p) : p := by
  cases b
  · exact hf rfl
  · exact ht rfl

/-- The cells of a long array. -/
def arrC (n : Nat) (f : Nat → List Value) : List Value := (List.range n).flatMap f

theorem arr_whole (n : Nat) (f : Nat → List Value) : arrC n f = [] ++ ((List.range n).flatMap f ++ []) := by rw [List.nil_append, List.append_nil]; rfl
theorem arrC_len {n : Nat} {f : Nat → List Value} (hf : ∀ j, (f j).length = 1) : (arrC n f).length = n := by
  unfold arrC
  induction n with
  | zero => rfl
  | succ n ih => rw [List.range_succ, List.flatMap_append, List.flatMap_singleton, List.length_append, ih, hf]
theorem arrC_one {n : Nat} {f : Nat → List Value} (hf : ∀ j, (f j).all Value.oneCell' = true) : (arrC n f).all Value.oneCell' = true := by
  unfold arrC
  rw [List.all_eq_true]
  intro v hv
  obtain ⟨j, _, h⟩ := List.mem_flatMap.1 hv
  exact List.all_eq_true.1 (hf j) v h
theorem wr_whole {cs vs : List Value} (h : cs.length = vs.length) : wr cs 0 vs = some vs := by
  rw [wr_of (by omega), Nat.zero_add, ← h, List.drop_length]; simp
theorem rd_whole {cs : List Value} {n : Nat} (h : cs.length = n) : rd cs 0 n = some cs := by
  subst h
  induction cs with
  | nil => rfl
  | cons c cs ih =>
    have e : ∀ (l : List Value) (k : Nat), rd l 0 k = rdn l k := fun l k => by cases l <;> rfl
    rw [e] at *
    show rdn (c :: cs) (cs.length + 1) = some (c :: cs)
    unfold rdn
    rw [ih]; rfl

section ops
variable {P : Program} {cx : Cx} {e : Env} {L : List Chunk} {d : Option Nat} {ty : TypeId} {pos : String} {af : Array Edge} {g : Option (Nat × Bool)}

theorem r_nilCheck {X : Operand} {a : Addr} (hx : ev e X = .pointer (some a)) (w : World) :
    (execOp (ev e) ⟨d, .nilCheck X, ty, pos, af, g⟩).run P w = .ok (.value (.pointer (some a))) w := by
  simp only [execOp, hx, Sem.run_pure]

/-- The beginning of an array that a pointer leads to. -/
theorem r_sliceArr {X B : Operand} {t el n b o sz : Nat} {kb : IntKind} {q : Int} {α : Type} {f : Nat → α} {l : List α} (ht : P.underlying t = some (.array n el)) (hs : ∀ w, (sizeOf el).run P w = .ok sz w)
    (hx : ev e X = .pointer (some ⟨b, o, none⟩)) (hb : ev e B = .int kb q) (hg : gCutA n f q = some l) (w : World) :
    (execOp (ev e) ⟨d, .slice t X none (some B) none, ty, pos, af, g⟩).run P w = .ok (.value (.slice (some ⟨b, o, none⟩) l.length n)) w := by
  obtain ⟨h0, h1, rfl⟩ := gCutA_some hg
  have e1 : P.arrayLen t = n := by simp [Program.arrayLen, ht]
  have e2 : P.elem t = el := by simp [Program.elem, ht]
  have ht' : P.underlying t = some (.array (P.arrayLen t) (P.elem t)) := by rw [e1, e2]; exact ht
  simp only [execOp, Option.map_some, Option.map_none, hx, hb, Sem.run_bind, run_sliceAt_array_h w t ⟨b, o, none⟩ ht' kb q h0 (by rw [e1]; exact h1), e1, e2, hs, Result.andThen_ok, Sem.run_pure, slicedAt, Nat.sub_zero, List.length_map, List.length_range, Nat.zero_mul, Addr.add_lit, Nat.add_zero, ite_self]

theorem row_arr {w : World} {i b : Nat} {cs : List Value} {T n : Nat} {q : Int} {α : Type} {f : α → List Value} {a : Nat → α} {l : List α} (hS : Sat cx w L) (hL : L[i]? = some (cellsC b cs T)) (hcs : ((List.range n).map fun j => f (a j)).flatten = cs) (hlen : ∀ x, (f x).length = 1) (hg : gCutA n a q = some l) :
    Row w (some ⟨b, 0, none⟩) 1 (l.map f) := by
  obtain ⟨h0, h1, rfl⟩ := gCutA_some hg
  have hr := row_box (sz := 1) (xs := (List.range n).map fun j => f (a j)) hS hL hcs (by rw [List.all_eq_true]; intro x hx; obtain ⟨j, _, rfl⟩ := List.mem_map.1 hx; simp [hlen])
  rcases hr with h | ⟨b', off, h, hh⟩
  · have : n = 0 := by simpa using h
    subst this
    have : q = 0 := by omega
    subst this
    exact .inl rfl
  · refine .inr ⟨b', off, h, fun i x hx => hh i x ?_⟩
    rw [List.map_map] at hx
    simp only [List.getElem?_map] at hx ⊢
    rcases Nat.lt_or_ge i q.toNat with hi | hi
    · rw [List.getElem?_range hi] at hx
      rw [List.getElem?_range (by omega)]; exact hx
    · rw [List.getElem?_eq_none (by simpa using hi)] at hx; cases hx

/-! ### a range over a string -/

def iterC (b : Nat) (s : List UInt8) (k : Nat) : Chunk where
  P S w := (∀ x, S x ↔ x = b) ∧ w.heap[b]? = some (.stringIter ⟨s.toArray⟩ k)
  loc S w w' h hp := ⟨hp.1, by rw [h b ((hp.1 b).2 rfl)]; exact hp.2⟩

theorem makes_range {X : Operand} {t d : Nat} {s : List UInt8} {rds : List Nat} (ht : P.underlying t = some .string) (hx : ev e X = str s) :
    Makes P cx e ⟨some d, .range t X, ty, pos, af, g⟩ L rds (fun b : Nat => .pointer (some ⟨b, 0, none⟩)) (fun b => iterC b s 0) := fun w L' hF hS _ => by
  unfold RunsTo
  have hr : (execOp (ev e) ⟨some d, .range t X, ty, pos, af, g⟩).run P w = .ok (.value (.pointer (some ⟨w.heap.size, 0, none⟩))) (w.alloc (.stringIter ⟨s.toArray⟩ 0)) := by
    simp [execOp, Instr.range, hx, run_underlying ht, newObj, Sem.run]
  rw [hr]
  have gr := grow_alloc w (.stringIter ⟨s.toArray⟩ 0)
  exact ⟨w.heap.size, rfl, gr.os, gr.tape, gr.output, gr.size, fun b hb _ => gr.block b hb, fun x => x = w.heap.size, ⟨fun _ => Iff.rfl, heap_alloc_new w _⟩, fun b hb => by subst hb; exact ⟨by simp, .inr (Nat.le_refl _)⟩⟩

theorem turns_next {X : Operand} {d i b k : Nat} {s : List UInt8} {c : Int} {rds : List Nat} (hL : L[i]? = some (iterC b s k)) (hx : ev e X = .pointer (some ⟨b, 0, none⟩)) (hg : gNx s k = some c) :
    Turns P cx e ⟨some d, .next X true, ty, pos, af, g⟩ L i rds (fun _ : Unit => .tuple #[.bool true, .int .i64 (k : Nat), .int .i32 c]) (fun _ => iterC b s (k + 1)) := fun w L' hF hS _ hi' => by
  have hL' := (hi' i (.inr rfl)).trans hL
  obtain ⟨hk, hc, rfl⟩ := gNx_some hg
  obtain ⟨S, hp, hb⟩ := hS.at hL'
  have hh := hp.2
  have hlt : b < w.heap.size := (Array.getElem?_eq_some_iff.1 hh).1
  have hw' : (execOp (ev e) ⟨some d, .next X true, ty, pos, af, g⟩).run P w = .ok (.value (.tuple #[.bool true, .int .i64 (k : Nat), .int .i32 ((s[k]).toNat : Nat)])) { w with heap := w.heap.setIfInBounds b (.stringIter ⟨s.toArray⟩ (k + 1)) } := by
    have hs : k < (⟨s.toArray⟩ : ByteArray).size := by simpa [ByteArray.size] using hk
    have e : (⟨s.toArray⟩ : ByteArray)[k]'hs = s[k] := by show s.toArray[k] = s[k]; simp
    have hd := decode_ascii (⟨s.toArray⟩ : ByteArray) k hs (by rw [e]; exact hc)
    simp only [execOp, hx, Instr.next, getObj, setObj, Sem.run_bind, Sem.run, hh, Result.andThen, hs, if_true, hd]
    simp [goInt, Sem.run, hh, e]
  unfold RunsTo
  rw [hw']
  have hS' := hS.turnOf (w' := { w with heap := w.heap.setIfInBounds b (.stringIter ⟨s.toArray⟩ (k + 1)) }) hF hL' (C := iterC b s (k + 1)) fun S1 hp1 =>
    ⟨rfl, rfl, rfl, by simp, fun x _ hx => by rw [Array.getElem?_setIfInBounds_ne (fun h => hx ((hp1.1 x).2 h.symm))], S1, ⟨hp1.1, by simp [hlt]⟩, fun x hx => ⟨by rw [(hp1.1 x).1 hx]; simpa using hlt, .inl hx⟩⟩
  exact ⟨(), rfl, hS'.1, hS'.2⟩

theorem r_nextOver {X : Operand} {i b k : Nat} {s : List UInt8} {w : World} (hS : Sat cx w L) (hL : L[i]? = some (iterC b s k)) (hx : ev e X = .pointer (some ⟨b, 0, none⟩)) (hk : decide (k < s.length) = false) :
    (execOp (ev e) ⟨d, .next X true, ty, pos, af, g⟩).run P w = .ok (.value (.tuple #[.bool false])) w := by
  obtain ⟨S, hp, _⟩ := hS.at hL
  have hh := hp.2
  have hk' : ¬ k < s.length := of_decide_eq_false hk
  have hs : ¬ k < (⟨s.toArray⟩ : ByteArray).size := by simpa [ByteArray.size] using hk'
  simp only [execOp, hx, Instr.next, getObj, Sem.run_bind, Sem.run, hh, Result.andThen, hs, if_false]
  simp [Sem.run]

end ops
end Go.Lx
