/- Rules: strings.Builder, as a chunk that holds octets. Conditions: none. -/
import Derived.Test.YthhaabhnlndnoaaGreatLx12
import Derived.Test.YthhaabhnlndnoaaGreatMd4
import Derived.Lib.UnsafeStr
import Derived.Lib.Builder
import Derived.Laws.Pointers
namespace Go.Lx
open Go Go.Vc Go.Md

abbrev e8 (x : Int) : List Value := [.int .u8 x]

/-- A builder of the call's own: its box (what 'addr' holds is nil or the box itself) and its row. -/
def bldC (b T E : Nat) (bs : List UInt8) : Chunk where
  P S w := ∃ (q : Value) (p : Option Addr × Nat), (q = .pointer none ∨ q = .pointer (some ⟨b, 0, none⟩)) ∧ (p = (none, 0) ∨ p.2 ≠ 0) ∧
    (bothC (cellsC b [q, .slice p.1 (ofStr bs).length p.2] T) (rowV E 1 (.slice p.1 (ofStr bs).length p.2) (ofStr bs).length ((ofStr bs).map e8))).P S w
  loc S w w' h := by
    rintro ⟨q, p, hq, hp, hc⟩
    exact ⟨q, p, hq, hp, Chunk.loc _ _ _ _ h hc⟩

theorem imp_bldNew (b T E : Nat) : Imp (cellsC b [.pointer none, .slice none 0 0] T) (bldC b T E []) := ⟨fun S w h =>
  ⟨.pointer none, (none, 0), .inl rfl, .inl rfl, S, fun _ => False, h, ⟨⟨World.ownsRow_nil _ _ _ _, rfl, by simp [ofStr]⟩, by simp [Value.ownBlock]⟩, fun _ h => h, fun _ h => h.elim, fun _ _ h => h⟩⟩

theorem row_cap {E n : Nat} {p : Option Addr × Nat} {xs : List (List Value)} {S : Nat → Prop} {w : World} (h : (rowV E 1 (.slice p.1 n p.2) n xs).P S w) (hn : n ≠ 0) : p.2 ≠ 0 := by
  rcases h.1.1.2 with ⟨_, h0⟩ | ⟨g, cap, cur, hv, _, _, hc, _⟩
  · exact absurd h0 hn
  · simp only [Value.slice.injEq] at hv; omega

theorem imp_bld {b T E : Nat} {p : Option Addr × Nat} {bs : List UInt8} (hb : bs ≠ []) : Imp (bothC (cellsC b [.pointer (some ⟨b, 0, none⟩), .slice p.1 (ofStr bs).length p.2] T) (rowV E 1 (.slice p.1 (ofStr bs).length p.2) (ofStr bs).length ((ofStr bs).map e8))) (bldC b T E bs) := ⟨fun S w h => by
  refine ⟨_, p, .inr rfl, .inr ?_, h⟩
  obtain ⟨S1, S2, _, h2, _⟩ := h
  exact row_cap h2 (by simpa [ofStr] using hb)⟩

section rules
variable {P : Program} {n : Nat} {cx : Cx} {Q : Post} {K : Env → World → Prop} {e : Env} {L : List Chunk} {ops : Array Oper} {F : Env → List Chunk → Prop} {rest : List Oper} {ss : List Kd} {d : Nat} {ty : TypeId} {pos : String} {af : Array Edge} {g : Option (Nat × Bool)}

theorem c_bld (i : Nat) {b T E : Nat} {bs : List UInt8} (hL : L[i]? = some (bldC b T E bs))
    (k : ∀ (q : Value) (p : Option Addr × Nat), (q = .pointer none ∨ q = .pointer (some ⟨b, 0, none⟩)) → (p = (none, 0) ∨ p.2 ≠ 0) →
      At cx K e (L.set i (bothC (cellsC b [q, .slice p.1 (ofStr bs).length p.2] T) (rowV E 1 (.slice p.1 (ofStr bs).length p.2) (ofStr bs).length ((ofStr bs).map e8))))) : At cx K e L :=
  ⟨fun w hF hS => by
    obtain ⟨fp, h1, h2, h3⟩ := hS.out
    obtain ⟨q, p, hq, hp, hc⟩ := h1 i _ hL
    have hil : i < L.length := by
      rcases Nat.lt_or_ge i L.length with h | h
      · exact h
      · simp [List.getElem?_eq_none h] at hL
    refine (k q p hq hp).out w hF ⟨fp, fun j c hj => ?_, fun j b hb => by simpa using h2 j b hb, h3⟩
    by_cases hji : j = i
    · subst hji
      rw [List.getElem?_set_self hil] at hj
      cases hj
      exact hc
    · rw [List.getElem?_set_ne (fun h => hji h.symm)] at hj
      exact h1 j c hj⟩

section ops
theorem r_nilP {dd : Option Nat} {X Y : Operand} {t t' u : TypeId} {a : Option Addr} (ht : P.underlying t = some (.pointer u)) (hx : ev e X = .pointer a) (hy : ev e Y = .pointer none) (w : World) :
    (execOp (ev e) ⟨dd, .binOp .eql t X Y t', ty, pos, af, g⟩).run P w = .ok (.value (.bool a.isNone)) w := by
  have hp : P.underlying t = some (.pointer (P.pointee t)) := by simp [Program.pointee, ht]
  have h0 := run_eql_pointer_nil (P := P) (w := w) t a hp
  simp only [execOp, hx, hy, eqGuard, Sem.run_bind, Sem.run_pure, Result.andThen_ok, h0, Bool.not_true, Bool.false_eq_true, if_false]

theorem r_sameP {dd : Option Nat} {X Y : Operand} {t t' u : TypeId} {a : Addr} {j : TypeInfo} (ht : P.underlying t = some (.pointer u)) (hu : P.info? u = some j) (hx : ev e X = .pointer (some a)) (hy : ev e Y = .pointer (some a)) (w : World) :
    (execOp (ev e) ⟨dd, .binOp .neq t X Y t', ty, pos, af, g⟩).run P w = .ok (.value (.bool false)) w := by
  have h0 := Lib.run_neq_ptr_same (P := P) w (tp := t) a ht hu
  simp only [execOp, hx, hy, eqGuard, Sem.run_bind, Sem.run_pure, Result.andThen_ok, h0, Bool.not_true, Bool.false_eq_true, if_false]

/-- A pointer as an unsafe one, and back, at the head of a box. -/
theorem run_toU {dd : Option Nat} {X : Operand} {src dst t T b : TypeId} {j : TypeInfo} {cs : List Value} {w : World} (hs : P.underlying src = some (.pointer t)) (hd : P.underlying dst = some .unsafePointer) (ht : P.info? t = some j) (hj : j.size ≠ 0)
    (hb : w.heap[b]? = some (.cells cs.toArray T (0, 0))) (hcs : Nat.blt 0 cs.length = true) (hx : ev e X = .pointer (some ⟨b, 0, none⟩)) :
    (execOp (ev e) ⟨dd, .convert src dst X, ty, pos, af, g⟩).run P w = .ok (.value (.pointer (some ⟨b, 0, none⟩))) w := by
  have h0 := Lib.run_to_unsafe (P := P) (w := w) (cells := cs.length) ⟨b, 0, none⟩ hs hd ht hj (e := T) (by simp [World.shape?, hb]) (by simpa using hcs)
  simp only [execOp, hx, Sem.run_bind, h0, Result.andThen_ok, Sem.run_pure]

theorem run_fromU {dd : Option Nat} {X : Operand} {src dst u T b : TypeId} {j : TypeInfo} {cs : List Value} {w : World} (hs : P.underlying src = some .unsafePointer) (hd : P.underlying dst = some (.pointer u)) (hu : P.info? u = some j)
    (hb : w.heap[b]? = some (.cells cs.toArray T (0, 0))) (hlies : liesAt P P.depth T (cs.length / P.cellsOf T) 0 u 1 = true) (hx : ev e X = .pointer (some ⟨b, 0, none⟩)) :
    (execOp (ev e) ⟨dd, .convert src dst X, ty, pos, af, g⟩).run P w = .ok (.value (.pointer (some ⟨b, 0, none⟩))) w := by
  have h0 := Lib.run_from_unsafe (P := P) (w := w) (cells := cs.length) ⟨b, 0, none⟩ hs hd hu (e := T) (by simp [World.shape?, hb]) hlies
  simp only [execOp, hx, Sem.run_bind, h0, Result.andThen_ok, Sem.run_pure]

/-- unsafe.SliceData of a builder's buffer. -/
theorem r_ssd {dd : Option Nat} {X : Operand} {tys : Array TypeId} {p : Option Addr × Nat} {m : Nat} (hp : p = (none, 0) ∨ p.2 ≠ 0) (hx : ev e X = .slice p.1 m p.2) (w : World) :
    (execOp (ev e) ⟨dd, .call ⟨.builtin .unsafeSliceData, #[X], tys⟩, ty, pos, af, g⟩).run P w = .ok (.value (.pointer p.1)) w := by
  have h0 : (Builtin.unsafeSliceData_ tys ty #[.slice p.1 m p.2]).run P w = .ok (.pointer p.1) w := by
    rcases hp with rfl | hp
    · exact Lib.run_unsafeSliceData_nil _ _ _ _ _
    · obtain ⟨a, c⟩ := p
      cases a with
      | none => exact Lib.run_unsafeSliceData_nil _ _ _ _ _
      | some a => exact Lib.run_unsafeSliceData_row _ _ _ _ _ _ hp
  simp only [execOp, resolve, invoke, builtin, Sem.run_bind, Sem.run_pure, Result.andThen_ok, List.map_toArray, List.map_cons, List.map_nil, hx, h0]
end ops

theorem e8_flat (bs : List UInt8) : ((ofStr bs).map e8).flatten = bs.map fun c => Value.int .u8 (c.toNat : Int) := by
  induction bs with
  | nil => rfl
  | cons c r ih =>
    simp only [ofStr, List.map_cons, List.flatten_cons] at ih ⊢
    rw [ih]; rfl

/-- unsafe.String of a builder's buffer. -/
theorem turns_ustr {X Y : Operand} {i pt it E : TypeId} {p : Option Addr × Nat} {bs : List UInt8} {rds : List Nat} (hpt : P.underlying pt = some (.pointer E)) (hc : P.cellsOf E = 1)
    (hL : L[i]? = some (rowV E 1 (.slice p.1 (ofStr bs).length p.2) (ofStr bs).length ((ofStr bs).map e8))) (hx : ev e X = .pointer p.1) (hy : ev e Y = .int .i64 ((ofStr bs).length : Nat)) :
    Turns P cx e ⟨some d, .call ⟨.builtin .unsafeString, #[X, Y], #[pt, it]⟩, ty, pos, af, g⟩ L i rds (fun _ : Unit => str bs) (fun _ => empC) := fun w L' hF hS _ hi' => by
  have hL' := (hi' i (.inr rfl)).trans hL
  obtain ⟨S0, ⟨⟨ho, _⟩, hob⟩, _⟩ := hS.at hL'
  have hlen : (ofStr bs).length = bs.length := by simp [ofStr]
  have key : ∃ w', (Builtin.unsafeString_ #[pt, it] ty #[.pointer p.1, .int .i64 ((ofStr bs).length : Nat)]).run P w = .ok (str bs) w' ∧ ∀ S : Nat → Prop, (rowV E 1 (.slice p.1 (ofStr bs).length p.2) (ofStr bs).length ((ofStr bs).map e8)).P S w → Turn w w' S empC := by
    by_cases h0 : bs = []
    · subst h0
      refine ⟨w, Lib.run_unsafeString_none w pt it ty p.1, fun S _ => ⟨rfl, rfl, rfl, Nat.le_refl _, fun _ _ _ => rfl, fun _ => False, fun _ h => h, fun _ h => h.elim⟩⟩
    · rcases ho.2 with ⟨_, hz⟩ | ⟨g0, cap, cur, hv, _, hh, hnc, hm, hcs, ht⟩
      · rw [hlen] at hz; exact absurd (List.eq_nil_of_length_eq_zero hz) h0
      · simp only [Value.slice.injEq, true_and] at hv
        obtain ⟨hp1, hp2⟩ := hv
        rw [hp1, hlen]
        have hcell : ∀ (j : Nat) (x : UInt8), bs[j]? = some x → w.cell? ((⟨g0, 0, none⟩ : Addr).add j) = some (.int .u8 x.toNat) := fun j x hj => by
          rw [e8_flat] at ht
          have hjl : j < bs.length := by
            rcases Nat.lt_or_ge j bs.length with h | h
            · exact h
            · rw [List.getElem?_eq_none h] at hj; cases hj
          have h1 : (cur.toList.take ((ofStr bs).length * 1))[j]? = some (.int .u8 (x.toNat : Int)) := by rw [ht]; simp [hj]
          rw [List.getElem?_take, if_pos (by rw [hlen]; omega)] at h1
          rw [Addr.add_lit]
          simp only [World.cell?, hh, Nat.zero_add]
          simpa using h1
        have hr := Lib.run_unsafeString_row (P := P) w pt it ty E hpt hc g0 cur.size (by simp [World.shape?, hh]) bs h0 (by rw [hcs]; omega) (by simp only [maxLen] at hm; omega) hcell
        have hg : ∀ S : Nat → Prop, (rowV E 1 (.slice (some ⟨g0, 0, none⟩) bs.length p.2) bs.length ((ofStr bs).map e8)).P S w → S g0 := fun S hS => hS.2 g0 rfl
        have hn0 : ¬ bs.length = 0 := fun h => h0 (List.eq_nil_of_length_eq_zero h)
        refine ⟨_, hr, fun S hS => ⟨by simp [World.freeze, h0], by simp [World.freeze, h0], by simp [World.freeze, h0], by simp [World.freeze, h0], fun k hk hn => ?_, fun _ => False, fun _ h => h, fun _ h => h.elim⟩⟩
        have hne : ¬ g0 = k := fun h => hn (h ▸ hg S hS)
        simp [World.freeze, Array.getElem?_modify, hne, h0]
  obtain ⟨w', hr, ht⟩ := key
  obtain ⟨hF', hS'⟩ := hS.turnOf hF hL' ht
  have he : (execOp (ev e) ⟨some d, .call ⟨.builtin .unsafeString, #[X, Y], #[pt, it]⟩, ty, pos, af, g⟩).run P w = .ok (.value (str bs)) w' := by
    simp only [execOp, resolve, invoke, builtin, Sem.run_bind, Sem.run_pure, Result.andThen_ok, List.map_toArray, List.map_cons, List.map_nil, hx, hy, hr]
  unfold RunsTo
  rw [he]
  exact ⟨(), rfl, hF', hS'⟩

end rules
end Go.Lx
