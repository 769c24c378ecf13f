/- The kit's contract of slices.Compact at rows of one's own. Conditions: none. -/
import Derived.Test.YthhaabhnlndnoaaGreatLx16
import Derived.Test.YthhaabhnlndnoaaGreatMd5
import Derived.Shelf.Slices.CompactS
import Derived.Sort.OwnSorted
namespace Go.Vc
open Go Go.Md Go.Shelf Go.Sort Go.Proofs

theorem cmpL_snoc {α : Type} [DecidableEq α] : ∀ (l : List α) (x : α), cmpL (l ++ [x]) = cmpL l ++ (if l.getLast? = some x then [] else [x]) := by
  have key : ∀ (l : List α) (p x : α), cmpFrom p (l ++ [x]) = cmpFrom p l ++ (if (p :: l).getLast? = some x then [] else [x]) := by
    intro l
    induction l with
    | nil =>
      intro p x
      by_cases h : x = p
      · simp [cmpFrom, h]
      · have h' : ¬ p = x := fun e => h e.symm
        simp [cmpFrom, h, h']
    | cons y l ih =>
      intro p x
      by_cases h : y = p
      · subst h
        simp only [List.cons_append, cmpFrom, if_true, ih]
        simp
      · simp only [List.cons_append, cmpFrom, h, if_false, ih]
        simp
  intro l x
  cases l with
  | nil => simp [cmpL, cmpFrom]
  | cons y l => simp only [List.cons_append, cmpL, key]

theorem getLast?_at {α : Type} [Inhabited α] (l : List α) (m : Nat) (hm : m + 1 ≤ l.length) : (l.take (m + 1)).getLast? = some l.toArray[m]! := by
  rw [List.getLast?_eq_getElem?, List.length_take, Nat.min_eq_left hm, List.getElem?_take, if_pos (by omega)]
  have h : m < l.length := by omega
  simp [List.getElem?_eq_getElem h, getElem!_pos, h]

theorem compact_lib {α : Type} [Inhabited α] [DecidableEq α] (l : List α) : Lib.compact l = cmpL l := by
  have key : ∀ m, m ≤ l.length → Lib.compactUpTo l.toArray m = cmpL (l.take m) := by
    intro m
    induction m with
    | zero => intro _; simp [Lib.compactUpTo, cmpL]
    | succ m ih =>
      intro hm
      have h : m < l.length := by omega
      rw [Lib.compactUpTo_succ, ih (by omega), List.take_add_one, List.getElem?_eq_getElem h, Option.toList_some, cmpL_snoc]
      congr 1
      have e : l.toArray[m]! = l[m] := by simp [getElem!_pos, h]
      rw [e]
      cases m with
      | zero => simp [Lib.keeps]
      | succ m =>
        rw [getLast?_at l m (by omega)]
        by_cases hk : l.toArray[m]! = l[m + 1]
        · rw [Lib.keeps_neg (by omega) (by rw [e]; exact hk.symm), hk, if_pos rfl]; rfl
        · rw [Lib.keeps_pos (by rw [e]; exact fun h => hk h.symm), if_pos rfl, if_neg (fun h => hk (Option.some.inj h))]
  have := key l.length (Nat.le_refl _)
  rw [List.take_length] at this
  exact this

theorem cmpL_len {α : Type} [DecidableEq α] (l : List α) : (cmpL l).length ≤ l.length := by
  have key : ∀ (l : List α) (p : α), (cmpFrom p l).length ≤ l.length := by
    intro l
    induction l with
    | nil => intro p; simp [cmpFrom]
    | cons y l ih =>
      intro p
      simp only [cmpFrom]
      split
      · have := ih p; simp only [List.length_cons]; omega
      · have := ih y; simp only [List.length_cons]; omega
  cases l with
  | nil => simp [cmpL]
  | cons y l => have := key l y; simp only [cmpL, List.length_cons]; omega

theorem compact_strs {P : Program} {ρ : Ren} (Ly : Lays.n194 P ρ) {E : TypeId} {a0 r : List (List UInt8)} {p0 : Option Addr × Nat} {n0 : Nat} {w : World} {S : Nat → Prop}
    (hcs : (rowV E 1 (.slice p0.1 n0 p0.2) n0 (a0.map fun x => [encStr x])).P S w) (hlt : ∀ b, S b → b < w.heap.size) (hn0 : n0 = a0.length) (H : gCmpS a0 = some r) :
    Does P (ρ.f 194) (List.toArray [.slice p0.1 n0 p0.2]) w (fun v w' => ∃ x : Option Addr × Nat, v = .slice x.1 r.length x.2 ∧ Turn w w' S (rowV E 1 (.slice x.1 r.length x.2) r.length (r.map fun x => [encStr x]))) := by
  obtain ⟨p, c⟩ := p0
  unfold gCmpS at H
  split at H
  case isFalse => cases H
  rename_i hsz
  cases H
  subst hn0
  have hcs0 := hcs
  obtain ⟨⟨hown, hlen, hall⟩, hb⟩ := hcs
  rw [flat1] at hown
  rcases hown.2 with ⟨h0, h1⟩ | ⟨g, cap, cur, hv, hbase, hh, h1, h2, h3, h4⟩
  · have hnil : a0 = [] := List.eq_nil_of_length_eq_zero h1
    subst hnil
    refine Calls.mono (Any.slices_Compact_string_empty Ly p c w) ?_
    rintro e w' ⟨rfl, rfl⟩
    exact ⟨_, rfl, (p, c), rfl, ⟨rfl, rfl, rfl, Nat.le_refl _, fun _ _ _ => rfl, S, by simpa [cmpL] using hcs0, fun b h => ⟨hlt b h, .inl h⟩⟩⟩
  · simp only [Value.slice.injEq] at hv
    obtain ⟨hv1, -, hv2⟩ := hv
    subst hv1 hv2
    have hgl : g < w.heap.size := (Array.getElem?_eq_some_iff.1 hh).1
    have hH : Holds (encStr) w g 0 a0.toArray := holds_of_block hh (by simpa using h4)
    refine Calls.mono (Any.slices_Compact_string Ly g 0 c a0 w hH (by omega) h1) ?_
    rintro e w' ⟨rfl, q, rfl⟩
    rw [compact_lib]
    have hle := cmpL_len a0
    generalize hz : cmpL a0 = z at hle
    have hts : (z ++ List.replicate (a0.length - z.length) []).length = a0.length := by simp; omega
    have hG := grownBy_sorted (w := w) (g := g) (n := q) (os := #[]) (z ++ List.replicate (a0.length - z.length) []).toArray
    have hR := ownsRow_sorted (base := 0) (w := w) (n := q) (os := #[]) hts (Nat.zero_le _) hh h1 h2 h3
    have hgr : ∀ W : World, Go.Sort.grow W #[] = W := fun W => by cases W; simp [Go.Sort.grow]
    rw [hgr] at hG hR
    obtain ⟨g1, g2, g3, g4, g5⟩ := hG
    have hSg : S g := hb g rfl
    rcases hR.2 with ⟨h0, _⟩ | ⟨g', cap', cur', hv', hbase', hh', k1, k2, k3, k4⟩
    · cases h0
    · simp only [Value.slice.injEq, Option.some.injEq, Addr.mk.injEq, and_true, true_and] at hv'
      obtain ⟨rfl, rfl⟩ := hv'
      refine ⟨_, rfl, (some ⟨g, 0, none⟩, c), rfl, ⟨g1, g2, g3, g4, fun b hbl hnb => g5 b hbl (fun h => hnb (by cases h; exact hSg)), S, ⟨⟨?_, by simp, fun x hx => ?_⟩, fun b h => by cases h; exact hSg⟩, fun b h => ⟨Nat.lt_of_lt_of_le (hlt b h) g4, .inl h⟩⟩⟩
      · rw [flat1]
        refine ⟨by simp, .inr ⟨g, c, cur', rfl, Nat.zero_le _, hh', by omega, k2, k3, ?_⟩⟩
        have := congrArg (List.take z.length) k4
        have e2 : (List.map encStr (z ++ List.replicate (a0.length - z.length) [])).take z.length = z.map encStr := by
          rw [List.map_append, List.take_append_of_le_length (by simp)]; exact List.take_of_length_le (by simp)
        rw [List.take_take, Nat.min_eq_left (by omega), e2] at this
        rw [Nat.mul_one]; exact this
      · obtain ⟨y, _, rfl⟩ := List.mem_map.1 hx
        rfl
end Go.Vc
namespace Go.Lx
open Go Go.Vc
section ops
variable {P : Program} {e : Env} {d : Option Nat} {ty : TypeId} {pos : String} {af : Array Edge} {g : Option (Nat × Bool)}
theorem r_eqlErr {X : Operand} {t : TypeId} (hx : ev e X = .nilIface) (ht : ∀ w, (Op.equalIn Op.maxDepth t .nilIface .nilIface).run P w = .ok true w) {t' : TypeId} (w : World) :
    (execOp (ev e) ⟨d, .binOp .eql t X (.const .nilIface) t', ty, pos, af, g⟩).run P w = .ok (.value (.bool true)) w := by
  have hy : ev e (.const .nilIface) = .nilIface := rfl
  simp [execOp, hx, hy, eqGuard, binOp, Op.equal, ht]
theorem r_neqErr {X : Operand} {t : TypeId} (hx : ev e X = .nilIface) (ht : ∀ w, (Op.equalIn Op.maxDepth t .nilIface .nilIface).run P w = .ok true w) {t' : TypeId} (w : World) :
    (execOp (ev e) ⟨d, .binOp .neq t X (.const .nilIface) t', ty, pos, af, g⟩).run P w = .ok (.value (.bool false)) w := by
  have hy : ev e (.const .nilIface) = .nilIface := rfl
  simp [execOp, hx, hy, eqGuard, binOp, Op.equal, ht]
end ops
end Go.Lx
