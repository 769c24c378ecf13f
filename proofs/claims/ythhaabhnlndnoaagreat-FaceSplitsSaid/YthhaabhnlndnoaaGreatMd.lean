/- Models: partial functions in plain Lean that stand for Go functions, the guards of single operations, and one way to loop and to recur. Conditions: none. -/
namespace Go.Md

/-- One step, then the rest. -/
def bnd {α β : Type} (m : Option α) (k : α → Option β) : Option β :=
  match m with
  | some a => k a
  | none => none

theorem bnd_some {α β : Type} {m : Option α} {k : α → Option β} {r : β} (h : bnd m k = some r) : ∃ a, m = some a ∧ k a = some r := by
  cases m with
  | none => cases h
  | some a => exact ⟨a, rfl, h⟩

theorem bnd_of {α β : Type} {m : Option α} {k : α → Option β} {a : α} (h : m = some a) : bnd m k = k a := by subst h; rfl

@[simp] theorem bnd_pure {α β : Type} (a : α) (k : α → Option β) : bnd (some a) k = k a := rfl
@[simp] theorem bnd_none {α β : Type} (k : α → Option β) : bnd none k = none := rfl

theorem bnd_assoc {α β γ : Type} (m : Option α) (k : α → Option β) (l : β → Option γ) : bnd (bnd m k) l = bnd m fun a => bnd (k a) l := by cases m <;> rfl

/-- The value, where there is one. -/
def val {α : Type} [Inhabited α] (m : Option α) : α := m.getD default

theorem bnd_val {α β : Type} [Inhabited α] {m : Option α} {k : α → Option β} {r : β} (h : bnd m k = some r) : m = some (val m) := by
  cases m with
  | none => cases h
  | some a => rfl
theorem bnd_rest {α β : Type} [Inhabited α] {m : Option α} {k : α → Option β} {r : β} (h : bnd m k = some r) : k (val m) = some r := by
  cases m with
  | none => cases h
  | some a => exact h

/-- Two ways. -/
def cnd {α : Type} (b : Bool) (x y : Option α) : Option α := match b with | true => x | false => y

theorem cnd_t {α : Type} {b : Bool} {x y : Option α} {r : Option α} (hb : b = true) (h : cnd b x y = r) : x = r := by subst hb; exact h
theorem cnd_f {α : Type} {b : Bool} {x y : Option α} {r : Option α} (hb : b = false) (h : cnd b x y = r) : y = r := by subst hb; exact h
@[simp] theorem cnd_true {α : Type} (x y : Option α) : cnd true x y = x := rfl
@[simp] theorem cnd_false {α : Type} (x y : Option α) : cnd false x y = y := rfl
theorem cnd_if {α : Type} (p : Prop) [Decidable p] (x y : Option α) : cnd (decide p) x y = if p then x else y := by
  by_cases h : p <;> simp [h]

/-! ### loops and recursion -/

def it {α ρ : Type} (F : (α → Option ρ) → α → Option ρ) : Nat → α → Option ρ
  | 0, _ => none
  | n + 1, a => F (it F n) a

open Classical in
/-- What all long enough unrollings agree on. -/
noncomputable def fix {α ρ : Type} (F : (α → Option ρ) → α → Option ρ) (a : α) : Option ρ :=
  if h : ∃ r k, ∀ n, k ≤ n → it F n a = some r then some (Classical.choose h) else none

theorem fix_it {α ρ : Type} {F : (α → Option ρ) → α → Option ρ} {a : α} {r : ρ} (h : fix F a = some r) : ∃ n, it F n a = some r := by
  unfold fix at h
  split at h
  · rename_i hh
    cases h
    obtain ⟨k, hk⟩ := Classical.choose_spec hh
    exact ⟨k, hk k (Nat.le_refl _)⟩
  · cases h

theorem fix_ev {α ρ : Type} {F : (α → Option ρ) → α → Option ρ} {a : α} {o : Option ρ} {k : Nat} (h : ∀ n, k ≤ n → it F n a = o) : fix F a = o := by
  unfold fix
  cases o with
  | some r =>
    have hh : ∃ r k, ∀ n, k ≤ n → it F n a = some r := ⟨r, k, h⟩
    rw [dif_pos hh]
    obtain ⟨k', hk'⟩ := Classical.choose_spec hh
    have h1 := hk' (max k k') (Nat.le_max_right _ _)
    rw [h _ (Nat.le_max_left _ _)] at h1
    exact h1.symm
  | none =>
    rw [dif_neg]
    rintro ⟨r, k', hk'⟩
    have h1 := hk' (max k k') (Nat.le_max_right _ _)
    rw [h _ (Nat.le_max_left _ _)] at h1
    cases h1

/-- A loop, or a recursion, does what 'spec' says: by induction over a measure. -/
theorem fix_of {α ρ : Type} {F : (α → Option ρ) → α → Option ρ} (spec : α → Option ρ) (I : α → Prop) (μ : α → Nat)
    (step : ∀ (next : α → Option ρ) (a : α), I a → (∀ b, I b → μ b < μ a → next b = spec b) → F next a = spec a) (a : α) (ha : I a) : fix F a = spec a := by
  have key : ∀ (n : Nat) (a : α), I a → μ a < n → it F n a = spec a := by
    intro n
    induction n with
    | zero => intro a _ h; omega
    | succ n ih => intro a ha h; exact step _ a ha fun b hb hlt => ih b hb (by omega)
  exact fix_ev (k := μ a + 1) fun n hn => key n a ha (by omega)

theorem it_ev {α ρ : Type} {F : (α → Option ρ) → α → Option ρ} {a b : α} (h : ∀ next, F next a = next b) : fix F a = fix F b := by
  by_cases hb : ∃ r k, ∀ n, k ≤ n → it F n b = some r
  · obtain ⟨r, k, hk⟩ := hb
    rw [fix_ev (o := some r) (k := k) hk, fix_ev (o := some r) (k := k + 1)]
    intro n hn
    cases n with
    | zero => omega
    | succ n => show F (it F n) a = some r; rw [h]; exact hk n (by omega)
  · have ha : ¬ ∃ r k, ∀ n, k ≤ n → it F n a = some r := by
      rintro ⟨r, k, hk⟩
      exact hb ⟨r, k, fun n hn => by have := hk (n + 1) (by omega); rw [show it F (n + 1) a = F (it F n) a from rfl, h] at this; exact this⟩
    unfold fix
    rw [dif_neg hb, dif_neg ha]

/-- One round of a loop. -/
theorem fix_goto {α ρ : Type} {F : (α → Option ρ) → α → Option ρ} {a : α} (b : α) (h : ∀ next, F next a = next b) : fix F a = fix F b := it_ev h
/-- The last round. -/
theorem fix_done {α ρ : Type} {F : (α → Option ρ) → α → Option ρ} {a : α} {o : Option ρ} (h : ∀ next, F next a = o) : fix F a = o :=
  fix_ev (k := 1) fun n hn => by
    cases n with
    | zero => omega
    | succ n => exact h _

/-- The same with a bare 'fix' on the other side: two loops that do the same. -/
theorem fix_congr {α ρ : Type} {F G : (α → Option ρ) → α → Option ρ} (h : ∀ next a, F next a = G next a) : fix F = fix G := by
  have : F = G := by funext next a; exact h next a
  rw [this]

/-! ### guards -/

/-- A whole number of 64 bits. -/
def gI (x : Int) : Option Int := if -9223372036854775808 ≤ x ∧ x ≤ 9223372036854775807 then some x else none
theorem gI_some {x y : Int} (h : gI x = some y) : y = x ∧ -9223372036854775808 ≤ x ∧ x ≤ 9223372036854775807 := by
  unfold gI at h; split at h
  · cases h; exact ⟨rfl, ‹_›⟩
  · cases h
theorem gI_ok {x : Int} (h : -9223372036854775808 ≤ x ∧ x ≤ 9223372036854775807) : gI x = some x := if_pos h

def gQuo (x y : Int) : Option Int := if y = 0 then none else gI (x.tdiv y)
theorem gQuo_some {x y z : Int} (h : gQuo x y = some z) : y ≠ 0 ∧ z = x.tdiv y ∧ -9223372036854775808 ≤ x.tdiv y ∧ x.tdiv y ≤ 9223372036854775807 := by
  unfold gQuo at h; split at h
  · cases h
  · exact ⟨‹_›, gI_some h⟩
theorem gQuo_ok {x y : Int} (hy : y ≠ 0) (h : -9223372036854775807 ≤ x ∧ x ≤ 9223372036854775807) : gQuo x y = some (x.tdiv y) := by
  unfold gQuo
  rw [if_neg hy, gI_ok]
  have h := Int.natAbs_tdiv_le_natAbs x y
  omega
theorem gQuo_nn {x y : Int} (hy : 0 < y) (h : 0 ≤ x ∧ x ≤ 9223372036854775807) : gQuo x y = some (x / y) := by
  rw [gQuo_ok (by omega) (by omega), Int.tdiv_eq_ediv_of_nonneg h.1]

def gRem (x y : Int) : Option Int := if y = 0 then none else some (x.tmod y)
theorem gRem_some {x y z : Int} (h : gRem x y = some z) : y ≠ 0 ∧ z = x.tmod y := by
  unfold gRem at h; split at h
  · cases h
  · cases h; exact ⟨‹_›, rfl⟩
theorem gRem_ok {x y : Int} (hy : y ≠ 0) : gRem x y = some (x.tmod y) := if_neg hy
theorem gRem_nn {x y : Int} (hy : 0 < y) (h : 0 ≤ x) : gRem x y = some (x % y) := by
  rw [gRem_ok (by omega), Int.tmod_eq_emod_of_nonneg h]

/-- An element. -/
def gAt {α : Type} (xs : List α) (i : Int) : Option α := if 0 ≤ i then xs[i.toNat]? else none
theorem gAt_some {α : Type} {xs : List α} {i : Int} {x : α} (h : gAt xs i = some x) : 0 ≤ i ∧ i.toNat < xs.length ∧ xs[i.toNat]? = some x := by
  unfold gAt at h; split at h
  · refine ⟨‹_›, ?_, h⟩
    rcases Nat.lt_or_ge i.toNat xs.length with h' | h'
    · exact h'
    · rw [List.getElem?_eq_none h'] at h; cases h
  · cases h
theorem gAt_nat {α : Type} {xs : List α} {k : Nat} (h : k < xs.length) : gAt xs (k : Int) = some xs[k] := by
  unfold gAt; rw [if_pos (by omega), Int.toNat_natCast, List.getElem?_eq_getElem h]
theorem gAt_ok {α : Type} {xs : List α} {i : Int} (h0 : 0 ≤ i) (h : i.toNat < xs.length) : gAt xs i = some xs[i.toNat] := by
  unfold gAt; rw [if_pos h0, List.getElem?_eq_getElem h]

/-- Another element at a place. -/
def gSet {α : Type} (xs : List α) (i : Int) (x : α) : Option (List α) := if 0 ≤ i ∧ i.toNat < xs.length then some (xs.set i.toNat x) else none
theorem gSet_some {α : Type} {xs ys : List α} {i : Int} {x : α} (h : gSet xs i x = some ys) : 0 ≤ i ∧ i.toNat < xs.length ∧ ys = xs.set i.toNat x := by
  unfold gSet at h; split at h
  · cases h; exact ⟨‹_ ∧ _›.1, ‹_ ∧ _›.2, rfl⟩
  · cases h
theorem gSet_ok {α : Type} {xs : List α} {i : Int} {x : α} (h0 : 0 ≤ i) (h : i.toNat < xs.length) : gSet xs i x = some (xs.set i.toNat x) := if_pos ⟨h0, h⟩

theorem gSet_n {α : Type} {n : Nat} {xs ys : List α} {i : Int} {x : α} (hn : n = xs.length) (h : gSet xs i x = some ys) : n = ys.length := by
  obtain ⟨_, _, rfl⟩ := gSet_some h; rw [List.length_set]; exact hn

/-- A part of a list or of a string. -/
def gCut {α : Type} (xs : List α) (l h : Int) : Option (List α) := if 0 ≤ l ∧ l ≤ h ∧ h ≤ xs.length then some ((xs.drop l.toNat).take (h.toNat - l.toNat)) else none
theorem gCut_some {α : Type} {xs ys : List α} {l h : Int} (e : gCut xs l h = some ys) : 0 ≤ l ∧ l ≤ h ∧ h ≤ xs.length ∧ ys = (xs.drop l.toNat).take (h.toNat - l.toNat) := by
  unfold gCut at e; split at e
  · cases e; rename_i h; exact ⟨h.1, h.2.1, h.2.2, rfl⟩
  · cases e
theorem gCut_ok {α : Type} {xs : List α} {l h : Int} (h0 : 0 ≤ l ∧ l ≤ h ∧ h ≤ xs.length) : gCut xs l h = some ((xs.drop l.toNat).take (h.toNat - l.toNat)) := if_pos h0
theorem gCut_to {α : Type} {xs : List α} {h : Int} (h0 : 0 ≤ h ∧ h ≤ xs.length) : gCut xs 0 h = some (xs.take h.toNat) := by rw [gCut_ok ⟨by omega, h0⟩]; simp
theorem gCut_from {α : Type} {xs : List α} {l : Int} (h0 : 0 ≤ l ∧ l ≤ xs.length) : gCut xs l xs.length = some (xs.drop l.toNat) := by
  rw [gCut_ok ⟨h0.1, h0.2, by omega⟩, List.take_of_length_le (by simp)]

/-- An octet of a string. -/
def gOct (s : List UInt8) (i : Int) : Option Int := if 0 ≤ i then (s[i.toNat]?).map fun c => (c.toNat : Int) else none
theorem gOct_some {s : List UInt8} {i c : Int} (h : gOct s i = some c) : 0 ≤ i ∧ i < s.length ∧ c = ((s.getD i.toNat 0).toNat : Nat) := by
  unfold gOct at h; split at h
  · rename_i h0
    rcases Nat.lt_or_ge i.toNat s.length with h' | h'
    · rw [List.getElem?_eq_getElem h'] at h
      simp only [Option.map_some, Option.some.injEq] at h
      refine ⟨h0, by omega, ?_⟩
      rw [← h, List.getD_eq_getElem?_getD, List.getElem?_eq_getElem h']; rfl
    · rw [List.getElem?_eq_none h'] at h; cases h
  · cases h
theorem gOct_nat {s : List UInt8} {k : Nat} (h : k < s.length) : gOct s (k : Int) = some (s[k].toNat : Int) := by
  unfold gOct; rw [if_pos (by omega), Int.toNat_natCast, List.getElem?_eq_getElem h]; rfl
theorem gOct_ok {s : List UInt8} {i : Int} (h0 : 0 ≤ i) (h : i.toNat < s.length) : gOct s i = some (s[i.toNat].toNat : Int) := by
  unfold gOct; rw [if_pos h0, List.getElem?_eq_getElem h]; rfl

/-- Two strings, one behind the other. -/
def gCat (a b : List UInt8) : Option (List UInt8) := if a.length + b.length ≤ 9223372036854775807 then some (a ++ b) else none
theorem gCat_some {a b c : List UInt8} (h : gCat a b = some c) : c = a ++ b ∧ a.length + b.length ≤ 9223372036854775807 := by
  unfold gCat at h; split at h
  · cases h; exact ⟨rfl, ‹_›⟩
  · cases h
theorem gCat_ok {a b : List UInt8} (h : a.length + b.length ≤ 9223372036854775807) : gCat a b = some (a ++ b) := if_pos h

/-- append: the elements take 'by' bytes each. -/
def gApp {α : Type} (by_ : Nat) (xs ys : List α) : Option (List α) := if xs.length + ys.length ≤ 140737488355328 ∧ (xs.length + ys.length) * by_ ≤ 140737488355328 then some (xs ++ ys) else none
theorem gApp_some {α : Type} {by_ : Nat} {xs ys zs : List α} (h : gApp by_ xs ys = some zs) : zs = xs ++ ys ∧ xs.length + ys.length ≤ 140737488355328 ∧ (xs.length + ys.length) * by_ ≤ 140737488355328 := by
  unfold gApp at h; split at h
  · cases h; exact ⟨rfl, ‹_›⟩
  · cases h
theorem gApp_ok {α : Type} {by_ : Nat} {xs ys : List α} (h : xs.length + ys.length ≤ 140737488355328 ∧ (xs.length + ys.length) * by_ ≤ 140737488355328) : gApp by_ xs ys = some (xs ++ ys) := if_pos h

/-- append, with the room that a machine has for what came in and a little more. -/
def gApL {α : Type} (by_ : Nat) (xs ys : List α) : Option (List α) := if xs.length + ys.length ≤ 140739635838976 ∧ (xs.length + ys.length) * by_ ≤ 140739635838976 then some (xs ++ ys) else none
theorem gApL_some {α : Type} {by_ : Nat} {xs ys zs : List α} (h : gApL by_ xs ys = some zs) : zs = xs ++ ys ∧ xs.length + ys.length ≤ 140739635838976 ∧ (xs.length + ys.length) * by_ ≤ 140739635838976 := by
  unfold gApL at h; split at h
  · cases h; exact ⟨rfl, ‹_›⟩
  · cases h
theorem gApL_ok {α : Type} {by_ : Nat} {xs ys : List α} (h : xs.length + ys.length ≤ 140739635838976 ∧ (xs.length + ys.length) * by_ ≤ 140739635838976) : gApL by_ xs ys = some (xs ++ ys) := if_pos h

/-- Octets as numbers, and back. -/
def ofStr (s : List UInt8) : List Int := s.map fun c => (c.toNat : Int)
def toStr (xs : List Int) : List UInt8 := xs.map fun x => UInt8.ofNat x.toNat

/-- make: so many zeros. -/
def gMake {α : Type} (by_ : Nat) (n : Int) (z : α) : Option (List α) := if 0 ≤ n ∧ n ≤ 140737488355328 ∧ by_ * n.toNat ≤ 140737488355328 then some (List.replicate n.toNat z) else none
theorem gMake_some {α : Type} {by_ : Nat} {n : Int} {z : α} {zs : List α} (h : gMake by_ n z = some zs) : 0 ≤ n ∧ n ≤ 140737488355328 ∧ by_ * n.toNat ≤ 140737488355328 ∧ zs = List.replicate n.toNat z := by
  unfold gMake at h; split at h
  · cases h; rename_i h; exact ⟨h.1, h.2.1, h.2.2, rfl⟩
  · cases h
theorem gMake_ok {α : Type} {by_ : Nat} {n : Int} {z : α} (h : 0 ≤ n ∧ n ≤ 140737488355328 ∧ by_ * n.toNat ≤ 140737488355328) : gMake by_ n z = some (List.replicate n.toNat z) := if_pos h

/-- Something that must hold. -/
def gIf (p : Prop) [Decidable p] : Option Unit := if p then some () else none
theorem gIf_some {p : Prop} [Decidable p] {u : Unit} (h : gIf p = some u) : p := by
  unfold gIf at h; split at h
  · assumption
  · cases h
theorem gIf_ok {p : Prop} [Decidable p] (h : p) : gIf p = some () := if_pos h

/-! ### numbers of few bits, shifts, arrays -/

def wU8 (x : Int) : Int := x % 256
def wU16 (x : Int) : Int := x % 65536
def wU32 (x : Int) : Int := x % 4294967296
def wU64 (x : Int) : Int := x % 18446744073709551616
def wI8 (x : Int) : Int := if 128 ≤ x % 256 then x % 256 - 256 else x % 256
def wI16 (x : Int) : Int := if 32768 ≤ x % 65536 then x % 65536 - 65536 else x % 65536
def wI32 (x : Int) : Int := if 2147483648 ≤ x % 4294967296 then x % 4294967296 - 4294967296 else x % 4294967296
def wI64 (x : Int) : Int := if 9223372036854775808 ≤ x % 18446744073709551616 then x % 18446744073709551616 - 18446744073709551616 else x % 18446744073709551616

theorem wI64_in {x : Int} (h : -9223372036854775808 ≤ x ∧ x ≤ 9223372036854775807) : wI64 x = x := by unfold wI64; split <;> omega
theorem wU8_in {x : Int} (h : 0 ≤ x ∧ x ≤ 255) : wU8 x = x := by unfold wU8; omega
theorem wU64_in {x : Int} (h : 0 ≤ x ∧ x ≤ 18446744073709551615) : wU64 x = x := by unfold wU64; omega
theorem wU32_in {x : Int} (h : 0 ≤ x ∧ x ≤ 4294967295) : wU32 x = x := by unfold wU32; omega

/-- A whole number of a kind. -/
def gK (lo hi x : Int) : Option Int := if lo ≤ x ∧ x ≤ hi then some x else none
theorem gK_some {lo hi x y : Int} (h : gK lo hi x = some y) : y = x ∧ lo ≤ x ∧ x ≤ hi := by
  unfold gK at h; split at h
  · cases h; exact ⟨rfl, ‹_›⟩
  · cases h
theorem gK_ok {lo hi x : Int} (h : lo ≤ x ∧ x ≤ hi) : gK lo hi x = some x := if_pos h

def gShl (x y : Int) : Option Int := if 0 ≤ y ∧ y < 64 then gI (x * 2 ^ y.toNat) else none
theorem gShl_some {x y z : Int} (h : gShl x y = some z) : 0 ≤ y ∧ y < 64 ∧ z = x * 2 ^ y.toNat ∧ -9223372036854775808 ≤ x * 2 ^ y.toNat ∧ x * 2 ^ y.toNat ≤ 9223372036854775807 := by
  unfold gShl at h; split at h
  · rename_i h0; obtain ⟨h1, h2⟩ := gI_some h; exact ⟨h0.1, h0.2, h1, h2⟩
  · cases h
def gShlW (bits : Nat) (x y : Int) : Option Int := if 0 ≤ y then some (x * 2 ^ min y.toNat bits) else none
def gShr (bits : Nat) (x y : Int) : Option Int := if 0 ≤ y then some (x / 2 ^ min y.toNat bits) else none

def bAnd (bits : Nat) (x y : Int) : Int := ((BitVec.ofInt bits x &&& BitVec.ofInt bits y).toNat : Int)
def bOr (bits : Nat) (x y : Int) : Int := ((BitVec.ofInt bits x ||| BitVec.ofInt bits y).toNat : Int)
def bXor (bits : Nat) (x y : Int) : Int := ((BitVec.ofInt bits x ^^^ BitVec.ofInt bits y).toNat : Int)

/-- Sums and differences of 128 bits, half by half. -/
def gAdd64 (x y c : Int) : Option (Int × Int) := if 0 ≤ x ∧ 0 ≤ y ∧ 0 ≤ c ∧ c ≤ 1 then some ((x + y + c) % 18446744073709551616, (x + y + c) / 18446744073709551616) else none
def gSub64 (x y b : Int) : Option (Int × Int) := if 0 ≤ x ∧ 0 ≤ y ∧ y + b ≤ x + 18446744073709551616 ∧ 0 ≤ b ∧ b ≤ 1 then some ((x + 18446744073709551616 - y - b) % 18446744073709551616, if x < y + b then 1 else 0) else none

/-- An index of an array. -/
def gIx (n : Nat) (i : Int) : Option Nat := if 0 ≤ i ∧ i < n then some i.toNat else none
theorem gIx_some {n k : Nat} {i : Int} (h : gIx n i = some k) : 0 ≤ i ∧ i < n ∧ k = i.toNat := by
  unfold gIx at h; split at h
  · cases h; rename_i h; exact ⟨h.1, h.2, rfl⟩
  · cases h
theorem gIx_lt {n k : Nat} {i : Int} (h : gIx n i = some k) : k < n := by
  obtain ⟨h0, h1, rfl⟩ := gIx_some h; omega
theorem gIx_nat {n k : Nat} (h : k < n) : gIx n (k : Int) = some k := by unfold gIx; rw [if_pos (by omega)]; rfl
theorem gIx_ok {n : Nat} {i : Int} (h : 0 ≤ i ∧ i < n) : gIx n i = some i.toNat := if_pos h

/-- Arrays are functions; their places beyond the end tell nothing. -/
def ofL {α : Type} [Inhabited α] (l : List α) (j : Nat) : α := l.getD j default
def setA {α : Type} (v : Nat → α) (i : Nat) (x : α) (j : Nat) : α := if j = i then x else v j
def eqA {α : Type} (eq : α → α → Bool) (n : Nat) (u v : Nat → α) : Bool := (List.range n).all fun j => eq (u j) (v j)

end Go.Md
