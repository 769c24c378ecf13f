/- Places as text and read back; Distance and Between from both ends. Conditions: none. -/
import Derived.Test.YtamacljplianfaaDoorWPe
import Derived.Test.YtamacljplianfaaDoorWEs
namespace Go.M
open Go.Md Go.Pl Go.Vc.Where

theorem cN {α : Type} {p : Prop} [Decidable p] {x y : Option α} (h : ¬ p) : cnd (decide p) x y = y := by rw [cnd_if, if_neg h]
theorem cY {α : Type} {p : Prop} [Decidable p] {x y : Option α} (h : p) : cnd (decide p) x y = x := by rw [cnd_if, if_pos h]

/-! ### octets -/

theorem gIxB_nat (s : List UInt8) (c : UInt8) : gIxB s (c.toNat : Int) = some (ixB s c) := by
  unfold gIxB
  rw [Int.toNat_natCast, show c.toNat.toUInt8 = c from by simp]

/-- What stands before the first c, what behind it, and whether there is one. -/
def cutS (c : UInt8) : List UInt8 → List UInt8 × List UInt8 × Bool
  | [] => ([], [], false)
  | b :: l => if b = c then ([], l, true) else (b :: (cutS c l).1, (cutS c l).2.1, (cutS c l).2.2)

theorem cutS_no {c : UInt8} {s : List UInt8} : (cutS c s).2.2 = false → cutS c s = (s, [], false) := by
  induction s with
  | nil => intro _; rfl
  | cons b l ih =>
    intro h
    unfold cutS at h ⊢
    by_cases hb : b = c
    · rw [if_pos hb] at h; cases h
    · rw [if_neg hb] at h ⊢; rw [ih h]
theorem cutS_yes {c : UInt8} {s : List UInt8} : (cutS c s).2.2 = true → s = (cutS c s).1 ++ c :: (cutS c s).2.1 := by
  induction s with
  | nil => intro h; cases h
  | cons b l ih =>
    intro h
    unfold cutS at h ⊢
    by_cases hb : b = c
    · rw [if_pos hb]; rw [hb]; rfl
    · rw [if_neg hb] at h ⊢
      show b :: l = b :: ((cutS c l).1 ++ c :: (cutS c l).2.1)
      rw [← ih h]
theorem cutS_ix (c : UInt8) (s : List UInt8) : ixB s c = if (cutS c s).2.2 = true then ((cutS c s).1.length : Int) else -1 := by
  induction s with
  | nil => rfl
  | cons b l ih =>
    unfold ixB cutS
    by_cases hb : b = c
    · rw [if_pos hb, if_pos hb]; rfl
    · rw [if_neg hb, if_neg hb, ih]
      by_cases h : (cutS c l).2.2 = true
      · simp only [if_pos h, List.length_cons]
        rw [if_neg (by omega)]; omega
      · simp only [if_neg h, if_true]
theorem cutS_len (c : UInt8) (s : List UInt8) : (cutS c s).1.length + (cutS c s).2.1.length ≤ s.length := by
  by_cases h : (cutS c s).2.2 = true
  · have := congrArg List.length (cutS_yes h); simp at this; omega
  · rw [cutS_no (by simpa using h)]; simp
theorem cutS_at {c : UInt8} {a b : List UInt8} (h : ∀ x ∈ a, x ≠ c) : cutS c (a ++ c :: b) = (a, b, true) := by
  induction a with
  | nil => simp [cutS]
  | cons x a ih =>
    show cutS c (x :: (a ++ c :: b)) = _
    unfold cutS
    rw [if_neg (h x (by simp)), ih fun y hy => h y (by simp [hy])]

theorem Index1_eq (s : List UInt8) (c : UInt8) : internal_stringslite_Index s [c] = some (ixB s c) := by
  unfold internal_stringslite_Index
  rw [cnd_if, if_neg (by simp), cnd_if]
  by_cases h : [c] = s
  · rw [if_pos h, ← h]; simp [ixB]
  · rw [if_neg h, cnd_if, if_pos (show (([c] : List UInt8).length : Int) = 1 from rfl)]
    show bnd (some (c.toNat : Int)) _ = _
    rw [bnd_pure]
    unfold internal_stringslite_IndexByte
    rw [gIxB_nat]; rfl

theorem Cut_eq {s : List UInt8} (hs : s.length ≤ 9223372036854775000) (c : UInt8) : strings_Cut s [c] = some (cutS c s) := by
  unfold strings_Cut internal_stringslite_Cut
  rw [Index1_eq, bnd_pure, cutS_ix]
  by_cases h : (cutS c s).2.2 = true
  · have hl := congrArg List.length (cutS_yes h)
    rw [List.length_append, List.length_cons] at hl
    have e1 : s.take (cutS c s).1.length = (cutS c s).1 := by
      have := List.take_left' (l₁ := (cutS c s).1) (l₂ := c :: (cutS c s).2.1) rfl
      rwa [← cutS_yes h] at this
    have e2 : s.drop ((cutS c s).1.length + 1) = (cutS c s).2.1 := by
      have := List.drop_left' (l₁ := (cutS c s).1 ++ [c]) (l₂ := (cutS c s).2.1) rfl
      rw [List.append_assoc, List.singleton_append, ← cutS_yes h] at this
      simpa using this
    have e4 : (([c] : List UInt8).length : Int) = 1 := rfl
    rw [if_pos h, cnd_if, if_pos (by omega), gCut_to (by omega), bnd_pure, gI_ok (by rw [e4]; omega), bnd_pure, gCut_from (by rw [e4]; omega), bnd_pure, bnd_pure]
    have e3 : (((cutS c s).1.length : Int) + (([c] : List UInt8).length : Int)).toNat = (cutS c s).1.length + 1 := by rw [e4]; omega
    rw [e3, e2, Int.toNat_natCast, e1, ← h]
  · rw [if_neg h, cnd_if, if_neg (by omega), bnd_pure, cutS_no (by simpa using h)]

theorem Pre_eq (s : List UInt8) (c : UInt8) : internal_stringslite_HasPrefix s [c] = some (decide (s.head? = some c)) := by
  unfold internal_stringslite_HasPrefix
  rw [cnd_if]
  cases s with
  | nil => simp
  | cons b l =>
    have e4 : (([c] : List UInt8).length : Int) = 1 := rfl
    rw [if_pos (by rw [e4, List.length_cons]; omega), gCut_to (by rw [e4, List.length_cons]; omega), bnd_pure]
    simp
theorem HasPre_eq (s : List UInt8) (c : UInt8) : strings_HasPrefix s [c] = some (decide (s.head? = some c)) := by
  unfold strings_HasPrefix
  rw [Pre_eq]; rfl
theorem TrimP_eq (s : List UInt8) (c : UInt8) : strings_TrimPrefix s [c] = some (if s.head? = some c then s.tail else s) := by
  unfold strings_TrimPrefix internal_stringslite_TrimPrefix
  rw [Pre_eq, bnd_pure]
  by_cases h : s.head? = some c
  · have h1 : 1 ≤ s.length := by cases s with | nil => cases h | cons => simp
    rw [decide_eq_true h, cnd_true, gCut_from (by rw [show (([c] : List UInt8).length : Int) = 1 from rfl]; omega), bnd_pure, bnd_pure, if_pos h]
    simp [List.drop_one]
  · rw [decide_eq_false h, cnd_false, bnd_pure, if_neg h]

/-! ### digits -/

def dg (c : UInt8) : Bool := decide (48 ≤ c.toNat ∧ c.toNat ≤ 57)
def valS (a : Nat) (l : List UInt8) : Nat := l.foldl (fun n c => n * 10 + (c.toNat - 48)) a
def D10 : List UInt8 := [48, 49, 50, 51, 52, 53, 54, 55, 56, 57]
theorem dg_mem (c : UInt8) : c ∈ D10 ↔ dg c = true := by
  unfold dg
  rw [decide_eq_true_iff]
  constructor
  · intro h
    simp only [D10, List.mem_cons, List.not_mem_nil, or_false] at h
    rcases h with h | h | h | h | h | h | h | h | h | h <;> subst h <;> decide
  · intro h
    have e : c = UInt8.ofNat c.toNat := by simp
    have : c.toNat = 48 ∨ c.toNat = 49 ∨ c.toNat = 50 ∨ c.toNat = 51 ∨ c.toNat = 52 ∨ c.toNat = 53 ∨ c.toNat = 54 ∨ c.toNat = 55 ∨ c.toNat = 56 ∨ c.toNat = 57 := by omega
    rcases this with h | h | h | h | h | h | h | h | h | h <;> rw [h] at e <;> rw [e] <;> decide
theorem TrimD (s : List UInt8) (hs : s.length ≤ 1000) : ∃ r, strings_Trim s [48, 49, 50, 51, 52, 53, 54, 55, 56, 57] = some r ∧ (r = [] ↔ s.all dg = true) := by
  obtain ⟨r, h1, h2⟩ := trim_ok (cs := D10) (by decide) (by decide) (by decide) s hs
  refine ⟨r, h1, h2.trans ?_⟩
  rw [List.all_eq_true]
  exact ⟨fun h c hc => (dg_mem c).1 (h c hc), fun h c hc => (dg_mem c).2 (h c hc)⟩
theorem decF_val {l : List UInt8} : ∀ {a : Nat}, l.all dg = true → decF a l = some (valS a l) := by
  induction l with
  | nil => intro a _; rfl
  | cons c l ih =>
    intro a h
    rw [List.all_cons, Bool.and_eq_true] at h
    unfold decF digV
    have := h.1
    unfold dg at this
    rw [decide_eq_true_iff] at this
    rw [if_pos this]
    exact ih h.2
theorem atoi_val {l : List UInt8} (hl : l ≠ []) (hn : l.length ≤ 18) (h : l.all dg = true) : gAtoi l = some ((valS 0 l : Nat) : Int) := by
  unfold gAtoi
  rw [if_pos hn]
  cases l with
  | nil => exact absurd rfl hl
  | cons c l =>
    have hc : dg c = true := by rw [List.all_cons, Bool.and_eq_true] at h; exact h.1
    have h45 : ¬ (c == 45) = true := by intro e; rw [beq_iff_eq] at e; subst e; revert hc; decide
    have h43 : ¬ (c == 43) = true := by intro e; rw [beq_iff_eq] at e; subst e; revert hc; decide
    show (if (c == 45) = true then _ else if (c == 43) = true then _ else (decN (c :: l)).map fun (m : Nat) => (m : Int)) = _
    rw [if_neg h45, if_neg h43]
    unfold decN
    rw [if_neg (by simp), decF_val h]; rfl
theorem valS_app (a : Nat) (l m : List UInt8) : valS a (l ++ m) = valS (valS a l) m := List.foldl_append
theorem valS_acc (l : List UInt8) : ∀ a : Nat, valS a l = a * 10 ^ l.length + valS 0 l := by
  induction l with
  | nil => intro a; simp [valS]
  | cons c l ih =>
    intro a
    show valS (a * 10 + (c.toNat - 48)) l = _ + valS (0 * 10 + (c.toNat - 48)) l
    rw [ih (a * 10 + (c.toNat - 48)), ih (0 * 10 + (c.toNat - 48)), List.length_cons, Nat.pow_succ, Nat.zero_mul, Nat.zero_add, Nat.add_mul, Nat.add_assoc, Nat.mul_assoc, Nat.mul_comm 10]
theorem valS_lt {l : List UInt8} (h : l.all dg = true) : valS 0 l < 10 ^ l.length := by
  induction l with
  | nil => simp [valS]
  | cons c l ih =>
    rw [List.all_cons, Bool.and_eq_true] at h
    have h1 := ih h.2
    have h2 := h.1
    unfold dg at h2
    rw [decide_eq_true_iff] at h2
    show valS (0 * 10 + (c.toNat - 48)) l < _
    rw [valS_acc, List.length_cons, Nat.pow_succ, Nat.zero_mul, Nat.zero_add]
    have h3 : (c.toNat - 48) * 10 ^ l.length ≤ 9 * 10 ^ l.length := Nat.mul_le_mul_right _ (by omega)
    omega

/-! ### the digits of a number -/

theorem dg_ofNat {d : Nat} (h : d < 10) : dg (UInt8.ofNat (48 + d)) = true ∧ (UInt8.ofNat (48 + d)).toNat - 48 = d := by
  have e : (UInt8.ofNat (48 + d)).toNat = 48 + d := by rw [UInt8.toNat_ofNat']; omega
  unfold dg
  rw [e, decide_eq_true_iff]
  omega
theorem decD_spec : ∀ (k u : Nat), u < 10 ^ (k + 1) → (decD u).all dg = true ∧ valS 0 (decD u) = u ∧ decD u ≠ [] ∧ (decD u).length ≤ k + 1 ∧ ((decD u).head? = some 48 → u = 0) ∧ (u = 0 → decD u = [48]) := by
  intro k
  induction k with
  | zero =>
    intro u hu
    have hu : u < 10 := by simpa using hu
    unfold decD
    rw [if_pos hu]
    obtain ⟨h1, h2⟩ := dg_ofNat hu
    refine ⟨by rw [List.all_cons, h1]; rfl, ?_, by simp, by simp, fun h => ?_, fun h => by subst h; rfl⟩
    · show 0 * 10 + ((UInt8.ofNat (48 + u)).toNat - 48) = u
      omega
    · simp only [List.head?_cons, Option.some.injEq] at h
      rw [h] at h2
      simpa using h2.symm
  | succ k ih =>
    intro u hu
    unfold decD
    by_cases h10 : u < 10
    · rw [if_pos h10]
      obtain ⟨h1, h2⟩ := dg_ofNat h10
      refine ⟨by rw [List.all_cons, h1]; rfl, ?_, by simp, by simp, fun h => ?_, fun h => by subst h; rfl⟩
      · show 0 * 10 + ((UInt8.ofNat (48 + u)).toNat - 48) = u
        omega
      · simp only [List.head?_cons, Option.some.injEq] at h
        rw [h] at h2
        simpa using h2.symm
    · rw [if_neg h10]
      obtain ⟨h1, h2⟩ := dg_ofNat (d := u % 10) (by omega)
      obtain ⟨i1, i2, i3, i4, i5, i6⟩ := ih (u / 10) (by rw [Nat.pow_succ] at hu; omega)
      refine ⟨by rw [List.all_append, i1, List.all_cons, h1]; rfl, ?_, by simp, by simp; omega, fun h => ?_, fun h => by omega⟩
      · rw [valS_app, i2]
        show u / 10 * 10 + ((UInt8.ofNat (48 + u % 10)).toNat - 48) = u
        omega
      · exfalso
        have : (decD (u / 10)).head? = some 48 := by
          cases hd : decD (u / 10) with
          | nil => exact absurd hd i3
          | cons c l => rw [hd] at h; simpa using h
        have := i5 this
        omega

theorem all_no {l : List UInt8} (h : l.all dg = true) {c : UInt8} (hc : dg c = false) : ∀ x ∈ l, x ≠ c := by
  intro x hx e
  subst e
  rw [List.all_eq_true] at h
  rw [h x hx] at hc; cases hc
/-! ### reading degrees -/

/-- The number before the point. -/
def whoOk (a : List UInt8) : Prop := a ≠ [] ∧ a.length ≤ 3 ∧ a.all dg = true ∧ (a.head? = some 48 → a = [48])
instance (a : List UInt8) : Decidable (whoOk a) := inferInstanceAs (Decidable (_ ∧ _))
/-- Whole and six places, without a sign. -/
def absS (w : List UInt8) : Option Nat :=
  if (cutS 46 w).2.2 = true ∧ whoOk (cutS 46 w).1 ∧ (cutS 46 w).2.1.length = 6 ∧ (cutS 46 w).2.1.all dg = true then some (valS 0 ((cutS 46 w).1 ++ (cutS 46 w).2.1)) else none
def rdS (w : List UInt8) : Option Int :=
  if w.head? = some 45 then
    match absS w.tail with
    | some n => if 0 < n then some (-(n : Int)) else none
    | none => none
  else (absS w).map fun n => (n : Int)

theorem head_ne {a : List UInt8} (h : a ≠ []) (c : UInt8) : gOct a 0 = some ((a.head h).toNat : Int) := by
  cases a with
  | nil => exact absurd rfl h
  | cons x a => rfl
theorem head48 {a : List UInt8} (h : a ≠ []) : ((a.head h).toNat : Int) = 48 ↔ a.head? = some 48 := by
  cases a with
  | nil => exact absurd rfl h
  | cons x a =>
    simp only [List.head_cons, List.head?_cons, Option.some.injEq]
    constructor
    · intro e
      have : x = UInt8.ofNat x.toNat := by simp
      rw [show x.toNat = 48 from by omega] at this
      exact this
    · intro e; subst e; rfl

theorem abs_lt {w : List UInt8} {n : Nat} (h : absS w = some n) : n < 1000000000 := by
  unfold absS at h
  split at h
  · rename_i g
    obtain ⟨_, ⟨_, g2, g3, _⟩, g4, g5⟩ := g
    cases h
    have := valS_lt (l := (cutS 46 w).1 ++ (cutS 46 w).2.1) (by rw [List.all_append, g3, g5]; rfl)
    have h2 : 10 ^ ((cutS 46 w).1 ++ (cutS 46 w).2.1).length ≤ 10 ^ 9 := Nat.pow_le_pow_right (by decide) (by rw [List.length_append]; omega)
    omega
  · cases h

/-- The program's way. -/
theorem rd_eq {s : List UInt8} (hs : s.length ≤ 1000000000000000) : ∃ v : Int, where_readDegrees s = some (v, (rdS s).isSome) ∧ ∀ n, rdS s = some n → v = n := by
  have key : ∀ w : List UInt8, w = (if s.head? = some 45 then s.tail else s) → (absS w = none → ∃ v : Int, where_readDegrees s = some (v, false)) ∧ (∀ n, absS w = some n → where_readDegrees s = if w.length < s.length then some (-(n : Int), decide (0 < n)) else some ((n : Int), true)) := by
    intro w hw
    have hwl : w.length ≤ s.length := by rw [hw]; split <;> simp
    have hcl := cutS_len 46 w
    have base : where_readDegrees s = cnd (!(cutS 46 w).2.2) (some (0, false)) (cnd (decide ((cutS 46 w).1 = [])) (some (0, false)) (cnd (decide (3 < ((cutS 46 w).1.length : Int))) (some (0, false)) (cnd (decide (((cutS 46 w).2.1.length : Int) ≠ 6)) (some (0, false)) (bnd (gCat (cutS 46 w).1 (cutS 46 w).2.1) fun t37 =>
        bnd (strings_Trim t37 [48, 49, 50, 51, 52, 53, 54, 55, 56, 57]) fun t38 =>
        cnd (decide (t38 ≠ [])) (some (0, false)) (cnd (decide (1 < ((cutS 46 w).1.length : Int))) (bnd (gOct (cutS 46 w).1 0) fun t47 =>
        cnd (decide (t47 = 48)) (some (0, false)) (where_readDegrees_j1 s w (cutS 46 w))) (where_readDegrees_j1 s w (cutS 46 w))))))) := by
      unfold where_readDegrees
      rw [TrimP_eq, bnd_pure, ← hw, Cut_eq (by omega), bnd_pure]
    generalize hc : cutS 46 w = q at *
    obtain ⟨a, b, f⟩ := q
    simp only at *
    have abs : absS w = if f = true ∧ whoOk a ∧ b.length = 6 ∧ b.all dg = true then some (valS 0 (a ++ b)) else none := by unfold absS; rw [hc]
    rw [base, abs]
    by_cases hf : f = true
    · subst hf
      by_cases ha : a = []
      · subst ha
        rw [if_neg (fun h => h.2.1.1 rfl)]
        exact ⟨fun _ => ⟨0, rfl⟩, fun n h => by cases h⟩
      by_cases h3 : a.length ≤ 3
      · by_cases h6 : b.length = 6
        · obtain ⟨r, hr, hr2⟩ := TrimD (a ++ b) (by rw [List.length_append]; omega)
          rw [show (!true) = false from rfl, cnd_false, cN ha, cN (by omega), cN (by omega), gCat_ok (by omega), bnd_pure, hr, bnd_pure]
          by_cases hd : (a ++ b).all dg = true
          · rw [cN (fun h => h (hr2.2 hd))]
            have hd2 := hd
            rw [List.all_append, Bool.and_eq_true] at hd2
            have j1 : where_readDegrees_j1 s w (a, b, true) = if w.length < s.length then some (-((valS 0 (a ++ b) : Nat) : Int), decide (0 < valS 0 (a ++ b))) else some (((valS 0 (a ++ b) : Nat) : Int), true) := by
              have hv := valS_lt hd
              have h2 : 10 ^ (a ++ b).length ≤ 10 ^ 9 := Nat.pow_le_pow_right (by decide) (by rw [List.length_append]; omega)
              unfold where_readDegrees_j1
              simp only
              rw [gCat_ok (by omega), bnd_pure, atoi_val (by simp [ha]) (by rw [List.length_append]; omega) hd, bnd_pure]
              by_cases hl : w.length < s.length
              · rw [cY (by omega), if_pos hl, gI_ok (by omega), bnd_pure]
                congr 2
                exact decide_eq_decide.2 (by omega)
              · rw [cN (by omega), if_neg hl]
            have hz1 : ¬ 1 < a.length → a.head? = some 48 → a = [48] := by
              intro h1 h
              cases a with
              | nil => exact absurd rfl ha
              | cons x a =>
                cases a with
                | nil => simpa using h
                | cons y a => simp at h1
            by_cases h1 : 1 < a.length
            · rw [cY (by omega), head_ne ha 0, bnd_pure]
              by_cases h48 : ((a.head ha).toNat : Int) = 48
              · rw [cY h48, if_neg (fun h => by have := h.2.1.2.2.2 ((head48 ha).1 h48); rw [this] at h1; simp at h1)]
                exact ⟨fun _ => ⟨0, rfl⟩, fun n h => by cases h⟩
              · rw [cN h48, j1, if_pos (show true = true ∧ whoOk a ∧ b.length = 6 ∧ b.all dg = true from ⟨rfl, ⟨ha, h3, hd2.1, fun h => absurd ((head48 ha).2 h) h48⟩, h6, hd2.2⟩)]
                exact ⟨fun h => (by cases h), fun n h => by cases h; rfl⟩
            · rw [cN (by omega), j1, if_pos (show true = true ∧ whoOk a ∧ b.length = 6 ∧ b.all dg = true from ⟨rfl, ⟨ha, h3, hd2.1, hz1 h1⟩, h6, hd2.2⟩)]
              exact ⟨fun h => (by cases h), fun n h => by cases h; rfl⟩
          · rw [cY (show r ≠ [] from fun h => hd (hr2.1 h)), if_neg (fun h => hd (by rw [List.all_append, h.2.1.2.2.1, h.2.2.2]; rfl))]
            exact ⟨fun _ => ⟨0, rfl⟩, fun n h => by cases h⟩
        · rw [if_neg (fun h => h6 h.2.2.1), show (!true) = false from rfl, cnd_false, cN ha, cN (by omega), cY (by omega)]
          exact ⟨fun _ => ⟨0, rfl⟩, fun n h => by cases h⟩
      · rw [if_neg (fun h => h3 h.2.1.2.1), show (!true) = false from rfl, cnd_false, cN ha, cY (by omega)]
        exact ⟨fun _ => ⟨0, rfl⟩, fun n h => by cases h⟩
    · rw [if_neg (fun h => hf h.1), show f = false from by simpa using hf]
      exact ⟨fun _ => ⟨0, rfl⟩, fun n h => by cases h⟩
  obtain ⟨k1, k2⟩ := key _ rfl
  unfold rdS
  by_cases h : s.head? = some 45
  · rw [if_pos h] at k1 k2 ⊢
    have hl : s.tail.length < s.length := by cases s with | nil => cases h | cons => simp
    cases ha : absS s.tail with
    | none =>
      obtain ⟨v, hv⟩ := k1 ha
      exact ⟨v, hv, fun n h => by cases h⟩
    | some n =>
      refine ⟨-(n : Int), ?_, ?_⟩
      · rw [k2 n ha, if_pos hl]
        by_cases hn : 0 < n <;> simp [hn]
      · intro m hm
        simp only at hm
        by_cases hn : 0 < n
        · rw [if_pos hn] at hm; exact Option.some.inj hm
        · rw [if_neg hn] at hm; cases hm
  · rw [if_neg h] at k1 k2 ⊢
    cases ha : absS s with
    | none =>
      obtain ⟨v, hv⟩ := k1 ha
      exact ⟨v, hv, fun n h => by cases h⟩
    | some n => exact ⟨n, by rw [k2 n ha, if_neg (by omega)]; rfl, fun m hm => Option.some.inj hm⟩

theorem rd_bd {s : List UInt8} {n : Int} (h : rdS s = some n) : -1000000000 < n ∧ n < 1000000000 := by
  unfold rdS at h
  split at h
  · split at h
    · rename_i m hm
      have := abs_lt hm
      split at h <;> cases h
      omega
    · cases h
  · cases ha : absS s with
    | none => rw [ha] at h; cases h
    | some m =>
      have := abs_lt ha
      rw [ha] at h; cases h
      show -1000000000 < (m : Int) ∧ (m : Int) < 1000000000
      omega

/-- A place from its words. -/
def readS (s : List UInt8) : T_api_Place × Int :=
  match rdS (cutS 32 s).1, rdS (cutS 32 s).2.1 with
  | some x, some y => if placeS x y = 0 then (⟨x, y⟩, 0) else (⟨0, 0⟩, placeS x y)
  | _, _ => (⟨0, 0⟩, 8)

theorem rdS_nil : rdS [] = none := rfl

theorem ReadPlace_eq {s : List UInt8} (hs : s.length ≤ 1000000000000000) : where_ReadPlace s = some (readS s) := by
  have hl := cutS_len 32 s
  obtain ⟨v1, h1, h2⟩ := rd_eq (s := (cutS 32 s).1) (by omega)
  obtain ⟨v2, h3, h4⟩ := rd_eq (s := (cutS 32 s).2.1) (by omega)
  unfold where_ReadPlace readS
  rw [Cut_eq (by omega), bnd_pure, h1, bnd_pure, h3, bnd_pure]
  by_cases hf : (cutS 32 s).2.2 = true
  · rw [hf, show (!true) = false from rfl, cnd_false]
    cases ha : rdS (cutS 32 s).1 with
    | none => rfl
    | some x =>
      cases hb : rdS (cutS 32 s).2.1 with
      | none => rfl
      | some y =>
        rw [h2 x ha, h4 y hb]
        show bnd (where_CheckPlace ⟨x, y⟩) _ = _
        rw [CheckPlace_eq, bnd_pure, cnd_if]
        show (if placeS x y ≠ 0 then _ else _) = some (if placeS x y = 0 then _ else _)
        by_cases hp : placeS x y = 0
        · rw [if_neg (by simpa using hp), if_pos hp]
        · rw [if_pos hp, if_neg hp]
  · have e := cutS_no (c := 32) (s := s) (by simpa using hf)
    rw [e, show (!false) = true from rfl, cnd_true]
    simp only [rdS_nil]
    cases rdS s <;> rfl

/-! ### the reference's way -/

theorem Whole_eq (a : List UInt8) : ∃ v : Int, R_Whole a 3 false = some (v, decide (whoOk a)) ∧ (whoOk a → v = (valS 0 a : Nat)) := by
  unfold R_Whole
  rw [cnd_false]
  unfold R_Whole_j1
  rw [cnd_if, cnd_if]
  by_cases ha : a = []
  · rw [if_pos ha]
    have : ¬ whoOk a := fun h => h.1 ha
    exact ⟨0, by simp [this], fun h => absurd h this⟩
  by_cases h3 : a.length ≤ 3
  · obtain ⟨r, hr, hr2⟩ := TrimD a (by omega)
    rw [if_neg ha, if_neg (by omega), hr, bnd_pure, cnd_if]
    by_cases hd : a.all dg = true
    · rw [if_neg (fun h => h (hr2.2 hd)), head_ne ha 0, bnd_pure, cnd_if, cnd_if]
      have j2 : R_Whole_j2 a = some (((valS 0 a : Nat) : Int), true) := by
        unfold R_Whole_j2
        rw [atoi_val ha (by omega) hd, bnd_pure]
      by_cases h48 : ((a.head ha).toNat : Int) = 48
      · rw [if_pos h48]
        by_cases hz : a = [48]
        · have : whoOk a := ⟨ha, h3, hd, fun _ => hz⟩
          rw [if_neg (by simpa using hz), j2]
          exact ⟨_, by simp [this], fun _ => rfl⟩
        · have : ¬ whoOk a := fun h => hz (h.2.2.2 ((head48 ha).1 h48))
          rw [if_pos hz]
          exact ⟨0, by simp [this], fun h => absurd h this⟩
      · have : whoOk a := ⟨ha, h3, hd, fun h => absurd ((head48 ha).2 h) h48⟩
        rw [if_neg h48, j2]
        exact ⟨_, by simp [this], fun _ => rfl⟩
    · have : ¬ whoOk a := fun h => hd h.2.2.1
      rw [if_pos (fun h => hd (hr2.1 h))]
      exact ⟨0, by simp [this], fun h => absurd h this⟩
  · rw [if_neg ha, if_pos (by omega)]
    have : ¬ whoOk a := fun h => h3 h.2.1
    exact ⟨0, by simp [this], fun h => absurd h this⟩

/-- One part of the two, behind what its whole gave. -/
theorem j4_eq {i m5 m6 : Int} {next : (Int × Int × Int) → Option (T_api_Place × Int)} {a0 a b : List UInt8} {f : Bool} (neg : Bool) (hn : decide (a0.head? = some 45) = neg) {v : Int} {ok : Bool} (hok : ok = decide (whoOk a)) (hv : whoOk a → v = (valS 0 a : Nat)) (hi : i = 0 ∨ i = 1) :
    R_PlaceRead_j4 i m5 m6 next (a0, b, f) v ok =
      match (if f = true ∧ whoOk a ∧ b.length = 6 ∧ b.all dg = true then some (valS 0 (a ++ b)) else none : Option Nat) with
      | none => some (⟨0, 0⟩, 8)
      | some n => if neg = true ∧ n = 0 then some (⟨0, 0⟩, 8) else
          if i = 0 then next (i + 1, (if neg = true then -(n : Int) else (n : Int)), m6) else next (i + 1, m5, if neg = true then -(n : Int) else (n : Int)) := by
  subst hok
  unfold R_PlaceRead_j4
  simp only
  by_cases hf : f = true
  · subst hf
    rw [show (!true) = false from rfl, cnd_false]
    by_cases hw : whoOk a
    · rw [decide_eq_true hw, show (!true) = false from rfl, cnd_false]
      by_cases h6 : b.length = 6
      · rw [cN (by omega)]
        obtain ⟨r, hr, hr2⟩ := TrimD b (by omega)
        rw [hr, bnd_pure]
        by_cases hd : b.all dg = true
        · have hva := valS_lt hw.2.2.1
          have hvb := valS_lt hd
          have p1 : 10 ^ a.length ≤ 10 ^ 3 := Nat.pow_le_pow_right (by decide) hw.2.1
          have p2 : 10 ^ b.length ≤ 10 ^ 6 := Nat.pow_le_pow_right (by decide) (by omega)
          have hvv : valS 0 (a ++ b) = valS 0 a * 1000000 + valS 0 b := by rw [valS_app, valS_acc, h6]
          rw [if_pos ⟨rfl, hw, h6, hd⟩, cN (fun h => h (hr2.2 hd)), atoi_val (fun h => by rw [h] at h6; cases h6) (by omega) hd, bnd_pure, hv hw, gI_ok (by omega), bnd_pure, gI_ok (by omega), bnd_pure, HasPre_eq, bnd_pure, hn]
          have hj : ∀ x : Int, R_PlaceRead_j5 i m5 m6 next (a0, b, true) true r x = if i = 0 then next (i + 1, x, m6) else next (i + 1, m5, x) := by
            intro x
            unfold R_PlaceRead_j5 R_PlaceRead_j3
            rw [cnd_if, gI_ok (by omega), bnd_pure, bnd_pure]
          have ez : ((valS 0 a : Nat) : Int) * 1000000 + ((valS 0 b : Nat) : Int) = ((valS 0 (a ++ b) : Nat) : Int) := by rw [hvv]; omega
          rw [ez]
          cases neg with
          | false =>
            rw [cnd_false, hj]
            simp
          | true =>
            rw [cnd_true, gI_ok (by omega), bnd_pure, hj]
            by_cases hz : valS 0 (a ++ b) = 0
            · rw [cY (by omega)]
              simp [hz]
            · rw [cN (by omega)]
              simp [hz]
        · rw [cY (show r ≠ [] from fun h => hd (hr2.1 h)), if_neg (fun h => hd h.2.2.2)]
      · rw [cY (by omega), if_neg (fun h => h6 h.2.2.1)]
    · rw [decide_eq_false hw, if_neg (fun h => hw h.2.1)]; rfl
  · rw [show f = false from by simpa using hf, if_neg (fun h => by cases h.1)]; rfl

theorem cut45 {l : List UInt8} : cutS 46 (45 :: l) = (45 :: (cutS 46 l).1, (cutS 46 l).2.1, (cutS 46 l).2.2) := rfl
theorem cut_head {s : List UInt8} (h : ¬ s.head? = some 45) : ¬ (cutS 46 s).1.head? = some 45 := by
  cases s with
  | nil => exact h
  | cons b l =>
    unfold cutS
    split
    · simp
    · simpa using h

/-- One part of the two. -/
theorem part_eq {t19 : List UInt8 × List UInt8 × Bool} {next : (Int × Int × Int) → Option (T_api_Place × Int)} {i m5 m6 : Int} {s : List UInt8} (hi : i = 0 ∨ i = 1) (hs : s.length ≤ 1000000000000000) (hat : gAt ([t19.1, t19.2.1] : List (List UInt8)) i = some s) :
    R_PlaceRead_l2 t19 next i m5 m6 = match rdS s with
      | none => some (⟨0, 0⟩, 8)
      | some n => if i = 0 then next (i + 1, n, m6) else next (i + 1, m5, n) := by
  unfold R_PlaceRead_l2
  rw [cY (by omega), hat, bnd_pure, Cut_eq (by omega), bnd_pure]
  have hcl := cutS_len 46 s
  obtain ⟨v, hv1, hv2⟩ := Whole_eq (cutS 46 s).1
  rw [hv1, bnd_pure, HasPre_eq, bnd_pure]
  unfold rdS
  by_cases hh : s.head? = some 45
  · obtain ⟨l, rfl⟩ : ∃ l, s = 45 :: l := by
      cases s with
      | nil => cases hh
      | cons b l => exact ⟨l, by simp at hh; rw [hh]⟩
    rw [cut45] at *
    simp only at *
    obtain ⟨u, hu1, hu2⟩ := Whole_eq (cutS 46 l).1
    rw [if_pos hh, List.tail_cons, decide_eq_true (by rfl : (45 :: (cutS 46 l).1).head? = some 45), cnd_true, gCut_from (by simp; omega), bnd_pure]
    show bnd (R_Whole (cutS 46 l).1 3 false) _ = _
    rw [hu1, bnd_pure, j4_eq (a := (cutS 46 l).1) true (by rfl) rfl hu2 hi]
    unfold absS
    by_cases hc : (cutS 46 l).2.2 = true ∧ whoOk (cutS 46 l).1 ∧ (cutS 46 l).2.1.length = 6 ∧ (cutS 46 l).2.1.all dg = true
    · rw [if_pos hc]
      simp only [true_and, if_true]
      by_cases hz : valS 0 ((cutS 46 l).1 ++ (cutS 46 l).2.1) = 0
      · rw [if_pos hz, if_neg (show ¬ 0 < valS 0 ((cutS 46 l).1 ++ (cutS 46 l).2.1) from by omega)]
      · rw [if_neg hz, if_pos (show 0 < valS 0 ((cutS 46 l).1 ++ (cutS 46 l).2.1) from by omega)]
    · rw [if_neg hc]
  · have h2 := cut_head hh
    rw [if_neg hh, decide_eq_false h2, cnd_false]
    have := j4_eq (i := i) (m5 := m5) (m6 := m6) (next := next) (a0 := (cutS 46 s).1) (a := (cutS 46 s).1) (b := (cutS 46 s).2.1) (f := (cutS 46 s).2.2) false (decide_eq_false h2) rfl hv2 hi
    refine this.trans ?_
    unfold absS
    by_cases hc : (cutS 46 s).2.2 = true ∧ whoOk (cutS 46 s).1 ∧ (cutS 46 s).2.1.length = 6 ∧ (cutS 46 s).2.1.all dg = true
    · rw [if_pos hc]
      simp
    · rw [if_neg hc]; rfl

theorem PlaceRead_eq {s : List UInt8} (hs : s.length ≤ 1000000000000000) : R_PlaceRead s = some (readS s) := by
  have hl := cutS_len 32 s
  unfold R_PlaceRead readS
  rw [Cut_eq (by omega), bnd_pure]
  have s0 : ∀ (next : (Int × Int × Int) → Option (T_api_Place × Int)) (m5 m6 : Int), R_PlaceRead_l2 (cutS 32 s) next 0 m5 m6 = match rdS (cutS 32 s).1 with
      | none => some (⟨0, 0⟩, 8)
      | some n => next (1, n, m6) := fun next m5 m6 => by
    rw [part_eq (s := (cutS 32 s).1) (.inl rfl) (by omega) rfl]; rfl
  have s1 : ∀ (next : (Int × Int × Int) → Option (T_api_Place × Int)) (m5 m6 : Int), R_PlaceRead_l2 (cutS 32 s) next 1 m5 m6 = match rdS (cutS 32 s).2.1 with
      | none => some (⟨0, 0⟩, 8)
      | some n => next (2, m5, n) := fun next m5 m6 => by
    rw [part_eq (s := (cutS 32 s).2.1) (.inr rfl) (by omega) rfl]; rfl
  have s2 : ∀ (next : (Int × Int × Int) → Option (T_api_Place × Int)) (m5 m6 : Int), R_PlaceRead_l2 (cutS 32 s) next 2 m5 m6 = some (if placeS m5 m6 = 0 then (⟨m5, m6⟩, 0) else (⟨0, 0⟩, placeS m5 m6)) := fun next m5 m6 => by
    unfold R_PlaceRead_l2
    rw [cN (by omega)]
    unfold R_PlaceRead_j1
    rw [R_PlaceFault_eq, bnd_pure, cnd_if]
    show (if placeS m5 m6 ≠ 0 then _ else _) = some (if placeS m5 m6 = 0 then _ else _)
    by_cases hp : placeS m5 m6 = 0
    · rw [if_neg (by simpa using hp), if_pos hp]
    · rw [if_pos hp, if_neg hp]
  cases ha : rdS (cutS 32 s).1 with
  | none => exact fix_done fun next => by show R_PlaceRead_l2 _ _ 0 _ _ = _; rw [s0, ha]
  | some x =>
    refine (fix_goto (b := (1, x, 0)) fun next => by show R_PlaceRead_l2 _ _ 0 _ _ = _; rw [s0, ha]).trans ?_
    cases hb : rdS (cutS 32 s).2.1 with
    | none => exact fix_done fun next => by show R_PlaceRead_l2 _ _ 1 _ _ = _; rw [s1, hb]
    | some y =>
      refine (fix_goto (b := (2, x, y)) fun next => by show R_PlaceRead_l2 _ _ 1 _ _ = _; rw [s1, hb]).trans ?_
      exact fix_done fun next => by show R_PlaceRead_l2 _ _ 2 _ _ = _; rw [s2]
end Go.M
