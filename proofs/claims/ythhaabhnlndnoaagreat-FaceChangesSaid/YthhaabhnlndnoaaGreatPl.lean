/- Plain lemmas about models: loops that count, scans for a first error. Conditions: none. -/
import Derived.Test.YthhaabhnlndnoaaGreatMd
namespace Go.Pl
open Go.Md
theorem up {ρ : Type} {F : (Int → Option ρ) → Int → Option ρ} (n : Nat) (spec : Nat → Option ρ)
  (step : ∀ (next : Int → Option ρ) (k : Nat), k ≤ n → (k < n → next ((k : Int) + 1) = spec (k + 1)) → F next (k : Int) = spec k) : Zx F 0 = spec 0 := by
 have h := fix_of (F := F) (fun i => spec i.toNat) (fun i => 0 ≤ i ∧ i ≤ n) (fun i => n - i.toNat) (by
  intro next a ⟨h0, h1⟩ ih
  obtain ⟨k, rfl⟩ := Int.eq_ofNat_of_zero_le h0
  simp only [Int.toNat_natCast]
  refine step next k (by omega) fun hk => ?_
  have := ih ((k : Int) + 1) (by omega) (by simp only [Int.toNat_natCast]; omega)
  rw [this, show ((k : Int) + 1).toNat = k + 1 from by omega]) 0 (by omega)
 simpa using h
theorem up2r {ρ σ : Type} {F : (σ × Int → Option ρ) → σ × Int → Option ρ} (n : Nat) (spec : Nat → σ → Option ρ) (I : Nat → σ → Prop)
  (step : ∀ (next : σ × Int → Option ρ) (k : Nat) (s : σ), k ≤ n → I k s → (∀ s', k < n → I (k + 1) s' → next (s', (k : Int) + 1) = spec (k + 1) s') → F next (s, (k : Int)) = spec k s) (s : σ) (hs : I 0 s) : Zx F (s, 0) = spec 0 s := by
 have h := fix_of (F := F) (fun i => spec i.2.toNat i.1) (fun i => 0 ≤ i.2 ∧ i.2 ≤ n ∧ I i.2.toNat i.1) (fun i => n - i.2.toNat) (by
  rintro next ⟨s, a⟩ ⟨h0, h1, h2⟩ ih
  simp only at h0 h1 h2
  obtain ⟨k, rfl⟩ := Int.eq_ofNat_of_zero_le h0
  simp only [Int.toNat_natCast] at h2 ⊢
  refine step next k s (by omega) h2 fun s' hk hI => ?_
  have := ih (s', (k : Int) + 1) ⟨by simp only; omega, by simp only; omega, by simp only; rw [show ((k : Int) + 1).toNat = k + 1 from by omega]; exact hI⟩ (by simp only [Int.toNat_natCast]; omega)
  rw [this, show ((k : Int) + 1).toNat = k + 1 from by omega]) (s, 0) ⟨by simp, by simp, hs⟩
 simpa using h
def Jai (c : Nat → Int) : Nat → Nat → Int
 | 0, _ => 0
 | m + 1, k => if c k = 0 then Jai c m (k + 1) else c k
theorem firstE_zero {c : Nat → Int} : ∀ {m k : Nat}, Jai c m k = 0 → ∀ j, k ≤ j → j < k + m → c j = 0
 | 0, k, _, j, h1, h2 => by omega
 | m + 1, k, h, j, h1, h2 => by
  simp only [Jai] at h
  split at h
  ·rename_i h0
   by_cases hj : j = k
   ·subst hj; exact h0
   ·exact firstE_zero h j (by omega) (by omega)
  ·rename_i h0; exact absurd h h0
theorem firstE_all {c : Nat → Int} : ∀ (m k : Nat), (∀ j, k ≤ j → j < k + m → c j = 0) → Jai c m k = 0
 | 0, _, _ => rfl
 | m + 1, k, h => by
  simp only [Jai]
  rw [if_pos (h k (Nat.le_refl _) (by omega)), firstE_all m (k + 1) fun j h1 h2 => h j (by omega) (by omega)]
theorem scan {F : (Int → Option Int) → Int → Option Int} (n : Nat) (c : Nat → Int) (step : ∀ (next : Int → Option Int) (k : Nat), k < n → F next (k : Int) = if c k = 0 then next ((k : Int) + 1) else some (c k)) (last : ∀ next, F next (n : Int) = some 0) : Zx F 0 = some (Jai c n 0) := by
 have h := up (F := F) n (fun k => some (Jai c (n - k) k)) (by
  intro next k hk ih
  by_cases h : k < n
  ·rw [step next k h, show n - k = (n - (k + 1)) + 1 from by omega]
   simp only [Jai]
   split
   ·rw [ih h]
   ·rfl
  ·have : k = n := by omega
   subst this
   rw [last, Nat.sub_self]; rfl)
 simpa using h
end Go.Pl

/- More plain lemmas about models: loops that run or go on, two loops that do the same, loops that collect. Conditions: none. -/
namespace Go.Pl
open Go.Md
theorem Jaj {α ρ : Type} {F : (α → Option ρ) → α → Option ρ} (I : α → Prop) (μ : α → Nat) (Post : ρ → Prop)
  (step : ∀ a, I a → (∃ r, Post r ∧ ∀ next, F next a = some r) ∨ (∃ b, I b ∧ μ b < μ a ∧ ∀ next, F next a = next b)) (a : α) (ha : I a) : ∃ r, Zx F a = some r ∧ Post r := by
 have key : ∀ n a, I a → μ a < n → ∃ r, Zx F a = some r ∧ Post r := by
  intro n
  induction n with
  | zero => intro a _ h; omega
  | succ n ih =>
   intro a ha h
   rcases step a ha with ⟨r, h1, h2⟩ | ⟨b, h1, h2, h3⟩
   ·exact ⟨r, Q8 h2, h1⟩
   ·rw [Yr b h3]; exact ih b h1 (by omega)
 exact key (μ a + 1) a ha (by omega)
theorem fix_runP {α ρ π κ : Type} {F : π → (α → Option ρ) → α → Option ρ} (J : π → κ → Option ρ) (I : α → Prop) (μ : α → Nat) (Post : κ → Prop)
  (step : ∀ a, I a → (∃ r, Post r ∧ ∀ p next, F p next a = J p r) ∨ (∃ b, I b ∧ μ b < μ a ∧ ∀ p next, F p next a = next b)) (a : α) (ha : I a) : ∃ r, Post r ∧ ∀ p, Zx (F p) a = J p r := by
 have key : ∀ n a, I a → μ a < n → ∃ r, Post r ∧ ∀ p, Zx (F p) a = J p r := by
  intro n
  induction n with
  | zero => intro a _ h; omega
  | succ n ih =>
   intro a ha h
   rcases step a ha with ⟨r, h1, h2⟩ | ⟨b, h1, h2, h3⟩
   ·exact ⟨r, h1, fun p => Q8 (h2 p)⟩
   ·obtain ⟨r, g1, g2⟩ := ih b h1 (by omega)
    exact ⟨r, g1, fun p => (Yr b (h3 p)).trans (g2 p)⟩
 exact key (μ a + 1) a ha (by omega)
theorem fix_sim {α β ρ : Type} {F : (α → Option ρ) → α → Option ρ} {G : (β → Option ρ) → β → Option ρ} (I : α → β → Prop) (μ : α → Nat) (Post : ρ → Prop)
  (step : ∀ a b, I a b → (∃ r, Post r ∧ Zx F a = some r ∧ Zx G b = some r) ∨ (∃ a' b', I a' b' ∧ μ a' < μ a ∧ Zx F a = Zx F a' ∧ Zx G b = Zx G b')) (a : α) (b : β) (h : I a b) : ∃ r, Post r ∧ Zx F a = some r ∧ Zx G b = some r := by
 have key : ∀ n a b, I a b → μ a < n → ∃ r, Post r ∧ Zx F a = some r ∧ Zx G b = some r := by
  intro n
  induction n with
  | zero => intro a b _ h; omega
  | succ n ih =>
   intro a b hI h
   rcases step a b hI with ⟨r, h0, h1, h2⟩ | ⟨a', b', h1, h2, h3, h4⟩
   ·exact ⟨r, h0, h1, h2⟩
   ·obtain ⟨r, g0, g1, g2⟩ := ih a' b' h1 (by omega)
    exact ⟨r, g0, h3.trans g1, h4.trans g2⟩
 exact key (μ a + 1) a b h (by omega)
theorem Ja6 {α ρ σ : Type} {F : (Int × σ → Option ρ) → Int × σ → Option ρ} (xs : List α) (f : σ → α → σ) (J : σ → Option ρ) (I : Nat → σ → Prop)
  (more : ∀ (next : Int × σ → Option ρ) (k : Nat) (s : σ) (hk : k < xs.length), I k s → F next ((k : Int), s) = next ((k : Int) + 1, f s xs[k]) ∧ I (k + 1) (f s xs[k]))
  (stop : ∀ (next : Int × σ → Option ρ) (s : σ), I xs.length s → F next ((xs.length : Int), s) = J s) (s : σ) (hs : I 0 s) : Zx F (0, s) = J (xs.foldl f s) := by
 have key : ∀ n k s, k ≤ xs.length → xs.length - k < n → I k s → Zx F ((k : Int), s) = J ((xs.drop k).foldl f s) := by
  intro n
  induction n with
  | zero => intro k s _ h; omega
  | succ n ih =>
   intro k s hk h hI
   rcases Nat.lt_or_ge k xs.length with h1 | h1
   ·rw [Yr ((k : Int) + 1, f s xs[k]) (fun next => (more next k s h1 hI).1), List.drop_eq_getElem_cons h1, List.foldl_cons]
    exact ih (k + 1) _ (by omega) (by omega) (more (fun _ => none) k s h1 hI).2
   ·have : k = xs.length := by omega
    subst this
    rw [List.drop_length]
    exact Q8 fun next => stop next s hI
 have := key (xs.length + 1) 0 s (Nat.zero_le _) (by omega) hs
 simpa using this
end Go.Pl
