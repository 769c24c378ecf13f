/- Plain lemmas about models: loops that count, scans for a first error. Conditions: none. -/
import Derived.Test.YtdledeeihcilbaaMd
namespace Go.Pl
open Go.Md

/-- A loop that counts up, with nothing else in its state. -/
theorem up {ρ : Type} {F : (Int → Option ρ) → Int → Option ρ} (n : Nat) (spec : Nat → Option ρ)
    (step : ∀ (next : Int → Option ρ) (k : Nat), k ≤ n → (k < n → next ((k : Int) + 1) = spec (k + 1)) → F next (k : Int) = spec k) : fix F 0 = spec 0 := by
  have h := fix_of (F := F) (fun i => spec i.toNat) (fun i => 0 ≤ i ∧ i ≤ n) (fun i => n - i.toNat) (by
    intro next a ⟨h0, h1⟩ ih
    obtain ⟨k, rfl⟩ := Int.eq_ofNat_of_zero_le h0
    simp only [Int.toNat_natCast]
    refine step next k (by omega) fun hk => ?_
    have := ih ((k : Int) + 1) (by omega) (by simp only [Int.toNat_natCast]; omega)
    rw [this, show ((k : Int) + 1).toNat = k + 1 from by omega]) 0 (by omega)
  simpa using h

/-- The same with more in the state. -/
theorem up2 {ρ σ : Type} {F : (Int × σ → Option ρ) → Int × σ → Option ρ} (n : Nat) (spec : Nat → σ → Option ρ) (I : Nat → σ → Prop)
    (step : ∀ (next : Int × σ → Option ρ) (k : Nat) (s : σ), k ≤ n → I k s → (∀ s', k < n → I (k + 1) s' → next ((k : Int) + 1, s') = spec (k + 1) s') → F next ((k : Int), s) = spec k s) (s : σ) (hs : I 0 s) : fix F (0, s) = spec 0 s := by
  have h := fix_of (F := F) (fun i => spec i.1.toNat i.2) (fun i => 0 ≤ i.1 ∧ i.1 ≤ n ∧ I i.1.toNat i.2) (fun i => n - i.1.toNat) (by
    rintro next ⟨a, s⟩ ⟨h0, h1, h2⟩ ih
    simp only at h0 h1 h2
    obtain ⟨k, rfl⟩ := Int.eq_ofNat_of_zero_le h0
    simp only [Int.toNat_natCast] at h2 ⊢
    refine step next k s (by omega) h2 fun s' hk hI => ?_
    have := ih ((k : Int) + 1, s') ⟨by simp only; omega, by simp only; omega, by simp only; rw [show ((k : Int) + 1).toNat = k + 1 from by omega]; exact hI⟩ (by simp only [Int.toNat_natCast]; omega)
    rw [this, show ((k : Int) + 1).toNat = k + 1 from by omega]) (0, s) ⟨by simp, by simp, hs⟩
  simpa using h

/-- The counter stands last. -/
theorem up2r {ρ σ : Type} {F : (σ × Int → Option ρ) → σ × Int → Option ρ} (n : Nat) (spec : Nat → σ → Option ρ) (I : Nat → σ → Prop)
    (step : ∀ (next : σ × Int → Option ρ) (k : Nat) (s : σ), k ≤ n → I k s → (∀ s', k < n → I (k + 1) s' → next (s', (k : Int) + 1) = spec (k + 1) s') → F next (s, (k : Int)) = spec k s) (s : σ) (hs : I 0 s) : fix F (s, 0) = spec 0 s := by
  have h := fix_of (F := F) (fun i => spec i.2.toNat i.1) (fun i => 0 ≤ i.2 ∧ i.2 ≤ n ∧ I i.2.toNat i.1) (fun i => n - i.2.toNat) (by
    rintro next ⟨s, a⟩ ⟨h0, h1, h2⟩ ih
    simp only at h0 h1 h2
    obtain ⟨k, rfl⟩ := Int.eq_ofNat_of_zero_le h0
    simp only [Int.toNat_natCast] at h2 ⊢
    refine step next k s (by omega) h2 fun s' hk hI => ?_
    have := ih (s', (k : Int) + 1) ⟨by simp only; omega, by simp only; omega, by simp only; rw [show ((k : Int) + 1).toNat = k + 1 from by omega]; exact hI⟩ (by simp only [Int.toNat_natCast]; omega)
    rw [this, show ((k : Int) + 1).toNat = k + 1 from by omega]) (s, 0) ⟨by simp, by simp, hs⟩
  simpa using h

/-- The first of m numbers from k on that is not 0. -/
def firstE (c : Nat → Int) : Nat → Nat → Int
  | 0, _ => 0
  | m + 1, k => if c k = 0 then firstE c m (k + 1) else c k

theorem firstE_congr {c c' : Nat → Int} : ∀ (m k : Nat), (∀ j, k ≤ j → j < k + m → c j = c' j) → firstE c m k = firstE c' m k
  | 0, _, _ => rfl
  | m + 1, k, h => by
    simp only [firstE]
    rw [h k (Nat.le_refl _) (by omega), firstE_congr m (k + 1) fun j h1 h2 => h j (by omega) (by omega)]

theorem firstE_zero {c : Nat → Int} : ∀ {m k : Nat}, firstE c m k = 0 → ∀ j, k ≤ j → j < k + m → c j = 0
  | 0, k, _, j, h1, h2 => by omega
  | m + 1, k, h, j, h1, h2 => by
    simp only [firstE] at h
    split at h
    · rename_i h0
      by_cases hj : j = k
      · subst hj; exact h0
      · exact firstE_zero h j (by omega) (by omega)
    · rename_i h0; exact absurd h h0

theorem firstE_all {c : Nat → Int} : ∀ (m k : Nat), (∀ j, k ≤ j → j < k + m → c j = 0) → firstE c m k = 0
  | 0, _, _ => rfl
  | m + 1, k, h => by
    simp only [firstE]
    rw [if_pos (h k (Nat.le_refl _) (by omega)), firstE_all m (k + 1) fun j h1 h2 => h j (by omega) (by omega)]

/-- A loop that stops at the first error. -/
theorem scan {F : (Int → Option Int) → Int → Option Int} (n : Nat) (c : Nat → Int) (step : ∀ (next : Int → Option Int) (k : Nat), k < n → F next (k : Int) = if c k = 0 then next ((k : Int) + 1) else some (c k)) (last : ∀ next, F next (n : Int) = some 0) : fix F 0 = some (firstE c n 0) := by
  have h := up (F := F) n (fun k => some (firstE c (n - k) k)) (by
    intro next k hk ih
    by_cases h : k < n
    · rw [step next k h, show n - k = (n - (k + 1)) + 1 from by omega]
      simp only [firstE]
      split
      · rw [ih h]
      · rfl
    · have : k = n := by omega
      subst this
      rw [last, Nat.sub_self]; rfl)
  simpa using h

end Go.Pl
