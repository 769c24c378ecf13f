/- Names, in plain Lean. Conditions: none. -/
import Derived.Test.YtaonhnkojkkmbaaDoorSfT
namespace Go.M
open Go.Md Go.Pl

def okC (c : UInt8) : Prop := (97 ≤ c.toNat ∧ c.toNat ≤ 122) ∨ (48 ≤ c.toNat ∧ c.toNat ≤ 57) ∨ c.toNat = 45
instance (c : UInt8) : Decidable (okC c) := by unfold okC; infer_instance
def nameB (s : List UInt8) : Bool := decide (s ≠ [] ∧ s.length ≤ 40 ∧ (∀ c, s.head? = some c → 97 ≤ c.toNat ∧ c.toNat ≤ 122) ∧ ∀ c ∈ s, okC c)

theorem name_step {s : List UInt8} (hs : s.length ≤ 1000) {k : Nat} (hk : k < s.length) (next : Int → Option Bool) : where_IsName_l1 s next (k : Int) = if okC s[k] then next ((k : Int) + 1) else some false := by
  have hj : where_IsName_j2 (k : Int) next = next ((k : Int) + 1) := by unfold where_IsName_j2; rw [gI_ok (by omega), bnd_pure]
  unfold where_IsName_l1
  rw [cnd_if, if_pos (by omega), gOct_nat hk, bnd_pure, hj]
  simp only [cnd_if]
  generalize hc : s[k] = c
  by_cases h : okC c
  · rw [if_pos h]
    unfold okC at h
    by_cases h1 : (97 : Int) ≤ c.toNat
    · rw [if_pos h1]
      by_cases h2 : (c.toNat : Int) ≤ 122
      · rw [if_pos h2]
      · omega
    · rw [if_neg h1]
      by_cases h2 : (48 : Int) ≤ c.toNat
      · rw [if_pos h2, if_pos (by omega)]
      · rw [if_neg h2]
        have : (c.toNat : Int) = 45 := by omega
        simp [this]
  · rw [if_neg h]
    unfold okC at h
    have h45 : ¬ (c.toNat : Int) = 45 := by omega
    by_cases h1 : (97 : Int) ≤ c.toNat
    · rw [if_pos h1, if_neg (by omega), if_pos (by omega), if_neg (by omega)]; simp [h45]
    · rw [if_neg h1]
      by_cases h2 : (48 : Int) ≤ c.toNat
      · rw [if_pos h2, if_neg (by omega)]; simp [h45]
      · rw [if_neg h2]; simp [h45]

theorem name_loop (s : List UInt8) (hs : s.length ≤ 1000) : fix (fun next1 t => where_IsName_l1 s next1 t) 0 = some (decide (∀ c ∈ s, okC c)) := by
  rw [up (F := fun next1 t => where_IsName_l1 s next1 t) s.length (fun k => some (decide (∀ c ∈ s.drop k, okC c))) (fun next k hk ih => ?_)]
  · simp
  · rcases Nat.lt_or_ge k s.length with h | h
    · show where_IsName_l1 s next (k : Int) = _
      rw [name_step hs h]
      have e : s.drop k = s[k] :: s.drop (k + 1) := List.drop_eq_getElem_cons h
      rw [e]
      by_cases ho : okC s[k]
      · rw [if_pos ho, ih h]; congr 1; rw [decide_eq_decide, List.forall_mem_cons]; exact ⟨fun h => ⟨ho, h⟩, fun h => h.2⟩
      · rw [if_neg ho]; congr 1; symm; rw [decide_eq_false_iff_not, List.forall_mem_cons]; exact fun h => ho h.1
    · show where_IsName_l1 s next (k : Int) = _
      unfold where_IsName_l1
      rw [cnd_if, if_neg (by omega), List.drop_of_length_le h]; simp

theorem IsName_eq (s : List UInt8) : where_IsName s = some (nameB s) := by
  unfold where_IsName nameB
  rw [cnd_if]
  by_cases h0 : s = []
  · subst h0; rfl
  · rw [if_neg h0, cnd_if]
    by_cases h1 : (40 : Int) < s.length
    · rw [if_pos h1]; congr 1; symm; rw [decide_eq_false_iff_not]; intro h; omega
    · rw [if_neg h1]
      obtain ⟨c, r, rfl⟩ : ∃ c r, s = c :: r := by cases s with | nil => exact absurd rfl h0 | cons c r => exact ⟨c, r, rfl⟩
      have e0 : gOct (c :: r) 0 = some (c.toNat : Int) := by rw [gOct_ok (by omega) (by simp)]; rfl
      rw [e0, bnd_pure, cnd_if]
      by_cases h2 : (c.toNat : Int) < 97
      · rw [if_pos h2]; congr 1; symm; rw [decide_eq_false_iff_not]; intro h; have := h.2.2.1 c rfl; omega
      · rw [if_neg h2, bnd_pure, cnd_if]
        by_cases h3 : (122 : Int) < c.toNat
        · rw [if_pos h3]; congr 1; symm; rw [decide_eq_false_iff_not]; intro h; have := h.2.2.1 c rfl; omega
        · rw [if_neg h3, name_loop _ (by omega)]
          congr 1
          rw [decide_eq_decide]
          constructor
          · intro h; exact ⟨h0, by omega, fun d hd => by simp at hd; subst hd; omega, h⟩
          · intro h; exact h.2.2.2

def nameCs : List UInt8 := [97, 98, 99, 100, 101, 102, 103, 104, 105, 106, 107, 108, 109, 110, 111, 112, 113, 114, 115, 116, 117, 118, 119, 120, 121, 122, 48, 49, 50, 51, 52, 53, 54, 55, 56, 57, 45]
theorem nameCs_iff (c : UInt8) : c ∈ nameCs ↔ okC c := by
  have key : ∀ n : Nat, n < 256 → (UInt8.ofNat n ∈ nameCs ↔ okC (UInt8.ofNat n)) := by decide +kernel
  have := key c.toNat c.toNat_lt
  rwa [UInt8.ofNat_toNat] at this

theorem NameOk_eq (s : List UInt8) : R_NameOk s = some (nameB s) := by
  unfold R_NameOk nameB
  rw [cnd_if]
  by_cases h0 : s = []
  · subst h0; rfl
  · rw [if_pos h0, cnd_if]
    by_cases h1 : (s.length : Int) ≤ 40
    · rw [if_pos h1]
      obtain ⟨c, r, rfl⟩ : ∃ c r, s = c :: r := by cases s with | nil => exact absurd rfl h0 | cons c r => exact ⟨c, r, rfl⟩
      have e0 : gOct (c :: r) 0 = some (c.toNat : Int) := by rw [gOct_ok (by omega) (by simp)]; rfl
      rw [e0, bnd_pure, cnd_if]
      by_cases h2 : (97 : Int) ≤ c.toNat
      · rw [if_pos h2, bnd_pure, cnd_if]
        by_cases h3 : (c.toNat : Int) ≤ 122
        · rw [if_pos h3]
          obtain ⟨t, ht, hi⟩ := trim_ok (cs := nameCs) (by decide) (by decide) (by decide) (c :: r) (by omega)
          rw [show strings_Trim (c :: r) [97, 98, 99, 100, 101, 102, 103, 104, 105, 106, 107, 108, 109, 110, 111, 112, 113, 114, 115, 116, 117, 118, 119, 120, 121, 122, 48, 49, 50, 51, 52, 53, 54, 55, 56, 57, 45] = some t from ht, bnd_pure]
          congr 1
          rw [decide_eq_decide, hi]
          constructor
          · intro h; exact ⟨h0, by omega, fun d hd => by simp at hd; subst hd; omega, fun d hd => (nameCs_iff d).1 (h d hd)⟩
          · intro h d hd; exact (nameCs_iff d).2 (h.2.2.2 d hd)
        · rw [if_neg h3]; congr 1; symm; rw [decide_eq_false_iff_not]; intro h; have := h.2.2.1 c rfl; omega
      · rw [if_neg h2]; congr 1; symm; rw [decide_eq_false_iff_not]; intro h; have := h.2.2.1 c rfl; omega
    · rw [if_neg h1]; congr 1; symm; rw [decide_eq_false_iff_not]; intro h; omega


end Go.M
