/- The laws TagFractions and TagDegrees in plain Lean. Conditions: none. -/
import Derived.Test.YtngogocmhmfbjaaTagF
namespace Go.M
open Go.Md Go.Pl

theorem outside_t (a b c : Int) : tag_outside a b c = some (decide (a < b ∨ c < a)) := by
  unfold tag_outside
  rw [cnd_if]; by_cases h : a < b <;> simp [h]

def okR (x : T_tag_Ratio) : Prop := (0 ≤ x.Num ∧ x.Num ≤ 4294967295) ∧ 1 ≤ x.Den ∧ x.Den ≤ 4294967295
instance (x : T_tag_Ratio) : Decidable (okR x) := by unfold okR; infer_instance

theorem check_t (x : T_tag_Ratio) : tag_checkRatio x = some (if okR x then 0 else 2) := by
  unfold tag_checkRatio
  simp only [outside_t, bnd_pure, cnd_if]
  split
  · rw [if_neg (by unfold okR; omega)]
  · split
    · rw [if_neg (by unfold okR; omega)]
    · rw [if_pos (by unfold okR; omega)]

/-! ### lowest terms -/

theorem gcd_pos {a b : Nat} (h : 0 < b) : 0 < Nat.gcd a b := Nat.gcd_pos_of_pos_right a h

theorem modC (a b : Nat) : (a : Int) % (b : Int) = ((a % b : Nat) : Int) := rfl

def low (x : T_tag_Ratio) : T_tag_Ratio := ⟨x.Num / (Nat.gcd x.Num.toNat x.Den.toNat : Nat), x.Den / (Nat.gcd x.Num.toNat x.Den.toNat : Nat)⟩

theorem lowest_l2 (x : T_tag_Ratio) (a b : Nat) : fix (fun next2 s => tag_Lowest_l2 x next2 s.1 s.2) ((a : Int), (b : Int)) = tag_Lowest_j1 x (Nat.gcd a b : Nat) := by
  have h := fix_of (F := fun next2 s => tag_Lowest_l2 x next2 s.1 s.2) (fun s => tag_Lowest_j1 x (Nat.gcd s.1.toNat s.2.toNat : Nat)) (fun s => 0 ≤ s.1 ∧ 0 ≤ s.2) (fun s => s.2.toNat) (by
    rintro next ⟨a, b⟩ ⟨ha, hb⟩ ih
    simp only at ha hb
    obtain ⟨a, rfl⟩ := Int.eq_ofNat_of_zero_le ha
    obtain ⟨b, rfl⟩ := Int.eq_ofNat_of_zero_le hb
    show tag_Lowest_l2 x next a b = tag_Lowest_j1 x (Nat.gcd a b : Nat)
    unfold tag_Lowest_l2
    rw [cnd_if]
    by_cases h0 : b = 0
    · subst h0
      simp
    · rw [if_pos (by omega), gRem_nn (by omega) (by omega), bnd_pure]
      have hlt := Nat.mod_lt a (show 0 < b by omega)
      have := ih ((b : Int), ((a : Int) % b)) ⟨by simp, by simp only; omega⟩ (by
        show ((a : Int) % b).toNat < (b : Int).toNat
        rw [modC]; exact hlt)
      rw [this]
      simp only
      rw [modC]
      simp only [Int.toNat_natCast]
      rw [Nat.gcd_comm a b, Nat.gcd_rec b a, Nat.gcd_comm]) ((a : Int), (b : Int)) ⟨by simp, by simp⟩
  simpa using h

theorem simplest_l2 (x : T_tag_Ratio) (a b : Nat) : fix (fun next2 s => R_Simplest_l2 x next2 s.1 s.2) ((a : Int), (b : Int)) = R_Simplest_j1 x (Nat.gcd a b : Nat) := by
  have h := fix_of (F := fun next2 s => R_Simplest_l2 x next2 s.1 s.2) (fun s => R_Simplest_j1 x (Nat.gcd s.1.toNat s.2.toNat : Nat)) (fun s => 0 ≤ s.1 ∧ 0 ≤ s.2) (fun s => s.1.toNat) (by
    rintro next ⟨a, b⟩ ⟨ha, hb⟩ ih
    simp only at ha hb
    obtain ⟨a, rfl⟩ := Int.eq_ofNat_of_zero_le ha
    obtain ⟨b, rfl⟩ := Int.eq_ofNat_of_zero_le hb
    show R_Simplest_l2 x next a b = R_Simplest_j1 x (Nat.gcd a b : Nat)
    unfold R_Simplest_l2
    rw [cnd_if]
    by_cases h0 : a = 0
    · subst h0
      simp
    · rw [if_pos (by omega), gRem_nn (by omega) (by omega), bnd_pure]
      have hlt := Nat.mod_lt b (show 0 < a by omega)
      have := ih (((b : Int) % a), (a : Int)) ⟨by simp only; omega, by simp⟩ (by
        show ((b : Int) % a).toNat < (a : Int).toNat
        rw [modC]; exact hlt)
      rw [this]
      simp only
      rw [modC]
      simp only [Int.toNat_natCast]
      rw [← Nat.gcd_rec]) ((a : Int), (b : Int)) ⟨by simp, by simp⟩
  simpa using h

theorem lowest_eq (x : T_tag_Ratio) : tag_Lowest x = some (if okR x then (low x, 0) else (⟨0, 0⟩, 2)) := by
  unfold tag_Lowest
  rw [check_t, bnd_pure, cnd_if]
  by_cases h : okR x
  · rw [if_pos h, if_neg (by decide), if_pos h]
    obtain ⟨⟨h1, h2⟩, h3, h4⟩ := h
    have e1 : x.Num = (x.Num.toNat : Int) := by omega
    have e2 : x.Den = (x.Den.toNat : Int) := by omega
    have := lowest_l2 x x.Num.toNat x.Den.toNat
    rw [← e1, ← e2] at this
    rw [this]
    have hg := gcd_pos (a := x.Num.toNat) (b := x.Den.toNat) (by omega)
    unfold tag_Lowest_j1 low
    rw [gQuo_nn (by omega) (by omega), bnd_pure, gQuo_nn (by omega) (by omega), bnd_pure]
  · rw [if_neg h, if_pos (by decide), if_neg h]

theorem isLong_eq (n : Int) : R_isLong n = some (decide (0 ≤ n ∧ n ≤ 4294967295)) := by
  unfold R_isLong
  rw [cnd_if]; by_cases h : 0 ≤ n <;> simp [h]

theorem simplest_eq (x : T_tag_Ratio) : R_Simplest x = tag_Lowest x := by
  rw [lowest_eq]
  unfold R_Simplest
  simp only [isLong_eq, bnd_pure]
  by_cases h1 : 0 ≤ x.Num ∧ x.Num ≤ 4294967295
  · by_cases h2 : 0 ≤ x.Den ∧ x.Den ≤ 4294967295
    · rw [decide_eq_true h1, decide_eq_true h2]
      simp only [Bool.not_true, cnd_false, cnd_if]
      by_cases h3 : x.Den = 0
      · rw [if_pos h3, if_neg (by unfold okR; omega)]
      · rw [if_neg h3, if_pos (by unfold okR; omega)]
        have e1 : x.Num = (x.Num.toNat : Int) := by omega
        have e2 : x.Den = (x.Den.toNat : Int) := by omega
        have := simplest_l2 x x.Num.toNat x.Den.toNat
        rw [← e1, ← e2] at this
        rw [this]
        have hg := gcd_pos (a := x.Num.toNat) (b := x.Den.toNat) (by omega)
        unfold R_Simplest_j1 low
        rw [gQuo_nn (by omega) (by omega), bnd_pure, gQuo_nn (by omega) (by omega), bnd_pure]
    · rw [decide_eq_true h1, decide_eq_false h2, if_neg (by unfold okR; omega)]; rfl
  · rw [decide_eq_false h1, if_neg (by unfold okR; omega)]; rfl

/-! ### the product of some numbers -/

def prods (l : List Int) : Int := l.foldl (· * ·) 1

theorem product_eq (l : List Int) (hl : l.length ≤ 10) (hb : ∀ x ∈ l, 0 ≤ x ∧ x ≤ 18446744073709551615) (hp : ∀ k, in128 (prods (l.take k))) : tag_product l = some (wd (prods l)) := by
  unfold tag_product
  have h := up2 (σ := Int × Int) (F := fun next2 s => tag_product_l2 l next2 s.1 s.2.1 s.2.2) l.length (fun k s => some (wd (prods l))) (fun k s => s = (hiW (prods (l.take k)), loW (prods (l.take k)))) (fun next k s hk hI ih => by
    subst hI
    show tag_product_l2 l next k (hiW (prods (l.take k))) (loW (prods (l.take k))) = _
    unfold tag_product_l2
    by_cases h : k < l.length
    · have e : prods (l.take (k + 1)) = prods (l.take k) * l[k] := by
        unfold prods
        rw [List.take_add_one, List.getElem?_eq_getElem h, List.foldl_append]; rfl
      have ht := tag_times (hp k) (hb l[k] (List.getElem_mem h)) (by rw [← e]; exact hp (k + 1))
      unfold wd at ht
      simp (disch := omega) only [cnd_if, gAt_nat, bnd_pure, if_pos, gI_ok, ht]
      rw [ih _ h (by rw [e])]
    · simp (disch := omega) only [cnd_if, if_neg]
      unfold tag_product_j1 wd
      rw [List.take_of_length_le (by omega)]) (0, 1) (by simp [prods]; decide)
  exact h

end Go.M
