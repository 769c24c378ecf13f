/- Numbers and values as octets, values checked, in plain Lean. Conditions: none. -/
import Derived.Test.YtgjpnjncfilgnaaGreatDoorMd
import Derived.Test.YtgjpnjncfilgnaaGreatDoorKRc
import Derived.Test.YtgjpnjncfilgnaaGreatDoorLx2
import Derived.Lib.LaidTab
import Derived.MakeChecks
import Derived.ProofKit
import Derived.OpenShut
import Derived.ChangeArms
import Derived.DataReads
import Derived.SizedLaws
namespace Go.M
open Go.Md Go.Pl
theorem cI {α : Type} {p : Prop} [Decidable p] {x y : Option α} : Qp (decide p) x y = if p then x else y := cnd_if ..
theorem fix_ofG {α ρ γ : Type} {F : (α → Option ρ) → α → Option ρ} (spec : γ → α → Option ρ) (I : γ → α → Prop) (μ : γ → Nat)
  (step : ∀ (next : α → Option ρ) (g : γ) (a : α), I g a → (∀ g' b, I g' b → μ g' < μ g → next b = spec g' b) → F next a = spec g a) (g : γ) (a : α) (ha : I g a) : Z3 F a = spec g a := by
 have key : ∀ (n : Nat) (g : γ) (a : α), I g a → μ g < n → it F n a = spec g a := by
  intro n
  induction n with
  | zero => intro g a _ h; omega
  | succ n ih => intro g a ha h; exact step _ g a ha fun g' b hb hlt => ih g' b hb (by omega)
 exact fix_ev (k := μ g + 1) fun n hn => key n g a ha (by omega)
theorem Wj (a b : List UInt8) : Xs (a ++ b) = Xs a ++ Xs b := List.map_append
theorem Xv (a : List UInt8) : (Xs a).length = a.length := List.length_map _
theorem toStr_ofStr (a : List UInt8) : toStr (Xs a) = a := by
 unfold toStr Xs
 rw [List.map_map]
 conv => rhs; rw [← List.map_id a]
 apply List.map_congr_left
 intro c _
 show UInt8.ofNat ((c.toNat : Int).toNat) = c
 rw [Int.toNat_natCast, UInt8.ofNat_toNat]
theorem ofStr_toStr {l : List Int} (h : ∀ x ∈ l, 0 ≤ x ∧ x ≤ 255) : Xs (toStr l) = l := by
 unfold toStr Xs
 rw [List.map_map]
 conv => rhs; rw [← List.map_id l]
 apply List.map_congr_left
 intro c hc
 have := h c hc
 show (((UInt8.ofNat c.toNat).toNat : Nat) : Int) = c
 rw [UInt8.toNat_ofNat']
 omega
theorem num_ex (big : Bool) (n : Int) (k : Nat) (hk : k ≤ 8) : ∃ L : List Int, Zl big n k = some L ∧ Yr big n k = some (toStr L) ∧ L.length = k ∧ (∀ x ∈ L, 0 ≤ x ∧ x ≤ 255) ∧ (n = 0 → ∀ x ∈ L, x = 0) := by
 have key : ∀ m i : Nat, i + m = k → ∀ l : List Int, l.length = k → (∀ x ∈ l, 0 ≤ x ∧ x ≤ 255) → (n = 0 → ∀ x ∈ l, x = 0) →
   ∃ L : List Int, Z3 (fun next1 s => W0 big n k (List.replicate k 0) next1 s.1 s.2) ((i : Int), l) = some L ∧ Z3 (fun next2 s => Vf big n k (List.replicate k 0) next2 s.1 s.2) ((i : Int), l) = some (toStr L) ∧ L.length = k ∧ (∀ x ∈ L, 0 ≤ x ∧ x ≤ 255) ∧ (n = 0 → ∀ x ∈ L, x = 0) := by
  intro m
  induction m with
  | zero =>
   intro i hi l hl hx hz
   refine ⟨l, Qq fun next => ?_, Qq fun next => ?_, hl, hx, hz⟩
   ·show W0 big n k _ next (i : Int) l = _
    unfold W0
    rw [cI, if_neg (by rw [List.length_replicate]; omega)]
   ·show Vf big n k _ next (i : Int) l = _
    unfold Vf
    rw [cI, if_neg (by rw [List.length_replicate]; omega)]; rfl
  | succ m ih =>
   intro i hi l hl hx hz
   have hs : ∃ y : Int, gShr 64 n (8 * (i : Int)) = some y ∧ (n = 0 → y = 0) := by
    refine ⟨n / 2 ^ min (8 * (i : Int)).toNat 64, if_pos (by omega), fun e => by rw [e]; exact Int.zero_ediv _⟩
   obtain ⟨y, hy, hy0⟩ := hs
   have hp : ∃ q : Nat, q < k ∧ (∀ (next : Int × List Int → Option (List Int)), W0 big n k (List.replicate k 0) next (i : Int) l = next ((i : Int) + 1, l.set q (wU8 y))) ∧ (∀ (next : Int × List Int → Option (List UInt8)), Vf big n k (List.replicate k 0) next (i : Int) l = next ((i : Int) + 1, l.set q (wU8 y))) := by
    cases big
    ·refine ⟨i, by omega, fun next => ?_, fun next => ?_⟩
     ·unfold W0
      rw [cI, if_pos (by rw [List.length_replicate]; omega), Qr]
      unfold Ja5
      rw [J2 (by omega), Jd, hy, Jd, Xl (by omega), Jd, gSet_ok (by omega) (by omega), Jd, J2 (by omega), Jd, Int.toNat_natCast]
     ·unfold Vf
      rw [cI, if_pos (by rw [List.length_replicate]; omega), Qr]
      unfold Jat
      rw [J2 (by omega), Jd, hy, Jd, Xl (by omega), Jd, gSet_ok (by omega) (by omega), Jd, J2 (by omega), Jd, Int.toNat_natCast]
    ·refine ⟨k - 1 - i, by omega, fun next => ?_, fun next => ?_⟩
     ·unfold W0
      rw [cI, if_pos (by rw [List.length_replicate]; omega), Qu, J2 (by omega), Jd, J2 (by omega), Jd]
      unfold Ja5
      rw [J2 (by omega), Jd, hy, Jd, gAt_ok (by omega) (by omega), Jd, gSet_ok (by omega) (by omega), Jd, J2 (by omega), Jd, show ((k : Int) - 1 - (i : Int)).toNat = k - 1 - i from by omega]
     ·unfold Vf
      rw [cI, if_pos (by rw [List.length_replicate]; omega), Qu, J2 (by omega), Jd, J2 (by omega), Jd]
      unfold Jat
      rw [J2 (by omega), Jd, hy, Jd, gAt_ok (by omega) (by omega), Jd, gSet_ok (by omega) (by omega), Jd, J2 (by omega), Jd, show ((k : Int) - 1 - (i : Int)).toNat = k - 1 - i from by omega]
   obtain ⟨q, hq, h1, h2⟩ := hp
   obtain ⟨L, a1, a2, a3, a4, a5⟩ := ih (i + 1) (by omega) (l.set q (wU8 y)) (by rw [List.length_set]; exact hl) (fun x hxm => by
    rcases List.mem_or_eq_of_mem_set hxm with h | h
    ·exact hx x h
    ·rw [h]; unfold wU8; omega) (fun e x hxm => by
    rcases List.mem_or_eq_of_mem_set hxm with h | h
    ·exact hz e x h
    ·rw [h, hy0 e]; rfl)
   exact ⟨L, (Xi _ h1).trans a1, (Xi _ h2).trans a2, a3, a4, a5⟩
 obtain ⟨L, a1, a2, a3⟩ := key k 0 (by omega) (List.replicate k 0) (by simp) (fun x hx => by rw [(List.mem_replicate.1 hx).2]; omega) (fun _ x hx => (List.mem_replicate.1 hx).2)
 refine ⟨L, ?_, ?_, a3⟩
 ·unfold Zl
  rw [gMake_ok (by omega), Jd, Int.toNat_natCast]; exact a1
 ·unfold Yr
  rw [gMake_ok (by omega), Jd, Int.toNat_natCast]; exact a2
noncomputable def Zi (big : Bool) (n : Int) (k : Nat) : List UInt8 := toStr ((Zl big n k).getD [])
theorem num_tag (big : Bool) (n : Int) {k : Nat} (hk : k ≤ 8) : Zl big n k = some (Xs (Zi big n k)) := by
 obtain ⟨L, h1, _, _, h4, _⟩ := num_ex big n k hk
 unfold Zi
 rw [h1, Option.getD_some, ofStr_toStr h4]
theorem num_R (big : Bool) (n : Int) {k : Nat} (hk : k ≤ 8) : Yr big n k = some (Zi big n k) := by
 obtain ⟨L, h1, h2, _⟩ := num_ex big n k hk
 unfold Zi
 rw [h1, Option.getD_some, h2]
theorem X1 (big : Bool) (n : Int) {k : Nat} (hk : k ≤ 8) : (Zi big n k).length = k := by
 obtain ⟨L, h1, _, h3, _⟩ := num_ex big n k hk
 unfold Zi toStr
 rw [h1, Option.getD_some, List.length_map, h3]
theorem num_zero (big : Bool) {k : Nat} (hk : k ≤ 8) : Zi big 0 k = List.replicate k 0 := by
 obtain ⟨L, h1, _, h3, _, h5⟩ := num_ex big 0 k hk
 have : L = List.replicate k 0 := List.eq_replicate_iff.2 ⟨h3, h5 rfl⟩
 unfold Zi toStr
 rw [h1, Option.getD_some, this, List.map_replicate]; rfl
theorem tag2 (big : Bool) (n : Int) : Zl big n 2 = some (Xs (Zi big n 2)) := num_tag big n (k := 2) (by omega)
theorem tag4 (big : Bool) (n : Int) : Zl big n 4 = some (Xs (Zi big n 4)) := num_tag big n (k := 4) (by omega)
theorem R2 (big : Bool) (n : Int) : Yr big n 2 = some (Zi big n 2) := num_R big n (k := 2) (by omega)
theorem R4 (big : Bool) (n : Int) : Yr big n 4 = some (Zi big n 4) := num_R big n (k := 4) (by omega)
def Qb (k : Int) : Nat := if k = 1 ∨ k = 2 ∨ k = 7 then 1 else if k = 3 then 2 else if k = 4 ∨ k = 9 then 4 else if k = 5 then 8 else 0
theorem U1 (k : Int) : Qb k ≤ 8 := by unfold Qb; (repeat' split) <;> omega
theorem sizeOf_eq (k : Int) : Z9 k = some (if k = 13 then 1 else (Qb k : Int)) := by
 unfold Z9 W1 Qb
 by_cases h1 : k = 1
 ·subst h1; rfl
 by_cases h2 : k = 2
 ·subst h2; rfl
 by_cases h3 : k = 3
 ·subst h3; rfl
 by_cases h4 : k = 4
 ·subst h4; rfl
 by_cases h5 : k = 5
 ·subst h5; rfl
 by_cases h7 : k = 7
 ·subst h7; rfl
 by_cases h9 : k = 9
 ·subst h9; rfl
 by_cases h13 : k = 13
 ·subst h13; rfl
 simp [h1, h2, h3, h4, h5, h7, h9, h13, Qr]
theorem wide_eq (k : Int) : R_wide k = some (if k = 13 then 4 else (Qb k : Int)) := by
 unfold R_wide R_wide_j1 Qb
 by_cases h1 : k = 1
 ·subst h1; rfl
 by_cases h2 : k = 2
 ·subst h2; rfl
 by_cases h3 : k = 3
 ·subst h3; rfl
 by_cases h4 : k = 4
 ·subst h4; rfl
 by_cases h5 : k = 5
 ·subst h5; rfl
 by_cases h7 : k = 7
 ·subst h7; rfl
 by_cases h9 : k = 9
 ·subst h9; rfl
 by_cases h13 : k = 13
 ·subst h13; rfl
 simp [h1, h2, h3, h4, h5, h7, h9, h13, Qr]
def intsK (k : Int) : Prop := k = 1 ∨ k = 3 ∨ k = 4 ∨ k = 9
def textK (k : Int) : Prop := k = 2 ∨ k = 7
instance (k : Int) : Decidable (intsK k) := by unfold intsK; infer_instance
instance (k : Int) : Decidable (textK k) := by unfold textK; infer_instance
def kindP (k : Int) : Prop := intsK k ∨ textK k ∨ k = 5 ∨ k = 13
instance (k : Int) : Decidable (kindP k) := by unfold kindP; infer_instance
def formP (v : T_tag_Value) : Prop := (¬ intsK v.Kind ∧ v.Ints ≠ []) ∨ (¬ textK v.Kind ∧ v.Text ≠ []) ∨ (v.Kind ≠ 5 ∧ v.Ratios ≠ []) ∨ (v.Kind ≠ 13 ∧ v.Entries ≠ [])
noncomputable def Ut (v : T_tag_Value) : Int := open Classical in if ¬ kindP v.Kind then 10 else if formP v then 1 else 0
theorem ne_len {α : Type} (l : List α) : (0 : Int) < (l.length : Int) ↔ l ≠ [] := by
 cases l <;> simp <;> omega
theorem wide_zero (k : Int) (h : k ≠ 13) : (Qb k : Int) = 0 ↔ ¬ kindP k := by
 unfold Qb kindP intsK textK
 split
 ·omega
 ·split
  ·omega
  ·split
   ·omega
   ·split <;> omega
theorem j3_fields (v : T_tag_Value) (b : Bool) : Z4 v b = some (open Classical in if b = true ∨ (v.Kind ≠ 13 ∧ v.Entries ≠ []) then 1 else 0) := by
 unfold Z4
 cases b
 ·rw [Qr, cI, cI]
  by_cases h1 : v.Kind ≠ 13
  ·by_cases h2 : v.Entries = []
   ·rw [if_pos h1, if_neg (by rw [ne_len]; simpa using h2), if_neg (by simp [h2])]
   ·rw [if_pos h1, if_pos ((ne_len _).2 h2), if_pos (.inr ⟨h1, h2⟩)]
  ·rw [if_neg h1, if_neg (by simp [h1])]
 ·rw [Qu, Qu, if_pos (.inl rfl)]
theorem j2_fields (v : T_tag_Value) (b : Bool) : Z5 v b = some (open Classical in if b = true ∨ (v.Kind ≠ 5 ∧ v.Ratios ≠ []) ∨ (v.Kind ≠ 13 ∧ v.Entries ≠ []) then 1 else 0) := by
 unfold Z5
 cases b
 ·rw [Qr, cI, j3_fields, j3_fields]
  by_cases h1 : v.Kind ≠ 5
  ·rw [if_pos h1]
   congr 1
   by_cases h2 : v.Ratios = []
   ·simp [h2]
   ·simp [h2, h1, List.length_pos_iff]
  ·rw [if_neg h1]; simp [h1]
 ·rw [Qu, Qu, if_pos (.inl rfl)]
theorem j1_fields (v : T_tag_Value) (b : Bool) : Z7 v b = some (open Classical in if b = true ∨ (¬ textK v.Kind ∧ v.Text ≠ []) ∨ (v.Kind ≠ 5 ∧ v.Ratios ≠ []) ∨ (v.Kind ≠ 13 ∧ v.Entries ≠ []) then 1 else 0) := by
 have ht : tag_isText v.Kind = some (decide (textK v.Kind)) := by
  unfold tag_isText textK
  rw [cI]
  by_cases h : v.Kind = 2
  ·simp [h]
  ·simp [h]
 unfold Z7
 cases b
 ·rw [Qr, ht, Jd, j2_fields, j2_fields]
  by_cases h1 : textK v.Kind
  ·rw [decide_eq_true h1]
   show Qp false _ _ = _
   rw [Qr]; simp [h1]
  ·rw [decide_eq_false h1]
   show Qp true _ _ = _
   rw [Qu]; simp [h1]
 ·rw [Qu, Qu, if_pos (.inl rfl)]
theorem checkFields_eq (v : T_tag_Value) : Uj v = some (Ut v) := by
 have hi : tag_isInts v.Kind = some (decide (intsK v.Kind)) := by
  unfold tag_isInts intsK
  rw [cI, cI, cI]
  by_cases h : v.Kind = 1
  ·simp [h]
  by_cases h3 : v.Kind = 3
  ·simp [h3]
  by_cases h4 : v.Kind = 4
  ·simp [h4]
  simp [h, h3, h4]
 unfold Uj Ut
 rw [sizeOf_eq, Jd, cI]
 by_cases hk : kindP v.Kind
 ·have hz : ¬ (if v.Kind = 13 then (1 : Int) else (Qb v.Kind : Int)) = 0 := by
   by_cases h13 : v.Kind = 13
   ·rw [if_pos h13]; omega
   ·rw [if_neg h13]; exact fun e => (wide_zero _ h13).1 e hk
  rw [if_neg hz, hi, Jd, j1_fields, j1_fields, if_neg (show ¬ ¬ kindP v.Kind from fun h => h hk)]
  by_cases h1 : intsK v.Kind
  ·rw [decide_eq_true h1]
   show Qp false _ _ = _
   rw [Qr]; unfold formP; simp [h1]
  ·rw [decide_eq_false h1]
   show Qp true _ _ = _
   rw [Qu]; unfold formP; simp [h1, List.length_pos_iff]
 ·have h13 : v.Kind ≠ 13 := fun e => hk (.inr (.inr (.inr e)))
  rw [if_neg h13, if_pos ((wide_zero _ h13).2 hk), if_pos hk]
def limS (k : Int) : Int × Int := if k = 1 then (0, 255) else if k = 3 then (0, 65535) else if k = 9 then (-2147483648, 2147483647) else (0, 4294967295)
theorem bounds_eq (k : Int) : tag_bounds k = some (limS k) := by
 unfold tag_bounds limS
 rw [cI, cI, cI]; (repeat' split) <;> rfl
theorem limits_eq (k : Int) : R_limits k = some (limS k) := by
 unfold R_limits limS
 rw [cI, cI, cI]; (repeat' split) <;> rfl
theorem out_tag (a b c : Int) : Uv a b c = some (decide (a < b ∨ c < a)) := by
 unfold Uv
 rw [cI]
 by_cases h : a < b
 ·rw [if_pos h]; simp [h]
 ·rw [if_neg h]; simp [h]
def ratP (r : T_tag_Ratio) : Prop := (r.Num < 0 ∨ 4294967295 < r.Num) ∨ (r.Den < 0 ∨ 4294967295 < r.Den)
noncomputable def plainE (v : T_tag_Value) : Int := open Classical in
 if Ut v ≠ 0 then Ut v else if ∃ n ∈ v.Ints, n < (limS v.Kind).1 ∨ (limS v.Kind).2 < n then 2 else if ∃ r ∈ v.Ratios, ratP r then 2 else if v.Kind = 2 ∧ (0 : UInt8) ∈ v.Text then 9 else 0
theorem look_loop {α : Type} {F : (Int → Option Int) → Int → Option Int} (xs : List α) (p : α → Prop) (e : Int) (o : Option Int) (more : ∀ (next : Int → Option Int) (k : Nat) (hk : k < xs.length), (p xs[k] → F next (k : Int) = some e) ∧ (¬ p xs[k] → F next (k : Int) = next ((k : Int) + 1))) (stop : ∀ next, F next (xs.length : Int) = o) :
  Z3 F 0 = open Classical in if ∃ x ∈ xs, p x then some e else o := by
 have key : ∀ m i : Nat, i + m = xs.length → Z3 F (i : Int) = open Classical in if ∃ x ∈ xs.drop i, p x then some e else o := by
  intro m
  induction m with
  | zero =>
   intro i hi
   have : i = xs.length := by omega
   subst this
   rw [List.drop_length, if_neg (by simp)]
   exact Qq stop
  | succ m ih =>
   intro i hi
   have hlt : i < xs.length := by omega
   rw [List.drop_eq_getElem_cons hlt]
   by_cases hp : p xs[i]
   ·rw [if_pos ⟨_, List.mem_cons_self, hp⟩]
    exact Qq fun next => (more next i hlt).1 hp
   ·rw [Xi ((i : Int) + 1) (fun next => (more next i hlt).2 hp)]
    have := ih (i + 1) (by omega)
    rw [show ((i : Int) + 1) = ((i + 1 : Nat) : Int) from rfl, this]
    congr 1
    apply propext
    constructor
    ·rintro ⟨x, hx, h⟩; exact ⟨x, List.mem_cons_of_mem _ hx, h⟩
    ·rintro ⟨x, hx, h⟩
     rcases List.mem_cons.1 hx with h' | h'
     ·subst h'; exact absurd h hp
     ·exact ⟨x, h', h⟩
 have := key xs.length 0 (by omega)
 rw [List.drop_zero] at this
 exact this
def vB (v : T_tag_Value) : Prop := v.Text.length ≤ 2000000 ∧ v.Ints.length ≤ 2000000 ∧ v.Ratios.length ≤ 2000000
theorem j2_plain {v : T_tag_Value} (hb : vB v) : Vk v = some (open Classical in if v.Kind = 2 ∧ (0 : UInt8) ∈ v.Text then 9 else 0) := by
 unfold Vk
 rw [cI]
 by_cases h2 : v.Kind = 2
 ·rw [if_pos h2, look_loop v.Text (fun c => c = 0) 9 (some 0) (fun next k hk => ?_) (fun next => ?_)]
  ·congr 1
   by_cases hm : (0 : UInt8) ∈ v.Text
   ·rw [if_pos ⟨0, hm, rfl⟩, if_pos ⟨h2, hm⟩]
   ·rw [if_neg (fun ⟨x, hx, e⟩ => hm (e ▸ hx)), if_neg (fun h => hm h.2)]
  ·show (_ → Ye v next (k : Int) = _) ∧ (_ → Ye v next (k : Int) = _)
   have := hb.1
   unfold Ye
   rw [cI, if_pos (by omega), Jag hk, Jd, cI]
   constructor
   ·intro e; rw [if_pos (by rw [e]; rfl)]
   ·intro e
    have : v.Text[k].toNat ≠ 0 := fun h => e (by rw [← UInt8.ofNat_toNat (x := v.Text[k]), h]; rfl)
    rw [if_neg (by omega), J2 (by omega), Jd]
  ·show Ye v next (v.Text.length : Int) = _
   unfold Ye
   rw [cI, if_neg (by omega)]
 ·rw [if_neg h2, if_neg (fun h => h2 h.1)]
theorem checkPlain_eq {v : T_tag_Value} (hb : vB v) : Jay v = some (plainE v) := by
 unfold Jay plainE
 rw [checkFields_eq, Jd, cI]
 by_cases hf : Ut v ≠ 0
 ·rw [if_pos hf, if_pos hf]
 rw [if_neg hf, if_neg hf, bounds_eq, Jd]
 rw [look_loop (F := fun next5 s => X0 v (limS v.Kind) next5 s) v.Ints (fun n => n < (limS v.Kind).1 ∨ (limS v.Kind).2 < n) 2 (Vl v) (fun next k hk => ?_) (fun next => ?_)]
 ·have e1 : Vl v = some (open Classical in if ∃ r ∈ v.Ratios, ratP r then 2 else if v.Kind = 2 ∧ (0 : UInt8) ∈ v.Text then 9 else 0) := by
   unfold Vl
   rw [look_loop (F := fun next4 s => X2 v next4 s) v.Ratios ratP 2 (Vk v) (fun next k hk => ?_) (fun next => ?_), j2_plain hb]
   ·split <;> rfl
   ·show (_ → X2 v next (k : Int) = _) ∧ (_ → X2 v next (k : Int) = _)
    have := hb.2.2
    unfold X2 ratP
    rw [cI, if_pos (by omega), Xl hk, Jd, out_tag, Jd, cI, out_tag, Jd, cI]
    constructor
    ·intro e
     by_cases h1 : v.Ratios[k].Num < 0 ∨ 4294967295 < v.Ratios[k].Num
     ·rw [if_pos h1]
     ·rw [if_neg h1, if_pos (e.resolve_left h1)]
    ·intro e
     rw [if_neg (fun h => e (.inl h)), if_neg (fun h => e (.inr h)), J2 (by omega), Jd]
   ·show X2 v next (v.Ratios.length : Int) = _
    unfold X2
    rw [cI, if_neg (by omega)]
  rw [e1]; split <;> rfl
 ·show (_ → X0 v _ next (k : Int) = _) ∧ (_ → X0 v _ next (k : Int) = _)
  have := hb.2.1
  unfold X0
  rw [cI, if_pos (by omega), Xl hk, Jd, out_tag, Jd, cI]
  constructor
  ·intro e; rw [if_pos e]
  ·intro e; rw [if_neg e, J2 (by omega), Jd]
 ·show X0 v _ next (v.Ints.length : Int) = _
  unfold X0
  rw [cI, if_neg (by omega)]
theorem ixB_mem (c : UInt8) (t : List UInt8) : -1 ≤ ixB t c ∧ (0 ≤ ixB t c ↔ c ∈ t) := by
 induction t with
 | nil => exact ⟨by unfold ixB; omega, by simp [ixB]⟩
 | cons b t ih =>
  unfold ixB
  by_cases hb : b = c
  ·rw [if_pos hb]; exact ⟨by omega, fun _ => by simp [hb], fun _ => by omega⟩
  ·rw [if_neg hb]
   have hc : ¬ c = b := fun e => hb e.symm
   rw [List.mem_cons]
   by_cases h1 : ixB t c = -1
   ·rw [if_pos h1]
    exact ⟨by omega, fun h => by omega, fun h => by have := ih.2.2 (h.resolve_left hc); omega⟩
   ·rw [if_neg h1]
    exact ⟨by omega, fun h => .inr (ih.2.1 (by omega)), fun h => by have := ih.2.2 (h.resolve_left hc); omega⟩
theorem j2_fault {v : T_tag_Value} (hb : vB v) (h13 : v.Kind ≠ 13) : X9 v = some (open Classical in if ∃ n ∈ v.Ints, n < (limS v.Kind).1 ∨ (limS v.Kind).2 < n then 2 else if ∃ r ∈ v.Ratios, ratP r then 2 else if v.Kind = 2 ∧ (0 : UInt8) ∈ v.Text then 9 else 0) := by
 have e4 : Wf v = some (open Classical in if v.Kind = 2 ∧ (0 : UInt8) ∈ v.Text then 9 else 0) := by
  unfold Wf Ui
  rw [cI, cI, if_neg h13]
  by_cases h2 : v.Kind = 2
  ·rw [if_pos h2]
   unfold Wu Yz
   have hx : gIxB v.Text 0 = some (ixB v.Text 0) := by unfold gIxB; rfl
   have hm := (ixB_mem 0 v.Text).2
   rw [hx, Jd, Jd, Jd, cI]
   by_cases h0 : (0 : UInt8) ∈ v.Text
   ·rw [if_pos (hm.2 h0), if_pos ⟨h2, h0⟩]
   ·rw [if_neg (fun h => h0 (hm.1 h)), if_neg (fun h => h0 h.2)]
  ·rw [if_neg h2, if_neg (fun h => h2 h.1)]
 have e3 : Wm v = some (open Classical in if ∃ r ∈ v.Ratios, ratP r then 2 else if v.Kind = 2 ∧ (0 : UInt8) ∈ v.Text then 9 else 0) := by
  unfold Wm
  rw [look_loop (F := fun next6 s => Yk v next6 s) v.Ratios ratP 2 (Wf v) (fun next k hk => ?_) (fun next => ?_), e4]
  ·split <;> rfl
  ·show (_ → Yk v next (k : Int) = _) ∧ (_ → Yk v next (k : Int) = _)
   have := hb.2.2
   unfold Yk ratP
   rw [cI, if_pos (by omega), Xl hk, Jd, cI, cI, cI, cI]
   constructor
   ·intro e
    by_cases h1 : v.Ratios[k].Num < 0
    ·rw [if_pos h1]
    by_cases h2 : 4294967295 < v.Ratios[k].Num
    ·rw [if_neg h1, if_pos h2]
    by_cases h3 : v.Ratios[k].Den < 0
    ·rw [if_neg h1, if_neg h2, if_pos h3]
    rw [if_neg h1, if_neg h2, if_neg h3, if_pos (by omega)]
   ·intro e
    rw [if_neg (by omega), if_neg (by omega), if_neg (by omega), if_neg (by omega), J2 (by omega), Jd]
  ·show Yk v next (v.Ratios.length : Int) = _
   unfold Yk
   rw [cI, if_neg (by omega)]
 unfold X9
 rw [limits_eq, Jd]
 rw [look_loop (F := fun next7 s => Yj v (limS v.Kind) next7 s) v.Ints (fun n => n < (limS v.Kind).1 ∨ (limS v.Kind).2 < n) 2 (Wm v) (fun next k hk => ?_) (fun next => ?_), e3]
 ·split <;> rfl
 ·show (_ → Yj v _ next (k : Int) = _) ∧ (_ → Yj v _ next (k : Int) = _)
  have := hb.2.1
  unfold Yj
  rw [cI, if_pos (by omega), Xl hk, Jd, cI, cI]
  constructor
  ·intro e
   by_cases h1 : v.Ints[k] < (limS v.Kind).1
   ·rw [if_pos h1]
   ·rw [if_neg h1, if_pos (e.resolve_left h1)]
  ·intro e
   rw [if_neg (fun h => e (.inl h)), if_neg (fun h => e (.inr h)), J2 (by omega), Jd]
 ·show Yj v _ next (v.Ints.length : Int) = _
  unfold Yj
  rw [cI, if_neg (by omega)]
theorem j10_fault (v : T_tag_Value) (b : Bool) : V4 v b = open Classical in if b = true ∨ (v.Kind ≠ 13 ∧ v.Entries ≠ []) then some 1 else X9 v := by
 unfold V4
 cases b
 ·rw [Qr, cI, cI]
  by_cases h2 : v.Entries = []
  ·rw [if_neg (by rw [ne_len]; simpa using h2), if_neg (by simp [h2])]
  ·rw [if_pos ((ne_len _).2 h2)]
   by_cases h1 : v.Kind = 13
   ·rw [if_neg (by simpa using h1), if_neg (by simp [h1])]
   ·rw [if_pos h1, if_pos (.inr ⟨h1, h2⟩)]
 ·rw [Qu, Qu, if_pos (.inl rfl)]
theorem j9_fault (v : T_tag_Value) (b : Bool) : Wh v b = open Classical in if b = true ∨ (v.Kind ≠ 5 ∧ v.Ratios ≠ []) ∨ (v.Kind ≠ 13 ∧ v.Entries ≠ []) then some 1 else X9 v := by
 unfold Wh
 cases b
 ·rw [Qr, cI, j10_fault, j10_fault]
  by_cases h2 : v.Ratios = []
  ·rw [if_neg (by rw [ne_len]; simpa using h2)]; simp [h2]
  ·rw [if_pos ((ne_len _).2 h2)]; simp [h2]
 ·rw [Qu, Qu, if_pos (.inl rfl)]
theorem j8_fault (v : T_tag_Value) (x4 b : Bool) : We v x4 b = open Classical in if b = true ∨ (x4 = false ∧ v.Ints ≠ []) ∨ (v.Kind ≠ 5 ∧ v.Ratios ≠ []) ∨ (v.Kind ≠ 13 ∧ v.Entries ≠ []) then some 1 else X9 v := by
 unfold We
 cases b
 ·rw [Qr, cI, j9_fault, j9_fault]
  by_cases h2 : v.Ints = []
  ·rw [if_neg (by rw [ne_len]; simpa using h2)]; simp [h2]
  ·rw [if_pos ((ne_len _).2 h2)]; cases x4 <;> simp [h2]
 ·rw [Qu, Qu, if_pos (.inl rfl)]
theorem ValueFault_eq {v : T_tag_Value} (hb : vB v) (h13 : v.Kind ≠ 13) : Jax v = some (plainE v) := by
 have e : Jax v = Ya v (decide (textK v.Kind)) (decide (intsK v.Kind)) := by
  unfold Jax textK intsK
  by_cases h2 : v.Kind = 2
  ·simp [h2, Qu, Qr]
  by_cases h1 : v.Kind = 1
  ·simp [h1, Qu, Qr]
  by_cases h3 : v.Kind = 3
  ·simp [h3, Qu, Qr]
  by_cases h4 : v.Kind = 4
  ·simp [h4, Qu, Qr]
  simp [h2, h1, h3, h4, Qr]
 rw [e]
 unfold Ya
 rw [wide_eq, Jd, cI, if_neg h13]
 unfold plainE Ut
 by_cases hk : kindP v.Kind
 ·rw [if_neg (fun e => (wide_zero _ h13).1 e hk), cI, j8_fault, j8_fault, j2_fault hb h13, if_neg (show ¬ ¬ kindP v.Kind from fun h => h hk)]
  have hfm : (if v.Text ≠ [] then (open Classical in if (!decide (textK v.Kind)) = true ∨ (decide (intsK v.Kind) = false ∧ v.Ints ≠ []) ∨ (v.Kind ≠ 5 ∧ v.Ratios ≠ []) ∨ (v.Kind ≠ 13 ∧ v.Entries ≠ []) then True else False) else (open Classical in if false = true ∨ (decide (intsK v.Kind) = false ∧ v.Ints ≠ []) ∨ (v.Kind ≠ 5 ∧ v.Ratios ≠ []) ∨ (v.Kind ≠ 13 ∧ v.Entries ≠ []) then True else False)) ↔ formP v := by
   unfold formP
   by_cases ht : v.Text = [] <;> by_cases hk1 : textK v.Kind <;> by_cases hk2 : intsK v.Kind <;> simp [ht, hk1, hk2]
  by_cases hf : formP v
  ·rw [if_pos hf, if_pos (show (1 : Int) ≠ 0 by omega)]
   by_cases ht : v.Text = []
   ·rw [if_neg (by simpa using ht)]
    rw [if_neg (by simpa using ht)] at hfm
    have := hfm.2 hf
    split at this
    ·rename_i h; rw [if_pos h]
    ·exact this.elim
   ·rw [if_pos ht]
    rw [if_pos ht] at hfm
    have := hfm.2 hf
    split at this
    ·rename_i h; rw [if_pos h]
    ·exact this.elim
  ·rw [if_neg hf, if_neg (show ¬ ((0 : Int) ≠ 0) by omega)]
   by_cases ht : v.Text = []
   ·rw [if_neg (by simpa using ht)]
    rw [if_neg (by simpa using ht)] at hfm
    rw [if_neg (fun h => hf (hfm.1 (by rw [if_pos h]; trivial)))]
   ·rw [if_pos ht]
    rw [if_pos ht] at hfm
    rw [if_neg (fun h => hf (hfm.1 (by rw [if_pos h]; trivial)))]
 ·rw [if_pos ((wide_zero _ h13).2 hk), if_pos hk, if_pos (show (10 : Int) ≠ 0 by omega)]
end Go.M

/- Directories checked, values as octets, in plain Lean. Conditions: none. -/
namespace Go.M
open Go.Md Go.Pl
def szD : Nat → List T_tag_Entry → Nat
 | 0, _ => 0
 | d + 1, l => (l.map fun e => 1 + e.Value.Text.length + e.Value.Ints.length + e.Value.Ratios.length + szD d e.Value.Entries).sum
def szE (d : Nat) (e : T_tag_Entry) : Nat := 1 + e.Value.Text.length + e.Value.Ints.length + e.Value.Ratios.length + szD d e.Value.Entries
theorem szD_nil (d : Nat) : szD (d + 1) [] = 0 := rfl
theorem szD_cons (d : Nat) (e : T_tag_Entry) (l : List T_tag_Entry) : szD (d + 1) (e :: l) = szE d e + szD (d + 1) l := by
 simp only [szD, szE, List.map_cons, List.sum_cons]
theorem szD_mem {d : Nat} {e : T_tag_Entry} : ∀ {l : List T_tag_Entry}, e ∈ l → szE d e ≤ szD (d + 1) l
 | [], h => by cases h
 | x :: l, h => by
  rw [szD_cons]
  rcases List.mem_cons.1 h with h | h
  ·subst h; omega
  ·have := szD_mem (d := d) h; omega
theorem szD_len {d : Nat} : ∀ l : List T_tag_Entry, l.length ≤ szD (d + 1) l
 | [] => Nat.zero_le _
 | x :: l => by rw [szD_cons, List.length_cons]; have := szD_len (d := d) l; unfold szE; omega
theorem vB_of {d : Nat} {e : T_tag_Entry} {l : List T_tag_Entry} (h : szD (d + 1) l ≤ 2000000) (he : e ∈ l) : vB e.Value ∧ szD d e.Value.Entries ≤ 2000000 := by
 have := szD_mem (d := d) he
 unfold szE at this
 unfold vB
 omega
def prevT (l : List T_tag_Entry) : Nat → Option Int
 | 0 => none
 | k + 1 => (l[k]?).map (·.Tag)
def lowP (pr : Option Int) (e : T_tag_Entry) : Prop := ∃ t, pr = some t ∧ e.Tag ≤ t
noncomputable def listE (f : T_tag_Entry → Int) : Option Int → List T_tag_Entry → Int
 | _, [] => 0
 | pr, e :: l => open Classical in if e.Tag < 0 ∨ 65535 < e.Tag then 2 else if lowP pr e then 5 else if f e ≠ 0 then f e else listE f (some e.Tag) l
theorem list_loop {G : (Int → Option Int) → Int → Option Int} (l : List T_tag_Entry) (f : T_tag_Entry → Int)
  (more : ∀ (next : Int → Option Int) (k : Nat) (hk : k < l.length), G next (k : Int) = open Classical in if l[k].Tag < 0 ∨ 65535 < l[k].Tag then some 2 else if lowP (prevT l k) l[k] then some 5 else if f l[k] ≠ 0 then some (f l[k]) else next ((k : Int) + 1))
  (stop : ∀ next, G next (l.length : Int) = some 0) : Z3 G 0 = some (listE f none l) := by
 have key : ∀ m i : Nat, i + m = l.length → Z3 G (i : Int) = some (listE f (prevT l i) (l.drop i)) := by
  intro m
  induction m with
  | zero =>
   intro i hi
   have : i = l.length := by omega
   subst this
   rw [List.drop_length]
   exact Qq stop
  | succ m ih =>
   intro i hi
   have hlt : i < l.length := by omega
   rw [List.drop_eq_getElem_cons hlt]
   unfold listE
   by_cases h1 : l[i].Tag < 0 ∨ 65535 < l[i].Tag
   ·rw [if_pos h1]
    exact Qq fun next => by rw [more next i hlt, if_pos h1]
   rw [if_neg h1]
   by_cases h2 : lowP (prevT l i) l[i]
   ·rw [if_pos h2]
    exact Qq fun next => by rw [more next i hlt, if_neg h1, if_pos h2]
   rw [if_neg h2]
   by_cases h3 : f l[i] ≠ 0
   ·rw [if_pos h3]
    exact Qq fun next => by rw [more next i hlt, if_neg h1, if_neg h2, if_pos h3]
   rw [if_neg h3, Xi ((i : Int) + 1) (fun next => by rw [more next i hlt, if_neg h1, if_neg h2, if_neg h3])]
   have := ih (i + 1) (by omega)
   have e1 : prevT l (i + 1) = some l[i].Tag := by show (l[i]?).map _ = _; rw [List.getElem?_eq_getElem hlt]; rfl
   rw [e1] at this
   exact this
 have := key l.length 0 (by omega)
 rw [List.drop_zero] at this
 exact this
theorem listE_zero {f : T_tag_Entry → Int} : ∀ {l : List T_tag_Entry} {pr : Option Int}, listE f pr l = 0 → ∀ e ∈ l, f e = 0
 | [], _, _, e, he => by cases he
 | x :: l, pr, h, e, he => by
  unfold listE at h
  split at h
  ·omega
  split at h
  ·omega
  split at h
  ·rename_i h1; exact absurd h h1
  ·rename_i h1
   rcases List.mem_cons.1 he with h' | h'
   ·subst h'; simpa using h1
   ·exact listE_zero h e h'
noncomputable def dE : Nat → List T_tag_Entry → Int
 | 0, _ => 4
 | d + 1, l => if 200 < l.length then 4 else listE (fun e => if e.Value.Kind ≠ 13 then plainE e.Value else if Ut e.Value ≠ 0 then Ut e.Value else dE d e.Value.Entries) none l
theorem low_step {α : Type} {l : List T_tag_Entry} {k : Nat} (hk : k < l.length) (hl : l.length ≤ 1000) (J : Option α) (x : α) :
  Qp (decide (0 < (k : Int))) (J3 (gI ((k : Int) - 1)) fun t => J3 (Y6 l t) fun t35 => Qp (decide (l[k].Tag ≤ t35.Tag)) (some x) J) J = open Classical in if lowP (prevT l k) l[k] then some x else J := by
 rw [cI]
 cases k with
 | zero =>
  rw [if_neg (by omega), if_neg]
  rintro ⟨t, h, _⟩
  cases h
 | succ k =>
  have e : prevT l (k + 1) = some l[k].Tag := by show (l[k]?).map _ = _; rw [List.getElem?_eq_getElem (by omega)]; rfl
  rw [if_pos (by omega), J2 (by omega), Jd, show (((k + 1 : Nat) : Int) - 1) = (k : Int) from by omega, Xl (by omega), Jd, cI, e]
  by_cases h : l[k + 1].Tag ≤ l[k].Tag
  ·rw [if_pos h, if_pos ⟨_, rfl, h⟩]
  ·rw [if_neg h, if_neg]
   rintro ⟨t, ht, h'⟩
   cases ht
   exact h h'
theorem checkDir_eq (d : Nat) (l : List T_tag_Entry) (deep : Int) (hd : deep = 6 - (d : Int)) (h5 : d ≤ 5) (hz : szD d l ≤ 2000000) : tag_checkDir l deep = some (dE d l) := by
 unfold tag_checkDir
 refine fix_ofG (fun d (a : List T_tag_Entry × Int) => some (dE d a.1)) (fun d a => a.2 = 6 - (d : Int) ∧ d ≤ 5 ∧ szD d a.1 ≤ 2000000) (fun d => d) ?_ d (l, deep) ⟨hd, h5, hz⟩
 rintro next d ⟨l, deep⟩ ⟨hd, h5, hz⟩ ih
 simp only at hd hz
 show Y7 next l deep = some (dE d l)
 unfold Y7
 rw [cI, cI]
 cases d with
 | zero => rw [if_pos (by omega)]; rfl
 | succ d =>
  rw [if_neg (by omega)]
  unfold dE
  by_cases hl : 200 < l.length
  ·rw [if_pos (by omega), if_pos hl]
  rw [if_neg (by omega), if_neg hl]
  refine list_loop l _ (fun nx k hk => ?_) (fun nx => ?_)
  ·obtain ⟨hb, hzn⟩ := vB_of hz (List.getElem_mem hk)
   unfold Vq
   rw [cI, if_pos (by omega), Xl hk, Jd, out_tag, Jd, cI]
   by_cases h1 : l[k].Tag < 0 ∨ 65535 < l[k].Tag
   ·rw [if_pos h1, if_pos h1]
   rw [if_neg h1, if_neg h1, low_step hk (by omega)]
   congr 1
   unfold Ul
   have e3 : ∀ x : Int, Vr (k : Int) nx x = if x ≠ 0 then some x else nx ((k : Int) + 1) := fun x => by
    unfold Vr; rw [cI, J2 (by omega), Jd]
   rw [cI]
   by_cases h13 : l[k].Value.Kind ≠ 13
   ·rw [if_pos h13, checkPlain_eq hb, Jd, e3]; simp only [if_pos h13]
   ·rw [if_neg h13, checkFields_eq, Jd, cI]
    simp only [if_neg h13]
    by_cases hf : Ut l[k].Value = 0
    ·have := ih d (l[k].Value.Entries, deep + 1) ⟨by show deep + 1 = _; omega, by omega, hzn⟩ (by omega)
     rw [if_pos hf, J2 (by omega), Jd, this, Jd, e3, if_neg (show ¬ Ut l[k].Value ≠ 0 from fun h => h hf)]
    ·rw [if_neg hf, e3]; simp [hf]
  ·unfold Vq
   rw [cI, if_neg (by omega)]
theorem fields13 {v : T_tag_Value} (h : v.Kind = 13) : Ut v = open Classical in if v.Text ≠ [] ∨ v.Ints ≠ [] ∨ v.Ratios ≠ [] then 1 else 0 := by
 unfold Ut
 rw [if_neg (show ¬ ¬ kindP v.Kind from fun x => x (.inr (.inr (.inr h))))]
 congr 1
 apply propext
 unfold formP intsK textK
 rw [h]
 constructor
 ·rintro (⟨_, a⟩ | ⟨_, a⟩ | ⟨_, a⟩ | ⟨a, _⟩)
  ·exact .inr (.inl a)
  ·exact .inl a
  ·exact .inr (.inr a)
  ·exact absurd rfl a
 ·rintro (a | a | a)
  ·exact .inr (.inl ⟨by omega, a⟩)
  ·exact .inl ⟨by omega, a⟩
  ·exact .inr (.inr (.inl ⟨by omega, a⟩))
theorem dirFault_eq (d : Nat) (l : List T_tag_Entry) (deep : Int) (hd : deep = 6 - (d : Int)) (h5 : d ≤ 5) (hz : szD d l ≤ 2000000) : R_dirFault l deep = some (dE d l) := by
 unfold R_dirFault
 refine fix_ofG (fun d (a : List T_tag_Entry × Int) => some (dE d a.1)) (fun d a => a.2 = 6 - (d : Int) ∧ d ≤ 5 ∧ szD d a.1 ≤ 2000000) (fun d => d) ?_ d (l, deep) ⟨hd, h5, hz⟩
 rintro next d ⟨l, deep⟩ ⟨hd, h5, hz⟩ ih
 simp only at hd hz
 show Zx next l deep = some (dE d l)
 unfold Zx
 rw [cI, cI]
 cases d with
 | zero => rw [if_pos (by omega)]; rfl
 | succ d =>
  rw [if_neg (by omega)]
  unfold dE
  by_cases hl : 200 < l.length
  ·rw [if_pos (by omega), if_pos hl]
  rw [if_neg (by omega), if_neg hl]
  refine list_loop l _ (fun nx k hk => ?_) (fun nx => ?_)
  ·obtain ⟨hb, hzn⟩ := vB_of hz (List.getElem_mem hk)
   unfold Ww
   rw [cI, if_pos (by omega), Xl hk, Jd, cI, cI]
   by_cases h1 : l[k].Tag < 0
   ·rw [if_pos h1, if_pos (.inl h1)]
   by_cases h2 : 65535 < l[k].Tag
   ·rw [if_neg h1, if_pos h2, if_pos (.inr h2)]
   rw [if_neg h1, if_neg h2, if_neg (show ¬ (l[k].Tag < 0 ∨ 65535 < l[k].Tag) by omega), low_step hk (by omega)]
   congr 1
   unfold Jaf
   have e3 : ∀ a b c g i j m o, Un (k : Int) nx a b c g i j m o = nx ((k : Int) + 1) := fun a b c g i j m o => by
    unfold Un; rw [J2 (by omega), Jd]
   simp only [e3]
   rw [cI]
   by_cases h13 : l[k].Value.Kind ≠ 13
   ·rw [if_pos h13, ValueFault_eq hb h13, Jd, cI]; simp only [if_pos h13]
   ·have h13' : l[k].Value.Kind = 13 := by simpa using h13
    rw [if_neg h13, cI, cI, cI]
    simp only [if_neg h13]
    rw [fields13 h13']
    by_cases a1 : l[k].Value.Text = []
    ·by_cases a2 : l[k].Value.Ints = []
     ·by_cases a3 : l[k].Value.Ratios = []
      ·have := ih d (l[k].Value.Entries, deep + 1) ⟨by show deep + 1 = _; omega, by omega, hzn⟩ (by omega)
       rw [if_neg (show ¬ (l[k].Value.Text ≠ []) by simpa using a1), if_neg (by rw [ne_len]; simpa using a2), if_neg (by rw [ne_len]; simpa using a3), J2 (by omega), Jd, this, Jd, cI]
       simp [a1, a2, a3]
      ·rw [if_neg (show ¬ (l[k].Value.Text ≠ []) by simpa using a1), if_neg (by rw [ne_len]; simpa using a2), if_pos ((ne_len _).2 a3)]
       simp [a3]
     ·rw [if_neg (show ¬ (l[k].Value.Text ≠ []) by simpa using a1), if_pos ((ne_len _).2 a2)]
      simp [a2]
    ·rw [if_pos a1]
     simp [a1]
  ·unfold Ww
   rw [cI, if_neg (by omega)]
def okV (v : T_tag_Value) : Prop := kindP v.Kind ∧ ¬ formP v
def okD : Nat → List T_tag_Entry → Prop
 | 0, _ => False
 | d + 1, l => l.length ≤ 200 ∧ ∀ e ∈ l, okV e.Value ∧ (e.Value.Kind = 13 → okD d e.Value.Entries)
theorem fields_ok {v : T_tag_Value} (h : Ut v = 0) : okV v := by
 unfold Ut at h
 split at h
 ·omega
 split at h
 ·omega
 rename_i h1 h2
 exact ⟨Classical.byContradiction h1, h2⟩
theorem dE_ok : ∀ {d : Nat} {l : List T_tag_Entry}, dE d l = 0 → okD d l := by
 intro d
 induction d with
 | zero => intro l h; unfold dE at h; omega
 | succ d ih =>
  intro l h
  unfold dE at h
  split at h
  ·omega
  rename_i hl
  refine ⟨by omega, fun e he => ?_⟩
  have := listE_zero h e he
  split at this
  ·rename_i h13
   refine ⟨?_, fun h => absurd h h13⟩
   unfold plainE at this
   split at this
   ·rename_i h1; exact absurd this h1
   ·rename_i h1; exact fields_ok (by simpa using h1)
  ·split at this
   ·rename_i h1; exact absurd this h1
   ·rename_i h1; exact ⟨fields_ok (by simpa using h1), fun _ => ih this⟩
theorem fix_listR {α ρ σ : Type} {F : (σ × Int → Option ρ) → σ × Int → Option ρ} (xs : List α) (f : σ → α → σ) (J : σ → Option ρ) (I : Nat → σ → Prop)
  (more : ∀ (next : σ × Int → Option ρ) (k : Nat) (s : σ) (hk : k < xs.length), I k s → F next (s, (k : Int)) = next (f s xs[k], (k : Int) + 1) ∧ I (k + 1) (f s xs[k]))
  (stop : ∀ (next : σ × Int → Option ρ) (s : σ), I xs.length s → F next (s, (xs.length : Int)) = J s) (s : σ) (hs : I 0 s) : Z3 F (s, 0) = J (xs.foldl f s) := by
 have key : ∀ n k s, k ≤ xs.length → xs.length - k < n → I k s → Z3 F (s, (k : Int)) = J ((xs.drop k).foldl f s) := by
  intro n
  induction n with
  | zero => intro k s _ h; omega
  | succ n ih =>
   intro k s hk h hI
   rcases Nat.lt_or_ge k xs.length with h1 | h1
   ·rw [Xi (f s xs[k], (k : Int) + 1) (fun next => (more next k s h1 hI).1), List.drop_eq_getElem_cons h1, List.foldl_cons]
    exact ih (k + 1) _ (by omega) (by omega) (more (fun _ => none) k s h1 hI).2
   ·have : k = xs.length := by omega
    subst this
    rw [List.drop_length]
    exact Qq fun next => stop next s hI
 have := key (xs.length + 1) 0 s (Nat.zero_le _) (by omega) hs
 simpa using this
theorem fold_flat {α : Type} (g : α → List UInt8) : ∀ (xs : List α) (a : List UInt8), xs.foldl (fun s x => s ++ g x) a = a ++ xs.flatMap g
 | [], a => by simp
 | x :: xs, a => by rw [List.foldl_cons, fold_flat g xs]; simp
theorem fold_ofStr {α : Type} (g : α → List UInt8) : ∀ (xs : List α) (a : List UInt8), xs.foldl (fun s x => s ++ Xs (g x)) (Xs a) = Xs (a ++ xs.flatMap g)
 | [], a => by simp
 | x :: xs, a => by rw [List.foldl_cons, ← Wj, fold_ofStr g xs]; simp
noncomputable def ratS (big : Bool) (r : T_tag_Ratio) : List UInt8 := Zi big r.Num 4 ++ Zi big r.Den 4
noncomputable def octS (big : Bool) (v : T_tag_Value) : List UInt8 :=
 if v.Kind = 2 then v.Text ++ [0] else if v.Kind = 7 then v.Text else if v.Kind = 5 then v.Ratios.flatMap (ratS big) else v.Ints.flatMap fun n => Zi big n (Qb v.Kind)
def cntS (v : T_tag_Value) : Nat := if v.Kind = 2 then v.Text.length + 1 else if v.Kind = 7 then v.Text.length else if v.Kind = 5 then v.Ratios.length else if v.Kind = 13 then 1 else v.Ints.length
theorem Ux {α : Type} {g : α → List UInt8} {w : Nat} (h : ∀ x, (g x).length = w) : ∀ xs : List α, (xs.flatMap g).length = xs.length * w
 | [] => by simp
 | x :: xs => by rw [List.flatMap_cons, List.length_append, h, Ux h xs, List.length_cons, Nat.add_mul]; omega
theorem ratS_len (big : Bool) (r : T_tag_Ratio) : (ratS big r).length = 8 := by
 unfold ratS; rw [List.length_append, X1 _ _ (by omega), X1 _ _ (by omega)]
theorem octS_len (big : Bool) {v : T_tag_Value} (hv : okV v) (h13 : v.Kind ≠ 13) : (octS big v).length = cntS v * Qb v.Kind := by
 unfold octS cntS
 by_cases h2 : v.Kind = 2
 ·rw [if_pos h2, if_pos h2, List.length_append, h2]; simp [Qb]
 rw [if_neg h2, if_neg h2]
 by_cases h7 : v.Kind = 7
 ·rw [if_pos h7, if_pos h7, h7]; simp [Qb]
 rw [if_neg h7, if_neg h7]
 by_cases h5 : v.Kind = 5
 ·rw [if_pos h5, if_pos h5, h5, Ux (ratS_len big)]; rfl
 rw [if_neg h5, if_neg h5, if_neg h13, Ux (w := Qb v.Kind) (fun n => X1 _ _ (U1 _))]
theorem octS_le (big : Bool) (v : T_tag_Value) : (octS big v).length ≤ 1 + v.Text.length + 8 * v.Ints.length + 8 * v.Ratios.length := by
 unfold octS
 split
 ·rw [List.length_append, List.length_singleton]; omega
 split
 ·omega
 split
 ·rw [Ux (ratS_len big)]; omega
 ·rw [Ux (w := Qb v.Kind) (fun n => X1 _ _ (U1 _))]
  have := Nat.mul_le_mul_left v.Ints.length (U1 v.Kind)
  omega
theorem count_eq {v : T_tag_Value} (hb : vB v) : tag_count v = some (cntS v : Int) := by
 unfold tag_count cntS
 have := hb.1
 rw [cI, cI, cI, cI]
 by_cases h2 : v.Kind = 2
 ·rw [if_pos h2, if_pos h2, J2 (by omega), Jd]; rfl
 by_cases h7 : v.Kind = 7
 ·rw [if_neg h2, if_pos h7, if_neg h2, if_pos h7]
 by_cases h5 : v.Kind = 5
 ·rw [if_neg h2, if_neg h7, if_pos h5, if_neg h2, if_neg h7, if_pos h5]
 by_cases h13 : v.Kind = 13
 ·rw [if_neg h2, if_neg h7, if_neg h5, if_pos h13, if_neg h2, if_neg h7, if_neg h5, if_pos h13]; rfl
 rw [if_neg h2, if_neg h7, if_neg h5, if_neg h13, if_neg h2, if_neg h7, if_neg h5, if_neg h13]
theorem ok_parts {v : T_tag_Value} (hv : okV v) : (¬ intsK v.Kind → v.Ints = []) ∧ (¬ textK v.Kind → v.Text = []) ∧ (v.Kind ≠ 5 → v.Ratios = []) := by
 obtain ⟨_, hf⟩ := hv
 unfold formP at hf
 refine ⟨fun h => ?_, fun h => ?_, fun h => ?_⟩
 ·exact Classical.byContradiction fun e => hf (.inl ⟨h, e⟩)
 ·exact Classical.byContradiction fun e => hf (.inr (.inl ⟨h, e⟩))
 ·exact Classical.byContradiction fun e => hf (.inr (.inr (.inl ⟨h, e⟩)))
theorem tag_ratios {big : Bool} {v : T_tag_Value} (hb : vB v) (a : List UInt8) (ha : a.length ≤ 16000000) : Ja8 big v (Xs a) = some (Xs (a ++ v.Ratios.flatMap (ratS big))) := by
 unfold Ja8
 have hr := hb.2.2
 rw [← fold_ofStr]
 refine fix_list (F := fun next2 s => Uq big v next2 s.1 s.2) v.Ratios (fun s r => s ++ Xs (ratS big r)) some (fun k s => s.length ≤ a.length + 8 * k) (fun next k s hk hs => ?_) (fun next s hs => ?_) _ (by rw [Xv]; omega)
 ·refine ⟨?_, by show (s ++ _).length ≤ _; rw [List.length_append, Xv, ratS_len]; omega⟩
  show Uq big v next (k : Int) s = _
  unfold Uq
  have l1 : (Xs (Zi big v.Ratios[k].Num 4)).length = 4 := by rw [Xv, X1 _ _ (by omega)]
  have l2 : (Xs (Zi big v.Ratios[k].Den 4)).length = 4 := by rw [Xv, X1 _ _ (by omega)]
  rw [cI, if_pos (by omega), Xl hk, Jd, tag4, Jd, Yf (by omega), Jd, tag4, Jd, Yf (by rw [List.length_append]; omega), Jd, J2 (by omega), Jd]
  unfold ratS
  rw [Wj, List.append_assoc]
 ·show Uq big v next (v.Ratios.length : Int) s = _
  unfold Uq
  rw [cI, if_neg (by omega)]
theorem octets_eq {big : Bool} {v : T_tag_Value} (hb : vB v) (hv : okV v) (h13 : v.Kind ≠ 13) : tag_octets big v = some (Xs (octS big v)) := by
 have hb' := hb
 obtain ⟨b1, b2, b3⟩ := hb'
 obtain ⟨p1, p2, p3⟩ := ok_parts hv
 unfold tag_octets octS
 rw [cI, cI]
 by_cases h2 : v.Kind = 2
 ·rw [if_pos h2, if_pos h2, gByt_ok (by omega), Jd, gApL_ok (by rw [Xv, List.length_singleton]; omega), Jd, Wj]; rfl
 by_cases h7 : v.Kind = 7
 ·rw [if_neg h2, if_pos h7, if_neg h2, if_pos h7, gByt_ok (by omega), Jd]
 rw [if_neg h2, if_neg h7, if_neg h2, if_neg h7]
 have hloop := fix_list (F := fun next3 s => Um big v next3 s.1 s.2) v.Ints (fun s n => s ++ Xs (Zi big n (Qb v.Kind))) (Ja8 big v) (fun k s => s.length ≤ 8 * k) (fun next k s hk hs => by
   have hw := U1 v.Kind
   have l1 : (Xs (Zi big v.Ints[k] (Qb v.Kind))).length = Qb v.Kind := by rw [Xv, X1 _ _ hw]
   refine ⟨?_, by show (s ++ _).length ≤ _; rw [List.length_append, l1]; omega⟩
   show Um big v next (k : Int) s = _
   unfold Um
   rw [cI, if_pos (by omega), Xl hk, Jd, sizeOf_eq, Jd, if_neg h13, num_tag _ _ hw, Jd, Yf (by omega), Jd, J2 (by omega), Jd]) (fun next s hs => by
   show Um big v next (v.Ints.length : Int) s = _
   unfold Um
   rw [cI, if_neg (by omega)]) [] (by simp)
 rw [hloop, show ([] : List Int) = Xs [] from rfl, fold_ofStr, List.nil_append]
 have hlen : (v.Ints.flatMap fun n => Zi big n (Qb v.Kind)).length ≤ 16000000 := by
  rw [Ux (w := Qb v.Kind) (fun n => X1 _ _ (U1 _))]
  have := Nat.mul_le_mul_left v.Ints.length (U1 v.Kind)
  omega
 rw [tag_ratios hb _ hlen]
 by_cases h5 : v.Kind = 5
 ·rw [if_pos h5, p1 (by rw [h5]; unfold intsK; omega)]; rfl
 ·rw [if_neg h5, p3 h5, List.flatMap_nil, List.append_nil]
theorem R_octets_eq {big : Bool} {v : T_tag_Value} (hb : vB v) (hv : okV v) (h13 : v.Kind ≠ 13) : Zp big v = some (octS big v) := by
 have hb' := hb
 obtain ⟨b1, b2, b3⟩ := hb'
 obtain ⟨p1, p2, p3⟩ := ok_parts hv
 have j2 : ∀ a : List UInt8, a.length ≤ 32000000 → Jaq big v a = some (a ++ v.Ratios.flatMap (ratS big)) := fun a ha => by
  unfold Jaq
  rw [← fold_flat]
  refine fix_listR (F := fun next3 s => Vy big v next3 s.1 s.2) v.Ratios (fun s r => s ++ ratS big r) some (fun k s => s.length ≤ a.length + 8 * k) (fun next k s hk hs => ?_) (fun next s hs => ?_) _ (by omega)
  ·refine ⟨?_, by show (s ++ _).length ≤ _; rw [List.length_append, ratS_len]; omega⟩
   show Vy big v next s (k : Int) = _
   unfold Vy
   have l1 : (Zi big v.Ratios[k].Num 4).length = 4 := X1 _ _ (by omega)
   have l2 : (Zi big v.Ratios[k].Den 4).length = 4 := X1 _ _ (by omega)
   rw [cI, if_pos (by omega), Xl hk, Jd, R4, Jd, R4, Jd, Uh (by omega), Jd, Uh (by rw [List.length_append]; omega), Jd, J2 (by omega), Jd]
   rfl
  ·show Vy big v next s (v.Ratios.length : Int) = _
   unfold Vy
   rw [cI, if_neg (by omega)]
 have j1 : ∀ a : List UInt8, a.length ≤ 4000000 → Jar big v a = some (a ++ (v.Ints.flatMap fun n => Zi big n (Qb v.Kind)) ++ v.Ratios.flatMap (ratS big)) := fun a ha => by
  unfold Jar
  have hloop := fix_listR (F := fun next4 s => V1 big v next4 s.1 s.2) v.Ints (fun s n => s ++ Zi big n (Qb v.Kind)) (Jaq big v) (fun k s => s.length ≤ a.length + 8 * k) (fun next k s hk hs => by
   have hw := U1 v.Kind
   have l1 : (Zi big v.Ints[k] (Qb v.Kind)).length = Qb v.Kind := X1 _ _ hw
   refine ⟨?_, by show (s ++ _).length ≤ _; rw [List.length_append, l1]; omega⟩
   show V1 big v next s (k : Int) = _
   unfold V1
   rw [cI, if_pos (by omega), Xl hk, Jd, wide_eq, Jd, if_neg h13, num_R _ _ hw, Jd, Uh (by omega), Jd, J2 (by omega), Jd]) (fun next s hs => by
   show V1 big v next s (v.Ints.length : Int) = _
   unfold V1
   rw [cI, if_neg (by omega)]) a (by omega)
  rw [hloop, fold_flat, j2]
  rw [List.length_append, Ux (w := Qb v.Kind) (fun n => X1 _ _ (U1 _))]
  have := Nat.mul_le_mul_left v.Ints.length (U1 v.Kind)
  omega
 unfold Zp octS
 rw [cI]
 by_cases h2 : v.Kind = 2
 ·rw [if_pos h2, if_pos h2, Uh (by rw [List.length_singleton]; omega), Jd, j1 _ (by rw [List.length_append, List.length_singleton]; omega), p1 (by rw [h2]; unfold intsK; omega), p3 (by omega)]
  simp
 rw [if_neg h2, if_neg h2, j1 _ (by omega)]
 by_cases h7 : v.Kind = 7
 ·rw [if_pos h7, p1 (by rw [h7]; unfold intsK; omega), p3 (by omega)]
  simp
 rw [if_neg h7, p2 (by unfold textK; omega), List.nil_append]
 by_cases h5 : v.Kind = 5
 ·rw [if_pos h5, p1 (by rw [h5]; unfold intsK; omega)]; rfl
 ·rw [if_neg h5, p3 h5, List.flatMap_nil, List.append_nil]
theorem R_count_eq {v : T_tag_Value} (hb : vB v) (hv : okV v) : R_count v = some (cntS v : Int) := by
 unfold R_count
 rw [cI]
 by_cases h13 : v.Kind = 13
 ·rw [if_pos h13]; unfold cntS; rw [h13]; rfl
 ·rw [if_neg h13, R_octets_eq hb hv h13, Jd, wide_eq, Jd, if_neg h13, octS_len false hv h13]
  have hw : Qb v.Kind ≠ 0 := fun e => (wide_zero _ h13).1 (by rw [e]; rfl) hv.1
  have hle := octS_le false v
  rw [octS_len false hv h13] at hle
  have hb1 := hb.1; have hb2 := hb.2.1; have hb3 := hb.2.2
  have e : (((cntS v * Qb v.Kind : Nat) : Int)).tdiv (Qb v.Kind : Int) = (cntS v : Int) := by
   rw [Int.natCast_mul, Int.mul_tdiv_cancel _ (by omega)]
  have hc : cntS v ≤ cntS v * Qb v.Kind := Nat.le_mul_of_pos_right _ (by omega)
  unfold gQuo
  rw [if_neg (by omega), e, J2 (by omega), Jd]
end Go.M

/- Directories and files written, in plain Lean; the law TagWrites. Conditions: none. -/
namespace Go.M
open Go.Md Go.Pl
def Vw (n : Nat) : List UInt8 := List.replicate n 0
def ev (p : Nat) : Nat := p + p % 2
def pad (p : Nat) : List UInt8 := Vw (p % 2)
def put (s : List UInt8) (at_ : Nat) (b : List UInt8) : List UInt8 := s.take at_ ++ b ++ s.drop (at_ + b.length)
theorem Xy (n : Nat) : (Vw n).length = n := List.length_replicate
theorem pad_len (p : Nat) : (pad p).length = p % 2 := Xy _
theorem ofStr_zer4 : Xs (Vw 4) = [0, 0, 0, 0] := rfl
theorem zer_add (a b : Nat) : Vw (a + b) = Vw a ++ Vw b := List.replicate_append_replicate.symm
theorem put_len {s : List UInt8} {a : Nat} {b : List UInt8} (h : a + b.length ≤ s.length) : (put s a b).length = s.length := by
 unfold put
 simp only [List.length_append, List.length_take, List.length_drop]; omega
theorem put_at (A B C b : List UInt8) (h : b.length = B.length) {a : Nat} (ha : a = A.length) : put (A ++ B ++ C) a b = A ++ b ++ C := by
 subst ha
 unfold put
 rw [h, List.append_assoc A B C, List.take_left' rfl, ← List.append_assoc A B C, List.drop_left' (by rw [List.length_append])]
theorem ofStr_take (s : List UInt8) (n : Nat) : (Xs s).take n = Xs (s.take n) := List.map_take.symm
theorem ofStr_drop (s : List UInt8) (n : Nat) : (Xs s).drop n = Xs (s.drop n) := List.map_drop.symm
theorem cpy_put {s b : List UInt8} {a : Int} {m : Nat} {p : Nat} (ha : a = (p : Int)) (hm : b.length ≤ m) : cpyL (Xs s) a m (Xs b) = Xs (put s p b) := by
 subst ha
 unfold cpyL put
 have h1 : (Xs b).take m = Xs b := List.take_of_length_le (by rw [Xv]; exact hm)
 rw [Int.toNat_natCast, Xv, Nat.min_eq_right hm, h1, ofStr_take, ofStr_drop, Wj, Wj, List.append_assoc]
theorem set_eq4 {big : Bool} {s : List UInt8} {a n : Int} {p : Nat} (ha : a = (p : Int)) (h : p + 4 ≤ s.length) : W9 ⟨big, Xs s⟩ a n = some ⟨big, Xs (put s p (Zi big n 4))⟩ := by
 unfold W9
 dsimp only
 rw [gCut_from (by rw [Xv]; omega), Jd, tag4, Jd]
 rw [cpy_put ha (by rw [X1 _ _ (by omega), List.length_drop, Xv]; omega)]
theorem R_set_eq {big : Bool} {s : List UInt8} {a n : Int} {p k : Nat} {k' : Int} (ha : a = (p : Int)) (hk' : k' = (k : Int)) (hk : k ≤ 8) (h : p + k ≤ s.length) (hs : s.length ≤ 4611686018427387904) : Yq ⟨s, big⟩ a n k' = some ⟨put s p (Zi big n k), big⟩ := by
 subst ha hk'
 unfold Yq
 dsimp only
 have hl := X1 big n hk
 rw [gCut_to (by omega), Jd, num_R _ _ hk, Jd, Uh (by rw [List.length_take]; omega), Jd, J2 (by omega), Jd, gCut_from (by omega), Jd, Uh (by rw [List.length_append, List.length_take, List.length_drop]; omega), Jd]
 unfold put
 rw [hl, Int.toNat_natCast, show ((p : Int) + (k : Int)).toNat = p + k from by omega]
theorem begin_eq {big : Bool} {s : List UInt8} (hs : s.length ≤ 1099511627776) : Jac ⟨big, Xs s⟩ = some (((ev s.length : Nat) : Int), ⟨big, Xs (s ++ pad s.length)⟩) := by
 unfold Jac Jad ev pad
 dsimp only
 rw [gRem_ok (by omega), Jd, cI, Xv]
 have e : ((s.length : Int)).tmod 2 = ((s.length % 2 : Nat) : Int) := by rw [Int.tmod_eq_emod_of_nonneg (by omega)]; omega
 by_cases h : s.length % 2 = 0
 ·rw [e, if_neg (by omega), h]
  simp [Vw]
 ·have h1 : s.length % 2 = 1 := by omega
  rw [e, if_pos (by omega), Yf (by rw [Xv, List.length_singleton]; omega), Jd, h1, Wj]
  simp only [List.length_append, Xv, List.length_singleton]
  rfl
theorem R_add_eq {big : Bool} {s a : List UInt8} (hs : s.length + a.length ≤ 4611686018427387904) : Jah ⟨s, big⟩ a = some (((ev s.length : Nat) : Int), ⟨s ++ pad s.length ++ a, big⟩) := by
 unfold Jah Ua ev pad
 dsimp only
 rw [gRem_ok (by omega), Jd, cI]
 have e : ((s.length : Int)).tmod 2 = ((s.length % 2 : Nat) : Int) := by rw [Int.tmod_eq_emod_of_nonneg (by omega)]; omega
 by_cases h : s.length % 2 = 0
 ·rw [e, if_neg (by omega), h, Uh (by omega), Jd]
  simp [Vw]
 ·have h1 : s.length % 2 = 1 := by omega
  rw [e, if_pos (by omega), Uh (by rw [List.length_singleton]; omega), Jd, h1, Uh (by rw [List.length_append, List.length_singleton]; omega), Jd]
  simp [Vw]
noncomputable def Wz (big : Bool) (e : T_tag_Entry) : List UInt8 := Zi big e.Tag 2 ++ Zi big e.Value.Kind 2 ++ Zi big (cntS e.Value) 4
theorem hdr_len (big : Bool) (e : T_tag_Entry) : (Wz big e).length = 8 := by
 unfold Wz; rw [List.length_append, List.length_append, X1 _ _ (by omega), X1 _ _ (by omega), X1 _ _ (by omega)]
noncomputable def entF (G : List T_tag_Entry → Nat → List UInt8) (big : Bool) (e : T_tag_Entry) (q : Nat) : List UInt8 × List UInt8 :=
 if e.Value.Kind = 13 then (Zi big (ev q) 4, G e.Value.Entries q)
 else if (octS big e.Value).length ≤ 4 then (octS big e.Value ++ Vw (4 - (octS big e.Value).length), [])
 else (Zi big (ev q) 4, pad q ++ octS big e.Value)
theorem entF_len (G : List T_tag_Entry → Nat → List UInt8) (big : Bool) (e : T_tag_Entry) (q : Nat) : (entF G big e q).1.length = 4 := by
 unfold entF
 split
 ·exact X1 _ _ (by omega)
 split
 ·rw [List.length_append, Xy]; omega
 ·exact X1 _ _ (by omega)
noncomputable def bods (G : List T_tag_Entry → Nat → List UInt8) (big : Bool) : List T_tag_Entry → Nat → List UInt8 × List UInt8
 | [], _ => ([], [])
 | e :: l, q => (Wz big e ++ (entF G big e q).1 ++ (bods G big l (q + (entF G big e q).2.length)).1, (entF G big e q).2 ++ (bods G big l (q + (entF G big e q).2.length)).2)
theorem bods_len (G : List T_tag_Entry → Nat → List UInt8) (big : Bool) : ∀ (l : List T_tag_Entry) (q : Nat), (bods G big l q).1.length = 12 * l.length
 | [], _ => rfl
 | e :: l, q => by
  unfold bods
  rw [List.length_append, List.length_append, hdr_len, entF_len, bods_len G big l, List.length_cons]; omega
noncomputable def dirB (G : List T_tag_Entry → Nat → List UInt8) (big : Bool) (l : List T_tag_Entry) (p : Nat) : List UInt8 :=
 pad p ++ Zi big l.length 2 ++ (bods G big l (ev p + 2 + 12 * l.length + 4)).1 ++ Vw 4 ++ (bods G big l (ev p + 2 + 12 * l.length + 4)).2
noncomputable def V5 : Nat → Bool → List T_tag_Entry → Nat → List UInt8
 | 0, _ => fun _ _ => []
 | d + 1, big => dirB (V5 d big) big
theorem dirB_len (G : List T_tag_Entry → Nat → List UInt8) (big : Bool) (l : List T_tag_Entry) (p : Nat) : p + (dirB G big l p).length = ev p + 2 + 12 * l.length + 4 + (bods G big l (ev p + 2 + 12 * l.length + 4)).2.length := by
 unfold dirB ev
 simp only [List.length_append, pad_len, X1 _ _ (show 2 ≤ 8 by omega), bods_len, Xy]; omega
theorem dirS_le (big : Bool) : ∀ (d : Nat) (l : List T_tag_Entry) (p : Nat), (V5 d big l p).length ≤ 8 + 32 * szD d l := by
 intro d
 induction d with
 | zero => intro l p; exact Nat.zero_le _
 | succ d ih =>
  intro l p
  have hb : ∀ (l : List T_tag_Entry) (q : Nat), (bods (V5 d big) big l q).2.length + 12 * l.length ≤ 32 * szD (d + 1) l := by
   intro l
   induction l with
   | nil => intro q; exact Nat.zero_le _
   | cons e l ih2 =>
    intro q
    unfold bods
    rw [List.length_append, List.length_cons, szD_cons]
    have h1 := ih2 (q + (entF (V5 d big) big e q).2.length)
    have h2 : (entF (V5 d big) big e q).2.length + 12 ≤ 32 * szE d e := by
     unfold entF szE
     split
     ·have := ih e.Value.Entries q; simp only; omega
     split
     ·simp only [List.length_nil]; omega
     ·have := octS_le big e.Value
      simp only [List.length_append, pad_len]; omega
    omega
  have h1 := dirB_len (V5 d big) big l p
  have h2 := hb l (ev p + 2 + 12 * l.length + 4)
  show (dirB (V5 d big) big l p).length ≤ _
  have h3 : ev p ≤ p + 1 := by unfold ev; omega
  omega
noncomputable def hzS (big : Bool) (l : List T_tag_Entry) : List UInt8 := l.flatMap fun e => Wz big e ++ Vw 4
theorem hz_len (big : Bool) (l : List T_tag_Entry) : (hzS big l).length = 12 * l.length := by
 unfold hzS
 rw [Ux (w := 12) (fun e => by rw [List.length_append, hdr_len, Xy])]; omega
theorem heads_loop {big : Bool} {l : List T_tag_Entry} (hl : l.length ≤ 200) (hv : ∀ e ∈ l, vB e.Value) {self : T_tag_writer × List T_tag_Entry → Option (Int × Int × T_tag_writer)} {t15 : Int × T_tag_writer} (ht : t15.2.big_ = big) (s : List UInt8) (hs : s.length ≤ 1099511627776) :
  Z3 (fun next5 a => Zn l self t15 next5 a.1 a.2) (0, Xs s) = Uu l self t15 (Xs (s ++ hzS big l)) := by
 unfold hzS
 rw [← fold_ofStr]
 refine fix_list (F := fun next5 a => Zn l self t15 next5 a.1 a.2) l (fun s e => s ++ Xs (Wz big e ++ Vw 4)) (Uu l self t15) (fun k a => a.length ≤ s.length + 12 * k) (fun next k a hk ha => ?_) (fun next a ha => ?_) _ (by rw [Xv]; omega)
 ·refine ⟨?_, by show (a ++ _).length ≤ _; rw [List.length_append, Xv, List.length_append, hdr_len, Xy]; omega⟩
  show Zn l self t15 next (k : Int) a = _
  unfold Zn
  have n2 : ∀ n, (Xs (Zi big n 2)).length = 2 := fun n => by rw [Xv, X1 _ _ (by omega)]
  have n4 : ∀ n, (Xs (Zi big n 4)).length = 4 := fun n => by rw [Xv, X1 _ _ (by omega)]
  rw [cI, if_pos (by omega), Xl hk, Jd, ht, tag2, Jd, Yf (by rw [n2]; omega), Jd, tag2, Jd, Yf (by rw [List.length_append, n2, n2]; omega), Jd, count_eq (hv _ (List.getElem_mem hk)), Jd, tag4, Jd, Yf (by rw [List.length_append, List.length_append, n2, n2, n4]; omega), Jd, Yf (by rw [List.length_append, List.length_append, List.length_append, n2, n2, n4]; simp; omega), Jd, J2 (by omega), Jd]
  unfold Wz
  rw [Wj, Wj, Wj, ofStr_zer4]
  simp only [List.append_assoc]
 ·show Zn l self t15 next (l.length : Int) a = _
  unfold Zn
  rw [cI, if_neg (by omega)]
theorem prog_loop {big : Bool} {l : List T_tag_Entry} (hl : l.length ≤ 200) (hv : ∀ e ∈ l, okV e.Value ∧ vB e.Value) {G : List T_tag_Entry → Nat → List UInt8} {self : T_tag_writer × List T_tag_Entry → Option (Int × Int × T_tag_writer)}
  (hself : ∀ e ∈ l, e.Value.Kind = 13 → ∀ s : List UInt8, s.length + (G e.Value.Entries s.length).length ≤ 1099511627776 → ∃ q, self (⟨big, Xs s⟩, e.Value.Entries) = some (((ev s.length : Nat) : Int), q, ⟨big, Xs (s ++ G e.Value.Entries s.length)⟩))
  {t15 : Int × T_tag_writer} {at_ : Nat} (ht : t15.1 = (at_ : Int)) (L : List Int) :
  ∀ (l2 : List T_tag_Entry) (i : Nat) (X Y : List UInt8), i + l2.length = l.length → l.drop i = l2 → X.length = at_ + 2 + 12 * i → X.length + 12 * l2.length + 4 + Y.length + (bods G big l2 (X.length + 12 * l2.length + 4 + Y.length)).2.length ≤ 1099511627776 →
   Z3 (fun next3 a => Vo l self t15 L next3 a.1 a.2.1 a.2.2) ((i : Int), big, Xs (X ++ hzS big l2 ++ Vw 4 ++ Y)) = some (t15.1, (L.length : Int), ⟨big, Xs (X ++ (bods G big l2 (X.length + 12 * l2.length + 4 + Y.length)).1 ++ Vw 4 ++ Y ++ (bods G big l2 (X.length + 12 * l2.length + 4 + Y.length)).2)⟩) := by
 intro l2
 induction l2 with
 | nil =>
  intro i X Y hi _ hX hM
  refine Qq fun next => ?_
  show Vo l self t15 L next (i : Int) big _ = _
  unfold Vo
  rw [cI, if_neg (by rw [List.length_nil] at hi; omega)]
  unfold tag_writer_dir_j2 bods hzS
  simp
 | cons e l2 ih =>
  intro i X Y hi hd hX hM
  have hlt : i < l.length := by rw [List.length_cons] at hi; omega
  have he : l[i] = e := by have := List.drop_eq_getElem_cons hlt; rw [hd] at this; injection this with h1 h2; exact h1.symm
  have hd' : l.drop (i + 1) = l2 := by have := List.drop_eq_getElem_cons hlt; rw [hd] at this; injection this with h1 h2; exact h2.symm
  have hmem : e ∈ l := he ▸ List.getElem_mem hlt
  obtain ⟨hok, hvb⟩ := hv e hmem
  generalize hp : X.length + 12 * (e :: l2).length + 4 + Y.length = p at hM ⊢
  rw [List.length_cons] at hp hi
  unfold bods at hM ⊢
  simp only at hM ⊢
  generalize hF : entF G big e p = F at hM ⊢
  obtain ⟨f, b⟩ := F
  have hf4 : f.length = 4 := by have := entF_len G big e p; rw [hF] at this; exact this
  simp only at hM ⊢
  rw [List.length_append] at hM
  have hS : (X ++ hzS big (e :: l2) ++ Vw 4 ++ Y).length = p := by
   simp only [List.length_append, hz_len, Xy, List.length_cons]; omega
  have hsplit : ∀ Z : List UInt8, X ++ hzS big (e :: l2) ++ Vw 4 ++ Y ++ Z = (X ++ Wz big e) ++ Vw 4 ++ (hzS big l2 ++ Vw 4 ++ Y ++ Z) := fun Z => by
   unfold hzS
   rw [List.flatMap_cons]
   simp only [List.append_assoc]
  have hpos : (at_ : Int) + 2 + 12 * (i : Int) + 8 = ((X ++ Wz big e).length : Int) := by
   rw [List.length_append, hdr_len]; omega
  have hround : ∀ next : Int × Bool × List Int → Option (Int × Int × T_tag_writer), Vo l self t15 L next (i : Int) big (Xs (X ++ hzS big (e :: l2) ++ Vw 4 ++ Y)) = next (((i + 1 : Nat) : Int), big, Xs ((X ++ Wz big e ++ f) ++ hzS big l2 ++ Vw 4 ++ (Y ++ b))) := fun next => by
   unfold Vo
   have e4 : ∀ a m, Wq (i : Int) next a m = next (((i + 1 : Nat) : Int), a, m) := fun a m => by
    unfold Wq; rw [J2 (by omega), Jd]; rfl
   rw [cI, if_pos (by omega), Xl hlt, Jd, he, ht, J2 (by omega), Jd, J2 (by omega), Jd, J2 (by omega), Jd, J2 (by omega), Jd, cI]
   unfold entF at hF
   by_cases h13 : e.Value.Kind = 13
   ·rw [if_pos h13] at hF ⊢
    injection hF with hF1 hF2
    obtain ⟨q, hq⟩ := hself e hmem h13 (X ++ hzS big (e :: l2) ++ Vw 4 ++ Y) (by rw [hS, hF2]; omega)
    rw [hq, Jd]
    simp only
    rw [hS, hF2, set_eq4 (p := (X ++ Wz big e).length) hpos (by rw [hsplit]; simp only [List.length_append, Xy]; omega), Jd, e4, hF1, hsplit, put_at _ _ _ _ (by rw [hf4, Xy]) rfl]
    simp only [List.append_assoc]
   ·rw [if_neg h13] at hF ⊢
    rw [octets_eq hvb hok h13, Jd, cI, Xv]
    by_cases ho : (octS big e.Value).length ≤ 4
    ·rw [if_pos ho] at hF
     injection hF with hF1 hF2
     have hpn : ((at_ : Int) + 2 + 12 * (i : Int) + 8).toNat = X.length + 8 := by omega
     rw [if_pos (by omega), gCut_from (by rw [Xv, hS]; omega), Jd, e4, cpy_put (p := (X ++ Wz big e).length) hpos (by rw [List.length_drop, Xv, hS, hpn]; omega)]
     have h0 := hsplit []
     rw [List.append_nil] at h0
     have hz : Vw 4 = Vw (octS big e.Value).length ++ Vw (4 - (octS big e.Value).length) := by rw [← zer_add]; congr 1; omega
     have h1 : ∀ R, (X ++ Wz big e) ++ Vw 4 ++ R = (X ++ Wz big e) ++ Vw (octS big e.Value).length ++ (Vw (4 - (octS big e.Value).length) ++ R) := fun R => by
      rw [hz]
      simp only [List.append_assoc]
     rw [h0]
     rw [h1, put_at _ _ _ _ (by rw [Xy]) rfl, ← hF1, ← hF2]
     simp only [List.append_assoc, List.append_nil]
    ·rw [if_neg ho] at hF
     injection hF with hF1 hF2
     rw [if_neg (by omega), begin_eq (by rw [hS]; omega), Jd]
     simp only
     have hol := octS_le big e.Value
     rw [hS, set_eq4 (p := (X ++ Wz big e).length) hpos (by rw [hsplit]; simp only [List.length_append, Xy]; omega), Jd]
     simp only
     rw [Yf (by rw [Xv, Xv, put_len (by rw [hsplit, X1 _ _ (by omega)]; simp only [List.length_append, Xy]; omega), List.length_append, hS, pad_len]; rw [← hF2, List.length_append, pad_len] at hM; omega), Jd, e4, hsplit, put_at _ _ _ _ (by rw [X1 _ _ (by omega), Xy]) rfl, ← Wj, ← hF1, ← hF2]
     simp only [List.append_assoc]
  rw [Xi _ hround]
  have hq : (X ++ Wz big e ++ f).length + 12 * l2.length + 4 + (Y ++ b).length = p + b.length := by
   simp only [List.length_append, hdr_len, hf4]; omega
  have := ih (i + 1) (X ++ Wz big e ++ f) (Y ++ b) (by omega) hd' (by simp only [List.length_append, hdr_len, hf4]; omega) (by rw [hq]; omega)
  rw [this, hq]
  simp only [List.append_assoc]
end Go.M

/- Directories and files written by both, in plain Lean. Conditions: none. -/
namespace Go.M
open Go.Md Go.Pl
theorem zer_mul (n : Nat) : Vw (12 * (n + 1)) = Vw 2 ++ Vw 2 ++ Vw 4 ++ Vw 4 ++ Vw (12 * n) := by
 rw [← zer_add, ← zer_add, ← zer_add, ← zer_add]; congr 1; omega
theorem spec_loop {big : Bool} {l : List T_tag_Entry} (hl : l.length ≤ 200) (hv : ∀ e ∈ l, okV e.Value ∧ vB e.Value) {G : List T_tag_Entry → Nat → List UInt8} {self : T_tintref2_written × List T_tag_Entry → Option (Int × T_tintref2_written)}
  (hself : ∀ e ∈ l, e.Value.Kind = 13 → ∀ s : List UInt8, s.length + (G e.Value.Entries s.length).length ≤ 1099511627776 → self (⟨s, big⟩, e.Value.Entries) = some (((ev s.length : Nat) : Int), ⟨s ++ G e.Value.Entries s.length, big⟩))
  {t17 : Int × T_tintref2_written} {at_ : Nat} (ht : t17.1 = (at_ : Int)) :
  ∀ (l2 : List T_tag_Entry) (i : Nat) (X Y : List UInt8), i + l2.length = l.length → l.drop i = l2 → X.length = at_ + 2 + 12 * i → X.length + 12 * l2.length + 4 + Y.length + (bods G big l2 (X.length + 12 * l2.length + 4 + Y.length)).2.length ≤ 1099511627776 →
   Z3 (fun next1 a => Yp l self t17 next1 a.1 a.2.1 a.2.2) ((i : Int), X ++ Vw (12 * l2.length) ++ Vw 4 ++ Y, big) = some (t17.1, ⟨X ++ (bods G big l2 (X.length + 12 * l2.length + 4 + Y.length)).1 ++ Vw 4 ++ Y ++ (bods G big l2 (X.length + 12 * l2.length + 4 + Y.length)).2, big⟩) := by
 intro l2
 induction l2 with
 | nil =>
  intro i X Y hi _ hX hM
  refine Qq fun next => ?_
  show Yp l self t17 next (i : Int) _ big = _
  unfold Yp
  rw [cI, if_neg (by rw [List.length_nil] at hi; omega)]
  unfold bods
  simp [Vw]
 | cons e l2 ih =>
  intro i X Y hi hd hX hM
  have hlt : i < l.length := by rw [List.length_cons] at hi; omega
  have he : l[i] = e := by have := List.drop_eq_getElem_cons hlt; rw [hd] at this; injection this with h1 h2; exact h1.symm
  have hd' : l.drop (i + 1) = l2 := by have := List.drop_eq_getElem_cons hlt; rw [hd] at this; injection this with h1 h2; exact h2.symm
  have hmem : e ∈ l := he ▸ List.getElem_mem hlt
  obtain ⟨hok, hvb⟩ := hv e hmem
  generalize hp : X.length + 12 * (e :: l2).length + 4 + Y.length = p at hM ⊢
  rw [List.length_cons] at hp hi ⊢
  unfold bods at hM ⊢
  simp only at hM ⊢
  generalize hF : entF G big e p = F at hM ⊢
  obtain ⟨f, b⟩ := F
  have hf4 : f.length = 4 := by have := entF_len G big e p; rw [hF] at this; exact this
  simp only at hM ⊢
  rw [List.length_append] at hM
  have n2 : ∀ n, (Zi big n 2).length = 2 := fun n => X1 _ _ (by omega)
  have n4 : ∀ n, (Zi big n 4).length = 4 := fun n => X1 _ _ (by omega)
  generalize hR : Vw (12 * l2.length) ++ Vw 4 ++ Y = R
  have hRl : R.length = 12 * l2.length + 4 + Y.length := by rw [← hR]; simp only [List.length_append, Xy]
  have s0 : X ++ Vw (12 * (l2.length + 1)) ++ Vw 4 ++ Y = X ++ Vw 2 ++ (Vw 2 ++ Vw 4 ++ Vw 4 ++ R) := by
   rw [zer_mul, ← hR]; simp only [List.append_assoc]
  have e1 : put (X ++ Vw 2 ++ (Vw 2 ++ Vw 4 ++ Vw 4 ++ R)) X.length (Zi big e.Tag 2) = (X ++ Zi big e.Tag 2) ++ Vw 2 ++ (Vw 4 ++ Vw 4 ++ R) := by
   rw [put_at _ _ _ _ (by rw [n2, Xy]) rfl]; simp only [List.append_assoc]
  have e2 : put ((X ++ Zi big e.Tag 2) ++ Vw 2 ++ (Vw 4 ++ Vw 4 ++ R)) (X.length + 2) (Zi big e.Value.Kind 2) = (X ++ Zi big e.Tag 2 ++ Zi big e.Value.Kind 2) ++ Vw 4 ++ (Vw 4 ++ R) := by
   rw [put_at _ _ _ _ (by rw [n2, Xy]) (by rw [List.length_append, n2])]; simp only [List.append_assoc]
  have e3 : put ((X ++ Zi big e.Tag 2 ++ Zi big e.Value.Kind 2) ++ Vw 4 ++ (Vw 4 ++ R)) (X.length + 4) (Zi big (cntS e.Value) 4) = (X ++ Wz big e) ++ Vw 4 ++ R := by
   rw [put_at _ _ _ _ (by rw [n4, Xy]) (by rw [List.length_append, List.length_append, n2, n2])]
   unfold Wz; simp only [List.append_assoc]
  have hS : ((X ++ Wz big e) ++ Vw 4 ++ R).length = p := by
   simp only [List.length_append, hdr_len, Xy, hRl]; omega
  have hpos : (at_ : Int) + 2 + 12 * (i : Int) + 8 = ((X ++ Wz big e).length : Int) := by
   rw [List.length_append, hdr_len]; omega
  have hround : ∀ next : Int × List UInt8 × Bool → Option (Int × T_tintref2_written), Yp l self t17 next (i : Int) (X ++ Vw (12 * (l2.length + 1)) ++ Vw 4 ++ Y) big = next (((i + 1 : Nat) : Int), (X ++ Wz big e ++ f) ++ Vw (12 * l2.length) ++ Vw 4 ++ (Y ++ b), big) := fun next => by
   unfold Yp
   have e5 : ∀ m a, Z8 (i : Int) next m a = next (((i + 1 : Nat) : Int), m, a) := fun m a => by
    unfold Z8; rw [J2 (by omega), Jd]; rfl
   rw [cI, if_pos (by omega), Xl hlt, Jd, he, ht, J2 (by omega), Jd, J2 (by omega), Jd, J2 (by omega), Jd, s0]
   rw [R_set_eq (p := X.length) (k := 2) (k' := 2) (by omega) rfl (by omega) (by simp only [List.length_append, Xy]; omega) (by simp only [List.length_append, Xy, hRl]; omega), Jd, e1, J2 (by omega), Jd]
   rw [R_set_eq (p := X.length + 2) (k := 2) (k' := 2) (by omega) rfl (by omega) (by simp only [List.length_append, Xy, n2]; omega) (by simp only [List.length_append, Xy, hRl, n2]; omega), Jd, e2, J2 (by omega), Jd, R_count_eq hvb hok, Jd]
   rw [R_set_eq (p := X.length + 4) (k := 4) (k' := 4) (by omega) rfl (by omega) (by simp only [List.length_append, Xy, n2]; omega) (by simp only [List.length_append, Xy, hRl, n2]; omega), Jd, e3, cI]
   unfold entF at hF
   by_cases h13 : e.Value.Kind = 13
   ·rw [if_pos h13] at hF ⊢
    obtain ⟨hF1, hF2⟩ := Prod.mk.inj hF
    rw [J2 (by omega), Jd, hself e hmem h13 ((X ++ Wz big e) ++ Vw 4 ++ R) (by rw [hS, hF2]; omega), Jd]
    show J3 (Yq ⟨(X ++ Wz big e) ++ Vw 4 ++ R ++ G e.Value.Entries ((X ++ Wz big e) ++ Vw 4 ++ R).length, big⟩ _ _ 4) _ = _
    rw [hS, hF2, R_set_eq (p := (X ++ Wz big e).length) (k := 4) (k' := 4) (by omega) rfl (by omega) (by simp only [List.length_append, Xy]; omega) (by rw [List.length_append, hS]; omega), Jd, e5, hF1]
    have : (X ++ Wz big e) ++ Vw 4 ++ R ++ b = (X ++ Wz big e) ++ Vw 4 ++ (R ++ b) := by simp only [List.append_assoc]
    rw [this, put_at _ _ _ _ (by rw [hf4, Xy]) rfl, ← hR]
    simp only [List.append_assoc]
   ·rw [if_neg h13] at hF ⊢
    dsimp only
    rw [R_octets_eq hvb hok h13, Jd, cI]
    by_cases ho : (octS big e.Value).length ≤ 4
    ·rw [if_pos ho] at hF
     obtain ⟨hF1, hF2⟩ := Prod.mk.inj hF
     have hpn : ((at_ : Int) + 2 + 12 * (i : Int) + 8).toNat = (X ++ Wz big e).length := by omega
     have hp2 : ((at_ : Int) + 2 + 12 * (i : Int) + 8 + ((octS big e.Value).length : Int)).toNat = (X ++ Wz big e).length + (octS big e.Value).length := by omega
     have hXl : (X ++ Wz big e).length = X.length + 8 := by rw [List.length_append, hdr_len]
     rw [if_neg (by omega), J2 (by omega), Jd, gCut_to (by rw [hS]; omega), Jd, hpn]
     rw [Uh (by rw [List.length_take]; omega), Jd, Jd, J2 (by omega), Jd, gCut_from (by rw [hS]; omega), Jd, hp2]
     rw [Uh (by simp only [List.length_append, List.length_take, List.length_drop, hS]; omega), Jd, e5]
     have hput : List.take (X ++ Wz big e).length ((X ++ Wz big e) ++ Vw 4 ++ R) ++ octS big e.Value ++ List.drop ((X ++ Wz big e).length + (octS big e.Value).length) ((X ++ Wz big e) ++ Vw 4 ++ R) = put ((X ++ Wz big e) ++ Vw 4 ++ R) (X ++ Wz big e).length (octS big e.Value) := rfl
     have hz : Vw 4 = Vw (octS big e.Value).length ++ Vw (4 - (octS big e.Value).length) := by rw [← zer_add]; congr 1; omega
     have h1 : (X ++ Wz big e) ++ Vw 4 ++ R = (X ++ Wz big e) ++ Vw (octS big e.Value).length ++ (Vw (4 - (octS big e.Value).length) ++ R) := by
      rw [hz]
      simp only [List.append_assoc]
     rw [hput, h1, put_at _ _ _ _ (by rw [Xy]) rfl, ← hF1, ← hF2, ← hR]
     simp only [List.append_assoc, List.append_nil]
    ·rw [if_neg ho] at hF
     obtain ⟨hF1, hF2⟩ := Prod.mk.inj hF
     have hbl : b.length = p % 2 + (octS big e.Value).length := by rw [← hF2, List.length_append, pad_len]
     rw [if_pos (by omega), J2 (by omega), Jd, R_add_eq (by rw [hS]; omega), Jd]
     dsimp only
     rw [hS, R_set_eq (p := (X ++ Wz big e).length) (k := 4) (k' := 4) (by omega) rfl (by omega) (by simp only [List.length_append, Xy]; omega) (by simp only [List.length_append, pad_len]; rw [← List.length_append, ← List.length_append, ← List.length_append, hS]; omega), Jd, e5]
     have : (X ++ Wz big e) ++ Vw 4 ++ R ++ pad p ++ octS big e.Value = (X ++ Wz big e) ++ Vw 4 ++ (R ++ pad p ++ octS big e.Value) := by simp only [List.append_assoc]
     rw [this, put_at _ _ _ _ (by rw [n4, Xy]) rfl, ← hF1, ← hF2, ← hR]
     simp only [List.append_assoc]
  rw [Xi _ hround]
  have hq : (X ++ Wz big e ++ f).length + 12 * l2.length + 4 + (Y ++ b).length = p + b.length := by
   simp only [List.length_append, hdr_len, hf4]; omega
  have := ih (i + 1) (X ++ Wz big e ++ f) (Y ++ b) (by omega) hd' (by simp only [List.length_append, hdr_len, hf4]; omega) (by rw [hq]; omega)
  rw [this, hq]
  simp only [List.append_assoc]
theorem dir_eq (d : Nat) (big : Bool) (s : List UInt8) (l : List T_tag_Entry) (hok : okD d l) (hz : szD d l ≤ 2000000) (hM : s.length + (V5 d big l s.length).length ≤ 1099511627776) :
  tag_writer_dir ⟨big, Xs s⟩ l = some (((ev s.length : Nat) : Int), ((ev s.length + 2 + 12 * l.length : Nat) : Int), ⟨big, Xs (s ++ V5 d big l s.length)⟩) := by
 unfold tag_writer_dir
 have := fix_ofG (F := fun (self : (T_tag_writer × List T_tag_Entry) → Option (Int × Int × T_tag_writer)) (s : T_tag_writer × List T_tag_Entry) => Jae self s.1 s.2)
  (fun (g : Nat × Bool × List UInt8) (a : T_tag_writer × List T_tag_Entry) => some (((ev g.2.2.length : Nat) : Int), ((ev g.2.2.length + 2 + 12 * a.2.length : Nat) : Int), ⟨g.2.1, Xs (g.2.2 ++ V5 g.1 g.2.1 a.2 g.2.2.length)⟩))
  (fun g a => a.1 = ⟨g.2.1, Xs g.2.2⟩ ∧ okD g.1 a.2 ∧ szD g.1 a.2 ≤ 2000000 ∧ g.2.2.length + (V5 g.1 g.2.1 a.2 g.2.2.length).length ≤ 1099511627776) (fun g => g.1) ?_ (d, big, s) (⟨big, Xs s⟩, l) ⟨rfl, hok, hz, hM⟩
 ·exact this
 rintro next ⟨d, big, s⟩ ⟨w, l⟩ ⟨hw, hok, hz, hM⟩ ih
 simp only at hw hok hz hM ih ⊢
 subst hw
 cases d with
 | zero => exact hok.elim
 | succ d =>
  obtain ⟨hl, hall⟩ := hok
  have hM' := dirB_len (V5 d big) big l s.length
  have hMM : s.length + (dirB (V5 d big) big l s.length).length ≤ 1099511627776 := hM
  unfold Jae
  have hev : ev s.length = (s ++ pad s.length).length := by rw [List.length_append, pad_len]; rfl
  rw [begin_eq (by omega), Jd]
  dsimp only
  rw [tag2, Jd, Yf (by rw [Xv, Xv, ← hev, X1 _ _ (by omega)]; omega), Jd, ← Wj]
  have hX : (s ++ pad s.length ++ Zi big l.length 2).length = ev s.length + 2 := by rw [List.length_append, ← hev, X1 _ _ (by omega)]
  rw [heads_loop hl (fun e he => (vB_of hz he).1) rfl _ (by rw [hX]; omega)]
  unfold Uu
  dsimp only
  rw [Yf (by rw [Xv, List.length_append, hX, hz_len]; simp; omega), Jd, ← ofStr_zer4, ← Wj]
  have := prog_loop (big := big) hl (fun e he => ⟨(hall e he).1, (vB_of hz he).1⟩) (G := V5 d big) (self := next) (fun e he h13 s' hs' => ⟨_, ih (d, big, s') (⟨big, Xs s'⟩, e.Value.Entries) ⟨rfl, (hall e he).2 h13, (vB_of hz he).2, hs'⟩ (by simp)⟩)
   (t15 := (((ev s.length : Nat) : Int), ⟨big, Xs (s ++ pad s.length)⟩)) (at_ := ev s.length) rfl (Xs (s ++ pad s.length ++ Zi big l.length 2 ++ hzS big l)) l 0 (s ++ pad s.length ++ Zi big l.length 2) [] (by omega) rfl (by rw [hX]) (by rw [hX, List.length_nil, Nat.add_zero]; omega)
  rw [List.append_nil] at this
  refine this.trans ?_
  rw [hX, Xv, List.length_append, hX, hz_len, List.length_nil, Nat.add_zero, List.append_nil]
  show some _ = some (_, _, (⟨big, Xs (s ++ dirB (V5 d big) big l s.length)⟩ : T_tag_writer))
  unfold dirB
  simp only [List.append_assoc]
end Go.M

/- Files written and checked; the law TagWrites, in plain Lean. Conditions: none. -/
namespace Go.M
open Go.Md Go.Pl
theorem rep_zero (n : Nat) : (List.replicate n ([0] : List UInt8)).flatten = Vw n := by
 unfold Vw
 induction n with
 | zero => rfl
 | succ n ih => rw [List.replicate_succ, List.flatten_cons, ih, List.replicate_succ]; rfl
theorem R_dir_eq (d : Nat) (big : Bool) (s : List UInt8) (l : List T_tag_Entry) (hok : okD d l) (hz : szD d l ≤ 2000000) (hM : s.length + (V5 d big l s.length).length ≤ 1099511627776) :
  Ja9 ⟨s, big⟩ l = some (((ev s.length : Nat) : Int), ⟨s ++ V5 d big l s.length, big⟩) := by
 unfold Ja9
 have := fix_ofG (F := fun (self : (T_tintref2_written × List T_tag_Entry) → Option (Int × T_tintref2_written)) (s : T_tintref2_written × List T_tag_Entry) => Yt self s.1 s.2)
  (fun (g : Nat × Bool × List UInt8) (a : T_tintref2_written × List T_tag_Entry) => some (((ev g.2.2.length : Nat) : Int), ⟨g.2.2 ++ V5 g.1 g.2.1 a.2 g.2.2.length, g.2.1⟩))
  (fun g a => a.1 = ⟨g.2.2, g.2.1⟩ ∧ okD g.1 a.2 ∧ szD g.1 a.2 ≤ 2000000 ∧ g.2.2.length + (V5 g.1 g.2.1 a.2 g.2.2.length).length ≤ 1099511627776) (fun g => g.1) ?_ (d, big, s) (⟨s, big⟩, l) ⟨rfl, hok, hz, hM⟩
 ·exact this
 rintro next ⟨d, big, s⟩ ⟨w, l⟩ ⟨hw, hok, hz, hM⟩ ih
 simp only at hw hok hz hM ih ⊢
 subst hw
 cases d with
 | zero => exact hok.elim
 | succ d =>
  obtain ⟨hl, hall⟩ := hok
  have hM' := dirB_len (V5 d big) big l s.length
  have hMM : s.length + (dirB (V5 d big) big l s.length).length ≤ 1099511627776 := hM
  have hev : ev s.length = (s ++ pad s.length).length := by rw [List.length_append, pad_len]; rfl
  unfold Yt
  have ht : (2 + 12 * (l.length : Int) + 4).toNat = 2 + 12 * l.length + 4 := by omega
  rw [J2 (by omega), Jd, J2 (by omega), Jd, J2 (by omega), Jd]
  have hrep : gRep [0] (2 + 12 * (l.length : Int) + 4) = some (Vw (2 + 12 * l.length + 4)) := by
   unfold gRep
   rw [if_pos (by rw [List.length_singleton]; omega), ht, rep_zero]
  rw [hrep, Jd, R_add_eq (by rw [Xy]; omega), Jd]
  have hsp : s ++ pad s.length ++ Vw (2 + 12 * l.length + 4) = (s ++ pad s.length) ++ Vw 2 ++ (Vw (12 * l.length) ++ Vw 4) := by
   rw [zer_add, zer_add]; simp only [List.append_assoc]
  show J3 (Yq ⟨s ++ pad s.length ++ Vw (2 + 12 * l.length + 4), big⟩ _ _ 2) _ = _
  rw [R_set_eq (p := ev s.length) (k := 2) (k' := 2) rfl rfl (by omega) (by rw [List.length_append, ← hev, Xy]; omega) (by rw [List.length_append, ← hev, Xy]; omega), Jd, hsp, put_at _ _ _ _ (by rw [X1 _ _ (by omega), Xy]) hev]
  have hX : (s ++ pad s.length ++ Zi big l.length 2).length = ev s.length + 2 := by rw [List.length_append, ← hev, X1 _ _ (by omega)]
  have := spec_loop (big := big) hl (fun e he => ⟨(hall e he).1, (vB_of hz he).1⟩) (G := V5 d big) (self := next) (fun e he h13 s' hs' => ih (d, big, s') (⟨s', big⟩, e.Value.Entries) ⟨rfl, (hall e he).2 h13, (vB_of hz he).2, hs'⟩ (by simp))
   (t17 := (((ev s.length : Nat) : Int), ⟨s ++ pad s.length ++ Vw (2 + 12 * l.length + 4), big⟩)) (at_ := ev s.length) rfl l 0 (s ++ pad s.length ++ Zi big l.length 2) [] (by omega) rfl (by rw [hX]) (by rw [hX, List.length_nil, Nat.add_zero]; omega)
  rw [List.append_nil] at this
  have hst : s ++ pad s.length ++ Zi big l.length 2 ++ (Vw (12 * l.length) ++ Vw 4) = s ++ pad s.length ++ Zi big l.length 2 ++ Vw (12 * l.length) ++ Vw 4 := by simp only [List.append_assoc]
  rw [hst, ← hsp]
  refine this.trans ?_
  rw [hX, List.length_nil, Nat.add_zero, List.append_nil]
  show some _ = some (_, (⟨s ++ dirB (V5 d big) big l s.length, big⟩ : T_tintref2_written))
  unfold dirB
  simp only [List.append_assoc]
theorem even_eq (p : Nat) (hp : p ≤ 4611686018427387904) : tag_even (p : Int) = some ((ev p : Nat) : Int) := by
 unfold tag_even ev
 have e : ((p : Int)).tmod 2 = ((p % 2 : Nat) : Int) := by rw [Int.tmod_eq_emod_of_nonneg (by omega)]; omega
 rw [gRem_ok (by omega), Jd, e, J2 (by omega), Jd]; rfl
theorem octetsOf_eq {v : T_tag_Value} (hb : vB v) (hok : okV v) (h13 : v.Kind ≠ 13) (big : Bool) : Uf v = some ((octS big v).length : Int) := by
 unfold Uf
 have h1 := octS_le big v
 have h2 := octS_len big hok h13
 obtain ⟨b1, b2, b3⟩ := hb
 rw [count_eq ⟨b1, b2, b3⟩, Jd, sizeOf_eq, Jd, if_neg h13, ← Int.natCast_mul, ← h2, J2 (by omega), Jd]
theorem dirEnd_eq (big : Bool) (d : Nat) (l : List T_tag_Entry) (p : Nat) (hok : okD d l) (hz : szD d l ≤ 2000000) (hM : p + (V5 d big l p).length ≤ 1099511627776) :
  tag_dirEnd l (p : Int) = some (((p + (V5 d big l p).length : Nat)) : Int) := by
 unfold tag_dirEnd
 have := fix_ofG (F := fun (self : (List T_tag_Entry × Int) → Option Int) (s : List T_tag_Entry × Int) => Zy self s.1 s.2)
  (fun (g : Nat × Nat) (a : List T_tag_Entry × Int) => some (((g.2 + (V5 g.1 big a.1 g.2).length : Nat)) : Int))
  (fun g a => a.2 = (g.2 : Int) ∧ okD g.1 a.1 ∧ szD g.1 a.1 ≤ 2000000 ∧ g.2 + (V5 g.1 big a.1 g.2).length ≤ 1099511627776) (fun g => g.1) ?_ (d, p) (l, (p : Int)) ⟨rfl, hok, hz, hM⟩
 ·exact this
 rintro next ⟨d, p⟩ ⟨l, a⟩ ⟨hw, hok, hz, hM⟩ ih
 simp only at hw hok hz hM ih ⊢
 subst hw
 cases d with
 | zero => exact hok.elim
 | succ d =>
  obtain ⟨hl, hall⟩ := hok
  have hM' := dirB_len (V5 d big) big l p
  have hMM : p + (dirB (V5 d big) big l p).length ≤ 1099511627776 := hM
  unfold Zy
  rw [even_eq p (by omega), Jd, J2 (by omega), Jd, J2 (by omega), Jd, J2 (by omega), Jd, J2 (by omega), Jd]
  have key : ∀ (l2 : List T_tag_Entry) (i q : Nat), i + l2.length = l.length → l.drop i = l2 → q + (bods (V5 d big) big l2 q).2.length ≤ 1099511627776 → Z3 (fun next1 s => Zk l next next1 s.1 s.2) ((q : Int), (i : Int)) = some (((q + (bods (V5 d big) big l2 q).2.length : Nat)) : Int) := by
   intro l2
   induction l2 with
   | nil =>
    intro i q hi _ _
    refine Qq fun nx => ?_
    show Zk l next nx (q : Int) (i : Int) = _
    unfold Zk
    rw [cI, if_neg (by rw [List.length_nil] at hi; omega)]
    rfl
   | cons e l2 ih2 =>
    intro i q hi hd hq
    have hlt : i < l.length := by rw [List.length_cons] at hi; omega
    have he : l[i] = e := by have := List.drop_eq_getElem_cons hlt; rw [hd] at this; injection this with h1 h2; exact h1.symm
    have hd' : l.drop (i + 1) = l2 := by have := List.drop_eq_getElem_cons hlt; rw [hd] at this; injection this with h1 h2; exact h2.symm
    have hmem : e ∈ l := he ▸ List.getElem_mem hlt
    have hvb := (vB_of hz hmem).1
    have hok := (hall e hmem).1
    rw [List.length_cons] at hi
    unfold bods at hq ⊢
    simp only at hq ⊢
    generalize hF : entF (V5 d big) big e q = F at hq ⊢
    obtain ⟨f, b⟩ := F
    simp only at hq ⊢
    rw [List.length_append] at hq ⊢
    have hround : ∀ nx : Int × Int → Option Int, Zk l next nx (q : Int) (i : Int) = nx (((q + b.length : Nat) : Int), ((i + 1 : Nat) : Int)) := fun nx => by
     unfold Zk
     have e2 : ∀ x, Wx (i : Int) nx x = nx (x, ((i + 1 : Nat) : Int)) := fun x => by
      unfold Wx; rw [J2 (by omega), Jd]; rfl
     rw [cI, if_pos (by omega), Xl hlt, Jd, he, cI]
     unfold entF at hF
     by_cases h13 : e.Value.Kind = 13
     ·rw [if_pos h13] at hF ⊢
      obtain ⟨_, hF2⟩ := Prod.mk.inj hF
      have := ih (d, q) (e.Value.Entries, (q : Int)) ⟨rfl, (hall e hmem).2 h13, (vB_of hz hmem).2, by show q + (V5 d big e.Value.Entries q).length ≤ _; rw [hF2]; omega⟩ (by simp)
      rw [this, Jd, e2]
      show nx (((q + (V5 d big e.Value.Entries q).length : Nat) : Int), _) = _
      rw [hF2]
     ·rw [if_neg h13] at hF ⊢
      rw [octetsOf_eq hvb hok h13 big, Jd, cI, e2]
      by_cases ho : (octS big e.Value).length ≤ 4
      ·rw [if_pos ho] at hF
       obtain ⟨_, hF2⟩ := Prod.mk.inj hF
       rw [if_neg (by omega), ← hF2]; rfl
      ·rw [if_neg ho] at hF
       obtain ⟨_, hF2⟩ := Prod.mk.inj hF
       have hbl : b.length = q % 2 + (octS big e.Value).length := by rw [← hF2, List.length_append, pad_len]
       rw [if_pos (by omega), even_eq q (by omega), Jd, Jd, J2 (by unfold ev; omega), Jd, e2, hbl]
       congr 2
       unfold ev; omega
    rw [Xi _ hround, ih2 (i + 1) (q + b.length) (by omega) hd' (by omega)]
    congr 2
    omega
  have := key l 0 (ev p + 2 + 12 * l.length + 4) (by omega) rfl (by omega)
  have e0 : ((ev p : Nat) : Int) + 2 + 12 * (l.length : Int) + 4 = ((ev p + 2 + 12 * l.length + 4 : Nat) : Int) := by omega
  rw [e0]
  refine this.trans ?_
  rw [← hM']
  rfl
noncomputable def filS (big : Bool) : List (List T_tag_Entry) → List UInt8 → Nat → List UInt8
 | [], s, _ => s
 | l :: ls, s, link => filS big ls (put (s ++ V5 5 big l s.length) link (Zi big ((ev s.length : Nat) : Int) 4)) (ev s.length + 2 + 12 * l.length)
noncomputable def lenF (big : Bool) : List (List T_tag_Entry) → Nat → Nat
 | [], p => p
 | l :: ls, p => lenF big ls (p + (V5 5 big l p).length)
def szL : List (List T_tag_Entry) → Nat
 | [] => 0
 | l :: ls => 8 + 32 * szD 5 l + szL ls
def dirsOk (ls : List (List T_tag_Entry)) : Prop := ∀ l ∈ ls, okD 5 l ∧ szD 5 l ≤ 2000000
theorem dir5_len {big : Bool} {l : List T_tag_Entry} {p : Nat} : ev p + 2 + 12 * l.length + 4 ≤ p + (V5 5 big l p).length := by
 have := dirB_len (V5 4 big) big l p
 show _ ≤ p + (dirB (V5 4 big) big l p).length
 omega
theorem filS_len (big : Bool) : ∀ (ls : List (List T_tag_Entry)) (s : List UInt8) (link : Nat), link + 4 ≤ s.length → (filS big ls s link).length = lenF big ls s.length
 | [], _, _, _ => rfl
 | l :: ls, s, link, h => by
  unfold filS lenF
  have h5 := dir5_len (big := big) (l := l) (p := s.length)
  have hp : (put (s ++ V5 5 big l s.length) link (Zi big ((ev s.length : Nat) : Int) 4)).length = s.length + (V5 5 big l s.length).length := by
   rw [put_len (by rw [X1 _ _ (by omega), List.length_append]; omega), List.length_append]
  rw [filS_len big ls _ _ (by rw [hp]; omega), hp]
theorem oct_loop (f : T_tag_File) (hok : dirsOk f.Dirs) (hn : f.Dirs.length ≤ 20) : ∀ (ls : List (List T_tag_Entry)) (i : Nat) (s : List UInt8) (link : Nat), i + ls.length = f.Dirs.length → f.Dirs.drop i = ls → link + 4 ≤ s.length → s.length + szL ls ≤ 549755813888 →
  Z3 (fun next3 a => Vx f next3 a.1 a.2.1 a.2.2.1 a.2.2.2) ((link : Int), (i : Int), s, f.Big) = some (filS f.Big ls s link) ∧ Z3 (fun next3 a => U0 f next3 a.1 a.2.1 a.2.2.1 a.2.2.2) ((link : Int), (i : Int), f.Big, Xs s) = some (filS f.Big ls s link) := by
 intro ls
 induction ls with
 | nil =>
  intro i s link hi _ _ _
  rw [List.length_nil] at hi
  refine ⟨Qq fun next => ?_, Qq fun next => ?_⟩
  ·show Vx f next _ (i : Int) s f.Big = _
   unfold Vx
   rw [cI, if_neg (by omega)]; rfl
  ·show U0 f next _ (i : Int) f.Big (Xs s) = _
   unfold U0
   rw [cI, if_neg (by omega)]
   unfold tag_written_j2 filS
   rw [toStr_ofStr]
 | cons l ls ih =>
  intro i s link hi hd hlk hsz
  rw [List.length_cons] at hi
  have hlt : i < f.Dirs.length := by omega
  have he : f.Dirs[i] = l := by have := List.drop_eq_getElem_cons hlt; rw [hd] at this; injection this with h1 h2; exact h1.symm
  have hd' : f.Dirs.drop (i + 1) = ls := by have := List.drop_eq_getElem_cons hlt; rw [hd] at this; injection this with h1 h2; exact h2.symm
  obtain ⟨o1, o2⟩ := hok l (he ▸ List.getElem_mem hlt)
  unfold szL at hsz
  have hle := dirS_le f.Big 5 l s.length
  have h5 := dir5_len (big := f.Big) (l := l) (p := s.length)
  have hl200 : l.length ≤ 200 := o1.1
  have hp : (put (s ++ V5 5 f.Big l s.length) link (Zi f.Big ((ev s.length : Nat) : Int) 4)).length = s.length + (V5 5 f.Big l s.length).length := by
   rw [put_len (by rw [X1 _ _ (by omega), List.length_append]; omega), List.length_append]
  obtain ⟨a1, a2⟩ := ih (i + 1) (put (s ++ V5 5 f.Big l s.length) link (Zi f.Big ((ev s.length : Nat) : Int) 4)) (ev s.length + 2 + 12 * l.length) (by omega) hd' (by rw [hp]; omega) (by rw [hp]; omega)
  have hev : ev s.length ≤ s.length + 1 := by unfold ev; omega
  refine ⟨?_, ?_⟩
  ·refine Eq.trans (Xi _ fun next => ?_) a1
   show Vx f next (link : Int) (i : Int) s f.Big = _
   unfold Vx
   rw [cI, if_pos (by omega), Xl hlt, Jd, he, R_dir_eq 5 f.Big s l o1 o2 (by omega), Jd]
   show J3 (Yq ⟨s ++ V5 5 f.Big l s.length, f.Big⟩ _ _ 4) _ = _
   rw [R_set_eq (p := link) (k := 4) (k' := 4) rfl rfl (by omega) (by rw [List.length_append]; omega) (by rw [List.length_append]; omega), Jd]
   show J3 (gI (((ev s.length : Nat) : Int) + 2)) _ = _
   rw [J2 (by omega), Jd, J2 (by omega), Jd, J2 (by omega), Jd, J2 (by omega), Jd]
   rfl
  ·refine Eq.trans (Xi _ fun next => ?_) a2
   show U0 f next (link : Int) (i : Int) f.Big (Xs s) = _
   unfold U0
   rw [cI, if_pos (by omega), Xl hlt, Jd, he, dir_eq 5 f.Big s l o1 o2 (by omega), Jd]
   show J3 (W9 ⟨f.Big, Xs (s ++ V5 5 f.Big l s.length)⟩ _ _) _ = _
   rw [set_eq4 (p := link) rfl (by rw [List.length_append]; omega), Jd, J2 (by omega), Jd]
   rfl
noncomputable def headS (big : Bool) : List UInt8 := (if big then [77, 77] else [73, 73]) ++ Zi big 42 2 ++ Vw 4
theorem headS_len (big : Bool) : (headS big).length = 8 := by
 unfold headS
 rw [List.length_append, List.length_append, X1 _ _ (by omega), Xy]
 cases big <;> rfl
noncomputable def octF (f : T_tag_File) : List UInt8 := filS f.Big f.Dirs (headS f.Big) 4
theorem octF_len (f : T_tag_File) : (octF f).length = lenF f.Big f.Dirs 8 := by
 unfold octF; rw [filS_len _ _ _ _ (by rw [headS_len]; omega), headS_len]
theorem Octets_eq {f : T_tag_File} (hok : dirsOk f.Dirs) (hn : f.Dirs.length ≤ 20) (hsz : szL f.Dirs ≤ 274877906944) : R_Octets f = some (octF f) := by
 have key : ∀ m : List UInt8, m.length = 2 → m ++ Zi f.Big 42 2 ++ Vw 4 = headS f.Big → Jav f m = some (octF f) := fun m hm hh => by
  unfold Jav
  have hz : Zi f.Big 0 4 = Vw 4 := num_zero f.Big (by omega)
  rw [R2, Jd, R4, Jd, hz, Uh (by rw [X1 _ _ (by omega), Xy]; omega), Jd, Uh (by rw [List.length_append, X1 _ _ (by omega), Xy]; omega), Jd, ← List.append_assoc, hh]
  exact (oct_loop f hok hn f.Dirs 0 (headS f.Big) 4 (by omega) rfl (by rw [headS_len]; omega) (by rw [headS_len]; omega)).1
 unfold R_Octets
 cases h : f.Big
 ·rw [Qr, key [73, 73] rfl (by rw [h]; rfl)]
 ·rw [Qu, key [77, 77] rfl (by rw [h]; rfl)]
theorem size_eq {f : T_tag_File} (hok : dirsOk f.Dirs) (hn : f.Dirs.length ≤ 20) (hsz : szL f.Dirs ≤ 274877906944) : tag_size f = some ((octF f).length : Int) := by
 rw [octF_len]
 unfold tag_size
 have key : ∀ (ls : List (List T_tag_Entry)) (i p : Nat), i + ls.length = f.Dirs.length → f.Dirs.drop i = ls → p + szL ls ≤ 549755813888 → Z3 (fun next1 s => V0 f next1 s.1 s.2) ((p : Int), (i : Int)) = some (lenF f.Big ls p : Int) := by
  intro ls
  induction ls with
  | nil =>
   intro i p hi _ _
   rw [List.length_nil] at hi
   refine Qq fun next => ?_
   show V0 f next (p : Int) (i : Int) = _
   unfold V0
   rw [cI, if_neg (by omega)]; rfl
  | cons l ls ih =>
   intro i p hi hd hs
   rw [List.length_cons] at hi
   have hlt : i < f.Dirs.length := by omega
   have he : f.Dirs[i] = l := by have := List.drop_eq_getElem_cons hlt; rw [hd] at this; injection this with h1 h2; exact h1.symm
   have hd' : f.Dirs.drop (i + 1) = ls := by have := List.drop_eq_getElem_cons hlt; rw [hd] at this; injection this with h1 h2; exact h2.symm
   obtain ⟨o1, o2⟩ := hok l (he ▸ List.getElem_mem hlt)
   unfold szL at hs
   have hle := dirS_le f.Big 5 l p
   refine Eq.trans (Xi (((p + (V5 5 f.Big l p).length : Nat) : Int), ((i + 1 : Nat) : Int)) fun next => ?_) (ih (i + 1) (p + (V5 5 f.Big l p).length) (by omega) hd' (by omega))
   show V0 f next (p : Int) (i : Int) = _
   unfold V0
   rw [cI, if_pos (by omega), Xl hlt, Jd, he, dirEnd_eq f.Big 5 l p o1 o2 (by omega), Jd, J2 (by omega), Jd]
   rfl
 exact key f.Dirs 0 8 (by omega) rfl (by omega)
noncomputable def Us : List (List T_tag_Entry) → Int
 | [] => 0
 | l :: ls => if dE 5 l ≠ 0 then dE 5 l else Us ls
theorem firstD_ok : ∀ {ls : List (List T_tag_Entry)}, Us ls = 0 → ∀ l ∈ ls, dE 5 l = 0
 | [], _, l, hl => by cases hl
 | x :: ls, h, l, hl => by
  unfold Us at h
  split at h
  ·rename_i h1; exact absurd h h1
  ·rename_i h1
   rcases List.mem_cons.1 hl with h' | h'
   ·subst h'; simpa using h1
   ·exact firstD_ok h l h'
theorem scan_dirs {F : (Int → Option Int) → Int → Option Int} (ls : List (List T_tag_Entry)) (o : Option Int) (more : ∀ (next : Int → Option Int) (k : Nat) (hk : k < ls.length), F next (k : Int) = if dE 5 ls[k] ≠ 0 then some (dE 5 ls[k]) else next ((k : Int) + 1)) (stop : Us ls = 0 → ∀ next, F next (ls.length : Int) = o) :
  Z3 F 0 = if Us ls ≠ 0 then some (Us ls) else o := by
 have key : ∀ m i : Nat, i + m = ls.length → (Us ls = Us (ls.drop i)) → Z3 F (i : Int) = if Us ls ≠ 0 then some (Us ls) else o := by
  intro m
  induction m with
  | zero =>
   intro i hi hf
   have : i = ls.length := by omega
   subst this
   rw [List.drop_length] at hf
   have h0 : Us ls = 0 := hf
   rw [if_neg (by simpa using h0)]
   exact Qq (stop h0)
  | succ m ih =>
   intro i hi hf
   have hlt : i < ls.length := by omega
   rw [List.drop_eq_getElem_cons hlt] at hf
   unfold Us at hf
   by_cases h : dE 5 ls[i] ≠ 0
   ·rw [if_pos h] at hf
    have : Z3 F (i : Int) = some (dE 5 ls[i]) := Qq fun next => by rw [more next i hlt, if_pos h]
    have hf' : Us ls = dE 5 ls[i] := by unfold Us; exact hf
    rw [this, hf', if_pos h]
   ·rw [if_neg h] at hf
    rw [Xi ((i : Int) + 1) (fun next => by rw [more next i hlt, if_neg h])]
    exact ih (i + 1) (by omega) (by conv => lhs; unfold Us
                                    exact hf)
 exact key ls.length 0 (by omega) rfl
def fileB (f : T_tag_File) : Prop := (∀ l ∈ f.Dirs, szD 5 l ≤ 2000000) ∧ szL f.Dirs ≤ 274877906944
noncomputable def fileE (f : T_tag_File) : Int := if 20 < f.Dirs.length then 4 else if Us f.Dirs ≠ 0 then Us f.Dirs else if 65000 < (octF f).length then 4 else 0
theorem dirs_ok {f : T_tag_File} (hb : fileB f) (h : Us f.Dirs = 0) : dirsOk f.Dirs := fun l hl => ⟨dE_ok (firstD_ok h l hl), hb.1 l hl⟩
theorem Check_eq {f : T_tag_File} (hb : fileB f) : tag_Check f = some (fileE f) := by
 unfold tag_Check fileE
 rw [cI]
 by_cases hn : 20 < f.Dirs.length
 ·rw [if_pos (by omega), if_pos hn]
 rw [if_neg (by omega), if_neg hn]
 rw [scan_dirs (F := fun next2 s => Vb f next2 s) f.Dirs (some (if 65000 < (octF f).length then 4 else 0)) (fun next k hk => ?_) (fun h0 next => ?_)]
 ·split <;> rfl
 ·show Vb f next (k : Int) = _
  unfold Vb
  rw [cI, if_pos (by omega), Xl hk, Jd, checkDir_eq 5 _ 1 (by omega) (by omega) (hb.1 _ (List.getElem_mem hk)), Jd, cI, J2 (by omega), Jd]
 ·show Vb f next (f.Dirs.length : Int) = _
  unfold Vb
  rw [cI, if_neg (by omega)]
  unfold tag_Check_j1
  rw [size_eq (dirs_ok hb h0) (by omega) hb.2, Jd, cI]
  by_cases h : 65000 < (octF f).length
  ·rw [if_pos (by omega), if_pos h]
  ·rw [if_neg (by omega), if_neg h]
theorem FileFault_eq {f : T_tag_File} (hb : fileB f) : R_FileFault f = some (fileE f) := by
 unfold R_FileFault fileE
 rw [cI]
 by_cases hn : 20 < f.Dirs.length
 ·rw [if_pos (by omega), if_pos hn]
 rw [if_neg (by omega), if_neg hn]
 rw [scan_dirs (F := fun next2 s => Zb f next2 s) f.Dirs (some (if 65000 < (octF f).length then 4 else 0)) (fun next k hk => ?_) (fun h0 next => ?_)]
 ·split <;> rfl
 ·show Zb f next (k : Int) = _
  unfold Zb
  rw [cI, if_pos (by omega), Xl hk, Jd, dirFault_eq 5 _ 1 (by omega) (by omega) (hb.1 _ (List.getElem_mem hk)), Jd, cI, J2 (by omega), Jd]
 ·show Zb f next (f.Dirs.length : Int) = _
  unfold Zb
  rw [cI, if_neg (by omega)]
  unfold Ja2
  rw [Octets_eq (dirs_ok hb h0) (by omega) hb.2, Jd, cI]
  by_cases h : 65000 < (octF f).length
  ·rw [if_pos (by omega), if_pos h]
  ·rw [if_neg (by omega), if_neg h]
theorem fileE_zero {f : T_tag_File} (hb : fileB f) (h : fileE f = 0) : dirsOk f.Dirs ∧ f.Dirs.length ≤ 20 := by
 unfold fileE at h
 split at h
 ·omega
 rename_i hn
 split at h
 ·rename_i h1; exact absurd h h1
 ·rename_i h1; exact ⟨dirs_ok hb (by simpa using h1), by omega⟩
theorem szL_eq : ∀ ls : List (List T_tag_Entry), szL ls = 8 * ls.length + 32 * (ls.map (szD 5)).sum
 | [] => rfl
 | l :: ls => by unfold szL; rw [szL_eq ls, List.map_cons, List.sum_cons, List.length_cons]; omega
theorem sz_in {l : List T_tag_Entry} : ∀ {ls : List (List T_tag_Entry)}, l ∈ ls → szD 5 l ≤ (ls.map (szD 5)).sum
 | [], h => by cases h
 | x :: ls, h => by
  rw [List.map_cons, List.sum_cons]
  rcases List.mem_cons.1 h with h | h
  ·subst h; omega
  ·have := sz_in h; omega
theorem fileB_of {f : T_tag_File} (h1 : f.Dirs.length ≤ 1048576) (h2 : (f.Dirs.map (szD 5)).sum ≤ 1048576) : fileB f :=
 ⟨fun l hl => by have := sz_in hl; omega, by rw [szL_eq]; omega⟩
end Go.M

/- Numbers and values read from octets, in plain Lean. Conditions: none. -/
namespace Go.M
open Go.Md Go.Pl
set_option linter.unusedVariables false
def valB (big : Bool) (bs : List UInt8) : Nat := (if big then bs else bs.reverse).foldl (fun v b => v * 256 + b.toNat) 0
theorem fold_bd : ∀ (L : List UInt8) (v : Nat), L.foldl (fun v b => v * 256 + b.toNat) v < (v + 1) * 256 ^ L.length
 | [], v => by simp
 | b :: L, v => by
  rw [List.foldl_cons, List.length_cons, Nat.pow_succ]
  have h := fold_bd L (v * 256 + b.toNat)
  have hb := b.toNat_lt
  have : (v * 256 + b.toNat + 1) * 256 ^ L.length ≤ ((v + 1) * 256) * 256 ^ L.length := Nat.mul_le_mul_right _ (by omega)
  calc _ < _ := h
   _ ≤ _ := this
   _ = _ := by rw [Nat.mul_assoc, Nat.mul_comm 256]
theorem valB_lt (big : Bool) (bs : List UInt8) : valB big bs < 256 ^ bs.length := by
 unfold valB
 have := fold_bd (if big then bs else bs.reverse) 0
 cases big <;> simpa using this
theorem valB4 (big : Bool) {bs : List UInt8} (h : bs.length ≤ 4) : valB big bs ≤ 4294967295 := by
 have := valB_lt big bs
 have h2 : 256 ^ bs.length ≤ 256 ^ 4 := Nat.pow_le_pow_right (by omega) h
 omega
theorem valB2 (big : Bool) {bs : List UInt8} (h : bs.length ≤ 2) : valB big bs ≤ 65535 := by
 have := valB_lt big bs
 have h2 : 256 ^ bs.length ≤ 256 ^ 2 := Nat.pow_le_pow_right (by omega) h
 omega
theorem or_byte {v b : Nat} (hv : v ≤ 16777216) (hb : b < 256) : wI64 (bOr 64 ((v : Int) * 256) (b : Int)) = ((v * 256 + b : Nat) : Int) := by
 have e : bOr 64 ((v : Int) * 256) (b : Int) = ((v * 256 + b : Nat) : Int) := by
  unfold bOr
  rw [BitVec.toNat_or, show (v : Int) * 256 = ((v * 256 : Nat) : Int) by omega]
  have h1 : (BitVec.ofInt 64 ((v * 256 : Nat) : Int)).toNat = v * 256 := by rw [BitVec.ofInt_natCast, BitVec.toNat_ofNat, Nat.mod_eq_of_lt (by omega)]
  have h2 : (BitVec.ofInt 64 ((b : Nat) : Int)).toNat = b := by rw [BitVec.ofInt_natCast, BitVec.toNat_ofNat, Nat.mod_eq_of_lt (by omega)]
  rw [h1, h2]
  have := Nat.shiftLeft_add_eq_or_of_lt (i := 8) (b := b) (by omega) v
  rw [Nat.shiftLeft_eq] at this
  rw [← this]
 rw [e]
 unfold wI64; omega
theorem numAt_eq (big : Bool) (s : List UInt8) {a k : Nat} (h : a + k ≤ s.length) (hk : k ≤ 4) (hs : s.length ≤ 65000) : U8 big s (a : Int) (k : Int) = some (valB big ((s.drop a).take k) : Int) := by
 let L := if big then (s.drop a).take k else ((s.drop a).take k).reverse
 have hL : L.length = k := by
  show (if big then (s.drop a).take k else ((s.drop a).take k).reverse).length = k
  cases big <;> simp <;> omega
 have hi : ∀ i (hik : i < k), ∃ q : Nat, ∃ hq : q < k, q = (if big then i else k - 1 - i) ∧ s[a + q]'(by omega) = L[i]'(by omega) := by
  intro i hik
  cases big
  ·refine ⟨k - 1 - i, by omega, rfl, ?_⟩
   show _ = (((s.drop a).take k).reverse)[i]'_
   rw [List.getElem_reverse, List.getElem_take, List.getElem_drop]
   congr 2; simp; omega
  ·refine ⟨i, by omega, rfl, ?_⟩
   show _ = ((s.drop a).take k)[i]'_
   rw [List.getElem_take, List.getElem_drop]
 have key : ∀ m i v : Nat, i + m = k → v < 256 ^ i → Z3 (fun next1 s' => Yw big s a k next1 s'.1 s'.2) ((v : Int), (i : Int)) = some (((L.drop i).foldl (fun v b => v * 256 + b.toNat) v : Nat) : Int) := by
  intro m
  induction m with
  | zero =>
   intro i v him hv
   rw [List.drop_eq_nil_of_le (by omega)]
   refine Qq fun next => ?_
   show Yw big s a k next (v : Int) (i : Int) = _
   unfold Yw
   rw [cI, if_neg (by omega)]; rfl
  | succ m ih =>
   intro i v him hv
   obtain ⟨q, hq, hqe, hsq⟩ := hi i (by omega)
   have hv4 : v < 16777216 := Nat.lt_of_lt_of_le hv (Nat.le_trans (Nat.pow_le_pow_right (by omega) (show i ≤ 3 by omega)) (by decide))
   have hb := (s[a + q]'(by omega)).toNat_lt
   rw [List.drop_eq_getElem_cons (show i < L.length by omega), List.foldl_cons]
   have hlt : v * 256 + (L[i]'(by omega)).toNat < 256 ^ (i + 1) := by
    rw [← hsq, Nat.pow_succ]; omega
   refine Eq.trans (Xi _ fun next => ?_) (ih (i + 1) (v * 256 + (L[i]'(by omega)).toNat) (by omega) hlt)
   show Yw big s a k next (v : Int) (i : Int) = _
   unfold Yw
   rw [cI, if_pos (by omega), J2 (by omega), Jd, J2 (by omega), Jd]
   have go : ∀ x : Int, x = (q : Int) → Wl s a v i next x = next (((v * 256 + (L[i]'(by omega)).toNat : Nat) : Int), ((i + 1 : Nat) : Int)) := by
    intro x hx
    subst hx
    unfold Wl
    have e8 : (2 : Int) ^ (8 : Int).toNat = 256 := by decide
    have hsh : gShl (v : Int) 8 = some ((v : Int) * 256) := by
     unfold gShl
     rw [if_pos ⟨by decide, by decide⟩, e8]
     exact J2 (by omega)
    rw [hsh, Jd, J2 (by omega), Jd, show (a : Int) + (q : Int) = ((a + q : Nat) : Int) by omega, Jag (by omega), Jd]
    unfold gK
    rw [if_pos (by omega), Jd, J2 (by omega), Jd, or_byte (by omega) hb, hsq]
    rfl
   cases big
   ·rw [Qr]; exact go _ (by rw [hqe]; simp; omega)
   ·rw [Qu]; exact go _ (by rw [hqe]; simp)
 unfold U8
 have := key k 0 0 (by omega) (by simp)
 rw [List.drop_zero] at this
 exact this
theorem number_eq (r : T_tag_reader) {a k : Nat} (h : a + k ≤ r.s_.length) (hk : k ≤ 4) (hs : r.s_.length ≤ 65000) : Jy r (a : Int) (k : Int) = some (valB r.big_ ((r.s_.drop a).take k) : Int) := by
 unfold Jy
 rw [numAt_eq _ _ h hk hs]; rfl
theorem number4 (r : T_tag_reader) {a : Nat} (h : a + 4 ≤ r.s_.length) (hs : r.s_.length ≤ 65000) : Jy r (a : Int) 4 = some (valB r.big_ ((r.s_.drop a).take 4) : Int) := number_eq (k := 4) r h (by omega) hs
theorem number2 (r : T_tag_reader) {a : Nat} (h : a + 2 ≤ r.s_.length) (hs : r.s_.length ≤ 65000) : Jy r (a : Int) 2 = some (valB r.big_ ((r.s_.drop a).take 2) : Int) := number_eq (k := 2) r h (by omega) hs
def fl (r : T_tag_reader) (e : Int) : T_tag_reader := if r.no_ = 0 then ⟨r.s_, r.big_, r.parts_, r.seen_, r.dirs_, r.found_, e⟩ else r
theorem Wp (r : T_tag_reader) (e : Int) : Q7 r e = some (fl r e) := by
 unfold Q7 fl
 rw [cI]; split <;> rfl
theorem fl_fl (r : T_tag_reader) {e : Int} (h : e ≠ 0) : fl (fl r e) e = fl r e := by
 unfold fl
 by_cases h0 : r.no_ = 0
 ·rw [if_pos h0, if_neg h]
 ·rw [if_neg h0, if_neg h0]
theorem fl_no (r : T_tag_reader) {e : Int} (h : e ≠ 0) : (fl r e).no_ ≠ 0 := by
 unfold fl
 split
 ·exact h
 ·assumption
theorem there_eq (r : T_tag_reader) {p n : Nat} (hn : n ≤ 1099511627776) (hs : r.s_.length ≤ 65000) : V3 r (p : Int) (n : Int) = some (decide (8 ≤ p ∧ p + n ≤ r.s_.length)) := by
 unfold V3
 rw [cI, cI]
 by_cases h1 : 8 ≤ p
 ·rw [if_pos (by omega)]
  by_cases h2 : n ≤ r.s_.length
  ·rw [if_pos (by omega), J2 (by omega), Jd]
   congr 1
   rw [decide_eq_decide]; omega
  ·rw [if_neg (by omega)]
   congr 1; symm; rw [decide_eq_false_iff_not]; omega
 ·rw [if_neg (by omega)]
  congr 1; symm; rw [decide_eq_false_iff_not]; omega
def ratR (big : Bool) (b : List UInt8) (i : Nat) : T_tag_Ratio := ⟨(valB big ((b.drop (8 * i)).take 4) : Nat), (valB big ((b.drop (8 * i + 4)).take 4) : Nat)⟩
def intR (big : Bool) (k : Int) (b : List UInt8) (i : Nat) : Int := if k = 9 then wI64 (wI32 (valB big ((b.drop (i * Qb k)).take (Qb k)))) else valB big ((b.drop (i * Qb k)).take (Qb k))
noncomputable def valT (r : T_tag_reader) (k : Int) (c : Nat) (b : List UInt8) : T_tag_Value × T_tag_reader := open Classical in
 if k = 2 then (if b = [] ∨ b.getLast? ≠ some 0 then (⟨2, [], [], [], []⟩, fl r 1) else (⟨2, b.dropLast, [], [], []⟩, if (0 : UInt8) ∈ b.dropLast then fl r 9 else r))
 else if k = 7 then (⟨7, b, [], [], []⟩, r)
 else if k = 5 then (⟨5, [], [], (List.range c).map (ratR r.big_ b), []⟩, r)
 else (⟨k, [], (List.range c).map (intR r.big_ k b), [], []⟩, r)
noncomputable def valR (r : T_tag_reader) (k : Int) (c a : Nat) : T_tag_Value × T_tag_reader :=
 if 4 < c * Qb k then
  let p := valB r.big_ ((r.s_.drop a).take 4)
  if 8 ≤ p ∧ p + c * Qb k ≤ r.s_.length then valT ⟨r.s_, r.big_, r.parts_ ++ [⟨(p : Int), ((p + c * Qb k : Nat) : Int)⟩], r.seen_, r.dirs_, r.found_, r.no_⟩ k c ((r.s_.drop p).take (c * Qb k))
  else (⟨0, [], [], [], []⟩, fl r 2)
 else valT r k c ((r.s_.drop a).take (c * Qb k))
theorem ascii_loop (t : List UInt8) (ht : t.length ≤ 65000) : ∀ (m i : Nat) (r : T_tag_reader), i + m = t.length →
  Z3 (fun next1 s => Xe t next1 s.1 s.2.1 s.2.2.1 s.2.2.2.1 s.2.2.2.2.1 s.2.2.2.2.2.1 s.2.2.2.2.2.2.1 s.2.2.2.2.2.2.2) ((i : Int), r.s_, r.big_, r.dirs_, r.found_, r.no_, r.parts_, r.seen_) = some (t, open Classical in if (0 : UInt8) ∈ t.drop i then fl r 9 else r) := by
 intro m
 induction m with
 | zero =>
  intro i r hi
  rw [List.drop_eq_nil_of_le (by omega), if_neg (by simp)]
  refine Qq fun next => ?_
  show Xe t next (i : Int) _ _ _ _ _ _ _ = _
  unfold Xe
  rw [cI, if_neg (by omega)]
 | succ m ih =>
  intro i r hi
  have hb := (t[i]'(by omega)).toNat_lt
  rw [List.drop_eq_getElem_cons (show i < t.length by omega)]
  by_cases h0 : t[i]'(by omega) = 0
  ·have e : (open Classical in if (0 : UInt8) ∈ t[i]'(by omega) :: t.drop (i + 1) then fl r 9 else r) = (open Classical in if (0 : UInt8) ∈ t.drop (i + 1) then fl (fl r 9) 9 else fl r 9) := by
    rw [if_pos (by rw [h0]; simp), fl_fl _ (by decide)]; split <;> rfl
   rw [e]
   refine Eq.trans (Xi _ fun next => ?_) (ih (i + 1) (fl r 9) (by omega))
   show Xe t next (i : Int) _ _ _ _ _ _ _ = _
   unfold Xe
   rw [cI, if_pos (by omega), Jag (by omega), Jd, cI, if_pos (by rw [h0]; rfl), Wp, Jd]
   unfold Zr
   rw [J2 (by omega), Jd]; rfl
  ·have e : (open Classical in if (0 : UInt8) ∈ t[i]'(by omega) :: t.drop (i + 1) then fl r 9 else r) = (open Classical in if (0 : UInt8) ∈ t.drop (i + 1) then fl r 9 else r) := by
    simp only [List.mem_cons, show (0 : UInt8) = t[i]'(by omega) ↔ False from ⟨fun e => h0 e.symm, False.elim⟩, false_or]
   rw [e]
   refine Eq.trans (Xi _ fun next => ?_) (ih (i + 1) r (by omega))
   show Xe t next (i : Int) _ _ _ _ _ _ _ = _
   unfold Xe
   rw [cI, if_pos (by omega), Jag (by omega), Jd, cI, if_neg (fun e => h0 (UInt8.toNat_inj.1 (by have : ((t[i]'(by omega)).toNat : Int) = 0 := e; show _ = 0; omega)))]
   unfold Zr
   rw [J2 (by omega), Jd]; rfl
theorem ascii_eq (r : T_tag_reader) (t : List UInt8) (ht : t.length ≤ 65000) : U9 r t = some (open Classical in if t = [] ∨ t.getLast? ≠ some 0 then ([], fl r 1) else (t.dropLast, if (0 : UInt8) ∈ t.dropLast then fl r 9 else r)) := by
 unfold U9
 rw [cI]
 by_cases h : t = []
 ·rw [if_pos h, if_pos (.inl h), Wp]; rfl
 ·have hl : 0 < t.length := List.length_pos_iff.2 h
  have hg : t.getLast? = some (t[t.length - 1]'(by omega)) := by rw [List.getLast?_eq_getElem?, List.getElem?_eq_getElem (by omega)]
  rw [if_neg h, J2 (by omega), Jd, show (t.length : Int) - 1 = ((t.length - 1 : Nat) : Int) by omega, Jag (by omega), Jd, cI]
  by_cases h0 : t[t.length - 1]'(by omega) = 0
  ·rw [if_neg (by rw [h0]; decide), if_neg (by rw [hg, h0]; simp [h]), Jd, gCut_to (by omega), Jd, Int.toNat_natCast, ← List.dropLast_eq_take]
   have := ascii_loop t.dropLast (by rw [List.length_dropLast]; omega) t.dropLast.length 0 r (by omega)
   rw [List.drop_zero] at this
   exact this
  ·rw [if_pos (fun e => h0 (UInt8.toNat_inj.1 (by have : ((t[t.length - 1]'(by omega)).toNat : Int) = 0 := e; show _ = 0; omega))), if_pos (.inr (by rw [hg]; simpa using h0)), Wp]; rfl
theorem drop_in (s : List UInt8) {p n o k : Nat} (h : o + k ≤ n) : ((s.drop p).take n |>.drop o).take k = (s.drop (p + o)).take k := by
 rw [List.drop_take, List.take_take, List.drop_drop, Nat.min_eq_left (by omega)]
theorem wide_pos {k : Int} (h : Qb k ≠ 0) (h2 : k ≠ 2) (h7 : k ≠ 7) (h5 : k ≠ 5) : Qb k ≤ 4 ∧ 1 ≤ Qb k := by
 refine ⟨?_, by omega⟩
 unfold Qb
 (repeat' split) <;> omega
theorem value_j1 (r : T_tag_reader) {k : Int} {c p : Nat} (parts : List T_tag_Span) (hw : Qb k ≠ 0) (h13 : k ≠ 13) (hp : p + c * Qb k ≤ r.s_.length) (hs : r.s_.length ≤ 65000) :
  Zu r k (c : Int) ((c * Qb k : Nat) : Int) (p : Int) parts = some (valT ⟨r.s_, r.big_, parts, r.seen_, r.dirs_, r.found_, r.no_⟩ k c ((r.s_.drop p).take (c * Qb k))) := by
 have hcw : c ≤ c * Qb k := Nat.le_mul_of_pos_right _ (by omega)
 unfold Zu valT
 rw [cI, cI, cI]
 by_cases h2 : k = 2
 ·rw [if_pos h2, if_pos h2, J2 (by omega), Jd, gCut_ok (by omega), Jd, show ((p : Int) + ((c * Qb k : Nat) : Int)).toNat - (p : Int).toNat = c * Qb k by omega, Int.toNat_natCast, ascii_eq _ _ (by rw [List.length_take, List.length_drop]; omega), Jd, h2]
  split <;> rfl
 rw [if_neg h2, if_neg h2]
 by_cases h7 : k = 7
 ·rw [if_pos h7, if_pos h7, J2 (by omega), Jd, gCut_ok (by omega), Jd, show ((p : Int) + ((c * Qb k : Nat) : Int)).toNat - (p : Int).toNat = c * Qb k by omega, Int.toNat_natCast, h7]
  rfl
 rw [if_neg h7, if_neg h7]
 by_cases h5 : k = 5
 ·rw [if_pos h5, if_pos h5]
  have hw8 : Qb k = 8 := by rw [h5]; rfl
  rw [hw8] at hp ⊢
  have := fix_list (F := fun next3 s => Xw r k (c : Int) (p : Int) parts next3 s.1 s.2) (List.range c) (fun l i => l ++ [ratR r.big_ ((r.s_.drop p).take (c * 8)) i]) (fun l => some ((⟨k, [], [], l, []⟩ : T_tag_Value), (⟨r.s_, r.big_, parts, r.seen_, r.dirs_, r.found_, r.no_⟩ : T_tag_reader))) (fun i l => l.length = i)
   (fun next i l hi hl => by
    have hic : i < c := by rw [List.length_range] at hi; exact hi
    refine ⟨?_, by rw [List.length_append, hl]; rfl⟩
    rw [List.getElem_range]
    show Xw r k (c : Int) (p : Int) parts next (i : Int) l = _
    unfold Xw
    rw [cI, if_pos (by omega), J2 (by omega), Jd, J2 (by omega), Jd, show (p : Int) + 8 * (i : Int) = ((p + 8 * i : Nat) : Int) by omega, number4 ⟨r.s_, r.big_, parts, r.seen_, r.dirs_, r.found_, r.no_⟩ (by show _ ≤ r.s_.length; omega) hs, Jd, Jd, J2 (by omega), Jd, J2 (by omega), Jd]
    rw [show (p : Int) + 8 * (i : Int) + 4 = ((p + (8 * i + 4) : Nat) : Int) by omega, number4 ⟨r.s_, r.big_, parts, r.seen_, r.dirs_, r.found_, r.no_⟩ (by show _ ≤ r.s_.length; omega) hs, Jd, Yf (by rw [hl]; simp; omega), Jd, J2 (by omega), Jd]
    unfold ratR
    rw [drop_in _ (by omega), drop_in _ (by omega)])
   (fun next l hl => by
    rw [List.length_range]
    show Xw r k (c : Int) (p : Int) parts next (c : Int) l = _
    unfold Xw
    rw [cI, if_neg (by omega)]; rfl) [] rfl
  rw [foldl_app] at this
  rw [this, h5]; rfl
 ·rw [if_neg h5, if_neg h5]
  obtain ⟨w4, w1⟩ := wide_pos hw h2 h7 h5
  have := fix_list (F := fun next4 s => Xx r k (c : Int) (p : Int) parts next4 s.1 s.2) (List.range c) (fun l i => l ++ [intR r.big_ k ((r.s_.drop p).take (c * Qb k)) i]) (fun l => some ((⟨k, [], l, [], []⟩ : T_tag_Value), (⟨r.s_, r.big_, parts, r.seen_, r.dirs_, r.found_, r.no_⟩ : T_tag_reader))) (fun i l => l.length = i)
   (fun next i l hi hl => by
    have hic : i < c := by rw [List.length_range] at hi; exact hi
    have hiw : i * Qb k + Qb k ≤ c * Qb k := by
     have := Nat.mul_le_mul_right (Qb k) (show i + 1 ≤ c by omega)
     rw [Nat.add_mul] at this; omega
    refine ⟨?_, by rw [List.length_append, hl]; rfl⟩
    rw [List.getElem_range]
    show Xx r k (c : Int) (p : Int) parts next (i : Int) l = _
    unfold Xx
    have esz : Z9 k = some ((Qb k : Nat) : Int) := by rw [sizeOf_eq, if_neg h13]
    rw [cI, if_pos (by omega), esz, Jd, show (i : Int) * ((Qb k : Nat) : Int) = ((i * Qb k : Nat) : Int) by rw [Int.natCast_mul], J2 (by omega), Jd, J2 (by omega), Jd, Jd,
     show (p : Int) + ((i * Qb k : Nat) : Int) = ((p + i * Qb k : Nat) : Int) by omega, number_eq ⟨r.s_, r.big_, parts, r.seen_, r.dirs_, r.found_, r.no_⟩ (by show _ ≤ r.s_.length; omega) w4 hs, Jd, cI]
    have go : ∀ x : Int, x = intR r.big_ k ((r.s_.drop p).take (c * Qb k)) i → Zv (i : Int) l next x = next ((i : Int) + 1, l ++ [intR r.big_ k ((r.s_.drop p).take (c * Qb k)) i]) := by
     intro x hx
     unfold Zv
     rw [Yf (by rw [hl]; simp; omega), Jd, J2 (by omega), Jd, hx]
    have hd : ((r.s_.drop p).take (c * Qb k) |>.drop (i * Qb k)).take (Qb k) = (r.s_.drop (p + i * Qb k)).take (Qb k) := drop_in _ hiw
    by_cases h9 : k = 9
    ·rw [if_pos h9]; exact go _ (by unfold intR; rw [if_pos h9, hd])
    ·rw [if_neg h9]; exact go _ (by unfold intR; rw [if_neg h9, hd]))
   (fun next l hl => by
    rw [List.length_range]
    show Xx r k (c : Int) (p : Int) parts next (c : Int) l = _
    unfold Xx
    rw [cI, if_neg (by omega)]; rfl) [] rfl
  rw [foldl_app] at this
  rw [this]; rfl
theorem value_eq (r : T_tag_reader) {k : Int} {c a : Nat} (hw : Qb k ≠ 0) (h13 : k ≠ 13) (hc : c ≤ 4294967295) (ha : a + 4 ≤ r.s_.length) (hs : r.s_.length ≤ 65000) (hp : r.parts_.length ≤ 8000000000000) :
  U6 r k (c : Int) (a : Int) = some (valR r k c a) := by
 have hcw : c * Qb k ≤ 4294967295 * 8 := Nat.mul_le_mul hc (U1 k)
 unfold U6 valR
 rw [sizeOf_eq, if_neg h13, Jd, show (c : Int) * ((Qb k : Nat) : Int) = ((c * Qb k : Nat) : Int) by rw [Int.natCast_mul], J2 (by omega), Jd, cI]
 by_cases h4 : 4 < c * Qb k
 ·rw [if_pos (by omega), if_pos h4, number4 _ ha hs, Jd, there_eq _ (by omega) hs, Jd]
  have hv := valB4 r.big_ (bs := (r.s_.drop a).take 4) (by rw [List.length_take]; omega)
  by_cases ht : 8 ≤ valB r.big_ ((r.s_.drop a).take 4) ∧ valB r.big_ ((r.s_.drop a).take 4) + c * Qb k ≤ r.s_.length
  ·rw [decide_eq_true ht, Bool.not_true, Qr, J2 (by omega), Jd, Yf (by simp; omega), Jd, value_j1 r _ hw h13 ht.2 hs]
   simp only [if_pos ht]
   rfl
  ·rw [decide_eq_false ht, Bool.not_false, Qu, Wp, Jd]
   simp only [if_neg ht]
 ·rw [if_neg (by omega), if_neg h4, value_j1 r _ hw h13 (by omega) hs]
end Go.M

/- Directories read from octets, in plain Lean. Conditions: none. -/
namespace Go.M
open Go.Md Go.Pl
set_option linter.unusedVariables false
abbrev Uc := (T_tag_reader × Int × (List Int)) → Option ((List T_tag_Entry) × Int × T_tag_reader)
abbrev J5 (r : T_tag_reader) (a k : Nat) : Nat := valB r.big_ ((r.s_.drop a).take k)
theorem n2 (r : T_tag_reader) {a : Nat} (h : a + 2 ≤ r.s_.length) (hs : r.s_.length ≤ 65000) : Jy r (a : Int) 2 = some (J5 r a 2 : Int) := number2 r h hs
theorem n4 (r : T_tag_reader) {a : Nat} (h : a + 4 ≤ r.s_.length) (hs : r.s_.length ≤ 65000) : Jy r (a : Int) 4 = some (J5 r a 4 : Int) := number4 r h hs
theorem v4 (r : T_tag_reader) (a : Nat) : J5 r a 4 ≤ 4294967295 := valB4 _ (by rw [List.length_take]; omega)
theorem v2 (r : T_tag_reader) (a : Nat) : J5 r a 2 ≤ 65535 := valB2 _ (by rw [List.length_take]; omega)
theorem found_ok {f : Nat} (h : f ≤ 1) : ∃ g, mft114 f = some g ∧ ∀ l a, g l a = some () := by
 match f, h with
 | 0, _ => exact ⟨_, rfl, fun _ _ => rfl⟩
 | 1, _ => exact ⟨_, rfl, fun _ _ => rfl⟩
theorem clone_eq {l : List Int} (h : l.length ≤ 1000) : W5 l = some l := by
 unfold W5
 rw [Yf (by simp; omega), Jd]; simp
theorem pack_eq (t : Int) (v : T_tag_Value) (r : T_tag_reader) : Y1 t v.Kind v.Text v.Ints v.Ratios v.Entries r.s_ r.big_ r.dirs_ r.found_ r.no_ r.parts_ r.seen_ = some (⟨t, v⟩, r) := by cases v; cases r; rfl
noncomputable def entR (self : Uc) (r : T_tag_reader) (a : Nat) (path : List Int) : Option (T_tag_Entry × T_tag_reader) :=
 if (J5 r (a + 2) 2 : Int) = 13 then
  (if J5 r (a + 4) 4 = 1 then J3 (self (r, (J5 r (a + 8) 4 : Int), path ++ [(J5 r a 2 : Int)])) fun t => some ((⟨(J5 r a 2 : Int), ⟨13, [], [], [], t.1⟩⟩ : T_tag_Entry), t.2.2)
   else some (⟨(J5 r a 2 : Int), ⟨13, [], [], [], []⟩⟩, fl r 1))
 else if Qb (J5 r (a + 2) 2 : Int) = 0 then some (⟨(J5 r a 2 : Int), ⟨(J5 r (a + 2) 2 : Int), [], [], [], []⟩⟩, fl r 10)
 else some (⟨(J5 r a 2 : Int), (valR r (J5 r (a + 2) 2 : Int) (J5 r (a + 4) 4) (a + 8)).1⟩, (valR r (J5 r (a + 2) 2 : Int) (J5 r (a + 4) 4) (a + 8)).2)
theorem entry_eq (self : Uc) (r : T_tag_reader) {a : Nat} {path : List Int} (ha : a + 12 ≤ r.s_.length) (hs : r.s_.length ≤ 65000) (hp : r.parts_.length ≤ 8000000000000) (hf : r.found_ ≤ 1) (hl : path.length ≤ 100) :
  Xt self r (a : Int) path = entR self r a path := by
 obtain ⟨g, hg, hg2⟩ := found_ok hf
 unfold Xt entR
 rw [n2 _ (by omega) hs, Jd, J2 (by omega), Jd, show (a : Int) + 2 = ((a + 2 : Nat) : Int) by omega, n2 _ (by omega) hs, Jd, J2 (by omega), Jd, show (a : Int) + 4 = ((a + 4 : Nat) : Int) by omega, n4 _ (by omega) hs, Jd, clone_eq (by omega), Jd, Yf (by simp; omega), Jd]
 unfold gFn
 rw [hg, Jd, hg2, Jd, sizeOf_eq, Jd, cI, cI]
 have h8 : (a : Int) + 8 = ((a + 8 : Nat) : Int) := by omega
 have hc4 := v4 r (a + 4)
 by_cases h13 : (J5 r (a + 2) 2 : Int) = 13
 ·rw [if_pos h13, if_pos h13, if_neg (by decide), if_pos h13]
  unfold Y2
  rw [cI]
  by_cases h1 : J5 r (a + 4) 4 = 1
  ·rw [if_neg (by omega), if_pos h1, cI, if_pos h13, J2 (by omega), Jd, h8, n4 _ (by omega) hs, Jd]
   refine Xu fun t _ => ?_
   rw [h13]; rfl
  ·rw [if_pos (by omega), if_neg h1, Wp, Jd, h13]; rfl
 ·rw [if_neg h13, if_neg h13, if_neg h13]
  by_cases h0 : Qb (J5 r (a + 2) 2 : Int) = 0
  ·rw [if_pos (by omega), if_pos h0, Wp, Jd]; rfl
  ·rw [if_neg (by omega), if_neg h0]
   unfold Y2
   rw [Qr, cI, if_neg h13, J2 (by omega), Jd, h8, value_eq _ h0 h13 hc4 (by omega) hs hp, Jd, pack_eq]
noncomputable def dirLoop (self : Uc) (path : List Int) (pl nxt cnt i : Nat) (r : T_tag_reader) (l : List T_tag_Entry) : Option ((List T_tag_Entry) × Int × T_tag_reader) :=
 Z3 (fun next4 s => Q3 path self next4 s.1 s.2.1 s.2.2.1 s.2.2.2.1 s.2.2.2.2.1 s.2.2.2.2.2.1 s.2.2.2.2.2.2.1 s.2.2.2.2.2.2.2.1 s.2.2.2.2.2.2.2.2.1 s.2.2.2.2.2.2.2.2.2.1 s.2.2.2.2.2.2.2.2.2.2.1 s.2.2.2.2.2.2.2.2.2.2.2) ((pl : Int), (nxt : Int), (cnt : Int), (i : Int), r.s_, r.big_, r.dirs_, r.found_, r.no_, r.parts_, r.seen_, l)
theorem loop_end (self : Uc) (path : List Int) (pl nxt cnt i : Nat) (r : T_tag_reader) (l : List T_tag_Entry) (h : cnt ≤ i ∨ r.no_ ≠ 0) : dirLoop self path pl nxt cnt i r l = some (l, (nxt : Int), r) := by
 refine Qq fun next => ?_
 show Q3 path self next (pl : Int) (nxt : Int) (cnt : Int) (i : Int) _ _ _ _ _ _ _ l = _
 unfold Q3
 rw [cI]
 by_cases h1 : cnt ≤ i
 ·rw [if_neg (by omega)]; rfl
 ·rw [if_pos (by omega), cI, if_neg (show ¬ r.no_ = 0 from h.resolve_left h1)]; rfl
theorem loop_low (self : Uc) (path : List Int) (pl nxt cnt i : Nat) (r : T_tag_reader) (l : List T_tag_Entry) (hi : i < cnt) (hno : r.no_ = 0) (h0 : 0 < i) (hl : i ≤ l.length) (ha : pl + 2 + 12 * cnt ≤ r.s_.length) (hs : r.s_.length ≤ 65000)
  (hlow : (J5 r (pl + 2 + 12 * i) 2 : Int) ≤ (l[i - 1]'(by omega)).Tag) : dirLoop self path pl nxt cnt i r l = some (l, (nxt : Int), fl r 5) := by
 refine Qq fun next => ?_
 show Q3 path self next (pl : Int) (nxt : Int) (cnt : Int) (i : Int) _ _ _ _ _ _ _ l = _
 unfold Q3
 rw [cI, if_pos (by omega), cI, if_pos hno, cI, if_pos (by omega), J2 (by omega), Jd, J2 (by omega), Jd, J2 (by omega), Jd, show (pl : Int) + 2 + 12 * (i : Int) = ((pl + 2 + 12 * i : Nat) : Int) by omega,
  n2 r (by omega) hs, Jd, J2 (by omega), Jd, show (i : Int) - 1 = ((i - 1 : Nat) : Int) by omega, Xl (by omega), Jd, cI, if_pos hlow, Wp r, Jd]
 rfl
theorem loop_next (self : Uc) (path : List Int) (pl nxt cnt i : Nat) (r : T_tag_reader) (l : List T_tag_Entry) (hi : i < cnt) (hno : r.no_ = 0) (hl : l.length = i) (hn : i ≤ 1000) (ha : pl + 2 + 12 * cnt ≤ r.s_.length) (hs : r.s_.length ≤ 65000)
  (hlow : ∀ (h : 0 < i), ¬ (J5 r (pl + 2 + 12 * i) 2 : Int) ≤ (l[i - 1]'(by omega)).Tag) (hp : r.parts_.length ≤ 8000000000000) (hf : r.found_ ≤ 1) (hpl : path.length ≤ 100) {e : T_tag_Entry} {r' : T_tag_reader} (he : entR self r (pl + 2 + 12 * i) path = some (e, r')) :
  dirLoop self path pl nxt cnt i r l = dirLoop self path pl nxt cnt (i + 1) r' (l ++ [e]) := by
 have go : ∀ next, Zq path self (pl : Int) (nxt : Int) (cnt : Int) (i : Int) r.s_ r.big_ r.dirs_ r.found_ r.no_ r.parts_ r.seen_ l next = next ((pl : Int), (nxt : Int), (cnt : Int), ((i + 1 : Nat) : Int), r'.s_, r'.big_, r'.dirs_, r'.found_, r'.no_, r'.parts_, r'.seen_, l ++ [e]) := by
  intro next
  unfold Zq
  rw [J2 (by omega), Jd, J2 (by omega), Jd, J2 (by omega), Jd, show (pl : Int) + 2 + 12 * (i : Int) = ((pl + 2 + 12 * i : Nat) : Int) by omega, entry_eq self r (by omega) hs hp hf hpl, he, Jd, Yf (by simp; omega), Jd, J2 (by omega), Jd]
  rfl
 refine Xi _ fun next => ?_
 show Q3 path self next (pl : Int) (nxt : Int) (cnt : Int) (i : Int) _ _ _ _ _ _ _ l = _
 unfold Q3
 rw [cI, if_pos (by omega), cI, if_pos hno, cI]
 by_cases h0 : 0 < i
 ·rw [if_pos (by omega), J2 (by omega), Jd, J2 (by omega), Jd, J2 (by omega), Jd, show (pl : Int) + 2 + 12 * (i : Int) = ((pl + 2 + 12 * i : Nat) : Int) by omega,
   n2 r (by omega) hs, Jd, J2 (by omega), Jd, show (i : Int) - 1 = ((i - 1 : Nat) : Int) by omega, Xl (by omega), Jd, cI, if_neg (hlow h0)]
  exact go next
 ·rw [if_neg (by omega)]
  exact go next
noncomputable def dirR (self : Uc) (r : T_tag_reader) (pl : Nat) (path : List Int) : Option ((List T_tag_Entry) × Int × T_tag_reader) :=
 if ¬ (8 ≤ pl ∧ pl + 2 ≤ r.s_.length) then some ([], 0, fl r 2)
 else if (mGet r.seen_ (pl : Int)).getD false = true then some ([], 0, fl r 13)
 else if 20 < r.dirs_ ∨ 5 < path.length ∨ 200 < J5 r pl 2 then some ([], 0, fl r 4)
 else if ¬ (pl + (2 + 12 * J5 r pl 2 + 4) ≤ r.s_.length) then some ([], 0, fl r 2)
 else if r.no_ ≠ 0 then some ([], 0, r)
 else dirLoop self path pl (J5 r (pl + 2 + 12 * J5 r pl 2) 4) (J5 r pl 2) 0
  (if 1 < path.length ∧ J5 r (pl + 2 + 12 * J5 r pl 2) 4 ≠ 0 then fl ⟨r.s_, r.big_, r.parts_ ++ [⟨(pl : Int), ((pl + (2 + 12 * J5 r pl 2 + 4) : Nat) : Int)⟩], Z6 r.seen_ (pl : Int) true, r.dirs_, r.found_, r.no_⟩ 1
   else ⟨r.s_, r.big_, r.parts_ ++ [⟨(pl : Int), ((pl + (2 + 12 * J5 r pl 2 + 4) : Nat) : Int)⟩], Z6 r.seen_ (pl : Int) true, r.dirs_, r.found_, r.no_⟩) []
theorem Jan (pl cnt : Int) (path : List Int) (self : Uc) (r : T_tag_reader) (h : r.no_ ≠ 0) : Xd pl path self cnt r.s_ r.big_ r.dirs_ r.found_ r.no_ r.parts_ r.seen_ = some ([], 0, r) := by
 unfold Xd
 rw [cI, if_pos h]
theorem dir_step (self : Uc) (r : T_tag_reader) {pl : Nat} {path : List Int} (hpl : pl ≤ 4294967295) (hs : r.s_.length ≤ 65000) (hp : r.parts_.length ≤ 7999999999999) :
  Qh self r (pl : Int) path = dirR self r pl path := by
 unfold Qh dirR
 rw [show (2 : Int) = ((2 : Nat) : Int) from rfl, there_eq _ (by omega) hs, Jd, show ((2 : Nat) : Int) = 2 from rfl]
 by_cases ht : 8 ≤ pl ∧ pl + 2 ≤ r.s_.length
 ·rw [decide_eq_true ht, Bool.not_true, Qr, if_neg (by simp [ht]), n2 _ ht.2 hs, Jd]
  have hv := v2 r pl
  by_cases hsn : (mGet r.seen_ (pl : Int)).getD false = true
  ·rw [if_pos hsn, hsn, Qu, Wp, Jd, Jan _ _ _ _ _ (fl_no _ (by decide))]
  ·rw [if_neg hsn, Bool.not_eq_true _ |>.mp hsn, Qr, cI, cI, cI]
   by_cases h20 : 20 < r.dirs_
   ·rw [if_pos h20, if_pos (.inl h20), Wp, Jd, Jan _ _ _ _ _ (fl_no _ (by decide))]
   rw [if_neg h20]
   by_cases h5 : 5 < path.length
   ·rw [if_pos (by omega), if_pos (.inr (.inl h5)), Wp, Jd, Jan _ _ _ _ _ (fl_no _ (by decide))]
   rw [if_neg (by omega)]
   by_cases h200 : 200 < J5 r pl 2
   ·rw [if_pos (by omega), if_pos (.inr (.inr h200)), Wp, Jd, Jan _ _ _ _ _ (fl_no _ (by decide))]
   rw [if_neg (by omega), if_neg (by omega), J2 (by omega), Jd, J2 (by omega), Jd, J2 (by omega), Jd, show (2 : Int) + 12 * (J5 r pl 2 : Int) + 4 = ((2 + 12 * J5 r pl 2 + 4 : Nat) : Int) by omega, there_eq _ (by omega) hs, Jd]
   by_cases hb : pl + (2 + 12 * J5 r pl 2 + 4) ≤ r.s_.length
   ·rw [decide_eq_true ⟨ht.1, hb⟩, Bool.not_true, Qr, if_neg (by omega)]
    by_cases hno : r.no_ = 0
    ·rw [if_neg (by simp [hno])]
     unfold Xd
     have hb' : pl + (2 + 12 * J5 r pl 2 + 4) ≤ r.s_.length := hb
     rw [cI, if_neg (by simp [hno]), J2 (by omega), Jd, J2 (by omega), Jd, J2 (by omega), Jd, J2 (by omega), Jd, Yf (by simp; omega), Jd, Jd, Jd, J2 (by omega), Jd,
      show (pl : Int) + 2 + 12 * (J5 r pl 2 : Int) = ((pl + 2 + 12 * J5 r pl 2 : Nat) : Int) by omega,
      show ((pl + 2 + 12 * J5 r pl 2 : Nat) : Int) + 4 = ((pl + (2 + 12 * J5 r pl 2 + 4) : Nat) : Int) by omega,
      n4 (a := pl + 2 + 12 * J5 r pl 2) (⟨r.s_, r.big_, r.parts_ ++ [(⟨(pl : Int), ((pl + (2 + 12 * J5 r pl 2 + 4) : Nat) : Int)⟩ : T_tag_Span)], Z6 r.seen_ (pl : Int) true, r.dirs_, r.found_, r.no_⟩ : T_tag_reader) (by show _ ≤ r.s_.length; omega) hs, Jd, cI, cI]
     by_cases h1 : 1 < path.length
     ·rw [if_pos (by omega)]
      by_cases hn : J5 r (pl + 2 + 12 * J5 r pl 2) 4 = 0
      ·rw [if_neg (by show ¬ ((J5 r (pl + 2 + 12 * J5 r pl 2) 4 : Nat) : Int) ≠ 0; omega), if_neg (by omega)]; rfl
      ·rw [if_pos (by show ((J5 r (pl + 2 + 12 * J5 r pl 2) 4 : Nat) : Int) ≠ 0; omega), if_pos ⟨h1, hn⟩, Wp, Jd]; rfl
     ·rw [if_neg (by omega), if_neg (by omega)]; rfl
    ·rw [if_pos hno, Jan _ _ _ _ _ hno]
   ·rw [decide_eq_false (by omega), Bool.not_false, Qu, if_pos hb, Wp, Jd, Jan _ _ _ _ _ (fl_no _ (by decide))]
 ·rw [decide_eq_false ht, Bool.not_false, Qu, if_pos ht, Wp, Jd]
end Go.M

/- Reading whatever octets, in plain Lean: it answers, and its parts lie inside. Conditions: none. -/
namespace Go.M
open Go.Md Go.Pl
set_option linter.unusedVariables false
def okS (n : Nat) (x : T_tag_Span) : Prop := 8 ≤ x.From ∧ x.From < x.To ∧ x.To ≤ (n : Int)
def lenS (l : List T_tag_Span) : Int := (l.map fun x => x.To - x.From).sum
theorem lenS_app (a b : List T_tag_Span) : lenS (a ++ b) = lenS a + lenS b := by unfold lenS; rw [List.map_append, List.sum_append]
theorem lenS_nil : lenS [] = 0 := rfl
theorem lenS_one (x : T_tag_Span) : lenS [x] = x.To - x.From := by unfold lenS; simp
def Adds (r r' : T_tag_reader) (K : Nat) (z : Int) : Prop :=
 r'.s_ = r.s_ ∧ r'.big_ = r.big_ ∧ r'.dirs_ = r.dirs_ ∧ r'.found_ = r.found_ ∧ ∃ new, r'.parts_ = r.parts_ ++ new ∧ (∀ x ∈ new, okS r.s_.length x) ∧ new.length ≤ K ∧ z ≤ lenS new
theorem Adds.same (r : T_tag_reader) {K : Nat} {z : Int} (hz : z ≤ 0) : Adds r r K z := ⟨rfl, rfl, rfl, rfl, [], by simp, by simp, Nat.zero_le _, hz⟩
theorem Adds.fail (r : T_tag_reader) (e : Int) {K : Nat} {z : Int} (hz : z ≤ 0) : Adds r (fl r e) K z := by
 unfold fl; split
 ·exact ⟨rfl, rfl, rfl, rfl, [], by simp, by simp, Nat.zero_le _, hz⟩
 ·exact Adds.same r hz
theorem Adds.trans {a b c : T_tag_reader} {K L : Nat} {y z : Int} (h : Adds a b K y) (g : Adds b c L z) : Adds a c (K + L) (y + z) := by
 obtain ⟨h1, h2, h3, h4, n, h5, h6, h7, h8⟩ := h
 obtain ⟨g1, g2, g3, g4, m, g5, g6, g7, g8⟩ := g
 refine ⟨g1.trans h1, g2.trans h2, g3.trans h3, g4.trans h4, n ++ m, by rw [g5, h5, List.append_assoc], ?_, by rw [List.length_append]; omega, by rw [lenS_app]; omega⟩
 intro x hx
 rcases List.mem_append.1 hx with hx | hx
 ·exact h6 x hx
 ·rw [← h1]; exact g6 x hx
theorem Adds.mono {a b : T_tag_reader} {K L : Nat} {y z : Int} (h : Adds a b K y) (hK : K ≤ L) (hz : z ≤ y) : Adds a b L z := by
 obtain ⟨h1, h2, h3, h4, n, h5, h6, h7, h8⟩ := h
 exact ⟨h1, h2, h3, h4, n, h5, h6, by omega, by omega⟩
theorem Adds.part (r : T_tag_reader) (x : T_tag_Span) (seen : List (Int × Bool)) (h : okS r.s_.length x) : Adds r ⟨r.s_, r.big_, r.parts_ ++ [x], seen, r.dirs_, r.found_, r.no_⟩ 1 (x.To - x.From) :=
 ⟨rfl, rfl, rfl, rfl, [x], rfl, fun y hy => by rw [List.mem_singleton.1 hy]; exact h, by simp, by rw [lenS_one]; omega⟩
theorem Adds.parts {r r' : T_tag_reader} {K : Nat} {z : Int} (h : Adds r r' K z) : r'.parts_.length ≤ r.parts_.length + K := by
 obtain ⟨_, _, _, _, n, h5, _, h7, _⟩ := h
 rw [h5, List.length_append]; omega
theorem Adds.len {r r' : T_tag_reader} {K : Nat} {z : Int} (h : Adds r r' K z) : r'.s_.length = r.s_.length := by rw [h.1]
def szV (v : T_tag_Value) : Nat := v.Text.length + v.Ints.length + v.Ratios.length
theorem valT_adds (r : T_tag_reader) {k : Int} {c : Nat} {b : List UInt8} (hw : Qb k ≠ 0) (hb : b.length ≤ c * Qb k) : Adds r (valT r k c b).2 0 0 ∧ szV (valT r k c b).1 ≤ c * Qb k ∧ (valT r k c b).1.Entries = [] := by
 have hcw : c ≤ c * Qb k := Nat.le_mul_of_pos_right _ (by omega)
 unfold valT
 by_cases h2 : k = 2
 ·rw [if_pos h2]
  split
  ·exact ⟨Adds.fail _ _ (by omega), by simp [szV], rfl⟩
  ·refine ⟨?_, by simp [szV]; omega, rfl⟩
   simp only
   split
   ·exact Adds.fail _ _ (by omega)
   ·exact Adds.same _ (by omega)
 rw [if_neg h2]
 by_cases h7 : k = 7
 ·rw [if_pos h7]; exact ⟨Adds.same _ (by omega), by simp [szV]; omega, rfl⟩
 rw [if_neg h7]
 by_cases h5 : k = 5
 ·rw [if_pos h5]; exact ⟨Adds.same _ (by omega), by simp [szV]; omega, rfl⟩
 rw [if_neg h5]; exact ⟨Adds.same _ (by omega), by simp [szV]; omega, rfl⟩
theorem valR_adds (r : T_tag_reader) {k : Int} {c a : Nat} (hw : Qb k ≠ 0) : Adds r (valR r k c a).2 1 ((szV (valR r k c a).1 : Int) - 4) ∧ (valR r k c a).1.Entries = [] := by
 unfold valR
 by_cases h4 : 4 < c * Qb k
 ·rw [if_pos h4]
  simp only
  split
  ·rename_i h
   obtain ⟨a1, a2, a3⟩ := valT_adds ⟨r.s_, r.big_, r.parts_ ++ [⟨(valB r.big_ ((r.s_.drop a).take 4) : Nat), ((valB r.big_ ((r.s_.drop a).take 4) + c * Qb k : Nat) : Int)⟩], r.seen_, r.dirs_, r.found_, r.no_⟩ (k := k) (c := c) (b := (r.s_.drop (valB r.big_ ((r.s_.drop a).take 4))).take (c * Qb k)) hw (by rw [List.length_take]; omega)
   refine ⟨((Adds.part r ⟨(valB r.big_ ((r.s_.drop a).take 4) : Nat), ((valB r.big_ ((r.s_.drop a).take 4) + c * Qb k : Nat) : Int)⟩ r.seen_ ⟨by simp only; omega, by simp only; omega, by simp only; omega⟩).trans a1).mono (by omega) ?_, a3⟩
   simp only; omega
  ·exact ⟨Adds.fail _ _ (by simp [szV]), rfl⟩
 ·rw [if_neg h4]
  obtain ⟨a1, a2, a3⟩ := valT_adds r (k := k) (c := c) (b := (r.s_.drop a).take (c * Qb k)) hw (by rw [List.length_take]; omega)
  exact ⟨a1.mono (by omega) (by omega), a3⟩
def cap : Nat → Nat
 | 0 => 0
 | d + 1 => 1 + 200 * (1 + cap d)
def DirOk (d : Nat) (self : Uc) : Prop := ∀ (r : T_tag_reader) (pl : Nat) (path : List Int), path.length + d = 6 → pl ≤ 4294967295 → r.s_.length ≤ 65000 → r.parts_.length + cap d ≤ 7999999999999 → r.found_ ≤ 1 →
 ∃ (l : List T_tag_Entry) (nx : Nat) (r' : T_tag_reader), self (r, (pl : Int), path) = some (l, (nx : Int), r') ∧ nx ≤ 4294967295 ∧ Adds r r' (cap d) (szD d l : Nat) ∧ (20 < r.dirs_ → r'.no_ ≠ 0)
theorem entR_adds {d : Nat} {self : Uc} (H : DirOk d self) (r : T_tag_reader) {a : Nat} {path : List Int} (hpl : path.length + d + 1 = 6) (hs : r.s_.length ≤ 65000) (hp : r.parts_.length + (1 + cap d) ≤ 7999999999999) (hf : r.found_ ≤ 1) :
  ∃ e r', entR self r a path = some (e, r') ∧ Adds r r' (1 + cap d) ((szE d e : Nat) - 5 : Int) := by
 unfold entR
 split
 ·split
  ·obtain ⟨l, nx, r', h1, h2, h3, _⟩ := H r (J5 r (a + 8) 4) (path ++ [(J5 r a 2 : Int)]) (by simp; omega) (v4 _ _) hs (by omega) hf
   rw [h1, Jd]
   exact ⟨_, _, rfl, h3.mono (by omega) (by simp only [szE, List.length_nil]; omega)⟩
  ·refine ⟨_, _, rfl, Adds.fail _ _ ?_⟩
   have : szD d [] = 0 := by cases d <;> rfl
   simp only [szE, List.length_nil, this]; omega
 ·split
  ·refine ⟨_, _, rfl, Adds.fail _ _ ?_⟩
   have : szD d [] = 0 := by cases d <;> rfl
   simp only [szE, List.length_nil, this]; omega
  ·rename_i h13 h0
   obtain ⟨a1, a2⟩ := valR_adds r (k := (J5 r (a + 2) 2 : Int)) (c := J5 r (a + 4) 4) (a := a + 8) h0
   refine ⟨_, _, rfl, a1.mono (by omega) ?_⟩
   have : szD d [] = 0 := by cases d <;> rfl
   simp only [szE, a2, this, szV]; omega
theorem szD_snoc (d : Nat) (e : T_tag_Entry) : ∀ l : List T_tag_Entry, szD (d + 1) (l ++ [e]) = szD (d + 1) l + szE d e
 | [] => by rw [List.nil_append, szD_cons, szD_nil]; omega
 | x :: l => by rw [List.cons_append, szD_cons, szD_cons, szD_snoc d e l]; omega
theorem loop_adds {d : Nat} {self : Uc} (H : DirOk d self) {path : List Int} (hpl : path.length + d + 1 = 6) (r : T_tag_reader) {pl nxt cnt : Nat} (hs : r.s_.length ≤ 65000) (hcnt : cnt ≤ 200) (hin : pl + 2 + 12 * cnt ≤ r.s_.length) (hp : r.parts_.length + cap (d + 1) ≤ 7999999999999) (hf : r.found_ ≤ 1) :
  ∀ (m i : Nat) (rc : T_tag_reader) (l : List T_tag_Entry), i + m = cnt → l.length = i → Adds r rc (1 + i * (1 + cap d)) ((szD (d + 1) l : Nat) + 12 * m : Int) →
   ∃ l' r', dirLoop self path pl nxt cnt i rc l = some (l', (nxt : Int), r') ∧ Adds r r' (cap (d + 1)) (szD (d + 1) l' : Nat) := by
 intro m
 have hcap : ∀ i, i ≤ 200 → 1 + i * (1 + cap d) ≤ cap (d + 1) := fun i hi => by
  show _ ≤ 1 + 200 * (1 + cap d)
  have := Nat.mul_le_mul_right (1 + cap d) hi; omega
 induction m with
 | zero =>
  intro i rc l him hl hA
  exact ⟨l, rc, loop_end _ _ _ _ _ _ _ _ (.inl (by omega)), hA.mono (hcap i (by omega)) (by omega)⟩
 | succ m ih =>
  intro i rc l him hl hA
  have hend : Adds r rc (cap (d + 1)) (szD (d + 1) l : Nat) := hA.mono (hcap i (by omega)) (by omega)
  have hsl := hA.len
  by_cases hno : rc.no_ = 0
  ·have hin' : pl + 2 + 12 * cnt ≤ rc.s_.length := by omega
   by_cases hlow : ∃ h : 0 < i, (J5 rc (pl + 2 + 12 * i) 2 : Int) ≤ (l[i - 1]'(by omega)).Tag
   ·obtain ⟨h0, hlow⟩ := hlow
    exact ⟨l, fl rc 5, loop_low _ _ _ _ _ _ _ _ (by omega) hno h0 (by omega) hin' (by omega) hlow, (hend.trans (Adds.fail rc 5 (K := 0) (z := 0) (by omega))).mono (by omega) (by omega)⟩
   ·have hi1 := hcap (i + 1) (by omega)
    rw [Nat.add_mul, Nat.one_mul] at hi1
    have hpr := hA.parts
    obtain ⟨e, r', he, hA'⟩ := entR_adds H rc (a := pl + 2 + 12 * i) hpl (by omega) (by omega) (by rw [hA.2.2.2.1]; exact hf)
    rw [loop_next self path pl nxt cnt i rc l (by omega) hno hl (by omega) hin' (by omega) (fun h hh => hlow ⟨h, hh⟩) (by omega) (by rw [hA.2.2.2.1]; exact hf) (by omega) he]
    refine ih (i + 1) r' (l ++ [e]) (by omega) (by simp; omega) ((hA.trans hA').mono (by rw [Nat.add_mul, Nat.one_mul]; omega) ?_)
    rw [szD_snoc]; omega
  ·exact ⟨l, rc, loop_end _ _ _ _ _ _ _ _ (.inr hno), hend⟩
theorem dirR_ok {d : Nat} {self : Uc} (H : DirOk d self) (r : T_tag_reader) (pl : Nat) (path : List Int) (hpl : path.length + d + 1 = 6) (hs : r.s_.length ≤ 65000) (hp : r.parts_.length + cap (d + 1) ≤ 7999999999999) (hf : r.found_ ≤ 1) :
  ∃ (l : List T_tag_Entry) (nx : Nat) (r' : T_tag_reader), dirR self r pl path = some (l, (nx : Int), r') ∧ nx ≤ 4294967295 ∧ Adds r r' (cap (d + 1)) (szD (d + 1) l : Nat) ∧ (20 < r.dirs_ → r'.no_ ≠ 0) := by
 unfold dirR
 split
 ·exact ⟨[], 0, _, rfl, by omega, Adds.fail _ _ (by rw [szD_nil]; omega), fun _ => fl_no _ (by decide)⟩
 rename_i h8
 split
 ·exact ⟨[], 0, _, rfl, by omega, Adds.fail _ _ (by rw [szD_nil]; omega), fun _ => fl_no _ (by decide)⟩
 split
 ·exact ⟨[], 0, _, rfl, by omega, Adds.fail _ _ (by rw [szD_nil]; omega), fun _ => fl_no _ (by decide)⟩
 rename_i hlim
 split
 ·exact ⟨[], 0, _, rfl, by omega, Adds.fail _ _ (by rw [szD_nil]; omega), fun _ => fl_no _ (by decide)⟩
 rename_i hin
 split
 ·rename_i hno
  exact ⟨[], 0, _, rfl, by omega, Adds.same _ (by rw [szD_nil]; omega), fun _ => hno⟩
 have hpart := Adds.part r ⟨(pl : Int), ((pl + (2 + 12 * J5 r pl 2 + 4) : Nat) : Int)⟩ (Z6 r.seen_ (pl : Int) true) ⟨by simp only; omega, by simp only; omega, by simp only; omega⟩
 have run : ∀ r2 : T_tag_reader, Adds r r2 1 ((2 + 12 * J5 r pl 2 + 4 : Nat) : Int) → ∃ (l : List T_tag_Entry) (nx : Nat) (r' : T_tag_reader), dirLoop self path pl (J5 r (pl + 2 + 12 * J5 r pl 2) 4) (J5 r pl 2) 0 r2 [] = some (l, (nx : Int), r') ∧ nx ≤ 4294967295 ∧ Adds r r' (cap (d + 1)) (szD (d + 1) l : Nat) ∧ (20 < r.dirs_ → r'.no_ ≠ 0) := by
  intro r2 h2
  obtain ⟨l, r', h3, h4⟩ := loop_adds (nxt := J5 r (pl + 2 + 12 * J5 r pl 2) 4) H hpl r hs (show J5 r pl 2 ≤ 200 by omega) (show pl + 2 + 12 * J5 r pl 2 ≤ r.s_.length by omega) hp hf (J5 r pl 2) 0 r2 [] (by omega) rfl (h2.mono (by omega) (by rw [szD_nil]; omega))
  exact ⟨l, _, r', h3, v4 _ _, h4, fun h => absurd h (by omega)⟩
 split
 ·exact run _ ((hpart.trans (Adds.fail _ 1 (K := 0) (z := 0) (by omega))).mono (by omega) (by simp only; omega))
 ·exact run _ (hpart.mono (by omega) (by simp only; omega))
theorem dirR_zero {self : Uc} (r : T_tag_reader) (pl : Nat) (path : List Int) (hpl : path.length = 6) : ∃ r', dirR self r pl path = some ([], 0, r') ∧ Adds r r' 0 0 ∧ r'.no_ ≠ 0 := by
 unfold dirR
 split
 ·exact ⟨_, rfl, Adds.fail _ _ (by omega), fl_no _ (by decide)⟩
 split
 ·exact ⟨_, rfl, Adds.fail _ _ (by omega), fl_no _ (by decide)⟩
 rw [if_pos (.inr (.inl (by omega)))]
 exact ⟨_, rfl, Adds.fail _ _ (by omega), fl_no _ (by decide)⟩
theorem it_ok : ∀ (d n : Nat), d < n → DirOk d (it (fun (self : Uc) (s : T_tag_reader × Int × List Int) => Qh self s.1 s.2.1 s.2.2) n) := by
 intro d
 induction d with
 | zero =>
  intro n hn r pl path h6 hpl hs hp hf
  obtain ⟨n, rfl⟩ : ∃ m, n = m + 1 := ⟨n - 1, by omega⟩
  obtain ⟨r', h1, h2, h3⟩ := dirR_zero (self := it (fun (self : Uc) (s : T_tag_reader × Int × List Int) => Qh self s.1 s.2.1 s.2.2) n) r pl path (by omega)
  refine ⟨[], 0, r', ?_, by omega, h2, fun _ => h3⟩
  show Qh _ r (pl : Int) path = _
  rw [dir_step _ r hpl hs (by omega), h1]; rfl
 | succ d ih =>
  intro n hn r pl path h6 hpl hs hp hf
  obtain ⟨n, rfl⟩ : ∃ m, n = m + 1 := ⟨n - 1, by omega⟩
  obtain ⟨l, nx, r', h1, h2⟩ := dirR_ok (ih n (by omega)) r pl path (by omega) hs hp hf
  refine ⟨l, nx, r', ?_, h2⟩
  show Qh _ r (pl : Int) path = _
  rw [dir_step _ r hpl hs (by omega), h1]
theorem entry_congr {self self' : Uc} {path : List Int} (h : ∀ r pl p, p.length = path.length + 1 → self (r, pl, p) = self' (r, pl, p)) (r : T_tag_reader) (a : Int) : Xt self r a path = Xt self' r a path := by
 unfold Xt
 refine Xu fun t13 _ => Xu fun _ _ => Xu fun _ _ => Xu fun _ _ => Xu fun _ _ => Xu fun t23 h23 => Xu fun l26 h26 => ?_
 have hl : l26.length = path.length + 1 := by
  unfold W5 at h23
  cases hg : Vu 8 ([] : List Int) path with
  | none => rw [hg] at h23; cases h23
  | some u => rw [hg, Jd] at h23; cases h23; rw [(gApp_some h26).1, (gApp_some hg).1]; simp
 have e : ∀ x y, self (x, y, l26) = self' (x, y, l26) := fun x y => h x y l26 hl
 unfold Y2
 simp only [e]
theorem loop_congr {self self' : Uc} {path : List Int} (h : ∀ r pl p, p.length = path.length + 1 → self (r, pl, p) = self' (r, pl, p)) (r : T_tag_reader) (pl : Int) : Qh self r pl path = Qh self' r pl path := by
 have e : ∀ r a, Xt self r a path = Xt self' r a path := entry_congr h
 have e4 : Q3 path self = Q3 path self' := by
  funext next x1 x7 x9 x10 m1 m2 m3 m4 m5 l1 mp l2
  unfold Q3 Zq
  simp only [e]
 have e1 : ∀ a1 t m m2 m3 m4 m5 l mp, Xd a1 path self t m m2 m3 m4 m5 l mp = Xd a1 path self' t m m2 m3 m4 m5 l mp := by
  intro a1 t m m2 m3 m4 m5 l mp
  unfold Xd Vm
  rw [e4]
 unfold Qh
 simp only [e1]
theorem deep_congr {self self' : Uc} {path : List Int} (h : 5 < path.length) (r : T_tag_reader) (pl : Int) : Qh self r pl path = Qh self' r pl path := by
 unfold Qh
 refine Xu fun t _ => Uo (fun _ => rfl) fun _ => Xu fun c _ => Uo (fun _ => ?_) fun _ => Uo (fun _ => ?_) fun _ => ?_
 ·rw [Wp, Jd, Jd, Jan _ _ _ _ _ (fl_no _ (by decide)), Jan _ _ _ _ _ (fl_no _ (by decide))]
 ·rw [Wp, Jd, Jd, Jan _ _ _ _ _ (fl_no _ (by decide)), Jan _ _ _ _ _ (fl_no _ (by decide))]
 ·rw [cI, if_pos (by omega), cI, if_pos (by omega), Wp, Jd, Jd, Jan _ _ _ _ _ (fl_no _ (by decide)), Jan _ _ _ _ _ (fl_no _ (by decide))]
noncomputable abbrev dirF : Uc → Uc := fun self s => Qh self s.1 s.2.1 s.2.2
theorem it_same : ∀ (d n m : Nat), d < n → d < m → ∀ (r : T_tag_reader) (pl : Int) (path : List Int), path.length + d = 6 → it dirF n (r, pl, path) = it dirF m (r, pl, path) := by
 intro d
 induction d with
 | zero =>
  intro n m hn hm r pl path h6
  obtain ⟨n, rfl⟩ : ∃ k, n = k + 1 := ⟨n - 1, by omega⟩
  obtain ⟨m, rfl⟩ : ∃ k, m = k + 1 := ⟨m - 1, by omega⟩
  exact deep_congr (path := path) (by omega) r pl
 | succ d ih =>
  intro n m hn hm r pl path h6
  obtain ⟨n, rfl⟩ : ∃ k, n = k + 1 := ⟨n - 1, by omega⟩
  obtain ⟨m, rfl⟩ : ∃ k, m = k + 1 := ⟨m - 1, by omega⟩
  exact loop_congr (path := path) (fun r pl p hp => ih n m (by omega) (by omega) r pl p (by omega)) r pl
theorem dir_it (r : T_tag_reader) (pl : Int) (path : List Int) (h1 : path.length = 1) : V8 r pl path = it dirF 6 (r, pl, path) := by
 unfold V8
 exact fix_ev (k := 6) fun n hn => it_same 5 n 6 (by omega) (by omega) r pl path (by omega)
theorem dir_ok (r : T_tag_reader) (pl : Nat) (path : List Int) (h6 : path.length = 1) (hpl : pl ≤ 4294967295) (hs : r.s_.length ≤ 65000) (hp : r.parts_.length + cap 5 ≤ 7999999999999) (hf : r.found_ ≤ 1) :
  ∃ (l : List T_tag_Entry) (nx : Nat) (r' : T_tag_reader), V8 r (pl : Int) path = some (l, (nx : Int), r') ∧ nx ≤ 4294967295 ∧ Adds r r' (cap 5) (szD 5 l : Nat) ∧ (20 < r.dirs_ → r'.no_ ≠ 0) := by
 rw [dir_it _ _ _ h6]
 exact it_ok 5 6 (by omega) r pl path (by omega) hpl hs hp hf
end Go.M

/- A file's parts, the used spans and the holes, in plain Lean. Conditions: none. -/
namespace Go.M
open Go.Md Go.Pl
set_option linter.unusedVariables false
def cmpI (a b : Int) : Int := if a < b then -1 else if b < a then 1 else 0
theorem compare_eq (a b : Int) : cmp_Compare_int a b = some (cmpI a b) := by
 unfold cmp_Compare_int Ja7 cmpI
 rw [Jd, Jd, decide_eq_false (by simp), decide_eq_false (by simp), Qr, Qr, cI, cI]
 split
 ·rfl
 split <;> rfl
theorem or2_eq (a b : Int) : cmp_Or_int [a, b] = some (if a ≠ 0 then a else b) := by
 unfold cmp_Or_int
 by_cases ha : a = 0
 ·rw [if_neg (by simp [ha])]
  rw [Xi (1 : Int) fun next => by
   unfold Y9
   rw [cI, if_pos (by simp), show Y6 [a, b] 0 = some a from rfl, Jd, cI, if_neg (by simp [ha]), J2 (by omega), Jd]; rfl]
  by_cases hb : b = 0
  ·rw [Xi (2 : Int) fun next => by
    unfold Y9
    rw [cI, if_pos (by simp), show Y6 [a, b] 1 = some b from rfl, Jd, cI, if_neg (by simp [hb]), J2 (by omega), Jd]; rfl]
   exact Qq fun next => by
    unfold Y9
    rw [cI, if_neg (by simp), hb]
  ·exact Qq fun next => by
    unfold Y9
    rw [cI, if_pos (by simp), show Y6 [a, b] 1 = some b from rfl, Jd, cI, if_pos hb]
 ·rw [if_pos ha]
  exact Qq fun next => by
   unfold Y9
   rw [cI, if_pos (by simp), show Y6 [a, b] 0 = some a from rfl, Jd, cI, if_pos ha]
theorem spans_eq (x y : T_tag_Span) : Qm x y = some (if cmpI x.From y.From ≠ 0 then cmpI x.From y.From else cmpI x.To y.To) := by
 unfold Qm
 rw [compare_eq, Jd, compare_eq, Jd, or2_eq, Jd]
theorem spans_le (x y : T_tag_Span) : (Qm x y).getD 0 ≤ 0 ↔ x.From < y.From ∨ (x.From = y.From ∧ x.To ≤ y.To) := by
 rw [spans_eq, Option.getD_some]; unfold cmpI
 (repeat' split) <;> omega
theorem spans_lt (x y : T_tag_Span) : (Qm x y).getD 0 < 0 ↔ x.From < y.From ∨ (x.From = y.From ∧ x.To < y.To) := by
 rw [spans_eq, Option.getD_some]; unfold cmpI
 (repeat' split) <;> omega
theorem spans_ok : CmpOk Qm where
 tot x y := ⟨_, spans_eq x y⟩
 flip x y := by
  have h1 := spans_lt x y
  have h2 := spans_le y x
  omega
 trans x y z := by
  rw [spans_le, spans_le, spans_le]; omega
 anti x y h := by
  have h1 := spans_le x y
  have h2 := spans_lt x y
  have h3 : x.From = y.From ∧ x.To = y.To := by omega
  cases x; cases y; simp only at h3; rw [h3.1, h3.2]
theorem lenS_perm {a b : List T_tag_Span} (h : a.Perm b) : lenS a = lenS b := by
 unfold lenS
 induction h with
 | nil => rfl
 | cons x _ ih => simp only [List.map_cons, List.sum_cons, ih]
 | swap x y l => simp only [List.map_cons, List.sum_cons]; omega
 | trans _ _ h1 h2 => exact h1.trans h2
def sepS (n : Int) : Int → List T_tag_Span → Prop
 | a, [] => a ≤ n
 | a, x :: l => a ≤ x.From ∧ x.From < x.To ∧ sepS n x.To l
theorem sepS_end {n : Int} : ∀ {l : List T_tag_Span} {a : Int}, sepS n a l → a ≤ n ∧ (l.length : Int) ≤ n - a ∧ lenS l ≤ n - a
 | [], a, h => ⟨h, by simp; exact h, by rw [lenS_nil]; have : a ≤ n := h; omega⟩
 | x :: l, a, h => by
  obtain ⟨h1, h2, h3⟩ := sepS_end h.2.2
  have h4 := h.1
  have h5 := h.2.1
  refine ⟨by omega, by rw [List.length_cons]; omega, ?_⟩
  have : lenS (x :: l) = x.To - x.From + lenS l := by unfold lenS; simp
  rw [this]; omega
def lapP (l : List T_tag_Span) : Prop := ∃ i : Nat, ∃ h : i + 1 < l.length, (l[i + 1]'h).From < (l[i]'(by omega)).To
open Classical in
theorem overlap_eq (l : List T_tag_Span) (hl : l.length ≤ 1099511627776000) : tag_overlap l = some (decide (lapP l)) := by
 have key : ∀ m i : Nat, i + m = l.length → 1 ≤ i → Z3 (fun next1 s => Y8 l next1 s) (i : Int) = some (decide (∃ j : Nat, i ≤ j + 1 ∧ ∃ h : j + 1 < l.length, (l[j + 1]'h).From < (l[j]'(by omega)).To)) := by
  intro m
  induction m with
  | zero =>
   intro i hi h1
   refine Qq fun next => ?_
   unfold Y8
   rw [cI, if_neg (by omega)]
   congr 1; symm
   rw [decide_eq_false_iff_not]
   rintro ⟨j, h2, h3, _⟩; omega
  | succ m ih =>
   intro i hi h1
   have hh : ∀ next : Int → Option Bool, Y8 l next (i : Int) = if (l[i]'(by omega)).From < (l[i - 1]'(by omega)).To then some true else next ((i + 1 : Nat) : Int) := by
    intro next
    unfold Y8
    rw [cI, if_pos (by omega), Xl (by omega), Jd, J2 (by omega), Jd, show (i : Int) - 1 = ((i - 1 : Nat) : Int) by omega, Xl (by omega), Jd, cI]
    split
    ·rfl
    ·rw [J2 (by omega), Jd]; rfl
   by_cases hlap : (l[i]'(by omega)).From < (l[i - 1]'(by omega)).To
   ·rw [Qq (o := some true) fun next => by rw [hh, if_pos hlap]]
    congr 1; symm
    rw [decide_eq_true_iff]
    obtain ⟨k, rfl⟩ : ∃ k, i = k + 1 := ⟨i - 1, by omega⟩
    exact ⟨k, by omega, by omega, hlap⟩
   ·rw [Xi (((i + 1 : Nat) : Int)) fun next => by rw [hh, if_neg hlap], ih (i + 1) (by omega) (by omega)]
    congr 1
    rw [decide_eq_decide]
    constructor
    ·rintro ⟨j, h2, h3⟩; exact ⟨j, by omega, h3⟩
    ·rintro ⟨j, h2, h3, h4⟩
     rcases Nat.lt_or_ge i (j + 1) with h5 | h5
     ·exact ⟨j, by omega, h3, h4⟩
     ·exfalso
      have : i = j + 1 := by omega
      subst this
      exact hlap h4
 unfold tag_overlap
 rcases Nat.lt_or_ge l.length 1 with h0 | h0
 ·rw [Qq (o := some false) fun next => by unfold Y8; rw [cI, if_neg (by omega)]]
  congr 1; symm
  rw [decide_eq_false_iff_not]
  rintro ⟨j, h3, _⟩; omega
 ·rw [show (1 : Int) = ((1 : Nat) : Int) from rfl, key (l.length - 1) 1 (by omega) (by omega)]
  congr 1
  rw [decide_eq_decide]
  constructor
  ·rintro ⟨j, _, h3⟩; exact ⟨j, h3⟩
  ·rintro ⟨j, h3⟩; exact ⟨j, by omega, h3⟩
theorem sep_of {n : Nat} : ∀ {l : List T_tag_Span} {a : Int}, (∀ x ∈ l, okS n x) → ¬ lapP l → (∀ x ∈ l.head?, a ≤ x.From) → a ≤ n → sepS n a l
 | [], a, _, _, _, ha => ha
 | x :: l, a, h, hl, hh, ha => by
  have hx := h x (by simp)
  refine ⟨hh x (by simp), hx.2.1, sep_of (fun y hy => h y (by simp [hy])) ?_ ?_ hx.2.2⟩
  ·rintro ⟨i, hi, hlt⟩
   exact hl ⟨i + 1, by simp at hi ⊢; omega, by simpa using hlt⟩
  ·intro y hy
   cases l with
   | nil => simp at hy
   | cons z l =>
    simp at hy; subst hy
    by_cases hz : x.To ≤ z.From
    ·exact hz
    ·exfalso
     exact hl ⟨0, by simp, by simp; omega⟩
theorem begins_eq (s : List UInt8) : ∃ b, Uz s = some b ∧ (b = true → 8 ≤ s.length) := by
 unfold Uz
 rw [cI]
 by_cases h : (s.length : Int) < 8
 ·rw [if_pos h]; exact ⟨_, rfl, by simp⟩
 ·rw [if_neg h, gCut_to (by omega), Jd, cI, Jd]
  split <;> exact ⟨_, rfl, fun _ => by omega⟩
noncomputable def rdLoop (t : Int) (nx : Nat) (r : T_tag_reader) (ls : List (List T_tag_Entry)) : Option (T_tag_File × List T_tag_Span × Int) :=
 Z3 (fun next4 s => V2 t next4 s.1 s.2.1 s.2.2.1 s.2.2.2.1 s.2.2.2.2.1 s.2.2.2.2.2.1 s.2.2.2.2.2.2.1 s.2.2.2.2.2.2.2.1 s.2.2.2.2.2.2.2.2) ((nx : Int), r.s_, r.big_, r.dirs_, r.found_, r.no_, r.parts_, ls, r.seen_)
theorem rd_end (t : Int) (nx : Nat) (r : T_tag_reader) (ls : List (List T_tag_Entry)) (h : nx = 0 ∨ r.no_ ≠ 0) : rdLoop t nx r ls = Vz t r.s_ r.big_ r.dirs_ r.found_ r.no_ r.parts_ ls r.seen_ := by
 refine Qq fun next => ?_
 show V2 t next (nx : Int) r.s_ r.big_ r.dirs_ r.found_ r.no_ r.parts_ ls r.seen_ = _
 unfold V2
 rw [cI]
 by_cases h0 : nx = 0
 ·rw [if_neg (by simp [h0])]
 ·rw [if_pos (by simpa using h0), cI, if_neg (h.resolve_left h0)]
theorem rd_next (t : Int) (nx : Nat) (r : T_tag_reader) (ls : List (List T_tag_Entry)) (h0 : nx ≠ 0) (hno : r.no_ = 0) (hd : 0 ≤ r.dirs_ ∧ r.dirs_ ≤ 1000) (hl : ls.length ≤ 1000) {l : List T_tag_Entry} {nx' : Nat} {r' : T_tag_reader}
  (h : V8 ⟨r.s_, r.big_, r.parts_, r.seen_, r.dirs_ + 1, r.found_, r.no_⟩ (nx : Int) [(ls.length : Int)] = some (l, (nx' : Int), r')) : rdLoop t nx r ls = rdLoop t nx' r' (ls ++ [l]) := by
 refine Xi _ fun next => ?_
 show V2 t next (nx : Int) r.s_ r.big_ r.dirs_ r.found_ r.no_ r.parts_ ls r.seen_ = _
 unfold V2
 rw [cI, if_pos (by simpa using h0), cI, if_pos hno, J2 (by omega), Jd, h, Jd, Yf (by simp; omega), Jd]
open Classical in
theorem read_j1 (t : Int) (r : T_tag_reader) (ls : List (List T_tag_Entry)) (hs : 8 ≤ r.s_.length ∧ r.s_.length ≤ 65000) (hp : r.parts_.length ≤ 8000000000000) (hok : ∀ x ∈ r.parts_, okS r.s_.length x) (hsz : (((ls.map (szD 5)).sum : Nat) : Int) ≤ lenS r.parts_) (hl : ls.length ≤ 1000) :
  ∃ f ps e, Vz t r.s_ r.big_ r.dirs_ r.found_ r.no_ r.parts_ ls r.seen_ = some (f, ps, e) ∧ (e = 0 → sepS r.s_.length 8 ps) := by
 unfold Vz
 have hperm := List.mergeSort_perm r.parts_ (leC Qm)
 have hS : gSortF r.parts_ Qm = some (r.parts_.mergeSort (leC Qm)) := if_pos ⟨by omega, spans_ok⟩
 rw [hS, Jd, cI]
 generalize r.parts_.mergeSort (leC Qm) = ps at hperm
 have hlen : lenS ps = lenS r.parts_ := lenS_perm hperm
 have hfail : ∀ e : Int, e ≠ 0 → Vg t ls ps e = some (⟨false, []⟩, [], e) := fun e he => by unfold Vg; rw [cI, if_pos he]
 by_cases hno : r.no_ = 0
 ·rw [if_pos hno, overlap_eq _ (by rw [hperm.length_eq]; omega), Jd, cI]
  by_cases hlap : lapP ps
  ·rw [if_pos hlap]
   unfold Vh
   rw [cI, if_neg (by decide), hfail 6 (by decide)]
   exact ⟨_, _, _, rfl, by simp⟩
  ·rw [if_neg hlap]
   have hsep : sepS r.s_.length 8 ps := by
    refine sep_of (fun x hx => hok x (hperm.mem_iff.1 hx)) hlap (fun x hx => ?_) (by omega)
    exact (hok x (hperm.mem_iff.1 (List.mem_of_mem_head? hx))).1
   have hsum := (sepS_end hsep).2.2
   have hB : fileB (⟨decide (t = 77), ls⟩ : T_tag_File) := fileB_of (by show ls.length ≤ _; omega) (by show (ls.map (szD 5)).sum ≤ _; omega)
   unfold Vh
   rw [cI, if_pos hno, Check_eq hB, Jd]
   by_cases he : fileE (⟨decide (t = 77), ls⟩ : T_tag_File) = 0
   ·unfold Vg
    rw [cI, if_neg (by simp [he])]
    exact ⟨_, _, _, rfl, fun _ => hsep⟩
   ·rw [hfail _ he]
    exact ⟨_, _, _, rfl, fun h => absurd h he⟩
 ·rw [if_neg hno]
  unfold Vh
  rw [cI, if_neg hno, hfail _ hno]
  exact ⟨_, _, _, rfl, fun h => absurd h hno⟩
theorem rd_ok (t : Int) : ∀ (m D nx : Nat) (r : T_tag_reader) (ls : List (List T_tag_Entry)), D + m = 21 → nx ≤ 4294967295 → r.dirs_ = D → ls.length = D → (D ≤ 20 ∨ r.no_ ≠ 0) → (8 ≤ r.s_.length ∧ r.s_.length ≤ 65000) → r.parts_.length ≤ D * 323216080401 → (∀ x ∈ r.parts_, okS r.s_.length x) → (((ls.map (szD 5)).sum : Nat) : Int) ≤ lenS r.parts_ → r.found_ ≤ 1 →
  ∃ f ps e, rdLoop t nx r ls = some (f, ps, e) ∧ (e = 0 → sepS r.s_.length 8 ps) := by
 have hcap : cap 5 = 323216080401 := by rfl
 intro m
 induction m with
 | zero =>
  intro D nx r ls hD hnx hd hl h20 hs hp hok hsz hf
  rw [rd_end _ _ _ _ (.inr (h20.resolve_left (by omega)))]
  exact read_j1 t r ls hs (by omega) hok hsz (by omega)
 | succ m ih =>
  intro D nx r ls hD hnx hd hl h20 hs hp hok hsz hf
  by_cases hend : nx = 0 ∨ r.no_ ≠ 0
  ·rw [rd_end _ _ _ _ hend]
   exact read_j1 t r ls hs (by omega) hok hsz (by omega)
  ·have h0 : nx ≠ 0 := fun h => hend (.inl h)
   have hno : r.no_ = 0 := Classical.byContradiction fun h => hend (.inr h)
   obtain ⟨l, nx', r', h1, h2, h3, h4⟩ := dir_ok ⟨r.s_, r.big_, r.parts_, r.seen_, r.dirs_ + 1, r.found_, r.no_⟩ nx [(ls.length : Int)] rfl hnx hs.2 (by show r.parts_.length + cap 5 ≤ _; rw [hcap]; omega) hf
   rw [rd_next t nx r ls h0 hno (by omega) (by omega) h1]
   have hlen' := h3.len
   have hsl : r'.s_.length = r.s_.length := hlen'
   have hpa := h3.parts
   rw [hcap] at hpa
   have hpa' : r'.parts_.length ≤ r.parts_.length + 323216080401 := hpa
   obtain ⟨g1, g2, g3, g4, new, g5, g6, g7, g8⟩ := h3
   have g5' : r'.parts_ = r.parts_ ++ new := g5
   have := ih (D + 1) nx' r' (ls ++ [l]) (by omega) h2 (by have : r'.dirs_ = r.dirs_ + 1 := g3; omega) (by simp; omega) (by
    by_cases hh : D + 1 ≤ 20
    ·exact .inl hh
    ·exact .inr (h4 (by show 20 < r.dirs_ + 1; omega))) (by omega) (by omega) (by
    intro x hx
    rw [g5'] at hx
    rw [hsl]
    rcases List.mem_append.1 hx with hx | hx
    ·exact hok x hx
    ·exact g6 x hx) (by
    rw [g5', lenS_app, List.map_append, List.sum_append]
    simp only [List.map_cons, List.map_nil, List.sum_cons, List.sum_nil]
    omega) (by have : r'.found_ = r.found_ := g4; omega)
   rw [hsl] at this
   exact this
theorem read_ok (s : List UInt8) {fd : Nat} (hfd : fd ≤ 1) : ∃ f ps e, Jai s fd = some (f, ps, e) ∧ (e = 0 → s.length ≤ 65000 ∧ sepS s.length 8 ps) := by
 unfold Jai
 rw [cI]
 by_cases hl : (65000 : Int) < s.length
 ·rw [if_pos hl]; exact ⟨_, _, _, rfl, by simp⟩
 ·obtain ⟨b, hb, hb8⟩ := begins_eq s
  rw [if_neg hl, hb, Jd]
  cases b with
  | false => rw [Bool.not_false, Qu]; exact ⟨_, _, _, rfl, by simp⟩
  | true =>
   have h8 := hb8 rfl
   rw [Bool.not_true, Qr, show (0 : Int) = ((0 : Nat) : Int) from rfl, Jag (by omega), Jd, show (4 : Int) = ((4 : Nat) : Int) from rfl, number_eq (a := 4) (k := 4) _ (by show 4 + 4 ≤ s.length; omega) (by omega) (by show s.length ≤ 65000; omega), Jd]
   obtain ⟨f, ps, e, h1, h2⟩ := rd_ok ((s[0]'(by omega)).toNat : Int) 21 0 (valB (decide (((s[0]'(by omega)).toNat : Int) = 77)) ((s.drop 4).take 4)) ⟨s, decide (((s[0]'(by omega)).toNat : Int) = 77), [], [], 0, fd, 0⟩ [] (by omega) (valB4 _ (by rw [List.length_take]; omega)) rfl rfl (.inl (by omega)) ⟨h8, by show s.length ≤ 65000; omega⟩ (by simp) (by simp) (by simp [lenS]) hfd
   exact ⟨f, ps, e, h1, fun h => ⟨by omega, h2 h⟩⟩
end Go.M

/- TagSpans: the used spans and the holes of whatever octets share them out, in plain Lean. Conditions: none. -/
namespace Go.M
open Go.Md Go.Pl
set_option linter.unusedVariables false
def Ud (c : T_tag_Span) : List T_tag_Span → List T_tag_Span
 | [] => [c]
 | y :: l => if c.To = y.From then Ud ⟨c.From, y.To⟩ l else c :: Ud y l
theorem usedL_len : ∀ (l : List T_tag_Span) (c : T_tag_Span), (Ud c l).length ≤ l.length + 1
 | [], c => by simp [Ud]
 | y :: l, c => by
  unfold Ud
  split
  ·have := usedL_len l ⟨c.From, y.To⟩; simp; omega
  ·have := usedL_len l y; simp; omega
theorem used_loop (t13 : T_tag_File × List T_tag_Span × Int) (ht : t13.2.1.length ≤ 65000) : ∀ (m i : Nat) (pre : List T_tag_Span) (c : T_tag_Span), i + m = t13.2.1.length → pre.length ≤ i →
  Z3 (fun next2 s => Zw t13 next2 s.1 s.2) ((i : Int), pre ++ [c]) = some (pre ++ Ud c (t13.2.1.drop i), 0) := by
 intro m
 induction m with
 | zero =>
  intro i pre c hi hp
  rw [List.drop_eq_nil_of_le (by omega)]
  refine Qq fun next => ?_
  show Zw t13 next (i : Int) (pre ++ [c]) = _
  unfold Zw
  rw [cI, if_neg (by omega)]; rfl
 | succ m ih =>
  intro i pre c hi hp
  have hlast : (((pre ++ [c]).length : Int) - 1) = ((pre.length : Nat) : Int) := by simp
  have hat : Y6 (pre ++ [c]) ((pre.length : Nat) : Int) = some c := by rw [Xl (by simp)]; simp
  have hh : ∀ next : Int × List T_tag_Span → Option (List T_tag_Span × Int), Zw t13 next (i : Int) (pre ++ [c]) = if c.To = (t13.2.1[i]'(by omega)).From then next (((i + 1 : Nat) : Int), pre ++ [⟨c.From, (t13.2.1[i]'(by omega)).To⟩]) else next (((i + 1 : Nat) : Int), (pre ++ [c]) ++ [t13.2.1[i]'(by omega)]) := by
   intro next
   unfold Zw
   rw [cI, if_pos (by omega), Xl (by omega), Jd, J2 (by simp; omega), Jd, hlast, hat, Jd, cI]
   split
   ·rw [gSet_ok (by omega) (by simp), Jd]
    unfold Jas
    rw [J2 (by omega), Jd, Int.toNat_natCast]
    simp
   ·rw [Yf (by simp; omega), Jd]
    unfold Jas
    rw [J2 (by omega), Jd]; rfl
  rw [List.drop_eq_getElem_cons (show i < t13.2.1.length by omega)]
  unfold Ud
  split
  ·rename_i h
   rw [Xi _ fun next => by show Zw t13 next (i : Int) (pre ++ [c]) = _; rw [hh next, if_pos h]]
   exact ih (i + 1) pre _ (by omega) (by omega)
  ·rename_i h
   rw [Xi _ fun next => by show Zw t13 next (i : Int) (pre ++ [c]) = _; rw [hh next, if_neg h]]
   rw [ih (i + 1) (pre ++ [c]) _ (by omega) (by simp; omega)]
   simp
theorem used_eq {s : List UInt8} {f : T_tag_File} {ps : List T_tag_Span} {e : Int} (h : Jai s 1 = some (f, ps, e)) (hp : e = 0 → ps.length ≤ 65000) : tag_Used s = some (if e = 0 then (Ud ⟨0, 8⟩ ps, 0) else ([], e)) := by
 unfold tag_Used
 rw [h, Jd, cI]
 by_cases he : e = 0
 ·rw [if_neg (by simp [he]), if_pos he]
  have := used_loop (f, ps, e) (hp he) ps.length 0 [] ⟨0, 8⟩ (by simp) (by simp)
  rw [List.drop_zero] at this
  exact this
 ·rw [if_pos he, if_neg he]
def holL (a : Int) : List T_tag_Span → List T_tag_Span
 | [] => []
 | y :: l => (if a < y.From then [⟨a, y.From⟩] else []) ++ holL y.To l
theorem holL_len : ∀ (l : List T_tag_Span) (a : Int), (holL a l).length ≤ l.length
 | [], a => by simp [holL]
 | y :: l, a => by
  unfold holL
  have := holL_len l y.To
  split <;> simp <;> omega
theorem holes_loop (l25 : List T_tag_Span) (ht : l25.length ≤ 70000) : ∀ (m i : Nat) (a : Int) (acc : List T_tag_Span), i + m = l25.length → acc.length ≤ i →
  Z3 (fun next2 s => Ve l25 next2 s.1 s.2.1 s.2.2) (a, (i : Int), acc) = some (acc ++ holL a (l25.drop i), 0) := by
 intro m
 induction m with
 | zero =>
  intro i a acc hi hp
  rw [List.drop_eq_nil_of_le (by omega)]
  refine Qq fun next => ?_
  show Ve l25 next a (i : Int) acc = _
  unfold Ve
  rw [cI, if_neg (by omega)]
  unfold tag_Holes_j1 holL; simp
 | succ m ih =>
  intro i a acc hi hp
  rw [List.drop_eq_getElem_cons (show i < l25.length by omega)]
  unfold holL
  have hg : ∀ next : Int × Int × List T_tag_Span → Option (List T_tag_Span × Int), Ve l25 next a (i : Int) acc = next ((l25[i]'(by omega)).To, ((i + 1 : Nat) : Int), acc ++ (if a < (l25[i]'(by omega)).From then [⟨a, (l25[i]'(by omega)).From⟩] else [])) := by
   intro next
   unfold Ve
   rw [cI, if_pos (by omega), Xl (by omega), Jd, cI]
   unfold Ja0
   split
   ·rw [Yf (by simp; omega), Jd, J2 (by omega), Jd]; rfl
   ·rw [J2 (by omega), Jd, List.append_nil]; rfl
  rw [Xi _ hg, ih (i + 1) _ _ (by omega) (by split <;> simp <;> omega), List.append_assoc]
theorem holes_eq {s : List UInt8} {U : List T_tag_Span} {e : Int} (h : tag_Used s = some (U, e)) (hU : U.length ≤ 65001) : tag_Holes s = some (if e = 0 then (holL 0 (U ++ [⟨(s.length : Int), (s.length : Int)⟩]), 0) else ([], e)) := by
 unfold tag_Holes
 rw [h, Jd, cI]
 by_cases he : e = 0
 ·rw [if_neg (by simp [he]), if_pos he, Yf (by simp; omega), Jd]
  have := holes_loop (U ++ [⟨(s.length : Int), (s.length : Int)⟩]) (by simp; omega) (U ++ [(⟨(s.length : Int), (s.length : Int)⟩ : T_tag_Span)]).length 0 0 [] (by simp) (by simp)
  rw [List.drop_zero] at this
  exact this
 ·rw [if_pos he, if_neg he]
end Go.M

/- The reference reads octets, beside the program, in plain Lean: numbers, values. Conditions: none. -/
namespace Go.M
open Go.Md Go.Pl
set_option linter.unusedVariables false
theorem Rnum_eq (big : Bool) (s : List UInt8) (hs : s.length ≤ 4) : Qt big s = some (valB big s : Int) := by
 let L := if big then s else s.reverse
 have hL : L.length = s.length := by
  show (if big then s else s.reverse).length = s.length
  cases big <;> simp
 have hi : ∀ i (hik : i < s.length), ∃ q : Nat, ∃ hq : q < s.length, q = (if big then i else s.length - 1 - i) ∧ s[q]'hq = L[i]'(by omega) := by
  intro i hik
  cases big
  ·refine ⟨s.length - 1 - i, by omega, rfl, ?_⟩
   show _ = (s.reverse)[i]'_
   rw [List.getElem_reverse]
  ·exact ⟨i, by omega, rfl, rfl⟩
 have key : ∀ m i v : Nat, i + m = s.length → v < 256 ^ i → Z3 (fun next1 s' => Zj big s next1 s'.1 s'.2) ((v : Int), (i : Int)) = some (((L.drop i).foldl (fun v b => v * 256 + b.toNat) v : Nat) : Int) := by
  intro m
  induction m with
  | zero =>
   intro i v him hv
   rw [List.drop_eq_nil_of_le (by omega)]
   refine Qq fun next => ?_
   show Zj big s next (v : Int) (i : Int) = _
   unfold Zj
   rw [cI, if_neg (by omega)]; rfl
  | succ m ih =>
   intro i v him hv
   obtain ⟨q, hq, hqe, hsq⟩ := hi i (by omega)
   have hv4 : v < 16777216 := Nat.lt_of_lt_of_le hv (Nat.le_trans (Nat.pow_le_pow_right (by omega) (show i ≤ 3 by omega)) (by decide))
   have hb := (s[q]'(by omega)).toNat_lt
   rw [List.drop_eq_getElem_cons (show i < L.length by omega), List.foldl_cons]
   have hlt : v * 256 + (L[i]'(by omega)).toNat < 256 ^ (i + 1) := by
    rw [← hsq, Nat.pow_succ]; omega
   refine Eq.trans (Xi _ fun next => ?_) (ih (i + 1) (v * 256 + (L[i]'(by omega)).toNat) (by omega) hlt)
   show Zj big s next (v : Int) (i : Int) = _
   unfold Zj
   rw [cI, if_pos (by omega), J2 (by omega), Jd, J2 (by omega), Jd]
   have go : ∀ x : Int, x = (q : Int) → Up s v i next x = next (((v * 256 + (L[i]'(by omega)).toNat : Nat) : Int), ((i + 1 : Nat) : Int)) := by
    intro x hx
    subst hx
    unfold Up
    have e8 : (2 : Int) ^ (8 : Int).toNat = 256 := by decide
    have hsh : gShl (v : Int) 8 = some ((v : Int) * 256) := by
     unfold gShl
     rw [if_pos ⟨by decide, by decide⟩, e8]
     exact J2 (by omega)
    rw [hsh, Jd, Jag (by omega), Jd]
    unfold gK
    rw [if_pos (by omega), Jd, J2 (by omega), Jd, or_byte (by omega) hb, hsq]
    rfl
   cases big
   ·rw [Qr]; exact go _ (by rw [hqe]; simp; omega)
   ·rw [Qu]; exact go _ (by rw [hqe]; simp)
 unfold Qt
 have := key s.length 0 0 (by omega) (by simp)
 rw [List.drop_zero] at this
 exact this
theorem Rat_eq (q : T_tintref2_reader) {a k : Nat} (h : a + k ≤ q.s_.length) (hk : k ≤ 4) (hs : q.s_.length ≤ 65000) : Qy q (a : Int) (k : Int) = some (valB q.big_ ((q.s_.drop a).take k) : Int) := by
 unfold Qy
 rw [J2 (by omega), Jd, gCut_ok (by omega), Jd, show ((a : Int) + (k : Int)).toNat - (a : Int).toNat = k by omega, Int.toNat_natCast, Rnum_eq _ _ (by rw [List.length_take]; omega), Jd]
theorem Rat2 (q : T_tintref2_reader) {a : Nat} (h : a + 2 ≤ q.s_.length) (hs : q.s_.length ≤ 65000) : Qy q (a : Int) 2 = some (valB q.big_ ((q.s_.drop a).take 2) : Int) := Rat_eq (k := 2) q h (by omega) hs
theorem Rat4 (q : T_tintref2_reader) {a : Nat} (h : a + 4 ≤ q.s_.length) (hs : q.s_.length ≤ 65000) : Qy q (a : Int) 4 = some (valB q.big_ ((q.s_.drop a).take 4) : Int) := Rat_eq (k := 4) q h (by omega) hs
theorem Rin_eq (q : T_tintref2_reader) {p n : Nat} (hs : q.s_.length ≤ 65000) : Wg q (p : Int) (n : Int) = some (decide (8 ≤ p ∧ p + n ≤ q.s_.length)) := by
 unfold Wg
 rw [cI, cI]
 by_cases h8 : 8 ≤ p
 ·rw [if_pos (by omega)]
  by_cases hl : p ≤ q.s_.length
  ·rw [if_pos (by omega), J2 (by omega), Jd]
   congr 1
   rw [decide_eq_decide]; omega
  ·rw [if_neg (by omega), decide_eq_false (by omega)]
 ·rw [if_neg (by omega), decide_eq_false (by omega)]
def hdP : T_tag_Span := ⟨0, 8⟩
structure Same (r : T_tag_reader) (q : T_tintref2_reader) : Prop where
 s : q.s_ = r.s_
 big : q.big_ = r.big_
 seen : q.starts_ = r.seen_
 parts : q.parts_ = hdP :: r.parts_
theorem ratR_succ (big : Bool) (b : List UInt8) (i : Nat) : ratR big (b.drop 8) i = ratR big b (i + 1) := by
 unfold ratR
 rw [List.drop_drop, List.drop_drop, show 8 + 8 * i = 8 * (i + 1) by omega, show 8 + (8 * i + 4) = 8 * (i + 1) + 4 by omega]
theorem intR_succ (big : Bool) (k : Int) (b : List UInt8) (i : Nat) : intR big k (b.drop (Qb k)) i = intR big k b (i + 1) := by
 unfold intR
 rw [List.drop_drop, show Qb k + i * Qb k = (i + 1) * Qb k by rw [Nat.add_mul]; omega]
theorem range_succ_map {β : Type} (f : Nat → β) (m : Nat) : (List.range (m + 1)).map f = f 0 :: (List.range m).map fun i => f (i + 1) := by
 rw [List.range_succ_eq_map, List.map_cons, List.map_map]; rfl
theorem Rrat_loop (q : T_tintref2_reader) (a1 : Int) (key : List UInt8) (k : Int) (l : List T_tag_Span) (m1 m2 : Int) : ∀ (m : Nat) (b : List UInt8) (acc : List T_tag_Ratio), b.length = 8 * m → b.length ≤ 65000 → acc.length + m ≤ 100000 →
  Z3 (fun next3 s => Yd q a1 key k l m1 m2 next3 s.1 s.2) (b, acc) = Y5 q a1 key k l m1 m2 [] [] (acc ++ (List.range m).map (ratR q.big_ b)) := by
 intro m
 induction m with
 | zero =>
  intro b acc hb hs ha
  have : b = [] := List.eq_nil_of_length_eq_zero (by omega)
  subst this
  refine Qq fun next => ?_
  show Yd q a1 key k l m1 m2 next [] acc = _
  unfold Yd
  rw [cI, if_neg (by simp)]; simp
 | succ m ih =>
  intro b acc hb hs ha
  have hne : b ≠ [] := fun h => by subst h; simp at hb
  refine Eq.trans (Xi (b.drop 8, acc ++ [ratR q.big_ b 0]) fun next => ?_) ?_
  ·show Yd q a1 key k l m1 m2 next b acc = _
   unfold Yd
   rw [cI, if_pos hne, gCut_to (by omega), Jd, Rnum_eq _ _ (by rw [List.length_take]; omega), Jd, gCut_ok (by omega), Jd, Rnum_eq _ _ (by rw [List.length_take]; omega), Jd, Yf (by simp; omega), Jd, gCut_from (by omega), Jd]
   rfl
  ·rw [ih (b.drop 8) (acc ++ [ratR q.big_ b 0]) (by rw [List.length_drop]; omega) (by rw [List.length_drop]; omega) (by simp; omega), range_succ_map, List.append_assoc]
   rw [List.singleton_append, List.map_congr_left fun i _ => ratR_succ q.big_ b i]
theorem Rint_loop (q : T_tintref2_reader) (a1 : Int) (key : List UInt8) (k : Int) (l : List T_tag_Span) (m1 m2 : Int) (hw : 1 ≤ Qb k ∧ Qb k ≤ 4) : ∀ (m : Nat) (b : List UInt8) (acc : List Int), b.length = m * Qb k → b.length ≤ 65000 → acc.length + m ≤ 100000 →
  Z3 (fun next4 s => Yc q a1 key k (Qb k : Int) l m1 m2 next4 s.1 s.2) (b, acc) = Y5 q a1 key k l m1 m2 [] (acc ++ (List.range m).map (intR q.big_ k b)) [] := by
 intro m
 induction m with
 | zero =>
  intro b acc hb hs ha
  have : b = [] := List.eq_nil_of_length_eq_zero (by omega)
  subst this
  refine Qq fun next => ?_
  show Yc q a1 key k _ l m1 m2 next [] acc = _
  unfold Yc
  rw [cI, if_neg (by simp)]; simp
 | succ m ih =>
  intro b acc hb hs ha
  rw [Nat.add_mul, Nat.one_mul] at hb
  have hne : b ≠ [] := fun h => by subst h; simp at hb; omega
  refine Eq.trans (Xi (b.drop (Qb k), acc ++ [intR q.big_ k b 0]) fun next => ?_) ?_
  ·show Yc q a1 key k _ l m1 m2 next b acc = _
   unfold Yc
   have hv := valB4 q.big_ (bs := b.take (Qb k)) (by rw [List.length_take]; omega)
   have go : ∀ x : Int, x = intR q.big_ k b 0 → Zo (Qb k : Int) b acc next x = next (b.drop (Qb k), acc ++ [intR q.big_ k b 0]) := by
    intro x hx
    unfold Zo
    rw [Yf (by simp; omega), Jd, gCut_from (by omega), Jd, hx, Int.toNat_natCast]
   have hi : intR q.big_ k b 0 = if k = 9 then wI64 (wI32 (valB q.big_ (b.take (Qb k)))) else valB q.big_ (b.take (Qb k)) := by
    unfold intR; rw [Nat.zero_mul, List.drop_zero]
   rw [cI, if_pos hne, gCut_to (by omega), Jd, Int.toNat_natCast, Rnum_eq _ _ (by rw [List.length_take]; omega), Jd, cI, cI]
   by_cases h9 : k = 9
   ·rw [if_pos h9]
    rw [if_pos h9] at hi
    by_cases hb31 : (2147483648 : Int) ≤ (valB q.big_ (b.take (Qb k)) : Int)
    ·rw [if_pos hb31, J2 (by omega), Jd]
     refine go _ ?_
     rw [hi]; unfold wI32
     rw [if_pos (by omega), wI64_in (by omega)]; omega
    ·rw [if_neg hb31]
     refine go _ ?_
     rw [hi]; unfold wI32
     rw [if_neg (by omega), wI64_in (by omega)]; omega
   ·rw [if_neg h9]
    rw [if_neg h9] at hi
    exact go _ hi.symm
  ·rw [ih (b.drop (Qb k)) (acc ++ [intR q.big_ k b 0]) (by rw [List.length_drop]; omega) (by rw [List.length_drop]; omega) (by simp; omega), range_succ_map, List.append_assoc]
   rw [List.singleton_append, List.map_congr_left fun i _ => intR_succ q.big_ k b i]
theorem Rval_j1 (r : T_tag_reader) (q : T_tintref2_reader) (hq : Same r q) (hno : r.no_ = 0) {k : Int} {c p : Nat} (a1 : Int) (key : List UInt8) (parts : List T_tag_Span) (m1 m2 : Int) (hw : Qb k ≠ 0) (h13 : k ≠ 13) (hp : p + c * Qb k ≤ r.s_.length) (hs : r.s_.length ≤ 65000) :
  ∃ v e q', Vp q a1 key k (Qb k : Int) ((c * Qb k : Nat) : Int) (p : Int) (hdP :: parts) m1 m2 = some (v, e, q') ∧
   e = (valT ⟨r.s_, r.big_, parts, r.seen_, r.dirs_, r.found_, r.no_⟩ k c ((r.s_.drop p).take (c * Qb k))).2.no_ ∧
   (e = 0 → v = (valT ⟨r.s_, r.big_, parts, r.seen_, r.dirs_, r.found_, r.no_⟩ k c ((r.s_.drop p).take (c * Qb k))).1 ∧ Same (valT ⟨r.s_, r.big_, parts, r.seen_, r.dirs_, r.found_, r.no_⟩ k c ((r.s_.drop p).take (c * Qb k))).2 q') := by
 have hcw : c ≤ c * Qb k := Nat.le_mul_of_pos_right _ (by omega)
 have e1 := hq.s
 have e2 := hq.big
 have e3 := hq.seen
 have hbl : ((r.s_.drop p).take (c * Qb k)).length = c * Qb k := by rw [List.length_take, List.length_drop]; omega
 have hfl : ∀ e : Int, (fl ⟨r.s_, r.big_, parts, r.seen_, r.dirs_, r.found_, r.no_⟩ e).no_ = e := fun e => by unfold fl; rw [if_pos hno]
 unfold Vp valT
 rw [J2 (by omega), Jd, gCut_ok (by rw [e1]; omega), Jd, show ((p : Int) + ((c * Qb k : Nat) : Int)).toNat - (p : Int).toNat = c * Qb k by omega, Int.toNat_natCast, e1, cI, cI, cI, cI]
 generalize hb : (r.s_.drop p).take (c * Qb k) = b at hbl ⊢
 by_cases h2 : k = 2
 ·subst h2
  rw [if_pos rfl, if_pos rfl]
  by_cases h0 : b = []
  ·rw [if_pos h0, if_pos (.inl h0)]
   exact ⟨_, _, _, rfl, (hfl 1).symm, fun h => absurd h (by decide)⟩
  rw [if_neg h0, J2 (by omega), Jd, show (b.length : Int) - 1 = ((b.length - 1 : Nat) : Int) by have := List.length_pos_iff.2 h0; omega, Jag (by have := List.length_pos_iff.2 h0; omega), Jd, cI]
  have hlast : b.getLast? = some (b[b.length - 1]'(by have := List.length_pos_iff.2 h0; omega)) := by
   rw [List.getLast?_eq_getElem?, List.getElem?_eq_getElem]
  by_cases hz : b[b.length - 1]'(by have := List.length_pos_iff.2 h0; omega) = 0
  ·rw [if_neg (by rw [hz]; decide), Jd, gCut_to (by omega), Jd]
   have ht : b.take ((b.length - 1 : Nat) : Int).toNat = b.dropLast := by
    rw [Int.toNat_natCast, List.dropLast_eq_take]
   rw [ht]
   unfold Wu Yz gIxB
   rw [Jd, Jd, Jd, cI]
   have hm := (ixB_mem 0 b.dropLast).2
   have hcond : ¬ (b = [] ∨ b.getLast? ≠ some 0) := by
    rintro (h | h)
    ·exact h0 h
    ·exact h (by rw [hlast, hz])
   rw [if_neg hcond]
   by_cases hm0 : (0 : UInt8) ∈ b.dropLast
   ·rw [if_pos (show 0 ≤ ixB b.dropLast (Int.toNat 0).toUInt8 from hm.2 hm0)]
    simp only [if_pos hm0]
    exact ⟨_, _, _, rfl, (hfl 9).symm, fun h => absurd h (by decide)⟩
   ·rw [if_neg (show ¬ 0 ≤ ixB b.dropLast (Int.toNat 0).toUInt8 from fun h => hm0 (hm.1 h))]
    simp only [if_neg hm0]
    exact ⟨_, _, _, rfl, hno.symm, fun _ => ⟨rfl, ⟨e1, e2, e3, rfl⟩⟩⟩
  ·have hnz : ((b[b.length - 1]'(by have := List.length_pos_iff.2 h0; omega)).toNat : Int) ≠ 0 := fun h => hz (UInt8.toNat_inj.1 (by show _ = 0; omega))
   rw [if_pos hnz, if_pos (.inr (by rw [hlast]; simpa using hz))]
   exact ⟨_, _, _, rfl, (hfl 1).symm, fun h => absurd h (by decide)⟩
 rw [if_neg h2, if_neg h2]
 by_cases h7 : k = 7
 ·subst h7
  rw [if_pos rfl, if_pos rfl]
  exact ⟨_, _, _, rfl, hno.symm, fun _ => ⟨rfl, ⟨e1, e2, e3, rfl⟩⟩⟩
 rw [if_neg h7, if_neg h7]
 by_cases h5 : k = 5
 ·subst h5
  have hw8 : Qb 5 = 8 := rfl
  rw [hw8] at hbl hp
  rw [if_pos rfl, if_pos rfl, Rrat_loop q a1 key 5 _ m1 m2 c b [] (by omega) (by omega) (by simp; omega), List.nil_append]
  exact ⟨_, _, _, rfl, hno.symm, fun _ => ⟨by rw [e2], ⟨e1, e2, e3, rfl⟩⟩⟩
 ·obtain ⟨w4, w1⟩ := wide_pos hw h2 h7 h5
  rw [if_neg h5, if_neg h5, Rint_loop q a1 key k _ m1 m2 ⟨w1, w4⟩ c b [] hbl (by omega) (by simp; omega), List.nil_append]
  exact ⟨_, _, _, rfl, hno.symm, fun _ => ⟨by rw [e2], ⟨e1, e2, e3, rfl⟩⟩⟩
abbrev SelfQ := (T_tintref2_reader × Int × Int × Int × Bool × List UInt8) → Option (List T_tag_Entry × Int × Int × T_tintref2_reader)
theorem Jao {r : T_tag_reader} (h : r.no_ = 0) (e : Int) : (fl r e).no_ = e := by unfold fl; rw [if_pos h]
theorem valR_far {r : T_tag_reader} {k : Int} {c a : Nat} (h : 4 < c * Qb k) : valR r k c a = if 8 ≤ J5 r a 4 ∧ J5 r a 4 + c * Qb k ≤ r.s_.length then valT ⟨r.s_, r.big_, r.parts_ ++ [⟨(J5 r a 4 : Int), ((J5 r a 4 + c * Qb k : Nat) : Int)⟩], r.seen_, r.dirs_, r.found_, r.no_⟩ k c ((r.s_.drop (J5 r a 4)).take (c * Qb k)) else (⟨0, [], [], [], []⟩, fl r 2) := by
 unfold valR; rw [if_pos h]
theorem valR_near {r : T_tag_reader} {k : Int} {c a : Nat} (h : ¬ 4 < c * Qb k) : valR r k c a = valT r k c ((r.s_.drop a).take (c * Qb k)) := by
 unfold valR; rw [if_neg h]
theorem Rval_eq (self : SelfQ) (r : T_tag_reader) (q : T_tintref2_reader) (hq : Same r q) (hno : r.no_ = 0) {a : Nat} (deep : Int) (key : List UInt8) (ha : a + 12 ≤ r.s_.length) (hs : r.s_.length ≤ 65000) (hp : r.parts_.length ≤ 7999999999999)
  (h13 : (J5 r (a + 2) 2 : Int) ≠ 13) (h0 : Qb (J5 r (a + 2) 2 : Int) ≠ 0) :
  ∃ v e q', Xo self q (a : Int) deep key = some (v, e, q') ∧ e = (valR r (J5 r (a + 2) 2 : Int) (J5 r (a + 4) 4) (a + 8)).2.no_ ∧
   (e = 0 → v = (valR r (J5 r (a + 2) 2 : Int) (J5 r (a + 4) 4) (a + 8)).1 ∧ Same (valR r (J5 r (a + 2) 2 : Int) (J5 r (a + 4) 4) (a + 8)).2 q') := by
 have e1 := hq.s
 have e2 := hq.big
 have hc4 := v4 r (a + 4)
 have hk2 := v2 r (a + 2)
 have hf4 := v4 r (a + 8)
 have r2 : Qy q ((a + 2 : Nat) : Int) 2 = some (J5 r (a + 2) 2 : Int) := by rw [Rat2 q (by rw [e1]; omega) (by rw [e1]; omega), e1, e2]
 have r4 : Qy q ((a + 4 : Nat) : Int) 4 = some (J5 r (a + 4) 4 : Int) := by rw [Rat4 q (by rw [e1]; omega) (by rw [e1]; omega), e1, e2]
 have r8 : Qy q ((a + 8 : Nat) : Int) 4 = some (J5 r (a + 8) 4 : Int) := by rw [Rat4 q (by rw [e1]; omega) (by rw [e1]; omega), e1, e2]
 unfold Xo
 rw [J2 (by omega), Jd, show (a : Int) + 2 = ((a + 2 : Nat) : Int) by omega, r2, Jd, J2 (by omega), Jd, show (a : Int) + 4 = ((a + 4 : Nat) : Int) by omega, r4, Jd, J2 (by omega), Jd, show (a : Int) + 8 = ((a + 8 : Nat) : Int) by omega, r8, Jd, wide_eq, Jd, if_neg h13, cI, if_neg (by omega), cI, if_neg h13, Jd]
 have hw8 := U1 (J5 r (a + 2) 2 : Int)
 have hcw : J5 r (a + 4) 4 * Qb (J5 r (a + 2) 2 : Int) ≤ 4294967295 * 8 := Nat.mul_le_mul hc4 hw8
 rw [show ((J5 r (a + 4) 4 : Nat) : Int) * ((Qb (J5 r (a + 2) 2 : Int) : Nat) : Int) = ((J5 r (a + 4) 4 * Qb (J5 r (a + 2) 2 : Int) : Nat) : Int) by rw [Int.natCast_mul], J2 (by omega), Jd, cI, hq.parts]
 by_cases h4 : 4 < J5 r (a + 4) 4 * Qb (J5 r (a + 2) 2 : Int)
 ·rw [if_pos (by omega), valR_far h4, Rin_eq q (by rw [e1]; omega), e1, Jd]
  by_cases ht : 8 ≤ J5 r (a + 8) 4 ∧ J5 r (a + 8) 4 + J5 r (a + 4) 4 * Qb (J5 r (a + 2) 2 : Int) ≤ r.s_.length
  ·rw [decide_eq_true ht, Bool.not_true, Qr, J2 (by omega), Jd, Yf (by simp; omega), Jd, Jd, if_pos ht]
   exact Rval_j1 r q hq hno (a : Int) key (r.parts_ ++ [⟨(J5 r (a + 8) 4 : Int), ((J5 r (a + 8) 4 + J5 r (a + 4) 4 * Qb (J5 r (a + 2) 2 : Int) : Nat) : Int)⟩]) (J5 r (a + 8) 4 : Int) ((J5 r (a + 8) 4 : Int) + ((J5 r (a + 4) 4 * Qb (J5 r (a + 2) 2 : Int) : Nat) : Int)) h0 h13 ht.2 hs
  ·rw [decide_eq_false ht, Bool.not_false, Qu, if_neg ht]
   exact ⟨_, _, _, rfl, (Jao hno 2).symm, fun h => absurd h (by decide)⟩
 ·rw [if_neg (by omega), valR_near h4]
  exact Rval_j1 r q hq hno (a : Int) key r.parts_ 0 0 h0 h13 (by omega) hs
end Go.M

/- The reference reads octets, beside the program, in plain Lean: directories. Conditions: none. -/
namespace Go.M
open Go.Md Go.Pl
set_option linter.unusedVariables false
theorem decD_len (u : Nat) (k : Nat) (h : u < 10 ^ (k + 1)) : (decD u).length ≤ k + 1 := by
 induction k generalizing u with
 | zero => unfold decD; rw [if_pos (by omega)]; simp
 | succ k ih =>
  unfold decD
  split
  ·simp
  ·rw [List.length_append]
   have := ih (u / 10) (by rw [Nat.pow_succ] at h; omega)
   simp; omega
theorem itoa_short {n : Int} (h : 0 ≤ n ∧ n ≤ 99999) : gItoa n = some (itoaL n) ∧ (itoaL n).length ≤ 5 := by
 refine ⟨if_pos (by omega), ?_⟩
 unfold itoaL
 rw [if_neg (by omega)]
 exact decD_len _ 4 (by omega)
def SimD (d : Nat) (self : Uc) (selfQ : SelfQ) : Prop := ∀ (r : T_tag_reader) (q : T_tintref2_reader) (pl : Nat) (path : List Int) (number : Int) (inner : Bool) (key : List UInt8), Same r q → r.no_ = 0 → 0 < path.length → path.length + d = 6 → pl ≤ 4294967295 → r.s_.length ≤ 65000 → r.parts_.length + cap d ≤ 7999999999999 → r.found_ ≤ 1 →
 (20 ≤ number ↔ 20 < r.dirs_) → inner = decide (1 < path.length) → key.length + 100 * d ≤ 10000 → ∀ (l : List T_tag_Entry) (nx : Int) (r' : T_tag_reader), self (r, (pl : Int), path) = some (l, nx, r') →
  ∃ l2 nx2 e q', selfQ (q, (pl : Int), (path.length : Int), number, inner, key) = some (l2, nx2, e, q') ∧ e = r'.no_ ∧ (e = 0 → l2 = l ∧ nx2 = nx ∧ Same r' q')
theorem ent_sim {d : Nat} {self : Uc} {selfQ : SelfQ} (G : SimD d self selfQ) (r : T_tag_reader) (q : T_tintref2_reader) {a : Nat} {path : List Int} (hq : Same r q) (hno : r.no_ = 0) (hpl : path.length + d + 1 = 6) (ha : a + 12 ≤ r.s_.length) (hs : r.s_.length ≤ 65000) (hp : r.parts_.length + (1 + cap d) ≤ 7999999999999) (hf : r.found_ ≤ 1)
  (h20 : r.dirs_ ≤ 20) (key : List UInt8) (hk : key.length + 100 * d ≤ 10000) (hpos : 0 < path.length) {en : T_tag_Entry} {r' : T_tag_reader} (he : entR self r a path = some (en, r')) :
  en.Tag = (J5 r a 2 : Int) ∧ ∃ v e q', Xo selfQ q (a : Int) (path.length : Int) key = some (v, e, q') ∧ e = r'.no_ ∧ (e = 0 → v = en.Value ∧ Same r' q') := by
 unfold entR at he
 by_cases h13 : (J5 r (a + 2) 2 : Int) = 13
 ·rw [if_pos h13] at he
  have e1 := hq.s
  have e2 := hq.big
  have r2 : Qy q ((a + 2 : Nat) : Int) 2 = some (J5 r (a + 2) 2 : Int) := by rw [Rat2 q (by rw [e1]; omega) (by rw [e1]; omega), e1, e2]
  have r4 : Qy q ((a + 4 : Nat) : Int) 4 = some (J5 r (a + 4) 4 : Int) := by rw [Rat4 q (by rw [e1]; omega) (by rw [e1]; omega), e1, e2]
  have r8 : Qy q ((a + 8 : Nat) : Int) 4 = some (J5 r (a + 8) 4 : Int) := by rw [Rat4 q (by rw [e1]; omega) (by rw [e1]; omega), e1, e2]
  unfold Xo
  rw [J2 (by omega), Jd, show (a : Int) + 2 = ((a + 2 : Nat) : Int) by omega, r2, Jd, J2 (by omega), Jd, show (a : Int) + 4 = ((a + 4 : Nat) : Int) by omega, r4, Jd, J2 (by omega), Jd, show (a : Int) + 8 = ((a + 8 : Nat) : Int) by omega, r8, Jd, wide_eq, Jd, if_pos h13, cI, if_neg (by decide), cI, if_pos h13, cI]
  by_cases h1 : J5 r (a + 4) 4 = 1
  ·rw [if_pos h1] at he
   rw [if_neg (by omega), J2 (by omega), Jd]
   obtain ⟨⟨l, nx, rr⟩, h2, h3⟩ := Jh he
   cases h3
   refine ⟨rfl, ?_⟩
   have hsame : Same r ⟨q.s_, q.big_, q.starts_, q.parts_, Z6 q.places_ key (⟨(a : Int), 0, 0⟩ : T_tintref2_place)⟩ := ⟨hq.s, hq.big, hq.seen, hq.parts⟩
   obtain ⟨l2, nx2, e, q', g1, g2, g3⟩ := G r _ (J5 r (a + 8) 4) (path ++ [(J5 r a 2 : Int)]) 0 true key hsame hno (by simp) (by simp; omega) (v4 _ _) hs (by omega) hf (by omega) (by simp; omega) hk l nx _ h2
   rw [show (path.length : Int) + 1 = ((path ++ [(J5 r a 2 : Int)]).length : Int) by simp, g1, Jd]
   refine ⟨_, _, _, rfl, g2, fun h => ?_⟩
   obtain ⟨a1, _, a3⟩ := g3 h
   exact ⟨by rw [a1, h13], a3⟩
  ·rw [if_neg h1] at he
   cases he
   rw [if_pos (by omega)]
   exact ⟨rfl, _, _, _, rfl, (Jao hno 1).symm, fun h => absurd h (by decide)⟩
 ·rw [if_neg h13] at he
  by_cases h0 : Qb (J5 r (a + 2) 2 : Int) = 0
  ·rw [if_pos h0] at he
   cases he
   have e1 := hq.s
   have e2 := hq.big
   have r2 : Qy q ((a + 2 : Nat) : Int) 2 = some (J5 r (a + 2) 2 : Int) := by rw [Rat2 q (by rw [e1]; omega) (by rw [e1]; omega), e1, e2]
   have r4 : Qy q ((a + 4 : Nat) : Int) 4 = some (J5 r (a + 4) 4 : Int) := by rw [Rat4 q (by rw [e1]; omega) (by rw [e1]; omega), e1, e2]
   have r8 : Qy q ((a + 8 : Nat) : Int) 4 = some (J5 r (a + 8) 4 : Int) := by rw [Rat4 q (by rw [e1]; omega) (by rw [e1]; omega), e1, e2]
   unfold Xo
   rw [J2 (by omega), Jd, show (a : Int) + 2 = ((a + 2 : Nat) : Int) by omega, r2, Jd, J2 (by omega), Jd, show (a : Int) + 4 = ((a + 4 : Nat) : Int) by omega, r4, Jd, J2 (by omega), Jd, show (a : Int) + 8 = ((a + 8 : Nat) : Int) by omega, r8, Jd, wide_eq, Jd, if_neg h13, cI, if_pos (by omega)]
   exact ⟨rfl, _, _, _, rfl, (Jao hno 10).symm, fun h => absurd h (by decide)⟩
  ·rw [if_neg h0] at he
   cases he
   refine ⟨rfl, ?_⟩
   exact Rval_eq selfQ r q hq hno (path.length : Int) key ha hs (by omega) h13 h0
noncomputable def loopQ (self : SelfQ) (pl deep : Int) (key : List UInt8) (nxt cnt i : Int) (q : T_tintref2_reader) (l : List T_tag_Entry) : Option (List T_tag_Entry × Int × Int × T_tintref2_reader) :=
 Z3 (fun next3 s => Q6 self next3 s.1 s.2.1 s.2.2.1 s.2.2.2.1 s.2.2.2.2.1 s.2.2.2.2.2.1 s.2.2.2.2.2.2.1 s.2.2.2.2.2.2.2.1 s.2.2.2.2.2.2.2.2.1 s.2.2.2.2.2.2.2.2.2.1 s.2.2.2.2.2.2.2.2.2.2.1 s.2.2.2.2.2.2.2.2.2.2.2) (pl, deep, key, nxt, cnt, i, q.s_, q.big_, q.starts_, q.parts_, q.places_, l)
theorem loop_sim {d : Nat} {self : Uc} {selfQ : SelfQ} (H : DirOk d self) (G : SimD d self selfQ) {path : List Int} (hpl : path.length + d + 1 = 6) (hpos : 0 < path.length) (r : T_tag_reader) {pl nxt cnt : Nat} (hs : r.s_.length ≤ 65000) (hcnt : cnt ≤ 200) (hin : pl + 2 + 12 * cnt ≤ r.s_.length) (hp : r.parts_.length + cap (d + 1) ≤ 7999999999999) (hf : r.found_ ≤ 1) (h20 : r.dirs_ ≤ 20)
  (key : List UInt8) (hk : key.length + 100 * (d + 1) ≤ 10000) :
  ∀ (m i : Nat) (rc : T_tag_reader) (q : T_tintref2_reader) (l : List T_tag_Entry), i + m = cnt → l.length = i → Adds r rc (1 + i * (1 + cap d)) ((szD (d + 1) l : Nat) + 12 * m : Int) → rc.no_ = 0 → Same rc q →
   ∀ l' nx r', dirLoop self path pl nxt cnt i rc l = some (l', nx, r') → ∃ l2 nx2 e q', loopQ selfQ (pl : Int) (path.length : Int) key (nxt : Int) (cnt : Int) (i : Int) q l = some (l2, nx2, e, q') ∧ e = r'.no_ ∧ (e = 0 → l2 = l' ∧ nx2 = nx ∧ Same r' q') := by
 intro m
 have hcap : ∀ i, i ≤ 200 → 1 + i * (1 + cap d) ≤ cap (d + 1) := fun i hi => by
  show _ ≤ 1 + 200 * (1 + cap d)
  have := Nat.mul_le_mul_right (1 + cap d) hi; omega
 induction m with
 | zero =>
  intro i rc q l him hl hA hno hq l' nx r' hd
  rw [loop_end _ _ _ _ _ _ _ _ (.inl (by omega))] at hd
  cases hd
  refine ⟨l, (nxt : Int), 0, q, ?_, hno.symm, fun _ => ⟨rfl, rfl, hq⟩⟩
  refine Qq fun next => ?_
  show Q6 selfQ next (pl : Int) (path.length : Int) key (nxt : Int) (cnt : Int) (i : Int) q.s_ q.big_ q.starts_ q.parts_ q.places_ l = _
  unfold Q6 Jak
  rw [cI, if_neg (by omega)]
 | succ m ih =>
  intro i rc q l him hl hA hno hq l' nx r' hd
  have hsl := hA.len
  have e1 := hq.s
  have e2 := hq.big
  have hin' : pl + 2 + 12 * cnt ≤ rc.s_.length := by omega
  have r2 : Qy q ((pl + 2 + 12 * i : Nat) : Int) 2 = some (J5 rc (pl + 2 + 12 * i) 2 : Int) := by rw [Rat2 q (by rw [e1]; omega) (by rw [e1]; omega), e1, e2]
  have hv2 := v2 rc (pl + 2 + 12 * i)
  by_cases hlow : ∃ h : 0 < i, (J5 rc (pl + 2 + 12 * i) 2 : Int) ≤ (l[i - 1]'(by omega)).Tag
  ·obtain ⟨h0, hlow⟩ := hlow
   rw [loop_low _ _ _ _ _ _ _ _ (by omega) hno h0 (by omega) hin' (by omega) hlow] at hd
   cases hd
   refine ⟨[], 0, 5, q, ?_, (Jao hno 5).symm, fun h => absurd h (by decide)⟩
   refine Qq fun next => ?_
   show Q6 selfQ next (pl : Int) (path.length : Int) key (nxt : Int) (cnt : Int) (i : Int) q.s_ q.big_ q.starts_ q.parts_ q.places_ l = _
   unfold Q6
   rw [cI, if_pos (by omega), J2 (by omega), Jd, J2 (by omega), Jd, J2 (by omega), Jd, show (pl : Int) + 2 + 12 * (i : Int) = ((pl + 2 + 12 * i : Nat) : Int) by omega]
   show J3 (Qy q _ _) _ = _
   rw [r2, Jd, cI, if_pos (by omega), J2 (by omega), Jd, show (i : Int) - 1 = ((i - 1 : Nat) : Int) by omega, Xl (by omega), Jd, cI, if_pos hlow]
  ·have hi1 := hcap (i + 1) (by omega)
   rw [Nat.add_mul, Nat.one_mul] at hi1
   have hpr := hA.parts
   have hd20 : rc.dirs_ ≤ 20 := by rw [hA.2.2.1]; exact h20
   have hff : rc.found_ ≤ 1 := by rw [hA.2.2.2.1]; exact hf
   obtain ⟨en, r2', he, hA'⟩ := entR_adds H rc (a := pl + 2 + 12 * i) hpl (by omega) (by omega) hff
   rw [loop_next self path pl nxt cnt i rc l (by omega) hno hl (by omega) hin' (by omega) (fun h hh => hlow ⟨h, hh⟩) (by omega) hff (by omega) he] at hd
   obtain ⟨hit, hil⟩ := itoa_short (n := (J5 rc (pl + 2 + 12 * i) 2 : Int)) (by omega)
   obtain ⟨hT, v, e, q', g1, g2, g3⟩ := ent_sim G rc q (a := pl + 2 + 12 * i) hq hno hpl (by omega) (by omega) (by omega) hff hd20 (key ++ [32] ++ itoaL (J5 rc (pl + 2 + 12 * i) 2 : Int)) (by simp only [List.length_append, List.length_cons, List.length_nil]; omega) hpos he
   have step : ∀ next, Q6 selfQ next (pl : Int) (path.length : Int) key (nxt : Int) (cnt : Int) (i : Int) q.s_ q.big_ q.starts_ q.parts_ q.places_ l =
     if e ≠ 0 then some ([], 0, e, q') else next ((pl : Int), (path.length : Int), key, (nxt : Int), (cnt : Int), ((i + 1 : Nat) : Int), q'.s_, q'.big_, q'.starts_, q'.parts_, q'.places_, l ++ [⟨(J5 rc (pl + 2 + 12 * i) 2 : Int), v⟩]) := by
    intro next
    have hj4 : Ze selfQ (pl : Int) (path.length : Int) key (nxt : Int) (cnt : Int) (i : Int) q.s_ q.big_ q.starts_ q.parts_ q.places_ l next ((pl + 2 + 12 * i : Nat) : Int) (J5 rc (pl + 2 + 12 * i) 2 : Int) =
      if e ≠ 0 then some ([], 0, e, q') else next ((pl : Int), (path.length : Int), key, (nxt : Int), (cnt : Int), ((i + 1 : Nat) : Int), q'.s_, q'.big_, q'.starts_, q'.parts_, q'.places_, l ++ [⟨(J5 rc (pl + 2 + 12 * i) 2 : Int), v⟩]) := by
     unfold Ze
     rw [Uh (by simp; omega), Jd, hit, Jd, Uh (by simp only [List.length_append, List.length_cons, List.length_nil]; omega), Jd]
     show J3 (Xo selfQ q _ _ _) _ = _
     rw [g1, Jd, cI]
     split
     ·rfl
     ·rw [Yf (by rw [hl]; simp; omega), Jd, J2 (by omega), Jd]; rfl
    unfold Q6
    rw [cI, if_pos (by omega), J2 (by omega), Jd, J2 (by omega), Jd, J2 (by omega), Jd, show (pl : Int) + 2 + 12 * (i : Int) = ((pl + 2 + 12 * i : Nat) : Int) by omega]
    show J3 (Qy q _ _) _ = _
    rw [r2, Jd, cI]
    by_cases h0 : 0 < i
    ·rw [if_pos (by omega), J2 (by omega), Jd, show (i : Int) - 1 = ((i - 1 : Nat) : Int) by omega, Xl (by omega), Jd, cI, if_neg (fun h => hlow ⟨h0, h⟩), hj4]
    ·rw [if_neg (by omega), hj4]
   by_cases hz : e = 0
   ·obtain ⟨hv, hsame⟩ := g3 hz
    have hen : (⟨(J5 rc (pl + 2 + 12 * i) 2 : Int), v⟩ : T_tag_Entry) = en := by
     rw [hv, ← hT]
     cases en; rfl
    have hno' : r2'.no_ = 0 := by rw [← g2, hz]
    obtain ⟨l2, nx2, e', q2, k1, k2, k3⟩ := ih (i + 1) r2' q' (l ++ [en]) (by omega) (by simp; omega) ((hA.trans hA').mono (by rw [Nat.add_mul, Nat.one_mul]; omega) (by rw [szD_snoc]; omega)) hno' hsame l' nx r' hd
    refine ⟨l2, nx2, e', q2, ?_, k2, k3⟩
    rw [← k1]
    refine Xi _ fun next => ?_
    show Q6 selfQ next (pl : Int) (path.length : Int) key (nxt : Int) (cnt : Int) (i : Int) q.s_ q.big_ q.starts_ q.parts_ q.places_ l = _
    rw [step, if_neg (by simp [hz]), hen]
   ·rw [loop_end _ _ _ _ _ _ _ _ (.inr (by rw [← g2]; exact hz))] at hd
    cases hd
    refine ⟨[], 0, e, q', ?_, g2, fun h => absurd h hz⟩
    refine Qq fun next => ?_
    show Q6 selfQ next (pl : Int) (path.length : Int) key (nxt : Int) (cnt : Int) (i : Int) q.s_ q.big_ q.starts_ q.parts_ q.places_ l = _
    rw [step, if_pos hz]
theorem dir_sim {d : Nat} {self : Uc} {selfQ : SelfQ} (H : DirOk d self) (G : SimD d self selfQ) (r : T_tag_reader) (q : T_tintref2_reader) (pl : Nat) (path : List Int) (number : Int) (inner : Bool) (key : List UInt8) (hq : Same r q) (hno : r.no_ = 0) (hpl : path.length + d + 1 = 6) (hpos : 0 < path.length) (hb : pl ≤ 4294967295) (hs : r.s_.length ≤ 65000) (hp : r.parts_.length + cap (d + 1) ≤ 7999999999999) (hf : r.found_ ≤ 1)
  (h20 : 20 ≤ number ↔ 20 < r.dirs_) (hin : inner = decide (1 < path.length)) (hk : key.length + 100 * (d + 1) ≤ 10000) {l : List T_tag_Entry} {nx : Int} {r' : T_tag_reader} (hd : dirR self r pl path = some (l, nx, r')) :
  ∃ l2 nx2 e q', Qx selfQ q (pl : Int) (path.length : Int) number inner key = some (l2, nx2, e, q') ∧ e = r'.no_ ∧ (e = 0 → l2 = l ∧ nx2 = nx ∧ Same r' q') := by
 have e1 := hq.s
 have e2 := hq.big
 have e3 := hq.seen
 unfold dirR at hd
 unfold Qx
 rw [show (2 : Int) = ((2 : Nat) : Int) from rfl, Rin_eq q (by rw [e1]; omega), e1, Jd, show ((2 : Nat) : Int) = 2 from rfl]
 by_cases ht : 8 ≤ pl ∧ pl + 2 ≤ r.s_.length
 rotate_left
 ·rw [if_pos ht] at hd
  cases hd
  rw [decide_eq_false ht, Bool.not_false, Qu]
  exact ⟨_, _, _, _, rfl, (Jao hno 2).symm, fun h => absurd h (by decide)⟩
 rw [if_neg (by simp [ht])] at hd
 rw [decide_eq_true ht, Bool.not_true, Qr, e3]
 by_cases hsn : (mGet r.seen_ (pl : Int)).getD false = true
 ·rw [if_pos hsn] at hd
  cases hd
  rw [hsn, Qu]
  exact ⟨_, _, _, _, rfl, (Jao hno 13).symm, fun h => absurd h (by decide)⟩
 rw [if_neg hsn] at hd
 rw [Bool.not_eq_true _ |>.mp hsn, Qr]
 have hv := v2 r pl
 have r2 : ∀ (st : List (Int × Bool)), Qy ⟨q.s_, q.big_, st, q.parts_, q.places_⟩ (pl : Int) 2 = some (J5 r pl 2 : Int) := fun st => by
  rw [Rat2 _ (by show _ ≤ q.s_.length; rw [e1]; omega) (by show q.s_.length ≤ _; rw [e1]; omega)]
  show some ((valB q.big_ ((q.s_.drop pl).take 2) : Nat) : Int) = _
  rw [e1, e2]
 rw [show Qy (⟨r.s_, q.big_, Z6 r.seen_ (pl : Int) true, q.parts_, q.places_⟩ : T_tintref2_reader) (pl : Int) 2 = some (J5 r pl 2 : Int) by rw [← e1]; exact r2 _, Jd, cI, cI, cI]
 by_cases hl : 20 < r.dirs_ ∨ 5 < path.length ∨ 200 < J5 r pl 2
 ·rw [if_pos hl] at hd
  cases hd
  have hans : ∀ x : T_tintref2_reader, ∃ l2 nx2 e q', (some (([] : List T_tag_Entry), (0 : Int), (4 : Int), x)) = some (l2, nx2, e, q') ∧ e = (fl r 4).no_ ∧ (e = 0 → l2 = [] ∧ nx2 = 0 ∧ Same (fl r 4) q') := fun x => ⟨_, _, _, _, rfl, (Jao hno 4).symm, fun h => absurd h (by decide)⟩
  by_cases h1 : 20 < r.dirs_
  ·rw [if_pos (h20.2 h1)]; exact hans _
  ·rw [if_neg (fun h => h1 (h20.1 h))]
   by_cases h2 : 5 < path.length
   ·rw [if_pos (by omega)]; exact hans _
   ·rw [if_neg (by omega), if_pos (by omega)]; exact hans _
 rw [if_neg hl] at hd
 rw [if_neg (fun h => hl (.inl (h20.1 h))), if_neg (by omega), if_neg (by omega), J2 (by omega), Jd, J2 (by omega), Jd, J2 (by omega), Jd,
  show (2 : Int) + 12 * (J5 r pl 2 : Int) + 4 = ((2 + 12 * J5 r pl 2 + 4 : Nat) : Int) by omega, Rin_eq _ hs, Jd]
 by_cases hb2 : pl + (2 + 12 * J5 r pl 2 + 4) ≤ r.s_.length
 rotate_left
 ·rw [if_pos hb2] at hd
  cases hd
  rw [decide_eq_false (by show ¬ (8 ≤ pl ∧ pl + (2 + 12 * J5 r pl 2 + 4) ≤ r.s_.length); omega), Bool.not_false, Qu]
  exact ⟨_, _, _, _, rfl, (Jao hno 2).symm, fun h => absurd h (by decide)⟩
 rw [if_neg (by omega), if_neg (by simp [hno])] at hd
 rw [decide_eq_true (show 8 ≤ pl ∧ pl + (2 + 12 * J5 r pl 2 + 4) ≤ r.s_.length by omega), Bool.not_true, Qr, J2 (by omega), Jd, Jd, J2 (by omega), Jd, J2 (by omega), Jd,
  Yf (by rw [hq.parts]; simp; omega), Jd, Jd, Jd, J2 (by omega), Jd, show (pl : Int) + 2 + 12 * (J5 r pl 2 : Int) = ((pl + 2 + 12 * J5 r pl 2 : Nat) : Int) by omega,
  show ((pl + 2 + 12 * J5 r pl 2 : Nat) : Int) + 4 = ((pl + (2 + 12 * J5 r pl 2 + 4) : Nat) : Int) by omega]
 have r4 : ∀ (st : List (Int × Bool)) (ps : List T_tag_Span), Qy ⟨r.s_, q.big_, st, ps, q.places_⟩ ((pl + 2 + 12 * J5 r pl 2 : Nat) : Int) 4 = some (J5 r (pl + 2 + 12 * J5 r pl 2) 4 : Int) := fun st ps => by
  rw [Rat4 _ (by show _ ≤ r.s_.length; omega) (by show r.s_.length ≤ _; omega)]
  show some ((valB q.big_ ((r.s_.drop _).take 4) : Nat) : Int) = _
  rw [e2]
 rw [r4, Jd]
 have hpart := Adds.part r ⟨(pl : Int), ((pl + (2 + 12 * J5 r pl 2 + 4) : Nat) : Int)⟩ (Z6 r.seen_ (pl : Int) true) ⟨by simp only; omega, by simp only; omega, by simp only; omega⟩
 generalize hnx : J5 r (pl + 2 + 12 * J5 r pl 2) 4 = nxt at hd ⊢
 by_cases hform : 1 < path.length ∧ nxt ≠ 0
 ·rw [if_pos hform, loop_end _ _ _ _ _ _ _ _ (.inr (fl_no _ (by decide)))] at hd
  cases hd
  rw [hin, decide_eq_true hform.1, Qu, cI, if_pos (by omega)]
  exact ⟨_, _, _, _, rfl, by unfold fl; rw [if_pos hno], fun h => absurd h (by decide)⟩
 ·rw [if_neg hform] at hd
  have hj1 : Yl q (pl : Int) (path.length : Int) key selfQ (J5 r pl 2 : Int) (q.parts_ ++ [⟨(pl : Int), ((pl + (2 + 12 * J5 r pl 2 + 4) : Nat) : Int)⟩]) (nxt : Int) =
    loopQ selfQ (pl : Int) (path.length : Int) key (nxt : Int) (J5 r pl 2 : Int) ((0 : Nat) : Int) ⟨q.s_, q.big_, Z6 q.starts_ (pl : Int) true, q.parts_ ++ [⟨(pl : Int), ((pl + (2 + 12 * J5 r pl 2 + 4) : Nat) : Int)⟩], q.places_⟩ [] := rfl
  have run := loop_sim H G hpl hpos r (pl := pl) (nxt := nxt) (cnt := J5 r pl 2) hs (by omega) (by omega) hp hf (by omega) key hk (J5 r pl 2) 0 _ ⟨q.s_, q.big_, Z6 q.starts_ (pl : Int) true, q.parts_ ++ [⟨(pl : Int), ((pl + (2 + 12 * J5 r pl 2 + 4) : Nat) : Int)⟩], q.places_⟩ [] (by omega) rfl
   (hpart.mono (by omega) (by rw [szD_nil]; simp only; omega)) hno ⟨hq.s, hq.big, by show Z6 q.starts_ _ _ = Z6 r.seen_ _ _; rw [e3], by show q.parts_ ++ _ = hdP :: (r.parts_ ++ _); rw [hq.parts]; rfl⟩ l nx r' hd
  rw [← hj1] at run
  have go : Qp inner (Qp (decide ((nxt : Int) ≠ 0)) (some (([] : List T_tag_Entry), (0 : Int), (1 : Int), (⟨r.s_, q.big_, Z6 r.seen_ (pl : Int) true, q.parts_ ++ [⟨(pl : Int), ((pl + (2 + 12 * J5 r pl 2 + 4) : Nat) : Int)⟩], q.places_⟩ : T_tintref2_reader))) (Yl q (pl : Int) (path.length : Int) key selfQ (J5 r pl 2 : Int) (q.parts_ ++ [⟨(pl : Int), ((pl + (2 + 12 * J5 r pl 2 + 4) : Nat) : Int)⟩]) (nxt : Int)))
    (Yl q (pl : Int) (path.length : Int) key selfQ (J5 r pl 2 : Int) (q.parts_ ++ [⟨(pl : Int), ((pl + (2 + 12 * J5 r pl 2 + 4) : Nat) : Int)⟩]) (nxt : Int)) =
    Yl q (pl : Int) (path.length : Int) key selfQ (J5 r pl 2 : Int) (q.parts_ ++ [⟨(pl : Int), ((pl + (2 + 12 * J5 r pl 2 + 4) : Nat) : Int)⟩]) (nxt : Int) := by
   cases inner with
   | false => rfl
   | true =>
    have h1 : 1 < path.length := of_decide_eq_true hin.symm
    rw [Qu, cI, if_neg (by have := hform; omega)]
  rw [go]
  exact run
theorem dirQ_zero {selfQ : SelfQ} (self : Uc) (r : T_tag_reader) (q : T_tintref2_reader) (pl : Nat) (path : List Int) (number : Int) (inner : Bool) (key : List UInt8) (hq : Same r q) (hno : r.no_ = 0) (hpl : path.length = 6) (hb : pl ≤ 4294967295) (hs : r.s_.length ≤ 65000)
  (h20 : 20 ≤ number ↔ 20 < r.dirs_) {l : List T_tag_Entry} {nx : Int} {r' : T_tag_reader} (hd : dirR self r pl path = some (l, nx, r')) :
  ∃ l2 nx2 e q', Qx selfQ q (pl : Int) (path.length : Int) number inner key = some (l2, nx2, e, q') ∧ e = r'.no_ ∧ (e = 0 → l2 = l ∧ nx2 = nx ∧ Same r' q') := by
 have e1 := hq.s
 have e2 := hq.big
 have e3 := hq.seen
 unfold dirR at hd
 unfold Qx
 rw [show (2 : Int) = ((2 : Nat) : Int) from rfl, Rin_eq q (by rw [e1]; omega), e1, Jd, show ((2 : Nat) : Int) = 2 from rfl]
 by_cases ht : 8 ≤ pl ∧ pl + 2 ≤ r.s_.length
 rotate_left
 ·rw [if_pos ht] at hd
  cases hd
  rw [decide_eq_false ht, Bool.not_false, Qu]
  exact ⟨_, _, _, _, rfl, (Jao hno 2).symm, fun h => absurd h (by decide)⟩
 rw [if_neg (by simp [ht])] at hd
 rw [decide_eq_true ht, Bool.not_true, Qr, e3]
 by_cases hsn : (mGet r.seen_ (pl : Int)).getD false = true
 ·rw [if_pos hsn] at hd
  cases hd
  rw [hsn, Qu]
  exact ⟨_, _, _, _, rfl, (Jao hno 13).symm, fun h => absurd h (by decide)⟩
 rw [if_neg hsn, if_pos (.inr (.inl (by omega)))] at hd
 cases hd
 rw [Bool.not_eq_true _ |>.mp hsn, Qr]
 have r2 : Qy ⟨r.s_, q.big_, Z6 r.seen_ (pl : Int) true, q.parts_, q.places_⟩ (pl : Int) 2 = some (J5 r pl 2 : Int) := by
  rw [Rat2 _ (by show _ ≤ r.s_.length; omega) (by show r.s_.length ≤ _; omega)]
  show some ((valB q.big_ ((r.s_.drop pl).take 2) : Nat) : Int) = _
  rw [e2]
 rw [r2, Jd, cI, cI]
 split
 ·exact ⟨_, _, _, _, rfl, (Jao hno 4).symm, fun h => absurd h (by decide)⟩
 ·rw [if_pos (by omega)]
  exact ⟨_, _, _, _, rfl, (Jao hno 4).symm, fun h => absurd h (by decide)⟩
noncomputable abbrev dirFQ : SelfQ → SelfQ := fun self s => Qx self s.1 s.2.1 s.2.2.1 s.2.2.2.1 s.2.2.2.2.1 s.2.2.2.2.2
theorem it_sim : ∀ (d n m : Nat), d < n → d < m → SimD d (it dirF n) (it dirFQ m) := by
 intro d
 induction d with
 | zero =>
  intro n m hn hm r q pl path number inner key hq hno hp0 h6 hpl hs hp hf h20 hin hk l nx r' hd
  obtain ⟨n, rfl⟩ : ∃ k, n = k + 1 := ⟨n - 1, by omega⟩
  obtain ⟨m, rfl⟩ : ∃ k, m = k + 1 := ⟨m - 1, by omega⟩
  have hd : Qh (it dirF n) r (pl : Int) path = some (l, nx, r') := hd
  rw [dir_step _ r hpl hs (by omega)] at hd
  exact dirQ_zero _ r q pl path number inner key hq hno (by omega) hpl hs h20 hd
 | succ d ih =>
  intro n m hn hm r q pl path number inner key hq hno hp0 h6 hpl hs hp hf h20 hin hk l nx r' hd
  obtain ⟨n, rfl⟩ : ∃ k, n = k + 1 := ⟨n - 1, by omega⟩
  obtain ⟨m, rfl⟩ : ∃ k, m = k + 1 := ⟨m - 1, by omega⟩
  have hd : Qh (it dirF n) r (pl : Int) path = some (l, nx, r') := hd
  rw [dir_step _ r hpl hs (by omega)] at hd
  exact dir_sim (it_ok d n (by omega)) (ih n m (by omega) (by omega)) r q pl path number inner key hq hno (by omega) hp0 hpl hs hp hf h20 hin hk hd
theorem fix_cong {α ρ : Type} {F G : (α → Option ρ) → α → Option ρ} (I : α → Prop) (h : ∀ next next' a, I a → (∀ b, I b → next b = next' b) → F next a = G next' a) (a : α) (ha : I a) : Z3 F a = Z3 G a := by
 have key : ∀ n a, I a → it F n a = it G n a := by
  intro n
  induction n with
  | zero => intro a _; rfl
  | succ n ih => intro a ha; exact h _ _ a ha fun b hb => ih b hb
 by_cases hb : ∃ r k, ∀ n, k ≤ n → it F n a = some r
 ·obtain ⟨r, k, hk⟩ := hb
  rw [fix_ev (o := some r) (k := k) hk, fix_ev (o := some r) (k := k) fun n hn => by rw [← key n a ha]; exact hk n hn]
 ·have hg : ¬ ∃ r k, ∀ n, k ≤ n → it G n a = some r := by
   rintro ⟨r, k, hk⟩
   exact hb ⟨r, k, fun n hn => by rw [key n a ha]; exact hk n hn⟩
  unfold Z3
  rw [dif_neg hb, dif_neg hg]
theorem valueQ_congr {self self' : SelfQ} {deep : Int} (h : ∀ q f key, self (q, f, deep + 1, 0, true, key) = self' (q, f, deep + 1, 0, true, key)) (q : T_tintref2_reader) (a : Int) (key : List UInt8) : Xo self q a deep key = Xo self' q a deep key := by
 unfold Xo
 refine Xu fun _ _ => Xu fun _ _ => Xu fun _ _ => Xu fun _ _ => Xu fun _ _ => Xu fun _ _ => Xu fun _ _ => Uo (fun _ => rfl) fun _ => Uo (fun _ => Uo (fun _ => rfl) fun _ => Xu fun t ht => ?_) fun _ => rfl
 obtain ⟨rfl, _⟩ := gI_some ht
 rw [h]
theorem dirQ_congr {self self' : SelfQ} {deep : Int} (h : ∀ q f key, self (q, f, deep + 1, 0, true, key) = self' (q, f, deep + 1, 0, true, key)) (q : T_tintref2_reader) (pl : Int) (number : Int) (inner : Bool) (key : List UInt8) :
  Qx self q pl deep number inner key = Qx self' q pl deep number inner key := by
 have hv := valueQ_congr h
 have hj : ∀ a0 a1 a5 t36 l69 t78, Yl a0 a1 deep a5 self t36 l69 t78 = Yl a0 a1 deep a5 self' t36 l69 t78 := by
  intro a0 a1 a5 t36 l69 t78
  unfold Yl
  refine fix_cong (fun s => s.2.1 = deep) (fun next next' s hs hn => ?_) _ rfl
  obtain ⟨x1, x2, x3, x4, x5, x6, x7, x8, x9, x10, x11, x12⟩ := s
  have hs : x2 = deep := hs
  subst hs
  show Q6 self next x1 x2 x3 x4 x5 x6 x7 x8 x9 x10 x11 x12 = Q6 self' next' x1 x2 x3 x4 x5 x6 x7 x8 x9 x10 x11 x12
  have h4 : ∀ a b, Ze self x1 x2 x3 x4 x5 x6 x7 x8 x9 x10 x11 x12 next a b = Ze self' x1 x2 x3 x4 x5 x6 x7 x8 x9 x10 x11 x12 next' a b := by
   intro a b
   unfold Ze
   simp only [hv]
   exact Xu fun _ _ => Xu fun _ _ => Xu fun _ _ => Xu fun _ _ => Uo (fun _ => rfl) fun _ => Xu fun _ _ => Xu fun _ _ => hn _ rfl
  unfold Q6
  simp only [h4]
 unfold Qx
 simp only [hj]
theorem deepQ_congr {self self' : SelfQ} {deep : Int} (h : 5 < deep) (q : T_tintref2_reader) (pl : Int) (number : Int) (inner : Bool) (key : List UInt8) : Qx self q pl deep number inner key = Qx self' q pl deep number inner key := by
 unfold Qx
 refine Xu fun t _ => Uo (fun _ => rfl) fun _ => Uo (fun _ => rfl) fun _ => Xu fun c _ => Uo (fun _ => rfl) fun _ => ?_
 rw [cI, if_pos h, cI, if_pos h]
theorem it_sameQ : ∀ (d n m : Nat), d < n → d < m → ∀ (q : T_tintref2_reader) (pl deep number : Int) (inner : Bool) (key : List UInt8), deep + d = 6 → it dirFQ n (q, pl, deep, number, inner, key) = it dirFQ m (q, pl, deep, number, inner, key) := by
 intro d
 induction d with
 | zero =>
  intro n m hn hm q pl deep number inner key h6
  obtain ⟨n, rfl⟩ : ∃ k, n = k + 1 := ⟨n - 1, by omega⟩
  obtain ⟨m, rfl⟩ : ∃ k, m = k + 1 := ⟨m - 1, by omega⟩
  exact deepQ_congr (show 5 < deep by omega) q pl number inner key
 | succ d ih =>
  intro n m hn hm q pl deep number inner key h6
  obtain ⟨n, rfl⟩ : ∃ k, n = k + 1 := ⟨n - 1, by omega⟩
  obtain ⟨m, rfl⟩ : ∃ k, m = k + 1 := ⟨m - 1, by omega⟩
  exact dirQ_congr (fun q f key => ih n m (by omega) (by omega) q f (deep + 1) 0 true key (by omega)) q pl number inner key
theorem dirQ_it (q : T_tintref2_reader) (pl number : Int) (inner : Bool) (key : List UInt8) : Jab q pl 1 number inner key = it dirFQ 6 (q, pl, 1, number, inner, key) := by
 unfold Jab
 exact fix_ev (k := 6) fun n hn => it_sameQ 5 n 6 (by omega) (by omega) q pl 1 number inner key (by omega)
theorem top_sim (r : T_tag_reader) (q : T_tintref2_reader) (pl : Nat) (path : List Int) (h1 : path.length = 1) (number : Int) (key : List UInt8) (hq : Same r q) (hno : r.no_ = 0) (hb : pl ≤ 4294967295) (hs : r.s_.length ≤ 65000) (hp : r.parts_.length + cap 5 ≤ 7999999999999) (hf : r.found_ ≤ 1)
  (h20 : 20 ≤ number ↔ 20 < r.dirs_) (hk : key.length ≤ 5) {l : List T_tag_Entry} {nx : Int} {r' : T_tag_reader} (hd : V8 r (pl : Int) path = some (l, nx, r')) :
  ∃ l2 nx2 e q', Jab q (pl : Int) 1 number false key = some (l2, nx2, e, q') ∧ e = r'.no_ ∧ (e = 0 → l2 = l ∧ nx2 = nx ∧ Same r' q') := by
 rw [dir_it _ _ _ h1] at hd
 rw [dirQ_it]
 have := it_sim 5 6 6 (by omega) (by omega) r q pl path number false key hq hno (by omega) (by omega) hb hs hp hf h20 (by rw [h1]; rfl) (by omega) l nx r' hd
 rw [h1] at this
 exact this
end Go.M

/- The reference reads octets, beside the program, in plain Lean: parts in order, the whole file. Conditions: none. -/
namespace Go.M
open Go.Md Go.Pl
set_option linter.unusedVariables false
abbrev fromLe (x y : T_tag_Span) : Prop := x.From ≤ y.From
def apartP (x y : T_tag_Span) : Prop := x.To ≤ y.From ∨ y.To ≤ x.From
theorem apartP.symm {x y : T_tag_Span} (h : apartP x y) : apartP y x := h.elim .inr .inl
theorem lap_pair {l : List T_tag_Span} (hs : l.Pairwise fromLe) (hne : ∀ x ∈ l, x.From < x.To) : ¬ lapP l ↔ l.Pairwise apartP := by
 rw [List.pairwise_iff_getElem] at hs ⊢
 constructor
 ·intro h i j hi hj hij
  refine .inl ?_
  have h1 : ¬ (l[i + 1]'(by omega)).From < l[i].To := fun hh => h ⟨i, by omega, hh⟩
  rcases Nat.lt_or_ge (i + 1) j with h2 | h2
  ·have := hs (i + 1) j (by omega) hj h2
   unfold fromLe at this; omega
  ·have : j = i + 1 := by omega
   subst this; omega
 ·rintro h ⟨i, hi, hlt⟩
  have a1 := hs i (i + 1) (by omega) hi (by omega)
  have a2 := hne _ (List.getElem_mem (show i < l.length by omega))
  have a3 := hne _ (List.getElem_mem hi)
  unfold fromLe at a1
  rcases h i (i + 1) (by omega) hi (by omega) with h | h <;> omega
theorem lap_perm {a b : List T_tag_Span} (p : a.Perm b) (ha : a.Pairwise fromLe) (hb : b.Pairwise fromLe) (hne : ∀ x ∈ a, x.From < x.To) : lapP a ↔ lapP b := by
 have h1 := lap_pair ha hne
 have h2 := lap_pair hb (fun x hx => hne x (p.mem_iff.2 hx))
 have h3 := p.pairwise_iff (R := apartP) (fun h => h.symm)
 have h4 : ¬ lapP a ↔ ¬ lapP b := by rw [h1, h2, h3]
 exact ⟨fun h => Classical.byContradiction fun hb => h4.2 hb h, fun h => Classical.byContradiction fun ha => h4.1 ha h⟩
theorem pw_ne {P : T_tag_Span → T_tag_Span → Prop} : ∀ {l : List T_tag_Span}, l.Pairwise P → ∀ {x y}, x ∈ l → y ∈ l → x ≠ y → P x y ∨ P y x
 | [], _, x, y, hx, _, _ => by simp at hx
 | z :: l, h, x, y, hx, hy, hne => by
  obtain ⟨h1, h2⟩ := List.pairwise_cons.1 h
  rcases List.mem_cons.1 hx with ex | ex <;> rcases List.mem_cons.1 hy with ey | ey
  ·exact absurd (ex.trans ey.symm) hne
  ·subst ex; exact .inl (h1 y ey)
  ·subst ey; exact .inr (h1 x ex)
  ·exact pw_ne h2 ex ey hne
theorem sorts_same {a b : List T_tag_Span} (p : a.Perm b) (ha : a.Pairwise fromLe) (hb : b.Pairwise fromLe) (hne : ∀ x ∈ a, x.From < x.To) (hl : ¬ lapP a) : a = b := by
 have hp := (lap_pair ha hne).1 hl
 refine List.Perm.eq_of_pairwise (le := fromLe) (fun x y hx hy h1 h2 => ?_) ha hb p
 refine Classical.byContradiction fun hxy => ?_
 have hy' := p.mem_iff.2 hy
 have n1 := hne x hx
 have n2 := hne y hy'
 unfold fromLe at h1 h2
 rcases pw_ne hp hx hy' hxy with h | h <;> rcases h with h | h <;> omega
theorem froms_eq (x y : T_tag_Span) : Za x y = some (cmpI x.From y.From) := by
 unfold Za
 rw [compare_eq, Jd]
theorem froms_le (x y : T_tag_Span) : (Za x y).getD 0 ≤ 0 ↔ x.From ≤ y.From := by
 rw [froms_eq, Option.getD_some]; unfold cmpI
 (repeat' split) <;> omega
theorem froms_pre : CmpPre Za where
 tot x y := ⟨_, froms_eq x y⟩
 flip x y := by
  rw [froms_eq, froms_eq, Option.getD_some, Option.getD_some]; unfold cmpI
  (repeat' split) <;> omega
 trans x y z := by
  rw [froms_le, froms_le, froms_le]; omega
theorem order_of {n : Nat} {l d : List T_tag_Span} (hok : ∀ x ∈ l, okS n x) (h : SortOf Za (hdP :: l) d) : ∃ d', d = hdP :: d' ∧ d'.Perm l ∧ d'.Pairwise fromLe := by
 have hs : d.Pairwise fromLe := h.sorted.imp fun {x y} hxy => by
  unfold leC at hxy
  exact (froms_le x y).1 (of_decide_eq_true hxy)
 have hm : hdP ∈ d := h.perm.mem_iff.2 (by simp)
 cases d with
 | nil => simp at hm
 | cons z t =>
  have hz : z = hdP := by
   have hzm : z ∈ hdP :: l := h.perm.mem_iff.1 (by simp)
   rcases List.mem_cons.1 hzm with e | e
   ·exact e
   ·have h8 := (hok z e).1
    rcases List.mem_cons.1 hm with e2 | e2
    ·exact e2.symm
    ·have := (List.pairwise_cons.1 hs).1 hdP e2
     unfold fromLe hdP at this
     simp only at this; omega
  subst hz
  exact ⟨t, rfl, (List.perm_cons _).1 h.perm, (List.pairwise_cons.1 hs).2⟩
theorem lap_head {n : Nat} {t : List T_tag_Span} (hok : ∀ x ∈ t, okS n x) : lapP (hdP :: t) ↔ lapP t := by
 constructor
 ·rintro ⟨i, hi, hlt⟩
  cases i with
  | zero =>
   have := (hok _ (List.getElem_mem (show 0 < t.length by simpa using hi))).1
   simp only [List.getElem_cons_succ, List.getElem_cons_zero] at hlt
   unfold hdP at hlt
   simp only at hlt; omega
  | succ i => exact ⟨i, by simpa using hi, by simpa using hlt⟩
 ·rintro ⟨i, hi, hlt⟩
  exact ⟨i + 1, by simpa using hi, by simpa using hlt⟩
abbrev AllR := T_tag_File × Int × T_tintref2_reader
open Classical in
theorem laps_loop {ρ : Type} (κ : AllR → Option ρ) (t : Int) (m : List UInt8) (m2 : Bool) (mp : List (Int × Bool)) (mp2 : List (List UInt8 × T_tintref2_place)) (ls : List (List T_tag_Entry)) (d : List T_tag_Span) (hl : d.length ≤ 1099511627776000) :
  Z3 (fun next4 s => Ym κ t m m2 mp mp2 ls d next4 s) 1 = if lapP d then κ (⟨false, []⟩, 6, ⟨m, m2, mp, d, mp2⟩) else Zz κ t m m2 mp mp2 ls d := by
 have key : ∀ k i : Nat, i + k = d.length → 1 ≤ i → Z3 (fun next4 s => Ym κ t m m2 mp mp2 ls d next4 s) (i : Int) = if (∃ j : Nat, i ≤ j + 1 ∧ ∃ h : j + 1 < d.length, (d[j + 1]'h).From < (d[j]'(by omega)).To) then κ (⟨false, []⟩, 6, ⟨m, m2, mp, d, mp2⟩) else Zz κ t m m2 mp mp2 ls d := by
  intro k
  induction k with
  | zero =>
   intro i hi h1
   rw [if_neg (by rintro ⟨j, h2, h3, _⟩; omega)]
   refine Qq fun next => ?_
   unfold Ym
   rw [cI, if_neg (by omega)]
  | succ k ih =>
   intro i hi h1
   have hh : ∀ next : Int → Option ρ, Ym κ t m m2 mp mp2 ls d next (i : Int) = if (d[i]'(by omega)).From < (d[i - 1]'(by omega)).To then κ (⟨false, []⟩, 6, ⟨m, m2, mp, d, mp2⟩) else next ((i + 1 : Nat) : Int) := by
    intro next
    unfold Ym
    rw [cI, if_pos (by omega), Xl (by omega), Jd, J2 (by omega), Jd, show (i : Int) - 1 = ((i - 1 : Nat) : Int) by omega, Xl (by omega), Jd, cI]
    split
    ·rfl
    ·rw [J2 (by omega), Jd]; rfl
   by_cases hlap : (d[i]'(by omega)).From < (d[i - 1]'(by omega)).To
   ·rw [Qq (o := κ (⟨false, []⟩, 6, ⟨m, m2, mp, d, mp2⟩)) fun next => by rw [hh, if_pos hlap], if_pos]
    obtain ⟨k, rfl⟩ : ∃ k, i = k + 1 := ⟨i - 1, by omega⟩
    exact ⟨k, by omega, by omega, hlap⟩
   ·rw [Xi (((i + 1 : Nat) : Int)) fun next => by rw [hh, if_neg hlap], ih (i + 1) (by omega) (by omega)]
    congr 1
    rw [eq_iff_iff]
    constructor
    ·rintro ⟨j, h2, h3⟩; exact ⟨j, by omega, h3⟩
    ·rintro ⟨j, h2, h3, h4⟩
     rcases Nat.lt_or_ge i (j + 1) with h5 | h5
     ·exact ⟨j, by omega, h3, h4⟩
     ·exfalso
      have : i = j + 1 := by omega
      subst this
      exact hlap h4
 rcases Nat.lt_or_ge d.length 1 with h0 | h0
 ·rw [if_neg (by rintro ⟨j, h3, _⟩; omega)]
  refine Qq fun next => ?_
  unfold Ym
  rw [cI, if_neg (by omega)]
 ·rw [show (1 : Int) = ((1 : Nat) : Int) from rfl, key (d.length - 1) 1 (by omega) (by omega)]
  congr 1
  rw [eq_iff_iff]
  constructor
  ·rintro ⟨j, _, h3⟩; exact ⟨j, h3⟩
  ·rintro ⟨j, h3⟩; exact ⟨j, by omega, h3⟩
def Goes (X : (ρ : Type) → (AllR → Option ρ) → Option ρ) (f : T_tag_File) (ps : List T_tag_Span) (e : Int) : Prop :=
 (e = 0 ∧ fileB f ∧ fileE f = 0 ∧ ∀ (ρ : Type) (κ : AllR → Option ρ) (o : ρ), (∀ q, q.parts_ = hdP :: ps → κ (f, 0, q) = some o) → X ρ κ = some o) ∨
 (e ≠ 0 ∧ f = ⟨false, []⟩ ∧ ps = [] ∧ ∀ (ρ : Type) (κ : AllR → Option ρ) (o : ρ), (∀ q, κ (⟨false, []⟩, e, q) = some o) → X ρ κ = some o)
theorem Goes.of_eq {X Y : (ρ : Type) → (AllR → Option ρ) → Option ρ} {f : T_tag_File} {ps : List T_tag_Span} {e : Int} (h : Goes Y f ps e) (hxy : ∀ ρ κ, X ρ κ = Y ρ κ) : Goes X f ps e := by
 have : X = Y := by funext ρ κ; exact hxy ρ κ
 rw [this]; exact h
open Classical in
theorem end_sim (t : Int) (r : T_tag_reader) (q : T_tintref2_reader) (ls : List (List T_tag_Entry)) (hq : Same r q) (hno : r.no_ = 0) (hs : 8 ≤ r.s_.length ∧ r.s_.length ≤ 65000) (hp : r.parts_.length ≤ 8000000000000) (hok : ∀ x ∈ r.parts_, okS r.s_.length x) (hsz : (((ls.map (szD 5)).sum : Nat) : Int) ≤ lenS r.parts_) (hl : ls.length ≤ 1000)
  {f : T_tag_File} {ps : List T_tag_Span} {e : Int} (h : Vz t r.s_ r.big_ r.dirs_ r.found_ r.no_ r.parts_ ls r.seen_ = some (f, ps, e)) :
  Goes (fun ρ κ => Wn κ t q.s_ q.big_ q.starts_ q.places_ q.parts_ ls) f ps e := by
 unfold Vz at h
 have hperm := List.mergeSort_perm r.parts_ (leC Qm)
 have hS : gSortF r.parts_ Qm = some (r.parts_.mergeSort (leC Qm)) := if_pos ⟨by omega, spans_ok⟩
 have hsort : (r.parts_.mergeSort (leC Qm)).Pairwise fromLe := (List.pairwise_mergeSort (le := leC Qm) spans_ok.letrans spans_ok.total r.parts_).imp fun {x y} hxy => by
  unfold leC at hxy
  have := (spans_le x y).1 (of_decide_eq_true hxy)
  unfold fromLe; omega
 rw [hS, Jd, cI] at h
 generalize r.parts_.mergeSort (leC Qm) = ps' at hperm hsort h
 have hlen : lenS ps' = lenS r.parts_ := lenS_perm hperm
 have hne : ∀ x ∈ ps', x.From < x.To := fun x hx => (hok x (hperm.mem_iff.1 hx)).2.1
 have hfail : ∀ e : Int, e ≠ 0 → Vg t ls ps' e = some (⟨false, []⟩, [], e) := fun e he => by unfold Vg; rw [cI, if_pos he]
 have way : ∀ (ρ : Type) (κ : AllR → Option ρ) (o : ρ), (∀ d', d'.Perm r.parts_ → d'.Pairwise fromLe → (if lapP d' then κ (⟨false, []⟩, 6, ⟨q.s_, q.big_, q.starts_, hdP :: d', q.places_⟩) else Zz κ t q.s_ q.big_ q.starts_ q.places_ ls (hdP :: d')) = some o) →
   Wn κ t q.s_ q.big_ q.starts_ q.places_ q.parts_ ls = some o := by
  intro ρ κ o hd
  unfold Wn
  rw [hq.parts]
  refine gSortA_ok (by simp; omega) froms_pre fun d hsd => ?_
  obtain ⟨d', rfl, h1, h2⟩ := order_of hok hsd
  rw [laps_loop _ _ _ _ _ _ _ _ (by rw [List.length_cons, h1.length_eq]; omega)]
  rw [← hd d' h1 h2]
  congr 1
  exact propext (lap_head fun x hx => hok x (h1.mem_iff.1 hx))
 rw [if_pos hno, overlap_eq _ (by rw [hperm.length_eq]; omega), Jd, cI] at h
 have hsame : ∀ d', d'.Perm r.parts_ → d'.Pairwise fromLe → (lapP d' ↔ lapP ps') := fun d' h1 h2 => (lap_perm (hperm.trans h1.symm) hsort h2 hne).symm
 by_cases hlap : lapP ps'
 ·rw [if_pos hlap] at h
  unfold Vh at h
  rw [cI, if_neg (by decide), hfail 6 (by decide)] at h
  cases h
  refine .inr ⟨by decide, rfl, rfl, fun ρ κ o ho => way ρ κ o fun d' h1 h2 => ?_⟩
  rw [if_pos ((hsame d' h1 h2).2 hlap)]
  exact ho _
 ·rw [if_neg hlap] at h
  have hsep : sepS r.s_.length 8 ps' := by
   refine sep_of (fun x hx => hok x (hperm.mem_iff.1 hx)) hlap (fun x hx => ?_) (by omega)
   exact (hok x (hperm.mem_iff.1 (List.mem_of_mem_head? hx))).1
  have hsum := (sepS_end hsep).2.2
  have hB : fileB (⟨decide (t = 77), ls⟩ : T_tag_File) := fileB_of (by show ls.length ≤ _; omega) (by show (ls.map (szD 5)).sum ≤ _; omega)
  have hd' : ∀ d', d'.Perm r.parts_ → d'.Pairwise fromLe → d' = ps' := fun d' h1 h2 => (sorts_same (hperm.trans h1.symm) hsort h2 hne hlap).symm
  unfold Vh at h
  rw [cI, if_pos hno, Check_eq hB, Jd] at h
  by_cases he : fileE (⟨decide (t = 77), ls⟩ : T_tag_File) = 0
  ·unfold Vg at h
   rw [cI, if_neg (by simp [he])] at h
   cases h
   refine .inl ⟨rfl, hB, he, fun ρ κ o ho => way ρ κ o fun d' h1 h2 => ?_⟩
   rw [hd' d' h1 h2, if_neg hlap]
   unfold Zz
   rw [FileFault_eq hB, Jd, cI, if_neg (by simp [he])]
   exact ho _ rfl
  ·rw [hfail _ he] at h
   cases h
   refine .inr ⟨he, rfl, rfl, fun ρ κ o ho => way ρ κ o fun d' h1 h2 => ?_⟩
   rw [hd' d' h1 h2, if_neg hlap]
   unfold Zz
   rw [FileFault_eq hB, Jd, cI, if_pos he]
   exact ho _
noncomputable def rdLoopQ (ρ : Type) (κ : AllR → Option ρ) (t : Int) (nx : Int) (q : T_tintref2_reader) (ls : List (List T_tag_Entry)) : Option ρ :=
 Z3 (fun next5 s => X8 κ t next5 s.1 s.2.1 s.2.2.1 s.2.2.2.1 s.2.2.2.2.1 s.2.2.2.2.2.1 s.2.2.2.2.2.2) (nx, q.s_, q.big_, q.starts_, q.places_, q.parts_, ls)
theorem rd_sim (t : Int) : ∀ (m D nx : Nat) (r : T_tag_reader) (q : T_tintref2_reader) (ls : List (List T_tag_Entry)), D + m = 21 → nx ≤ 4294967295 → r.dirs_ = D → ls.length = D → D ≤ 20 → (8 ≤ r.s_.length ∧ r.s_.length ≤ 65000) → r.parts_.length ≤ D * 323216080401 → (∀ x ∈ r.parts_, okS r.s_.length x) → (((ls.map (szD 5)).sum : Nat) : Int) ≤ lenS r.parts_ → r.found_ ≤ 1 → Same r q → r.no_ = 0 →
  ∀ f ps e, rdLoop t nx r ls = some (f, ps, e) → Goes (fun ρ κ => rdLoopQ ρ κ t (nx : Int) q ls) f ps e := by
 have hcap : cap 5 = 323216080401 := by rfl
 intro m
 induction m with
 | zero => intro D nx r q ls hD _ _ _ h20; omega
 | succ m ih =>
  intro D nx r q ls hD hnx hd hl h20 hs hp hok hsz hf hq hno f ps e h
  by_cases h0 : nx = 0
  ·rw [rd_end _ _ _ _ (.inl h0)] at h
   refine (end_sim t r q ls hq hno hs (by omega) hok hsz (by omega) h).of_eq fun ρ κ => ?_
   refine Qq fun next => ?_
   show X8 κ t next (nx : Int) q.s_ q.big_ q.starts_ q.places_ q.parts_ ls = _
   unfold X8
   rw [cI, if_neg (by simp [h0])]
  ·obtain ⟨l, nx', r', h1, h2, h3, h4⟩ := dir_ok ⟨r.s_, r.big_, r.parts_, r.seen_, r.dirs_ + 1, r.found_, r.no_⟩ nx [(ls.length : Int)] rfl hnx hs.2 (by show r.parts_.length + cap 5 ≤ _; rw [hcap]; omega) hf
   rw [rd_next t nx r ls h0 hno (by omega) (by omega) h1] at h
   obtain ⟨hit, hil⟩ := itoa_short (n := (ls.length : Int)) (by omega)
   obtain ⟨l2, nx2, e', q', g1, g2, g3⟩ := top_sim ⟨r.s_, r.big_, r.parts_, r.seen_, r.dirs_ + 1, r.found_, r.no_⟩ q nx [(ls.length : Int)] rfl (ls.length : Int) (itoaL (ls.length : Int)) ⟨hq.s, hq.big, hq.seen, hq.parts⟩ hno hnx hs.2 (by show r.parts_.length + cap 5 ≤ _; rw [hcap]; omega) hf (by show _ ↔ 20 < r.dirs_ + 1; omega) hil h1
   have step : ∀ (ρ : Type) (κ : AllR → Option ρ) next, X8 κ t next (nx : Int) q.s_ q.big_ q.starts_ q.places_ q.parts_ ls = if e' ≠ 0 then κ (⟨false, []⟩, e', q') else next (nx2, q'.s_, q'.big_, q'.starts_, q'.places_, q'.parts_, ls ++ [l2]) := by
    intro ρ κ next
    unfold X8
    rw [cI, if_pos (by simpa using h0), hit, Jd]
    show J3 (Jab q _ _ _ _ _) _ = _
    rw [g1, Jd, cI]
    split
    ·rfl
    ·rw [Yf (by simp; omega), Jd]
   by_cases hz : e' = 0
   ·obtain ⟨rfl, rfl, hsame⟩ := g3 hz
    have hlen' := h3.len
    have hsl : r'.s_.length = r.s_.length := hlen'
    have hpa := h3.parts
    rw [hcap] at hpa
    have hpa' : r'.parts_.length ≤ r.parts_.length + 323216080401 := hpa
    obtain ⟨k1, k2, k3, k4, new, k5, k6, k7, k8⟩ := h3
    have k5' : r'.parts_ = r.parts_ ++ new := k5
    have hno' : r'.no_ = 0 := by rw [← g2, hz]
    have h20' : D + 1 ≤ 20 := by
     refine Classical.byContradiction fun hh => ?_
     exact h4 (by show 20 < r.dirs_ + 1; omega) hno'
    have := ih (D + 1) nx' r' q' (ls ++ [l2]) (by omega) h2 (by have : r'.dirs_ = r.dirs_ + 1 := k3; omega) (by simp; omega) h20' (by omega) (by omega) (by
     intro x hx
     rw [k5'] at hx
     rw [hsl]
     rcases List.mem_append.1 hx with hx | hx
     ·exact hok x hx
     ·exact k6 x hx) (by
     rw [k5', lenS_app, List.map_append, List.sum_append]
     simp only [List.map_cons, List.map_nil, List.sum_cons, List.sum_nil]
     omega) (by have : r'.found_ = r.found_ := k4; omega) hsame hno' f ps e h
    refine this.of_eq fun ρ κ => ?_
    refine Xi _ fun next => ?_
    show X8 κ t next (nx : Int) q.s_ q.big_ q.starts_ q.places_ q.parts_ ls = _
    rw [step, if_neg (by simp [hz])]
   ·have hno' : r'.no_ ≠ 0 := by rw [← g2]; exact hz
    have hX : ∀ (ρ : Type) (κ : AllR → Option ρ), rdLoopQ ρ κ t (nx : Int) q ls = κ (⟨false, []⟩, e', q') := fun ρ κ => by
     refine Qq fun next => ?_
     show X8 κ t next (nx : Int) q.s_ q.big_ q.starts_ q.places_ q.parts_ ls = _
     rw [step, if_pos hz]
    rw [rd_end _ _ _ _ (.inr hno')] at h
    have hpa := h3.parts
    rw [hcap] at hpa
    have hpa' : r'.parts_.length ≤ r.parts_.length + 323216080401 := hpa
    unfold Vz at h
    rw [show gSortF r'.parts_ Qm = some (r'.parts_.mergeSort (leC Qm)) from if_pos ⟨by omega, spans_ok⟩, Jd, cI, if_neg hno'] at h
    unfold Vh Vg at h
    rw [cI, if_neg hno', cI, if_pos hno'] at h
    cases h
    refine .inr ⟨hno', rfl, rfl, fun ρ κ o ho => ?_⟩
    show rdLoopQ ρ κ t (nx : Int) q ls = _
    rw [hX, g2]; exact ho q'
theorem all_sim (s : List UInt8) {fd : Nat} (hfd : fd ≤ 1) {f : T_tag_File} {ps : List T_tag_Span} {e : Int} (h : Jai s fd = some (f, ps, e)) (pl : List (List UInt8 × T_tintref2_place)) : Goes (fun ρ κ => Yx (Rq := ρ) ⟨s, false, [], [], pl⟩ κ) f ps e := by
 unfold Jai at h
 rw [cI] at h
 by_cases hl : (65000 : Int) < s.length
 ·rw [if_pos hl] at h
  cases h
  refine .inr ⟨by decide, rfl, rfl, fun ρ κ o ho => ?_⟩
  show Yx _ κ = _
  unfold Yx
  rw [cI, if_pos hl]
  exact ho _
 rw [if_neg hl] at h
 have hbad : ∀ (ρ : Type) (κ : AllR → Option ρ), Uz s = some false → ∃ q, Yx ⟨s, false, [], [], pl⟩ κ = κ (⟨false, []⟩, 8, q) := by
  intro ρ κ hb
  unfold Uz at hb
  unfold Yx
  dsimp only
  rw [cI] at hb
  rw [cI, if_neg hl, cI]
  by_cases h8 : (s.length : Int) < 8
  ·rw [if_pos h8]; exact ⟨_, rfl⟩
  ·rw [if_neg h8] at hb ⊢
   rw [gCut_to (by omega), Jd, cI] at hb ⊢
   split at hb
   ·cases hb
   ·rename_i h1
    rw [if_pos h1, Jd, cI]
    rw [Jd] at hb
    have h2 := of_decide_eq_false (Option.some.inj hb)
    rw [if_pos h2]
    exact ⟨_, rfl⟩
 have hgood : ∀ (ρ : Type) (κ : AllR → Option ρ), Uz s = some true → Yx ⟨s, false, [], [], pl⟩ κ = Wk ⟨s, false, [], [], pl⟩ κ := by
  intro ρ κ hb
  unfold Uz at hb
  unfold Yx
  dsimp only
  rw [cI] at hb
  rw [cI, if_neg hl, cI]
  by_cases h8 : (s.length : Int) < 8
  ·rw [if_pos h8] at hb; cases hb
  ·rw [if_neg h8] at hb ⊢
   rw [gCut_to (by omega), Jd, cI] at hb ⊢
   split at hb
   ·rename_i h1
    rw [if_neg (fun h => h h1)]
   ·rename_i h1
    rw [if_pos h1, Jd, cI]
    rw [Jd] at hb
    have h2 := of_decide_eq_true (Option.some.inj hb)
    rw [if_neg (fun h => h h2)]
 obtain ⟨b, hb, hb8⟩ := begins_eq s
 rw [hb, Jd] at h
 cases b with
 | false =>
  rw [Bool.not_false, Qu] at h
  cases h
  refine .inr ⟨by decide, rfl, rfl, fun ρ κ o ho => ?_⟩
  obtain ⟨q, hq⟩ := hbad ρ κ hb
  show Yx _ κ = _
  rw [hq]; exact ho q
 | true =>
  have h8 := hb8 rfl
  rw [Bool.not_true, Qr, show (0 : Int) = ((0 : Nat) : Int) from rfl, Jag (by omega), Jd, show (4 : Int) = ((4 : Nat) : Int) from rfl, number_eq (a := 4) (k := 4) _ (by show 4 + 4 ≤ s.length; omega) (by omega) (by show s.length ≤ 65000; omega), Jd] at h
  have key := rd_sim ((s[0]'(by omega)).toNat : Int) 21 0 (valB (decide (((s[0]'(by omega)).toNat : Int) = 77)) ((s.drop 4).take 4)) ⟨s, decide (((s[0]'(by omega)).toNat : Int) = 77), [], [], 0, fd, 0⟩ ⟨s, decide (((s[0]'(by omega)).toNat : Int) = 77), [], [hdP], []⟩ [] (by omega) (valB4 _ (by rw [List.length_take]; omega)) rfl rfl (by omega) ⟨h8, by show s.length ≤ 65000; omega⟩ (by simp) (by simp) (by simp [lenS]) hfd ⟨rfl, rfl, rfl, rfl⟩ rfl f ps e h
  refine key.of_eq fun ρ κ => ?_
  rw [hgood ρ κ hb]
  unfold Wk
  dsimp only
  rw [show (0 : Int) = ((0 : Nat) : Int) from rfl, Jag (by omega), Jd, show (4 : Int) = ((4 : Nat) : Int) from rfl, Rat_eq (a := 4) (k := 4) _ (by show 4 + 4 ≤ s.length; omega) (by omega) (by show s.length ≤ 65000; omega), Jd]
  rfl
end Go.M

/- TagReads, in plain Lean: the law. Conditions: none. -/
namespace Go.M
open Go.Md Go.Pl
set_option linter.unusedVariables false
theorem holL_used (z : List T_tag_Span) : ∀ (l : List T_tag_Span) (c : T_tag_Span) (a : Int), holL a (Ud c l ++ z) = holL a (c :: (l ++ z))
 | [], c, a => rfl
 | y :: l, c, a => by
  unfold Ud
  split
  ·rename_i h
   rw [holL_used z l ⟨c.From, y.To⟩ a]
   show holL a (_ :: (l ++ z)) = holL a (c :: y :: (l ++ z))
   simp only [holL, h, Int.lt_irrefl, if_false, List.nil_append]
  ·rw [List.cons_append]
   show (if a < c.From then _ else _) ++ holL c.To (Ud y l ++ z) = (if a < c.From then _ else _) ++ holL c.To (y :: l ++ z)
   rw [holL_used z l y c.To]; rfl
theorem used_join {c y : T_tag_Span} {l : List T_tag_Span} (h : c.To = y.From) : Ud c (y :: l) = Ud ⟨c.From, y.To⟩ l := by
 rw [Ud, if_pos h]
theorem used_next {c y : T_tag_Span} {l : List T_tag_Span} (h : ¬ c.To = y.From) : Ud c (y :: l) = c :: Ud y l := by
 rw [Ud, if_neg h]
theorem usedQ_loop (s : List UInt8) (f : T_tag_File) (q : T_tintref2_reader) (hs : s.length ≤ 65000) (hP : q.parts_.length ≤ 65001) : ∀ (m i : Nat) (at_ : Int) (pre : List T_tag_Span) (c : T_tag_Span) (hs' : List T_tag_Span), i + m = q.parts_.length → 1 ≤ i → pre.length ≤ i → hs'.length ≤ i →
  Z3 (fun next3 a => Zf s (f, 0, q) next3 a.1 a.2.1 a.2.2.1 a.2.2.2) (at_, (i : Int), pre ++ [c], hs') = some (pre ++ Ud c (q.parts_.drop i), hs' ++ holL at_ (q.parts_.drop i ++ [⟨(s.length : Int), (s.length : Int)⟩]), 0) := by
 intro m
 induction m with
 | zero =>
  intro i at_ pre c hs' hi h1 hp hh
  rw [List.drop_eq_nil_of_le (by omega)]
  refine Qq fun next => ?_
  show Zf s (f, 0, q) next at_ (i : Int) (pre ++ [c]) hs' = _
  unfold Zf
  dsimp only
  rw [cI, if_neg (by omega)]
  unfold R_UsedOf_j1 R_UsedOf_j2
  rw [cI]
  show _ = some (pre ++ [c], hs' ++ ((if at_ < (s.length : Int) then [(⟨at_, (s.length : Int)⟩ : T_tag_Span)] else []) ++ []), 0)
  split
  ·rw [Yf (by simp; omega), Jd, List.append_nil]
  ·rw [List.append_nil, List.append_nil]
 | succ m ih =>
  intro i at_ pre c hs' hi h1 hp hh
  have hlt : i < q.parts_.length := by omega
  rw [List.drop_eq_getElem_cons hlt]
  have hlen : ((pre ++ [c]).length : Int) - 1 = ((pre.length : Nat) : Int) := by simp
  have hget : (pre ++ [c])[pre.length]'(by simp) = c := by simp
  have j5 : ∀ (next : (Int × Int × List T_tag_Span × List T_tag_Span) → Option (List T_tag_Span × List T_tag_Span × Int)) (U H : List T_tag_Span), U3 (i : Int) next q.parts_[i] U H = next (q.parts_[i].To, ((i + 1 : Nat) : Int), U, H) := fun next U H => by
   unfold U3
   rw [J2 (by omega), Jd]; rfl
  have j4 : ∀ (next : (Int × Int × List T_tag_Span × List T_tag_Span) → Option (List T_tag_Span × List T_tag_Span × Int)) (U : List T_tag_Span), Ub at_ (i : Int) hs' next q.parts_[i] U = next (q.parts_[i].To, ((i + 1 : Nat) : Int), U, hs' ++ (if at_ < q.parts_[i].From then [⟨at_, q.parts_[i].From⟩] else [])) := fun next U => by
   unfold Ub
   rw [cI]
   split
   ·rw [Yf (by simp; omega), Jd, j5]
   ·rw [j5, List.append_nil]
  have hset : (pre ++ [c]).set pre.length (⟨c.From, q.parts_[i].To⟩ : T_tag_Span) = pre ++ [⟨c.From, q.parts_[i].To⟩] := by
   simp
  have step : ∀ next : (Int × Int × List T_tag_Span × List T_tag_Span) → Option (List T_tag_Span × List T_tag_Span × Int), Zf s (f, 0, q) next at_ (i : Int) (pre ++ [c]) hs' =
    next (q.parts_[i].To, ((i + 1 : Nat) : Int), if c.To = q.parts_[i].From then pre ++ [⟨c.From, q.parts_[i].To⟩] else pre ++ [c] ++ [q.parts_[i]], hs' ++ (if at_ < q.parts_[i].From then [⟨at_, q.parts_[i].From⟩] else [])) := by
   intro next
   unfold Zf
   dsimp only
   rw [cI, if_pos (by omega), Xl hlt, Jd, J2 (by simp; omega), Jd, hlen, cI, if_pos (by omega), Xl (by simp), Jd, hget, cI]
   split
   ·rw [Jd, gSet_ok (by omega) (by simp), Jd, Int.toNat_natCast, hset, j4]
   ·rw [Yf (by simp; omega), Jd, j4]
  refine Eq.trans (Xi _ fun next => step next) ?_
  by_cases hc : c.To = q.parts_[i].From
  ·simp only [if_pos hc]
   rw [ih (i + 1) _ pre _ _ (by omega) (by omega) (by omega) (by split <;> simp <;> omega)]
   rw [used_join hc, List.append_assoc]; first | done | rfl
  ·simp only [if_neg hc]
   rw [ih (i + 1) _ (pre ++ [c]) q.parts_[i] _ (by omega) (by omega) (by simp; omega) (by split <;> simp <;> omega)]
   rw [used_next hc, List.append_assoc, List.append_assoc]; first | done | rfl
theorem usedQ_eq (s : List UInt8) (f : T_tag_File) (q : T_tintref2_reader) (hs : s.length ≤ 65000) {ps : List T_tag_Span} (hq : q.parts_ = hdP :: ps) (hp : ps.length ≤ 65000) :
  Z3 (fun next3 a => Zf s (f, 0, q) next3 a.1 a.2.1 a.2.2.1 a.2.2.2) (0, 0, [], []) = some (Ud hdP ps, holL 0 (Ud hdP ps ++ [⟨(s.length : Int), (s.length : Int)⟩]), 0) := by
 have step : ∀ next : (Int × Int × List T_tag_Span × List T_tag_Span) → Option (List T_tag_Span × List T_tag_Span × Int), Zf s (f, 0, q) next 0 0 [] [] = next (8, ((1 : Nat) : Int), [] ++ [hdP], []) := by
  intro next
  unfold Zf Ub U3
  dsimp only
  rw [hq, cI, if_pos (by simp), show (0 : Int) = ((0 : Nat) : Int) from rfl, Xl (by simp), Jd]
  rfl
 refine Eq.trans (Xi _ fun next => step next) ?_
 have := usedQ_loop s f q hs (by rw [hq]; simp; omega) ps.length 1 8 [] hdP [] (by rw [hq]; simp; omega) (by omega) (by simp) (by simp)
 rw [this, holL_used, hq]
 rfl
theorem sameInts {l : List Int} (hl : l.length ≤ 2000000) : Jaa l l = some true := by
 unfold Jaa
 rw [cI, if_neg (by simp)]
 refine fix_upto 0 l.length (by omega) (fun next k _ hk => ?_) (fun next => ?_)
 ·show X7 _ _ next (k : Int) = _
  unfold X7
  rw [cI, if_pos (by omega), Xl hk, Jd, Jd, cI, if_neg (by simp), J2 (by omega), Jd]
 ·show X7 _ _ next (l.length : Int) = _
  unfold X7
  rw [cI, if_neg (by omega)]
theorem sameRats {l : List T_tag_Ratio} (hl : l.length ≤ 2000000) : Vv l l = some true := by
 unfold Vv
 rw [cI, if_neg (by simp)]
 refine fix_upto 0 l.length (by omega) (fun next k _ hk => ?_) (fun next => ?_)
 ·show Q8 _ _ next (k : Int) = _
  unfold Q8
  rw [cI, if_pos (by omega), Xl hk, Jd, Jd, show Ja1 l[k] l[k] = true from by unfold Ja1; simp]
  show Qp false _ _ = _
  rw [Qr, J2 (by omega), Jd]
 ·show Q8 _ _ next (l.length : Int) = _
  unfold Q8
  rw [cI, if_neg (by omega)]
theorem sameSpans {l : List T_tag_Span} (hl : l.length ≤ 2000000) : Wc l l = some true := by
 unfold Wc
 rw [cI, if_neg (by simp)]
 refine fix_upto 0 l.length (by omega) (fun next k _ hk => ?_) (fun next => ?_)
 ·show Xf _ _ next (k : Int) = _
  unfold Xf
  rw [cI, if_pos (by omega), Xl hk, Jd, Jd, show eq_tag_Span l[k] l[k] = true from by unfold eq_tag_Span; simp]
  show Qp false _ _ = _
  rw [Qr, J2 (by omega), Jd]
 ·show Xf _ _ next (l.length : Int) = _
  unfold Xf
  rw [cI, if_neg (by omega)]
theorem sameL {l : List T_tag_Entry} {g : T_tag_Entry → T_tag_Entry → Option Bool} (hl : l.length ≤ 2000000) (h : ∀ e ∈ l, g e e = some true) : Xh l l g = some true := by
 unfold Xh
 rw [cI, if_neg (by simp)]
 refine fix_upto 0 l.length (by omega) (fun next k _ hk => ?_) (fun next => ?_)
 ·show J4 l l g next (k : Int) = _
  unfold J4
  rw [cI, if_pos (by omega), Xl hk, Jd, Jd, h _ (List.getElem_mem hk), Jd]
  show Qp false _ _ = _
  rw [Qr, J2 (by omega), Jd]
 ·show J4 l l g next (l.length : Int) = _
  unfold J4
  rw [cI, if_neg (by omega)]
abbrev SameS := (List T_tag_Entry × List T_tag_Entry) → Option Bool
theorem sameDir_it : ∀ (d n : Nat) (l : List T_tag_Entry), d < n → okD d l ∨ l = [] → szD d l ≤ 2000000 → it (fun (self : SameS) (s : List T_tag_Entry × List T_tag_Entry) => Yb self s.1 s.2) n (l, l) = some true := by
 intro d
 induction d with
 | zero =>
  intro n l hn h hz
  obtain ⟨n, rfl⟩ : ∃ k, n = k + 1 := ⟨n - 1, by omega⟩
  rcases h with h | rfl
  ·exact h.elim
  ·show Yb _ [] [] = _
   unfold Yb
   rw [sameL (by simp) (fun e he => by simp at he), Jd]
 | succ d ih =>
  intro n l hn h hz
  obtain ⟨n, rfl⟩ : ∃ k, n = k + 1 := ⟨n - 1, by omega⟩
  show Yb (it _ n) l l = _
  have hall : ∀ e ∈ l, it (fun (self : SameS) (s : List T_tag_Entry × List T_tag_Entry) => Yb self s.1 s.2) n (e.Value.Entries, e.Value.Entries) = some true ∧ vB e.Value := by
   intro e he
   obtain ⟨hv, hz'⟩ := vB_of hz he
   rcases h with h | h
   ·obtain ⟨hok, h13⟩ := h.2 e he
    refine ⟨ih n e.Value.Entries (by omega) ?_ hz', hv⟩
    by_cases hk : e.Value.Kind = 13
    ·exact .inl (h13 hk)
    ·exact .inr (Classical.byContradiction fun hne => hok.2 (.inr (.inr (.inr ⟨hk, hne⟩))))
   ·rw [h] at he; simp at he
  generalize it (fun (self : SameS) (s : List T_tag_Entry × List T_tag_Entry) => Yb self s.1 s.2) n = self at hall ⊢
  unfold Yb
  rw [sameL (Nat.le_trans (szD_len l) hz) (fun e he => ?_), Jd]
  obtain ⟨hself, hv⟩ := hall e he
  unfold Ja4 Ja3
  rw [cI, if_pos rfl, cI, if_pos rfl, cI, if_pos rfl, sameInts hv.2.1, Jd, Qu, sameRats hv.2.2, Jd, Qu, hself, Jd, Jd]
theorem sameDir_self {l : List T_tag_Entry} (h : okD 5 l) (hz : szD 5 l ≤ 2000000) : R_SameDir l l = some true := by
 unfold R_SameDir
 exact fix_ev (k := 6) fun n hn => sameDir_it 5 n l (by omega) (.inl h) hz
theorem sameFile_self {f : T_tag_File} (h : ∀ l ∈ f.Dirs, R_SameDir l l = some true) (hl : f.Dirs.length ≤ 2000000) : Uy f f = some true := by
 unfold Uy Xj
 rw [cI, if_pos rfl, cI, if_neg (by simp)]
 have key : Z3 (fun next1 s => Jw f.Dirs f.Dirs R_SameDir next1 s) 0 = some true := by
  refine fix_upto 0 f.Dirs.length (by omega) (fun next k _ hk => ?_) (fun next => ?_)
  ·show Jw _ _ _ next (k : Int) = _
   unfold Jw
   rw [cI, if_pos (by omega), Xl hk, Jd, Jd, h _ (List.getElem_mem hk), Jd]
   show Qp false _ _ = _
   rw [Qr, J2 (by omega), Jd]
  ·show Jw _ _ _ next (f.Dirs.length : Int) = _
   unfold Jw
   rw [cI, if_neg (by omega)]
 rw [key, Jd]
theorem sameFile_ok {f : T_tag_File} (hb : fileB f) (he : fileE f = 0) : Uy f f = some true := by
 obtain ⟨h1, h2⟩ := fileE_zero hb he
 exact sameFile_self (fun l hl => sameDir_self (h1 l hl).1 (h1 l hl).2) (by omega)
theorem sameFile_none : Uy ⟨false, []⟩ ⟨false, []⟩ = some true := sameFile_self (fun l hl => by simp at hl) (by simp)
theorem file_self {f : T_tag_File} {e : Int} (h : Uy f f = some true) (h0 : e ≠ 0 → f = ⟨false, []⟩) : Law_file f e f e = some true := by
 unfold Law_file
 rw [cI]
 by_cases he : e = 0
 ·rw [if_neg (by simp [he])]
  unfold Jaw
  rw [h, Jd, Qu, decide_eq_true rfl]
 ·rw [if_pos he]
  unfold Jaw
  rw [h0 he, sameFile_none, Jd, Qu, decide_eq_true rfl]
theorem listed_self {l : List T_tag_Span} {e : Int} (hl : l.length ≤ 2000000) (h0 : e ≠ 0 → l = []) : Vt l e l e = some true := by
 unfold Vt
 rw [cI]
 by_cases he : e = 0
 ·rw [if_neg (by simp [he])]
  unfold Yy
  rw [sameSpans hl, Jd, Qu, decide_eq_true rfl]
 ·rw [if_pos he]
  unfold Yy
  rw [h0 he, sameSpans (by simp), Jd, Qu, decide_eq_true rfl]
theorem read_two (s : List UInt8) : ∃ f ps e, Jai s 0 = some (f, ps, e) ∧ Jai s 1 = some (f, ps, e) ∧ (e = 0 → s.length ≤ 65000 ∧ sepS s.length 8 ps) := by
 obtain ⟨f, ps, e, h1, h2⟩ := read_ok s (fd := 0) (by omega)
 obtain ⟨f', ps', e', g1, g2⟩ := read_ok s (fd := 1) (by omega)
 have k1 := all_sim s (by omega) h1 []
 have k2 := all_sim s (by omega) g1 []
 have key : f = f' ∧ ps = ps' ∧ e = e' := by
  let κ : AllR → Option (T_tag_File × Int × List T_tag_Span) := fun t => some (t.1, t.2.1, if t.2.1 = 0 then t.2.2.parts_ else [])
  have a1 : Yx ⟨s, false, [], [], []⟩ κ = some (f, e, if e = 0 then hdP :: ps else []) := by
   rcases k1 with ⟨he, _, _, h⟩ | ⟨he, hf, _, h⟩
   ·refine h _ κ _ fun q hq => ?_
    show some (f, (0 : Int), if (0 : Int) = 0 then q.parts_ else []) = _
    rw [hq, he]
   ·refine h _ κ _ fun q => ?_
    show some ((⟨false, []⟩ : T_tag_File), e, if e = 0 then q.parts_ else []) = _
    rw [if_neg he, if_neg he, hf]
  have a2 : Yx ⟨s, false, [], [], []⟩ κ = some (f', e', if e' = 0 then hdP :: ps' else []) := by
   rcases k2 with ⟨he, _, _, h⟩ | ⟨he, hf, _, h⟩
   ·refine h _ κ _ fun q hq => ?_
    show some (f', (0 : Int), if (0 : Int) = 0 then q.parts_ else []) = _
    rw [hq, he]
   ·refine h _ κ _ fun q => ?_
    show some ((⟨false, []⟩ : T_tag_File), e', if e' = 0 then q.parts_ else []) = _
    rw [if_neg he, if_neg he, hf]
  rw [a1] at a2
  simp only [Option.some.injEq, Prod.mk.injEq] at a2
  obtain ⟨b1, b2, b3⟩ := a2
  subst b1 b2
  by_cases he : e = 0
  ·rw [if_pos he, if_pos he] at b3
   exact ⟨rfl, (List.cons.inj b3).2, rfl⟩
  ·rcases k1 with ⟨he', _⟩ | ⟨_, _, c1, _⟩
   ·exact absurd he' he
   ·rcases k2 with ⟨he', _⟩ | ⟨_, _, c2, _⟩
    ·exact absurd he' he
    ·exact ⟨rfl, by rw [c1, c2], rfl⟩
 obtain ⟨rfl, rfl, rfl⟩ := key
 exact ⟨f, ps, e, h1, g1, h2⟩
theorem tagReads (s : List UInt8) : Law_TagReads s = some true := by
 obtain ⟨f, ps, e, h0, h1, h2⟩ := read_two s
 have hps : e = 0 → ps.length ≤ 65000 := fun he => by
  obtain ⟨a1, a2⟩ := h2 he
  have := (sepS_end a2).2.1
  omega
 have hu := used_eq h1 hps
 have hul : (if e = 0 then Ud ⟨0, 8⟩ ps else []).length ≤ 65001 := by
  split
  ·rename_i he
   have := usedL_len ps ⟨0, 8⟩
   have := hps he
   omega
  ·simp
 have hu' : tag_Used s = some (if e = 0 then Ud ⟨0, 8⟩ ps else [], e) := by
  rw [hu]; split
  ·rename_i he; rw [he]
  ·rfl
 have hh := holes_eq hu' hul
 have hgo := all_sim s (by omega) h0 []
 have hread : tag_Read s = some (f, e) := by unfold tag_Read; rw [h0, Jd]
 have hfile : R_FileRead s = some (f, e) := by
  unfold R_FileRead
  rcases hgo with ⟨he, _, _, h⟩ | ⟨he, hf, _, h⟩
  ·rw [he]; exact h _ _ _ fun q hq => rfl
  ·rw [hf]; exact h _ _ _ fun q => rfl
 have husedOf : R_UsedOf s = some (if e = 0 then Ud ⟨0, 8⟩ ps else [], if e = 0 then holL 0 ((if e = 0 then Ud ⟨0, 8⟩ ps else []) ++ [⟨(s.length : Int), (s.length : Int)⟩]) else [], e) := by
  unfold R_UsedOf
  rcases hgo with ⟨he, _, _, h⟩ | ⟨he, hf, _, h⟩
  ·refine h _ _ _ fun q hq => ?_
   dsimp only
   rw [cI, if_neg (by decide), usedQ_eq s f q (h2 he).1 hq (hps he), he]
   rfl
  ·refine h _ _ _ fun q => ?_
   dsimp only
   rw [cI, if_pos he, if_neg he, if_neg he]
 have hsame : Uy f f = some true := by
  rcases hgo with ⟨he, hb, hz, _⟩ | ⟨he, hf, _, _⟩
  ·exact sameFile_ok hb hz
  ·rw [hf]; exact sameFile_none
 have hf0 : e ≠ 0 → f = ⟨false, []⟩ := fun he => by
  rcases hgo with ⟨h, _⟩ | ⟨_, hf, _⟩
  ·exact absurd h he
  ·exact hf
 have hh' : tag_Holes s = some (if e = 0 then holL 0 ((if e = 0 then Ud ⟨0, 8⟩ ps else []) ++ [⟨(s.length : Int), (s.length : Int)⟩]) else [], e) := by
  rw [hh]; split
  ·rename_i he; rw [he]
  ·rfl
 have hhl : (if e = 0 then holL 0 ((if e = 0 then Ud ⟨0, 8⟩ ps else []) ++ [⟨(s.length : Int), (s.length : Int)⟩]) else []).length ≤ 2000000 := by
  split
  ·rename_i he
   refine Nat.le_trans (holL_len _ _) ?_
   have := usedL_len ps ⟨0, 8⟩
   have := hps he
   rw [List.length_append, List.length_singleton]; omega
  ·simp
 unfold Law_TagReads
 rw [hread, Jd, hfile, Jd, hu', Jd, hh', Jd, husedOf, Jd]
 dsimp only
 rw [file_self hsame hf0, Jd, Qu, listed_self (by omega) (fun he => if_neg he), Jd, Qu, listed_self hhl (fun he => if_neg he), Jd]
theorem tagReadsS (s : List UInt8) {P : Prop} (_ : P) : Law_TagReads s = some true := tagReads s
end Go.M

/- Tables among the package's variables, out of a card's condition. Conditions: none. -/
namespace Go.Lx
open Go Go.Vc Go.Md
theorem tab_vars {P : Program} {W : World} {name : String} {k : IntKind} {zs : List Int} {g : Nat} {t e : TypeId} {n : Nat}
  (hg : P.globalNamed name = some g) (hty : (P.globals[g]?).map (·.type) = some t) (ht : P.underlying t = some (.array n e)) (he : P.underlying e = some (.int k)) (hce : P.cellsOf e = 1) (hct : P.cellsOf t = n) :
  ∀ (l : List (String × DataW Unit)) (ps : List MemPlace) (i : Nat), DataW.LaidVars P W l ps → l[i]? = some (name, Lib.tabData k zs) → Lib.TabIs P W name k zs
 | [], _, i, _, h => by simp at h
 | (n', d) :: r, ps, 0, hv, h => by
  simp only [List.getElem?_cons_zero, Option.some.injEq, Prod.mk.injEq] at h
  obtain ⟨rfl, rfl⟩ := h
  obtain ⟨g', t', cs, fuel, p, q, hg', ht', hvar, hd, _, _⟩ := hv
  obtain rfl := Option.some.inj (hg.symm.trans hg')
  obtain rfl := Option.some.inj (hty.symm.trans ht')
  unfold Lib.TabIs
  rw [hvar, ← Lib.cells_of_tab ht he hce hct hd]
 | _ :: r, ps, i + 1, hv, h => by
  obtain ⟨_, _, _, _, _, q, _, _, _, _, h2, _⟩ := hv
  exact tab_vars hg hty ht he hce hct r q i h2 (by simpa using h)
theorem tab_at {P : Program} {W : World} {name : String} {k : IntKind} {zs : List Int} {g : Nat} {t e : TypeId} {n : Nat} {l : List (String × DataW Unit)} (i : Nat)
  (hg : P.globalNamed name = some g) (hty : (P.globals[g]?).map (·.type) = some t) (ht : P.underlying t = some (.array n e)) (he : P.underlying e = some (.int k)) (hce : P.cellsOf e = 1) (hct : P.cellsOf t = n)
  (hL : laidMetH P l W) (hp : (l.all fun x => x.2.handleName?.isNone) = true) (hi : l[i]? = some (name, Lib.tabData k zs)) : TabH P (fun b => W.heap[b]?) name k zs := by
 rw [MakeChecks.laidMetH_plain _ _ _ hp] at hL
 obtain ⟨ps, hv, _⟩ := hL
 exact tabH_of (tab_vars hg hty ht he hce hct l ps i hv hi)
end Go.Lx

/- What a claim says of a call's arguments, as rows: slices, arrays, structs, strings. Conditions: none. -/
namespace Go.Vc
open Go
variable {H : Type} {enc : TypeId × Value → H} {P : Program} {w : World} {base : Nat} {spare : Nat → Bool} {held : Bool}
end Go.Vc

/- What a claim says of a call's arguments, as values of plain types: parts of structs, arrays, slices. Conditions: none. -/
namespace Go.Lx
open Go Go.Vc Go.Md
variable {H : Type} {enc : TypeId × Value → H} {P : Program} {w : World} {base : Nat} {spare : Nat → Bool} {held : Bool}
theorem val_cell {r : Reach} {b0 t : Nat} {v : Value} (ht : (match P.underlying t with | some (.int _) | some (.slice _) | some .string | some .bool => true | _ => false) = true) (hval : Value.okWide P w r b0 t v) : v.cells.toList = [v] := by
 unfold Value.okWide at hval
 split at hval
 ·rename_i h; rw [h] at ht; cases ht
 ·rename_i h; rw [h] at ht; cases ht
 ·cases v with
  | agg cs =>
   exfalso
   unfold Cell.okWide at hval
   split at ht <;> simp_all [Cell.ok]
  | _ => rfl
end Go.Lx

/- What a claim says of a call's arguments, where their bulk is bounded. Conditions: none. -/
namespace Go.Vc
open Go Go.Lx
variable {H : Type} {enc : TypeId × Value → H} {P : Program} {w : World} {base : Nat} {spare : Nat → Bool} {held : Bool}
structure BK (bk : DataW H → Nat) : Prop where
 slice : ∀ (es rs : List (DataW H)) (d : DataW H), d ∈ es → bk d ≤ bk (.slice es rs)
 agg : ∀ (es : List (DataW H)) (d : DataW H), d ∈ es → bk d ≤ bk (.agg es)
 Jv : ∀ bs : List UInt8, bs.length ≤ bk (.lit (.string bs))
end Go.Vc

/- What a claim says of a call's arguments, with the reach of the claim's form: no string and no slice is larger than it. Conditions: none. -/
namespace Go.Vc
open Go Go.Lx
variable {H : Type} {enc : TypeId × Value → H} {P : Program} {w : World} {base : Nat} {spare : Nat → Bool} {held : Bool}
def Wt (P : Program) (B : Nat) (t : TypeId) (d : DataW H) : Prop := ∀ n ∈ DataW.weights P t d, n ≤ B
theorem mem_each {n : Nat} : ∀ (ts : List TypeId) (ds : List (DataW H)) (i : Nat) (t : TypeId) (d : DataW H), ts[i]? = some t → ds[i]? = some d → n ∈ DataW.weights P t d → n ∈ DataW.weightsEach P ts ds
 | [], _, i, t, d, h, _, _ => by simp at h
 | t' :: ts, [], i, t, d, _, h, _ => by simp at h
 | t' :: ts, d' :: ds, 0, t, d, h1, h2, h3 => by
  simp at h1 h2; subst h1 h2
  simp only [DataW.weightsEach, List.mem_append]; exact .inl h3
 | t' :: ts, d' :: ds, i + 1, t, d, h1, h2, h3 => by
  simp only [DataW.weightsEach, List.mem_append]
  exact .inr (mem_each ts ds i t d (by simpa using h1) (by simpa using h2) h3)
theorem wt_arg {B : Nat} {ts : List TypeId} {ds : List (DataW H)} (h : (DataW.weightsEach P ts ds).all (· ≤ B) = true) (i : Nat) {t : TypeId} {d : DataW H} (ht : ts[i]? = some t) (hd : ds[i]? = some d) : Wt P B t d := fun n hn => by
 have := List.all_eq_true.1 h n (mem_each ts ds i t d ht hd hn)
 simpa using this
theorem op_stringW {B t fuel : Nat} {cs : List Value} {x : DataW H × List MemPlace} (hB : Wt P B t x.1) (ht : P.underlying t = some .string) (h : DataW.trod enc P w base spare held fuel t cs = some x) : ∃ s : List UInt8, cs = [Jv s] ∧ s.length ≤ 9223372036854775807 ∧ s.length ≤ B := by
 obtain ⟨s, h1, h3, h2⟩ := DataW.trod_string ht h
 have e : s.data.toList.length = s.size := by rw [Array.length_toList]; rfl
 refine ⟨s.data.toList, by rw [h1], by rw [e]; unfold maxLen at h2; omega, ?_⟩
 rw [h3] at hB
 exact hB _ (by simp [DataW.weights])
end Go.Vc
