/- Numbers and values as octets, values checked, in plain Lean. Conditions: none. -/
import Derived.Test.YtdcppgplkfkjiaaGreatDoorMd
import Derived.Test.YtdcppgplkfkjiaaGreatDoorKUs
import Derived.Test.YtdcppgplkfkjiaaGreatDoorLx2
import Derived.Lib.LaidTab
import Derived.MakeChecks
import Derived.ProofKit
import Derived.OpenShut
import Derived.ChangeArms
import Derived.DataReads
import Derived.JoinedCond
import Derived.LaidLaws
import Derived.SizedLaws
namespace Go.M
open Go.Md Go.Pl
theorem cI {α : Type} {p : Prop} [Decidable p] {x y : Option α} : Ql (decide p) x y = if p then x else y := cnd_if ..
theorem fix_ofG {α ρ γ : Type} {F : (α → Option ρ) → α → Option ρ} (spec : γ → α → Option ρ) (I : γ → α → Prop) (μ : γ → Nat)
  (step : ∀ (next : α → Option ρ) (g : γ) (a : α), I g a → (∀ g' b, I g' b → μ g' < μ g → next b = spec g' b) → F next a = spec g a) (g : γ) (a : α) (ha : I g a) : V8 F a = spec g a := by
 have key : ∀ (n : Nat) (g : γ) (a : α), I g a → μ g < n → it F n a = spec g a := by
  intro n
  induction n with
  | zero => intro g a _ h; omega
  | succ n ih => intro g a ha h; exact step _ g a ha fun g' b hb hlt => ih g' b hb (by omega)
 exact fix_ev (k := μ g + 1) fun n hn => key n g a ha (by omega)
theorem Yn (a b : List UInt8) : J7 (a ++ b) = J7 a ++ J7 b := List.map_append
theorem Qd (a : List UInt8) : (J7 a).length = a.length := List.length_map _
theorem toStr_ofStr (a : List UInt8) : Z8 (J7 a) = a := by
 unfold Z8 J7
 rw [List.map_map]
 conv => rhs; rw [← List.map_id a]
 apply List.map_congr_left
 intro c _
 show UInt8.ofNat ((c.toNat : Int).toNat) = c
 rw [Int.toNat_natCast, UInt8.ofNat_toNat]
theorem ofStr_toStr {l : List Int} (h : ∀ x ∈ l, 0 ≤ x ∧ x ≤ 255) : J7 (Z8 l) = l := by
 unfold Z8 J7
 rw [List.map_map]
 conv => rhs; rw [← List.map_id l]
 apply List.map_congr_left
 intro c hc
 have := h c hc
 show (((UInt8.ofNat c.toNat).toNat : Nat) : Int) = c
 rw [UInt8.toNat_ofNat']
 omega
theorem num_ex (big : Bool) (n : Int) (k : Nat) (hk : k ≤ 8) : ∃ L : List Int, Jf big n k = some L ∧ L.length = k ∧ (∀ x ∈ L, 0 ≤ x ∧ x ≤ 255) ∧ (n = 0 → ∀ x ∈ L, x = 0) := by
 have key : ∀ m i : Nat, i + m = k → ∀ l : List Int, l.length = k → (∀ x ∈ l, 0 ≤ x ∧ x ≤ 255) → (n = 0 → ∀ x ∈ l, x = 0) →
   ∃ L : List Int, V8 (fun next1 s => Xu big n k (List.replicate k 0) next1 s.1 s.2) ((i : Int), l) = some L ∧ L.length = k ∧ (∀ x ∈ L, 0 ≤ x ∧ x ≤ 255) ∧ (n = 0 → ∀ x ∈ L, x = 0) := by
  intro m
  induction m with
  | zero =>
   intro i hi l hl hx hz
   refine ⟨l, Qb fun next => ?_, hl, hx, hz⟩
   show Xu big n k _ next (i : Int) l = _
   unfold Xu
   rw [cI, if_neg (by rw [List.length_replicate]; omega)]
  | succ m ih =>
   intro i hi l hl hx hz
   have hs : ∃ y : Int, gShr 64 n (8 * (i : Int)) = some y ∧ (n = 0 → y = 0) := by
    refine ⟨n / 2 ^ min (8 * (i : Int)).toNat 64, if_pos (by omega), fun e => by rw [e]; exact Int.zero_ediv _⟩
   obtain ⟨y, hy, hy0⟩ := hs
   have hp : ∃ q : Nat, q < k ∧ (∀ (next : Int × List Int → Option (List Int)), Xu big n k (List.replicate k 0) next (i : Int) l = next ((i : Int) + 1, l.set q (wU8 y))) := by
    cases big
    ·refine ⟨i, by omega, fun next => ?_⟩
     unfold Xu
     rw [cI, if_pos (by rw [List.length_replicate]; omega), Qf]
     unfold V6
     rw [Jy (by omega), Jb, hy, Jb, Qz (by omega), Jb, U6 (by omega) (by omega), Jb, Jy (by omega), Jb, Int.toNat_natCast]
    ·refine ⟨k - 1 - i, by omega, fun next => ?_⟩
     unfold Xu
     rw [cI, if_pos (by rw [List.length_replicate]; omega), X0, Jy (by omega), Jb, Jy (by omega), Jb]
     unfold V6
     rw [Jy (by omega), Jb, hy, Jb, gAt_ok (by omega) (by omega), Jb, U6 (by omega) (by omega), Jb, Jy (by omega), Jb, show ((k : Int) - 1 - (i : Int)).toNat = k - 1 - i from by omega]
   obtain ⟨q, hq, h1⟩ := hp
   obtain ⟨L, a1, a3, a4, a5⟩ := ih (i + 1) (by omega) (l.set q (wU8 y)) (by rw [List.length_set]; exact hl) (fun x hxm => by
    rcases List.mem_or_eq_of_mem_set hxm with h | h
    ·exact hx x h
    ·rw [h]; unfold wU8; omega) (fun e x hxm => by
    rcases List.mem_or_eq_of_mem_set hxm with h | h
    ·exact hz e x h
    ·rw [h, hy0 e]; rfl)
   exact ⟨L, (Q0 _ h1).trans a1, a3, a4, a5⟩
 obtain ⟨L, a1, a3⟩ := key k 0 (by omega) (List.replicate k 0) (by simp) (fun x hx => by rw [(List.mem_replicate.1 hx).2]; omega) (fun _ x hx => (List.mem_replicate.1 hx).2)
 refine ⟨L, ?_, a3⟩
 unfold Jf
 rw [gMake_ok (by omega), Jb, Int.toNat_natCast]; exact a1
noncomputable def Xp (big : Bool) (n : Int) (k : Nat) : List UInt8 := Z8 ((Jf big n k).getD [])
theorem num_tag (big : Bool) (n : Int) {k : Nat} (hk : k ≤ 8) : Jf big n k = some (J7 (Xp big n k)) := by
 obtain ⟨L, h1, _, h4, _⟩ := num_ex big n k hk
 unfold Xp
 rw [h1, Option.getD_some, ofStr_toStr h4]
theorem Qj (big : Bool) (n : Int) {k : Nat} (hk : k ≤ 8) : (Xp big n k).length = k := by
 obtain ⟨L, h1, h3, _⟩ := num_ex big n k hk
 unfold Xp Z8
 rw [h1, Option.getD_some, List.length_map, h3]
theorem num_zero (big : Bool) {k : Nat} (hk : k ≤ 8) : Xp big 0 k = List.replicate k 0 := by
 obtain ⟨L, h1, h3, _, h5⟩ := num_ex big 0 k hk
 have : L = List.replicate k 0 := List.eq_replicate_iff.2 ⟨h3, h5 rfl⟩
 unfold Xp Z8
 rw [h1, Option.getD_some, this, List.map_replicate]; rfl
theorem tag2 (big : Bool) (n : Int) : Jf big n 2 = some (J7 (Xp big n 2)) := num_tag big n (k := 2) (by omega)
theorem tag4 (big : Bool) (n : Int) : Jf big n 4 = some (J7 (Xp big n 4)) := num_tag big n (k := 4) (by omega)
def Qy (k : Int) : Nat := if k = 1 ∨ k = 2 ∨ k = 7 then 1 else if k = 3 then 2 else if k = 4 ∨ k = 9 then 4 else if k = 5 then 8 else 0
theorem wideN_le (k : Int) : Qy k ≤ 8 := by unfold Qy; (repeat' split) <;> omega
theorem sizeOf_eq (k : Int) : Zc k = some (if k = 13 then 1 else (Qy k : Int)) := by
 unfold Zc Wz Qy
 by_cases h1 : k = 1
 ·subst h1; rfl
 by_cases h2 : k = 2
 ·subst h2; rfl
 by_cases h3 : k = 3
 ·subst h3; rfl
 by_cases h4 : k = 4
 ·subst h4; rfl
 by_cases h5 : k = 5
 ·subst h5; rfl
 by_cases h7 : k = 7
 ·subst h7; rfl
 by_cases h9 : k = 9
 ·subst h9; rfl
 by_cases h13 : k = 13
 ·subst h13; rfl
 simp [h1, h2, h3, h4, h5, h7, h9, h13, Qf]
def intsK (k : Int) : Prop := k = 1 ∨ k = 3 ∨ k = 4 ∨ k = 9
def textK (k : Int) : Prop := k = 2 ∨ k = 7
instance (k : Int) : Decidable (intsK k) := by unfold intsK; infer_instance
instance (k : Int) : Decidable (textK k) := by unfold textK; infer_instance
def kindP (k : Int) : Prop := intsK k ∨ textK k ∨ k = 5 ∨ k = 13
instance (k : Int) : Decidable (kindP k) := by unfold kindP; infer_instance
def formP (v : T_tag_Value) : Prop := (¬ intsK v.Kind ∧ v.Ints ≠ []) ∨ (¬ textK v.Kind ∧ v.Text ≠ []) ∨ (v.Kind ≠ 5 ∧ v.Ratios ≠ []) ∨ (v.Kind ≠ 13 ∧ v.Entries ≠ [])
noncomputable def Vv (v : T_tag_Value) : Int := open Classical in if ¬ kindP v.Kind then 10 else if formP v then 1 else 0
theorem ne_len {α : Type} (l : List α) : (0 : Int) < (l.length : Int) ↔ l ≠ [] := by
 cases l <;> simp <;> omega
theorem wide_zero (k : Int) (h : k ≠ 13) : (Qy k : Int) = 0 ↔ ¬ kindP k := by
 unfold Qy kindP intsK textK
 split
 ·omega
 ·split
  ·omega
  ·split
   ·omega
   ·split <;> omega
theorem j3_fields (v : T_tag_Value) (b : Bool) : Vk v b = some (open Classical in if b = true ∨ (v.Kind ≠ 13 ∧ v.Entries ≠ []) then 1 else 0) := by
 unfold Vk
 cases b
 ·rw [Qf, cI, cI]
  by_cases h1 : v.Kind ≠ 13
  ·by_cases h2 : v.Entries = []
   ·rw [if_pos h1, if_neg (by rw [ne_len]; simpa using h2), if_neg (by simp [h2])]
   ·rw [if_pos h1, if_pos ((ne_len _).2 h2), if_pos (.inr ⟨h1, h2⟩)]
  ·rw [if_neg h1, if_neg (by simp [h1])]
 ·rw [X0, X0, if_pos (.inl rfl)]
theorem j2_fields (v : T_tag_Value) (b : Bool) : Ve v b = some (open Classical in if b = true ∨ (v.Kind ≠ 5 ∧ v.Ratios ≠ []) ∨ (v.Kind ≠ 13 ∧ v.Entries ≠ []) then 1 else 0) := by
 unfold Ve
 cases b
 ·rw [Qf, cI, j3_fields, j3_fields]
  by_cases h1 : v.Kind ≠ 5
  ·rw [if_pos h1]
   congr 1
   by_cases h2 : v.Ratios = []
   ·simp [h2]
   ·simp [h2, h1, List.length_pos_iff]
  ·rw [if_neg h1]; simp [h1]
 ·rw [X0, X0, if_pos (.inl rfl)]
theorem j1_fields (v : T_tag_Value) (b : Bool) : Vg v b = some (open Classical in if b = true ∨ (¬ textK v.Kind ∧ v.Text ≠ []) ∨ (v.Kind ≠ 5 ∧ v.Ratios ≠ []) ∨ (v.Kind ≠ 13 ∧ v.Entries ≠ []) then 1 else 0) := by
 have ht : tag_isText v.Kind = some (decide (textK v.Kind)) := by
  unfold tag_isText textK
  rw [cI]
  by_cases h : v.Kind = 2
  ·simp [h]
  ·simp [h]
 unfold Vg
 cases b
 ·rw [Qf, ht, Jb, j2_fields, j2_fields]
  by_cases h1 : textK v.Kind
  ·rw [decide_eq_true h1]
   show Ql false _ _ = _
   rw [Qf]; simp [h1]
  ·rw [decide_eq_false h1]
   show Ql true _ _ = _
   rw [X0]; simp [h1]
 ·rw [X0, X0, if_pos (.inl rfl)]
theorem checkFields_eq (v : T_tag_Value) : Vq v = some (Vv v) := by
 have hi : tag_isInts v.Kind = some (decide (intsK v.Kind)) := by
  unfold tag_isInts intsK
  rw [cI, cI, cI]
  by_cases h : v.Kind = 1
  ·simp [h]
  by_cases h3 : v.Kind = 3
  ·simp [h3]
  by_cases h4 : v.Kind = 4
  ·simp [h4]
  simp [h, h3, h4]
 unfold Vq Vv
 rw [sizeOf_eq, Jb, cI]
 by_cases hk : kindP v.Kind
 ·have hz : ¬ (if v.Kind = 13 then (1 : Int) else (Qy v.Kind : Int)) = 0 := by
   by_cases h13 : v.Kind = 13
   ·rw [if_pos h13]; omega
   ·rw [if_neg h13]; exact fun e => (wide_zero _ h13).1 e hk
  rw [if_neg hz, hi, Jb, j1_fields, j1_fields, if_neg (show ¬ ¬ kindP v.Kind from fun h => h hk)]
  by_cases h1 : intsK v.Kind
  ·rw [decide_eq_true h1]
   show Ql false _ _ = _
   rw [Qf]; unfold formP; simp [h1]
  ·rw [decide_eq_false h1]
   show Ql true _ _ = _
   rw [X0]; unfold formP; simp [h1, List.length_pos_iff]
 ·have h13 : v.Kind ≠ 13 := fun e => hk (.inr (.inr (.inr e)))
  rw [if_neg h13, if_pos ((wide_zero _ h13).2 hk), if_pos hk]
def limS (k : Int) : Int × Int := if k = 1 then (0, 255) else if k = 3 then (0, 65535) else if k = 9 then (-2147483648, 2147483647) else (0, 4294967295)
theorem bounds_eq (k : Int) : tag_bounds k = some (limS k) := by
 unfold tag_bounds limS
 rw [cI, cI, cI]; (repeat' split) <;> rfl
theorem out_tag (a b c : Int) : Yk a b c = some (decide (a < b ∨ c < a)) := by
 unfold Yk
 rw [cI]
 by_cases h : a < b
 ·rw [if_pos h]; simp [h]
 ·rw [if_neg h]; simp [h]
def ratP (r : T_tag_Ratio) : Prop := (r.Num < 0 ∨ 4294967295 < r.Num) ∨ (r.Den < 0 ∨ 4294967295 < r.Den)
noncomputable def plainE (v : T_tag_Value) : Int := open Classical in
 if Vv v ≠ 0 then Vv v else if ∃ n ∈ v.Ints, n < (limS v.Kind).1 ∨ (limS v.Kind).2 < n then 2 else if ∃ r ∈ v.Ratios, ratP r then 2 else if v.Kind = 2 ∧ (0 : UInt8) ∈ v.Text then 9 else 0
theorem look_loop {α : Type} {F : (Int → Option Int) → Int → Option Int} (xs : List α) (p : α → Prop) (e : Int) (o : Option Int) (more : ∀ (next : Int → Option Int) (k : Nat) (hk : k < xs.length), (p xs[k] → F next (k : Int) = some e) ∧ (¬ p xs[k] → F next (k : Int) = next ((k : Int) + 1))) (stop : ∀ next, F next (xs.length : Int) = o) :
  V8 F 0 = open Classical in if ∃ x ∈ xs, p x then some e else o := by
 have key : ∀ m i : Nat, i + m = xs.length → V8 F (i : Int) = open Classical in if ∃ x ∈ xs.drop i, p x then some e else o := by
  intro m
  induction m with
  | zero =>
   intro i hi
   have : i = xs.length := by omega
   subst this
   rw [List.drop_length, if_neg (by simp)]
   exact Qb stop
  | succ m ih =>
   intro i hi
   have hlt : i < xs.length := by omega
   rw [List.drop_eq_getElem_cons hlt]
   by_cases hp : p xs[i]
   ·rw [if_pos ⟨_, List.mem_cons_self, hp⟩]
    exact Qb fun next => (more next i hlt).1 hp
   ·rw [Q0 ((i : Int) + 1) (fun next => (more next i hlt).2 hp)]
    have := ih (i + 1) (by omega)
    rw [show ((i : Int) + 1) = ((i + 1 : Nat) : Int) from rfl, this]
    congr 1
    apply propext
    constructor
    ·rintro ⟨x, hx, h⟩; exact ⟨x, List.mem_cons_of_mem _ hx, h⟩
    ·rintro ⟨x, hx, h⟩
     rcases List.mem_cons.1 hx with h' | h'
     ·subst h'; exact absurd h hp
     ·exact ⟨x, h', h⟩
 have := key xs.length 0 (by omega)
 rw [List.drop_zero] at this
 exact this
def vB (v : T_tag_Value) : Prop := v.Text.length ≤ 2000000 ∧ v.Ints.length ≤ 2000000 ∧ v.Ratios.length ≤ 2000000
theorem j2_plain {v : T_tag_Value} (hb : vB v) : V4 v = some (open Classical in if v.Kind = 2 ∧ (0 : UInt8) ∈ v.Text then 9 else 0) := by
 unfold V4
 rw [cI]
 by_cases h2 : v.Kind = 2
 ·rw [if_pos h2, look_loop v.Text (fun c => c = 0) 9 (some 0) (fun next k hk => ?_) (fun next => ?_)]
  ·congr 1
   by_cases hm : (0 : UInt8) ∈ v.Text
   ·rw [if_pos ⟨0, hm, rfl⟩, if_pos ⟨h2, hm⟩]
   ·rw [if_neg (fun ⟨x, hx, e⟩ => hm (e ▸ hx)), if_neg (fun h => hm h.2)]
  ·show (_ → Yi v next (k : Int) = _) ∧ (_ → Yi v next (k : Int) = _)
   have := hb.1
   unfold Yi
   rw [cI, if_pos (by omega), gOct_nat hk, Jb, cI]
   constructor
   ·intro e; rw [if_pos (by rw [e]; rfl)]
   ·intro e
    have : v.Text[k].toNat ≠ 0 := fun h => e (by rw [← UInt8.ofNat_toNat (x := v.Text[k]), h]; rfl)
    rw [if_neg (by omega), Jy (by omega), Jb]
  ·show Yi v next (v.Text.length : Int) = _
   unfold Yi
   rw [cI, if_neg (by omega)]
 ·rw [if_neg h2, if_neg (fun h => h2 h.1)]
theorem checkPlain_eq {v : T_tag_Value} (hb : vB v) : Ug v = some (plainE v) := by
 unfold Ug plainE
 rw [checkFields_eq, Jb, cI]
 by_cases hf : Vv v ≠ 0
 ·rw [if_pos hf, if_pos hf]
 rw [if_neg hf, if_neg hf, bounds_eq, Jb]
 rw [look_loop (F := fun next5 s => X7 v (limS v.Kind) next5 s) v.Ints (fun n => n < (limS v.Kind).1 ∨ (limS v.Kind).2 < n) 2 (V2 v) (fun next k hk => ?_) (fun next => ?_)]
 ·have e1 : V2 v = some (open Classical in if ∃ r ∈ v.Ratios, ratP r then 2 else if v.Kind = 2 ∧ (0 : UInt8) ∈ v.Text then 9 else 0) := by
   unfold V2
   rw [look_loop (F := fun next4 s => X5 v next4 s) v.Ratios ratP 2 (V4 v) (fun next k hk => ?_) (fun next => ?_), j2_plain hb]
   ·split <;> rfl
   ·show (_ → X5 v next (k : Int) = _) ∧ (_ → X5 v next (k : Int) = _)
    have := hb.2.2
    unfold X5 ratP
    rw [cI, if_pos (by omega), Qz hk, Jb, out_tag, Jb, cI, out_tag, Jb, cI]
    constructor
    ·intro e
     by_cases h1 : v.Ratios[k].Num < 0 ∨ 4294967295 < v.Ratios[k].Num
     ·rw [if_pos h1]
     ·rw [if_neg h1, if_pos (e.resolve_left h1)]
    ·intro e
     rw [if_neg (fun h => e (.inl h)), if_neg (fun h => e (.inr h)), Jy (by omega), Jb]
   ·show X5 v next (v.Ratios.length : Int) = _
    unfold X5
    rw [cI, if_neg (by omega)]
  rw [e1]; split <;> rfl
 ·show (_ → X7 v _ next (k : Int) = _) ∧ (_ → X7 v _ next (k : Int) = _)
  have := hb.2.1
  unfold X7
  rw [cI, if_pos (by omega), Qz hk, Jb, out_tag, Jb, cI]
  constructor
  ·intro e; rw [if_pos e]
  ·intro e; rw [if_neg e, Jy (by omega), Jb]
 ·show X7 v _ next (v.Ints.length : Int) = _
  unfold X7
  rw [cI, if_neg (by omega)]
end Go.M

/- Directories checked, values as octets, in plain Lean. Conditions: none. -/
namespace Go.M
open Go.Md Go.Pl
def szD : Nat → List T_tag_Entry → Nat
 | 0, _ => 0
 | d + 1, l => (l.map fun e => 1 + e.Value.Text.length + e.Value.Ints.length + e.Value.Ratios.length + szD d e.Value.Entries).sum
def szE (d : Nat) (e : T_tag_Entry) : Nat := 1 + e.Value.Text.length + e.Value.Ints.length + e.Value.Ratios.length + szD d e.Value.Entries
theorem szD_nil (d : Nat) : szD (d + 1) [] = 0 := rfl
theorem Jas (d : Nat) (e : T_tag_Entry) (l : List T_tag_Entry) : szD (d + 1) (e :: l) = szE d e + szD (d + 1) l := by
 simp only [szD, szE, List.map_cons, List.sum_cons]
theorem szD_mem {d : Nat} {e : T_tag_Entry} : ∀ {l : List T_tag_Entry}, e ∈ l → szE d e ≤ szD (d + 1) l
 | [], h => by cases h
 | x :: l, h => by
  rw [Jas]
  rcases List.mem_cons.1 h with h | h
  ·subst h; omega
  ·have := szD_mem (d := d) h; omega
theorem vB_of {d : Nat} {e : T_tag_Entry} {l : List T_tag_Entry} (h : szD (d + 1) l ≤ 2000000) (he : e ∈ l) : vB e.Value ∧ szD d e.Value.Entries ≤ 2000000 := by
 have := szD_mem (d := d) he
 unfold szE at this
 unfold vB
 omega
def prevT (l : List T_tag_Entry) : Nat → Option Int
 | 0 => none
 | k + 1 => (l[k]?).map (·.Tag)
def lowP (pr : Option Int) (e : T_tag_Entry) : Prop := ∃ t, pr = some t ∧ e.Tag ≤ t
noncomputable def listE (f : T_tag_Entry → Int) : Option Int → List T_tag_Entry → Int
 | _, [] => 0
 | pr, e :: l => open Classical in if e.Tag < 0 ∨ 65535 < e.Tag then 2 else if lowP pr e then 5 else if f e ≠ 0 then f e else listE f (some e.Tag) l
theorem list_loop {G : (Int → Option Int) → Int → Option Int} (l : List T_tag_Entry) (f : T_tag_Entry → Int)
  (more : ∀ (next : Int → Option Int) (k : Nat) (hk : k < l.length), G next (k : Int) = open Classical in if l[k].Tag < 0 ∨ 65535 < l[k].Tag then some 2 else if lowP (prevT l k) l[k] then some 5 else if f l[k] ≠ 0 then some (f l[k]) else next ((k : Int) + 1))
  (stop : ∀ next, G next (l.length : Int) = some 0) : V8 G 0 = some (listE f none l) := by
 have key : ∀ m i : Nat, i + m = l.length → V8 G (i : Int) = some (listE f (prevT l i) (l.drop i)) := by
  intro m
  induction m with
  | zero =>
   intro i hi
   have : i = l.length := by omega
   subst this
   rw [List.drop_length]
   exact Qb stop
  | succ m ih =>
   intro i hi
   have hlt : i < l.length := by omega
   rw [List.drop_eq_getElem_cons hlt]
   unfold listE
   by_cases h1 : l[i].Tag < 0 ∨ 65535 < l[i].Tag
   ·rw [if_pos h1]
    exact Qb fun next => by rw [more next i hlt, if_pos h1]
   rw [if_neg h1]
   by_cases h2 : lowP (prevT l i) l[i]
   ·rw [if_pos h2]
    exact Qb fun next => by rw [more next i hlt, if_neg h1, if_pos h2]
   rw [if_neg h2]
   by_cases h3 : f l[i] ≠ 0
   ·rw [if_pos h3]
    exact Qb fun next => by rw [more next i hlt, if_neg h1, if_neg h2, if_pos h3]
   rw [if_neg h3, Q0 ((i : Int) + 1) (fun next => by rw [more next i hlt, if_neg h1, if_neg h2, if_neg h3])]
   have := ih (i + 1) (by omega)
   have e1 : prevT l (i + 1) = some l[i].Tag := by show (l[i]?).map _ = _; rw [List.getElem?_eq_getElem hlt]; rfl
   rw [e1] at this
   exact this
 have := key l.length 0 (by omega)
 rw [List.drop_zero] at this
 exact this
theorem listE_zero {f : T_tag_Entry → Int} : ∀ {l : List T_tag_Entry} {pr : Option Int}, listE f pr l = 0 → ∀ e ∈ l, f e = 0
 | [], _, _, e, he => by cases he
 | x :: l, pr, h, e, he => by
  unfold listE at h
  split at h
  ·omega
  split at h
  ·omega
  split at h
  ·rename_i h1; exact absurd h h1
  ·rename_i h1
   rcases List.mem_cons.1 he with h' | h'
   ·subst h'; simpa using h1
   ·exact listE_zero h e h'
noncomputable def dE : Nat → List T_tag_Entry → Int
 | 0, _ => 4
 | d + 1, l => if 200 < l.length then 4 else listE (fun e => if e.Value.Kind ≠ 13 then plainE e.Value else if Vv e.Value ≠ 0 then Vv e.Value else dE d e.Value.Entries) none l
theorem low_step {α : Type} {l : List T_tag_Entry} {k : Nat} (hk : k < l.length) (hl : l.length ≤ 1000) (J : Option α) (x : α) :
  Ql (decide (0 < (k : Int))) (Jr (gI ((k : Int) - 1)) fun t => Jr (Yp l t) fun t35 => Ql (decide (l[k].Tag ≤ t35.Tag)) (some x) J) J = open Classical in if lowP (prevT l k) l[k] then some x else J := by
 rw [cI]
 cases k with
 | zero =>
  rw [if_neg (by omega), if_neg]
  rintro ⟨t, h, _⟩
  cases h
 | succ k =>
  have e : prevT l (k + 1) = some l[k].Tag := by show (l[k]?).map _ = _; rw [List.getElem?_eq_getElem (by omega)]; rfl
  rw [if_pos (by omega), Jy (by omega), Jb, show (((k + 1 : Nat) : Int) - 1) = (k : Int) from by omega, Qz (by omega), Jb, cI, e]
  by_cases h : l[k + 1].Tag ≤ l[k].Tag
  ·rw [if_pos h, if_pos ⟨_, rfl, h⟩]
  ·rw [if_neg h, if_neg]
   rintro ⟨t, ht, h'⟩
   cases ht
   exact h h'
theorem checkDir_eq (d : Nat) (l : List T_tag_Entry) (deep : Int) (hd : deep = 6 - (d : Int)) (h5 : d ≤ 5) (hz : szD d l ≤ 2000000) : Jar l deep = some (dE d l) := by
 unfold Jar
 refine fix_ofG (fun d (a : List T_tag_Entry × Int) => some (dE d a.1)) (fun d a => a.2 = 6 - (d : Int) ∧ d ≤ 5 ∧ szD d a.1 ≤ 2000000) (fun d => d) ?_ d (l, deep) ⟨hd, h5, hz⟩
 rintro next d ⟨l, deep⟩ ⟨hd, h5, hz⟩ ih
 simp only at hd hz
 show Yj next l deep = some (dE d l)
 unfold Yj
 rw [cI, cI]
 cases d with
 | zero => rw [if_pos (by omega)]; rfl
 | succ d =>
  rw [if_neg (by omega)]
  unfold dE
  by_cases hl : 200 < l.length
  ·rw [if_pos (by omega), if_pos hl]
  rw [if_neg (by omega), if_neg hl]
  refine list_loop l _ (fun nx k hk => ?_) (fun nx => ?_)
  ·obtain ⟨hb, hzn⟩ := vB_of hz (List.getElem_mem hk)
   unfold Ww
   rw [cI, if_pos (by omega), Qz hk, Jb, out_tag, Jb, cI]
   by_cases h1 : l[k].Tag < 0 ∨ 65535 < l[k].Tag
   ·rw [if_pos h1, if_pos h1]
   rw [if_neg h1, if_neg h1, low_step hk (by omega)]
   congr 1
   unfold U9
   have e3 : ∀ x : Int, Vp (k : Int) nx x = if x ≠ 0 then some x else nx ((k : Int) + 1) := fun x => by
    unfold Vp; rw [cI, Jy (by omega), Jb]
   rw [cI]
   by_cases h13 : l[k].Value.Kind ≠ 13
   ·rw [if_pos h13, checkPlain_eq hb, Jb, e3]; simp only [if_pos h13]
   ·rw [if_neg h13, checkFields_eq, Jb, cI]
    simp only [if_neg h13]
    by_cases hf : Vv l[k].Value = 0
    ·have := ih d (l[k].Value.Entries, deep + 1) ⟨by show deep + 1 = _; omega, by omega, hzn⟩ (by omega)
     rw [if_pos hf, Jy (by omega), Jb, this, Jb, e3, if_neg (show ¬ Vv l[k].Value ≠ 0 from fun h => h hf)]
    ·rw [if_neg hf, e3]; simp [hf]
  ·unfold Ww
   rw [cI, if_neg (by omega)]
theorem fields13 {v : T_tag_Value} (h : v.Kind = 13) : Vv v = open Classical in if v.Text ≠ [] ∨ v.Ints ≠ [] ∨ v.Ratios ≠ [] then 1 else 0 := by
 unfold Vv
 rw [if_neg (show ¬ ¬ kindP v.Kind from fun x => x (.inr (.inr (.inr h))))]
 congr 1
 apply propext
 unfold formP intsK textK
 rw [h]
 constructor
 ·rintro (⟨_, a⟩ | ⟨_, a⟩ | ⟨_, a⟩ | ⟨a, _⟩)
  ·exact .inr (.inl a)
  ·exact .inl a
  ·exact .inr (.inr a)
  ·exact absurd rfl a
 ·rintro (a | a | a)
  ·exact .inr (.inl ⟨by omega, a⟩)
  ·exact .inl ⟨by omega, a⟩
  ·exact .inr (.inr (.inl ⟨by omega, a⟩))
def okV (v : T_tag_Value) : Prop := kindP v.Kind ∧ ¬ formP v
def okD : Nat → List T_tag_Entry → Prop
 | 0, _ => False
 | d + 1, l => l.length ≤ 200 ∧ ∀ e ∈ l, okV e.Value ∧ (e.Value.Kind = 13 → okD d e.Value.Entries)
theorem fields_ok {v : T_tag_Value} (h : Vv v = 0) : okV v := by
 unfold Vv at h
 split at h
 ·omega
 split at h
 ·omega
 rename_i h1 h2
 exact ⟨Classical.byContradiction h1, h2⟩
theorem dE_ok : ∀ {d : Nat} {l : List T_tag_Entry}, dE d l = 0 → okD d l := by
 intro d
 induction d with
 | zero => intro l h; unfold dE at h; omega
 | succ d ih =>
  intro l h
  unfold dE at h
  split at h
  ·omega
  rename_i hl
  refine ⟨by omega, fun e he => ?_⟩
  have := listE_zero h e he
  split at this
  ·rename_i h13
   refine ⟨?_, fun h => absurd h h13⟩
   unfold plainE at this
   split at this
   ·rename_i h1; exact absurd this h1
   ·rename_i h1; exact fields_ok (by simpa using h1)
  ·split at this
   ·rename_i h1; exact absurd this h1
   ·rename_i h1; exact ⟨fields_ok (by simpa using h1), fun _ => ih this⟩
theorem fold_ofStr {α : Type} (g : α → List UInt8) : ∀ (xs : List α) (a : List UInt8), xs.foldl (fun s x => s ++ J7 (g x)) (J7 a) = J7 (a ++ xs.flatMap g)
 | [], a => by simp
 | x :: xs, a => by rw [List.foldl_cons, ← Yn, fold_ofStr g xs]; simp
noncomputable def ratS (big : Bool) (r : T_tag_Ratio) : List UInt8 := Xp big r.Num 4 ++ Xp big r.Den 4
noncomputable def Ui (big : Bool) (v : T_tag_Value) : List UInt8 :=
 if v.Kind = 2 then v.Text ++ [0] else if v.Kind = 7 then v.Text else if v.Kind = 5 then v.Ratios.flatMap (ratS big) else v.Ints.flatMap fun n => Xp big n (Qy v.Kind)
def cntS (v : T_tag_Value) : Nat := if v.Kind = 2 then v.Text.length + 1 else if v.Kind = 7 then v.Text.length else if v.Kind = 5 then v.Ratios.length else if v.Kind = 13 then 1 else v.Ints.length
theorem Jab {α : Type} {g : α → List UInt8} {w : Nat} (h : ∀ x, (g x).length = w) : ∀ xs : List α, (xs.flatMap g).length = xs.length * w
 | [] => by simp
 | x :: xs => by rw [List.flatMap_cons, List.length_append, h, Jab h xs, List.length_cons, Nat.add_mul]; omega
theorem ratS_len (big : Bool) (r : T_tag_Ratio) : (ratS big r).length = 8 := by
 unfold ratS; rw [List.length_append, Qj _ _ (by omega), Qj _ _ (by omega)]
theorem octS_len (big : Bool) {v : T_tag_Value} (hv : okV v) (h13 : v.Kind ≠ 13) : (Ui big v).length = cntS v * Qy v.Kind := by
 unfold Ui cntS
 by_cases h2 : v.Kind = 2
 ·rw [if_pos h2, if_pos h2, List.length_append, h2]; simp [Qy]
 rw [if_neg h2, if_neg h2]
 by_cases h7 : v.Kind = 7
 ·rw [if_pos h7, if_pos h7, h7]; simp [Qy]
 rw [if_neg h7, if_neg h7]
 by_cases h5 : v.Kind = 5
 ·rw [if_pos h5, if_pos h5, h5, Jab (ratS_len big)]; rfl
 rw [if_neg h5, if_neg h5, if_neg h13, Jab (w := Qy v.Kind) (fun n => Qj _ _ (wideN_le _))]
theorem octS_le (big : Bool) (v : T_tag_Value) : (Ui big v).length ≤ 1 + v.Text.length + 8 * v.Ints.length + 8 * v.Ratios.length := by
 unfold Ui
 split
 ·rw [List.length_append, List.length_singleton]; omega
 split
 ·omega
 split
 ·rw [Jab (ratS_len big)]; omega
 ·rw [Jab (w := Qy v.Kind) (fun n => Qj _ _ (wideN_le _))]
  have := Nat.mul_le_mul_left v.Ints.length (wideN_le v.Kind)
  omega
theorem count_eq {v : T_tag_Value} (hb : vB v) : Yd v = some (cntS v : Int) := by
 unfold Yd cntS
 have := hb.1
 rw [cI, cI, cI, cI]
 by_cases h2 : v.Kind = 2
 ·rw [if_pos h2, if_pos h2, Jy (by omega), Jb]; rfl
 by_cases h7 : v.Kind = 7
 ·rw [if_neg h2, if_pos h7, if_neg h2, if_pos h7]
 by_cases h5 : v.Kind = 5
 ·rw [if_neg h2, if_neg h7, if_pos h5, if_neg h2, if_neg h7, if_pos h5]
 by_cases h13 : v.Kind = 13
 ·rw [if_neg h2, if_neg h7, if_neg h5, if_pos h13, if_neg h2, if_neg h7, if_neg h5, if_pos h13]; rfl
 rw [if_neg h2, if_neg h7, if_neg h5, if_neg h13, if_neg h2, if_neg h7, if_neg h5, if_neg h13]
theorem ok_parts {v : T_tag_Value} (hv : okV v) : (¬ intsK v.Kind → v.Ints = []) ∧ (¬ textK v.Kind → v.Text = []) ∧ (v.Kind ≠ 5 → v.Ratios = []) := by
 obtain ⟨_, hf⟩ := hv
 unfold formP at hf
 refine ⟨fun h => ?_, fun h => ?_, fun h => ?_⟩
 ·exact Classical.byContradiction fun e => hf (.inl ⟨h, e⟩)
 ·exact Classical.byContradiction fun e => hf (.inr (.inl ⟨h, e⟩))
 ·exact Classical.byContradiction fun e => hf (.inr (.inr (.inl ⟨h, e⟩)))
theorem tag_ratios {big : Bool} {v : T_tag_Value} (hb : vB v) (a : List UInt8) (ha : a.length ≤ 16000000) : Uy big v (J7 a) = some (J7 (a ++ v.Ratios.flatMap (ratS big))) := by
 unfold Uy
 have hr := hb.2.2
 rw [← fold_ofStr]
 refine fix_list (F := fun next2 s => Z7 big v next2 s.1 s.2) v.Ratios (fun s r => s ++ J7 (ratS big r)) some (fun k s => s.length ≤ a.length + 8 * k) (fun next k s hk hs => ?_) (fun next s hs => ?_) _ (by rw [Qd]; omega)
 ·refine ⟨?_, by show (s ++ _).length ≤ _; rw [List.length_append, Qd, ratS_len]; omega⟩
  show Z7 big v next (k : Int) s = _
  unfold Z7
  have l1 : (J7 (Xp big v.Ratios[k].Num 4)).length = 4 := by rw [Qd, Qj _ _ (by omega)]
  have l2 : (J7 (Xp big v.Ratios[k].Den 4)).length = 4 := by rw [Qd, Qj _ _ (by omega)]
  rw [cI, if_pos (by omega), Qz hk, Jb, tag4, Jb, Yl (by omega), Jb, tag4, Jb, Yl (by rw [List.length_append]; omega), Jb, Jy (by omega), Jb]
  unfold ratS
  rw [Yn, List.append_assoc]
 ·show Z7 big v next (v.Ratios.length : Int) s = _
  unfold Z7
  rw [cI, if_neg (by omega)]
theorem octets_eq {big : Bool} {v : T_tag_Value} (hb : vB v) (hv : okV v) (h13 : v.Kind ≠ 13) : Xz big v = some (J7 (Ui big v)) := by
 have hb' := hb
 obtain ⟨b1, b2, b3⟩ := hb'
 obtain ⟨p1, p2, p3⟩ := ok_parts hv
 unfold Xz Ui
 rw [cI, cI]
 by_cases h2 : v.Kind = 2
 ·rw [if_pos h2, if_pos h2, gByt_ok (by omega), Jb, gApL_ok (by rw [Qd, List.length_singleton]; omega), Jb, Yn]; rfl
 by_cases h7 : v.Kind = 7
 ·rw [if_neg h2, if_pos h7, if_neg h2, if_pos h7, gByt_ok (by omega), Jb]
 rw [if_neg h2, if_neg h7, if_neg h2, if_neg h7]
 have hloop := fix_list (F := fun next3 s => Z3 big v next3 s.1 s.2) v.Ints (fun s n => s ++ J7 (Xp big n (Qy v.Kind))) (Uy big v) (fun k s => s.length ≤ 8 * k) (fun next k s hk hs => by
   have hw := wideN_le v.Kind
   have l1 : (J7 (Xp big v.Ints[k] (Qy v.Kind))).length = Qy v.Kind := by rw [Qd, Qj _ _ hw]
   refine ⟨?_, by show (s ++ _).length ≤ _; rw [List.length_append, l1]; omega⟩
   show Z3 big v next (k : Int) s = _
   unfold Z3
   rw [cI, if_pos (by omega), Qz hk, Jb, sizeOf_eq, Jb, if_neg h13, num_tag _ _ hw, Jb, Yl (by omega), Jb, Jy (by omega), Jb]) (fun next s hs => by
   show Z3 big v next (v.Ints.length : Int) s = _
   unfold Z3
   rw [cI, if_neg (by omega)]) [] (by simp)
 rw [hloop, show ([] : List Int) = J7 [] from rfl, fold_ofStr, List.nil_append]
 have hlen : (v.Ints.flatMap fun n => Xp big n (Qy v.Kind)).length ≤ 16000000 := by
  rw [Jab (w := Qy v.Kind) (fun n => Qj _ _ (wideN_le _))]
  have := Nat.mul_le_mul_left v.Ints.length (wideN_le v.Kind)
  omega
 rw [tag_ratios hb _ hlen]
 by_cases h5 : v.Kind = 5
 ·rw [if_pos h5, p1 (by rw [h5]; unfold intsK; omega)]; rfl
 ·rw [if_neg h5, p3 h5, List.flatMap_nil, List.append_nil]
end Go.M

/- Directories and files written, in plain Lean; the law TagWrites. Conditions: none. -/
namespace Go.M
open Go.Md Go.Pl
def zer (n : Nat) : List UInt8 := List.replicate n 0
def ev (p : Nat) : Nat := p + p % 2
def pad (p : Nat) : List UInt8 := zer (p % 2)
def put (s : List UInt8) (at_ : Nat) (b : List UInt8) : List UInt8 := s.take at_ ++ b ++ s.drop (at_ + b.length)
theorem Wb (n : Nat) : (zer n).length = n := List.length_replicate
theorem pad_len (p : Nat) : (pad p).length = p % 2 := Wb _
theorem ofStr_zer4 : J7 (zer 4) = [0, 0, 0, 0] := rfl
theorem zer_add (a b : Nat) : zer (a + b) = zer a ++ zer b := List.replicate_append_replicate.symm
theorem put_len {s : List UInt8} {a : Nat} {b : List UInt8} (h : a + b.length ≤ s.length) : (put s a b).length = s.length := by
 unfold put
 simp only [List.length_append, List.length_take, List.length_drop]; omega
theorem put_at (A B C b : List UInt8) (h : b.length = B.length) {a : Nat} (ha : a = A.length) : put (A ++ B ++ C) a b = A ++ b ++ C := by
 subst ha
 unfold put
 rw [h, List.append_assoc A B C, List.take_left' rfl, ← List.append_assoc A B C, List.drop_left' (by rw [List.length_append])]
theorem ofStr_take (s : List UInt8) (n : Nat) : (J7 s).take n = J7 (s.take n) := List.map_take.symm
theorem ofStr_drop (s : List UInt8) (n : Nat) : (J7 s).drop n = J7 (s.drop n) := List.map_drop.symm
theorem cpy_put {s b : List UInt8} {a : Int} {m : Nat} {p : Nat} (ha : a = (p : Int)) (hm : b.length ≤ m) : cpyL (J7 s) a m (J7 b) = J7 (put s p b) := by
 subst ha
 unfold cpyL put
 have h1 : (J7 b).take m = J7 b := List.take_of_length_le (by rw [Qd]; exact hm)
 rw [Int.toNat_natCast, Qd, Nat.min_eq_right hm, h1, ofStr_take, ofStr_drop, Yn, Yn, List.append_assoc]
theorem set_eq4 {big : Bool} {s : List UInt8} {a n : Int} {p : Nat} (ha : a = (p : Int)) (h : p + 4 ≤ s.length) : Vf ⟨big, J7 s⟩ a n = some ⟨big, J7 (put s p (Xp big n 4))⟩ := by
 unfold Vf
 dsimp only
 rw [Yb (by rw [Qd]; omega), Jb, tag4, Jb]
 rw [cpy_put ha (by rw [Qj _ _ (by omega), List.length_drop, Qd]; omega)]
theorem begin_eq {big : Bool} {s : List UInt8} (hs : s.length ≤ 1099511627776) : Wi ⟨big, J7 s⟩ = some (((ev s.length : Nat) : Int), ⟨big, J7 (s ++ pad s.length)⟩) := by
 unfold Wi V9 ev pad
 dsimp only
 rw [gRem_ok (by omega), Jb, cI, Qd]
 have e : ((s.length : Int)).tmod 2 = ((s.length % 2 : Nat) : Int) := by rw [Int.tmod_eq_emod_of_nonneg (by omega)]; omega
 by_cases h : s.length % 2 = 0
 ·rw [e, if_neg (by omega), h]
  simp [zer]
 ·have h1 : s.length % 2 = 1 := by omega
  rw [e, if_pos (by omega), Yl (by rw [Qd, List.length_singleton]; omega), Jb, h1, Yn]
  simp only [List.length_append, Qd, List.length_singleton]
  rfl
noncomputable def hdrS (big : Bool) (e : T_tag_Entry) : List UInt8 := Xp big e.Tag 2 ++ Xp big e.Value.Kind 2 ++ Xp big (cntS e.Value) 4
theorem hdr_len (big : Bool) (e : T_tag_Entry) : (hdrS big e).length = 8 := by
 unfold hdrS; rw [List.length_append, List.length_append, Qj _ _ (by omega), Qj _ _ (by omega), Qj _ _ (by omega)]
noncomputable def entF (G : List T_tag_Entry → Nat → List UInt8) (big : Bool) (e : T_tag_Entry) (q : Nat) : List UInt8 × List UInt8 :=
 if e.Value.Kind = 13 then (Xp big (ev q) 4, G e.Value.Entries q)
 else if (Ui big e.Value).length ≤ 4 then (Ui big e.Value ++ zer (4 - (Ui big e.Value).length), [])
 else (Xp big (ev q) 4, pad q ++ Ui big e.Value)
theorem entF_len (G : List T_tag_Entry → Nat → List UInt8) (big : Bool) (e : T_tag_Entry) (q : Nat) : (entF G big e q).1.length = 4 := by
 unfold entF
 split
 ·exact Qj _ _ (by omega)
 split
 ·rw [List.length_append, Wb]; omega
 ·exact Qj _ _ (by omega)
noncomputable def bods (G : List T_tag_Entry → Nat → List UInt8) (big : Bool) : List T_tag_Entry → Nat → List UInt8 × List UInt8
 | [], _ => ([], [])
 | e :: l, q => (hdrS big e ++ (entF G big e q).1 ++ (bods G big l (q + (entF G big e q).2.length)).1, (entF G big e q).2 ++ (bods G big l (q + (entF G big e q).2.length)).2)
theorem bods_len (G : List T_tag_Entry → Nat → List UInt8) (big : Bool) : ∀ (l : List T_tag_Entry) (q : Nat), (bods G big l q).1.length = 12 * l.length
 | [], _ => rfl
 | e :: l, q => by
  unfold bods
  rw [List.length_append, List.length_append, hdr_len, entF_len, bods_len G big l, List.length_cons]; omega
noncomputable def dirB (G : List T_tag_Entry → Nat → List UInt8) (big : Bool) (l : List T_tag_Entry) (p : Nat) : List UInt8 :=
 pad p ++ Xp big l.length 2 ++ (bods G big l (ev p + 2 + 12 * l.length + 4)).1 ++ zer 4 ++ (bods G big l (ev p + 2 + 12 * l.length + 4)).2
noncomputable def Q4 : Nat → Bool → List T_tag_Entry → Nat → List UInt8
 | 0, _ => fun _ _ => []
 | d + 1, big => dirB (Q4 d big) big
theorem dirB_len (G : List T_tag_Entry → Nat → List UInt8) (big : Bool) (l : List T_tag_Entry) (p : Nat) : p + (dirB G big l p).length = ev p + 2 + 12 * l.length + 4 + (bods G big l (ev p + 2 + 12 * l.length + 4)).2.length := by
 unfold dirB ev
 simp only [List.length_append, pad_len, Qj _ _ (show 2 ≤ 8 by omega), bods_len, Wb]; omega
theorem dirS_le (big : Bool) : ∀ (d : Nat) (l : List T_tag_Entry) (p : Nat), (Q4 d big l p).length ≤ 8 + 32 * szD d l := by
 intro d
 induction d with
 | zero => intro l p; exact Nat.zero_le _
 | succ d ih =>
  intro l p
  have hb : ∀ (l : List T_tag_Entry) (q : Nat), (bods (Q4 d big) big l q).2.length + 12 * l.length ≤ 32 * szD (d + 1) l := by
   intro l
   induction l with
   | nil => intro q; exact Nat.zero_le _
   | cons e l ih2 =>
    intro q
    unfold bods
    rw [List.length_append, List.length_cons, Jas]
    have h1 := ih2 (q + (entF (Q4 d big) big e q).2.length)
    have h2 : (entF (Q4 d big) big e q).2.length + 12 ≤ 32 * szE d e := by
     unfold entF szE
     split
     ·have := ih e.Value.Entries q; simp only; omega
     split
     ·simp only [List.length_nil]; omega
     ·have := octS_le big e.Value
      simp only [List.length_append, pad_len]; omega
    omega
  have h1 := dirB_len (Q4 d big) big l p
  have h2 := hb l (ev p + 2 + 12 * l.length + 4)
  show (dirB (Q4 d big) big l p).length ≤ _
  have h3 : ev p ≤ p + 1 := by unfold ev; omega
  omega
noncomputable def hzS (big : Bool) (l : List T_tag_Entry) : List UInt8 := l.flatMap fun e => hdrS big e ++ zer 4
theorem hz_len (big : Bool) (l : List T_tag_Entry) : (hzS big l).length = 12 * l.length := by
 unfold hzS
 rw [Jab (w := 12) (fun e => by rw [List.length_append, hdr_len, Wb])]; omega
theorem heads_loop {big : Bool} {l : List T_tag_Entry} (hl : l.length ≤ 200) (hv : ∀ e ∈ l, vB e.Value) {self : T_tag_writer × List T_tag_Entry → Option (Int × Int × T_tag_writer)} {t15 : Int × T_tag_writer} (ht : t15.2.big_ = big) (s : List UInt8) (hs : s.length ≤ 1099511627776) :
  V8 (fun next5 a => X9 l self t15 next5 a.1 a.2) (0, J7 s) = Vt l self t15 (J7 (s ++ hzS big l)) := by
 unfold hzS
 rw [← fold_ofStr]
 refine fix_list (F := fun next5 a => X9 l self t15 next5 a.1 a.2) l (fun s e => s ++ J7 (hdrS big e ++ zer 4)) (Vt l self t15) (fun k a => a.length ≤ s.length + 12 * k) (fun next k a hk ha => ?_) (fun next a ha => ?_) _ (by rw [Qd]; omega)
 ·refine ⟨?_, by show (a ++ _).length ≤ _; rw [List.length_append, Qd, List.length_append, hdr_len, Wb]; omega⟩
  show X9 l self t15 next (k : Int) a = _
  unfold X9
  have n2 : ∀ n, (J7 (Xp big n 2)).length = 2 := fun n => by rw [Qd, Qj _ _ (by omega)]
  have n4 : ∀ n, (J7 (Xp big n 4)).length = 4 := fun n => by rw [Qd, Qj _ _ (by omega)]
  rw [cI, if_pos (by omega), Qz hk, Jb, ht, tag2, Jb, Yl (by rw [n2]; omega), Jb, tag2, Jb, Yl (by rw [List.length_append, n2, n2]; omega), Jb, count_eq (hv _ (List.getElem_mem hk)), Jb, tag4, Jb, Yl (by rw [List.length_append, List.length_append, n2, n2, n4]; omega), Jb, Yl (by rw [List.length_append, List.length_append, List.length_append, n2, n2, n4]; simp; omega), Jb, Jy (by omega), Jb]
  unfold hdrS
  rw [Yn, Yn, Yn, ofStr_zer4]
  simp only [List.append_assoc]
 ·show X9 l self t15 next (l.length : Int) a = _
  unfold X9
  rw [cI, if_neg (by omega)]
theorem prog_loop {big : Bool} {l : List T_tag_Entry} (hl : l.length ≤ 200) (hv : ∀ e ∈ l, okV e.Value ∧ vB e.Value) {G : List T_tag_Entry → Nat → List UInt8} {self : T_tag_writer × List T_tag_Entry → Option (Int × Int × T_tag_writer)}
  (hself : ∀ e ∈ l, e.Value.Kind = 13 → ∀ s : List UInt8, s.length + (G e.Value.Entries s.length).length ≤ 1099511627776 → ∃ q, self (⟨big, J7 s⟩, e.Value.Entries) = some (((ev s.length : Nat) : Int), q, ⟨big, J7 (s ++ G e.Value.Entries s.length)⟩))
  {t15 : Int × T_tag_writer} {at_ : Nat} (ht : t15.1 = (at_ : Int)) (L : List Int) :
  ∀ (l2 : List T_tag_Entry) (i : Nat) (X Y : List UInt8), i + l2.length = l.length → l.drop i = l2 → X.length = at_ + 2 + 12 * i → X.length + 12 * l2.length + 4 + Y.length + (bods G big l2 (X.length + 12 * l2.length + 4 + Y.length)).2.length ≤ 1099511627776 →
   V8 (fun next3 a => Ym l self t15 L next3 a.1 a.2.1 a.2.2) ((i : Int), big, J7 (X ++ hzS big l2 ++ zer 4 ++ Y)) = some (t15.1, (L.length : Int), ⟨big, J7 (X ++ (bods G big l2 (X.length + 12 * l2.length + 4 + Y.length)).1 ++ zer 4 ++ Y ++ (bods G big l2 (X.length + 12 * l2.length + 4 + Y.length)).2)⟩) := by
 intro l2
 induction l2 with
 | nil =>
  intro i X Y hi _ hX hM
  refine Qb fun next => ?_
  show Ym l self t15 L next (i : Int) big _ = _
  unfold Ym
  rw [cI, if_neg (by rw [List.length_nil] at hi; omega)]
  unfold Jal bods hzS
  simp
 | cons e l2 ih =>
  intro i X Y hi hd hX hM
  have hlt : i < l.length := by rw [List.length_cons] at hi; omega
  have he : l[i] = e := by have := List.drop_eq_getElem_cons hlt; rw [hd] at this; injection this with h1 h2; exact h1.symm
  have hd' : l.drop (i + 1) = l2 := by have := List.drop_eq_getElem_cons hlt; rw [hd] at this; injection this with h1 h2; exact h2.symm
  have hmem : e ∈ l := he ▸ List.getElem_mem hlt
  obtain ⟨hok, hvb⟩ := hv e hmem
  generalize hp : X.length + 12 * (e :: l2).length + 4 + Y.length = p at hM ⊢
  rw [List.length_cons] at hp hi
  unfold bods at hM ⊢
  simp only at hM ⊢
  generalize hF : entF G big e p = F at hM ⊢
  obtain ⟨f, b⟩ := F
  have hf4 : f.length = 4 := by have := entF_len G big e p; rw [hF] at this; exact this
  simp only at hM ⊢
  rw [List.length_append] at hM
  have hS : (X ++ hzS big (e :: l2) ++ zer 4 ++ Y).length = p := by
   simp only [List.length_append, hz_len, Wb, List.length_cons]; omega
  have hsplit : ∀ Z : List UInt8, X ++ hzS big (e :: l2) ++ zer 4 ++ Y ++ Z = (X ++ hdrS big e) ++ zer 4 ++ (hzS big l2 ++ zer 4 ++ Y ++ Z) := fun Z => by
   unfold hzS
   rw [List.flatMap_cons]
   simp only [List.append_assoc]
  have hpos : (at_ : Int) + 2 + 12 * (i : Int) + 8 = ((X ++ hdrS big e).length : Int) := by
   rw [List.length_append, hdr_len]; omega
  have hround : ∀ next : Int × Bool × List Int → Option (Int × Int × T_tag_writer), Ym l self t15 L next (i : Int) big (J7 (X ++ hzS big (e :: l2) ++ zer 4 ++ Y)) = next (((i + 1 : Nat) : Int), big, J7 ((X ++ hdrS big e ++ f) ++ hzS big l2 ++ zer 4 ++ (Y ++ b))) := fun next => by
   unfold Ym
   have e4 : ∀ a m, Zq (i : Int) next a m = next (((i + 1 : Nat) : Int), a, m) := fun a m => by
    unfold Zq; rw [Jy (by omega), Jb]; rfl
   rw [cI, if_pos (by omega), Qz hlt, Jb, he, ht, Jy (by omega), Jb, Jy (by omega), Jb, Jy (by omega), Jb, Jy (by omega), Jb, cI]
   unfold entF at hF
   by_cases h13 : e.Value.Kind = 13
   ·rw [if_pos h13] at hF ⊢
    injection hF with hF1 hF2
    obtain ⟨q, hq⟩ := hself e hmem h13 (X ++ hzS big (e :: l2) ++ zer 4 ++ Y) (by rw [hS, hF2]; omega)
    rw [hq, Jb]
    simp only
    rw [hS, hF2, set_eq4 (p := (X ++ hdrS big e).length) hpos (by rw [hsplit]; simp only [List.length_append, Wb]; omega), Jb, e4, hF1, hsplit, put_at _ _ _ _ (by rw [hf4, Wb]) rfl]
    simp only [List.append_assoc]
   ·rw [if_neg h13] at hF ⊢
    rw [octets_eq hvb hok h13, Jb, cI, Qd]
    by_cases ho : (Ui big e.Value).length ≤ 4
    ·rw [if_pos ho] at hF
     injection hF with hF1 hF2
     have hpn : ((at_ : Int) + 2 + 12 * (i : Int) + 8).toNat = X.length + 8 := by omega
     rw [if_pos (by omega), Yb (by rw [Qd, hS]; omega), Jb, e4, cpy_put (p := (X ++ hdrS big e).length) hpos (by rw [List.length_drop, Qd, hS, hpn]; omega)]
     have h0 := hsplit []
     rw [List.append_nil] at h0
     have hz : zer 4 = zer (Ui big e.Value).length ++ zer (4 - (Ui big e.Value).length) := by rw [← zer_add]; congr 1; omega
     have h1 : ∀ R, (X ++ hdrS big e) ++ zer 4 ++ R = (X ++ hdrS big e) ++ zer (Ui big e.Value).length ++ (zer (4 - (Ui big e.Value).length) ++ R) := fun R => by
      rw [hz]
      simp only [List.append_assoc]
     rw [h0]
     rw [h1, put_at _ _ _ _ (by rw [Wb]) rfl, ← hF1, ← hF2]
     simp only [List.append_assoc, List.append_nil]
    ·rw [if_neg ho] at hF
     injection hF with hF1 hF2
     rw [if_neg (by omega), begin_eq (by rw [hS]; omega), Jb]
     simp only
     have hol := octS_le big e.Value
     rw [hS, set_eq4 (p := (X ++ hdrS big e).length) hpos (by rw [hsplit]; simp only [List.length_append, Wb]; omega), Jb]
     simp only
     rw [Yl (by rw [Qd, Qd, put_len (by rw [hsplit, Qj _ _ (by omega)]; simp only [List.length_append, Wb]; omega), List.length_append, hS, pad_len]; rw [← hF2, List.length_append, pad_len] at hM; omega), Jb, e4, hsplit, put_at _ _ _ _ (by rw [Qj _ _ (by omega), Wb]) rfl, ← Yn, ← hF1, ← hF2]
     simp only [List.append_assoc]
  rw [Q0 _ hround]
  have hq : (X ++ hdrS big e ++ f).length + 12 * l2.length + 4 + (Y ++ b).length = p + b.length := by
   simp only [List.length_append, hdr_len, hf4]; omega
  have := ih (i + 1) (X ++ hdrS big e ++ f) (Y ++ b) (by omega) hd' (by simp only [List.length_append, hdr_len, hf4]; omega) (by rw [hq]; omega)
  rw [this, hq]
  simp only [List.append_assoc]
end Go.M

/- Directories and files written by both, in plain Lean. Conditions: none. -/
namespace Go.M
open Go.Md Go.Pl
theorem dir_eq (d : Nat) (big : Bool) (s : List UInt8) (l : List T_tag_Entry) (hok : okD d l) (hz : szD d l ≤ 2000000) (hM : s.length + (Q4 d big l s.length).length ≤ 1099511627776) :
  Jan ⟨big, J7 s⟩ l = some (((ev s.length : Nat) : Int), ((ev s.length + 2 + 12 * l.length : Nat) : Int), ⟨big, J7 (s ++ Q4 d big l s.length)⟩) := by
 unfold Jan
 have := fix_ofG (F := fun (self : (T_tag_writer × List T_tag_Entry) → Option (Int × Int × T_tag_writer)) (s : T_tag_writer × List T_tag_Entry) => X4 self s.1 s.2)
  (fun (g : Nat × Bool × List UInt8) (a : T_tag_writer × List T_tag_Entry) => some (((ev g.2.2.length : Nat) : Int), ((ev g.2.2.length + 2 + 12 * a.2.length : Nat) : Int), ⟨g.2.1, J7 (g.2.2 ++ Q4 g.1 g.2.1 a.2 g.2.2.length)⟩))
  (fun g a => a.1 = ⟨g.2.1, J7 g.2.2⟩ ∧ okD g.1 a.2 ∧ szD g.1 a.2 ≤ 2000000 ∧ g.2.2.length + (Q4 g.1 g.2.1 a.2 g.2.2.length).length ≤ 1099511627776) (fun g => g.1) ?_ (d, big, s) (⟨big, J7 s⟩, l) ⟨rfl, hok, hz, hM⟩
 ·exact this
 rintro next ⟨d, big, s⟩ ⟨w, l⟩ ⟨hw, hok, hz, hM⟩ ih
 simp only at hw hok hz hM ih ⊢
 subst hw
 cases d with
 | zero => exact hok.elim
 | succ d =>
  obtain ⟨hl, hall⟩ := hok
  have hM' := dirB_len (Q4 d big) big l s.length
  have hMM : s.length + (dirB (Q4 d big) big l s.length).length ≤ 1099511627776 := hM
  unfold X4
  have hev : ev s.length = (s ++ pad s.length).length := by rw [List.length_append, pad_len]; rfl
  rw [begin_eq (by omega), Jb]
  dsimp only
  rw [tag2, Jb, Yl (by rw [Qd, Qd, ← hev, Qj _ _ (by omega)]; omega), Jb, ← Yn]
  have hX : (s ++ pad s.length ++ Xp big l.length 2).length = ev s.length + 2 := by rw [List.length_append, ← hev, Qj _ _ (by omega)]
  rw [heads_loop hl (fun e he => (vB_of hz he).1) rfl _ (by rw [hX]; omega)]
  unfold Vt
  dsimp only
  rw [Yl (by rw [Qd, List.length_append, hX, hz_len]; simp; omega), Jb, ← ofStr_zer4, ← Yn]
  have := prog_loop (big := big) hl (fun e he => ⟨(hall e he).1, (vB_of hz he).1⟩) (G := Q4 d big) (self := next) (fun e he h13 s' hs' => ⟨_, ih (d, big, s') (⟨big, J7 s'⟩, e.Value.Entries) ⟨rfl, (hall e he).2 h13, (vB_of hz he).2, hs'⟩ (by simp)⟩)
   (t15 := (((ev s.length : Nat) : Int), ⟨big, J7 (s ++ pad s.length)⟩)) (at_ := ev s.length) rfl (J7 (s ++ pad s.length ++ Xp big l.length 2 ++ hzS big l)) l 0 (s ++ pad s.length ++ Xp big l.length 2) [] (by omega) rfl (by rw [hX]) (by rw [hX, List.length_nil, Nat.add_zero]; omega)
  rw [List.append_nil] at this
  refine this.trans ?_
  rw [hX, Qd, List.length_append, hX, hz_len, List.length_nil, Nat.add_zero, List.append_nil]
  show some _ = some (_, _, (⟨big, J7 (s ++ dirB (Q4 d big) big l s.length)⟩ : T_tag_writer))
  unfold dirB
  simp only [List.append_assoc]
end Go.M

/- Files written and checked; the law TagWrites, in plain Lean. Conditions: none. -/
namespace Go.M
open Go.Md Go.Pl
theorem even_eq (p : Nat) (hp : p ≤ 4611686018427387904) : tag_even (p : Int) = some ((ev p : Nat) : Int) := by
 unfold tag_even ev
 have e : ((p : Int)).tmod 2 = ((p % 2 : Nat) : Int) := by rw [Int.tmod_eq_emod_of_nonneg (by omega)]; omega
 rw [gRem_ok (by omega), Jb, e, Jy (by omega), Jb]; rfl
theorem octetsOf_eq {v : T_tag_Value} (hb : vB v) (hok : okV v) (h13 : v.Kind ≠ 13) (big : Bool) : Wq v = some ((Ui big v).length : Int) := by
 unfold Wq
 have h1 := octS_le big v
 have h2 := octS_len big hok h13
 obtain ⟨b1, b2, b3⟩ := hb
 rw [count_eq ⟨b1, b2, b3⟩, Jb, sizeOf_eq, Jb, if_neg h13, ← Int.natCast_mul, ← h2, Jy (by omega), Jb]
theorem dirEnd_eq (big : Bool) (d : Nat) (l : List T_tag_Entry) (p : Nat) (hok : okD d l) (hz : szD d l ≤ 2000000) (hM : p + (Q4 d big l p).length ≤ 1099511627776) :
  tag_dirEnd l (p : Int) = some (((p + (Q4 d big l p).length : Nat)) : Int) := by
 unfold tag_dirEnd
 have := fix_ofG (F := fun (self : (List T_tag_Entry × Int) → Option Int) (s : List T_tag_Entry × Int) => Y7 self s.1 s.2)
  (fun (g : Nat × Nat) (a : List T_tag_Entry × Int) => some (((g.2 + (Q4 g.1 big a.1 g.2).length : Nat)) : Int))
  (fun g a => a.2 = (g.2 : Int) ∧ okD g.1 a.1 ∧ szD g.1 a.1 ≤ 2000000 ∧ g.2 + (Q4 g.1 big a.1 g.2).length ≤ 1099511627776) (fun g => g.1) ?_ (d, p) (l, (p : Int)) ⟨rfl, hok, hz, hM⟩
 ·exact this
 rintro next ⟨d, p⟩ ⟨l, a⟩ ⟨hw, hok, hz, hM⟩ ih
 simp only at hw hok hz hM ih ⊢
 subst hw
 cases d with
 | zero => exact hok.elim
 | succ d =>
  obtain ⟨hl, hall⟩ := hok
  have hM' := dirB_len (Q4 d big) big l p
  have hMM : p + (dirB (Q4 d big) big l p).length ≤ 1099511627776 := hM
  unfold Y7
  rw [even_eq p (by omega), Jb, Jy (by omega), Jb, Jy (by omega), Jb, Jy (by omega), Jb, Jy (by omega), Jb]
  have key : ∀ (l2 : List T_tag_Entry) (i q : Nat), i + l2.length = l.length → l.drop i = l2 → q + (bods (Q4 d big) big l2 q).2.length ≤ 1099511627776 → V8 (fun next1 s => Z9 l next next1 s.1 s.2) ((q : Int), (i : Int)) = some (((q + (bods (Q4 d big) big l2 q).2.length : Nat)) : Int) := by
   intro l2
   induction l2 with
   | nil =>
    intro i q hi _ _
    refine Qb fun nx => ?_
    show Z9 l next nx (q : Int) (i : Int) = _
    unfold Z9
    rw [cI, if_neg (by rw [List.length_nil] at hi; omega)]
    rfl
   | cons e l2 ih2 =>
    intro i q hi hd hq
    have hlt : i < l.length := by rw [List.length_cons] at hi; omega
    have he : l[i] = e := by have := List.drop_eq_getElem_cons hlt; rw [hd] at this; injection this with h1 h2; exact h1.symm
    have hd' : l.drop (i + 1) = l2 := by have := List.drop_eq_getElem_cons hlt; rw [hd] at this; injection this with h1 h2; exact h2.symm
    have hmem : e ∈ l := he ▸ List.getElem_mem hlt
    have hvb := (vB_of hz hmem).1
    have hok := (hall e hmem).1
    rw [List.length_cons] at hi
    unfold bods at hq ⊢
    simp only at hq ⊢
    generalize hF : entF (Q4 d big) big e q = F at hq ⊢
    obtain ⟨f, b⟩ := F
    simp only at hq ⊢
    rw [List.length_append] at hq ⊢
    have hround : ∀ nx : Int × Int → Option Int, Z9 l next nx (q : Int) (i : Int) = nx (((q + b.length : Nat) : Int), ((i + 1 : Nat) : Int)) := fun nx => by
     unfold Z9
     have e2 : ∀ x, W0 (i : Int) nx x = nx (x, ((i + 1 : Nat) : Int)) := fun x => by
      unfold W0; rw [Jy (by omega), Jb]; rfl
     rw [cI, if_pos (by omega), Qz hlt, Jb, he, cI]
     unfold entF at hF
     by_cases h13 : e.Value.Kind = 13
     ·rw [if_pos h13] at hF ⊢
      obtain ⟨_, hF2⟩ := Prod.mk.inj hF
      have := ih (d, q) (e.Value.Entries, (q : Int)) ⟨rfl, (hall e hmem).2 h13, (vB_of hz hmem).2, by show q + (Q4 d big e.Value.Entries q).length ≤ _; rw [hF2]; omega⟩ (by simp)
      rw [this, Jb, e2]
      show nx (((q + (Q4 d big e.Value.Entries q).length : Nat) : Int), _) = _
      rw [hF2]
     ·rw [if_neg h13] at hF ⊢
      rw [octetsOf_eq hvb hok h13 big, Jb, cI, e2]
      by_cases ho : (Ui big e.Value).length ≤ 4
      ·rw [if_pos ho] at hF
       obtain ⟨_, hF2⟩ := Prod.mk.inj hF
       rw [if_neg (by omega), ← hF2]; rfl
      ·rw [if_neg ho] at hF
       obtain ⟨_, hF2⟩ := Prod.mk.inj hF
       have hbl : b.length = q % 2 + (Ui big e.Value).length := by rw [← hF2, List.length_append, pad_len]
       rw [if_pos (by omega), even_eq q (by omega), Jb, Jb, Jy (by unfold ev; omega), Jb, e2, hbl]
       congr 2
       unfold ev; omega
    rw [Q0 _ hround, ih2 (i + 1) (q + b.length) (by omega) hd' (by omega)]
    congr 2
    omega
  have := key l 0 (ev p + 2 + 12 * l.length + 4) (by omega) rfl (by omega)
  have e0 : ((ev p : Nat) : Int) + 2 + 12 * (l.length : Int) + 4 = ((ev p + 2 + 12 * l.length + 4 : Nat) : Int) := by omega
  rw [e0]
  refine this.trans ?_
  rw [← hM']
  rfl
noncomputable def filS (big : Bool) : List (List T_tag_Entry) → List UInt8 → Nat → List UInt8
 | [], s, _ => s
 | l :: ls, s, link => filS big ls (put (s ++ Q4 5 big l s.length) link (Xp big ((ev s.length : Nat) : Int) 4)) (ev s.length + 2 + 12 * l.length)
noncomputable def lenF (big : Bool) : List (List T_tag_Entry) → Nat → Nat
 | [], p => p
 | l :: ls, p => lenF big ls (p + (Q4 5 big l p).length)
def szL : List (List T_tag_Entry) → Nat
 | [] => 0
 | l :: ls => 8 + 32 * szD 5 l + szL ls
def dirsOk (ls : List (List T_tag_Entry)) : Prop := ∀ l ∈ ls, okD 5 l ∧ szD 5 l ≤ 2000000
theorem dir5_len {big : Bool} {l : List T_tag_Entry} {p : Nat} : ev p + 2 + 12 * l.length + 4 ≤ p + (Q4 5 big l p).length := by
 have := dirB_len (Q4 4 big) big l p
 show _ ≤ p + (dirB (Q4 4 big) big l p).length
 omega
theorem filS_len (big : Bool) : ∀ (ls : List (List T_tag_Entry)) (s : List UInt8) (link : Nat), link + 4 ≤ s.length → (filS big ls s link).length = lenF big ls s.length
 | [], _, _, _ => rfl
 | l :: ls, s, link, h => by
  unfold filS lenF
  have h5 := dir5_len (big := big) (l := l) (p := s.length)
  have hp : (put (s ++ Q4 5 big l s.length) link (Xp big ((ev s.length : Nat) : Int) 4)).length = s.length + (Q4 5 big l s.length).length := by
   rw [put_len (by rw [Qj _ _ (by omega), List.length_append]; omega), List.length_append]
  rw [filS_len big ls _ _ (by rw [hp]; omega), hp]
theorem oct_loop (f : T_tag_File) (hok : dirsOk f.Dirs) (hn : f.Dirs.length ≤ 20) : ∀ (ls : List (List T_tag_Entry)) (i : Nat) (s : List UInt8) (link : Nat), i + ls.length = f.Dirs.length → f.Dirs.drop i = ls → link + 4 ≤ s.length → s.length + szL ls ≤ 549755813888 →
  V8 (fun next3 a => Zf f next3 a.1 a.2.1 a.2.2.1 a.2.2.2) ((link : Int), (i : Int), f.Big, J7 s) = some (filS f.Big ls s link) := by
 intro ls
 induction ls with
 | nil =>
  intro i s link hi _ _ _
  rw [List.length_nil] at hi
  refine Qb fun next => ?_
  ·show Zf f next _ (i : Int) f.Big (J7 s) = _
   unfold Zf
   rw [cI, if_neg (by omega)]
   unfold tag_written_j2 filS
   rw [toStr_ofStr]
 | cons l ls ih =>
  intro i s link hi hd hlk hsz
  rw [List.length_cons] at hi
  have hlt : i < f.Dirs.length := by omega
  have he : f.Dirs[i] = l := by have := List.drop_eq_getElem_cons hlt; rw [hd] at this; injection this with h1 h2; exact h1.symm
  have hd' : f.Dirs.drop (i + 1) = ls := by have := List.drop_eq_getElem_cons hlt; rw [hd] at this; injection this with h1 h2; exact h2.symm
  obtain ⟨o1, o2⟩ := hok l (he ▸ List.getElem_mem hlt)
  unfold szL at hsz
  have hle := dirS_le f.Big 5 l s.length
  have h5 := dir5_len (big := f.Big) (l := l) (p := s.length)
  have hl200 : l.length ≤ 200 := o1.1
  have hp : (put (s ++ Q4 5 f.Big l s.length) link (Xp f.Big ((ev s.length : Nat) : Int) 4)).length = s.length + (Q4 5 f.Big l s.length).length := by
   rw [put_len (by rw [Qj _ _ (by omega), List.length_append]; omega), List.length_append]
  have a2 := ih (i + 1) (put (s ++ Q4 5 f.Big l s.length) link (Xp f.Big ((ev s.length : Nat) : Int) 4)) (ev s.length + 2 + 12 * l.length) (by omega) hd' (by rw [hp]; omega) (by rw [hp]; omega)
  have hev : ev s.length ≤ s.length + 1 := by unfold ev; omega
  ·refine Eq.trans (Q0 _ fun next => ?_) a2
   show Zf f next (link : Int) (i : Int) f.Big (J7 s) = _
   unfold Zf
   rw [cI, if_pos (by omega), Qz hlt, Jb, he, dir_eq 5 f.Big s l o1 o2 (by omega), Jb]
   show Jr (Vf ⟨f.Big, J7 (s ++ Q4 5 f.Big l s.length)⟩ _ _) _ = _
   rw [set_eq4 (p := link) rfl (by rw [List.length_append]; omega), Jb, Jy (by omega), Jb]
   rfl
noncomputable def headS (big : Bool) : List UInt8 := (if big then [77, 77] else [73, 73]) ++ Xp big 42 2 ++ zer 4
theorem Wg (big : Bool) : (headS big).length = 8 := by
 unfold headS
 rw [List.length_append, List.length_append, Qj _ _ (by omega), Wb]
 cases big <;> rfl
noncomputable def octF (f : T_tag_File) : List UInt8 := filS f.Big f.Dirs (headS f.Big) 4
theorem octF_len (f : T_tag_File) : (octF f).length = lenF f.Big f.Dirs 8 := by
 unfold octF; rw [filS_len _ _ _ _ (by rw [Wg]; omega), Wg]
theorem written_eq {f : T_tag_File} (hok : dirsOk f.Dirs) (hn : f.Dirs.length ≤ 20) (hsz : szL f.Dirs ≤ 274877906944) : tag_written f = some (octF f) := by
 have key : ∀ m : List UInt8, m.length = 2 → m ++ Xp f.Big 42 2 ++ zer 4 = headS f.Big → Uj f (J7 m) = some (octF f) := fun m hm hh => by
  unfold Uj
  have l2 : (J7 (Xp f.Big 42 2)).length = 2 := by rw [Qd, Qj _ _ (by omega)]
  rw [tag2, Jb, gApN_ok (by rw [l2, Qd, hm]; omega), Jb, Yl (by rw [List.length_append, l2, Qd, hm]; simp), Jb, ← Yn, ← ofStr_zer4, ← Yn, hh, Qd, List.length_append, hm, Qj _ _ (by omega)]
  exact (oct_loop f hok hn f.Dirs 0 (headS f.Big) 4 (by omega) rfl (by rw [Wg]; omega) (by rw [Wg]; omega))
 unfold tag_written
 cases h : f.Big
 ·rw [Qf, show ([73, 73] : List Int) = J7 [73, 73] from rfl, key [73, 73] rfl (by rw [h]; rfl)]
 ·rw [X0, show ([77, 77] : List Int) = J7 [77, 77] from rfl, key [77, 77] rfl (by rw [h]; rfl)]
theorem size_eq {f : T_tag_File} (hok : dirsOk f.Dirs) (hn : f.Dirs.length ≤ 20) (hsz : szL f.Dirs ≤ 274877906944) : tag_size f = some ((octF f).length : Int) := by
 rw [octF_len]
 unfold tag_size
 have key : ∀ (ls : List (List T_tag_Entry)) (i p : Nat), i + ls.length = f.Dirs.length → f.Dirs.drop i = ls → p + szL ls ≤ 549755813888 → V8 (fun next1 s => Wm f next1 s.1 s.2) ((p : Int), (i : Int)) = some (lenF f.Big ls p : Int) := by
  intro ls
  induction ls with
  | nil =>
   intro i p hi _ _
   rw [List.length_nil] at hi
   refine Qb fun next => ?_
   show Wm f next (p : Int) (i : Int) = _
   unfold Wm
   rw [cI, if_neg (by omega)]; rfl
  | cons l ls ih =>
   intro i p hi hd hs
   rw [List.length_cons] at hi
   have hlt : i < f.Dirs.length := by omega
   have he : f.Dirs[i] = l := by have := List.drop_eq_getElem_cons hlt; rw [hd] at this; injection this with h1 h2; exact h1.symm
   have hd' : f.Dirs.drop (i + 1) = ls := by have := List.drop_eq_getElem_cons hlt; rw [hd] at this; injection this with h1 h2; exact h2.symm
   obtain ⟨o1, o2⟩ := hok l (he ▸ List.getElem_mem hlt)
   unfold szL at hs
   have hle := dirS_le f.Big 5 l p
   refine Eq.trans (Q0 (((p + (Q4 5 f.Big l p).length : Nat) : Int), ((i + 1 : Nat) : Int)) fun next => ?_) (ih (i + 1) (p + (Q4 5 f.Big l p).length) (by omega) hd' (by omega))
   show Wm f next (p : Int) (i : Int) = _
   unfold Wm
   rw [cI, if_pos (by omega), Qz hlt, Jb, he, dirEnd_eq f.Big 5 l p o1 o2 (by omega), Jb, Jy (by omega), Jb]
   rfl
 exact key f.Dirs 0 8 (by omega) rfl (by omega)
noncomputable def W4 : List (List T_tag_Entry) → Int
 | [] => 0
 | l :: ls => if dE 5 l ≠ 0 then dE 5 l else W4 ls
theorem firstD_ok : ∀ {ls : List (List T_tag_Entry)}, W4 ls = 0 → ∀ l ∈ ls, dE 5 l = 0
 | [], _, l, hl => by cases hl
 | x :: ls, h, l, hl => by
  unfold W4 at h
  split at h
  ·rename_i h1; exact absurd h h1
  ·rename_i h1
   rcases List.mem_cons.1 hl with h' | h'
   ·subst h'; simpa using h1
   ·exact firstD_ok h l h'
theorem scan_dirs {F : (Int → Option Int) → Int → Option Int} (ls : List (List T_tag_Entry)) (o : Option Int) (more : ∀ (next : Int → Option Int) (k : Nat) (hk : k < ls.length), F next (k : Int) = if dE 5 ls[k] ≠ 0 then some (dE 5 ls[k]) else next ((k : Int) + 1)) (stop : W4 ls = 0 → ∀ next, F next (ls.length : Int) = o) :
  V8 F 0 = if W4 ls ≠ 0 then some (W4 ls) else o := by
 have key : ∀ m i : Nat, i + m = ls.length → (W4 ls = W4 (ls.drop i)) → V8 F (i : Int) = if W4 ls ≠ 0 then some (W4 ls) else o := by
  intro m
  induction m with
  | zero =>
   intro i hi hf
   have : i = ls.length := by omega
   subst this
   rw [List.drop_length] at hf
   have h0 : W4 ls = 0 := hf
   rw [if_neg (by simpa using h0)]
   exact Qb (stop h0)
  | succ m ih =>
   intro i hi hf
   have hlt : i < ls.length := by omega
   rw [List.drop_eq_getElem_cons hlt] at hf
   unfold W4 at hf
   by_cases h : dE 5 ls[i] ≠ 0
   ·rw [if_pos h] at hf
    have : V8 F (i : Int) = some (dE 5 ls[i]) := Qb fun next => by rw [more next i hlt, if_pos h]
    have hf' : W4 ls = dE 5 ls[i] := by unfold W4; exact hf
    rw [this, hf', if_pos h]
   ·rw [if_neg h] at hf
    rw [Q0 ((i : Int) + 1) (fun next => by rw [more next i hlt, if_neg h])]
    exact ih (i + 1) (by omega) (by conv => lhs; unfold W4
                                    exact hf)
 exact key ls.length 0 (by omega) rfl
def fileB (f : T_tag_File) : Prop := (∀ l ∈ f.Dirs, szD 5 l ≤ 2000000) ∧ szL f.Dirs ≤ 274877906944
noncomputable def fileE (f : T_tag_File) : Int := if 20 < f.Dirs.length then 4 else if W4 f.Dirs ≠ 0 then W4 f.Dirs else if 65000 < (octF f).length then 4 else 0
theorem dirs_ok {f : T_tag_File} (hb : fileB f) (h : W4 f.Dirs = 0) : dirsOk f.Dirs := fun l hl => ⟨dE_ok (firstD_ok h l hl), hb.1 l hl⟩
theorem Check_eq {f : T_tag_File} (hb : fileB f) : Jaf f = some (fileE f) := by
 unfold Jaf fileE
 rw [cI]
 by_cases hn : 20 < f.Dirs.length
 ·rw [if_pos (by omega), if_pos hn]
 rw [if_neg (by omega), if_neg hn]
 rw [scan_dirs (F := fun next2 s => Vx f next2 s) f.Dirs (some (if 65000 < (octF f).length then 4 else 0)) (fun next k hk => ?_) (fun h0 next => ?_)]
 ·split <;> rfl
 ·show Vx f next (k : Int) = _
  unfold Vx
  rw [cI, if_pos (by omega), Qz hk, Jb, checkDir_eq 5 _ 1 (by omega) (by omega) (hb.1 _ (List.getElem_mem hk)), Jb, cI, Jy (by omega), Jb]
 ·show Vx f next (f.Dirs.length : Int) = _
  unfold Vx
  rw [cI, if_neg (by omega)]
  unfold tag_Check_j1
  rw [size_eq (dirs_ok hb h0) (by omega) hb.2, Jb, cI]
  by_cases h : 65000 < (octF f).length
  ·rw [if_pos (by omega), if_pos h]
  ·rw [if_neg (by omega), if_neg h]
theorem fileE_zero {f : T_tag_File} (hb : fileB f) (h : fileE f = 0) : dirsOk f.Dirs ∧ f.Dirs.length ≤ 20 := by
 unfold fileE at h
 split at h
 ·omega
 rename_i hn
 split at h
 ·rename_i h1; exact absurd h h1
 ·rename_i h1; exact ⟨dirs_ok hb (by simpa using h1), by omega⟩
theorem szL_eq : ∀ ls : List (List T_tag_Entry), szL ls = 8 * ls.length + 32 * (ls.map (szD 5)).sum
 | [] => rfl
 | l :: ls => by unfold szL; rw [szL_eq ls, List.map_cons, List.sum_cons, List.length_cons]; omega
theorem sz_in {l : List T_tag_Entry} : ∀ {ls : List (List T_tag_Entry)}, l ∈ ls → szD 5 l ≤ (ls.map (szD 5)).sum
 | [], h => by cases h
 | x :: ls, h => by
  rw [List.map_cons, List.sum_cons]
  rcases List.mem_cons.1 h with h | h
  ·subst h; omega
  ·have := sz_in h; omega
theorem fileB_of {f : T_tag_File} (h1 : f.Dirs.length ≤ 1048576) (h2 : (f.Dirs.map (szD 5)).sum ≤ 1048576) : fileB f :=
 ⟨fun l hl => by have := sz_in hl; omega, by rw [szL_eq]; omega⟩
end Go.M

/- Numbers and values read from octets, in plain Lean. Conditions: none. -/
namespace Go.M
open Go.Md Go.Pl
set_option linter.unusedVariables false
def valB (big : Bool) (bs : List UInt8) : Nat := (if big then bs else bs.reverse).foldl (fun v b => v * 256 + b.toNat) 0
theorem fold_bd : ∀ (L : List UInt8) (v : Nat), L.foldl (fun v b => v * 256 + b.toNat) v < (v + 1) * 256 ^ L.length
 | [], v => by simp
 | b :: L, v => by
  rw [List.foldl_cons, List.length_cons, Nat.pow_succ]
  have h := fold_bd L (v * 256 + b.toNat)
  have hb := b.toNat_lt
  have : (v * 256 + b.toNat + 1) * 256 ^ L.length ≤ ((v + 1) * 256) * 256 ^ L.length := Nat.mul_le_mul_right _ (by omega)
  calc _ < _ := h
   _ ≤ _ := this
   _ = _ := by rw [Nat.mul_assoc, Nat.mul_comm 256]
theorem valB_lt (big : Bool) (bs : List UInt8) : valB big bs < 256 ^ bs.length := by
 unfold valB
 have := fold_bd (if big then bs else bs.reverse) 0
 cases big <;> simpa using this
theorem valB4 (big : Bool) {bs : List UInt8} (h : bs.length ≤ 4) : valB big bs ≤ 4294967295 := by
 have := valB_lt big bs
 have h2 : 256 ^ bs.length ≤ 256 ^ 4 := Nat.pow_le_pow_right (by omega) h
 omega
theorem valB2 (big : Bool) {bs : List UInt8} (h : bs.length ≤ 2) : valB big bs ≤ 65535 := by
 have := valB_lt big bs
 have h2 : 256 ^ bs.length ≤ 256 ^ 2 := Nat.pow_le_pow_right (by omega) h
 omega
theorem or_byte {v b : Nat} (hv : v ≤ 16777216) (hb : b < 256) : V0 (bOr 64 ((v : Int) * 256) (b : Int)) = ((v * 256 + b : Nat) : Int) := by
 have e : bOr 64 ((v : Int) * 256) (b : Int) = ((v * 256 + b : Nat) : Int) := by
  unfold bOr
  rw [BitVec.toNat_or, show (v : Int) * 256 = ((v * 256 : Nat) : Int) by omega]
  have h1 : (BitVec.ofInt 64 ((v * 256 : Nat) : Int)).toNat = v * 256 := by rw [BitVec.ofInt_natCast, BitVec.toNat_ofNat, Nat.mod_eq_of_lt (by omega)]
  have h2 : (BitVec.ofInt 64 ((b : Nat) : Int)).toNat = b := by rw [BitVec.ofInt_natCast, BitVec.toNat_ofNat, Nat.mod_eq_of_lt (by omega)]
  rw [h1, h2]
  have := Nat.shiftLeft_add_eq_or_of_lt (i := 8) (b := b) (by omega) v
  rw [Nat.shiftLeft_eq] at this
  rw [← this]
 rw [e]
 unfold V0; omega
theorem numAt_eq (big : Bool) (s : List UInt8) {a k : Nat} (h : a + k ≤ s.length) (hk : k ≤ 4) (hs : s.length ≤ 65000) : Um big s (a : Int) (k : Int) = some (valB big ((s.drop a).take k) : Int) := by
 let L := if big then (s.drop a).take k else ((s.drop a).take k).reverse
 have hL : L.length = k := by
  show (if big then (s.drop a).take k else ((s.drop a).take k).reverse).length = k
  cases big <;> simp <;> omega
 have hi : ∀ i (hik : i < k), ∃ q : Nat, ∃ hq : q < k, q = (if big then i else k - 1 - i) ∧ s[a + q]'(by omega) = L[i]'(by omega) := by
  intro i hik
  cases big
  ·refine ⟨k - 1 - i, by omega, rfl, ?_⟩
   show _ = (((s.drop a).take k).reverse)[i]'_
   rw [List.getElem_reverse, List.getElem_take, List.getElem_drop]
   congr 2; simp; omega
  ·refine ⟨i, by omega, rfl, ?_⟩
   show _ = ((s.drop a).take k)[i]'_
   rw [List.getElem_take, List.getElem_drop]
 have key : ∀ m i v : Nat, i + m = k → v < 256 ^ i → V8 (fun next1 s' => Y6 big s a k next1 s'.1 s'.2) ((v : Int), (i : Int)) = some (((L.drop i).foldl (fun v b => v * 256 + b.toNat) v : Nat) : Int) := by
  intro m
  induction m with
  | zero =>
   intro i v him hv
   rw [List.drop_eq_nil_of_le (by omega)]
   refine Qb fun next => ?_
   show Y6 big s a k next (v : Int) (i : Int) = _
   unfold Y6
   rw [cI, if_neg (by omega)]; rfl
  | succ m ih =>
   intro i v him hv
   obtain ⟨q, hq, hqe, hsq⟩ := hi i (by omega)
   have hv4 : v < 16777216 := Nat.lt_of_lt_of_le hv (Nat.le_trans (Nat.pow_le_pow_right (by omega) (show i ≤ 3 by omega)) (by decide))
   have hb := (s[a + q]'(by omega)).toNat_lt
   rw [List.drop_eq_getElem_cons (show i < L.length by omega), List.foldl_cons]
   have hlt : v * 256 + (L[i]'(by omega)).toNat < 256 ^ (i + 1) := by
    rw [← hsq, Nat.pow_succ]; omega
   refine Eq.trans (Q0 _ fun next => ?_) (ih (i + 1) (v * 256 + (L[i]'(by omega)).toNat) (by omega) hlt)
   show Y6 big s a k next (v : Int) (i : Int) = _
   unfold Y6
   rw [cI, if_pos (by omega), Jy (by omega), Jb, Jy (by omega), Jb]
   have go : ∀ x : Int, x = (q : Int) → Wx s a v i next x = next (((v * 256 + (L[i]'(by omega)).toNat : Nat) : Int), ((i + 1 : Nat) : Int)) := by
    intro x hx
    subst hx
    unfold Wx
    have e8 : (2 : Int) ^ (8 : Int).toNat = 256 := by decide
    have hsh : gShl (v : Int) 8 = some ((v : Int) * 256) := by
     unfold gShl
     rw [if_pos ⟨by decide, by decide⟩, e8]
     exact Jy (by omega)
    rw [hsh, Jb, Jy (by omega), Jb, show (a : Int) + (q : Int) = ((a + q : Nat) : Int) by omega, gOct_nat (by omega), Jb]
    unfold gK
    rw [if_pos (by omega), Jb, Jy (by omega), Jb, or_byte (by omega) hb, hsq]
    rfl
   cases big
   ·rw [Qf]; exact go _ (by rw [hqe]; simp; omega)
   ·rw [X0]; exact go _ (by rw [hqe]; simp)
 unfold Um
 have := key k 0 0 (by omega) (by simp)
 rw [List.drop_zero] at this
 exact this
theorem number_eq (r : T_tag_reader) {a k : Nat} (h : a + k ≤ r.s_.length) (hk : k ≤ 4) (hs : r.s_.length ≤ 65000) : Jk r (a : Int) (k : Int) = some (valB r.big_ ((r.s_.drop a).take k) : Int) := by
 unfold Jk
 rw [numAt_eq _ _ h hk hs]; rfl
theorem number4 (r : T_tag_reader) {a : Nat} (h : a + 4 ≤ r.s_.length) (hs : r.s_.length ≤ 65000) : Jk r (a : Int) 4 = some (valB r.big_ ((r.s_.drop a).take 4) : Int) := number_eq (k := 4) r h (by omega) hs
theorem number2 (r : T_tag_reader) {a : Nat} (h : a + 2 ≤ r.s_.length) (hs : r.s_.length ≤ 65000) : Jk r (a : Int) 2 = some (valB r.big_ ((r.s_.drop a).take 2) : Int) := number_eq (k := 2) r h (by omega) hs
def fl (r : T_tag_reader) (e : Int) : T_tag_reader := if r.no_ = 0 then ⟨r.s_, r.big_, r.parts_, r.seen_, r.dirs_, r.found_, e⟩ else r
theorem Wa (r : T_tag_reader) (e : Int) : Qr r e = some (fl r e) := by
 unfold Qr fl
 rw [cI]; split <;> rfl
theorem fl_fl (r : T_tag_reader) {e : Int} (h : e ≠ 0) : fl (fl r e) e = fl r e := by
 unfold fl
 by_cases h0 : r.no_ = 0
 ·rw [if_pos h0, if_neg h]
 ·rw [if_neg h0, if_neg h0]
theorem fl_no (r : T_tag_reader) {e : Int} (h : e ≠ 0) : (fl r e).no_ ≠ 0 := by
 unfold fl
 split
 ·exact h
 ·assumption
theorem there_eq (r : T_tag_reader) {p n : Nat} (hn : n ≤ 1099511627776) (hs : r.s_.length ≤ 65000) : Vb r (p : Int) (n : Int) = some (decide (8 ≤ p ∧ p + n ≤ r.s_.length)) := by
 unfold Vb
 rw [cI, cI]
 by_cases h1 : 8 ≤ p
 ·rw [if_pos (by omega)]
  by_cases h2 : n ≤ r.s_.length
  ·rw [if_pos (by omega), Jy (by omega), Jb]
   congr 1
   rw [decide_eq_decide]; omega
  ·rw [if_neg (by omega)]
   congr 1; symm; rw [decide_eq_false_iff_not]; omega
 ·rw [if_neg (by omega)]
  congr 1; symm; rw [decide_eq_false_iff_not]; omega
def ratR (big : Bool) (b : List UInt8) (i : Nat) : T_tag_Ratio := ⟨(valB big ((b.drop (8 * i)).take 4) : Nat), (valB big ((b.drop (8 * i + 4)).take 4) : Nat)⟩
def intR (big : Bool) (k : Int) (b : List UInt8) (i : Nat) : Int := if k = 9 then V0 (wI32 (valB big ((b.drop (i * Qy k)).take (Qy k)))) else valB big ((b.drop (i * Qy k)).take (Qy k))
noncomputable def valT (r : T_tag_reader) (k : Int) (c : Nat) (b : List UInt8) : T_tag_Value × T_tag_reader := open Classical in
 if k = 2 then (if b = [] ∨ b.getLast? ≠ some 0 then (⟨2, [], [], [], []⟩, fl r 1) else (⟨2, b.dropLast, [], [], []⟩, if (0 : UInt8) ∈ b.dropLast then fl r 9 else r))
 else if k = 7 then (⟨7, b, [], [], []⟩, r)
 else if k = 5 then (⟨5, [], [], (List.range c).map (ratR r.big_ b), []⟩, r)
 else (⟨k, [], (List.range c).map (intR r.big_ k b), [], []⟩, r)
noncomputable def valR (r : T_tag_reader) (k : Int) (c a : Nat) : T_tag_Value × T_tag_reader :=
 if 4 < c * Qy k then
  let p := valB r.big_ ((r.s_.drop a).take 4)
  if 8 ≤ p ∧ p + c * Qy k ≤ r.s_.length then valT ⟨r.s_, r.big_, r.parts_ ++ [⟨(p : Int), ((p + c * Qy k : Nat) : Int)⟩], r.seen_, r.dirs_, r.found_, r.no_⟩ k c ((r.s_.drop p).take (c * Qy k))
  else (⟨0, [], [], [], []⟩, fl r 2)
 else valT r k c ((r.s_.drop a).take (c * Qy k))
theorem ascii_loop (t : List UInt8) (ht : t.length ≤ 65000) : ∀ (m i : Nat) (r : T_tag_reader), i + m = t.length →
  V8 (fun next1 s => Xd t next1 s.1 s.2.1 s.2.2.1 s.2.2.2.1 s.2.2.2.2.1 s.2.2.2.2.2.1 s.2.2.2.2.2.2.1 s.2.2.2.2.2.2.2) ((i : Int), r.s_, r.big_, r.dirs_, r.found_, r.no_, r.parts_, r.seen_) = some (t, open Classical in if (0 : UInt8) ∈ t.drop i then fl r 9 else r) := by
 intro m
 induction m with
 | zero =>
  intro i r hi
  rw [List.drop_eq_nil_of_le (by omega), if_neg (by simp)]
  refine Qb fun next => ?_
  show Xd t next (i : Int) _ _ _ _ _ _ _ = _
  unfold Xd
  rw [cI, if_neg (by omega)]
 | succ m ih =>
  intro i r hi
  have hb := (t[i]'(by omega)).toNat_lt
  rw [List.drop_eq_getElem_cons (show i < t.length by omega)]
  by_cases h0 : t[i]'(by omega) = 0
  ·have e : (open Classical in if (0 : UInt8) ∈ t[i]'(by omega) :: t.drop (i + 1) then fl r 9 else r) = (open Classical in if (0 : UInt8) ∈ t.drop (i + 1) then fl (fl r 9) 9 else fl r 9) := by
    rw [if_pos (by rw [h0]; simp), fl_fl _ (by decide)]; split <;> rfl
   rw [e]
   refine Eq.trans (Q0 _ fun next => ?_) (ih (i + 1) (fl r 9) (by omega))
   show Xd t next (i : Int) _ _ _ _ _ _ _ = _
   unfold Xd
   rw [cI, if_pos (by omega), gOct_nat (by omega), Jb, cI, if_pos (by rw [h0]; rfl), Wa, Jb]
   unfold Zx
   rw [Jy (by omega), Jb]; rfl
  ·have e : (open Classical in if (0 : UInt8) ∈ t[i]'(by omega) :: t.drop (i + 1) then fl r 9 else r) = (open Classical in if (0 : UInt8) ∈ t.drop (i + 1) then fl r 9 else r) := by
    simp only [List.mem_cons, show (0 : UInt8) = t[i]'(by omega) ↔ False from ⟨fun e => h0 e.symm, False.elim⟩, false_or]
   rw [e]
   refine Eq.trans (Q0 _ fun next => ?_) (ih (i + 1) r (by omega))
   show Xd t next (i : Int) _ _ _ _ _ _ _ = _
   unfold Xd
   rw [cI, if_pos (by omega), gOct_nat (by omega), Jb, cI, if_neg (fun e => h0 (UInt8.toNat_inj.1 (by have : ((t[i]'(by omega)).toNat : Int) = 0 := e; show _ = 0; omega)))]
   unfold Zx
   rw [Jy (by omega), Jb]; rfl
theorem ascii_eq (r : T_tag_reader) (t : List UInt8) (ht : t.length ≤ 65000) : Uo r t = some (open Classical in if t = [] ∨ t.getLast? ≠ some 0 then ([], fl r 1) else (t.dropLast, if (0 : UInt8) ∈ t.dropLast then fl r 9 else r)) := by
 unfold Uo
 rw [cI]
 by_cases h : t = []
 ·rw [if_pos h, if_pos (.inl h), Wa]; rfl
 ·have hl : 0 < t.length := List.length_pos_iff.2 h
  have hg : t.getLast? = some (t[t.length - 1]'(by omega)) := by rw [List.getLast?_eq_getElem?, List.getElem?_eq_getElem (by omega)]
  rw [if_neg h, Jy (by omega), Jb, show (t.length : Int) - 1 = ((t.length - 1 : Nat) : Int) by omega, gOct_nat (by omega), Jb, cI]
  by_cases h0 : t[t.length - 1]'(by omega) = 0
  ·rw [if_neg (by rw [h0]; decide), if_neg (by rw [hg, h0]; simp [h]), Jb, gCut_to (by omega), Jb, Int.toNat_natCast, ← List.dropLast_eq_take]
   have := ascii_loop t.dropLast (by rw [List.length_dropLast]; omega) t.dropLast.length 0 r (by omega)
   rw [List.drop_zero] at this
   exact this
  ·rw [if_pos (fun e => h0 (UInt8.toNat_inj.1 (by have : ((t[t.length - 1]'(by omega)).toNat : Int) = 0 := e; show _ = 0; omega))), if_pos (.inr (by rw [hg]; simpa using h0)), Wa]; rfl
theorem drop_in (s : List UInt8) {p n o k : Nat} (h : o + k ≤ n) : ((s.drop p).take n |>.drop o).take k = (s.drop (p + o)).take k := by
 rw [List.drop_take, List.take_take, List.drop_drop, Nat.min_eq_left (by omega)]
theorem wide_pos {k : Int} (h : Qy k ≠ 0) (h2 : k ≠ 2) (h7 : k ≠ 7) (h5 : k ≠ 5) : Qy k ≤ 4 ∧ 1 ≤ Qy k := by
 refine ⟨?_, by omega⟩
 unfold Qy
 (repeat' split) <;> omega
theorem value_j1 (r : T_tag_reader) {k : Int} {c p : Nat} (parts : List T_tag_Span) (hw : Qy k ≠ 0) (h13 : k ≠ 13) (hp : p + c * Qy k ≤ r.s_.length) (hs : r.s_.length ≤ 65000) :
  Zu r k (c : Int) ((c * Qy k : Nat) : Int) (p : Int) parts = some (valT ⟨r.s_, r.big_, parts, r.seen_, r.dirs_, r.found_, r.no_⟩ k c ((r.s_.drop p).take (c * Qy k))) := by
 have hcw : c ≤ c * Qy k := Nat.le_mul_of_pos_right _ (by omega)
 unfold Zu valT
 rw [cI, cI, cI]
 by_cases h2 : k = 2
 ·rw [if_pos h2, if_pos h2, Jy (by omega), Jb, gCut_ok (by omega), Jb, show ((p : Int) + ((c * Qy k : Nat) : Int)).toNat - (p : Int).toNat = c * Qy k by omega, Int.toNat_natCast, ascii_eq _ _ (by rw [List.length_take, List.length_drop]; omega), Jb, h2]
  split <;> rfl
 rw [if_neg h2, if_neg h2]
 by_cases h7 : k = 7
 ·rw [if_pos h7, if_pos h7, Jy (by omega), Jb, gCut_ok (by omega), Jb, show ((p : Int) + ((c * Qy k : Nat) : Int)).toNat - (p : Int).toNat = c * Qy k by omega, Int.toNat_natCast, h7]
  rfl
 rw [if_neg h7, if_neg h7]
 by_cases h5 : k = 5
 ·rw [if_pos h5, if_pos h5]
  have hw8 : Qy k = 8 := by rw [h5]; rfl
  rw [hw8] at hp ⊢
  have := fix_list (F := fun next3 s => X3 r k (c : Int) (p : Int) parts next3 s.1 s.2) (List.range c) (fun l i => l ++ [ratR r.big_ ((r.s_.drop p).take (c * 8)) i]) (fun l => some ((⟨k, [], [], l, []⟩ : T_tag_Value), (⟨r.s_, r.big_, parts, r.seen_, r.dirs_, r.found_, r.no_⟩ : T_tag_reader))) (fun i l => l.length = i)
   (fun next i l hi hl => by
    have hic : i < c := by rw [List.length_range] at hi; exact hi
    refine ⟨?_, by rw [List.length_append, hl]; rfl⟩
    rw [List.getElem_range]
    show X3 r k (c : Int) (p : Int) parts next (i : Int) l = _
    unfold X3
    rw [cI, if_pos (by omega), Jy (by omega), Jb, Jy (by omega), Jb, show (p : Int) + 8 * (i : Int) = ((p + 8 * i : Nat) : Int) by omega, number4 ⟨r.s_, r.big_, parts, r.seen_, r.dirs_, r.found_, r.no_⟩ (by show _ ≤ r.s_.length; omega) hs, Jb, Jb, Jy (by omega), Jb, Jy (by omega), Jb]
    rw [show (p : Int) + 8 * (i : Int) + 4 = ((p + (8 * i + 4) : Nat) : Int) by omega, number4 ⟨r.s_, r.big_, parts, r.seen_, r.dirs_, r.found_, r.no_⟩ (by show _ ≤ r.s_.length; omega) hs, Jb, Yl (by rw [hl]; simp; omega), Jb, Jy (by omega), Jb]
    unfold ratR
    rw [drop_in _ (by omega), drop_in _ (by omega)])
   (fun next l hl => by
    rw [List.length_range]
    show X3 r k (c : Int) (p : Int) parts next (c : Int) l = _
    unfold X3
    rw [cI, if_neg (by omega)]; rfl) [] rfl
  rw [foldl_app] at this
  rw [this, h5]; rfl
 ·rw [if_neg h5, if_neg h5]
  obtain ⟨w4, w1⟩ := wide_pos hw h2 h7 h5
  have := fix_list (F := fun next4 s => X2 r k (c : Int) (p : Int) parts next4 s.1 s.2) (List.range c) (fun l i => l ++ [intR r.big_ k ((r.s_.drop p).take (c * Qy k)) i]) (fun l => some ((⟨k, [], l, [], []⟩ : T_tag_Value), (⟨r.s_, r.big_, parts, r.seen_, r.dirs_, r.found_, r.no_⟩ : T_tag_reader))) (fun i l => l.length = i)
   (fun next i l hi hl => by
    have hic : i < c := by rw [List.length_range] at hi; exact hi
    have hiw : i * Qy k + Qy k ≤ c * Qy k := by
     have := Nat.mul_le_mul_right (Qy k) (show i + 1 ≤ c by omega)
     rw [Nat.add_mul] at this; omega
    refine ⟨?_, by rw [List.length_append, hl]; rfl⟩
    rw [List.getElem_range]
    show X2 r k (c : Int) (p : Int) parts next (i : Int) l = _
    unfold X2
    have esz : Zc k = some ((Qy k : Nat) : Int) := by rw [sizeOf_eq, if_neg h13]
    rw [cI, if_pos (by omega), esz, Jb, show (i : Int) * ((Qy k : Nat) : Int) = ((i * Qy k : Nat) : Int) by rw [Int.natCast_mul], Jy (by omega), Jb, Jy (by omega), Jb, Jb,
     show (p : Int) + ((i * Qy k : Nat) : Int) = ((p + i * Qy k : Nat) : Int) by omega, number_eq ⟨r.s_, r.big_, parts, r.seen_, r.dirs_, r.found_, r.no_⟩ (by show _ ≤ r.s_.length; omega) w4 hs, Jb, cI]
    have go : ∀ x : Int, x = intR r.big_ k ((r.s_.drop p).take (c * Qy k)) i → Zv (i : Int) l next x = next ((i : Int) + 1, l ++ [intR r.big_ k ((r.s_.drop p).take (c * Qy k)) i]) := by
     intro x hx
     unfold Zv
     rw [Yl (by rw [hl]; simp; omega), Jb, Jy (by omega), Jb, hx]
    have hd : ((r.s_.drop p).take (c * Qy k) |>.drop (i * Qy k)).take (Qy k) = (r.s_.drop (p + i * Qy k)).take (Qy k) := drop_in _ hiw
    by_cases h9 : k = 9
    ·rw [if_pos h9]; exact go _ (by unfold intR; rw [if_pos h9, hd])
    ·rw [if_neg h9]; exact go _ (by unfold intR; rw [if_neg h9, hd]))
   (fun next l hl => by
    rw [List.length_range]
    show X2 r k (c : Int) (p : Int) parts next (c : Int) l = _
    unfold X2
    rw [cI, if_neg (by omega)]; rfl) [] rfl
  rw [foldl_app] at this
  rw [this]; rfl
theorem value_eq (r : T_tag_reader) {k : Int} {c a : Nat} (hw : Qy k ≠ 0) (h13 : k ≠ 13) (hc : c ≤ 4294967295) (ha : a + 4 ≤ r.s_.length) (hs : r.s_.length ≤ 65000) (hp : r.parts_.length ≤ 8000000000000) :
  Us r k (c : Int) (a : Int) = some (valR r k c a) := by
 have hcw : c * Qy k ≤ 4294967295 * 8 := Nat.mul_le_mul hc (wideN_le k)
 unfold Us valR
 rw [sizeOf_eq, if_neg h13, Jb, show (c : Int) * ((Qy k : Nat) : Int) = ((c * Qy k : Nat) : Int) by rw [Int.natCast_mul], Jy (by omega), Jb, cI]
 by_cases h4 : 4 < c * Qy k
 ·rw [if_pos (by omega), if_pos h4, number4 _ ha hs, Jb, there_eq _ (by omega) hs, Jb]
  have hv := valB4 r.big_ (bs := (r.s_.drop a).take 4) (by rw [List.length_take]; omega)
  by_cases ht : 8 ≤ valB r.big_ ((r.s_.drop a).take 4) ∧ valB r.big_ ((r.s_.drop a).take 4) + c * Qy k ≤ r.s_.length
  ·rw [decide_eq_true ht, Bool.not_true, Qf, Jy (by omega), Jb, Yl (by simp; omega), Jb, value_j1 r _ hw h13 ht.2 hs]
   simp only [if_pos ht]
   rfl
  ·rw [decide_eq_false ht, Bool.not_false, X0, Wa, Jb]
   simp only [if_neg ht]
 ·rw [if_neg (by omega), if_neg h4, value_j1 r _ hw h13 (by omega) hs]
end Go.M

/- Directories read from octets, in plain Lean. Conditions: none. -/
namespace Go.M
open Go.Md Go.Pl
set_option linter.unusedVariables false
abbrev SelfD := (T_tag_reader × Int × (List Int)) → Option ((List T_tag_Entry) × Int × T_tag_reader)
abbrev Xe (r : T_tag_reader) (a k : Nat) : Nat := valB r.big_ ((r.s_.drop a).take k)
theorem n2 (r : T_tag_reader) {a : Nat} (h : a + 2 ≤ r.s_.length) (hs : r.s_.length ≤ 65000) : Jk r (a : Int) 2 = some (Xe r a 2 : Int) := number2 r h hs
theorem n4 (r : T_tag_reader) {a : Nat} (h : a + 4 ≤ r.s_.length) (hs : r.s_.length ≤ 65000) : Jk r (a : Int) 4 = some (Xe r a 4 : Int) := number4 r h hs
theorem v4 (r : T_tag_reader) (a : Nat) : Xe r a 4 ≤ 4294967295 := valB4 _ (by rw [List.length_take]; omega)
theorem v2 (r : T_tag_reader) (a : Nat) : Xe r a 2 ≤ 65535 := valB2 _ (by rw [List.length_take]; omega)
theorem found_ok {f : Nat} (h : f ≤ 0) : ∃ g, mft118 f = some g ∧ ∀ l a, g l a = some () := by
 match f, h with
 | 0, _ => exact ⟨_, rfl, fun _ _ => rfl⟩
theorem clone_eq {l : List Int} (h : l.length ≤ 1000) : Za l = some l := by
 unfold Za
 rw [Yl (by simp; omega), Jb]; simp
theorem pack_eq (t : Int) (v : T_tag_Value) (r : T_tag_reader) : Y4 t v.Kind v.Text v.Ints v.Ratios v.Entries r.s_ r.big_ r.dirs_ r.found_ r.no_ r.parts_ r.seen_ = some (⟨t, v⟩, r) := by cases v; cases r; rfl
noncomputable def entR (self : SelfD) (r : T_tag_reader) (a : Nat) (path : List Int) : Option (T_tag_Entry × T_tag_reader) :=
 if (Xe r (a + 2) 2 : Int) = 13 then
  (if Xe r (a + 4) 4 = 1 then Jr (self (r, (Xe r (a + 8) 4 : Int), path ++ [(Xe r a 2 : Int)])) fun t => some ((⟨(Xe r a 2 : Int), ⟨13, [], [], [], t.1⟩⟩ : T_tag_Entry), t.2.2)
   else some (⟨(Xe r a 2 : Int), ⟨13, [], [], [], []⟩⟩, fl r 1))
 else if Qy (Xe r (a + 2) 2 : Int) = 0 then some (⟨(Xe r a 2 : Int), ⟨(Xe r (a + 2) 2 : Int), [], [], [], []⟩⟩, fl r 10)
 else some (⟨(Xe r a 2 : Int), (valR r (Xe r (a + 2) 2 : Int) (Xe r (a + 4) 4) (a + 8)).1⟩, (valR r (Xe r (a + 2) 2 : Int) (Xe r (a + 4) 4) (a + 8)).2)
theorem entry_eq (self : SelfD) (r : T_tag_reader) {a : Nat} {path : List Int} (ha : a + 12 ≤ r.s_.length) (hs : r.s_.length ≤ 65000) (hp : r.parts_.length ≤ 8000000000000) (hf : r.found_ ≤ 0) (hl : path.length ≤ 100) :
  Xa self r (a : Int) path = entR self r a path := by
 obtain ⟨g, hg, hg2⟩ := found_ok hf
 unfold Xa entR
 rw [n2 _ (by omega) hs, Jb, Jy (by omega), Jb, show (a : Int) + 2 = ((a + 2 : Nat) : Int) by omega, n2 _ (by omega) hs, Jb, Jy (by omega), Jb, show (a : Int) + 4 = ((a + 4 : Nat) : Int) by omega, n4 _ (by omega) hs, Jb, clone_eq (by omega), Jb, Yl (by simp; omega), Jb]
 unfold gFn
 rw [hg, Jb, hg2, Jb, sizeOf_eq, Jb, cI, cI]
 have h8 : (a : Int) + 8 = ((a + 8 : Nat) : Int) := by omega
 have hc4 := v4 r (a + 4)
 by_cases h13 : (Xe r (a + 2) 2 : Int) = 13
 ·rw [if_pos h13, if_pos h13, if_neg (by decide), if_pos h13]
  unfold Y5
  rw [cI]
  by_cases h1 : Xe r (a + 4) 4 = 1
  ·rw [if_neg (by omega), if_pos h1, cI, if_pos h13, Jy (by omega), Jb, h8, n4 _ (by omega) hs, Jb]
   refine W3 fun t _ => ?_
   rw [h13]; rfl
  ·rw [if_pos (by omega), if_neg h1, Wa, Jb, h13]; rfl
 ·rw [if_neg h13, if_neg h13, if_neg h13]
  by_cases h0 : Qy (Xe r (a + 2) 2 : Int) = 0
  ·rw [if_pos (by omega), if_pos h0, Wa, Jb]; rfl
  ·rw [if_neg (by omega), if_neg h0]
   unfold Y5
   rw [Qf, cI, if_neg h13, Jy (by omega), Jb, h8, value_eq _ h0 h13 hc4 (by omega) hs hp, Jb, pack_eq]
noncomputable def dirLoop (self : SelfD) (path : List Int) (pl nxt cnt i : Nat) (r : T_tag_reader) (l : List T_tag_Entry) : Option ((List T_tag_Entry) × Int × T_tag_reader) :=
 V8 (fun next4 s => Xk path self next4 s.1 s.2.1 s.2.2.1 s.2.2.2.1 s.2.2.2.2.1 s.2.2.2.2.2.1 s.2.2.2.2.2.2.1 s.2.2.2.2.2.2.2.1 s.2.2.2.2.2.2.2.2.1 s.2.2.2.2.2.2.2.2.2.1 s.2.2.2.2.2.2.2.2.2.2.1 s.2.2.2.2.2.2.2.2.2.2.2) ((pl : Int), (nxt : Int), (cnt : Int), (i : Int), r.s_, r.big_, r.dirs_, r.found_, r.no_, r.parts_, r.seen_, l)
theorem loop_end (self : SelfD) (path : List Int) (pl nxt cnt i : Nat) (r : T_tag_reader) (l : List T_tag_Entry) (h : cnt ≤ i ∨ r.no_ ≠ 0) : dirLoop self path pl nxt cnt i r l = some (l, (nxt : Int), r) := by
 refine Qb fun next => ?_
 show Xk path self next (pl : Int) (nxt : Int) (cnt : Int) (i : Int) _ _ _ _ _ _ _ l = _
 unfold Xk
 rw [cI]
 by_cases h1 : cnt ≤ i
 ·rw [if_neg (by omega)]; rfl
 ·rw [if_pos (by omega), cI, if_neg (show ¬ r.no_ = 0 from h.resolve_left h1)]; rfl
theorem loop_next (self : SelfD) (path : List Int) (pl nxt cnt i : Nat) (r : T_tag_reader) (l : List T_tag_Entry) (hi : i < cnt) (hno : r.no_ = 0) (hl : l.length = i) (hn : i ≤ 1000) (ha : pl + 2 + 12 * cnt ≤ r.s_.length) (hs : r.s_.length ≤ 65000)
  (hlow : ∀ (h : 0 < i), ¬ (Xe r (pl + 2 + 12 * i) 2 : Int) ≤ (l[i - 1]'(by omega)).Tag) (hp : r.parts_.length ≤ 8000000000000) (hf : r.found_ ≤ 0) (hpl : path.length ≤ 100) {e : T_tag_Entry} {r' : T_tag_reader} (he : entR self r (pl + 2 + 12 * i) path = some (e, r')) :
  dirLoop self path pl nxt cnt i r l = dirLoop self path pl nxt cnt (i + 1) r' (l ++ [e]) := by
 have go : ∀ next, Zo path self (pl : Int) (nxt : Int) (cnt : Int) (i : Int) r.s_ r.big_ r.dirs_ r.found_ r.no_ r.parts_ r.seen_ l next = next ((pl : Int), (nxt : Int), (cnt : Int), ((i + 1 : Nat) : Int), r'.s_, r'.big_, r'.dirs_, r'.found_, r'.no_, r'.parts_, r'.seen_, l ++ [e]) := by
  intro next
  unfold Zo
  rw [Jy (by omega), Jb, Jy (by omega), Jb, Jy (by omega), Jb, show (pl : Int) + 2 + 12 * (i : Int) = ((pl + 2 + 12 * i : Nat) : Int) by omega, entry_eq self r (by omega) hs hp hf hpl, he, Jb, Yl (by simp; omega), Jb, Jy (by omega), Jb]
  rfl
 refine Q0 _ fun next => ?_
 show Xk path self next (pl : Int) (nxt : Int) (cnt : Int) (i : Int) _ _ _ _ _ _ _ l = _
 unfold Xk
 rw [cI, if_pos (by omega), cI, if_pos hno, cI]
 by_cases h0 : 0 < i
 ·rw [if_pos (by omega), Jy (by omega), Jb, Jy (by omega), Jb, Jy (by omega), Jb, show (pl : Int) + 2 + 12 * (i : Int) = ((pl + 2 + 12 * i : Nat) : Int) by omega,
   n2 r (by omega) hs, Jb, Jy (by omega), Jb, show (i : Int) - 1 = ((i - 1 : Nat) : Int) by omega, Qz (by omega), Jb, cI, if_neg (hlow h0)]
  exact go next
 ·rw [if_neg (by omega)]
  exact go next
noncomputable def dirR (self : SelfD) (r : T_tag_reader) (pl : Nat) (path : List Int) : Option ((List T_tag_Entry) × Int × T_tag_reader) :=
 if ¬ (8 ≤ pl ∧ pl + 2 ≤ r.s_.length) then some ([], 0, fl r 2)
 else if (mGet r.seen_ (pl : Int)).getD false = true then some ([], 0, fl r 13)
 else if 20 < r.dirs_ ∨ 5 < path.length ∨ 200 < Xe r pl 2 then some ([], 0, fl r 4)
 else if ¬ (pl + (2 + 12 * Xe r pl 2 + 4) ≤ r.s_.length) then some ([], 0, fl r 2)
 else if r.no_ ≠ 0 then some ([], 0, r)
 else dirLoop self path pl (Xe r (pl + 2 + 12 * Xe r pl 2) 4) (Xe r pl 2) 0
  (if 1 < path.length ∧ Xe r (pl + 2 + 12 * Xe r pl 2) 4 ≠ 0 then fl ⟨r.s_, r.big_, r.parts_ ++ [⟨(pl : Int), ((pl + (2 + 12 * Xe r pl 2 + 4) : Nat) : Int)⟩], mSet r.seen_ (pl : Int) true, r.dirs_, r.found_, r.no_⟩ 1
   else ⟨r.s_, r.big_, r.parts_ ++ [⟨(pl : Int), ((pl + (2 + 12 * Xe r pl 2 + 4) : Nat) : Int)⟩], mSet r.seen_ (pl : Int) true, r.dirs_, r.found_, r.no_⟩) []
theorem Jaa (pl cnt : Int) (path : List Int) (self : SelfD) (r : T_tag_reader) (h : r.no_ ≠ 0) : Q2 pl path self cnt r.s_ r.big_ r.dirs_ r.found_ r.no_ r.parts_ r.seen_ = some ([], 0, r) := by
 unfold Q2
 rw [cI, if_pos h]
theorem dir_step (self : SelfD) (r : T_tag_reader) {pl : Nat} {path : List Int} (hpl : pl ≤ 4294967295) (hs : r.s_.length ≤ 65000) (hp : r.parts_.length ≤ 7999999999999) :
  Qa self r (pl : Int) path = dirR self r pl path := by
 unfold Qa dirR
 rw [show (2 : Int) = ((2 : Nat) : Int) from rfl, there_eq _ (by omega) hs, Jb, show ((2 : Nat) : Int) = 2 from rfl]
 by_cases ht : 8 ≤ pl ∧ pl + 2 ≤ r.s_.length
 ·rw [decide_eq_true ht, Bool.not_true, Qf, if_neg (by simp [ht]), n2 _ ht.2 hs, Jb]
  have hv := v2 r pl
  by_cases hsn : (mGet r.seen_ (pl : Int)).getD false = true
  ·rw [if_pos hsn, hsn, X0, Wa, Jb, Jaa _ _ _ _ _ (fl_no _ (by decide))]
  ·rw [if_neg hsn, Bool.not_eq_true _ |>.mp hsn, Qf, cI, cI, cI]
   by_cases h20 : 20 < r.dirs_
   ·rw [if_pos h20, if_pos (.inl h20), Wa, Jb, Jaa _ _ _ _ _ (fl_no _ (by decide))]
   rw [if_neg h20]
   by_cases h5 : 5 < path.length
   ·rw [if_pos (by omega), if_pos (.inr (.inl h5)), Wa, Jb, Jaa _ _ _ _ _ (fl_no _ (by decide))]
   rw [if_neg (by omega)]
   by_cases h200 : 200 < Xe r pl 2
   ·rw [if_pos (by omega), if_pos (.inr (.inr h200)), Wa, Jb, Jaa _ _ _ _ _ (fl_no _ (by decide))]
   rw [if_neg (by omega), if_neg (by omega), Jy (by omega), Jb, Jy (by omega), Jb, Jy (by omega), Jb, show (2 : Int) + 12 * (Xe r pl 2 : Int) + 4 = ((2 + 12 * Xe r pl 2 + 4 : Nat) : Int) by omega, there_eq _ (by omega) hs, Jb]
   by_cases hb : pl + (2 + 12 * Xe r pl 2 + 4) ≤ r.s_.length
   ·rw [decide_eq_true ⟨ht.1, hb⟩, Bool.not_true, Qf, if_neg (by omega)]
    by_cases hno : r.no_ = 0
    ·rw [if_neg (by simp [hno])]
     unfold Q2
     have hb' : pl + (2 + 12 * Xe r pl 2 + 4) ≤ r.s_.length := hb
     rw [cI, if_neg (by simp [hno]), Jy (by omega), Jb, Jy (by omega), Jb, Jy (by omega), Jb, Jy (by omega), Jb, Yl (by simp; omega), Jb, Jb, Jb, Jy (by omega), Jb,
      show (pl : Int) + 2 + 12 * (Xe r pl 2 : Int) = ((pl + 2 + 12 * Xe r pl 2 : Nat) : Int) by omega,
      show ((pl + 2 + 12 * Xe r pl 2 : Nat) : Int) + 4 = ((pl + (2 + 12 * Xe r pl 2 + 4) : Nat) : Int) by omega,
      n4 (a := pl + 2 + 12 * Xe r pl 2) (⟨r.s_, r.big_, r.parts_ ++ [(⟨(pl : Int), ((pl + (2 + 12 * Xe r pl 2 + 4) : Nat) : Int)⟩ : T_tag_Span)], mSet r.seen_ (pl : Int) true, r.dirs_, r.found_, r.no_⟩ : T_tag_reader) (by show _ ≤ r.s_.length; omega) hs, Jb, cI, cI]
     by_cases h1 : 1 < path.length
     ·rw [if_pos (by omega)]
      by_cases hn : Xe r (pl + 2 + 12 * Xe r pl 2) 4 = 0
      ·rw [if_neg (by show ¬ ((Xe r (pl + 2 + 12 * Xe r pl 2) 4 : Nat) : Int) ≠ 0; omega), if_neg (by omega)]; rfl
      ·rw [if_pos (by show ((Xe r (pl + 2 + 12 * Xe r pl 2) 4 : Nat) : Int) ≠ 0; omega), if_pos ⟨h1, hn⟩, Wa, Jb]; rfl
     ·rw [if_neg (by omega), if_neg (by omega)]; rfl
    ·rw [if_pos hno, Jaa _ _ _ _ _ hno]
   ·rw [decide_eq_false (by omega), Bool.not_false, X0, if_pos hb, Wa, Jb, Jaa _ _ _ _ _ (fl_no _ (by decide))]
 ·rw [decide_eq_false ht, Bool.not_false, X0, if_pos ht, Wa, Jb]
end Go.M

/- Reading whatever octets, in plain Lean: it answers, and its parts lie inside. Conditions: none. -/
namespace Go.M
open Go.Md Go.Pl
set_option linter.unusedVariables false
def okS (n : Nat) (x : T_tag_Span) : Prop := 8 ≤ x.From ∧ x.From < x.To ∧ x.To ≤ (n : Int)
def lenS (l : List T_tag_Span) : Int := (l.map fun x => x.To - x.From).sum
theorem lenS_app (a b : List T_tag_Span) : lenS (a ++ b) = lenS a + lenS b := by unfold lenS; rw [List.map_append, List.sum_append]
theorem lenS_nil : lenS [] = 0 := rfl
theorem lenS_one (x : T_tag_Span) : lenS [x] = x.To - x.From := by unfold lenS; simp
def Adds (r r' : T_tag_reader) (K : Nat) (z : Int) : Prop :=
 r'.s_ = r.s_ ∧ r'.big_ = r.big_ ∧ r'.dirs_ = r.dirs_ ∧ r'.found_ = r.found_ ∧ ∃ new, r'.parts_ = r.parts_ ++ new ∧ (∀ x ∈ new, okS r.s_.length x) ∧ new.length ≤ K ∧ z ≤ lenS new
theorem Adds.same (r : T_tag_reader) {K : Nat} {z : Int} (hz : z ≤ 0) : Adds r r K z := ⟨rfl, rfl, rfl, rfl, [], by simp, by simp, Nat.zero_le _, hz⟩
theorem Adds.trans {a b c : T_tag_reader} {K L : Nat} {y z : Int} (h : Adds a b K y) (g : Adds b c L z) : Adds a c (K + L) (y + z) := by
 obtain ⟨h1, h2, h3, h4, n, h5, h6, h7, h8⟩ := h
 obtain ⟨g1, g2, g3, g4, m, g5, g6, g7, g8⟩ := g
 refine ⟨g1.trans h1, g2.trans h2, g3.trans h3, g4.trans h4, n ++ m, by rw [g5, h5, List.append_assoc], ?_, by rw [List.length_append]; omega, by rw [lenS_app]; omega⟩
 intro x hx
 rcases List.mem_append.1 hx with hx | hx
 ·exact h6 x hx
 ·rw [← h1]; exact g6 x hx
theorem Adds.mono {a b : T_tag_reader} {K L : Nat} {y z : Int} (h : Adds a b K y) (hK : K ≤ L) (hz : z ≤ y) : Adds a b L z := by
 obtain ⟨h1, h2, h3, h4, n, h5, h6, h7, h8⟩ := h
 exact ⟨h1, h2, h3, h4, n, h5, h6, by omega, by omega⟩
theorem Adds.part (r : T_tag_reader) (x : T_tag_Span) (seen : List (Int × Bool)) (h : okS r.s_.length x) : Adds r ⟨r.s_, r.big_, r.parts_ ++ [x], seen, r.dirs_, r.found_, r.no_⟩ 1 (x.To - x.From) :=
 ⟨rfl, rfl, rfl, rfl, [x], rfl, fun y hy => by rw [List.mem_singleton.1 hy]; exact h, by simp, by rw [lenS_one]; omega⟩
theorem Adds.parts {r r' : T_tag_reader} {K : Nat} {z : Int} (h : Adds r r' K z) : r'.parts_.length ≤ r.parts_.length + K := by
 obtain ⟨_, _, _, _, n, h5, _, h7, _⟩ := h
 rw [h5, List.length_append]; omega
theorem Adds.len {r r' : T_tag_reader} {K : Nat} {z : Int} (h : Adds r r' K z) : r'.s_.length = r.s_.length := by rw [h.1]
def cap : Nat → Nat
 | 0 => 0
 | d + 1 => 1 + 200 * (1 + cap d)
theorem entry_congr {self self' : SelfD} {path : List Int} (h : ∀ r pl p, p.length = path.length + 1 → self (r, pl, p) = self' (r, pl, p)) (r : T_tag_reader) (a : Int) : Xa self r a path = Xa self' r a path := by
 unfold Xa
 refine W3 fun t13 _ => W3 fun _ _ => W3 fun _ _ => W3 fun _ _ => W3 fun _ _ => W3 fun t23 h23 => W3 fun l26 h26 => ?_
 have hl : l26.length = path.length + 1 := by
  unfold Za at h23
  cases hg : Ye 8 ([] : List Int) path with
  | none => rw [hg] at h23; cases h23
  | some u => rw [hg, Jb] at h23; cases h23; rw [(gApp_some h26).1, (gApp_some hg).1]; simp
 have e : ∀ x y, self (x, y, l26) = self' (x, y, l26) := fun x y => h x y l26 hl
 unfold Y5
 simp only [e]
theorem loop_congr {self self' : SelfD} {path : List Int} (h : ∀ r pl p, p.length = path.length + 1 → self (r, pl, p) = self' (r, pl, p)) (r : T_tag_reader) (pl : Int) : Qa self r pl path = Qa self' r pl path := by
 have e : ∀ r a, Xa self r a path = Xa self' r a path := entry_congr h
 have e4 : Xk path self = Xk path self' := by
  funext next x1 x7 x9 x10 m1 m2 m3 m4 m5 l1 mp l2
  unfold Xk Zo
  simp only [e]
 have e1 : ∀ a1 t m m2 m3 m4 m5 l mp, Q2 a1 path self t m m2 m3 m4 m5 l mp = Q2 a1 path self' t m m2 m3 m4 m5 l mp := by
  intro a1 t m m2 m3 m4 m5 l mp
  unfold Q2 Vs
  rw [e4]
 unfold Qa
 simp only [e1]
theorem deep_congr {self self' : SelfD} {path : List Int} (h : 5 < path.length) (r : T_tag_reader) (pl : Int) : Qa self r pl path = Qa self' r pl path := by
 unfold Qa
 refine W3 fun t _ => cnd_congr (fun _ => rfl) fun _ => W3 fun c _ => cnd_congr (fun _ => ?_) fun _ => cnd_congr (fun _ => ?_) fun _ => ?_
 ·rw [Wa, Jb, Jb, Jaa _ _ _ _ _ (fl_no _ (by decide)), Jaa _ _ _ _ _ (fl_no _ (by decide))]
 ·rw [Wa, Jb, Jb, Jaa _ _ _ _ _ (fl_no _ (by decide)), Jaa _ _ _ _ _ (fl_no _ (by decide))]
 ·rw [cI, if_pos (by omega), cI, if_pos (by omega), Wa, Jb, Jb, Jaa _ _ _ _ _ (fl_no _ (by decide)), Jaa _ _ _ _ _ (fl_no _ (by decide))]
noncomputable abbrev dirF : SelfD → SelfD := fun self s => Qa self s.1 s.2.1 s.2.2
theorem it_same : ∀ (d n m : Nat), d < n → d < m → ∀ (r : T_tag_reader) (pl : Int) (path : List Int), path.length + d = 6 → it dirF n (r, pl, path) = it dirF m (r, pl, path) := by
 intro d
 induction d with
 | zero =>
  intro n m hn hm r pl path h6
  obtain ⟨n, rfl⟩ : ∃ k, n = k + 1 := ⟨n - 1, by omega⟩
  obtain ⟨m, rfl⟩ : ∃ k, m = k + 1 := ⟨m - 1, by omega⟩
  exact deep_congr (path := path) (by omega) r pl
 | succ d ih =>
  intro n m hn hm r pl path h6
  obtain ⟨n, rfl⟩ : ∃ k, n = k + 1 := ⟨n - 1, by omega⟩
  obtain ⟨m, rfl⟩ : ∃ k, m = k + 1 := ⟨m - 1, by omega⟩
  exact loop_congr (path := path) (fun r pl p hp => ih n m (by omega) (by omega) r pl p (by omega)) r pl
theorem dir_it (r : T_tag_reader) (pl : Int) (path : List Int) (h1 : path.length = 1) : Wh r pl path = it dirF 6 (r, pl, path) := by
 unfold Wh
 exact fix_ev (k := 6) fun n hn => it_same 5 n 6 (by omega) (by omega) r pl path (by omega)
end Go.M

/- A file's parts, the used spans and the holes, in plain Lean. Conditions: none. -/
namespace Go.M
open Go.Md Go.Pl
set_option linter.unusedVariables false
def cmpI (a b : Int) : Int := if a < b then -1 else if b < a then 1 else 0
theorem compare_eq (a b : Int) : cmp_Compare_int a b = some (cmpI a b) := by
 unfold cmp_Compare_int Jax cmpI
 rw [Jb, Jb, decide_eq_false (by simp), decide_eq_false (by simp), Qf, Qf, cI, cI]
 split
 ·rfl
 split <;> rfl
theorem or2_eq (a b : Int) : cmp_Or_int [a, b] = some (if a ≠ 0 then a else b) := by
 unfold cmp_Or_int
 by_cases ha : a = 0
 ·rw [if_neg (by simp [ha])]
  rw [Q0 (1 : Int) fun next => by
   unfold Yr
   rw [cI, if_pos (by simp), show Yp [a, b] 0 = some a from rfl, Jb, cI, if_neg (by simp [ha]), Jy (by omega), Jb]; rfl]
  by_cases hb : b = 0
  ·rw [Q0 (2 : Int) fun next => by
    unfold Yr
    rw [cI, if_pos (by simp), show Yp [a, b] 1 = some b from rfl, Jb, cI, if_neg (by simp [hb]), Jy (by omega), Jb]; rfl]
   exact Qb fun next => by
    unfold Yr
    rw [cI, if_neg (by simp), hb]
  ·exact Qb fun next => by
    unfold Yr
    rw [cI, if_pos (by simp), show Yp [a, b] 1 = some b from rfl, Jb, cI, if_pos hb]
 ·rw [if_pos ha]
  exact Qb fun next => by
   unfold Yr
   rw [cI, if_pos (by simp), show Yp [a, b] 0 = some a from rfl, Jb, cI, if_pos ha]
theorem spans_eq (x y : T_tag_Span) : Xs x y = some (if cmpI x.From y.From ≠ 0 then cmpI x.From y.From else cmpI x.To y.To) := by
 unfold Xs
 rw [compare_eq, Jb, compare_eq, Jb, or2_eq, Jb]
theorem spans_le (x y : T_tag_Span) : (Xs x y).getD 0 ≤ 0 ↔ x.From < y.From ∨ (x.From = y.From ∧ x.To ≤ y.To) := by
 rw [spans_eq, Option.getD_some]; unfold cmpI
 (repeat' split) <;> omega
theorem spans_lt (x y : T_tag_Span) : (Xs x y).getD 0 < 0 ↔ x.From < y.From ∨ (x.From = y.From ∧ x.To < y.To) := by
 rw [spans_eq, Option.getD_some]; unfold cmpI
 (repeat' split) <;> omega
theorem spans_ok : CmpOk Xs where
 tot x y := ⟨_, spans_eq x y⟩
 flip x y := by
  have h1 := spans_lt x y
  have h2 := spans_le y x
  omega
 trans x y z := by
  rw [spans_le, spans_le, spans_le]; omega
 anti x y h := by
  have h1 := spans_le x y
  have h2 := spans_lt x y
  have h3 : x.From = y.From ∧ x.To = y.To := by omega
  cases x; cases y; simp only at h3; rw [h3.1, h3.2]
def sepS (n : Int) : Int → List T_tag_Span → Prop
 | a, [] => a ≤ n
 | a, x :: l => a ≤ x.From ∧ x.From < x.To ∧ sepS n x.To l
theorem sepS_end {n : Int} : ∀ {l : List T_tag_Span} {a : Int}, sepS n a l → a ≤ n ∧ (l.length : Int) ≤ n - a ∧ lenS l ≤ n - a
 | [], a, h => ⟨h, by simp; exact h, by rw [lenS_nil]; have : a ≤ n := h; omega⟩
 | x :: l, a, h => by
  obtain ⟨h1, h2, h3⟩ := sepS_end h.2.2
  have h4 := h.1
  have h5 := h.2.1
  refine ⟨by omega, by rw [List.length_cons]; omega, ?_⟩
  have : lenS (x :: l) = x.To - x.From + lenS l := by unfold lenS; simp
  rw [this]; omega
def lapP (l : List T_tag_Span) : Prop := ∃ i : Nat, ∃ h : i + 1 < l.length, (l[i + 1]'h).From < (l[i]'(by omega)).To
open Classical in
theorem overlap_eq (l : List T_tag_Span) (hl : l.length ≤ 1099511627776000) : tag_overlap l = some (decide (lapP l)) := by
 have key : ∀ m i : Nat, i + m = l.length → 1 ≤ i → V8 (fun next1 s => Ze l next1 s) (i : Int) = some (decide (∃ j : Nat, i ≤ j + 1 ∧ ∃ h : j + 1 < l.length, (l[j + 1]'h).From < (l[j]'(by omega)).To)) := by
  intro m
  induction m with
  | zero =>
   intro i hi h1
   refine Qb fun next => ?_
   unfold Ze
   rw [cI, if_neg (by omega)]
   congr 1; symm
   rw [decide_eq_false_iff_not]
   rintro ⟨j, h2, h3, _⟩; omega
  | succ m ih =>
   intro i hi h1
   have hh : ∀ next : Int → Option Bool, Ze l next (i : Int) = if (l[i]'(by omega)).From < (l[i - 1]'(by omega)).To then some true else next ((i + 1 : Nat) : Int) := by
    intro next
    unfold Ze
    rw [cI, if_pos (by omega), Qz (by omega), Jb, Jy (by omega), Jb, show (i : Int) - 1 = ((i - 1 : Nat) : Int) by omega, Qz (by omega), Jb, cI]
    split
    ·rfl
    ·rw [Jy (by omega), Jb]; rfl
   by_cases hlap : (l[i]'(by omega)).From < (l[i - 1]'(by omega)).To
   ·rw [Qb (o := some true) fun next => by rw [hh, if_pos hlap]]
    congr 1; symm
    rw [decide_eq_true_iff]
    obtain ⟨k, rfl⟩ : ∃ k, i = k + 1 := ⟨i - 1, by omega⟩
    exact ⟨k, by omega, by omega, hlap⟩
   ·rw [Q0 (((i + 1 : Nat) : Int)) fun next => by rw [hh, if_neg hlap], ih (i + 1) (by omega) (by omega)]
    congr 1
    rw [decide_eq_decide]
    constructor
    ·rintro ⟨j, h2, h3⟩; exact ⟨j, by omega, h3⟩
    ·rintro ⟨j, h2, h3, h4⟩
     rcases Nat.lt_or_ge i (j + 1) with h5 | h5
     ·exact ⟨j, by omega, h3, h4⟩
     ·exfalso
      have : i = j + 1 := by omega
      subst this
      exact hlap h4
 unfold tag_overlap
 rcases Nat.lt_or_ge l.length 1 with h0 | h0
 ·rw [Qb (o := some false) fun next => by unfold Ze; rw [cI, if_neg (by omega)]]
  congr 1; symm
  rw [decide_eq_false_iff_not]
  rintro ⟨j, h3, _⟩; omega
 ·rw [show (1 : Int) = ((1 : Nat) : Int) from rfl, key (l.length - 1) 1 (by omega) (by omega)]
  congr 1
  rw [decide_eq_decide]
  constructor
  ·rintro ⟨j, _, h3⟩; exact ⟨j, h3⟩
  ·rintro ⟨j, h3⟩; exact ⟨j, by omega, h3⟩
noncomputable def rdLoop (t : Int) (nx : Nat) (r : T_tag_reader) (ls : List (List T_tag_Entry)) : Option (T_tag_File × List T_tag_Span × Int) :=
 V8 (fun next4 s => Wl t next4 s.1 s.2.1 s.2.2.1 s.2.2.2.1 s.2.2.2.2.1 s.2.2.2.2.2.1 s.2.2.2.2.2.2.1 s.2.2.2.2.2.2.2.1 s.2.2.2.2.2.2.2.2) ((nx : Int), r.s_, r.big_, r.dirs_, r.found_, r.no_, r.parts_, ls, r.seen_)
theorem rd_end (t : Int) (nx : Nat) (r : T_tag_reader) (ls : List (List T_tag_Entry)) (h : nx = 0 ∨ r.no_ ≠ 0) : rdLoop t nx r ls = Jag t r.s_ r.big_ r.dirs_ r.found_ r.no_ r.parts_ ls r.seen_ := by
 refine Qb fun next => ?_
 show Wl t next (nx : Int) r.s_ r.big_ r.dirs_ r.found_ r.no_ r.parts_ ls r.seen_ = _
 unfold Wl
 rw [cI]
 by_cases h0 : nx = 0
 ·rw [if_neg (by simp [h0])]
 ·rw [if_pos (by simpa using h0), cI, if_neg (h.resolve_left h0)]
theorem rd_next (t : Int) (nx : Nat) (r : T_tag_reader) (ls : List (List T_tag_Entry)) (h0 : nx ≠ 0) (hno : r.no_ = 0) (hd : 0 ≤ r.dirs_ ∧ r.dirs_ ≤ 1000) (hl : ls.length ≤ 1000) {l : List T_tag_Entry} {nx' : Nat} {r' : T_tag_reader}
  (h : Wh ⟨r.s_, r.big_, r.parts_, r.seen_, r.dirs_ + 1, r.found_, r.no_⟩ (nx : Int) [(ls.length : Int)] = some (l, (nx' : Int), r')) : rdLoop t nx r ls = rdLoop t nx' r' (ls ++ [l]) := by
 refine Q0 _ fun next => ?_
 show Wl t next (nx : Int) r.s_ r.big_ r.dirs_ r.found_ r.no_ r.parts_ ls r.seen_ = _
 unfold Wl
 rw [cI, if_pos (by simpa using h0), cI, if_pos hno, Jy (by omega), Jb, h, Jb, Yl (by simp; omega), Jb]
end Go.M

/- TagSpans: the used spans and the holes of whatever octets share them out, in plain Lean. Conditions: none. -/
namespace Go.M
open Go.Md Go.Pl
set_option linter.unusedVariables false
end Go.M

/- What was written is read back: numbers, values, entries, in plain Lean. Conditions: none. -/
namespace Go.M
open Go.Md Go.Pl
set_option linter.unusedVariables false
def digs (n : Int) (k : Nat) : List Int := (List.range k).map fun i => wU8 (n / 2 ^ (8 * i))
theorem digs_len (n : Int) (k : Nat) : (digs n k).length = k := by simp [digs]
theorem digs_succ (n : Int) (k : Nat) : digs n (k + 1) = digs n k ++ [wU8 (n / 2 ^ (8 * k))] := by
 unfold digs; rw [List.range_succ, List.map_append]; rfl
def partN (big : Bool) (n : Int) (k i : Nat) : List Int := if big then List.replicate (k - i) 0 ++ (digs n i).reverse else digs n i ++ List.replicate (k - i) 0
theorem partN_set {n : Int} {k i : Nat} (h : i < k) (big : Bool) : (partN big n k i).set (if big then k - 1 - i else i) (wU8 (n / 2 ^ (8 * i))) = partN big n k (i + 1) := by
 obtain ⟨m, hm⟩ : ∃ m, k - i = m + 1 := ⟨k - i - 1, by omega⟩
 have hm2 : k - (i + 1) = m := by omega
 unfold partN
 rw [hm, hm2, digs_succ]
 cases big
 ·simp only [Bool.false_eq_true, if_false]
  rw [List.set_append_right _ _ (by rw [digs_len]; exact Nat.le_refl _), digs_len, Nat.sub_self, List.replicate_succ, List.set_cons_zero, List.append_assoc]; rfl
 ·simp only [if_true]
  rw [List.reverse_append, List.replicate_succ', List.append_assoc, show k - 1 - i = m by omega, List.set_append_right _ _ (by simp), List.length_replicate, Nat.sub_self]
  rfl
theorem num_dig (big : Bool) (n : Int) (k : Nat) (hk : k ≤ 8) : Jf big n k = some (partN big n k k) := by
 have key : ∀ m i : Nat, i + m = k → V8 (fun next1 s => Xu big n k (List.replicate k 0) next1 s.1 s.2) ((i : Int), partN big n k i) = some (partN big n k k) := by
  intro m
  induction m with
  | zero =>
   intro i hi
   have : i = k := by omega
   subst this
   refine Qb fun next => ?_
   show Xu big n i _ next (i : Int) _ = _
   unfold Xu
   rw [cI, if_neg (by rw [List.length_replicate]; omega)]
  | succ m ih =>
   intro i hi
   have hl : (partN big n k i).length = k := by unfold partN; cases big <;> simp [digs_len] <;> omega
   have hsh : gShr 64 n (8 * (i : Int)) = some (n / 2 ^ (8 * i)) := by
    unfold gShr
    rw [if_pos (by omega), show min (8 * (i : Int)).toNat 64 = 8 * i by omega]
   refine Eq.trans (Q0 ((i : Int) + 1, (partN big n k i).set (if big then k - 1 - i else i) (wU8 (n / 2 ^ (8 * i)))) fun next => ?_) ?_
   ·show Xu big n k (List.replicate k 0) next (i : Int) (partN big n k i) = _
    unfold Xu
    rw [cI, if_pos (by rw [List.length_replicate]; omega)]
    cases big
    ·rw [Qf]
     unfold V6
     rw [Jy (by omega), Jb, hsh, Jb, Qz (by omega), Jb, U6 (by omega) (by omega), Jb, Jy (by omega), Jb, Int.toNat_natCast]; rfl
    ·rw [X0, Jy (by omega), Jb, Jy (by omega), Jb]
     unfold V6
     rw [Jy (by omega), Jb, hsh, Jb, gAt_ok (by omega) (by omega), Jb, U6 (by omega) (by omega), Jb, Jy (by omega), Jb, show ((k : Int) - 1 - (i : Int)).toNat = k - 1 - i from by omega]; rfl
   ·rw [partN_set (by omega)]
    exact ih (i + 1) (by omega)
 unfold Jf
 rw [gMake_ok (by omega), Jb, Int.toNat_natCast]
 have h0 : partN big n k 0 = List.replicate k 0 := by unfold partN digs; cases big <;> simp
 have := key k 0 (by omega)
 rw [h0] at this
 exact this
theorem numS_dig (big : Bool) (n : Int) (k : Nat) (hk : k ≤ 8) : Xp big n k = Z8 (if big then (digs n k).reverse else digs n k) := by
 unfold Xp
 rw [num_dig big n k hk, Option.getD_some]
 unfold partN
 cases big <;> simp
theorem valB_num (big : Bool) (n : Int) (k : Nat) (hk : k ≤ 8) : valB big (Xp big n k) = (Z8 (digs n k).reverse).foldl (fun v b => v * 256 + b.toNat) 0 := by
 rw [numS_dig big n k hk]
 unfold valB
 cases big
 ·simp only [Bool.false_eq_true, if_false]
  unfold Z8; rw [← List.map_reverse]
 ·simp only [if_true]
theorem oct_dig (x : Int) : ((UInt8.ofNat (wU8 x).toNat).toNat : Int) = x % 256 := by
 rw [UInt8.toNat_ofNat']; unfold wU8; omega
theorem emod_two (n : Int) {B : Int} (hB : 0 < B) : n % (B * 256) = n % B + B * (n / B % 256) := by
 have h1 := Int.mul_ediv_add_emod n B
 have h2 := Int.mul_ediv_add_emod (n / B) 256
 have h3 := Int.emod_nonneg n (show B ≠ 0 by omega)
 have h4 := Int.emod_lt_of_pos n hB
 have h5 : 0 ≤ n / B % 256 ∧ n / B % 256 ≤ 255 := by omega
 have h6 : B * (n / B % 256) ≤ B * 255 := Int.mul_le_mul_of_nonneg_left h5.2 (by omega)
 have h7 : 0 ≤ B * (n / B % 256) := Int.mul_nonneg (by omega) h5.1
 have e : n = (n % B + B * (n / B % 256)) + (B * 256) * (n / B / 256) := by
  have h8 : B * (n / B) = B * (256 * (n / B / 256)) + B * (n / B % 256) := by rw [← Int.mul_add, h2]
  rw [Int.mul_assoc]; omega
 conv => lhs; rw [e]
 rw [Int.add_mul_emod_self_left, Int.emod_eq_of_lt (by omega) (by omega)]
theorem fold_dig (n : Int) : ∀ (k v : Nat), (((Z8 (digs n k).reverse).foldl (fun v b => v * 256 + b.toNat) v : Nat) : Int) = v * 256 ^ k + n % 256 ^ k
 | 0, v => by simp [digs, Z8]
 | k + 1, v => by
  rw [digs_succ, List.reverse_append]
  show (((Z8 ([wU8 (n / 2 ^ (8 * k))] ++ (digs n k).reverse)).foldl _ v : Nat) : Int) = _
  unfold Z8
  rw [List.map_append, List.map_singleton, List.singleton_append, List.foldl_cons]
  have := fold_dig n k (v * 256 + (UInt8.ofNat (wU8 (n / 2 ^ (8 * k))).toNat).toNat)
  unfold Z8 at this
  rw [this]
  have e : (2 : Int) ^ (8 * k) = 256 ^ k := by rw [Int.pow_mul]; rfl
  rw [Int.natCast_add, Int.natCast_mul, oct_dig, e]
  have hm := emod_two n (B := 256 ^ k) (Int.pow_pos (by decide))
  rw [Int.pow_succ, hm, Int.add_mul, Int.mul_comm (256 ^ k) (n / 256 ^ k % 256)]
  have : (v : Int) * ((256 : Nat) : Int) * 256 ^ k = v * (256 ^ k * 256) := by
   rw [show ((256 : Nat) : Int) = 256 from rfl, Int.mul_assoc, Int.mul_comm 256]
  omega
theorem val_num (big : Bool) (n : Int) (k : Nat) (hk : k ≤ 8) : (valB big (Xp big n k) : Int) = n % 256 ^ k := by
 rw [valB_num big n k hk, fold_dig]; simp
theorem val_num2 (big : Bool) {n : Int} (h : 0 ≤ n ∧ n ≤ 65535) : (valB big (Xp big n 2) : Int) = n := by
 rw [val_num _ _ _ (by omega)]; omega
theorem Jau (big : Bool) {n : Int} (h : 0 ≤ n ∧ n ≤ 4294967295) : (valB big (Xp big n 4) : Int) = n := by
 rw [val_num _ _ _ (by omega)]; omega
def win (s : List UInt8) (a : Nat) (bs : List UInt8) : Prop := (s.drop a).take bs.length = bs
theorem win_len {s : List UInt8} {a : Nat} {bs : List UInt8} (h : win s a bs) (hb : bs ≠ []) : a + bs.length ≤ s.length := by
 unfold win at h
 have := congrArg List.length h
 rw [List.length_take, List.length_drop] at this
 have h0 : 0 < bs.length := List.length_pos_iff.2 hb
 omega
theorem W7 {s : List UInt8} {a : Nat} {x y : List UInt8} (h : win s a (x ++ y)) : win s a x ∧ win s (a + x.length) y := by
 unfold win at *
 rw [List.length_append] at h
 have h1 := congrArg (List.take x.length) h
 have h2 := congrArg (List.drop x.length) h
 rw [List.take_take, Nat.min_eq_left (by omega), List.take_left'  rfl] at h1
 rw [List.drop_take, List.drop_drop, List.drop_left' rfl, show x.length + y.length - x.length = y.length by omega] at h2
 exact ⟨h1, h2⟩
theorem win_val {s : List UInt8} {a k : Nat} {bs : List UInt8} (h : win s a bs) (hk : bs.length = k) : (s.drop a).take k = bs := by rw [← hk]; exact h
theorem flat_at {α : Type} {g : α → List UInt8} {w : Nat} (hg : ∀ x, (g x).length = w) : ∀ (xs : List α) (i : Nat) (h : i < xs.length), ((xs.flatMap g).drop (i * w)).take w = g (xs[i]'h)
 | x :: xs, 0, _ => by
  rw [Nat.zero_mul, List.drop_zero, List.flatMap_cons, List.take_left' (hg x)]; rfl
 | x :: xs, i + 1, h => by
  rw [List.flatMap_cons, Nat.add_mul, Nat.one_mul, Nat.add_comm, ← List.drop_drop, List.drop_left' (hg x)]
  exact flat_at hg xs i (by simpa using h)
theorem list_back {α : Type} {g : α → List UInt8} {w : Nat} (hg : ∀ x, (g x).length = w) (xs : List α) (f : Nat → α) (hf : ∀ i (h : i < xs.length), f i = xs[i]'h) : (List.range xs.length).map f = xs := by
 apply List.ext_getElem
 ·simp
 ·intro i h1 h2
  rw [List.getElem_map, List.getElem_range, hf i h2]
theorem plain_ok {v : T_tag_Value} (h : plainE v = 0) : okV v ∧ (∀ n ∈ v.Ints, (limS v.Kind).1 ≤ n ∧ n ≤ (limS v.Kind).2) ∧ (∀ r ∈ v.Ratios, ¬ ratP r) ∧ (v.Kind = 2 → (0 : UInt8) ∉ v.Text) := by
 unfold plainE at h
 split at h
 ·rename_i h0; exact absurd h h0
 split at h
 ·exact absurd h (by decide)
 split at h
 ·exact absurd h (by decide)
 split at h
 ·exact absurd h (by decide)
 rename_i h1 h2 h3 h4
 refine ⟨fields_ok (Classical.byContradiction fun h => h1 h), fun n hn => ?_, fun r hr hp => h3 ⟨r, hr, hp⟩, fun hk hm => h4 ⟨hk, hm⟩⟩
 exact Classical.byContradiction fun hc => h2 ⟨n, hn, by omega⟩
theorem valT_back (r : T_tag_reader) {v : T_tag_Value} (h : plainE v = 0) (h13 : v.Kind ≠ 13) : valT r v.Kind (cntS v) (Ui r.big_ v) = (v, r) := by
 obtain ⟨hok, hi, hr, ht⟩ := plain_ok h
 obtain ⟨p1, p2, p3⟩ := ok_parts hok
 have hE : v.Entries = [] := by
  have := hok.2
  unfold formP at this
  exact Classical.byContradiction fun hc => this (.inr (.inr (.inr ⟨h13, hc⟩)))
 have hkind := hok.1
 unfold valT Ui cntS
 by_cases h2 : v.Kind = 2
 ·have hI : v.Ints = [] := p1 (by unfold intsK; omega)
  have hR : v.Ratios = [] := p3 (by omega)
  rw [if_pos h2, if_pos h2, if_neg (by simp), List.dropLast_concat, if_neg (ht h2)]
  cases v; simp only at h2 hI hR hE ⊢; rw [h2, hI, hR, hE]
 rw [if_neg h2, if_neg h2, if_neg h2]
 by_cases h7 : v.Kind = 7
 ·have hI : v.Ints = [] := p1 (by unfold intsK; omega)
  have hR : v.Ratios = [] := p3 (by omega)
  rw [if_pos h7, if_pos h7]
  cases v; simp only at h7 hI hR hE ⊢; rw [h7, hI, hR, hE]
 rw [if_neg h7, if_neg h7, if_neg h7]
 have hT : v.Text = [] := p2 (by unfold textK; omega)
 by_cases h5 : v.Kind = 5
 ·have hI : v.Ints = [] := p1 (by unfold intsK; omega)
  rw [if_pos h5, if_pos h5, if_pos h5]
  have hb : (List.range v.Ratios.length).map (ratR r.big_ (v.Ratios.flatMap (ratS r.big_))) = v.Ratios := by
   refine list_back (ratS_len r.big_) v.Ratios _ fun i hi' => ?_
   have hw := flat_at (ratS_len r.big_) v.Ratios i hi'
   have hn := hr _ (List.getElem_mem hi')
   unfold ratP at hn
   have e1 : ((v.Ratios.flatMap (ratS r.big_)).drop (8 * i)).take 4 = Xp r.big_ (v.Ratios[i]'hi').Num 4 := by
    have := congrArg (List.take 4) hw
    rw [List.take_take, Nat.mul_comm, show min 4 8 = 4 from rfl] at this
    rw [this]; unfold ratS; rw [List.take_left' (Qj _ _ (by omega))]
   have e2 : ((v.Ratios.flatMap (ratS r.big_)).drop (8 * i + 4)).take 4 = Xp r.big_ (v.Ratios[i]'hi').Den 4 := by
    have := congrArg (List.drop 4) hw
    rw [List.drop_take, List.drop_drop, Nat.mul_comm] at this
    rw [this]; unfold ratS; rw [List.drop_left' (Qj _ _ (by omega))]
   unfold ratR
   rw [e1, e2, Jau _ (by omega), Jau _ (by omega)]
  rw [hb]
  cases v; simp only at h5 hI hT hE ⊢; rw [h5, hI, hT, hE]
 ·have hR : v.Ratios = [] := p3 h5
  have hK : intsK v.Kind := by unfold kindP textK intsK at hkind; unfold intsK; omega
  rw [if_neg h5, if_neg h5, if_neg h5, if_neg h13]
  have hw8 := wideN_le v.Kind
  have hlen : ∀ n : Int, (Xp r.big_ n (Qy v.Kind)).length = Qy v.Kind := fun n => Qj _ _ hw8
  have hb : (List.range v.Ints.length).map (intR r.big_ v.Kind (v.Ints.flatMap fun n => Xp r.big_ n (Qy v.Kind))) = v.Ints := by
   refine list_back hlen v.Ints _ fun i hi' => ?_
   have hw := flat_at hlen v.Ints i hi'
   have hn := hi _ (List.getElem_mem hi')
   unfold intR
   rw [hw, val_num _ _ _ hw8]
   unfold limS at hn
   unfold intsK at hK
   rcases hK with hk | hk | hk | hk <;> rw [hk] at hn ⊢ <;> simp only [Qy] at hn ⊢ <;> simp at hn ⊢
   ·omega
   ·omega
   ·omega
   ·unfold V0 wI32; omega
  rw [hb]
  cases v; simp only at hR hT hE ⊢; rw [hR, hT, hE]
end Go.M

/- What was written is read back: directories, in plain Lean. Conditions: none. -/
namespace Go.M
open Go.Md Go.Pl
set_option linter.unusedVariables false
def fresh (sn : List (Int × Bool)) (p : Nat) : Prop := ∀ k : Nat, p ≤ k → (mGet sn (k : Int)).getD false = false
theorem mGet_other (v : Bool) {k x : Int} (h : x ≠ k) : ∀ m : List (Int × Bool), mGet (mSet m k v) x = mGet m x := by
 have h1 : ∀ m : List (Int × Bool), mGet (m.map fun p => if p.1 = k then (k, v) else p) x = mGet m x := by
  intro m
  unfold mGet
  induction m with
  | nil => rfl
  | cons a m ih =>
   rw [List.map_cons, List.find?_cons, List.find?_cons]
   by_cases ha : a.1 = k
   ·rw [if_pos ha, decide_eq_false (show ¬ (k, v).1 = x from fun e => h e.symm), decide_eq_false (show ¬ a.1 = x from fun e => h (e.symm.trans ha))]
    exact ih
   ·rw [if_neg ha]
    by_cases hx : a.1 = x
    ·rw [decide_eq_true hx]
    ·rw [decide_eq_false hx]; exact ih
 intro m
 unfold mSet
 split
 ·exact h1 m
 ·unfold mGet
  rw [List.find?_append, List.find?_cons, decide_eq_false (show ¬ (k, v).1 = x from fun e => h e.symm), List.find?_nil, Option.or_none]
theorem fresh_set {sn : List (Int × Bool)} {p q : Nat} (h : fresh sn p) (hq : p ≤ q) : fresh (mSet sn (q : Int) true) (q + 1) := fun k hk => by
 rw [mGet_other true (by omega)]; exact h k (by omega)
theorem fresh_mono {sn : List (Int × Bool)} {p q : Nat} (h : fresh sn p) (hq : p ≤ q) : fresh sn q := fun k hk => h k (by omega)
def entP (H : List T_tag_Entry → Nat → List T_tag_Span) (n : Nat) (e : T_tag_Entry) (q : Nat) : List T_tag_Span :=
 if e.Value.Kind = 13 then H e.Value.Entries q else if n ≤ 4 then [] else [⟨(ev q : Int), ((ev q + n : Nat) : Int)⟩]
noncomputable def bodP (G : List T_tag_Entry → Nat → List UInt8) (H : List T_tag_Entry → Nat → List T_tag_Span) (big : Bool) : List T_tag_Entry → Nat → List T_tag_Span
 | [], _ => []
 | e :: l, q => entP H (Ui big e.Value).length e q ++ bodP G H big l (q + (entF G big e q).2.length)
noncomputable def dirP : Nat → Bool → List T_tag_Entry → Nat → List T_tag_Span
 | 0, _ => fun _ _ => []
 | d + 1, big => fun l p => ⟨(ev p : Int), ((ev p + (2 + 12 * l.length + 4) : Nat) : Int)⟩ :: bodP (Q4 d big) (dirP d big) big l (ev p + 2 + 12 * l.length + 4)
noncomputable def fE (d : Nat) (e : T_tag_Entry) : Int := if e.Value.Kind ≠ 13 then plainE e.Value else if Vv e.Value ≠ 0 then Vv e.Value else dE d e.Value.Entries
theorem dE_succ {d : Nat} {l : List T_tag_Entry} (h : dE (d + 1) l = 0) : l.length ≤ 200 ∧ listE (fE d) none l = 0 := by
 unfold dE at h
 split at h
 ·omega
 ·exact ⟨by omega, h⟩
theorem listE_cons {f : T_tag_Entry → Int} {pr : Option Int} {e : T_tag_Entry} {l : List T_tag_Entry} (h : listE f pr (e :: l) = 0) : (0 ≤ e.Tag ∧ e.Tag ≤ 65535) ∧ (∀ t, pr = some t → ¬ e.Tag ≤ t) ∧ f e = 0 ∧ listE f (some e.Tag) l = 0 := by
 unfold listE at h
 split at h
 ·exact absurd h (by decide)
 split at h
 ·exact absurd h (by decide)
 split at h
 ·rename_i h3; exact absurd h h3
 rename_i h1 h2 h3
 exact ⟨by omega, fun t ht hle => h2 ⟨t, ht, hle⟩, Classical.byContradiction fun hc => h3 hc, h⟩
structure Back (r r' : T_tag_reader) (new : List T_tag_Span) (p : Nat) : Prop where
 s : r'.s_ = r.s_
 big : r'.big_ = r.big_
 dirs : r'.dirs_ = r.dirs_
 found : r'.found_ = r.found_
 no : r'.no_ = 0
 parts : r'.parts_ = r.parts_ ++ new
 seen : fresh r'.seen_ p
theorem Back.trans {a b c : T_tag_reader} {x y : List T_tag_Span} {p q : Nat} (h : Back a b x p) (g : Back b c y q) : Back a c (x ++ y) q :=
 ⟨g.s.trans h.s, g.big.trans h.big, g.dirs.trans h.dirs, g.found.trans h.found, g.no, by rw [g.parts, h.parts, List.append_assoc], g.seen⟩
def dwin (s : List UInt8) (d : Nat) (big : Bool) (l : List T_tag_Entry) (p nxt : Nat) : Prop :=
 win s (ev p) (Xp big l.length 2) ∧ win s (ev p + 2) (bods (Q4 d big) big l (ev p + 2 + 12 * l.length + 4)).1 ∧ win s (ev p + 2 + 12 * l.length) (Xp big nxt 4) ∧ win s (ev p + 2 + 12 * l.length + 4) (bods (Q4 d big) big l (ev p + 2 + 12 * l.length + 4)).2
theorem dwin_of {s : List UInt8} {d : Nat} {big : Bool} {l : List T_tag_Entry} {p : Nat} (h : win s p (Q4 (d + 1) big l p)) : dwin s d big l p 0 := by
 have h' : win s p (dirB (Q4 d big) big l p) := h
 unfold dirB at h'
 obtain ⟨h1, h5⟩ := W7 h'
 obtain ⟨h1, h4⟩ := W7 h1
 obtain ⟨h1, h3⟩ := W7 h1
 obtain ⟨h1, h2⟩ := W7 h1
 simp only [List.length_append, pad_len, Qj _ _ (show 2 ≤ 8 by omega), bods_len, Wb] at h2 h3 h4 h5
 have e : p + p % 2 = ev p := rfl
 rw [e] at h2
 refine ⟨h2, ?_, ?_, ?_⟩
 ·rw [show ev p + 2 = p + (p % 2 + 2) by unfold ev; omega]; exact h3
 ·rw [show Xp big (0 : Nat) 4 = zer 4 from num_zero big (by omega), show ev p + 2 + 12 * l.length = p + (p % 2 + 2 + 12 * l.length) by unfold ev; omega]; exact h4
 ·rw [show ev p + 2 + 12 * l.length + 4 = p + (p % 2 + 2 + 12 * l.length + 4) by unfold ev; omega] at h5 ⊢; exact h5
def DirBack (d : Nat) (self : SelfD) : Prop := ∀ (r : T_tag_reader) (p : Nat) (l : List T_tag_Entry) (path : List Int) (d' nxt : Nat), d = d' + 1 → path.length + d = 6 → dE d l = 0 → 8 ≤ p → r.s_.length ≤ 65000 → r.no_ = 0 → r.found_ ≤ 0 → r.dirs_ ≤ 20 → r.parts_.length + cap d ≤ 7999999999999 → fresh r.seen_ p →
 dwin r.s_ d' r.big_ l p nxt → (path.length = 1 ∨ nxt = 0) → nxt ≤ 4294967295 → ∃ r', self (r, ((ev p : Nat) : Int), path) = some (l, (nxt : Int), r') ∧ Back r r' (dirP d r.big_ l p) (p + (Q4 d r.big_ l p).length)
theorem ent_eta (e : T_tag_Entry) : (⟨e.Tag, e.Value⟩ : T_tag_Entry) = e := by cases e; rfl
theorem val_at (r : T_tag_reader) {a k : Nat} {n : Int} (hk : k ≤ 8) (h : win r.s_ a (Xp r.big_ n k)) : (Xe r a k : Int) = (valB r.big_ (Xp r.big_ n k) : Int) := by
 unfold Xe
 rw [win_val h (Qj _ _ hk)]
theorem entry_back {d : Nat} {self : SelfD} (H : DirBack d self) (r : T_tag_reader) {path : List Int} (hpl : path.length + d + 1 = 6) {e : T_tag_Entry} (he : fE d e = 0) (ht : 0 ≤ e.Tag ∧ e.Tag ≤ 65535) {a y : Nat} (hy : 8 ≤ y) (hs : r.s_.length ≤ 65000) (hno : r.no_ = 0) (hf : r.found_ ≤ 0) (hd : r.dirs_ ≤ 20) (hp : r.parts_.length + cap d ≤ 7999999999999) (hfr : fresh r.seen_ y) (ha : a ≤ 65000)
  (w1 : win r.s_ a (hdrS r.big_ e ++ (entF (Q4 d r.big_) r.big_ e y).1)) (w2 : win r.s_ y (entF (Q4 d r.big_) r.big_ e y).2) (hyl : y ≤ r.s_.length) :
  ∃ r', entR self r a path = some (e, r') ∧ Back r r' (entP (dirP d r.big_) (Ui r.big_ e.Value).length e y) (y + (entF (Q4 d r.big_) r.big_ e y).2.length) := by
 obtain ⟨g1, g2⟩ := W7 w1
 unfold hdrS at g1
 obtain ⟨g1, g3⟩ := W7 g1
 obtain ⟨g1, g4⟩ := W7 g1
 simp only [List.length_append, Qj _ _ (show 2 ≤ 8 by omega)] at g3 g4
 rw [hdr_len] at g2
 have g3 : win r.s_ (a + 4) (Xp r.big_ (cntS e.Value) 4) := g3
 have vt : (Xe r a 2 : Int) = e.Tag := by rw [val_at r (by omega) g1, val_num2 _ ht]
 have hevy : ev y ≤ y + 1 := by unfold ev; omega
 unfold entR
 by_cases h13 : e.Value.Kind = 13
 ·have vk : (Xe r (a + 2) 2 : Int) = 13 := by rw [val_at r (by omega) g4, val_num2 _ (by omega), h13]
  have hc1 : cntS e.Value = 1 := by unfold cntS; rw [h13]; rfl
  have vc : Xe r (a + 4) 4 = 1 := by
   have := val_at r (by omega) g3
   rw [hc1] at this
   have h2 := Jau r.big_ (n := ((1 : Nat) : Int)) (by omega)
   omega
  unfold fE at he
  rw [if_neg (by simp [h13]), fields13 h13] at he
  have hf0 : ¬ (e.Value.Text ≠ [] ∨ e.Value.Ints ≠ [] ∨ e.Value.Ratios ≠ []) := fun hc => by rw [if_pos hc] at he; simp at he
  rw [if_neg hf0] at he
  have hdE : dE d e.Value.Entries = 0 := by simpa using he
  obtain ⟨d', rfl⟩ : ∃ d', d = d' + 1 := by
   cases d with
   | zero => exact absurd hdE (by unfold dE; decide)
   | succ d => exact ⟨d, rfl⟩
  have eF : entF (Q4 (d' + 1) r.big_) r.big_ e y = (Xp r.big_ (ev y) 4, Q4 (d' + 1) r.big_ e.Value.Entries y) := by unfold entF; rw [if_pos h13]
  rw [eF] at g2 w2 ⊢
  have va : (Xe r (a + 8) 4 : Int) = (ev y : Int) := by rw [val_at r (by omega) g2, Jau _ (by omega)]
  obtain ⟨r', q1, q2⟩ := H r y e.Value.Entries (path ++ [e.Tag]) d' 0 rfl (by simp; omega) hdE hy hs hno hf hd hp hfr (dwin_of w2) (.inr rfl) (by omega)
  refine ⟨r', ?_, ?_⟩
  ·rw [if_pos vk, if_pos vc, vt, va, q1, Jb]
   have hv : e = ⟨e.Tag, ⟨13, [], [], [], e.Value.Entries⟩⟩ := by
    cases e with
    | mk t v =>
     cases v with
     | mk k tx is rs es =>
      simp only at h13 hf0
      have : tx = [] ∧ is = [] ∧ rs = [] := ⟨Classical.byContradiction fun h => hf0 (.inl h), Classical.byContradiction fun h => hf0 (.inr (.inl h)), Classical.byContradiction fun h => hf0 (.inr (.inr h))⟩
      rw [h13, this.1, this.2.1, this.2.2]
   conv => rhs; rw [hv]
  ·unfold entP; rw [if_pos h13]; exact q2
 ·unfold fE at he
  rw [if_pos h13] at he
  obtain ⟨hok, _⟩ := plain_ok he
  have hk0 : 0 ≤ e.Value.Kind ∧ e.Value.Kind ≤ 65535 := by have := hok.1; unfold kindP intsK textK at this; omega
  have vk : (Xe r (a + 2) 2 : Int) = e.Value.Kind := by rw [val_at r (by omega) g4, val_num2 _ hk0]
  have hw0 : Qy e.Value.Kind ≠ 0 := fun h => (wide_zero e.Value.Kind h13).1 (by omega) hok.1
  have hcw := octS_len r.big_ hok h13
  have hcle : cntS e.Value ≤ cntS e.Value * Qy e.Value.Kind := Nat.le_mul_of_pos_right _ (by omega)
  by_cases h4 : (Ui r.big_ e.Value).length ≤ 4
  ·have eF : entF (Q4 d r.big_) r.big_ e y = (Ui r.big_ e.Value ++ zer (4 - (Ui r.big_ e.Value).length), []) := by unfold entF; rw [if_neg h13, if_pos h4]
   rw [eF] at g2 w2 ⊢
   have vc : Xe r (a + 4) 4 = cntS e.Value := by
    have := val_at r (by omega) g3
    have h2 := Jau r.big_ (n := ((cntS e.Value : Nat) : Int)) (by omega)
    omega
   refine ⟨r, ?_, ?_⟩
   ·rw [if_neg (by rw [vk]; exact h13), if_neg (by rw [vk]; exact hw0), vt, vk, vc]
    unfold valR
    rw [if_neg (by omega), win_val (W7 g2).1 hcw, valT_back r he h13]
    dsimp only
    rw [ent_eta]
   ·unfold entP; rw [if_neg h13, if_pos h4]
    exact ⟨rfl, rfl, rfl, rfl, hno, by simp, fresh_mono hfr (by omega)⟩
  ·have eF : entF (Q4 d r.big_) r.big_ e y = (Xp r.big_ (ev y) 4, pad y ++ Ui r.big_ e.Value) := by unfold entF; rw [if_neg h13, if_neg h4]
   rw [eF] at g2 w2 ⊢
   obtain ⟨_, w3⟩ := W7 w2
   rw [pad_len] at w3
   have w3' : win r.s_ (ev y) (Ui r.big_ e.Value) := w3
   have hlen := win_len w3' (fun h => h4 (by rw [h]; simp))
   have va : Xe r (a + 8) 4 = ev y := by
    have := val_at r (by omega) g2
    have h2 := Jau r.big_ (n := ((ev y : Nat) : Int)) (by omega)
    omega
   have vc : Xe r (a + 4) 4 = cntS e.Value := by
    have := val_at r (by omega) g3
    have h2 := Jau r.big_ (n := ((cntS e.Value : Nat) : Int)) (by omega)
    omega
   have hev : y ≤ ev y := by unfold ev; omega
   refine ⟨⟨r.s_, r.big_, r.parts_ ++ [⟨(ev y : Int), ((ev y + (Ui r.big_ e.Value).length : Nat) : Int)⟩], r.seen_, r.dirs_, r.found_, r.no_⟩, ?_, ?_⟩
   ·rw [if_neg (by rw [vk]; exact h13), if_neg (by rw [vk]; exact hw0), vt, vk, vc]
    unfold valR
    rw [if_pos (by omega)]
    have va' : valB r.big_ ((r.s_.drop (a + 8)).take 4) = ev y := va
    simp only [va', ← hcw]
    rw [if_pos ⟨by omega, hlen⟩, show (r.s_.drop (ev y)).take (Ui r.big_ e.Value).length = Ui r.big_ e.Value from w3']
    have := valT_back (⟨r.s_, r.big_, r.parts_ ++ [⟨(ev y : Int), ((ev y + (Ui r.big_ e.Value).length : Nat) : Int)⟩], r.seen_, r.dirs_, r.found_, r.no_⟩ : T_tag_reader) he h13
    rw [this]
    dsimp only
    rw [ent_eta]
   ·unfold entP; rw [if_neg h13, if_neg h4]
    exact ⟨rfl, rfl, rfl, rfl, hno, rfl, fresh_mono hfr (by omega)⟩
theorem loop_back {d : Nat} {self : SelfD} (H : DirBack d self) (HP : ∀ big l p, dE d l = 0 → (dirP d big l p).length ≤ cap d) {path : List Int} (hpl : path.length + d + 1 = 6) {pl nxt : Nat} {l : List T_tag_Entry} (hl200 : l.length ≤ 200) (s : List UInt8) (big : Bool) (hs : s.length ≤ 65000) (hin : pl + 2 + 12 * l.length ≤ s.length) :
  ∀ (xs pre : List T_tag_Entry) (y : Nat) (rc : T_tag_reader) (pr : Option Int), l = pre ++ xs → (∀ h : 0 < pre.length, pr = some (pre[pre.length - 1]'(by omega)).Tag) → listE (fE d) pr xs = 0 → 8 ≤ y → y ≤ s.length → rc.s_ = s → rc.big_ = big → rc.no_ = 0 → rc.found_ ≤ 0 → rc.dirs_ ≤ 20 → rc.parts_.length + xs.length * (1 + cap d) ≤ 7999999999999 → fresh rc.seen_ y →
   win s (pl + 2 + 12 * pre.length) (bods (Q4 d big) big xs y).1 → win s y (bods (Q4 d big) big xs y).2 →
   ∃ r', dirLoop self path pl nxt l.length pre.length rc pre = some (l, (nxt : Int), r') ∧ Back rc r' (bodP (Q4 d big) (dirP d big) big xs y) (y + (bods (Q4 d big) big xs y).2.length) := by
 intro xs
 induction xs with
 | nil =>
  intro pre y rc pr hl _ _ hy hyl h1 h2 h3 h4 h5 h6 h7 _ _
  have hl' : l = pre := by rw [hl, List.append_nil]
  refine ⟨rc, ?_, rfl, rfl, rfl, rfl, h3, by unfold bodP; simp, fresh_mono h7 (by omega)⟩
  rw [loop_end _ _ _ _ _ _ _ _ (.inl (by rw [hl']; exact Nat.le_refl _)), hl']
 | cons e xs ih =>
  intro pre y rc pr hl hpr hE hy hyl h1 h2 h3 h4 h5 h6 h7 w1 w2
  obtain ⟨ht, hlow, he, hE'⟩ := listE_cons hE
  have hlen : l.length = pre.length + (xs.length + 1) := by rw [hl, List.length_append, List.length_cons]
  rw [List.length_cons, Nat.add_mul, Nat.one_mul] at h6
  unfold bods at w1 w2
  simp only at w1 w2
  obtain ⟨u1, u2⟩ := W7 w1
  obtain ⟨v1, v2⟩ := W7 w2
  rw [List.length_append, hdr_len, entF_len] at u2
  subst h1 h2
  obtain ⟨r', q1, q2⟩ := entry_back H rc (path := path) hpl he ht (a := pl + 2 + 12 * pre.length) hy hs h3 h4 h5 (by omega) h7 (by omega) u1 v1 hyl
  have htag : (Xe rc (pl + 2 + 12 * pre.length) 2 : Int) = e.Tag := by
   have g := (W7 u1).1
   unfold hdrS at g
   rw [val_at rc (by omega) (W7 (W7 g).1).1, val_num2 _ ht]
  have hpn : (entP (dirP d rc.big_) (Ui rc.big_ e.Value).length e y).length ≤ 1 + cap d := by
   unfold entP
   split
   ·rename_i h13
    unfold fE at he
    rw [if_neg (by simp [h13])] at he
    split at he
    ·rename_i h; exact absurd he h
    ·have := HP rc.big_ e.Value.Entries y he; omega
   split <;> simp
  rw [loop_next self path pl nxt l.length pre.length rc pre (by omega) h3 rfl (by omega) hin hs (fun h => by rw [htag]; exact hlow _ (hpr h)) (by omega) h4 (by omega) q1]
  have hyl' : y + (entF (Q4 d rc.big_) rc.big_ e y).2.length ≤ rc.s_.length := by
   by_cases h0 : (entF (Q4 d rc.big_) rc.big_ e y).2 = []
   ·rw [h0]; simpa using hyl
   ·exact win_len v1 h0
  obtain ⟨r'', z1, z2⟩ := ih (pre ++ [e]) (y + (entF (Q4 d rc.big_) rc.big_ e y).2.length) r' (some e.Tag) (by rw [hl]; simp) (fun h => by simp) hE' (by omega) hyl' q2.s q2.big q2.no (by rw [q2.found]; exact h4) (by rw [q2.dirs]; exact h5) (by rw [q2.parts, List.length_append]; omega) q2.seen
   (by rw [List.length_append, List.length_singleton, show pl + 2 + 12 * (pre.length + 1) = pl + 2 + 12 * pre.length + (8 + 4) by omega]; exact u2) v2
  rw [List.length_append, List.length_singleton] at z1
  refine ⟨r'', z1, ?_⟩
  have := q2.trans z2
  unfold bods bodP
  simp only [List.length_append]
  rw [← Nat.add_assoc]
  exact this
theorem dirP_len : ∀ (d : Nat) (big : Bool) (l : List T_tag_Entry) (p : Nat), dE d l = 0 → (dirP d big l p).length ≤ cap d := by
 intro d
 induction d with
 | zero => intro big l p _; exact Nat.zero_le _
 | succ d ih =>
  intro big l p h
  obtain ⟨h200, hE⟩ := dE_succ h
  have key : ∀ (xs : List T_tag_Entry) (pr : Option Int) (q : Nat), listE (fE d) pr xs = 0 → (bodP (Q4 d big) (dirP d big) big xs q).length ≤ xs.length * (1 + cap d) := by
   intro xs
   induction xs with
   | nil => intro pr q _; exact Nat.zero_le _
   | cons e xs ih2 =>
    intro pr q hq
    obtain ⟨_, _, he, hE'⟩ := listE_cons hq
    unfold bodP
    rw [List.length_append, List.length_cons, Nat.add_mul, Nat.one_mul]
    have h1 := ih2 _ (q + (entF (Q4 d big) big e q).2.length) hE'
    have h2 : (entP (dirP d big) (Ui big e.Value).length e q).length ≤ 1 + cap d := by
     unfold entP
     split
     ·rename_i h13
      unfold fE at he
      rw [if_neg (by simp [h13])] at he
      split at he
      ·rename_i h; exact absurd he h
      ·have := ih big e.Value.Entries q he; omega
     split <;> simp
    omega
  show (_ :: bodP _ _ _ _ _).length ≤ 1 + 200 * (1 + cap d)
  have := key l none (ev p + 2 + 12 * l.length + 4) hE
  have h3 := Nat.mul_le_mul_right (1 + cap d) h200
  rw [List.length_cons]; omega
theorem dirR_back {d : Nat} {self : SelfD} (H : DirBack d self) (r : T_tag_reader) (p : Nat) (l : List T_tag_Entry) (path : List Int) (nxt : Nat) (hpl : path.length + (d + 1) = 6) (hE : dE (d + 1) l = 0) (hp8 : 8 ≤ p) (hs : r.s_.length ≤ 65000) (hno : r.no_ = 0) (hf : r.found_ ≤ 0) (hd : r.dirs_ ≤ 20) (hp : r.parts_.length + cap (d + 1) ≤ 7999999999999) (hfr : fresh r.seen_ p)
  (hw : dwin r.s_ d r.big_ l p nxt) (h1 : path.length = 1 ∨ nxt = 0) (hn : nxt ≤ 4294967295) : ∃ r', dirR self r (ev p) path = some (l, (nxt : Int), r') ∧ Back r r' (dirP (d + 1) r.big_ l p) (p + (Q4 (d + 1) r.big_ l p).length) := by
 obtain ⟨h200, hL⟩ := dE_succ hE
 obtain ⟨w1, w2, w3, w4⟩ := hw
 have hev : p ≤ ev p := by unfold ev; omega
 have hlen3 := win_len w3 (fun h => by have := Qj r.big_ (nxt : Int) (k := 4) (by omega); rw [h] at this; simp at this)
 rw [Qj _ _ (by omega)] at hlen3
 have vc : Xe r (ev p) 2 = l.length := by
  have := val_at r (by omega) w1
  have h2 := val_num2 r.big_ (n := ((l.length : Nat) : Int)) (by omega)
  omega
 have vn : Xe r (ev p + 2 + 12 * l.length) 4 = nxt := by
  have := val_at r (by omega) w3
  have h2 := Jau r.big_ (n := ((nxt : Nat) : Int)) (by omega)
  omega
 have hcap : cap (d + 1) = 1 + 200 * (1 + cap d) := rfl
 have hmul := Nat.mul_le_mul_right (1 + cap d) h200
 obtain ⟨r', q1, q2⟩ := loop_back H (dirP_len d) (path := path) (by omega) (pl := ev p) (nxt := nxt) h200 r.s_ r.big_ hs (by omega) l [] (ev p + 2 + 12 * l.length + 4) ⟨r.s_, r.big_, r.parts_ ++ [⟨((ev p : Nat) : Int), ((ev p + (2 + 12 * l.length + 4) : Nat) : Int)⟩], mSet r.seen_ ((ev p : Nat) : Int) true, r.dirs_, r.found_, r.no_⟩ none rfl (fun h => absurd h (by simp)) hL (by omega) (by omega) rfl rfl hno hf hd (by simp only [List.length_append, List.length_singleton]; omega) (fresh_mono (fresh_set hfr hev) (by omega)) w2 w4
 refine ⟨r', ?_, q2.s, q2.big, q2.dirs, q2.found, q2.no, ?_, ?_⟩
 ·unfold dirR
  rw [if_neg (by simp; omega), if_neg (by rw [hfr (ev p) hev]; decide), vc, if_neg (by omega), if_neg (by omega), if_neg (by simp [hno]), vn, if_neg (by omega)]
  exact q1
 ·rw [q2.parts]
  show _ = r.parts_ ++ (_ :: bodP _ _ _ _ _)
  rw [List.append_assoc]; rfl
 ·have := q2.seen
  rw [show p + (Q4 (d + 1) r.big_ l p).length = ev p + 2 + 12 * l.length + 4 + (bods (Q4 d r.big_) r.big_ l (ev p + 2 + 12 * l.length + 4)).2.length from dirB_len (Q4 d r.big_) r.big_ l p]
  exact this
theorem it_back : ∀ (d n : Nat), d < n → DirBack d (it dirF n) := by
 intro d
 induction d with
 | zero => intro n _ r p l path d' nxt h; omega
 | succ d ih =>
  intro n hn r p l path d' nxt hd' h6 hE hp8 hs hno hf hd hp hfr hw h1 hnx
  obtain ⟨n, rfl⟩ : ∃ m, n = m + 1 := ⟨n - 1, by omega⟩
  have : d' = d := by omega
  subst this
  obtain ⟨r', q1, q2⟩ := dirR_back (ih n (by omega)) r p l path nxt h6 hE hp8 hs hno hf hd hp hfr hw h1 hnx
  refine ⟨r', ?_, q2⟩
  show Qa _ r ((ev p : Nat) : Int) path = _
  have hev : ev p ≤ p + 1 := by unfold ev; omega
  have hlen3 := win_len hw.2.2.1 (fun h => by have := Qj r.big_ (nxt : Int) (k := 4) (by omega); rw [h] at this; simp at this)
  rw [dir_step _ r (by omega) hs (by omega), q1]
theorem dir_back (r : T_tag_reader) (p : Nat) (l : List T_tag_Entry) (tag : Int) (nxt : Nat) (hE : dE 5 l = 0) (hp8 : 8 ≤ p) (hs : r.s_.length ≤ 65000) (hno : r.no_ = 0) (hf : r.found_ ≤ 0) (hd : r.dirs_ ≤ 20) (hp : r.parts_.length + cap 5 ≤ 7999999999999) (hfr : fresh r.seen_ p)
  (hw : dwin r.s_ 4 r.big_ l p nxt) (hn : nxt ≤ 4294967295) : ∃ r', Wh r ((ev p : Nat) : Int) [tag] = some (l, (nxt : Int), r') ∧ Back r r' (dirP 5 r.big_ l p) (p + (Q4 5 r.big_ l p).length) := by
 rw [dir_it _ _ _ rfl]
 exact it_back 5 6 (by omega) r p l [tag] 4 nxt rfl rfl hE hp8 hs hno hf hd hp hfr hw (.inl rfl) hn
end Go.M

/- What was written is read back: files; TagSpans. Conditions: the file's bulk. -/
namespace Go.M
open Go.Md Go.Pl
set_option linter.unusedVariables false
theorem put_win {s : List UInt8} {k a : Nat} {b x : List UInt8} (hk : k + b.length ≤ s.length) (hd : a + x.length ≤ k ∨ k + b.length ≤ a) (h : win s a x) : win (put s k b) a x := by
 unfold win at *
 rcases hd with hd | hd
 ·unfold put
  rw [List.append_assoc, List.drop_append_of_le_length (by rw [List.length_take]; omega), List.take_append_of_le_length (by rw [List.length_drop, List.length_take]; omega), List.drop_take, List.take_take, Nat.min_eq_left (by omega)]
  exact h
 ·have e : (put s k b).drop a = s.drop a := by
   unfold put
   have hlen : (s.take k ++ b).length = k + b.length := by rw [List.length_append, List.length_take]; omega
   rw [List.drop_append, hlen, List.drop_eq_nil_of_le (by omega), List.nil_append, List.drop_drop]
   congr 1; omega
  rw [e]; exact h
theorem put_at_win {s : List UInt8} {k : Nat} {b : List UInt8} (hk : k + b.length ≤ s.length) : win (put s k b) k b := by
 unfold win put
 rw [List.append_assoc, List.drop_append, List.length_take, Nat.min_eq_left (by omega), Nat.sub_self, List.drop_zero, List.drop_eq_nil_of_le (by rw [List.length_take]; omega), List.nil_append, List.take_left' rfl]
theorem win_self (s t : List UInt8) : win (s ++ t) s.length t := by
 unfold win; rw [List.drop_left' rfl, List.take_length]
theorem win_left {s t x : List UInt8} {a : Nat} (h : win s a x) (ha : a + x.length ≤ s.length) : win (s ++ t) a x := by
 unfold win at *
 rw [List.drop_append_of_le_length (by omega), List.take_append_of_le_length (by rw [List.length_drop]; omega)]
 exact h
def linkN : List (List T_tag_Entry) → Nat → Nat
 | [], _ => 0
 | _ :: _, p => ev p
noncomputable def filP (big : Bool) : List (List T_tag_Entry) → Nat → List T_tag_Span
 | [], _ => []
 | l :: ls, p => dirP 5 big l p ++ filP big ls (p + (Q4 5 big l p).length)
theorem dirS_ne (big : Bool) (l : List T_tag_Entry) (p : Nat) : ev p + 2 + 12 * l.length + 4 ≤ p + (Q4 5 big l p).length := dir5_len
theorem fil_keeps (big : Bool) : ∀ (ls : List (List T_tag_Entry)) (s : List UInt8) (k a : Nat) (x : List UInt8), k + 4 ≤ s.length → (a + x.length ≤ k ∨ k + 4 ≤ a) → a + x.length ≤ s.length → win s a x → win (filS big ls s k) a x
 | [], s, k, a, x, _, _, _, h => h
 | l :: ls, s, k, a, x, hk, hd, ha, h => by
  unfold filS
  have h4 : (Xp big ((ev s.length : Nat) : Int) 4).length = 4 := Qj _ _ (by omega)
  have hn := dirS_ne big l s.length
  have hev : s.length ≤ ev s.length := by unfold ev; omega
  have hp : (put (s ++ Q4 5 big l s.length) k (Xp big ((ev s.length : Nat) : Int) 4)).length = s.length + (Q4 5 big l s.length).length := by
   rw [put_len (by rw [h4, List.length_append]; omega), List.length_append]
  refine fil_keeps big ls _ _ a x (by rw [hp]; omega) (.inl (by omega)) (by rw [hp]; omega) ?_
  exact put_win (by rw [h4, List.length_append]; omega) (by rw [h4]; exact hd) (win_left h ha)
theorem fil_link (big : Bool) (ls : List (List T_tag_Entry)) (s : List UInt8) (k : Nat) (hk : k + 4 ≤ s.length) (h0 : win s k (zer 4)) : win (filS big ls s k) k (Xp big ((linkN ls s.length : Nat) : Int) 4) := by
 cases ls with
 | nil => rw [show Xp big ((linkN [] s.length : Nat) : Int) 4 = zer 4 from num_zero big (by omega)]; exact h0
 | cons l ls =>
  unfold filS
  have h4 : (Xp big ((ev s.length : Nat) : Int) 4).length = 4 := Qj _ _ (by omega)
  have hn := dirS_ne big l s.length
  have hev : s.length ≤ ev s.length := by unfold ev; omega
  have hp : (put (s ++ Q4 5 big l s.length) k (Xp big ((ev s.length : Nat) : Int) 4)).length = s.length + (Q4 5 big l s.length).length := by
   rw [put_len (by rw [h4, List.length_append]; omega), List.length_append]
  refine fil_keeps big ls _ _ k _ (by rw [hp]; omega) (.inl (by show k + (Xp big ((ev s.length : Nat) : Int) 4).length ≤ _; omega)) (by rw [hp]; show k + (Xp big ((ev s.length : Nat) : Int) 4).length ≤ _; omega) ?_
  exact put_at_win (s := s ++ Q4 5 big l s.length) (b := Xp big ((ev s.length : Nat) : Int) 4) (by rw [h4, List.length_append]; omega)
theorem dwin_len {s : List UInt8} {d : Nat} {big : Bool} {l : List T_tag_Entry} {p n : Nat} (h : dwin s d big l p n) : ev p + 2 + 12 * l.length + 4 ≤ s.length := by
 have := win_len h.2.2.1 (fun h => by have := Qj big (n : Int) (k := 4) (by omega); rw [h] at this; simp at this)
 rw [Qj _ _ (by omega)] at this
 exact this
theorem fil_dir (big : Bool) (l : List T_tag_Entry) (ls : List (List T_tag_Entry)) (s : List UInt8) (k : Nat) (hk : k + 4 ≤ s.length) (S : List UInt8) (hS : S = filS big (l :: ls) s k) :
  dwin S 4 big l s.length (linkN ls (s.length + (Q4 5 big l s.length).length)) ∧ S = filS big ls (put (s ++ Q4 5 big l s.length) k (Xp big ((ev s.length : Nat) : Int) 4)) (ev s.length + 2 + 12 * l.length) := by
 have h4 : (Xp big ((ev s.length : Nat) : Int) 4).length = 4 := Qj _ _ (by omega)
 have hn := dirS_ne big l s.length
 have hev : s.length ≤ ev s.length := by unfold ev; omega
 have hp : (put (s ++ Q4 5 big l s.length) k (Xp big ((ev s.length : Nat) : Int) 4)).length = s.length + (Q4 5 big l s.length).length := by
  rw [put_len (by rw [h4, List.length_append]; omega), List.length_append]
 have hS' : S = filS big ls (put (s ++ Q4 5 big l s.length) k (Xp big ((ev s.length : Nat) : Int) 4)) (ev s.length + 2 + 12 * l.length) := by rw [hS]; rfl
 refine ⟨?_, hS'⟩
 have hw : win (put (s ++ Q4 5 big l s.length) k (Xp big ((ev s.length : Nat) : Int) 4)) s.length (Q4 5 big l s.length) := put_win (by rw [h4, List.length_append]; omega) (.inr (by rw [h4]; exact hk)) (win_self s _)
 have hd := dwin_of (d := 4) hw
 have hdl := dwin_len hd
 obtain ⟨w1, w2, w3, w4⟩ := hd
 have l2 := Qj big (l.length : Int) (k := 2) (by omega)
 have lb := bods_len (Q4 4 big) big l (ev s.length + 2 + 12 * l.length + 4)
 have l4 := Qj big ((0 : Nat) : Int) (k := 4) (by omega)
 have keep : ∀ a x, (a + x.length ≤ ev s.length + 2 + 12 * l.length ∨ ev s.length + 2 + 12 * l.length + 4 ≤ a) → a + x.length ≤ s.length + (Q4 5 big l s.length).length → win (put (s ++ Q4 5 big l s.length) k (Xp big ((ev s.length : Nat) : Int) 4)) a x → win S a x := fun a x h1 h2 h3 => by
  rw [hS']; exact fil_keeps big ls _ _ a x (by rw [hp]; omega) h1 (by rw [hp]; exact h2) h3
 refine ⟨keep _ _ (.inl (by omega)) (by omega) w1, keep _ _ (.inl (by omega)) (by omega) w2, ?_, ?_⟩
 ·rw [hS']
  have := fil_link big ls (put (s ++ Q4 5 big l s.length) k (Xp big ((ev s.length : Nat) : Int) 4)) (ev s.length + 2 + 12 * l.length) (by rw [hp]; omega) (by
   rw [show Xp big ((0 : Nat) : Int) 4 = zer 4 from num_zero big (by omega)] at w3; exact w3)
  rw [hp] at this
  exact this
 ·have hlen : s.length + (Q4 5 big l s.length).length = ev s.length + 2 + 12 * l.length + 4 + (bods (Q4 4 big) big l (ev s.length + 2 + 12 * l.length + 4)).2.length := dirB_len (Q4 4 big) big l s.length
  exact keep _ _ (.inr (Nat.le_refl _)) (by omega) w4
theorem rd_back (t : Int) (big : Bool) (S : List UInt8) (hS65 : S.length ≤ 65000) : ∀ (ls : List (List T_tag_Entry)) (s : List UInt8) (k D : Nat) (r : T_tag_reader) (acc : List (List T_tag_Entry)), S = filS big ls s k → k + 4 ≤ s.length → 8 ≤ s.length → (∀ l ∈ ls, dE 5 l = 0) → acc.length = D → D + ls.length ≤ 20 → r.s_ = S → r.big_ = big → r.dirs_ = D → r.found_ ≤ 0 → r.no_ = 0 → fresh r.seen_ s.length → r.parts_.length ≤ D * 323216080401 →
  ∃ r' : T_tag_reader, rdLoop t (linkN ls s.length) r acc = Jag t r'.s_ r'.big_ r'.dirs_ r'.found_ r'.no_ r'.parts_ (acc ++ ls) r'.seen_ ∧ r'.s_ = S ∧ r'.no_ = 0 ∧ r'.parts_ = r.parts_ ++ filP big ls s.length ∧ r'.parts_.length ≤ (D + ls.length) * 323216080401 := by
 have hcap : cap 5 = 323216080401 := by rfl
 intro ls
 induction ls with
 | nil =>
  intro s k D r acc hS hk h8 hE hacc hD hs hb hd hf hno hfr hp
  exact ⟨r, by rw [rd_end t (linkN [] s.length) r acc (.inl rfl), List.append_nil], hs, hno, by unfold filP; simp, by simpa using hp⟩
 | cons l ls ih =>
  intro s k D r acc hS hk h8 hE hacc hD hs hb hd hf hno hfr hp
  rw [List.length_cons] at hD
  obtain ⟨hw, hS'⟩ := fil_dir big l ls s k hk S hS
  have hdl := dwin_len hw
  have h4 : (Xp big ((ev s.length : Nat) : Int) 4).length = 4 := Qj _ _ (by omega)
  have hn := dirS_ne big l s.length
  have hev : s.length ≤ ev s.length := by unfold ev; omega
  have hp' : (put (s ++ Q4 5 big l s.length) k (Xp big ((ev s.length : Nat) : Int) 4)).length = s.length + (Q4 5 big l s.length).length := by
   rw [put_len (by rw [h4, List.length_append]; omega), List.length_append]
  have hSlen : s.length + (Q4 5 big l s.length).length ≤ S.length := by
   rw [hS', filS_len _ _ _ _ (by rw [hp']; omega), hp']
   have : ∀ (ls : List (List T_tag_Entry)) (p : Nat), p ≤ lenF big ls p := by
    intro ls
    induction ls with
    | nil => intro p; exact Nat.le_refl _
    | cons x ls ih => intro p; unfold lenF; exact Nat.le_trans (Nat.le_add_right _ _) (ih _)
   exact this _ _
  have hlink : linkN ls (s.length + (Q4 5 big l s.length).length) ≤ 4294967295 := by
   cases ls with
   | nil => exact Nat.zero_le _
   | cons x xs => show ev _ ≤ _; unfold ev; omega
  obtain ⟨r', q1, q2⟩ := dir_back ⟨r.s_, r.big_, r.parts_, r.seen_, r.dirs_ + 1, r.found_, r.no_⟩ s.length l (acc.length : Int) (linkN ls (s.length + (Q4 5 big l s.length).length)) (hE l (by simp)) h8 (by rw [hs]; exact hS65) hno hf (by show r.dirs_ + 1 ≤ 20; omega) (by show r.parts_.length + cap 5 ≤ _; rw [hcap]; omega) hfr (by rw [hs, hb]; exact hw) hlink
  have hpn := dirP_len 5 big l s.length (hE l (by simp))
  rw [hcap] at hpn
  have qp : r'.parts_ = r.parts_ ++ dirP 5 big l s.length := by have := q2.parts; rw [hb] at this; exact this
  have qs : fresh r'.seen_ (s.length + (Q4 5 big l s.length).length) := by have := q2.seen; rw [hb] at this; exact this
  obtain ⟨r'', z1, z2, z3, z4, z5⟩ := ih (put (s ++ Q4 5 big l s.length) k (Xp big ((ev s.length : Nat) : Int) 4)) (ev s.length + 2 + 12 * l.length) (D + 1) r' (acc ++ [l]) hS' (by rw [hp']; omega) (by rw [hp']; omega) (fun x hx => hE x (by simp [hx])) (by simp [hacc]) (by omega) (by have := q2.s; exact this.trans hs) (by have := q2.big; exact this.trans hb) (by have : r'.dirs_ = r.dirs_ + 1 := q2.dirs; omega) (by have : r'.found_ = r.found_ := q2.found; omega) q2.no (by rw [hp']; exact qs) (by rw [qp, List.length_append]; omega)
  rw [hp'] at z1 z4
  refine ⟨r'', ?_, z2, z3, ?_, ?_⟩
  ·show rdLoop t (ev s.length) r acc = _
   rw [rd_next t (ev s.length) r acc (by omega) hno (by omega) (by omega) q1, z1, List.append_assoc]; rfl
  ·rw [z4, qp, List.append_assoc]; rfl
  ·rw [List.length_cons]; rw [show D + (ls.length + 1) = D + 1 + ls.length by omega]; exact z5
end Go.M

/- What was written is read back; TagSpans, in plain Lean. Conditions: the file's bulk. -/
namespace Go.M
open Go.Md Go.Pl
set_option linter.unusedVariables false
def padC : Nat → List T_tag_Span → Nat → Prop
 | a, [], b => a = b
 | a, x :: l, b => x.From = (ev a : Int) ∧ ∃ c : Nat, x.To = (c : Int) ∧ ev a < c ∧ padC c l b
theorem padC_app {m : List T_tag_Span} {b c : Nat} : ∀ {l : List T_tag_Span} {a : Nat}, padC a l b → padC b m c → padC a (l ++ m) c
 | [], a, h, g => by have : a = b := h; subst this; exact g
 | x :: l, a, ⟨h1, d, h2, h3, h4⟩, g => ⟨h1, d, h2, h3, padC_app h4 g⟩
theorem padC_sep {n : Nat} : ∀ {l : List T_tag_Span} {a : Nat}, padC a l n → sepS n a l
 | [], a, h => by have : a = n := h; show (a : Int) ≤ n; omega
 | x :: l, a, ⟨h1, d, h2, h3, h4⟩ => ⟨by rw [h1]; unfold ev; omega, by omega, by rw [h2]; exact padC_sep h4⟩
theorem ent_pad {d : Nat} {big : Bool} (ih : ∀ l p, padC p (dirP d big l p) (p + (Q4 d big l p).length)) (e : T_tag_Entry) (q : Nat) : padC q (entP (dirP d big) (Ui big e.Value).length e q) (q + (entF (Q4 d big) big e q).2.length) := by
 unfold entP entF
 by_cases h13 : e.Value.Kind = 13
 ·rw [if_pos h13, if_pos h13]; exact ih e.Value.Entries q
 rw [if_neg h13, if_neg h13]
 by_cases h4 : (Ui big e.Value).length ≤ 4
 ·rw [if_pos h4, if_pos h4]; exact rfl
 ·rw [if_neg h4, if_neg h4]
  refine ⟨rfl, _, rfl, by omega, ?_⟩
  show ev q + _ = q + _
  simp only [List.length_append, pad_len]; unfold ev; omega
theorem bod_pad {d : Nat} {big : Bool} (ih : ∀ l p, padC p (dirP d big l p) (p + (Q4 d big l p).length)) : ∀ (l : List T_tag_Entry) (q : Nat), padC q (bodP (Q4 d big) (dirP d big) big l q) (q + (bods (Q4 d big) big l q).2.length)
 | [], q => rfl
 | e :: l, q => by
  unfold bodP bods
  simp only [List.length_append]
  rw [← Nat.add_assoc]
  exact padC_app (ent_pad ih e q) (bod_pad ih l _)
theorem dir_pad (big : Bool) : ∀ (d : Nat) (l : List T_tag_Entry) (p : Nat), padC p (dirP d big l p) (p + (Q4 d big l p).length) := by
 intro d
 induction d with
 | zero => intro l p; rfl
 | succ d ih =>
  intro l p
  have hlen : p + (Q4 (d + 1) big l p).length = ev p + 2 + 12 * l.length + 4 + (bods (Q4 d big) big l (ev p + 2 + 12 * l.length + 4)).2.length := dirB_len (Q4 d big) big l p
  rw [hlen]
  refine ⟨rfl, _, rfl, by omega, ?_⟩
  rw [show ev p + (2 + 12 * l.length + 4) = ev p + 2 + 12 * l.length + 4 by omega]
  exact bod_pad ih l _
theorem fil_pad (big : Bool) : ∀ (ls : List (List T_tag_Entry)) (p : Nat), padC p (filP big ls p) (lenF big ls p)
 | [], p => rfl
 | l :: ls, p => padC_app (dir_pad big 5 l p) (fil_pad big ls _)
theorem sep_from {n : Int} : ∀ {l : List T_tag_Span} {a : Int}, sepS n a l → (∀ x ∈ l, a ≤ x.From) ∧ l.Pairwise fun x y => x.From < y.From
 | [], a, h => ⟨by simp, List.Pairwise.nil⟩
 | x :: l, a, h => by
  obtain ⟨h1, h2, h3⟩ := h
  obtain ⟨g1, g2⟩ := sep_from h3
  refine ⟨fun y hy => ?_, List.pairwise_cons.2 ⟨fun y hy => by have := g1 y hy; omega, g2⟩⟩
  rcases List.mem_cons.1 hy with h | h
  ·rw [h]; exact h1
  ·have := g1 y h; omega
theorem sep_lap {n : Int} : ∀ {l : List T_tag_Span} {a : Int}, sepS n a l → ¬ lapP l
 | [], a, h => by rintro ⟨i, hi, _⟩; simp at hi
 | x :: l, a, h => by
  obtain ⟨h1, h2, h3⟩ := h
  rintro ⟨i, hi, hlt⟩
  cases i with
  | zero =>
   cases l with
   | nil => simp at hi
   | cons y l =>
    have := h3.1
    simp at hlt; omega
  | succ i => exact sep_lap h3 ⟨i, by simpa using hi, by simpa using hlt⟩
theorem num42 (big : Bool) : Xp big 42 2 = if big then [0, 42] else [42, 0] := by
 rw [numS_dig _ _ _ (by omega)]
 cases big <;> rfl
theorem head_at (f : T_tag_File) {a : Nat} {x : List UInt8} (ha : a + x.length ≤ 4) (h : win (headS f.Big) a x) : win (octF f) a x :=
 fil_keeps f.Big f.Dirs (headS f.Big) 4 a x (by rw [Wg]; omega) (.inl ha) (by rw [Wg]; omega) h
theorem octF_ge (f : T_tag_File) : 8 ≤ (octF f).length := by
 rw [octF_len]
 have : ∀ (ls : List (List T_tag_Entry)) (p : Nat), p ≤ lenF f.Big ls p := by
  intro ls
  induction ls with
  | nil => intro p; exact Nat.le_refl _
  | cons x ls ih => intro p; unfold lenF; exact Nat.le_trans (Nat.le_add_right _ _) (ih _)
 exact this _ _
theorem file_parts {f : T_tag_File} (h : fileE f = 0) : f.Dirs.length ≤ 20 ∧ (∀ l ∈ f.Dirs, dE 5 l = 0) ∧ (octF f).length ≤ 65000 := by
 unfold fileE at h
 split at h
 ·exact absurd h (by decide)
 split at h
 ·rename_i h2; exact absurd h h2
 split at h
 ·exact absurd h (by decide)
 rename_i h1 h2 h3
 exact ⟨by omega, firstD_ok (Classical.byContradiction fun hc => h2 hc), by omega⟩
open Classical in
theorem read_written {f : T_tag_File} (hb : fileB f) (he : fileE f = 0) {fd : Nat} (hfd : fd ≤ 0) : tag_read (octF f) fd = some (f, filP f.Big f.Dirs 8, 0) := by
 obtain ⟨hn, hE, h65⟩ := file_parts he
 have h8 := octF_ge f
 have hh2 : win (headS f.Big) 0 ((if f.Big then [77, 77] else [73, 73]) ++ Xp f.Big 42 2) := by
  have : headS f.Big = ((if f.Big then [77, 77] else [73, 73]) ++ Xp f.Big 42 2) ++ zer 4 := rfl
  unfold win
  rw [List.drop_zero, this, List.take_left' rfl]
 have hw4 : win (octF f) 0 ((if f.Big then [77, 77] else [73, 73]) ++ Xp f.Big 42 2) := head_at f (by rw [List.length_append, Qj _ _ (by omega)]; cases f.Big <;> simp) hh2
 have h4t : (octF f).take 4 = if f.Big then [77, 77, 0, 42] else [73, 73, 42, 0] := by
  unfold win at hw4
  rw [num42] at hw4
  cases hB : f.Big <;> rw [hB] at hw4 <;> simpa using hw4
 have hbeg : tag_begins (octF f) = some true := by
  unfold tag_begins
  rw [cI, if_neg (by omega), gCut_to (by omega), Jb, cI, Jb, show (4 : Int).toNat = 4 from rfl, h4t]
  cases f.Big <;> rfl
 have h0 : (octF f)[0]'(by omega) = if f.Big then 77 else 73 := by
  have := congrArg (fun l => l[0]?) h4t
  simp only [List.getElem?_take] at this
  rw [if_pos (by omega), List.getElem?_eq_getElem (by omega)] at this
  cases hB : f.Big <;> rw [hB] at this <;> simpa using this
 have hbig : decide ((((octF f)[0]'(by omega)).toNat : Int) = 77) = f.Big := by
  rw [h0]; cases f.Big <;> rfl
 have hz : win (headS f.Big) 4 (zer 4) := by
  unfold win headS
  rw [Wb, List.drop_left' (by rw [List.length_append, Qj _ _ (by omega)]; cases f.Big <;> rfl), List.take_of_length_le (by rw [Wb]; omega)]
 have hlink : win (octF f) 4 (Xp f.Big ((linkN f.Dirs 8 : Nat) : Int) 4) := by
  have := fil_link f.Big f.Dirs (headS f.Big) 4 (by rw [Wg]; omega) hz
  rw [Wg] at this
  exact this
 have hlk : linkN f.Dirs 8 ≤ 8 := by
  cases f.Dirs with
  | nil => exact Nat.zero_le _
  | cons x xs => exact Nat.le_refl _
 have hval : valB f.Big (((octF f).drop 4).take 4) = linkN f.Dirs 8 := by
  rw [win_val hlink (Qj _ _ (by omega))]
  have := Jau f.Big (n := ((linkN f.Dirs 8 : Nat) : Int)) (by omega)
  omega
 unfold tag_read
 rw [cI, if_neg (by omega), hbeg, Jb, Bool.not_true, Qf, show (0 : Int) = ((0 : Nat) : Int) from rfl, gOct_nat (by omega), Jb, show (4 : Int) = ((4 : Nat) : Int) from rfl, number_eq (a := 4) (k := 4) _ (by show 4 + 4 ≤ (octF f).length; omega) (by omega) (by show (octF f).length ≤ 65000; omega), Jb]
 simp only [hbig, hval]
 obtain ⟨r', q1, q2, q3, q4, q5⟩ := rd_back (((octF f)[0]'(by omega)).toNat : Int) f.Big (octF f) h65 f.Dirs (headS f.Big) 4 0 ⟨octF f, f.Big, [], [], 0, fd, 0⟩ [] rfl (by rw [Wg]; omega) (by rw [Wg]; omega) hE rfl (by omega) rfl rfl rfl hfd rfl (fun k _ => rfl) (by simp)
 rw [Wg] at q1 q4
 refine q1.trans ?_
 have hpad := fil_pad f.Big f.Dirs 8
 rw [← octF_len] at hpad
 have hsep := padC_sep hpad
 have hparts : r'.parts_ = filP f.Big f.Dirs 8 := by rw [q4]; rfl
 have hsort : gSortF r'.parts_ Xs = some (filP f.Big f.Dirs 8) := by
  rw [hparts]
  have hp := (sep_from hsep).2
  have hl := (sepS_end hsep).2.1
  have := sortF_is spans_ok (List.Perm.refl (filP f.Big f.Dirs 8)) (hp.imp fun {x y} h => by
   unfold leC
   rw [decide_eq_true_iff, spans_le]; exact .inl h)
  unfold gSortF
  rw [if_pos ⟨by omega, spans_ok⟩, ← this]
 have hl := (sepS_end hsep).2.1
 unfold Jag
 rw [hsort, Jb, cI, if_pos q3, overlap_eq _ (by omega), Jb, decide_eq_false (sep_lap hsep), Qf]
 unfold tag_read_j2
 have hf : (⟨decide ((((octF f)[0]'(by omega)).toNat : Int) = 77), [] ++ f.Dirs⟩ : T_tag_File) = f := by
  rw [hbig, List.nil_append]
 rw [cI, if_pos q3, hf, Check_eq hb, he, Jb]
 unfold tag_read_j3
 rw [cI, if_neg (by simp), hf]
 rfl
end Go.M

/- Segments of a picture file: taken apart and joined again, in plain Lean. Conditions: none. -/
namespace Go.M
open Go.Md Go.Pl
set_option linter.unusedVariables false
def isK (k : Int) : Bool := decide (192 ≤ k ∧ k ≤ 254 ∧ k ≠ 216 ∧ k ≠ 217)
theorem isK_tag (k : Int) : tag_isKind k = some (isK k) := by
 unfold tag_isKind isK
 rw [out_tag, Jb]
 by_cases h1 : k < 192 ∨ 254 < k
 ·rw [decide_eq_true h1, Bool.not_true, Qf]
  congr 1; symm; rw [decide_eq_false_iff_not]; omega
 ·rw [decide_eq_false h1, Bool.not_false, X0, cI]
  by_cases h3 : k = 216
  ·rw [if_neg (by omega)]
   congr 1; symm; rw [decide_eq_false_iff_not]; omega
  ·rw [if_pos h3]; congr 1; rw [decide_eq_decide]; omega
def okG (g : T_tag_Segment) : Prop := isK g.Kind = true ∧ g.Kind ≠ 218 ∧ g.Text.length ≤ 65533
theorem okG_kind {g : T_tag_Segment} (h : okG g) : 192 ≤ g.Kind ∧ g.Kind ≤ 254 := by
 have := h.1; unfold isK at this; rw [decide_eq_true_iff] at this; omega
noncomputable def encG (g : T_tag_Segment) : List UInt8 := [255, UInt8.ofNat g.Kind.toNat] ++ Xp true (g.Text.length + 2 : Nat) 2 ++ g.Text
def encS (t : List UInt8) : List UInt8 := [255, 218] ++ t ++ [255, 217]
noncomputable def bodG (gs : List T_tag_Segment) (t : List UInt8) : List UInt8 := gs.flatMap encG ++ encS t
noncomputable def picG (gs : List T_tag_Segment) (t : List UInt8) : List UInt8 := [255, 216] ++ bodG gs t
def Xl (gs : List T_tag_Segment) (t : List UInt8) : List T_tag_Segment := gs ++ [⟨218, t⟩]
theorem encG_len (g : T_tag_Segment) : (encG g).length = 4 + g.Text.length := by
 unfold encG; rw [List.length_append, List.length_append, Qj _ _ (by omega)]; simp
theorem encS_len (t : List UInt8) : (encS t).length = 4 + t.length := by unfold encS; simp; omega
theorem num2 (n : Int) : Xp true n 2 = [UInt8.ofNat (wU8 (n / 256)).toNat, UInt8.ofNat (wU8 n).toNat] := by
 rw [numS_dig _ _ _ (by omega)]
 simp [digs, List.range_succ, Z8]
theorem u8_of (c : UInt8) : UInt8.ofNat c.toNat = c := UInt8.ofNat_toNat
theorem num_two (c d : UInt8) : Xp true ((c.toNat * 256 + d.toNat : Nat) : Int) 2 = [c, d] := by
 have hc := c.toNat_lt
 have hd := d.toNat_lt
 rw [num2]
 have e1 : (wU8 (((c.toNat * 256 + d.toNat : Nat) : Int) / 256)).toNat = c.toNat := by unfold wU8; omega
 have e2 : (wU8 ((c.toNat * 256 + d.toNat : Nat) : Int)).toNat = d.toNat := by unfold wU8; omega
 rw [e1, e2, u8_of, u8_of]
theorem shl_byte (c : UInt8) : gShl (c.toNat : Int) 8 = some ((c.toNat : Int) * 256) := by
 have hc := c.toNat_lt
 have e8 : (2 : Int) ^ (8 : Int).toNat = 256 := by decide
 unfold gShl
 rw [if_pos ⟨by decide, by decide⟩, e8]
 exact Jy (by omega)
theorem Z1 (c : UInt8) : gK (-9223372036854775808) 9223372036854775807 (c.toNat : Int) = some (c.toNat : Int) := by
 have hc := c.toNat_lt
 unfold gK; rw [if_pos (by omega)]
theorem oct_0 (a : UInt8) (x : List UInt8) : Ue (a :: x) 0 = some (a.toNat : Int) := rfl
theorem oct_1 (a b : UInt8) (x : List UInt8) : Ue (a :: b :: x) 1 = some (b.toNat : Int) := rfl
theorem oct_2 (a b c : UInt8) (x : List UInt8) : Ue (a :: b :: c :: x) 2 = some (c.toNat : Int) := rfl
theorem oct_3 (a b c d : UInt8) (x : List UInt8) : Ue (a :: b :: c :: d :: x) 3 = some (d.toNat : Int) := rfl
theorem u8_inj {a : UInt8} {n : Nat} (h : (a.toNat : Int) = (n : Int)) (hn : n < 256) : a = UInt8.ofNat n := by
 have : a.toNat = n := by omega
 rw [← this, u8_of]
noncomputable def segF (x : List UInt8) (l : List T_tag_Segment) : Option (List T_tag_Segment × Int) := V8 (fun next2 s => Qh next2 s.1 s.2) (x, l)
theorem seg_step (k c2 c3 : UInt8) (z : List UInt8) (l : List T_tag_Segment) (hk : isK (k.toNat : Int) = true) (h218 : (k.toNat : Int) ≠ 218) (hN : 2 ≤ c2.toNat * 256 + c3.toNat) (hz : c2.toNat * 256 + c3.toNat ≤ z.length + 2) (hl : l.length ≤ 1000000) (hzl : z.length ≤ 1000000) :
  segF (255 :: k :: c2 :: c3 :: z) l = segF (z.drop (c2.toNat * 256 + c3.toNat - 2)) (l ++ [⟨(k.toNat : Int), z.take (c2.toNat * 256 + c3.toNat - 2)⟩]) := by
 have hc2 := c2.toNat_lt
 have hc3 := c3.toNat_lt
 refine Q0 _ fun next => ?_
 show Qh next (255 :: k :: c2 :: c3 :: z) l = _
 unfold Qh
 rw [cI, if_neg (by simp; omega), oct_0, Jb, cI, if_neg (by decide), oct_1, Jb, Z1, Jb, isK_tag, hk, Jb, Bool.not_true, Qf, Jb, Z1, Jb, cI, if_neg h218, cI, if_neg (by simp; omega), oct_2, Jb, Z1, Jb, shl_byte, Jb, oct_3, Jb, Z1, Jb, or_byte (by omega) hc3]
 rw [cI, if_neg (by omega), Jy (by simp; omega), Jb, cI, if_neg (by simp; omega), Jy (by omega), Jb, gCut_ok (by simp; omega), Jb, Yl (by simp; omega), Jb, Jb, Yb (by simp; omega), Jb]
 have e1 : (2 + ((c2.toNat * 256 + c3.toNat : Nat) : Int)).toNat = (c2.toNat * 256 + c3.toNat - 2) + 4 := by omega
 rw [e1, show (4 : Int).toNat = 4 from rfl, Nat.add_sub_cancel]
 rfl
theorem seg_scan (y : List UInt8) (l : List T_tag_Segment) (hy : y.length ≤ 1000000) (hl : l.length ≤ 1000000) :
  segF (255 :: 218 :: y) l = if y.length < 2 then some ([], 8) else if y.drop (y.length - 2) ≠ [255, 217] then some ([], 8) else if 200 < l.length + 1 then some ([], 4) else some (l ++ [⟨218, y.take (y.length - 2)⟩], 0) := by
 refine Qb fun next => ?_
 show Qh next (255 :: 218 :: y) l = _
 unfold Qh
 rw [cI, if_neg (by simp; omega), oct_0, Jb, cI, if_neg (by decide), oct_1, Jb, Z1, Jb, isK_tag, Jb, show (!isK (((218 : UInt8).toNat : Nat) : Int)) = false from rfl, Qf, Jb, Z1, Jb, cI, if_pos (by rfl)]
 unfold tag_Segments_j1
 rw [cI]
 by_cases h2 : y.length < 2
 ·rw [if_pos (by simp; omega), if_pos h2]
 ·rw [if_neg (by simp; omega), if_neg h2, Jy (by simp; omega), Jb, Yb (by simp; omega), Jb, cI]
  have e1 : (((255 :: 218 :: y).length : Int) - 2).toNat = (y.length - 2) + 2 := by simp; omega
  rw [e1, show (255 :: 218 :: y).drop (y.length - 2 + 2) = y.drop (y.length - 2) from rfl]
  by_cases h3 : y.drop (y.length - 2) = [255, 217]
  ·rw [if_neg (by simp [h3]), if_neg (by simp [h3]), Jb, gCut_ok (by simp; omega), Jb, Yl (by simp; omega), Jb, cI, e1, show (2 : Int).toNat = 2 from rfl, Nat.add_sub_cancel]
   by_cases h4 : 200 < l.length + 1
   ·rw [if_pos (by simp; omega), if_pos h4]
   ·rw [if_neg (by simp; omega), if_neg h4]; rfl
  ·rw [if_pos h3, if_pos h3]
theorem seg_sound : ∀ (n : Nat) (x : List UInt8) (l : List T_tag_Segment), x.length ≤ n → x.length ≤ 1000000 → l.length + x.length ≤ 1000000 →
  ∃ r, segF x l = some r ∧ (r.2 ≠ 0 → r.1 = []) ∧ (r.2 = 0 → ∃ gs t, (∀ g ∈ gs, okG g) ∧ x = bodG gs t ∧ r.1 = l ++ Xl gs t ∧ r.1.length ≤ 200) := by
 intro n
 induction n with
 | zero =>
  intro x l hn hx hl
  have : x = [] := List.length_eq_zero_iff.1 (by omega)
  subst this
  exact ⟨([], 8), Qb fun next => by show Qh next [] l = _; unfold Qh; rw [cI, if_pos (by decide)], fun _ => rfl, fun h => absurd h (by simp)⟩
 | succ n ih =>
  intro x l hn hx hl
  have bad : ∀ r : List T_tag_Segment × Int, r.1 = [] → r.2 ≠ 0 → (∀ next, Qh next x l = some r) → ∃ r, segF x l = some r ∧ (r.2 ≠ 0 → r.1 = []) ∧ (r.2 = 0 → ∃ gs t, (∀ g ∈ gs, okG g) ∧ x = bodG gs t ∧ r.1 = l ++ Xl gs t ∧ r.1.length ≤ 200) :=
   fun r h1 h2 h3 => ⟨r, Qb h3, fun _ => h1, fun h => absurd h h2⟩
  match x, hn, hx, hl, bad with
  | [], _, _, _, bad => exact bad ([], 8) rfl (by simp) fun next => by unfold Qh; rw [cI, if_pos (by simp)]
  | [_], _, _, _, bad => exact bad ([], 8) rfl (by simp) fun next => by unfold Qh; rw [cI, if_pos (by simp)]
  | c0 :: k :: y, hn, hx, hl, bad =>
   simp only [List.length_cons] at hn hx hl
   by_cases h255 : (c0.toNat : Int) ≠ 255
   ·exact bad ([], 8) rfl (by simp) fun next => by unfold Qh; rw [cI, if_neg (by simp; omega), oct_0, Jb, cI, if_pos h255]
   have hc0 : c0 = 255 := u8_inj (n := 255) (by omega) (by omega)
   subst hc0
   cases hk : isK (k.toNat : Int) with
   | false => exact bad ([], 8) rfl (by simp) fun next => by unfold Qh; rw [cI, if_neg (by simp; omega), oct_0, Jb, cI, if_neg (by decide), oct_1, Jb, Z1, Jb, isK_tag, hk, Jb, Bool.not_false, X0]
   | true =>
   by_cases h218 : (k.toNat : Int) = 218
   ·have hk218 : k = 218 := u8_inj (n := 218) h218 (by omega)
    subst hk218
    rw [seg_scan y l (by omega) (by omega)]
    split
    ·exact ⟨_, rfl, fun _ => rfl, fun h => absurd h (by simp)⟩
    split
    ·exact ⟨_, rfl, fun _ => rfl, fun h => absurd h (by simp)⟩
    split
    ·exact ⟨_, rfl, fun _ => rfl, fun h => absurd h (by simp)⟩
    rename_i h2 h3 h4
    refine ⟨_, rfl, fun h => absurd rfl h, fun _ => ⟨[], y.take (y.length - 2), by simp, ?_, rfl, by simp; omega⟩⟩
    have h3' : y.drop (y.length - 2) = [255, 217] := Classical.byContradiction fun h => h3 h
    unfold bodG encS
    rw [List.flatMap_nil, List.nil_append, List.append_assoc, ← h3', List.take_append_drop]; rfl
   ·match y, hn, hx, hl, bad with
    | [], _, _, _, bad => exact bad ([], 8) rfl (by simp) fun next => by unfold Qh; rw [cI, if_neg (by simp), oct_0, Jb, cI, if_neg (by decide), oct_1, Jb, Z1, Jb, isK_tag, hk, Jb, Bool.not_true, Qf, Jb, Z1, Jb, cI, if_neg h218, cI, if_pos (by simp)]
    | [_], _, _, _, bad => exact bad ([], 8) rfl (by simp) fun next => by unfold Qh; rw [cI, if_neg (by simp), oct_0, Jb, cI, if_neg (by decide), oct_1, Jb, Z1, Jb, isK_tag, hk, Jb, Bool.not_true, Qf, Jb, Z1, Jb, cI, if_neg h218, cI, if_pos (by simp)]
    | c2 :: c3 :: z, hn, hx, hl, bad =>
     simp only [List.length_cons] at hn hx hl
     have hc2 := c2.toNat_lt
     have hc3 := c3.toNat_lt
     by_cases hN : c2.toNat * 256 + c3.toNat < 2
     ·exact bad ([], 8) rfl (by simp) fun next => by
       unfold Qh
       rw [cI, if_neg (by simp; omega), oct_0, Jb, cI, if_neg (by decide), oct_1, Jb, Z1, Jb, isK_tag, hk, Jb, Bool.not_true, Qf, Jb, Z1, Jb, cI, if_neg h218, cI, if_neg (by simp; omega), oct_2, Jb, Z1, Jb, shl_byte, Jb, oct_3, Jb, Z1, Jb, or_byte (by omega) hc3, cI, if_pos (by omega)]
     by_cases hz : z.length + 2 < c2.toNat * 256 + c3.toNat
     ·exact bad ([], 8) rfl (by simp) fun next => by
       unfold Qh
       rw [cI, if_neg (by simp; omega), oct_0, Jb, cI, if_neg (by decide), oct_1, Jb, Z1, Jb, isK_tag, hk, Jb, Bool.not_true, Qf, Jb, Z1, Jb, cI, if_neg h218, cI, if_neg (by simp; omega), oct_2, Jb, Z1, Jb, shl_byte, Jb, oct_3, Jb, Z1, Jb, or_byte (by omega) hc3, cI, if_neg (by omega), Jy (by simp; omega), Jb, cI, if_pos (by simp; omega)]
     rw [seg_step k c2 c3 z l hk h218 (by omega) (by omega) (by omega) (by omega)]
     obtain ⟨r, h1, h2, h3⟩ := ih (z.drop (c2.toNat * 256 + c3.toNat - 2)) (l ++ [⟨(k.toNat : Int), z.take (c2.toNat * 256 + c3.toNat - 2)⟩]) (by simp; omega) (by simp; omega) (by simp; omega)
     refine ⟨r, h1, h2, fun h0 => ?_⟩
     obtain ⟨gs, t, g1, g2, g3, g4⟩ := h3 h0
     refine ⟨⟨(k.toNat : Int), z.take (c2.toNat * 256 + c3.toNat - 2)⟩ :: gs, t, ?_, ?_, ?_, g4⟩
     ·intro g hg
      rcases List.mem_cons.1 hg with hg | hg
      ·rw [hg]; exact ⟨hk, h218, by simp; omega⟩
      ·exact g1 g hg
     ·unfold bodG
      rw [List.flatMap_cons, List.append_assoc]
      show _ = encG _ ++ bodG gs t
      rw [← g2]
      unfold encG
      have hlen : (z.take (c2.toNat * 256 + c3.toNat - 2)).length + 2 = c2.toNat * 256 + c3.toNat := by rw [List.length_take]; omega
      simp only [hlen]
      rw [num_two, Int.toNat_natCast, u8_of, List.append_assoc, List.append_assoc, List.take_append_drop]; rfl
     ·rw [g3]; unfold Xl; simp
theorem seg_complete : ∀ (gs : List T_tag_Segment) (t : List UInt8) (l : List T_tag_Segment), (∀ g ∈ gs, okG g) → (bodG gs t).length ≤ 1000000 → l.length + gs.length + 1 ≤ 200 → segF (bodG gs t) l = some (l ++ Xl gs t, 0)
 | [], t, l, _, hx, hl => by
  have e : bodG [] t = 255 :: 218 :: (t ++ [255, 217]) := by unfold bodG encS; rfl
  rw [e] at hx ⊢
  simp only [List.length_cons, List.length_append, List.length_nil] at hx
  rw [seg_scan _ l (by simp; omega) (by omega), if_neg (by simp), if_neg (by simp), if_neg (by simp at hl; omega)]
  simp [Xl]
 | g :: gs, t, l, hok, hx, hl => by
  have hg := hok g (by simp)
  have hk := okG_kind hg
  have e : bodG (g :: gs) t = encG g ++ bodG gs t := by unfold bodG; rw [List.flatMap_cons, List.append_assoc]
  rw [e, List.length_append, encG_len] at hx
  have htl := hg.2.2
  have hnum := num2 ((g.Text.length + 2 : Nat) : Int)
  have e2 : encG g ++ bodG gs t = 255 :: UInt8.ofNat g.Kind.toNat :: UInt8.ofNat (wU8 (((g.Text.length + 2 : Nat) : Int) / 256)).toNat :: UInt8.ofNat (wU8 ((g.Text.length + 2 : Nat) : Int)).toNat :: (g.Text ++ bodG gs t) := by
   unfold encG; rw [hnum]; simp
  have hkn : ((UInt8.ofNat g.Kind.toNat).toNat : Int) = g.Kind := by rw [UInt8.toNat_ofNat']; omega
  have hN : (UInt8.ofNat (wU8 (((g.Text.length + 2 : Nat) : Int) / 256)).toNat).toNat * 256 + (UInt8.ofNat (wU8 ((g.Text.length + 2 : Nat) : Int)).toNat).toNat = g.Text.length + 2 := by
   rw [UInt8.toNat_ofNat', UInt8.toNat_ofNat']; unfold wU8; omega
  rw [e, e2]
  simp only [List.length_cons] at hl
  rw [seg_step _ _ _ _ l (by rw [hkn]; exact hg.1) (by rw [hkn]; exact hg.2.1) (by omega) (by rw [hN, List.length_append]; omega) (by omega) (by rw [List.length_append]; omega), hN, hkn, Nat.add_sub_cancel, List.drop_left' rfl, List.take_left' rfl]
  rw [seg_complete gs t _ (fun x hx => hok x (by simp [hx])) (by omega) (by simp; omega)]
  simp [Xl]
theorem Segments_sound (a : List UInt8) : ∃ l e, Wp a = some (l, e) ∧ (e ≠ 0 → l = []) ∧ (e = 0 → a.length ≤ 200000 ∧ ∃ gs t, (∀ g ∈ gs, okG g) ∧ a = picG gs t ∧ l = Xl gs t ∧ l.length ≤ 200) := by
 unfold Wp
 rw [cI]
 by_cases hL : (200000 : Int) < a.length
 ·rw [if_pos hL]; exact ⟨_, _, rfl, fun _ => rfl, by simp⟩
 rw [if_neg hL, cI]
 by_cases h2 : (a.length : Int) < 2
 ·rw [if_pos h2]; exact ⟨_, _, rfl, fun _ => rfl, by simp⟩
 rw [if_neg h2, gCut_to (by omega), Jb, cI, show (2 : Int).toNat = 2 from rfl]
 by_cases h3 : a.take 2 = [255, 216]
 ·rw [if_neg (by simp [h3]), Yb (by omega), Jb, show (2 : Int).toNat = 2 from rfl]
  obtain ⟨r, g1, g2, g3⟩ := seg_sound (a.drop 2).length (a.drop 2) [] (Nat.le_refl _) (by simp; omega) (by simp; omega)
  refine ⟨r.1, r.2, g1, g2, fun h0 => ⟨by omega, ?_⟩⟩
  obtain ⟨gs, t, q1, q2, q3, q4⟩ := g3 h0
  exact ⟨gs, t, q1, by unfold picG; rw [← q2, ← h3, List.take_append_drop], by simpa using q3, q4⟩
 ·rw [if_pos h3]; exact ⟨_, _, rfl, fun _ => rfl, by simp⟩
theorem Segments_complete {gs : List T_tag_Segment} {t : List UInt8} (hok : ∀ g ∈ gs, okG g) (hx : (picG gs t).length ≤ 200000) (hl : gs.length + 1 ≤ 200) : Wp (picG gs t) = some (Xl gs t, 0) := by
 have hlen : (picG gs t).length = 2 + (bodG gs t).length := by unfold picG; simp; omega
 unfold Wp
 rw [cI, if_neg (by omega), cI, if_neg (by omega), gCut_to (by omega), Jb, cI, show (2 : Int).toNat = 2 from rfl, show (picG gs t).take 2 = [255, 216] from rfl, if_neg (by simp), Yb (by omega), Jb, show (2 : Int).toNat = 2 from rfl, show (picG gs t).drop 2 = bodG gs t from rfl]
 have := seg_complete gs t [] hok (by omega) (by simp; omega)
 rw [List.nil_append] at this
 exact this
end Go.M

/- TagPictures in plain Lean: parts joined, the metadata's part, the law. Conditions: the file's bulk. -/
namespace Go.M
open Go.Md Go.Pl
set_option linter.unusedVariables false
def chk (g : T_tag_Segment) (last : Bool) : Int := if isK g.Kind = false then 10 else if decide (g.Kind = 218) ≠ last then 5 else if g.Kind ≠ 218 ∧ 65533 < g.Text.length then 4 else 0
theorem chk_eq (g : T_tag_Segment) (last : Bool) : Ur g last = some (chk g last) := by
 unfold Ur chk
 rw [isK_tag, Jb]
 cases hk : isK g.Kind with
 | false => rw [Bool.not_false, X0, if_pos rfl]
 | true =>
  rw [Bool.not_true, Qf, if_neg (by simp), cI]
  by_cases h1 : decide (g.Kind = 218) ≠ last
  ·rw [if_pos h1, if_pos h1]
  ·rw [if_neg h1, if_neg h1, cI]
   by_cases h2 : g.Kind = 218
   ·rw [if_neg (by simp [h2]), if_neg (by simp [h2])]
   ·rw [if_pos h2, cI]
    by_cases h3 : 65533 < g.Text.length
    ·rw [if_pos (by omega), if_pos ⟨h2, h3⟩]
    ·rw [if_neg (by omega), if_neg (by omega)]
noncomputable def hdG (g : T_tag_Segment) : List UInt8 := if g.Kind ≠ 218 then [255, UInt8.ofNat g.Kind.toNat] ++ Xp true (g.Text.length + 2 : Nat) 2 else [255, 218]
noncomputable def nxG (g : T_tag_Segment) (s : List UInt8) : List UInt8 := if (s ++ hdG g).length ≤ 200000 then s ++ hdG g ++ g.Text else s ++ hdG g
theorem hdG_len (g : T_tag_Segment) : (hdG g).length ≤ 4 := by
 unfold hdG; split
 ·rw [List.length_append, Qj _ _ (by omega)]; simp
 ·simp
noncomputable def joinF (l : List T_tag_Segment) (k : Nat) (s : List UInt8) : Option (List UInt8 × Int) := V8 (fun next2 s => Yz l next2 s.1 s.2) ((k : Int), J7 s)
theorem join_end (l : List T_tag_Segment) (s : List UInt8) (hs : s.length ≤ 100000000) : joinF l l.length s = some (if 200000 < (s ++ [255, 217]).length then ([], 4) else (s ++ [255, 217], 0)) := by
 refine Qb fun next => ?_
 show Yz l next (l.length : Int) (J7 s) = _
 unfold Yz
 rw [cI, if_neg (by omega)]
 unfold tag_Joined_j1
 have e : J7 s ++ ([255, 217] : List Int) = J7 (s ++ [255, 217]) := by rw [Yn]; rfl
 rw [gApN_ok (by rw [Qd]; simp; omega), Jb, cI, e, Qd]
 by_cases h : 200000 < (s ++ [255, 217]).length
 ·rw [if_pos (by omega), if_pos h]
 ·rw [if_neg (by omega), if_neg h, toStr_ofStr]
theorem join_err {l : List T_tag_Segment} {k : Nat} (hk : k < l.length) (s : List UInt8) (h : chk (l[k]'hk) (decide (k + 1 = l.length)) ≠ 0) (hl : l.length ≤ 1000) : joinF l k s = some ([], chk (l[k]'hk) (decide (k + 1 = l.length))) := by
 have e : (decide ((k : Int) = ((l.length : Int) - 1))) = decide (k + 1 = l.length) := by rw [decide_eq_decide]; omega
 refine Qb fun next => ?_
 show Yz l next (k : Int) (J7 s) = _
 unfold Yz
 rw [cI, if_pos (by omega), Qz hk, Jb, Jy (by omega), Jb, e, chk_eq, Jb, cI, if_pos h]
theorem join_step {l : List T_tag_Segment} {k : Nat} (hk : k < l.length) (s : List UInt8) (h : chk (l[k]'hk) (decide (k + 1 = l.length)) = 0) (hl : l.length ≤ 1000) (hs : s.length ≤ 100000000) (ht : (l[k]'hk).Text.length ≤ 200000) : joinF l k s = joinF l (k + 1) (nxG (l[k]'hk) s) := by
 have e : (decide ((k : Int) = ((l.length : Int) - 1))) = decide (k + 1 = l.length) := by rw [decide_eq_decide]; omega
 have hkk : 192 ≤ (l[k]'hk).Kind ∧ (l[k]'hk).Kind ≤ 254 := by
  have : isK (l[k]'hk).Kind = true := by
   cases hh : isK (l[k]'hk).Kind with
   | true => rfl
   | false => unfold chk at h; rw [if_pos hh] at h; exact absurd h (by decide)
  unfold isK at this; rw [decide_eq_true_iff] at this; omega
 have hg : Yp l (k : Int) = some (l[k]'hk) := Qz hk
 generalize l[k]'hk = g at *
 have e2 : J7 s ++ ([255, wU8 g.Kind] : List Int) = J7 (s ++ [255, UInt8.ofNat g.Kind.toNat]) := by
  rw [Yn]
  congr 1
  unfold J7
  simp only [List.map_cons, List.map_nil, UInt8.toNat_ofNat']
  congr 2
  unfold wU8; congr 1; omega
 have j4 : ∀ (next : Int × List Int → Option (List UInt8 × Int)) (o : List UInt8), o.length ≤ 100000010 → U3 (k : Int) next g (J7 o) = next (((k + 1 : Nat) : Int), J7 (if o.length ≤ 200000 then o ++ g.Text else o)) := by
  intro next o ho
  unfold U3
  rw [cI, Qd]
  by_cases h5 : o.length ≤ 200000
  ·rw [if_pos (by omega), if_pos h5, gApL_ok (by rw [Qd, Qd]; omega), Jb, ← Yn]
   unfold Uz
   rw [Jy (by omega), Jb]; rfl
  ·rw [if_neg (by omega), if_neg h5]
   unfold Uz
   rw [Jy (by omega), Jb]; rfl
 refine Q0 _ fun next => ?_
 show Yz l next (k : Int) (J7 s) = _
 unfold Yz
 rw [cI, if_pos (by omega), hg, Jb, Jy (by omega), Jb, e, chk_eq, h, Jb, cI, if_neg (by simp), gApN_ok (by rw [Qd]; simp; omega), Jb, e2, cI]
 by_cases h8 : g.Kind = 218
 ·have hd8 : hdG g = [255, UInt8.ofNat g.Kind.toNat] := by unfold hdG; rw [if_neg (by simp [h8]), h8]; rfl
  unfold nxG
  rw [if_neg (by simp [h8]), j4 _ _ (by simp; omega), hd8]
 ·have hd8 : hdG g = [255, UInt8.ofNat g.Kind.toNat] ++ Xp true (g.Text.length + 2 : Nat) 2 := by unfold hdG; rw [if_pos h8]
  unfold nxG
  rw [if_pos h8, Jy (by omega), Jb, show (g.Text.length : Int) + 2 = ((g.Text.length + 2 : Nat) : Int) by omega, tag2, Jb, Yl (by rw [Qd, Qd, Qj _ _ (by omega)]; simp; omega), Jb, ← Yn, j4 _ _ (by simp [Qj]; omega), hd8, List.append_assoc]
theorem join_sound {l : List T_tag_Segment} (hl : l.length ≤ 200) (ht : ∀ g ∈ l, g.Text.length ≤ 200000) : ∀ (xs : List T_tag_Segment) (k : Nat) (s : List UInt8), l.drop k = xs → k + xs.length = l.length → s.length ≤ 2 + k * 200004 →
  ∃ r, joinF l k s = some r ∧ (r.2 ≠ 0 → r.1 = []) ∧ (r.2 = 0 → r.1.length ≤ 200000 ∧ ((xs = [] ∧ r.1 = s ++ [255, 217]) ∨ ∃ gs t, (∀ g ∈ gs, okG g) ∧ xs = Xl gs t ∧ r.1 = s ++ bodG gs t)) := by
 intro xs
 induction xs with
 | nil =>
  intro k s hd hk hs
  have : k = l.length := by simpa using hk
  subst this
  rw [join_end l s (by omega)]
  by_cases h : 200000 < (s ++ [255, 217]).length
  ·rw [if_pos h]; exact ⟨_, rfl, fun _ => rfl, fun h => absurd h (by simp)⟩
  ·rw [if_neg h]; exact ⟨_, rfl, fun h => absurd rfl h, fun _ => ⟨by show (s ++ [255, 217]).length ≤ _; omega, .inl ⟨rfl, rfl⟩⟩⟩
 | cons g xs ih =>
  intro k s hd hk hs
  rw [List.length_cons] at hk
  have hlt : k < l.length := by omega
  have hcons := List.drop_eq_getElem_cons hlt
  rw [hd] at hcons
  have hg : g = l[k]'hlt := by injection hcons
  have hd' : l.drop (k + 1) = xs := by injection hcons with a b; exact b.symm
  by_cases hc : chk (l[k]'hlt) (decide (k + 1 = l.length)) = 0
  ·rw [join_step hlt s hc (by omega) (by omega) (ht _ (List.getElem_mem _))]
   rw [← hg] at hc ⊢
   have htg : g.Text.length ≤ 200000 := by rw [hg]; exact ht _ (List.getElem_mem _)
   have hh := hdG_len g
   have hnl : (nxG g s).length ≤ 2 + (k + 1) * 200004 := by
    unfold nxG
    rw [Nat.add_mul]
    split <;> simp only [List.length_append] <;> omega
   obtain ⟨r, h1, h2, h3⟩ := ih (k + 1) (nxG g s) hd' (by omega) hnl
   refine ⟨r, h1, h2, fun h0 => ?_⟩
   obtain ⟨h4, h5⟩ := h3 h0
   have hn : nxG g s = s ++ hdG g ++ g.Text := by
    unfold nxG
    split
    ·rfl
    ·rename_i hbig
     exfalso
     have : (nxG g s).length ≤ r.1.length := by
      rcases h5 with ⟨_, h5⟩ | ⟨gs, t, _, _, h5⟩ <;> rw [h5, List.length_append] <;> omega
     unfold nxG at this
     rw [if_neg hbig] at this; omega
   unfold chk at hc
   split at hc
   ·exact absurd hc (by decide)
   rename_i hk1
   split at hc
   ·exact absurd hc (by decide)
   rename_i hk2
   split at hc
   ·exact absurd hc (by decide)
   rename_i hk3
   refine ⟨h4, .inr ?_⟩
   rcases h5 with ⟨h5, h6⟩ | ⟨gs, t, h5, h6, h7⟩
   ·have h218 : g.Kind = 218 := by
     have : k + 1 = l.length := by rw [h5] at hk; simpa using hk
     have h9 : decide (g.Kind = 218) = true := by
      have := Classical.byContradiction fun h => hk2 h
      rw [this, decide_eq_true_iff]; assumption
     simpa using h9
    refine ⟨[], g.Text, by simp, ?_, ?_⟩
    ·rw [h5]; unfold Xl; rw [List.nil_append, ← h218]
    ·rw [h6, hn]; unfold hdG bodG encS
     rw [if_neg (by simp [h218])]; simp
   ·have h218 : g.Kind ≠ 218 := by
     have h8 : ¬ k + 1 = l.length := by rw [h6] at hk; unfold Xl at hk; simp at hk; omega
     have h9 : decide (g.Kind = 218) = false := by
      have := Classical.byContradiction fun h => hk2 h
      rw [this, decide_eq_false_iff_not]; exact h8
     simpa using h9
    refine ⟨g :: gs, t, ?_, by rw [h6]; rfl, ?_⟩
    ·intro x hx
     rcases List.mem_cons.1 hx with hx | hx
     ·rw [hx]; exact ⟨by simpa using hk1, h218, by omega⟩
     ·exact h5 x hx
    ·rw [h7, hn]; unfold hdG bodG encG
     rw [if_pos h218, List.flatMap_cons]; simp
  ·rw [join_err hlt s hc (by omega)]
   exact ⟨_, rfl, fun _ => rfl, fun h => absurd h hc⟩
theorem Joined_sound {l : List T_tag_Segment} (ht : ∀ g ∈ l, g.Text.length ≤ 200000) : ∃ a e, tag_Joined l = some (a, e) ∧ (e ≠ 0 → a = []) ∧ (e = 0 → l.length ≤ 200 ∧ a.length ≤ 200000 ∧ ∃ gs t, (∀ g ∈ gs, okG g) ∧ l = Xl gs t ∧ a = picG gs t) := by
 unfold tag_Joined
 rw [cI]
 by_cases h1 : (200 : Int) < l.length
 ·rw [if_pos h1]; exact ⟨_, _, rfl, fun _ => rfl, by simp⟩
 rw [if_neg h1, cI]
 by_cases h2 : (l.length : Int) = 0
 ·rw [if_pos h2]; exact ⟨_, _, rfl, fun _ => rfl, by simp⟩
 rw [if_neg h2]
 obtain ⟨r, g1, g2, g3⟩ := join_sound (by omega) ht l 0 [255, 216] rfl (by omega) (by simp)
 refine ⟨r.1, r.2, g1, g2, fun h0 => ?_⟩
 obtain ⟨q1, q2⟩ := g3 h0
 refine ⟨by omega, q1, ?_⟩
 rcases q2 with ⟨q2, _⟩ | ⟨gs, t, q2, q3, q4⟩
 ·rw [q2] at h2; exact absurd rfl h2
 ·exact ⟨gs, t, q2, q3, q4⟩
end Go.M

/- TagPictures, the law, in plain Lean. Conditions: the file's bulk. -/
namespace Go.M
open Go.Md Go.Pl
set_option linter.unusedVariables false
def isM (g : T_tag_Segment) : Bool := decide (g.Kind = 225 ∧ 6 ≤ g.Text.length ∧ g.Text.take 6 = [69, 120, 105, 102, 0, 0])
theorem isM_eq (g : T_tag_Segment) : Vi g = some (isM g) := by
 unfold Vi isM
 rw [cI]
 by_cases h1 : g.Kind = 225
 ·rw [if_pos h1, cI]
  by_cases h2 : 6 ≤ g.Text.length
  ·rw [if_pos (by omega), gCut_to (by omega), Jb, show (6 : Int).toNat = 6 from rfl]
   congr 1; rw [decide_eq_decide]; simp [h1, h2]
  ·rw [if_neg (by omega)]
   congr 1; symm; rw [decide_eq_false_iff_not]; exact fun h => h2 h.2.1
 ·rw [if_neg h1]
  congr 1; symm; rw [decide_eq_false_iff_not]; exact fun h => h1 h.1
theorem ix_step {l : List T_tag_Segment} {i : Nat} (hi : i < l.length) (hl : l.length ≤ 1000) (h : isM (l[i]'hi) = false) (next : Int → Option Int) : J8 l Vi next (i : Int) = next ((i + 1 : Nat) : Int) := by
 unfold J8
 rw [cI, if_pos (by omega), Qz hi, Jb, isM_eq, Jb, h, Qf, Jy (by omega), Jb]; rfl
theorem md_from {l : List T_tag_Segment} (hl : l.length ≤ 1000) {k : Nat} (hk : k ≤ l.length) (h : ∀ j (hj : j < l.length), j < k → isM (l[j]'hj) = false) (o : Option Int) (he : ∀ next, J8 l Vi next (k : Int) = o) : Z0 l = Jr o fun t => some t := by
 have key : ∀ m i : Nat, i + m = k → V8 (fun next1 s => J8 l Vi next1 s) (i : Int) = o := by
  intro m
  induction m with
  | zero => intro i hi; rw [show i = k by omega]; exact Qb he
  | succ m ih => intro i hi; exact (Q0 _ fun next => ix_step (show i < l.length by omega) hl (h i (by omega) (by omega)) next).trans (ih (i + 1) (by omega))
 unfold Z0 Zs
 rw [show (0 : Int) = ((0 : Nat) : Int) from rfl, key k 0 (by omega)]
theorem md_at {l : List T_tag_Segment} (hl : l.length ≤ 1000) {k : Nat} (hk : k < l.length) (hp : isM (l[k]'hk) = true) (h : ∀ j (hj : j < l.length), j < k → isM (l[j]'hj) = false) : Z0 l = some (k : Int) := by
 rw [md_from hl (by omega) h (some (k : Int)) fun next => by
  unfold J8
  rw [cI, if_pos (by omega), Qz hk, Jb, isM_eq, Jb, hp, X0], Jb]
theorem md_none {l : List T_tag_Segment} (hl : l.length ≤ 1000) (h : ∀ j (hj : j < l.length), isM (l[j]'hj) = false) : Z0 l = some (-1) := by
 rw [md_from hl (Nat.le_refl _) (fun j hj _ => h j hj) (some (-1)) fun next => by
  unfold J8
  rw [cI, if_neg (by omega)], Jb]
theorem md_cases (l : List T_tag_Segment) : (∀ j (hj : j < l.length), isM (l[j]'hj) = false) ∨ ∃ k, ∃ hk : k < l.length, isM (l[k]'hk) = true ∧ ∀ j (hj : j < l.length), j < k → isM (l[j]'hj) = false := by
 have key : ∀ n, n ≤ l.length → (∀ j (hj : j < l.length), j < n → isM (l[j]'hj) = false) ∨ ∃ k, ∃ hk : k < l.length, isM (l[k]'hk) = true ∧ ∀ j (hj : j < l.length), j < k → isM (l[j]'hj) = false := by
  intro n
  induction n with
  | zero => intro _; exact .inl fun j hj h => absurd h (by omega)
  | succ n ih =>
   intro hn
   rcases ih (by omega) with h | h
   ·cases hm : isM (l[n]'(by omega)) with
    | true => exact .inr ⟨n, by omega, hm, h⟩
    | false =>
     refine .inl fun j hj hjn => ?_
     rcases Nat.lt_or_ge j n with h1 | h1
     ·exact h j hj h1
     ·have : j = n := by omega
      subst this; exact hm
   ·exact .inr h
 rcases key l.length (Nat.le_refl _) with h | h
 ·exact .inl fun j hj => h j hj hj
 ·exact .inr h
noncomputable def putG (f : T_tag_File) : T_tag_Segment := ⟨225, [69, 120, 105, 102, 0, 0] ++ octF f⟩
theorem putG_isM (f : T_tag_File) : isM (putG f) = true := by
 unfold isM putG
 rw [decide_eq_true_iff]
 exact ⟨rfl, by simp, rfl⟩
theorem putG_ok {f : T_tag_File} (h : (octF f).length ≤ 65000) : okG (putG f) := ⟨rfl, by unfold putG; simp, by unfold putG; simp; omega⟩
theorem allG_inj {gs gs' : List T_tag_Segment} {t t' : List UInt8} (h : Xl gs t = Xl gs' t') : gs = gs' ∧ t = t' := by
 unfold Xl at h
 obtain ⟨h1, h2⟩ := List.append_inj' h rfl
 refine ⟨h1, ?_⟩
 injection h2 with h2 _
 injection h2
theorem read_it {f : T_tag_File} (hb : fileB f) (he : fileE f = 0) {gs : List T_tag_Segment} {t : List UInt8} (hok : ∀ g ∈ gs, okG g) (hx : (picG gs t).length ≤ 200000) (hl : gs.length + 1 ≤ 200) {k : Nat} (hk : k < (Xl gs t).length) (hg : (Xl gs t)[k]'hk = putG f) (hno : ∀ j (hj : j < (Xl gs t).length), j < k → isM ((Xl gs t)[j]'hj) = false) : Up (picG gs t) = some (f, 0) := by
 have hlen : (Xl gs t).length ≤ 200 := by unfold Xl; simp; omega
 unfold Up
 rw [Segments_complete hok hx hl, Jb, cI, if_neg (by simp)]
 show Jr (Z0 (Xl gs t)) _ = _
 rw [md_at (by omega) hk (by rw [hg]; exact putG_isM f) hno, Jb, cI, if_neg (by omega)]
 show Jr (Yp (Xl gs t) (k : Int)) _ = _
 rw [Qz hk, Jb, hg]
 have h6 : (putG f).Text.drop 6 = octF f := by unfold putG; rfl
 have hge : 6 ≤ (putG f).Text.length := by unfold putG; simp
 rw [Yb (by omega), Jb, show (6 : Int).toNat = 6 from rfl, h6]
 unfold tag_Read
 rw [read_written hb he (by omega), Jb, Jb]
theorem allG_last {gs : List T_tag_Segment} {t : List UInt8} {k : Nat} (hk : k < (Xl gs t).length) (h : gs.length ≤ k) : (Xl gs t)[k]'hk = ⟨218, t⟩ := by
 have hk' := hk
 unfold Xl at hk'
 simp at hk'
 have : k = gs.length := by omega
 subst this
 simp [Xl]
theorem gs_texts {gs : List T_tag_Segment} {t : List UInt8} (hok : ∀ g ∈ gs, okG g) (ht : t.length ≤ 200000) : ∀ g ∈ Xl gs t, g.Text.length ≤ 200000 := by
 intro g hg
 unfold Xl at hg
 rcases List.mem_append.1 hg with h | h
 ·have := (hok g h).2.2; omega
 ·rw [List.mem_singleton.1 h]; exact ht
theorem pic_t (gs : List T_tag_Segment) (t : List UInt8) : t.length ≤ (picG gs t).length := by
 unfold picG bodG
 rw [List.length_append, List.length_append, encS_len]; omega
theorem with_eq {f : T_tag_File} (hb : fileB f) (s : List UInt8) : ∃ a e, Wd s f = some (a, e) ∧ ((e ≠ 0 ∧ a = []) ∨ (e = 0 ∧ fileE f = 0 ∧ ∃ gs t gs', (∀ g ∈ gs, okG g) ∧ (∀ g ∈ gs', okG g) ∧ s = picG gs t ∧ s.length ≤ 200000 ∧ gs.length + 1 ≤ 200 ∧ a = picG gs' t ∧ a.length ≤ 200000 ∧ gs'.length + 1 ≤ 200 ∧
  ∃ k, ∃ hk : k < (Xl gs' t).length, (Xl gs' t)[k]'hk = putG f ∧ (∀ j (hj : j < (Xl gs' t).length), j < k → isM ((Xl gs' t)[j]'hj) = false) ∧
   (gs' = putG f :: gs ∨ ∃ hll : (Xl gs' t).length = (Xl gs t).length, (∀ j (hj : j < (Xl gs t).length), ((Xl gs t)[j]'hj).Kind = ((Xl gs' t)[j]'(by omega)).Kind) ∧ ∀ j (hj : j < (Xl gs t).length), j ≠ k → (Xl gs t)[j]'hj = (Xl gs' t)[j]'(by omega)))) := by
 unfold Wd
 rw [Check_eq hb, Jb, cI]
 by_cases he : fileE f ≠ 0
 ·rw [if_pos he]; exact ⟨_, _, rfl, .inl ⟨he, rfl⟩⟩
 have he0 : fileE f = 0 := by omega
 rw [if_neg he]
 obtain ⟨l, e, h1, h2, h3⟩ := Segments_sound s
 rw [h1, Jb, cI]
 by_cases h0 : e ≠ 0
 ·rw [if_pos h0]; exact ⟨_, _, rfl, .inl ⟨h0, rfl⟩⟩
 rw [if_neg h0]
 obtain ⟨hs, gs, t, hok, hpic, hal, hl200⟩ := h3 (by omega)
 subst hal
 have hlen : (Xl gs t).length = gs.length + 1 := by unfold Xl; simp
 obtain ⟨hdok, hn⟩ := fileE_zero hb he0
 have h65 := (file_parts he0).2.2
 have hpo : okG (putG f) := putG_ok h65
 rw [written_eq hdok hn hb.2, Jb, gCat_ok (by simp; omega), Jb]
 show ∃ a e, (Jr (Z0 (Xl gs t)) _) = _ ∧ _
 have fin : ∀ gs' : List T_tag_Segment, (∀ g ∈ gs', okG g) → (∃ k, ∃ hk : k < (Xl gs' t).length, (Xl gs' t)[k]'hk = putG f ∧ (∀ j (hj : j < (Xl gs' t).length), j < k → isM ((Xl gs' t)[j]'hj) = false) ∧
   (gs' = putG f :: gs ∨ ∃ hll : (Xl gs' t).length = (Xl gs t).length, (∀ j (hj : j < (Xl gs t).length), ((Xl gs t)[j]'hj).Kind = ((Xl gs' t)[j]'(by omega)).Kind) ∧ ∀ j (hj : j < (Xl gs t).length), j ≠ k → (Xl gs t)[j]'hj = (Xl gs' t)[j]'(by omega))) →
   ∃ a e, Zy (Xl gs' t) = some (a, e) ∧ ((e ≠ 0 ∧ a = []) ∨ (e = 0 ∧ fileE f = 0 ∧ ∃ gs2 t2 gs', (∀ g ∈ gs2, okG g) ∧ (∀ g ∈ gs', okG g) ∧ s = picG gs2 t2 ∧ s.length ≤ 200000 ∧ gs2.length + 1 ≤ 200 ∧ a = picG gs' t2 ∧ a.length ≤ 200000 ∧ gs'.length + 1 ≤ 200 ∧
  ∃ k, ∃ hk : k < (Xl gs' t2).length, (Xl gs' t2)[k]'hk = putG f ∧ (∀ j (hj : j < (Xl gs' t2).length), j < k → isM ((Xl gs' t2)[j]'hj) = false) ∧
   (gs' = putG f :: gs2 ∨ ∃ hll : (Xl gs' t2).length = (Xl gs2 t2).length, (∀ j (hj : j < (Xl gs2 t2).length), ((Xl gs2 t2)[j]'hj).Kind = ((Xl gs' t2)[j]'(by omega)).Kind) ∧ ∀ j (hj : j < (Xl gs2 t2).length), j ≠ k → (Xl gs2 t2)[j]'hj = (Xl gs' t2)[j]'(by omega)))) := by
  intro gs' hok' hrest
  unfold Zy
  have htl := pic_t gs t
  obtain ⟨a, e', j1, j2, j3⟩ := Joined_sound (l := Xl gs' t) (gs_texts hok' (by rw [← hpic] at htl; omega))
  rw [j1, Jb]
  refine ⟨a, e', rfl, ?_⟩
  by_cases hz : e' ≠ 0
  ·exact .inl ⟨hz, j2 hz⟩
  ·obtain ⟨q1, q2, gs1, t1, q3, q4, q5⟩ := j3 (by omega)
   obtain ⟨e1, e2⟩ := allG_inj q4
   subst e1 e2
   refine .inr ⟨by omega, he0, gs, t, gs', hok, hok', hpic, hs, by omega, q5, q2, ?_, hrest⟩
   unfold Xl at q1; simp at q1; omega
 rcases md_cases (Xl gs t) with hm | ⟨k, hk, hm, hlow⟩
 ·rw [md_none (by omega) hm, Jb, cI, if_neg (by decide)]
  have hins : gInsN 24 (Xl gs t) 0 (⟨225, [69, 120, 105, 102, 0, 0] ++ octF f⟩ : T_tag_Segment) = some (Xl (putG f :: gs) t) := by
   unfold gInsN
   rw [if_pos (by omega)]; rfl
  rw [hins, Jb]
  refine fin (putG f :: gs) (fun g hg => ?_) ⟨0, by unfold Xl; simp, rfl, fun j hj h => absurd h (by omega), .inl rfl⟩
  rcases List.mem_cons.1 hg with h | h
  ·rw [h]; exact hpo
  ·exact hok g h
 ·rw [md_at (by omega) hk hm hlow, Jb, cI, if_pos (by omega)]
  show ∃ a e, Jr (Yp (Xl gs t) (k : Int)) _ = _ ∧ _
  rw [Qz hk, Jb]
  show ∃ a e, Jr (gSet (Xl gs t) (k : Int) (putG f)) _ = _ ∧ _
  have hkg : k < gs.length := by
   rcases Nat.lt_or_ge k gs.length with h | h
   ·exact h
   ·exfalso
    have : (Xl gs t)[k]'hk = ⟨218, t⟩ := allG_last hk h
    rw [this] at hm
    unfold isM at hm
    rw [decide_eq_true_iff] at hm
    exact absurd hm.1 (by simp)
  have hset : (Xl gs t).set k (putG f) = Xl (gs.set k (putG f)) t := by
   unfold Xl; rw [List.set_append_left _ _ hkg]
  rw [U6 (by omega) (by omega), Jb, Int.toNat_natCast, hset]
  have hl' : (Xl (gs.set k (putG f)) t).length = (Xl gs t).length := by unfold Xl; simp
  have hget : ∀ j (hj : j < (Xl gs t).length), (Xl (gs.set k (putG f)) t)[j]'(by omega) = if k = j then putG f else (Xl gs t)[j]'hj := by
   intro j hj
   have : (Xl (gs.set k (putG f)) t)[j]'(by omega) = ((Xl gs t).set k (putG f))[j]'(by rw [List.length_set]; exact hj) := by simp only [hset]
   rw [this, List.getElem_set]
  refine fin (gs.set k (putG f)) (fun g hg => ?_) ⟨k, by omega, by rw [hget k hk, if_pos rfl], fun j hj h => ?_, .inr ⟨hl', fun j hj => ?_, fun j hj h => ?_⟩⟩
  ·rcases List.mem_or_eq_of_mem_set hg with h | h
   ·exact hok g h
   ·rw [h]; exact hpo
  ·rw [hget j (by omega), if_neg (by omega)]; exact hlow j (by omega) h
  ·rw [hget j hj]
   split
   ·rename_i h; subst h
    unfold isM at hm
    rw [decide_eq_true_iff] at hm
    exact hm.1
   ·rfl
  ·rw [hget j hj, if_neg (fun e => h e.symm)]
end Go.M

/- Fractions: what the models of package tag and of its reference compute with ratios and with numbers of 128 bits. Conditions: none. -/
namespace Go.M.Dg
open Go.Md Go.Pl
theorem bAnd_low {a : Int} (h : 0 ≤ a ∧ a ≤ 18446744073709551615) : Uw 64 a 4294967295 = a % 4294967296 := by
 obtain ⟨x, rfl⟩ := Int.eq_ofNat_of_zero_le h.1
 unfold Uw
 rw [BitVec.toNat_and, BitVec.toNat_ofInt, BitVec.toNat_ofInt]
 have h1 : ((x : Int) % (2 ^ 64 : Nat)).toNat = x := by
  have : (x : Int) % ((2 ^ 64 : Nat) : Int) = x := Int.emod_eq_of_lt (by omega) (by simp; omega)
  rw [this]; rfl
 have h2 : ((4294967295 : Int) % (2 ^ 64 : Nat)).toNat = 2 ^ 32 - 1 := by decide
 rw [h1, h2, Nat.and_two_pow_sub_one_eq_mod]
 simp
theorem gShr32 {a : Int} : gShr 64 a 32 = some (a / 4294967296) := by
 unfold gShr
 rw [if_pos (by decide)]
 rfl
theorem mul_bd {x y B : Int} (hx : 0 ≤ x ∧ x ≤ B) (hy : 0 ≤ y ∧ y ≤ B) : 0 ≤ x * y ∧ x * y ≤ B * B :=
 ⟨Int.mul_nonneg hx.1 hy.1, Int.mul_le_mul hx.2 hy.2 hy.1 (by omega)⟩
theorem mul64 {x y : Int} (hx : 0 ≤ x ∧ x ≤ 18446744073709551615) (hy : 0 ≤ y ∧ y ≤ 18446744073709551615) : Wv x y = some (x * y / 18446744073709551616, x * y % 18446744073709551616) := by
 unfold Wv
 simp only [gShr32, Jb, bAnd_low hx, bAnd_low hy]
 have ex : x = x / 4294967296 * 4294967296 + x % 4294967296 := by omega
 have ey : y = y / 4294967296 * 4294967296 + y % 4294967296 := by omega
 have bx1 : 0 ≤ x / 4294967296 ∧ x / 4294967296 ≤ 4294967295 := by omega
 have by1 : 0 ≤ y / 4294967296 ∧ y / 4294967296 ≤ 4294967295 := by omega
 have bx0 : 0 ≤ x % 4294967296 ∧ x % 4294967296 ≤ 4294967295 := by omega
 have by0 : 0 ≤ y % 4294967296 ∧ y % 4294967296 ≤ 4294967295 := by omega
 generalize x / 4294967296 = x1 at *
 generalize x % 4294967296 = x0 at *
 generalize y / 4294967296 = y1 at *
 generalize y % 4294967296 = y0 at *
 have p00 := mul_bd bx0 by0
 have p10 := mul_bd bx1 by0
 have p01 := mul_bd bx0 by1
 have p11 := mul_bd bx1 by1
 have exy : x * y = x1 * y1 * 18446744073709551616 + (x1 * y0 + x0 * y1) * 4294967296 + x0 * y0 := by
  rw [ex, ey]
  simp only [Int.add_mul, Int.mul_add]
  have e1 : x1 * 4294967296 * (y1 * 4294967296) = x1 * y1 * 18446744073709551616 := by
   rw [Int.mul_assoc, Int.mul_left_comm 4294967296 y1 4294967296, ← Int.mul_assoc]; rfl
  have e2 : x0 * (y1 * 4294967296) = x0 * y1 * 4294967296 := by rw [Int.mul_assoc]
  have e3 : x1 * 4294967296 * y0 = x1 * y0 * 4294967296 := by rw [Int.mul_right_comm]
  rw [e1, e2, e3]
  omega
 rw [wU64_in (x := x0) (by omega), wU64_in (x := y0) (by omega)]
 have e4 : Qw (Uw 64 (Qw (Qw (x1 * y0) + Qw (x0 * y0) / 4294967296)) 4294967295) = (x1 * y0 + x0 * y0 / 4294967296) % 4294967296 := by
  rw [wU64_in (x := x1 * y0) (by omega), wU64_in (x := x0 * y0) (by omega), wU64_in (x := x1 * y0 + x0 * y0 / 4294967296) (by omega), bAnd_low (by omega), wU64_in (by omega)]
 rw [e4]
 rw [exy]
 generalize x0 * y0 = q00 at *
 generalize x1 * y0 = q10 at *
 generalize x0 * y1 = q01 at *
 generalize x1 * y1 = q11 at *
 unfold Qw
 congr 1
 rw [Prod.mk.injEq]
 refine ⟨?_, rfl⟩
 omega
def vW (h l : Int) : Int := h * 18446744073709551616 + l
def okW (h l : Int) : Prop := (0 ≤ h ∧ h ≤ 18446744073709551615) ∧ 0 ≤ l ∧ l ≤ 18446744073709551615
def hiW (v : Int) : Int := v / 18446744073709551616
def loW (v : Int) : Int := v % 18446744073709551616
def Yq (v : Int) : Prop := 0 ≤ v ∧ v ≤ 340282366920938463463374607431768211455
theorem ok_hl {v : Int} (h : Yq v) : okW (hiW v) (loW v) := by unfold okW hiW loW; unfold Yq at h; omega
theorem v_hl (v : Int) : vW (hiW v) (loW v) = v := by unfold vW hiW loW; omega
theorem times_hl {v n : Int} (hv : Yq v) (hn : 0 ≤ n ∧ n ≤ 18446744073709551615) (hp : Yq (v * n)) :
  Wv (loW v) n = some (loW v * n / 18446744073709551616, loW v * n % 18446744073709551616) ∧ Qw (loW v * n / 18446744073709551616 + Qw (hiW v * n)) = hiW (v * n) ∧ loW v * n % 18446744073709551616 = loW (v * n) := by
 have ok := ok_hl hv
 refine ⟨mul64 ok.2 hn, ?_, ?_⟩
 ·have e : v * n = hiW v * n * 18446744073709551616 + loW v * n := by
   conv => lhs; rw [← v_hl v]
   unfold vW
   rw [Int.add_mul, Int.mul_right_comm]
  have h1 : 0 ≤ hiW v * n := Int.mul_nonneg ok.1.1 hn.1
  have h2 : 0 ≤ loW v * n := Int.mul_nonneg ok.2.1 hn.1
  rw [e] at hp ⊢
  unfold Yq at hp
  generalize hiW v * n = p at *
  generalize loW v * n = q at *
  unfold Qw hiW
  omega
 ·have e : v * n = hiW v * n * 18446744073709551616 + loW v * n := by
   conv => lhs; rw [← v_hl v]
   unfold vW
   rw [Int.add_mul, Int.mul_right_comm]
  rw [e]
  generalize hiW v * n = p at *
  generalize loW v * n = q at *
  unfold loW
  omega
def wd (v : Int) : T_tag_wide := ⟨hiW v, loW v⟩
theorem tag_times {v n : Int} (hv : Yq v) (hn : 0 ≤ n ∧ n ≤ 18446744073709551615) (hp : Yq (v * n)) : Q5 (wd v) n = some (wd (v * n)) := by
 obtain ⟨h1, h2, h3⟩ := times_hl hv hn hp
 unfold Q5 wd
 rw [h1, Jb]
 simp only [h2, h3]
theorem tag_plus {a b : Int} (ha : Yq a) (hb : Yq b) (hs : Yq (a + b)) : J4 (wd a) (wd b) = some (wd (a + b)) := by
 have k1 := ok_hl ha
 have k2 := ok_hl hb
 unfold J4 wd gAdd64
 simp only
 rw [if_pos ⟨k1.2.1, k2.2.1, by decide, by decide⟩, Jb]
 simp only
 unfold okW at k1 k2
 rw [if_pos (by omega), Jb]
 unfold Yq at hs ha hb
 congr 1
 rw [T_tag_wide.mk.injEq]
 unfold hiW loW at *
 omega
theorem tag_atLeast {a b : Int} (ha : Yq a) (hb : Yq b) : We (wd a) (wd b) = some (decide (b ≤ a)) := by
 unfold We wd
 simp only [cnd_if]
 unfold Yq at ha hb
 have e : ∀ {p q : Prop} [Decidable p] [Decidable q], (p ↔ q) → some (decide p) = some (decide q) := fun h => by simp [h]
 split
 ·exact congrArg some (decide_eq_true (by unfold hiW at *; omega)).symm
 ·split
  ·exact e (by unfold hiW loW at *; omega)
  ·exact congrArg some (decide_eq_false (by unfold hiW at *; omega)).symm
end Go.M.Dg

/- The laws TagFractions and TagDegrees in plain Lean. Conditions: none. -/
namespace Go.M.Dg
open Go.Md Go.Pl
theorem outside_t (a b c : Int) : Yk a b c = some (decide (a < b ∨ c < a)) := by
 unfold Yk
 rw [cnd_if]; by_cases h : a < b <;> simp [h]
def okR (x : T_tag_Ratio) : Prop := (0 ≤ x.Num ∧ x.Num ≤ 4294967295) ∧ 1 ≤ x.Den ∧ x.Den ≤ 4294967295
instance (x : T_tag_Ratio) : Decidable (okR x) := by unfold okR; infer_instance
theorem check_t (x : T_tag_Ratio) : Jak x = some (if okR x then 0 else 2) := by
 unfold Jak
 simp only [outside_t, Jb, cnd_if]
 split
 ·rw [if_neg (by unfold okR; omega)]
 ·split
  ·rw [if_neg (by unfold okR; omega)]
  ·rw [if_pos (by unfold okR; omega)]
def Uv (l : List Int) : Int := l.foldl (· * ·) 1
theorem product_eq (l : List Int) (hl : l.length ≤ 10) (hb : ∀ x ∈ l, 0 ≤ x ∧ x ≤ 18446744073709551615) (hp : ∀ k, Yq (Uv (l.take k))) : Jz l = some (wd (Uv l)) := by
 unfold Jz
 have h := up2 (σ := Int × Int) (F := fun next2 s => Wc l next2 s.1 s.2.1 s.2.2) l.length (fun k s => some (wd (Uv l))) (fun k s => s = (hiW (Uv (l.take k)), loW (Uv (l.take k)))) (fun next k s hk hI ih => by
  subst hI
  show Wc l next k (hiW (Uv (l.take k))) (loW (Uv (l.take k))) = _
  unfold Wc
  by_cases h : k < l.length
  ·have e : Uv (l.take (k + 1)) = Uv (l.take k) * l[k] := by
    unfold Uv
    rw [List.take_add_one, List.getElem?_eq_getElem h, List.foldl_append]; rfl
   have ht := tag_times (hp k) (hb l[k] (List.getElem_mem h)) (by rw [← e]; exact hp (k + 1))
   unfold wd at ht
   simp (disch := omega) only [cnd_if, Qz, Jb, if_pos, Jy, ht]
   rw [ih _ h (by rw [e])]
  ·simp (disch := omega) only [cnd_if, if_neg]
   unfold tag_product_j1 wd
   rw [List.take_of_length_le (by omega)]) (0, 1) (by simp [Uv]; decide)
 exact h
end Go.M.Dg

/- Degrees of three fractions: both ways round alike. Conditions: none. -/
namespace Go.M.Dg
open Go.Md Go.Pl
theorem pb {x y X Y : Int} (hx : 0 ≤ x ∧ x ≤ X) (hy : 0 ≤ y ∧ y ≤ Y) : 0 ≤ x * y ∧ x * y ≤ X * Y :=
 ⟨Int.mul_nonneg hx.1 hy.1, Int.mul_le_mul hx.2 hy.2 hy.1 (by omega)⟩
theorem product3 {x y z : Int} (hx : 0 ≤ x ∧ x ≤ 18446744073709551615) (hy : 0 ≤ y ∧ y ≤ 18446744073709551615) (hz : 0 ≤ z ∧ z ≤ 18446744073709551615) (h2 : Yq (x * y)) (h3 : Yq (x * y * z)) : Jz [x, y, z] = some (wd (x * y * z)) := by
 rw [product_eq _ (by simp) (by simp only [List.mem_cons, List.not_mem_nil, or_false]; rintro w (rfl | rfl | rfl) <;> assumption)]
 ·simp [Uv]
 ·intro k
  rcases k with _ | _ | _ | k
  ·simp [Uv, Yq]
  ·simp only [List.take, Uv, List.foldl, Int.one_mul]; unfold Yq; omega
  ·simp only [List.take, Uv, List.foldl, Int.one_mul]; exact h2
  ·rw [List.take_of_length_le (by simp)]; simp only [Uv, List.foldl, Int.one_mul]; exact h3
theorem product4 {h x y z : Int} (hh : 0 ≤ h ∧ h ≤ 18446744073709551615) (hx : 0 ≤ x ∧ x ≤ 18446744073709551615) (hy : 0 ≤ y ∧ y ≤ 18446744073709551615) (hz : 0 ≤ z ∧ z ≤ 18446744073709551615) (h1 : Yq (h * x)) (h2 : Yq (h * x * y)) (h3 : Yq (h * x * y * z)) : Jz [h, x, y, z] = some (wd (h * x * y * z)) := by
 rw [product_eq _ (by simp) (by simp only [List.mem_cons, List.not_mem_nil, or_false]; rintro w (rfl | rfl | rfl | rfl) <;> assumption)]
 ·simp [Uv]
 ·intro k
  rcases k with _ | _ | _ | _ | k
  ·simp [Uv, Yq]
  ·simp only [List.take, Uv, List.foldl, Int.one_mul]; unfold Yq; omega
  ·simp only [List.take, Uv, List.foldl, Int.one_mul]; exact h1
  ·simp only [List.take, Uv, List.foldl, Int.one_mul]; exact h2
  ·rw [List.take_of_length_le (by simp)]; simp only [Uv, List.foldl, Int.one_mul]; exact h3
structure Left (r d : Nat → Int) : Prop where
 d0 : 1 ≤ d 0 ∧ d 0 ≤ 4294967295
 d1 : 1 ≤ d 1 ∧ d 1 ≤ 257698037700
 d2 : 1 ≤ d 2 ∧ d 2 ≤ 15461882262000
 r0 : 0 ≤ r 0 ∧ r 0 < d 0
 r1 : 0 ≤ r 1 ∧ r 1 < d 1
 r2 : 0 ≤ r 2 ∧ r 2 < d 2
def allD (d : Nat → Int) : Int := d 0 * d 1 * d 2
def restN (r d : Nat → Int) : Int := r 0 * d 1 * d 2 + d 0 * r 1 * d 2 + d 0 * d 1 * r 2
theorem mul_lt3 {a b c a' b' c' : Int} (ha : 0 ≤ a ∧ a ≤ a') (hb : 0 ≤ b ∧ b ≤ b') (hc : 0 ≤ c ∧ c ≤ c') : 0 ≤ a * b * c ∧ a * b * c ≤ a' * b' * c' :=
 pb (pb ha hb) hc
theorem left_bd {r d : Nat → Int} (h : Left r d) : (1 ≤ allD d ∧ allD d ≤ 17113286838528000000000000000000000) ∧ 0 ≤ restN r d ∧ restN r d < 3 * allD d := by
 obtain ⟨h0, h1, h2, g0, g1, g2⟩ := h
 have a0 : 0 ≤ d 0 ∧ d 0 ≤ d 0 := by omega
 have a1 : 0 ≤ d 1 ∧ d 1 ≤ d 1 := by omega
 have a2 : 0 ≤ d 2 ∧ d 2 ≤ d 2 := by omega
 have t0 := mul_lt3 (a := r 0) (a' := d 0 - 1) (by omega) a1 a2
 have t1 := mul_lt3 a0 (b := r 1) (b' := d 1 - 1) (by omega) a2
 have t2 := mul_lt3 a0 a1 (c := r 2) (c' := d 2 - 1) (by omega)
 have lo := mul_lt3 (a := 1) (a' := d 0) (b := 1) (b' := d 1) (c := 1) (c' := d 2) (by omega) (by omega) (by omega)
 have up := mul_lt3 (a := d 0) (a' := 4294967295) (b := d 1) (b' := 257698037700) (c := d 2) (c' := 15461882262000) (by omega) (by omega) (by omega)
 have p12 := pb (x := 1) (X := d 1) (y := 1) (Y := d 2) (by omega) (by omega)
 have p02 := pb (x := 1) (X := d 0) (y := 1) (Y := d 2) (by omega) (by omega)
 have p01 := pb (x := 1) (X := d 0) (y := 1) (Y := d 1) (by omega) (by omega)
 have e0 : (d 0 - 1) * d 1 * d 2 = d 0 * d 1 * d 2 - d 1 * d 2 := by rw [Int.sub_mul, Int.sub_mul, Int.one_mul]
 have e1 : d 0 * (d 1 - 1) * d 2 = d 0 * d 1 * d 2 - d 0 * d 2 := by rw [Int.mul_sub, Int.sub_mul, Int.mul_one]
 have e2 : d 0 * d 1 * (d 2 - 1) = d 0 * d 1 * d 2 - d 0 * d 1 := by rw [Int.mul_sub, Int.mul_one]
 unfold allD restN
 rw [e0] at t0; rw [e1] at t1; rw [e2] at t2
 omega
def Uc (r d : Nat → Int) : Int := (2 * restN r d + allD d) / (2 * allD d)
theorem round_bd {r d : Nat → Int} (h : Left r d) : 0 ≤ Uc r d ∧ Uc r d ≤ 3 ∧ 2 * allD d * Uc r d ≤ 2 * restN r d + allD d ∧ 2 * restN r d + allD d < 2 * allD d * Uc r d + 2 * allD d := by
 obtain ⟨h1, h2⟩ := left_bd h
 have e := Int.mul_ediv_add_emod (2 * restN r d + allD d) (2 * allD d)
 have m1 := Int.emod_nonneg (2 * restN r d + allD d) (show 2 * allD d ≠ 0 by omega)
 have m2 := Int.emod_lt_of_pos (2 * restN r d + allD d) (show 0 < 2 * allD d by omega)
 have q0 : 0 ≤ Uc r d := Int.ediv_nonneg (by omega) (by omega)
 have q3 : Uc r d < 4 := Int.ediv_lt_of_lt_mul (by omega) (by omega)
 unfold Uc at *
 omega
def endD (s : Int) : Option (Int × Int) := if 180000000 < s then some (0, 2) else some (s, 0)
theorem tag_j1 {r d : Nat → Int} (h : Left r d) {s : Int} (hs : 0 ≤ s ∧ s ≤ 1000000000000000000) : Uk s r d = endD (s + Uc r d) := by
 obtain ⟨hD, hN⟩ := left_bd h
 have hq := round_bd h
 obtain ⟨h0, h1, h2, g0, g1, g2⟩ := h
 have p01 := pb (x := d 0) (X := 4294967295) (y := d 1) (Y := 257698037700) (by omega) (by omega)
 have q01 := pb (x := r 0) (X := 4294967295) (y := d 1) (Y := 257698037700) (by omega) (by omega)
 have q02 := pb (x := d 0) (X := 4294967295) (y := r 1) (Y := 257698037700) (by omega) (by omega)
 have t0 := mul_lt3 (a := r 0) (a' := 4294967295) (b := d 1) (b' := 257698037700) (c := d 2) (c' := 15461882262000) (by omega) (by omega) (by omega)
 have t1 := mul_lt3 (a := d 0) (a' := 4294967295) (b := r 1) (b' := 257698037700) (c := d 2) (c' := 15461882262000) (by omega) (by omega) (by omega)
 have t2 := mul_lt3 (a := d 0) (a' := 4294967295) (b := d 1) (b' := 257698037700) (c := r 2) (c' := 15461882262000) (by omega) (by omega) (by omega)
 have eN : r 0 * d 1 * d 2 + d 0 * r 1 * d 2 + d 0 * d 1 * r 2 = restN r d := rfl
 unfold Uk
 rw [product3 (by omega) (by omega) (by omega) (by unfold Yq; omega) (by unfold Yq; omega), Jb]
 rw [product3 (by omega) (by omega) (by omega) (by unfold Yq; omega) (by unfold Yq; omega), Jb]
 rw [tag_plus (by unfold Yq; omega) (by unfold Yq; omega) (by unfold Yq; omega), Jb]
 rw [product3 (by omega) (by omega) (by omega) (by unfold Yq; omega) (by unfold Yq; omega), Jb]
 rw [tag_plus (by unfold Yq; omega) (by unfold Yq; omega) (by unfold Yq; omega), Jb]
 rw [tag_times (by unfold Yq; omega) (by decide) (by unfold Yq; omega), Jb, eN]
 have key := fix_of (F := fun next3 s => Wk d (wd (restN r d * 2)) next3 s.1 s.2) (fun _ => endD (s + Uc r d)) (fun x => ∃ j : Nat, (j : Int) ≤ Uc r d ∧ x = (s + j, 2 * (j : Int) + 1)) (fun x => (s + 10 - x.1).toNat) (by
  rintro next _ ⟨j, hj, rfl⟩ ih
  show Wk d (wd (restN r d * 2)) next (s + j) (2 * (j : Int) + 1) = _
  unfold Wk
  have hj3 : j = 0 ∨ j = 1 ∨ j = 2 ∨ j = 3 := by omega
  have eD : (2 * (j : Int) + 1) * d 0 * d 1 * d 2 = (2 * (j : Int) + 1) * allD d := by unfold allD; rw [Int.mul_assoc, Int.mul_assoc, Int.mul_assoc (d 0)]
  have u1 : (2 * (j : Int) + 1) * d 0 ≤ 7 * d 0 := Int.mul_le_mul_of_nonneg_right (by omega) (by omega)
  have u0 : 0 ≤ (2 * (j : Int) + 1) * d 0 := Int.mul_nonneg (by omega) (by omega)
  have u2 := pb (x := (2 * (j : Int) + 1) * d 0) (X := 7 * 4294967295) (y := d 1) (Y := 257698037700) (by omega) (by omega)
  have u3 := pb (x := (2 * (j : Int) + 1) * d 0 * d 1) (X := 7 * 4294967295 * 257698037700) (y := d 2) (Y := 15461882262000) (by omega) (by omega)
  rw [product4 (by omega) (by omega) (by omega) (by omega) (by unfold Yq; omega) (by unfold Yq; omega) (by unfold Yq; omega), Jb, tag_atLeast (by unfold Yq; omega) (by unfold Yq; omega), Jb, cnd_if, eD]
  by_cases hc : (2 * (j : Int) + 1) * allD d ≤ restN r d * 2
  ·have hlt : (j : Int) < Uc r d := by
    rcases hj3 with rfl | rfl | rfl | rfl <;> (generalize Uc r d = q at *; rcases (show q = 0 ∨ q = 1 ∨ q = 2 ∨ q = 3 by omega) with rfl | rfl | rfl | rfl <;> omega)
   rw [if_pos hc, Jy (by omega), Jb, wU64_in (by omega)]
   exact ih (s + j + 1, 2 * (j : Int) + 1 + 2) ⟨j + 1, by omega, by rw [Prod.mk.injEq]; omega⟩ (by simp only; omega)
  ·have heq : (j : Int) = Uc r d := by
    rcases hj3 with rfl | rfl | rfl | rfl <;> (generalize Uc r d = q at *; rcases (show q = 0 ∨ q = 1 ∨ q = 2 ∨ q = 3 by omega) with rfl | rfl | rfl | rfl <;> omega)
   rw [if_neg hc]
   unfold tag_Degrees_j2 endD
   rw [cnd_if, heq]) (s, 1) ⟨0, by omega, by simp⟩
 exact key
end Go.M.Dg

/- The laws TagFractions and TagDegrees over the models. Conditions: none. -/
namespace Go.M.Dg
open Go.Md Go.Pl
def dV (n0 d0 n1 d1 n2 d2 : Int) : Int := (2 * (n0 * d1 * d2 + d0 * n1 * d2 + d0 * d1 * n2) + d0 * d1 * d2) / (2 * (d0 * d1 * d2))
theorem pos3 {a b c : Int} (ha : 0 < a) (hb : 0 < b) (hc : 0 < c) : 0 < a * b * c := Int.mul_pos (Int.mul_pos ha hb) hc
theorem dV_parts {n0 n1 n2 : Int} {r d : Nat → Int} (h : Left r d) (e0 : r 0 = n0 % d 0) (e1 : r 1 = n1 % d 1) (e2 : r 2 = n2 % d 2) : n0 / d 0 + n1 / d 1 + n2 / d 2 + Uc r d = dV n0 (d 0) n1 (d 1) n2 (d 2) := by
 obtain ⟨h0, h1, h2, _⟩ := h
 have f0 := Int.mul_ediv_add_emod n0 (d 0)
 have f1 := Int.mul_ediv_add_emod n1 (d 1)
 have f2 := Int.mul_ediv_add_emod n2 (d 2)
 rw [← e0] at f0; rw [← e1] at f1; rw [← e2] at f2
 unfold dV Uc restN allD
 have hp := pos3 (a := d 0) (b := d 1) (c := d 2) (by omega) (by omega) (by omega)
 generalize n0 / d 0 = q0 at *
 generalize n1 / d 1 = q1 at *
 generalize n2 / d 2 = q2 at *
 subst f0 f1 f2
 rw [show 2 * ((d 0 * q0 + r 0) * d 1 * d 2 + d 0 * (d 1 * q1 + r 1) * d 2 + d 0 * d 1 * (d 2 * q2 + r 2)) + d 0 * d 1 * d 2
   = 2 * (r 0 * d 1 * d 2 + d 0 * r 1 * d 2 + d 0 * d 1 * r 2) + d 0 * d 1 * d 2 + 2 * (d 0 * d 1 * d 2) * (q0 + q1 + q2) from by
  have x0 : d 0 * q0 * d 1 * d 2 = d 0 * d 1 * d 2 * q0 := by rw [Int.mul_right_comm (d 0), Int.mul_right_comm (d 0 * d 1)]
  have x1 : d 0 * (d 1 * q1) * d 2 = d 0 * d 1 * d 2 * q1 := by rw [← Int.mul_assoc, Int.mul_right_comm (d 0 * d 1)]
  have x2 : d 0 * d 1 * (d 2 * q2) = d 0 * d 1 * d 2 * q2 := by rw [← Int.mul_assoc]
  simp only [Int.add_mul, Int.mul_add, x0, x1, x2]
  have y0 := Int.mul_assoc 2 (d 0 * d 1 * d 2) q0
  have y1 := Int.mul_assoc 2 (d 0 * d 1 * d 2) q1
  have y2 := Int.mul_assoc 2 (d 0 * d 1 * d 2) q2
  omega]
 rw [Int.add_mul_ediv_left _ _ (by omega)]
 omega
def cK : Nat → Int | 0 => 1 | 1 => 60 | _ => 3600
theorem cK_bd (k : Nat) : 1 ≤ cK k ∧ cK k ≤ 3600 := by unfold cK; split <;> omega
theorem cK_ofL {k : Nat} (hk : k < 3) : ofL [1, 60, 3600] k = cK k := by
 rcases (show k = 0 ∨ k = 1 ∨ k = 2 by omega) with rfl | rfl | rfl <;> rfl
theorem den_bd {x : T_tag_Ratio} (h : okR x) (k : Nat) : 1 ≤ x.Den * cK k ∧ x.Den * cK k ≤ 15461882262000 := by
 have hc := cK_bd k
 obtain ⟨_, h1, h2⟩ := h
 have := pb (x := x.Den - 1) (X := 4294967294) (y := cK k) (Y := 3600) (by omega) (by omega)
 have h3 := pb (x := x.Den) (X := 4294967295) (y := cK k) (Y := 3600) (by omega) (by omega)
 rw [Int.sub_mul, Int.one_mul] at this
 omega
theorem quo_bd {x : T_tag_Ratio} (h : okR x) {d : Int} (hd : 1 ≤ d) : 0 ≤ x.Num * 1000000 / d ∧ x.Num * 1000000 / d ≤ 4294967295000000 := by
 obtain ⟨h1, _⟩ := h
 exact ⟨Int.ediv_nonneg (by omega) (by omega), Int.le_trans (Int.ediv_le_self _ (by omega)) (by omega)⟩
theorem tag_step {l : List T_tag_Ratio} (hl : l.length = 3) {next : Int × Int × (Nat → Int) × (Nat → Int) → Option (Int × Int)} {k : Nat} (hk : k < 3) {s : Int} (hs : 0 ≤ s ∧ s ≤ 100000000000000000) {r d : Nat → Int} {x : T_tag_Ratio} (hx : Yp l (k : Int) = some x) :
  Zk l next s (k : Int) r d = if okR x then next (s + x.Num * 1000000 / (x.Den * cK k), (k : Int) + 1, Zh r k (x.Num * 1000000 % (x.Den * cK k)), Zh d k (x.Den * cK k)) else some (0, 2) := by
 unfold Zk
 rw [cnd_if, if_pos (by omega), hx, Jb, check_t, Jb, cnd_if]
 by_cases h : okR x
 ·have hd := den_bd h k
  have hq := quo_bd h hd.1
  have hm1 := Int.emod_nonneg (x.Num * 1000000) (show x.Den * cK k ≠ 0 by omega)
  have hm2 := Int.emod_lt_of_pos (x.Num * 1000000) (show 0 < x.Den * cK k by omega)
  have h' := h
  obtain ⟨h1, h2⟩ := h'
  rw [if_pos h, if_neg (by decide), if_pos h, Jy (by omega), Jb, gIx_nat hk, Jb, cK_ofL hk, Jy (by omega), Jb, gQuo_nn (by omega) (by omega), Jb, Jy (by omega), Jb, gRem_nn (by omega) (by omega), Jb, Jb, Jb, Jy (by omega), Jb, wU64_in (by omega), wU64_in (by omega)]
 ·rw [if_neg h, if_pos (by decide), if_neg h]
def degV (x0 x1 x2 : T_tag_Ratio) : Int := dV (x0.Num * 1000000) (x0.Den * 1) (x1.Num * 1000000) (x1.Den * 60) (x2.Num * 1000000) (x2.Den * 3600)
theorem three {F : (Int × Int × (Nat → Int) × (Nat → Int) → Option (Int × Int)) → Int × Int × (Nat → Int) × (Nat → Int) → Option (Int × Int)} {J : Int → (Nat → Int) → (Nat → Int) → Option (Int × Int)} {x0 x1 x2 : T_tag_Ratio}
  (step : ∀ (next : Int × Int × (Nat → Int) × (Nat → Int) → Option (Int × Int)) (k : Nat), k < 3 → ∀ s : Int, 0 ≤ s ∧ s ≤ 100000000000000000 → ∀ (r d : Nat → Int) (x : T_tag_Ratio), Yp [x0, x1, x2] (k : Int) = some x →
   F next (s, (k : Int), r, d) = if okR x then next (s + x.Num * 1000000 / (x.Den * cK k), (k : Int) + 1, Zh r k (x.Num * 1000000 % (x.Den * cK k)), Zh d k (x.Den * cK k)) else some (0, 2))
  (last : ∀ next s r d, F next (s, 3, r, d) = J s r d) (hJ : ∀ {r d : Nat → Int}, Left r d → ∀ {s : Int}, 0 ≤ s ∧ s ≤ 1000000000000000000 → J s r d = endD (s + Uc r d)) (r d : Nat → Int) :
  V8 F (0, 0, r, d) = if okR x0 ∧ okR x1 ∧ okR x2 then endD (degV x0 x1 x2) else some (0, 2) := by
 by_cases h0 : okR x0
 ·have d0 := den_bd h0 0
  have q0 := quo_bd h0 d0.1
  refine (Q0 _ (fun next => (step next 0 (by decide) 0 (by decide) r d x0 rfl).trans (if_pos h0))).trans ?_
  by_cases h1 : okR x1
  ·have d1 := den_bd h1 1
   have q1 := quo_bd h1 d1.1
   refine (Q0 _ (fun next => (step next 1 (by decide) _ (by omega) _ _ x1 rfl).trans (if_pos h1))).trans ?_
   by_cases h2 : okR x2
   ·have d2 := den_bd h2 2
    have q2 := quo_bd h2 d2.1
    refine (Q0 _ (fun next => (step next 2 (by decide) _ (by omega) _ _ x2 rfl).trans (if_pos h2))).trans ?_
    refine (Qb (fun next => last next _ _ _)).trans ?_
    rw [if_pos ⟨h0, h1, h2⟩]
    obtain ⟨_, g0⟩ := h0
    obtain ⟨_, g1⟩ := h1
    obtain ⟨_, g2⟩ := h2
    have hL : Left (Zh (Zh (Zh r 0 (x0.Num * 1000000 % (x0.Den * cK 0))) 1 (x1.Num * 1000000 % (x1.Den * cK 1))) 2 (x2.Num * 1000000 % (x2.Den * cK 2))) (Zh (Zh (Zh d 0 (x0.Den * cK 0)) 1 (x1.Den * cK 1)) 2 (x2.Den * cK 2)) := by
     exact ⟨(show 1 ≤ x0.Den * 1 ∧ x0.Den * 1 ≤ 4294967295 by omega), (show 1 ≤ x1.Den * 60 ∧ x1.Den * 60 ≤ 257698037700 by omega), (show 1 ≤ x2.Den * 3600 ∧ x2.Den * 3600 ≤ 15461882262000 by omega), (show 0 ≤ x0.Num * 1000000 % (x0.Den * 1) ∧ x0.Num * 1000000 % (x0.Den * 1) < x0.Den * 1 from ⟨Int.emod_nonneg _ (by omega), Int.emod_lt_of_pos _ (by omega)⟩), (show 0 ≤ x1.Num * 1000000 % (x1.Den * 60) ∧ x1.Num * 1000000 % (x1.Den * 60) < x1.Den * 60 from ⟨Int.emod_nonneg _ (by omega), Int.emod_lt_of_pos _ (by omega)⟩), (show 0 ≤ x2.Num * 1000000 % (x2.Den * 3600) ∧ x2.Num * 1000000 % (x2.Den * 3600) < x2.Den * 3600 from ⟨Int.emod_nonneg _ (by omega), Int.emod_lt_of_pos _ (by omega)⟩)⟩
    rw [hJ hL (by omega)]
    have := dV_parts (n0 := x0.Num * 1000000) (n1 := x1.Num * 1000000) (n2 := x2.Num * 1000000) hL rfl rfl rfl
    congr 1
    rw [Int.zero_add]
    exact this
   ·refine (Qb (fun next => (step next 2 (by decide) _ (by omega) _ _ x2 rfl).trans (if_neg h2))).trans ?_
    rw [if_neg (fun h => h2 h.2.2)]
  ·refine (Qb (fun next => (step next 1 (by decide) _ (by omega) _ _ x1 rfl).trans (if_neg h1))).trans ?_
   rw [if_neg (fun h => h1 h.2.1)]
 ·refine (Qb (fun next => (step next 0 (by decide) 0 (by decide) r d x0 rfl).trans (if_neg h0))).trans ?_
  rw [if_neg (fun h => h0 h.1)]
theorem tag_three (x0 x1 x2 : T_tag_Ratio) : Ud [x0, x1, x2] = if okR x0 ∧ okR x1 ∧ okR x2 then endD (degV x0 x1 x2) else some (0, 2) := by
 unfold Ud
 rw [cnd_if, if_neg (by simp)]
 exact three (F := fun next4 s => Zk [x0, x1, x2] next4 s.1 s.2.1 s.2.2.1 s.2.2.2) (J := Uk) (fun next k hk s hs r d x hx => tag_step rfl hk hs hx) (fun next s r d => by
  show Zk _ next s 3 r d = _
  unfold Zk
  rw [cnd_if, if_neg (by simp)]) (fun h _ hs => tag_j1 h hs) _ _
theorem ratios_eq (n : Int) : tag_Ratios n = some (if n < 0 ∨ 180000000 < n then ([], 2) else ([⟨n / 1000000, 1⟩, ⟨n % 1000000 * 60 / 1000000, 1⟩, ⟨n % 1000000 * 60 % 1000000 * 60 / 100, 10000⟩], 0)) := by
 unfold tag_Ratios
 rw [outside_t, Jb, cnd_if]
 split
 ·rfl
 ·rw [gRem_nn (by omega) (by omega), Jb, Jy (by omega), Jb, gRem_nn (by omega) (by omega), Jb, Jy (by omega), Jb, gQuo_nn (by omega) (by omega), Jb, gQuo_nn (by omega) (by omega), Jb, gQuo_nn (by omega) (by omega), Jb]
end Go.M.Dg

/- TopCarried, in plain Lean: what other laws have proved (picked). Conditions: sizes. -/
namespace Go.M
open Go.Md Go.Pl
set_option linter.unusedVariables false
def Ris (l : List T_tag_Entry) : Prop := l.Pairwise fun x y => x.Tag < y.Tag
def okR : Nat → List T_tag_Entry → Prop
 | 0, _ => False
 | d + 1, l => l.length ≤ 200 ∧ Ris l ∧ ∀ e ∈ l, okV e.Value ∧ (e.Value.Kind = 13 → okR d e.Value.Entries)
theorem listE_rise {f : T_tag_Entry → Int} : ∀ {l : List T_tag_Entry} {pr : Option Int}, listE f pr l = 0 → (∀ t, pr = some t → ∀ e ∈ l, t < e.Tag) ∧ Ris l := by
 intro l
 induction l with
 | nil => intro pr _; exact ⟨fun _ _ _ h => (by cases h), List.Pairwise.nil⟩
 | cons e l ih =>
  intro pr h
  unfold listE at h
  split at h
  ·omega
  split at h
  ·omega
  rename_i h1 h2
  split at h
  ·rename_i h3; exact absurd h h3
  obtain ⟨a1, a2⟩ := ih h
  have key : ∀ t, pr = some t → t < e.Tag := fun t ht => Classical.byContradiction fun hh => h2 ⟨t, ht, by omega⟩
  refine ⟨fun t ht x hx => ?_, List.pairwise_cons.2 ⟨fun x hx => a1 _ rfl x hx, a2⟩⟩
  rcases List.mem_cons.1 hx with h | h
  ·subst h; exact key t ht
  ·have := key t ht; have := a1 _ rfl x h; omega
theorem dE_okR : ∀ {d : Nat} {l : List T_tag_Entry}, dE d l = 0 → okR d l := by
 intro d
 induction d with
 | zero => intro l h; unfold dE at h; omega
 | succ d ih =>
  intro l h
  have hok := dE_ok h
  unfold dE at h
  split at h
  ·omega
  refine ⟨hok.1, (listE_rise h).2, fun e he => ⟨(hok.2 e he).1, fun h13 => ?_⟩⟩
  have := listE_zero h e he
  rw [if_neg (fun hh => hh h13)] at this
  split at this
  ·rename_i h1; exact absurd this h1
  ·exact ih this
theorem no_entries {v : T_tag_Value} (h : okV v) (h13 : v.Kind ≠ 13) : v.Entries = [] :=
 Classical.byContradiction fun hh => h.2 (.inr (.inr (.inr ⟨h13, hh⟩)))
theorem half {x : Int} (h : 0 ≤ x ∧ x ≤ 4611686018427387904) : gShr 64 (Qw x) 1 = some (x / 2) ∧ V0 (x / 2) = x / 2 := by
 refine ⟨?_, wI64_in (by omega)⟩
 rw [wU64_in (by omega)]
 unfold gShr
 rw [if_pos (by omega)]
 rfl
theorem bin_loop {α ρ : Type} {F : (Int × Int → Option ρ) → Int × Int → Option ρ} (l : List α) (p : α → Bool) (mono : ∀ (i j : Nat) (hi : i < l.length) (hj : j < l.length), i < j → p l[j] = true → p l[i] = true) (J : Int → Option ρ)
  (more : ∀ (next : Int × Int → Option ρ) (i j : Nat) (h : (i + j) / 2 < l.length), i < j → j ≤ l.length → F next ((i : Int), (j : Int)) = if p l[(i + j) / 2] = true then next (((i + j) / 2 : Nat) + 1, (j : Int)) else next ((i : Int), (((i + j) / 2 : Nat) : Int)))
  (stop : ∀ next (i : Nat), i ≤ l.length → F next ((i : Int), (i : Int)) = J i) :
  ∃ k : Nat, k ≤ l.length ∧ (∀ (i : Nat) (h : i < l.length), i < k → p l[i] = true) ∧ (∀ (i : Nat) (h : i < l.length), k ≤ i → p l[i] = false) ∧ V8 F (0, (l.length : Int)) = J k := by
 have key : ∀ n i j, i ≤ j → j ≤ l.length → j - i < n → (∀ (q : Nat) (h : q < l.length), q < i → p l[q] = true) → (∀ (q : Nat) (h : q < l.length), j ≤ q → p l[q] = false) →
   ∃ k : Nat, k ≤ l.length ∧ (∀ (i : Nat) (h : i < l.length), i < k → p l[i] = true) ∧ (∀ (i : Nat) (h : i < l.length), k ≤ i → p l[i] = false) ∧ V8 F ((i : Int), (j : Int)) = J k := by
  intro n
  induction n with
  | zero => intro i j _ _ h; omega
  | succ n ih =>
   intro i j h1 h2 h3 h4 h5
   rcases Nat.lt_or_ge i j with h | h
   ·have hb : (i + j) / 2 < l.length := by omega
    by_cases hp : p l[(i + j) / 2] = true
    ·rw [Q0 ((((i + j) / 2 + 1 : Nat) : Int), (j : Int)) fun next => by rw [more next i j hb h h2, if_pos hp]; rfl]
     refine ih _ _ (by omega) h2 (by omega) (fun q hq hq2 => ?_) h5
     rcases Nat.lt_or_ge q ((i + j) / 2) with h6 | h6
     ·exact mono q _ hq hb h6 hp
     ·have : q = (i + j) / 2 := by omega
      subst this; exact hp
    ·rw [Q0 ((i : Int), (((i + j) / 2 : Nat) : Int)) fun next => by rw [more next i j hb h h2, if_neg hp]]
     refine ih _ _ (by omega) (by omega) (by omega) h4 fun q hq hq2 => ?_
     rcases Nat.lt_or_ge ((i + j) / 2) q with h6 | h6
     ·cases h7 : p l[q] with
      | false => rfl
      | true => exact absurd (mono _ q hb hq h6 h7) hp
     ·have : q = (i + j) / 2 := by omega
      subst this; simpa using hp
   ·have : i = j := by omega
    subst this
    exact ⟨i, h2, h4, h5, Qb fun next => stop next i h2⟩
 simpa using key (l.length + 1) 0 l.length (Nat.zero_le _) (Nat.le_refl _) (by omega) (fun q _ h => by omega) (fun q h h' => by omega)
noncomputable def valE (v : T_tag_Value) : Int := if v.Kind ≠ 13 then plainE v else if Vv v ≠ 0 then Vv v else dE 5 v.Entries
theorem CheckValue_eq {v : T_tag_Value} (hb : vB v) (hz : szD 5 v.Entries ≤ 2000000) : Jaq v = some (valE v) := by
 unfold Jaq valE
 rw [cI]
 by_cases h : v.Kind = 13
 ·rw [if_neg (fun hh => hh h), if_neg (fun hh => hh h), checkFields_eq, Jb, cI]
  split
  ·rfl
  ·rw [checkDir_eq 5 _ 1 (by omega) (by omega) hz, Jb]
 ·rw [if_pos h, if_pos h, checkPlain_eq hb, Jb]
theorem szD_app (d : Nat) : ∀ a b : List T_tag_Entry, szD (d + 1) (a ++ b) = szD (d + 1) a + szD (d + 1) b
 | [], b => by rw [List.nil_append, szD_nil, Nat.zero_add]
 | x :: a, b => by rw [List.cons_append, Jas, Jas, szD_app d a b]; omega
theorem szD_set (d : Nat) (x : T_tag_Entry) : ∀ (l : List T_tag_Entry) (k : Nat) (hk : k < l.length), szD (d + 1) (l.set k x) + szE d l[k] = szD (d + 1) l + szE d x
 | [], k, hk => by cases hk
 | y :: l, 0, _ => by
  show szD (d + 1) (x :: l) + szE d y = _
  rw [Jas, Jas]; omega
 | y :: l, k + 1, hk => by
  have hk' : k < l.length := by simpa using hk
  have := szD_set d x l k hk'
  show szD (d + 1) (y :: l.set k x) + szE d l[k] = _
  rw [Jas, Jas]; omega
theorem szD_take (d k : Nat) (l : List T_tag_Entry) : szD (d + 1) (l.take k) + szD (d + 1) (l.drop k) = szD (d + 1) l := by
 rw [← szD_app, List.take_append_drop]
theorem fits_nil (d : Nat) : fits (d + 1) [] := ⟨Nat.zero_le _, fun x hx => by cases hx⟩
theorem fits_okR : ∀ (d : Nat) (l : List T_tag_Entry), okR d l → szD d l ≤ 2000000 → fits (d + 1) l := by
 intro d
 induction d with
 | zero => intro l h _; exact absurd h id
 | succ d ih =>
  intro l ⟨h1, h2, h3⟩ hz
  refine ⟨by omega, fun x hx => ?_⟩
  have hm := szD_mem (d := d) hx
  unfold szE at hm
  refine ⟨by omega, by omega, ?_⟩
  by_cases hk : x.Value.Kind = 13
  ·exact ih _ ((h3 x hx).2 hk) (by omega)
  ·rw [no_entries (h3 x hx).1 hk]; exact fits_nil d
theorem fits_mono : ∀ (d : Nat) (l : List T_tag_Entry), fits d l → fits (d + 1) l := by
 intro d
 induction d with
 | zero => intro l h; exact absurd h id
 | succ d ih => intro l ⟨h1, h2⟩; exact ⟨h1, fun x hx => ⟨(h2 x hx).1, (h2 x hx).2.1, ih _ (h2 x hx).2.2⟩⟩
theorem fits_le {d k : Nat} (h : d ≤ k) {l : List T_tag_Entry} (hf : fits d l) : fits k l := by
 induction k with
 | zero => rw [show d = 0 by omega] at hf; exact hf
 | succ k ih =>
  rcases Nat.lt_or_ge k d with hh | hh
  ·rw [show d = k + 1 by omega] at hf; exact hf
  ·exact fits_mono _ _ (ih hh)
theorem fits8 {d : Nat} {l : List T_tag_Entry} (h : okR d l) (hz : szD d l ≤ 2000000) (hd : d ≤ 5) : fits 8 l := fits_le (by omega) (fits_okR d l h hz)
theorem fitV8 {v : T_tag_Value} {d : Nat} (hd : d ≤ 5) (h : okV v) (h13 : v.Kind = 13 → okR d v.Entries) (h1 : v.Ints.length ≤ 2000000) (h2 : v.Ratios.length ≤ 2000000) (hz : szD d v.Entries ≤ 2000000) : fitV 8 v := by
 refine ⟨h1, h2, ?_⟩
 by_cases hk : v.Kind = 13
 ·exact fits8 (h13 hk) hz hd
 ·rw [no_entries h hk]; exact fits_nil 7
end Go.M

/- TopCarried, in plain Lean: what is put at a path of two numbers, and the law. Conditions: sizes. -/
namespace Go.M
open Go.Md Go.Pl
set_option linter.unusedVariables false
theorem place1_eq (e : T_tag_Entry) (t : Int) : Uh e t = some (if e.Tag < t then -1 else if t < e.Tag then 1 else 0) := by
 unfold Uh
 rw [cI, cI]; (repeat' split) <;> rfl
theorem place_full (l : List T_tag_Entry) (t : Int) (hr : Ris l) (hl : l.length ≤ 200) :
  ∃ k : Nat, k ≤ l.length ∧ ((W2 l t = some ((k : Int), false) ∧ ∀ x ∈ l, x.Tag ≠ t) ∨ ∃ hk : k < l.length, W2 l t = some ((k : Int), true) ∧ l[k].Tag = t) := by
 have hp := List.pairwise_iff_getElem.1 hr
 obtain ⟨k, h1, h2, h3, h4⟩ := bin_loop (F := fun next2 s => Qg l t Uh next2 s.1 s.2) l (fun x => decide (x.Tag < t)) (fun i j hi hj hij h => by have := hp i j hi hj hij; simp at h ⊢; omega) (Qu l t Uh)
  (fun next i j h hij hj => by
   obtain ⟨f1, f2⟩ := half (x := (i : Int) + j) (by omega)
   rw [show ((i : Int) + j) / 2 = (((i + j) / 2 : Nat) : Int) by omega] at f1 f2
   simp only [Qg]
   rw [cI, if_pos (by omega), Jy (by omega), Jb, f1, Jb, f2, Qz h, Jb, place1_eq, Jb, cI]
   by_cases hlt : l[(i + j) / 2].Tag < t
   ·rw [if_pos hlt, if_pos (by omega), Jy (by omega), Jb, if_pos (by simpa using hlt)]
   ·rw [if_neg hlt, if_neg (by split <;> omega), if_neg (by simpa using hlt)])
  (fun next i hi => by
   simp only [Qg]
   rw [cI, if_neg (by omega)])
 have hfix : W2 l t = Jr (Qu l t Uh k) fun t8 => some (t8.1, t8.2) := by
  unfold W2 Yg
  rw [h4]
 refine ⟨k, h1, ?_⟩
 unfold Qu at hfix
 rw [cI] at hfix
 have out : ∀ j (hj : j < l.length), l[j].Tag = t → k < l.length ∧ j = k := fun j hj e => by
  rcases Nat.lt_or_ge j k with h | h
  ·have := h2 j hj h; simp at this; omega
  ·rcases Nat.lt_or_ge k j with h' | h'
   ·have g3 := h3 k (by omega) (Nat.le_refl _); simp at g3
    have := hp k j (by omega) hj h'; omega
   ·exact ⟨by omega, by omega⟩
 rcases Nat.lt_or_ge k l.length with hk | hk
 ·rw [if_pos (by omega), Qz hk, Jb, place1_eq, Jb, Jb] at hfix
  by_cases he : l[k].Tag = t
  ·refine .inr ⟨hk, ?_, he⟩
   rw [hfix, if_neg (by omega), if_neg (by omega)]; rfl
  ·refine .inl ⟨?_, fun x hx e => ?_⟩
   ·rw [hfix]
    refine congrArg some (Prod.ext rfl (decide_eq_false ?_))
    split
    ·omega
    ·rw [if_pos (by omega)]; omega
   ·obtain ⟨j, hj, rfl⟩ := List.getElem_of_mem hx
    obtain ⟨_, rfl⟩ := out j hj e
    exact he e
 ·rw [if_neg (by omega), Jb] at hfix
  refine .inl ⟨hfix, fun x hx e => ?_⟩
  obtain ⟨j, hj, rfl⟩ := List.getElem_of_mem hx
  have := out j hj e
  omega
theorem ris_one {l : List T_tag_Entry} (hr : Ris l) {x y : T_tag_Entry} (hx : x ∈ l) (hy : y ∈ l) (h : x.Tag = y.Tag) : x = y := by
 obtain ⟨i, hi, rfl⟩ := List.getElem_of_mem hx
 obtain ⟨j, hj, rfl⟩ := List.getElem_of_mem hy
 have hp := List.pairwise_iff_getElem.1 hr
 rcases Nat.lt_trichotomy i j with h' | rfl | h'
 ·have := hp i j hi hj h'; omega
 ·rfl
 ·have := hp j i hj hi h'; omega
theorem dirOf2 {ls : List (List T_tag_Entry)} (t : Int) (h : 0 < ls.length) (hn : ls.length ≤ 20) : tag_dirOf ls [0, t] = some (some [0]) := by
 have g0 : Yp [(0 : Int), t] (0 : Int) = some 0 := Qz (xs := [(0 : Int), t]) (k := 0) (by simp)
 have g1 : Yp ls (0 : Int) = some ls[0] := Qz (k := 0) h
 have c1 : Yu [(0 : Int), t] 1 1 = some [] := rfl
 unfold tag_dirOf
 rw [cI, if_neg (by simp), g0, Jb, Jy (by omega), Jb, out_tag, Jb, cI, if_neg (by omega), g1, Jb, Jy (by simp), Jb]
 show Jr (Yu [(0 : Int), t] 1 1) _ = _
 rw [c1, Jb]; rfl
def fokD (K : Nat) (f : T_tag_File) : Prop := fileE f = 0 ∧ f.Dirs.length ≤ 20 ∧ ∀ l ∈ f.Dirs, okR 5 l ∧ szD 5 l ≤ K
theorem few_B {f : T_tag_File} (hn : f.Dirs.length ≤ 20) (h : ∀ l ∈ f.Dirs, szD 5 l ≤ 2000000) : fileB f := by
 refine ⟨h, ?_⟩
 have h1 : ∀ ls : List (List T_tag_Entry), (∀ l ∈ ls, szD 5 l ≤ 2000000) → (ls.map (szD 5)).sum ≤ ls.length * 2000000 := by
  intro ls
  induction ls with
  | nil => intro _; exact Nat.le_refl _
  | cons l ls ih =>
   intro h
   have h1 := ih fun x hx => h x (.tail _ hx)
   have h2 := h l (.head _)
   rw [List.map_cons, List.sum_cons, List.length_cons, Nat.add_mul]; omega
 have h1 := h1 f.Dirs h
 have h2 := Nat.mul_le_mul_right 2000000 hn
 rw [szL_eq]; omega
theorem fok_of {f : T_tag_File} {K : Nat} (he : fileE f = 0) (hs : ∀ l ∈ f.Dirs, szD 5 l ≤ K) : fokD K f := by
 have h0 := he
 unfold fileE at h0
 split at h0
 ·omega
 split at h0
 ·rename_i h1; exact absurd h0 h1
 rename_i hn h1
 exact ⟨he, by omega, fun l hl => ⟨dE_okR (firstD_ok (by simpa using h1) l hl), hs l hl⟩⟩
def small (v : T_tag_Value) : Prop := v.Text.length ≤ 3 ∧ v.Ints = [] ∧ v.Ratios.length ≤ 3 ∧ v.Entries = []
theorem put0 {f : T_tag_File} {t : Int} {v : T_tag_Value} {K : Nat} (hK : K ≤ 1900000) (hb : fileB f) (hs : ∀ l ∈ f.Dirs, szD 5 l ≤ K) (hd : 0 < f.Dirs.length) (hv : small v) :
  ∃ g e, tag_Put f [0, t] v = some (g, e) ∧ (e = 0 → fokD (K + 10) g ∧ ∃ h1 : 0 < g.Dirs.length, ⟨t, v⟩ ∈ g.Dirs[0] ∧ ∀ x ∈ f.Dirs[0], x.Tag ≠ t → x ∈ g.Dirs[0]) := by
 obtain ⟨v1, v2, v3, v4⟩ := hv
 have hvB : vB v := by unfold vB; rw [v2]; simp; omega
 have hz : szD 5 v.Entries ≤ 2000000 := by rw [v4]; exact Nat.zero_le _
 unfold tag_Put
 rw [Check_eq hb, Jb, cI]
 by_cases he0 : fileE f ≠ 0
 ·rw [if_pos he0]; exact ⟨_, _, rfl, fun h => absurd h he0⟩
 have he : fileE f = 0 := by omega
 have hne : ¬ fileE f ≠ 0 := fun x => x he
 rw [if_neg hne, CheckValue_eq hvB hz, Jb, cI]
 by_cases hw0 : valE v ≠ 0
 ·rw [if_pos hw0]; exact ⟨_, _, rfl, fun h => absurd h hw0⟩
 have hw : valE v = 0 := by omega
 have hnw : ¬ valE v ≠ 0 := fun x => x hw
 obtain ⟨_, hn, hok⟩ := fok_of he hs
 have hf8 : fitF 8 f := ⟨by omega, fun l hl => fits8 (hok l hl).1 (by have := (hok l hl).2; omega) (by omega)⟩
 have hv8 : fitV 8 v := ⟨by rw [v2]; simp, by omega, by rw [v4]; exact fits_nil 7⟩
 rw [if_neg hnw, if_pos ⟨hf8, hv8⟩, dirOf2 t hd hn, Jb]
 obtain ⟨⟨o1, o2, o3⟩, o4⟩ := hok _ (List.getElem_mem hd)
 have hg : getF [0] f.Dirs = f.Dirs[0] := by rw [getF, List.getElem?_eq_getElem hd]; rfl
 have hP : ∀ l', putF [0] f.Dirs l' = f.Dirs.set 0 l' := fun l' => by rw [putF, List.getElem?_eq_getElem hd]; rfl
 show ∃ g e, (Jr (W2 (getF [0] f.Dirs) t) _) = _ ∧ _
 rw [hg]
 have fin : ∀ l' : List T_tag_Entry, szD 5 l' ≤ K + 10 → ⟨t, v⟩ ∈ l' → (∀ x ∈ f.Dirs[0], x.Tag ≠ t → x ∈ l') →
   ∃ g e, tag_PutE [0] f l' = some (g, e) ∧ (e = 0 → fokD (K + 10) g ∧ ∃ h1 : 0 < g.Dirs.length, ⟨t, v⟩ ∈ g.Dirs[0] ∧ ∀ x ∈ f.Dirs[0], x.Tag ≠ t → x ∈ g.Dirs[0]) := fun l' q1 q2 q3 => by
  have hs' : ∀ l ∈ f.Dirs.set 0 l', szD 5 l ≤ K + 10 := fun l hl => by
   rcases List.mem_or_eq_of_mem_set hl with hl | rfl
   ·have := hs l hl; omega
   ·exact q1
  unfold tag_PutE
  rw [hP]
  have hb' : fileB ⟨f.Big, f.Dirs.set 0 l'⟩ := few_B (by simp only [List.length_set]; exact hn) fun l hl => by have := hs' l hl; omega
  rw [Check_eq hb', Jb, cI]
  by_cases hc : fileE ⟨f.Big, f.Dirs.set 0 l'⟩ = 0
  ·have hnc : ¬ fileE ⟨f.Big, f.Dirs.set 0 l'⟩ ≠ 0 := fun x => x hc
   rw [if_neg hnc]
   refine ⟨_, _, rfl, fun _ => ⟨fok_of hc hs', by simpa using hd, ?_, ?_⟩⟩
   ·simpa using q2
   ·simpa using q3
  ·rw [if_pos hc]; exact ⟨_, _, rfl, fun h => absurd h hc⟩
 have hx : szE 4 ⟨t, v⟩ ≤ 7 := by unfold szE; simp only; rw [v2, v4]; simp only [List.length_nil]; have : szD 4 [] = 0 := rfl; omega
 obtain ⟨k, hk, ⟨hf, hno⟩ | ⟨hk', hf, ht⟩⟩ := place_full f.Dirs[0] t o2 o1
 ·rw [hf, Jb, Qf]
  show ∃ g e, (Jr (gInsN 104 f.Dirs[0] (k : Int) _) _) = _ ∧ _
  rw [gInsN_ok (by omega), Jb]
  refine fin _ ?_ ?_ ?_
  ·have := szD_take 4 k f.Dirs[0]
   have h5 : szD (4 + 1) f.Dirs[0] ≤ K := o4
   unfold Zr
   rw [Int.toNat_natCast, szD_app, szD_app, Jas, szD_nil]
   omega
  ·unfold Zr; simp
  ·intro x hx _
   unfold Zr
   rw [Int.toNat_natCast]
   have : x ∈ f.Dirs[0].take k ++ f.Dirs[0].drop k := by rw [List.take_append_drop]; exact hx
   rcases List.mem_append.1 this with h | h
   ·exact List.mem_append.2 (.inl h)
   ·exact List.mem_append.2 (.inr (List.mem_append.2 (.inr h)))
 ·rw [hf, Jb, X0]
  show ∃ g e, (Jr (gSet f.Dirs[0] (k : Int) _) _) = _ ∧ _
  rw [U6 (by omega) (by simpa using hk'), Jb, Int.toNat_natCast]
  refine fin _ ?_ ?_ ?_
  ·have := szD_set 4 ⟨t, v⟩ f.Dirs[0] k hk'
   have h5 : szD (4 + 1) f.Dirs[0] ≤ K := o4
   have h6 : szD (4 + 1) (f.Dirs[0].set k ⟨t, v⟩) ≤ K + 10 := by omega
   exact h6
  ·exact List.mem_iff_getElem.2 ⟨k, by simpa using hk', by simp⟩
  ·intro x hx hne
   obtain ⟨j, hj, rfl⟩ := List.getElem_of_mem hx
   have : j ≠ k := fun e => hne (by subst e; exact ht)
   exact List.mem_iff_getElem.2 ⟨j, by simpa using hj, by rw [List.getElem_set_ne (Ne.symm this)]⟩
theorem get0 {g : T_tag_File} {t : Int} {v : T_tag_Value} {K : Nat} (hK : K ≤ 1900000) (hg : fokD K g) (hd : 0 < g.Dirs.length) (hm : ⟨t, v⟩ ∈ g.Dirs[0]) : tag_Get g [0, t] = some (v, 0) := by
 obtain ⟨he, hn, hok⟩ := hg
 have hb : fileB g := few_B hn fun l hl => by have := (hok l hl).2; omega
 unfold tag_Get
 rw [Check_eq hb, Jb, cI, if_neg (fun x => x he), dirOf2 t hd hn, Jb]
 obtain ⟨⟨o1, o2, o3⟩, o4⟩ := hok _ (List.getElem_mem hd)
 have hgF : getF [0] g.Dirs = g.Dirs[0] := by rw [getF, List.getElem?_eq_getElem hd]; rfl
 show Jr (W2 (getF [0] g.Dirs) t) _ = _
 rw [hgF]
 obtain ⟨k, hk, ⟨hf, hno⟩ | ⟨hk', hf, ht⟩⟩ := place_full g.Dirs[0] t o2 o1
 ·exact absurd rfl (hno _ hm)
 ·have e : g.Dirs[0][k] = ⟨t, v⟩ := ris_one o2 (List.getElem_mem hk') hm ht
  have hs : szE 4 ⟨t, v⟩ ≤ szD 5 g.Dirs[0] := szD_mem (d := 4) hm
  unfold szE at hs
  simp only at hs
  have hv : fitV 8 v := fitV8 (d := 4) (by omega) (o3 _ hm).1 (o3 _ hm).2 (by omega) (by omega) (by omega)
  rw [hf, Jb]
  show Ql false _ _ = _
  rw [Qf]
  show Jr (Yp g.Dirs[0] (k : Int)) _ = _
  rw [Qz hk', Jb, e, if_pos hv]
noncomputable def ratS3 (n : Int) : List T_tag_Ratio := [⟨n / 1000000, 1⟩, ⟨n % 1000000 * 60 / 1000000, 1⟩, ⟨n % 1000000 * 60 % 1000000 * 60 / 100, 10000⟩]
theorem ratios_ok {n : Int} (h : 0 ≤ n ∧ n ≤ 180000000) : tag_Ratios n = some (ratS3 n, 0) := by rw [Dg.ratios_eq, if_neg (by omega)]; rfl
theorem degrees_ok {n : Int} (h : 0 ≤ n ∧ n ≤ 180000000) : Ud (ratS3 n) = some (n, 0) := by
 unfold ratS3
 generalize hx0 : (⟨n / 1000000, 1⟩ : T_tag_Ratio) = x0
 generalize hx1 : (⟨n % 1000000 * 60 / 1000000, 1⟩ : T_tag_Ratio) = x1
 generalize hx2 : (⟨n % 1000000 * 60 % 1000000 * 60 / 100, 10000⟩ : T_tag_Ratio) = x2
 have k0 : Dg.okR x0 := by subst hx0; unfold Dg.okR; simp only; omega
 have k1 : Dg.okR x1 := by subst hx1; unfold Dg.okR; simp only; omega
 have k2 : Dg.okR x2 := by subst hx2; unfold Dg.okR; simp only; omega
 have hv : Dg.degV x0 x1 x2 = n := by
  subst hx0 hx1 hx2
  unfold Dg.degV Dg.dV
  simp only
  omega
 rw [Dg.tag_three, if_pos ⟨k0, k1, k2⟩, hv]; unfold Dg.endD; rw [if_neg (by omega)]
def inB (B : Int) (b : T_where_Box) : Prop := (-B ≤ b.South ∧ b.South ≤ B) ∧ (-B ≤ b.West ∧ b.West ≤ B) ∧ (-B ≤ b.North ∧ b.North ≤ B) ∧ (-B ≤ b.East ∧ b.East ≤ B)
theorem wout_eq (a b c : Int) : Z4 a b c = some (decide (a < b ∨ c < a)) := by
 unfold Z4
 rw [cI]
 by_cases h : a < b
 ·rw [if_pos h]; simp [h]
 ·rw [if_neg h]; simp [h]
theorem mid_bd {s n B : Int} (hs : -B ≤ s ∧ s ≤ B) (hn : -B ≤ n ∧ n ≤ B) : -B ≤ s + (n - s + 1).tdiv 2 ∧ s + (n - s + 1).tdiv 2 ≤ B + 1 := by
 have h := Int.mul_tdiv_add_tmod (n - s + 1) 2
 have h1 := Int.tmod_lt_of_pos (n - s + 1) (show (0 : Int) < 2 by omega)
 have h2 : -2 < (n - s + 1).tmod 2 := Int.lt_tmod_of_pos _ (by omega)
 omega
theorem quarter_ok {b : T_where_Box} {q B : Int} (hB : 0 ≤ B ∧ B ≤ 1000000000) (h : inB B b) (hq : 0 ≤ q ∧ q < 4) : ∃ c, V1 b q = some c ∧ inB (B + 1) c := by
 obtain ⟨h1, h2, h3, h4⟩ := h
 have m1 := mid_bd h1 h3
 have m2 := mid_bd h2 h4
 unfold V1
 rw [Jy (by omega), Jb, Jy (by omega), Jb, gQuo_ok (by omega) (by omega), Jb, Jy (by omega), Jb, Jy (by omega), Jb, Jy (by omega), Jb, gQuo_ok (by omega) (by omega), Jb, Jy (by omega), Jb]
 generalize b.South + (b.North - b.South + 1).tdiv 2 = s at m1 ⊢
 generalize b.West + (b.East - b.West + 1).tdiv 2 = w at m2 ⊢
 have j1 : ∀ x y : Int, (-(B + 1) ≤ x ∧ x ≤ B + 1) → (-(B + 1) ≤ y ∧ y ≤ B + 1) → ∃ c, Zi b q w x y = some c ∧ inB (B + 1) c := fun x y hx hy => by
  unfold Zi Vr
  rw [gRem_ok (by omega), Jb, cI]
  split
  ·exact ⟨_, rfl, by unfold inB; simp only; omega⟩
  ·rw [Jy (by omega), Jb]; exact ⟨_, rfl, by unfold inB; simp only; omega⟩
 rw [cI]
 split
 ·exact j1 _ _ (by omega) (by omega)
 ·rw [Jy (by omega), Jb]; exact j1 _ _ (by omega) (by omega)
theorem cell_ok (p : T_api_Place) (n : Int) : ∃ r, where_Cell p n = some r := by
 unfold where_Cell Yt where_isLat where_isLon
 rw [wout_eq, Jb, Jb]
 cases hA : decide (p.Lat < -90000000 ∨ 90000000 < p.Lat) with
 | true => exact ⟨_, rfl⟩
 | false =>
  show ∃ r, (Jr (Ql false _ _) _) = _
  rw [Qf, wout_eq, Jb, Jb]
  cases hB : decide (p.Lon < -180000000 ∨ 179999999 < p.Lon) with
  | true => exact ⟨_, rfl⟩
  | false =>
   show ∃ r, (Jr (Ql false _ _) _) = _
   rw [Qf, Jb, cI, if_neg (by simp), wout_eq, Jb, cI]
   by_cases hn : n < 0 ∨ 24 < n
   ·rw [if_pos hn]; exact ⟨_, rfl⟩
   rw [if_neg hn]
   unfold where_whole
   rw [Jb]
   have key : ∀ (m x : Nat) (A : Nat → Int) (b : T_where_Box), (x : Int) + m = n → inB (200000000 + x) b → ∃ r, V8 (fun next2 s => Z6 p n next2 s.1 s.2.1 s.2.2.1 s.2.2.2.1 s.2.2.2.2.1 s.2.2.2.2.2) ((x : Int), A, b.South, b.West, b.North, b.East) = some r := by
    intro m
    induction m with
    | zero =>
     intro x A b hx hb
     refine ⟨(Z8 ((List.range n.toNat).map A), 0), Qb fun next => ?_⟩
     show Z6 p n next (x : Int) A b.South b.West b.North b.East = _
     unfold Z6
     rw [cI, if_neg (by omega)]
     unfold where_Cell_j1
     rw [gCutA_ok (by omega), Jb]
    | succ m ih =>
     intro x A b hx hb
     have q4 : ∀ (k q : Nat), q + k = 4 → ∃ A' b', inB (200000000 + (x + 1 : Nat)) b' ∧ ∀ next, V8 (fun next4 s => Va p (x : Int) A b.South b.West b.North b.East next next4 s) (q : Int) = next (((x + 1 : Nat) : Int), A', b'.South, b'.West, b'.North, b'.East) := by
      intro k
      induction k with
      | zero =>
       intro q hq
       refine ⟨A, b, by unfold inB at hb ⊢; omega, fun next => Qb fun next4 => ?_⟩
       show Va p (x : Int) A b.South b.West b.North b.East next next4 (q : Int) = _
       unfold Va
       rw [cI, if_neg (by omega)]
       unfold U0
       rw [Jy (by omega), Jb]; rfl
      | succ k ihk =>
       intro q hq
       obtain ⟨c, hc, hcB⟩ := quarter_ok (B := 200000000 + x) (q := (q : Int)) (by omega) hb (by omega)
       obtain ⟨A', b', i1, i2⟩ := ihk (q + 1) (by omega)
       have hd : ∀ next next4, Va p (x : Int) A b.South b.West b.North b.East next next4 (q : Int) = if (p.Lat < c.South ∨ c.North < p.Lat) ∨ (p.Lon < c.West ∨ c.East < p.Lon) then next4 ((q + 1 : Nat) : Int) else next (((x + 1 : Nat) : Int), Zh A x (wU8 (48 + (q : Int))), c.South, c.West, c.North, c.East) := fun next next4 => by
        unfold Va
        rw [cI, if_pos (by omega)]
        show Jr (V1 b (q : Int)) _ = _
        rw [hc, Jb, wout_eq, Jb]
        have j5 : U5 (q : Int) next4 = next4 ((q + 1 : Nat) : Int) := by unfold U5; rw [Jy (by omega), Jb]; rfl
        by_cases a1 : p.Lat < c.South ∨ c.North < p.Lat
        ·rw [decide_eq_true a1, if_pos (.inl a1)]
         show Ql false _ _ = _
         rw [Qf, j5]
        ·rw [decide_eq_false a1]
         show Ql true _ _ = _
         rw [X0, wout_eq, Jb]
         by_cases a2 : p.Lon < c.West ∨ c.East < p.Lon
         ·rw [decide_eq_true a2, if_pos (.inr a2)]
          show Ql false _ _ = _
          rw [Qf, j5]
         ·rw [decide_eq_false a2, if_neg (fun h => h.elim a1 a2)]
          show Ql true _ _ = _
          rw [X0, Jy (by omega), Jb, gIx_nat (by omega), Jb]
          unfold U0
          rw [Jy (by omega), Jb]; rfl
       by_cases hin : (p.Lat < c.South ∨ c.North < p.Lat) ∨ (p.Lon < c.West ∨ c.East < p.Lon)
       ·refine ⟨A', b', i1, fun next => (Q0 ((q + 1 : Nat) : Int) fun next4 => ?_).trans (i2 next)⟩
        rw [hd, if_pos hin]
       ·refine ⟨_, c, ?_, fun next => Qb fun next4 => by rw [hd, if_neg hin]⟩
        unfold inB at hcB ⊢; omega
     obtain ⟨A', b', i1, i2⟩ := q4 4 0 (by omega)
     obtain ⟨r, hr⟩ := ih (x + 1) A' b' (by omega) i1
     refine ⟨r, (Q0 (((x + 1 : Nat) : Int), A', b'.South, b'.West, b'.North, b'.East) fun next => ?_).trans hr⟩
     show Z6 p n next (x : Int) A b.South b.West b.North b.East = _
     unfold Z6
     rw [cI, if_pos (by omega)]
     exact i2 next
   exact key n.toNat 0 (fun _ => 0) ⟨-90000000, -180000000, 90000000, 179999999⟩ (by omega) (by unfold inB; simp only; omega)
end Go.M

/- TopCarried, in plain Lean: the law. Conditions: sizes. -/
namespace Go.M
open Go.Md Go.Pl
set_option linter.unusedVariables false
theorem awakeW : Jap = some true := by
 have h : Zd 0 = some [48, 46, 48, 48, 48, 48, 48, 48] := by
  have hi : gItoa 0 = some [48] := by
   unfold gItoa
   rw [if_pos (by omega)]
   refine congrArg some ?_
   unfold itoaL
   rw [if_neg (by omega)]
   show decD 0 = _
   rw [decD]; rfl
  unfold Zd
  rw [cI, if_neg (by omega)]
  unfold Ul
  have h1 : gRem 0 1000000 = some 0 := rfl
  have h2 : gQuo 0 1000000 = some 0 := rfl
  simp only [h1, h2, hi, Jb]
  rfl
 unfold Jap where_PlaceText
 have hc : Yt ⟨0, 0⟩ = some 0 := rfl
 rw [hc, Jb, cI, if_neg (fun x => x rfl), h, Jb]
 rfl
noncomputable def valD (n : Int) : T_tag_Value := ⟨5, [], [], ratS3 (max n (-n)), []⟩
def sgnD (n : Int) : T_tag_Value := ⟨2, if n < 0 then [45] else [43], [], [], []⟩
theorem small_val (n : Int) : small (valD n) := ⟨by simp [valD], rfl, by simp [valD, ratS3], rfl⟩
theorem small_sgn (n : Int) : small (sgnD n) := ⟨by unfold sgnD; simp only; split <;> simp, rfl, by simp [sgnD], rfl⟩
theorem put_two {f : T_tag_File} {K : Nat} (hK : K ≤ 1800000) (hb : fileB f) (hs : ∀ l ∈ f.Dirs, szD 5 l ≤ K) (hd : 0 < f.Dirs.length) (x : Nat) (hx : x < 2) (n : Int) {txt : List UInt8} (ht : txt = if n < 0 then [45] else [43]) :
  (∀ next, X8 (x : Int) f.Big f.Dirs next (ratS3 (max n (-n)), 0) txt = some true) ∨ ∃ g, fokD (K + 20) g ∧ ∃ h1 : 0 < g.Dirs.length, (⟨2 + 2 * (x : Int), valD n⟩ : T_tag_Entry) ∈ g.Dirs[0] ∧ (⟨1 + 2 * (x : Int), sgnD n⟩ : T_tag_Entry) ∈ g.Dirs[0] ∧
   (∀ y ∈ f.Dirs[0], y.Tag ≠ 2 + 2 * (x : Int) → y.Tag ≠ 1 + 2 * (x : Int) → y ∈ g.Dirs[0]) ∧ ∀ next, X8 (x : Int) f.Big f.Dirs next (ratS3 (max n (-n)), 0) txt = next (((x + 1 : Nat) : Int), g.Big, g.Dirs) := by
 obtain ⟨g1, e1, hp1, hq1⟩ := put0 (t := 2 + 2 * (x : Int)) (K := K) (by omega) hb hs hd (small_val n)
 have s1 : ∀ next, X8 (x : Int) f.Big f.Dirs next (ratS3 (max n (-n)), 0) txt = if e1 ≠ 0 then some true else Jr (tag_Put g1 ([0, 1 + 2 * (x : Int)] : List Int) (⟨2, txt, [], [], []⟩ : T_tag_Value)) fun t86 => Ql (decide (t86.2 ≠ 0)) (some true) (next (((x + 1 : Nat) : Int), t86.1.Big, t86.1.Dirs)) := fun next => by
  unfold X8
  rw [Jy (by omega), Jb, Jy (by omega), Jb]
  show Jr (tag_Put f [0, 2 + 2 * (x : Int)] (valD n)) _ = _
  rw [hp1, Jb, cI]
  split
  ·rfl
  ·simp only [Jy (x := 2 * (x : Int)) (by omega), Jy (x := 1 + 2 * (x : Int)) (by omega), Jy (x := (x : Int) + 1) (by omega), Jb]
   rfl
 by_cases h0 : e1 ≠ 0
 ·exact .inl fun next => by rw [s1, if_pos h0]
 obtain ⟨⟨a1, a2, a3⟩, d1, m1, k1⟩ := hq1 (by omega)
 have hb1 : fileB g1 := few_B a2 fun l hl => by have := (a3 l hl).2; omega
 obtain ⟨g2, e2, hp2, hq2⟩ := put0 (t := 1 + 2 * (x : Int)) (K := K + 10) (by omega) hb1 (fun l hl => (a3 l hl).2) d1 (small_sgn n)
 have s2 : ∀ next, X8 (x : Int) f.Big f.Dirs next (ratS3 (max n (-n)), 0) txt = if e2 ≠ 0 then some true else next (((x + 1 : Nat) : Int), g2.Big, g2.Dirs) := fun next => by
  rw [s1, if_neg h0, ht]
  show Jr (tag_Put g1 [0, 1 + 2 * (x : Int)] (sgnD n)) _ = _
  rw [hp2, Jb, cI]
 by_cases h2 : e2 ≠ 0
 ·exact .inl fun next => by rw [s2, if_pos h2]
 obtain ⟨b1, d2, m2, k2⟩ := hq2 (by omega)
 refine .inr ⟨g2, b1, d2, k2 _ m1 (by simp only; omega), m2, fun y hy n1 n2 => k2 _ (k1 _ hy n1) n2, fun next => by rw [s2, if_neg h2]⟩
theorem stepC (a0 : List UInt8) (a2 : T_api_Place) (a3 : Int) {f : T_tag_File} {K : Nat} (hK : K ≤ 1800000) (hb : fileB f) (hs : ∀ l ∈ f.Dirs, szD 5 l ≤ K) (hd : 0 < f.Dirs.length) (x : Nat) (hx : x < 2) (n : Int) (hg : Yp [a2.Lat, a2.Lon] (x : Int) = some n) (hn : -180000000 ≤ n ∧ n ≤ 180000000) :
  (∀ next, X6 a0 a2 a3 next (x : Int) f.Big f.Dirs = some true) ∨ ∃ g, fokD (K + 20) g ∧ ∃ h1 : 0 < g.Dirs.length, (⟨2 + 2 * (x : Int), valD n⟩ : T_tag_Entry) ∈ g.Dirs[0] ∧ (⟨1 + 2 * (x : Int), sgnD n⟩ : T_tag_Entry) ∈ g.Dirs[0] ∧
   (∀ y ∈ f.Dirs[0], y.Tag ≠ 2 + 2 * (x : Int) → y.Tag ≠ 1 + 2 * (x : Int) → y ∈ g.Dirs[0]) ∧ ∀ next, X6 a0 a2 a3 next (x : Int) f.Big f.Dirs = next (((x + 1 : Nat) : Int), g.Big, g.Dirs) := by
 have e : ∀ next, X6 a0 a2 a3 next (x : Int) f.Big f.Dirs = X8 (x : Int) f.Big f.Dirs next (ratS3 (max n (-n)), 0) (if n < 0 then [45] else [43]) := fun next => by
  unfold X6
  rw [cI, if_pos (by omega), hg, Jb, Jy (by omega), Jb, ratios_ok (by omega), Jb, cI, if_neg (fun h => h rfl), cI]
  split <;> rfl
 rcases put_two hK hb hs hd x hx n (txt := if n < 0 then [45] else [43]) rfl with h | ⟨g, h1, h2, h3, h4, h5, h6⟩
 ·exact .inl fun next => by rw [e, h]
 ·exact .inr ⟨g, h1, h2, h3, h4, h5, fun next => by rw [e, h6]⟩
theorem readC (a2 : T_api_Place) (a3 : Int) {g : T_tag_File} {K : Nat} (hK : K ≤ 1900000) (hg : fokD K g) (hd : 0 < g.Dirs.length) (x : Nat) (hx : x < 2) (n : Int) (hat : Yp [a2.Lat, a2.Lon] (x : Int) = some n) (hn : -180000000 ≤ n ∧ n ≤ 180000000)
  (m1 : (⟨2 + 2 * (x : Int), valD n⟩ : T_tag_Entry) ∈ g.Dirs[0]) (m2 : (⟨1 + 2 * (x : Int), sgnD n⟩ : T_tag_Entry) ∈ g.Dirs[0]) (next : Int × List Int → Option Bool) :
  Y1 a2 a3 (g, 0) next (x : Int) [a2.Lat, a2.Lon] = next (((x + 1 : Nat) : Int), [a2.Lat, a2.Lon]) := by
 have hdeg : Ud (valD n).Ratios = some (max n (-n), 0) := degrees_ok (by omega)
 have hset : ∀ m, gSet [a2.Lat, a2.Lon] (x : Int) m = some ([a2.Lat, a2.Lon].set x m) := fun m => by rw [U6 (by omega) (by simp; omega), Int.toNat_natCast]
 have hx2 : x < [a2.Lat, a2.Lon].length := by simpa using hx
 have hxx : [a2.Lat, a2.Lon][x] = n := by
  rw [Qz hx2] at hat
  exact Option.some.inj hat
 have hback : [a2.Lat, a2.Lon].set x n = [a2.Lat, a2.Lon] := by
  refine List.ext_getElem (by simp) fun i h1 h2 => ?_
  by_cases hi : x = i
  ·subst hi; simp [hxx]
  ·rw [List.getElem_set_ne hi]
 unfold Y1
 rw [cI, if_pos (by omega), Jy (by omega), Jb, Jy (by omega), Jb]
 show Jr (tag_Get g [0, 2 + 2 * (x : Int)]) _ = _
 rw [get0 hK hg hd m1, Jb, Jb, Jy (by omega), Jb]
 show Jr (tag_Get g [0, 1 + 2 * (x : Int)]) _ = _
 rw [get0 hK hg hd m2, Jb, cI, if_neg (fun h => h rfl), cI, if_neg (fun h => h rfl)]
 show Jr (Ud (valD n).Ratios) _ = _
 rw [hdeg, Jb, cI, if_neg (fun h => h rfl), hat, Jb, hset, Jb, cI]
 have j4 : ∀ l y b, Vu (x : Int) next y b l = next (((x + 1 : Nat) : Int), l) := fun l y b => by
  unfold Vu
  rw [Jy (by omega), Jb]; rfl
 have hl2 : x < ([a2.Lat, a2.Lon].set x (max n (-n))).length := by simpa using hx
 by_cases hneg : n < 0
 ·have ht : (sgnD n).Text = [45] := by unfold sgnD; simp only; rw [if_pos hneg]
  rw [if_pos ht, Jy (by omega), Jb, Qz hl2, Jb, U6 (by omega) (by simpa using hl2), Jb, j4, Int.toNat_natCast, List.set_set]
  have : -(max n (-n)) = n := by omega
  rw [this, hback]
 ·have ht : ¬ (sgnD n).Text = [45] := by unfold sgnD; simp only; rw [if_neg hneg]; decide
  rw [if_neg ht, j4]
  have : max n (-n) = n := by omega
  rw [this, hback]
theorem tagCarried (a0 : List UInt8) (f : T_tag_File) (p : T_api_Place) (level : Int) (hs : ∀ l ∈ f.Dirs, szD 5 l ≤ 1048576) (hb : fileB f) : Jai a0 f p level = some true := by
 unfold Jai
 rw [awakeW, Jb]
 show Ql false _ _ = _
 rw [Qf]
 have hcp : Yt p = some (if (p.Lat < -90000000 ∨ 90000000 < p.Lat) ∨ (p.Lon < -180000000 ∨ 179999999 < p.Lon) then 2 else 0) := by
  unfold Yt where_isLat where_isLon
  rw [wout_eq, Jb, Jb]
  by_cases h1 : p.Lat < -90000000 ∨ 90000000 < p.Lat
  ·rw [decide_eq_true h1, if_pos (.inl h1)]; rfl
  ·rw [decide_eq_false h1]
   show Ql false _ _ = _
   rw [Qf, wout_eq, Jb, Jb]
   by_cases h2 : p.Lon < -180000000 ∨ 179999999 < p.Lon
   ·rw [decide_eq_true h2, if_pos (.inr h2)]; rfl
   ·rw [decide_eq_false h2, if_neg (fun h => h.elim h1 h2)]; rfl
 rw [hcp, Jb, cI]
 by_cases hp : (p.Lat < -90000000 ∨ 90000000 < p.Lat) ∨ (p.Lon < -180000000 ∨ 179999999 < p.Lon)
 ·rw [if_pos hp, if_pos (by omega)]
 rw [if_neg hp, if_neg (fun h => h rfl), cI]
 by_cases hd0 : (f.Dirs.length : Int) = 0
 ·rw [if_pos hd0]
 rw [if_neg hd0]
 have hd : 0 < f.Dirs.length := by omega
 have g0 : Yp [p.Lat, p.Lon] ((0 : Nat) : Int) = some p.Lat := Qz (xs := [p.Lat, p.Lon]) (k := 0) (by simp)
 have g1 : Yp [p.Lat, p.Lon] ((1 : Nat) : Int) = some p.Lon := Qz (xs := [p.Lat, p.Lon]) (k := 1) (by simp)
 rcases stepC a0 p level (K := 1048576) (by omega) hb hs hd 0 (by omega) p.Lat g0 (by omega) with h | ⟨f1, k1, d1, m2, m1, keep1, n1⟩
 ·exact Qb fun next => h next
 refine (Q0 (((0 + 1 : Nat) : Int), f1.Big, f1.Dirs) fun next => n1 next).trans ?_
 have hb1 : fileB f1 := few_B k1.2.1 fun l hl => by have := (k1.2.2 l hl).2; omega
 rcases stepC a0 p level (K := 1048576 + 20) (by omega) hb1 (fun l hl => (k1.2.2 l hl).2) d1 1 (by omega) p.Lon g1 (by omega) with h | ⟨f2, k2, d2, m4, m3, keep2, n2⟩
 ·exact Qb fun next => h next
 refine (Q0 (((1 + 1 : Nat) : Int), f2.Big, f2.Dirs) fun next => n2 next).trans ?_
 have m2' := keep2 _ m2 (by simp only; omega) (by simp only; omega)
 have m1' := keep2 _ m1 (by simp only; omega) (by simp only; omega)
 have hb2 : fileB f2 := few_B k2.2.1 fun l hl => by have := (k2.2.2 l hl).2; omega
 refine Qb fun next => ?_
 show X6 a0 p level next ((1 + 1 : Nat) : Int) f2.Big f2.Dirs = _
 unfold X6
 rw [cI, if_neg (by omega)]
 unfold Jah
 show Jr (Wd a0 f2) _ = _
 obtain ⟨a, e, hw, hc⟩ := with_eq hb2 a0
 rw [hw, Jb, cI]
 rcases hc with ⟨h0, _⟩ | ⟨h0, he, gs, t, gs', hok, hok', _, _, _, ha, hal, hgl', k, hk, hpg, hlow, _⟩
 ·rw [if_pos h0]
 have hM : Up a = some (f2, 0) := by rw [ha]; exact read_it hb2 he hok' (by rw [← ha]; exact hal) hgl' hk hpg hlow
 rw [if_neg (by simp [h0])]
 show Jr (Up a) _ = _
 rw [hM, Jb, cI, if_neg (fun h => h rfl)]
 obtain ⟨r, hr⟩ := cell_ok p level
 have r0 := readC p level (by omega) k2 d2 0 (by omega) p.Lat g0 (by omega) m2' m1'
 have r1 := readC p level (by omega) k2 d2 1 (by omega) p.Lon g1 (by omega) m4 m3
 refine (Q0 (((0 + 1 : Nat) : Int), [p.Lat, p.Lon]) fun next => r0 next).trans ?_
 refine (Q0 (((1 + 1 : Nat) : Int), [p.Lat, p.Lon]) fun next => r1 next).trans (Qb fun next => ?_)
 show Y1 p level (f2, 0) next ((1 + 1 : Nat) : Int) [p.Lat, p.Lon] = _
 unfold Y1
 rw [cI, if_neg (by omega)]
 unfold Jao
 have g0' : Yp [p.Lat, p.Lon] (0 : Int) = some p.Lat := g0
 have g1' : Yp [p.Lat, p.Lon] (1 : Int) = some p.Lon := g1
 rw [g0', Jb, g1', Jb, hr, Jb, Jb]
 have : Jat ⟨p.Lat, p.Lon⟩ p = true := by unfold Jat; simp
 rw [this, X0, decide_eq_true rfl, X0, decide_eq_true rfl]
def fileC (f : T_tag_File) : Prop := fileB f ∧ ∀ l ∈ f.Dirs, szD 5 l ≤ 1048576
theorem fileC_of {f : T_tag_File} (h1 : f.Dirs.length ≤ 1048576) (h2 : (f.Dirs.map (szD 5)).sum ≤ 1048576) : fileC f := ⟨fileB_of h1 h2, fun l hl => by have := sz_in hl; omega⟩
theorem topCarriedS (a0 : List UInt8) (f : T_tag_File) (p : T_api_Place) (level : Int) {P Q R : Prop} (_ : P) (hf : fileC f) (_ : Q) (_ : R) : Jai a0 f p level = some true := tagCarried a0 f p level hf.2 hf.1
end Go.M

/- Tables among the package's variables, out of a card's condition. Conditions: none. -/
namespace Go.Lx
open Go Go.Vc Go.Md
theorem tab_vars {P : Program} {W : World} {name : String} {k : IntKind} {zs : List Int} {g : Nat} {t e : TypeId} {n : Nat}
  (hg : P.globalNamed name = some g) (hty : (P.globals[g]?).map (·.type) = some t) (ht : P.underlying t = some (.array n e)) (he : P.underlying e = some (.int k)) (hce : P.cellsOf e = 1) (hct : P.cellsOf t = n) :
  ∀ (l : List (String × DataW Unit)) (ps : List MemPlace) (i : Nat), DataW.LaidVars P W l ps → l[i]? = some (name, Lib.tabData k zs) → Lib.TabIs P W name k zs
 | [], _, i, _, h => by simp at h
 | (n', d) :: r, ps, 0, hv, h => by
  simp only [List.getElem?_cons_zero, Option.some.injEq, Prod.mk.injEq] at h
  obtain ⟨rfl, rfl⟩ := h
  obtain ⟨g', t', cs, fuel, p, q, hg', ht', hvar, hd, _, _⟩ := hv
  obtain rfl := Option.some.inj (hg.symm.trans hg')
  obtain rfl := Option.some.inj (hty.symm.trans ht')
  unfold Lib.TabIs
  rw [hvar, ← Lib.cells_of_tab ht he hce hct hd]
 | _ :: r, ps, i + 1, hv, h => by
  obtain ⟨_, _, _, _, _, q, _, _, _, _, h2, _⟩ := hv
  exact tab_vars hg hty ht he hce hct r q i h2 (by simpa using h)
theorem tab_at {P : Program} {W : World} {name : String} {k : IntKind} {zs : List Int} {g : Nat} {t e : TypeId} {n : Nat} {l : List (String × DataW Unit)} (i : Nat)
  (hg : P.globalNamed name = some g) (hty : (P.globals[g]?).map (·.type) = some t) (ht : P.underlying t = some (.array n e)) (he : P.underlying e = some (.int k)) (hce : P.cellsOf e = 1) (hct : P.cellsOf t = n)
  (hL : laidMetH P l W) (hp : (l.all fun x => x.2.handleName?.isNone) = true) (hi : l[i]? = some (name, Lib.tabData k zs)) : TabH P (fun b => W.heap[b]?) name k zs := by
 rw [MakeChecks.laidMetH_plain _ _ _ hp] at hL
 obtain ⟨ps, hv, _⟩ := hL
 exact tabH_of (tab_vars hg hty ht he hce hct l ps i hv hi)
end Go.Lx

/- What a claim says of a call's arguments, as rows: slices, arrays, structs, strings. Conditions: none. -/
namespace Go.Vc
open Go
variable {H : Type} {enc : TypeId × Value → H} {P : Program} {w : World} {base : Nat} {spare : Nat → Bool} {held : Bool}
theorem Wo {w : World} {base k : Nat} {a : Addr} {cs : List Value} (h : w.cells? base a k = some cs) : cs.length = k ∧ ∀ i, i < k → w.cell? (a.add i) = cs[i]? :=
 (World.cells?_some h).2
theorem cell_spot {w : World} {a : Addr} {v : Value} (h : w.cell? a = some v) : a.spot = none := by
 unfold World.cell? at h
 split at h
 ·split at h
  ·cases h
  ·rename_i hs; simpa using hs
 ·cases h
theorem op_int {t fuel : Nat} {k : IntKind} {cs : List Value} {x : DataW H × List MemPlace} (ht : P.underlying t = some (.int k)) (h : DataW.trod enc P w base spare held fuel t cs = some x) : ∃ n : Int, cs = [.int k n] ∧ (Lit.int k n).wf = true := by
 obtain ⟨n, h1, _, h2⟩ := DataW.trod_int ht h
 exact ⟨n, h1, h2⟩
theorem op_bool {t fuel : Nat} {cs : List Value} {x : DataW H × List MemPlace} (ht : P.underlying t = some .bool) (h : DataW.trod enc P w base spare held fuel t cs = some x) : ∃ b : Bool, cs = [.bool b] := by
 obtain ⟨n, h1, _⟩ := DataW.trod_bool ht h
 exact ⟨n, h1⟩
end Go.Vc

/- What a claim says of a call's arguments, as values of plain types: parts of structs, arrays, slices. Conditions: none. -/
namespace Go.Lx
open Go Go.Vc Go.Md
variable {H : Type} {enc : TypeId × Value → H} {P : Program} {w : World} {base : Nat} {spare : Nat → Bool} {held : Bool}
theorem piece {cs l : List Value} {o s : Nat} (h : (cs.drop o).take s = l) (hl : l.length = s) : cs.drop o = l ++ cs.drop (o + s) := by
 have := List.take_append_drop s (cs.drop o)
 rw [h, List.drop_drop] at this
 exact this.symm
theorem Row.snap {w : World} {a : Option Addr} {sz : Nat} {xs : List (List Value)} (h : Row w a sz xs) (hsz : 0 < sz) : RowH (fun b => w.heap[b]?) a sz xs := by
 rcases h with h | ⟨b, off, ha, h⟩
 ·exact .inl h
 ·cases xs with
  | nil => exact .inl rfl
  | cons x r =>
   have h0 := h 0 x rfl
   have hv := h0.2 0 x[0] (by simp [h0.1, hsz])
   unfold World.cell? at hv
   split at hv
   ·rename_i c T m hb
    refine .inr ⟨b, off, c, T, m, ha, hb, fun i y hy => ⟨(h i y hy).1, fun j v hj => ?_⟩⟩
    have := (h i y hy).2 j v hj
    unfold World.cell? at this
    rw [hb] at this
    simpa using this
   ·cases hv
theorem val_struct {r : Reach} {b0 t : Nat} {v : Value} {fs : Array Field} (ht : P.underlying t = some (.struct fs)) (hval : Value.okWide P w r b0 t v) : ∃ cs : List Value, v = .agg cs.toArray ∧ v.cells.toList = cs ∧ cs.length = P.cellsOf t := by
 unfold Value.okWide at hval
 rw [ht] at hval
 obtain ⟨cs, rfl, h, _⟩ := hval; exact ⟨cs.toList, by simp, rfl, by simpa using h⟩
theorem val_cell {r : Reach} {b0 t : Nat} {v : Value} (ht : (match P.underlying t with | some (.int _) | some (.slice _) | some .string | some .bool => true | _ => false) = true) (hval : Value.okWide P w r b0 t v) : v.cells.toList = [v] := by
 unfold Value.okWide at hval
 split at hval
 ·rename_i h; rw [h] at ht; cases ht
 ·rename_i h; rw [h] at ht; cases ht
 ·cases v with
  | agg cs =>
   exfalso
   unfold Cell.okWide at hval
   split at ht <;> simp_all [Cell.ok]
  | _ => rfl
end Go.Lx

/- What a claim says of a call's arguments, where their bulk is bounded. Conditions: none. -/
namespace Go.Vc
open Go Go.Lx
variable {H : Type} {enc : TypeId × Value → H} {P : Program} {w : World} {base : Nat} {spare : Nat → Bool} {held : Bool}
structure BK (bk : DataW H → Nat) : Prop where
 slice : ∀ (es rs : List (DataW H)) (d : DataW H), d ∈ es → bk d ≤ bk (.slice es rs)
 agg : ∀ (es : List (DataW H)) (d : DataW H), d ∈ es → bk d ≤ bk (.agg es)
 str : ∀ bs : List UInt8, bs.length ≤ bk (.lit (.string bs))
theorem op_stringB {bk : DataW H → Nat} (K : BK bk) {t fuel : Nat} {cs : List Value} {x : DataW H × List MemPlace} (ht : P.underlying t = some .string) (h : DataW.trod enc P w base spare held fuel t cs = some x) : ∃ s : List UInt8, cs = [str s] ∧ s.length ≤ 9223372036854775807 ∧ s.length ≤ bk x.1 := by
 obtain ⟨s, h1, h3, h2⟩ := DataW.trod_string ht h
 refine ⟨s.data.toList, by rw [h1], ?_, ?_⟩
 ·have e : s.data.toList.length = s.size := by rw [Array.length_toList]; rfl
  rw [e]
  unfold maxLen at h2
  omega
 ·rw [h3]; exact K.str _
theorem op_fieldB {bk : DataW H → Nat} (K : BK bk) {t fuel i ft fo sz bo : Nat} {nm tg pk : String} {em : Bool} {fs : Array Field} {cs : List Value} {x : DataW H × List MemPlace} (ht : P.underlying t = some (.struct fs)) (hf : fs[i]? = some ⟨nm, ft, fo, em, tg, pk, bo⟩) (hc : P.cellsOf ft = sz) (h : DataW.trod enc P w base spare held fuel t cs = some x) :
  ∃ n y, DataW.trod enc P w base spare held n ft ((cs.drop fo).take sz) = some y ∧ bk y.1 ≤ bk x.1 := by
 subst hc
 obtain ⟨xs, n, _, hx, _, hl, hp⟩ := DataW.trod_struct ht h
 have h1 := hp i _ hf
 have hi : i < fs.size := by
  rcases Nat.lt_or_ge i fs.size with h | h
  ·exact h
  ·rw [Array.getElem?_eq_none h] at hf; cases hf
 rw [List.getElem?_eq_getElem (by omega)] at h1
 refine ⟨n, _, h1, ?_⟩
 rw [hx]
 exact K.agg _ _ (List.mem_map.2 ⟨_, List.getElem_mem _, rfl⟩)
theorem op_sliceB {bk : DataW H → Nat} (K : BK bk) {B : Nat} {α : Type} {f : α → List Value} {good : α → Prop} {t e sz fuel : Nat} {cs : List Value} {x : DataW H × List MemPlace} (hB : bk x.1 ≤ B) (ht : P.underlying t = some (.slice e)) (hc : P.cellsOf e = sz) (hsz : Nat.blt 0 sz = true)
  (hD : ∀ n cs x, bk x.1 ≤ B → cs.length = sz → DataW.trod enc P w base spare held n e cs = some x → ∃ a, cs = f a ∧ good a) (h : DataW.trod enc P w base spare held fuel t cs = some x) :
  ∃ (v : Value) (xs : List α), cs = [v] ∧ FrS (fun b => w.heap[b]?) sz v (xs.map f) ∧ xs.length ≤ 9223372036854775807 ∧ ∀ x ∈ xs, good x := by
 have h' := h
 rcases DataW.trod_slice ht h with ⟨rfl, _⟩ | ⟨a, len, cap, elems, rest, n, _, rfl, hx, _, hl, hm, hlen, hel, _⟩
 ·exact ⟨_, [], rfl, FrS.nil _ _, by simp, by simp⟩
 ·-- the elements, and no others
  have each : ∀ i : Fin len, ∃ a' : α, w.cells? base (a.add (i * sz)) sz = some (f a') ∧ good a' := by
   intro i
   have hi := hel i i.2
   rw [hc] at hi
   have hlt : (i : Nat) < elems.length := by rw [hlen]; exact i.2
   rw [List.getElem?_eq_getElem hlt, Option.bind_eq_some_iff] at hi
   obtain ⟨cs', h1, h2⟩ := hi
   have hb : bk (elems[(i : Nat)]).1 ≤ B := by
    refine Nat.le_trans ?_ hB
    rw [hx]
    exact K.slice _ _ _ (List.mem_map.2 ⟨_, List.getElem_mem _, rfl⟩)
   obtain ⟨a', rfl, hg⟩ := hD _ _ _ hb (Wo h1).1 h2
   exact ⟨a', h1, hg⟩
  have hsz' : 0 < sz := by simpa using hsz
  have hch : ∃ g : Fin len → α, ∀ i : Fin len, w.cells? base (a.add (i * sz)) sz = some (f (g i)) ∧ good (g i) := ⟨fun i => (each i).choose, fun i => (each i).choose_spec⟩
  obtain ⟨g, hg⟩ := hch
  have hrow : Row w (some a) sz ((List.ofFn g).map f) := by
   cases len with
   | zero => left; simp
   | succ k =>
    have h0 := hg 0
    have hsp : a.spot = none := by
     have := (Wo h0.1).2 0 hsz'
     have hln := (Wo h0.1).1
     rw [List.getElem?_eq_getElem (by omega)] at this
     have hs := cell_spot this
     simpa [Addr.add] using hs
    obtain ⟨b, off, spot⟩ := a
    simp only at hsp
    subst hsp
    refine .inr ⟨b, off, rfl, fun i x hx => ?_⟩
    have hi : i < k + 1 := by
     rcases Nat.lt_or_ge i (k + 1) with h | h
     ·exact h
     ·rw [List.getElem?_eq_none (by simpa using h)] at hx; cases hx
    have hx' : x = f (g ⟨i, hi⟩) := by
     rw [List.getElem?_map, List.getElem?_ofFn, dif_pos hi] at hx
     exact (Option.some.inj hx).symm
    subst hx'
    obtain ⟨c1, c2⟩ := Wo (hg ⟨i, hi⟩).1
    refine ⟨c1, fun j v hv => ?_⟩
    have hj : j < sz := by
     rcases Nat.lt_or_ge j sz with h | h
     ·exact h
     ·rw [List.getElem?_eq_none (by omega)] at hv; cases hv
    have := c2 j hj
    rw [hv, Addr.add_lit, Addr.add_lit] at this
    exact this
  have hm' : cap ≤ 9223372036854775807 := by simpa [maxLen] using hm
  refine ⟨_, List.ofFn g, rfl, ⟨⟨some a, cap, by simp, by simpa using hl, hm', Row.snap hrow hsz'⟩⟩, by simp; omega, ?_⟩
  intro x hx
  rw [List.mem_ofFn] at hx
  obtain ⟨i, rfl⟩ := hx
  exact (hg i).2
end Go.Vc

/- What a claim says of a call's arguments, where their bulk is bounded and package variables are laid. Conditions: none. -/
namespace Go.Vc
open Go Go.Lx
section
variable {H : Type} {enc : TypeId × Value → H} {P : Program} {w : World} {base : Nat} {spare : Nat → Bool} {held : Bool}
structure BKL (bk : DataW H → Nat) : Prop extends BK bk where
 len : ∀ es rs : List (DataW H), es.length ≤ bk (.slice es rs)
theorem op_sliceL {bk : DataW H → Nat} (K : BKL bk) {B : Nat} {α : Type} {f : α → List Value} {good : α → Prop} {t e sz fuel : Nat} {cs : List Value} {x : DataW H × List MemPlace} (hB : bk x.1 ≤ B) (ht : P.underlying t = some (.slice e)) (hc : P.cellsOf e = sz) (hsz : Nat.blt 0 sz = true)
  (hD : ∀ n cs x, bk x.1 ≤ B → cs.length = sz → DataW.trod enc P w base spare held n e cs = some x → ∃ a, cs = f a ∧ good a) (h : DataW.trod enc P w base spare held fuel t cs = some x) :
  ∃ (v : Value) (xs : List α), cs = [v] ∧ FrS (fun b => w.heap[b]?) sz v (xs.map f) ∧ (xs.length ≤ 9223372036854775807 ∧ xs.length ≤ B) ∧ ∀ x ∈ xs, good x := by
 obtain ⟨v, xs, e1, fr, hn, hg⟩ := op_sliceB K.toBK hB ht hc hsz hD h
 refine ⟨v, xs, e1, fr, ⟨hn, ?_⟩, hg⟩
 obtain ⟨a, c, rfl, _⟩ := fr.out
 rcases DataW.trod_slice ht h with ⟨e2, _⟩ | ⟨a', len, cap, elems, rest, n, _, e2, hx, _, _, _, hlen, _⟩
 ·rw [e1] at e2
  injection e2 with e2 _
  injection e2 with _ e2 _
  rw [List.length_map] at e2; omega
 ·rw [e1] at e2
  injection e2 with e2 _
  injection e2 with _ e2 _
  rw [List.length_map] at e2
  rw [hx] at hB
  have := K.len (elems.map (·.1)) (rest.map (·.1))
  rw [List.length_map] at this
  simp only at hB
  omega
end
section
variable {H : Type} {enc : TypeId × Value → H}
theorem handed_cond_laid {a : Assume} {C : Checked} {os : Os} {f : FuncId} {fn : Func} {s : OpenSpec} {k : (H : Type) → List (DataW H) → Bool} (hk : s.cond = some k) {F : Stop.Interp} {conds : List PathCond} {apart fresh handsOn again : Bool} {X : World → Prop}
  (hX : ∀ w w' : World, w.heap = w'.heap → X w → X w')
  (own : ownKnob C.prog.godebug = none) (started : os.Started) (noInit : C.prog.inits.idxOf? f = none) (hfn : C.prog.funcs[f]? = some fn)
  (witness : ∃ (w : World) (tape : Tape) (i : Input), w.os = os ∧ (w.forCall tape i).Shaped C.prog ∧ i.vars = [] ∧ Input.okWide C.prog (w.forCall tape i) .any w.heap.size f i ∧
   ((s.pre enc C.prog fn conds apart (w.forCall tape i).memory i.args ∧ X (w.forCall tape i).memory) ∧ sizedMet enc C.prog fn s apart (w.forCall tape i).memory i.args) ∧ a.holds C.prog (lone (Frame.enter C.prog f i.args .normal) [] (w.forCall tape i)))
  (contract : ∀ (W : World) (base : Nat) (args : Array Value) (ds gs : List (DataW H)) (before : List MemPlace),
   (∀ (j : Nat) t v, fn.params[j]? = some t → args[j]? = some v → Value.okWide C.prog W .any base t v) →
   DataW.Whole enc C.prog fn.params.toList s.vars apart W args.toList ds gs before →
   conds.all (PathCond.test C.prog ⟨fn.params.toList, ds, s.bare.plain.varTypes C.prog, gs⟩) = true → k H (ds ++ gs) = true → X W →
   a.holds C.prog (lone (Frame.enter C.prog f args .normal) [] W) →
   Calls C.prog f args W fun e W' => ∃ v, e = .returned v ∧ (s.at F).post enc C.prog fn apart fresh handsOn again W args v W') :
  ReturnsInHanded a C os f .any (fun w args => (s.pre enc C.prog fn conds apart w args ∧ X w) ∧ sizedMet enc C.prog fn s apart w args) ((s.at F).post enc C.prog fn apart fresh handsOn again) := by
 refine returnsInHanded_of_calls own started noInit witness ?_
 intro w tape i _ _ _ hok hpre hholds
 obtain ⟨_, _, _, fn', hfn', _, _, _, _, hval⟩ := hok
 obtain rfl : fn' = fn := Option.some.inj (hfn'.symm.trans hfn)
 obtain ⟨⟨hp, hx⟩, _⟩ := hpre
 obtain ⟨ds, gs, before, hw, hc, hkk⟩ := (OpenSpec.pre_some hk conds apart _ _).1 hp
 have hw' := DataW.Whole.of_heap (w' := w.forCall tape i) (by rfl) hw
 refine (contract (w.forCall tape i) w.heap.size i.args ds gs before hval hw' hc hkk (hX _ _ (by rfl) hx) hholds).mono fun e W' ⟨v, he, hp⟩ => ?_
 subst he
 exact ChangeSpec.post_blind hp
theorem witness_cond_laid {C : Checked} {os : Os} {f : FuncId} {fn : Func} {s : OpenSpec} {k : (H : Type) → List (DataW H) → Bool} (hk : s.cond = some k) {conds : List PathCond} {apart : Bool} {X : World → Prop} (modest : Bool) (w0 : World) (args : Array Value) (fuel : Nat) (hos : w0.os = os)
  (hsh : (w0.forCall (fun _ _ => 0) ⟨#[], args, []⟩).Shaped C.prog)
  (hok : Input.okWideB C.prog (w0.forCall (fun _ _ => 0) ⟨#[], args, []⟩) f ⟨#[], args, []⟩ = true)
  {x : List (DataW H) × List (DataW H) × List MemPlace} (hx : DataW.whole enc C.prog (w0.forCall (fun _ _ => 0) ⟨#[], args, []⟩).memory fn.params.toList s.vars apart args.toList fuel = some x)
  (hconds : conds.all (PathCond.test C.prog ⟨fn.params.toList, x.1, s.bare.plain.varTypes C.prog, x.2.1⟩) = true) (hkk : k H (x.1 ++ x.2.1) = true)
  (hsz : s.bare.sizedB enc C.prog fn apart (w0.forCall (fun _ _ => 0) ⟨#[], args, []⟩).memory args fuel = true)
  (hX : X (w0.forCall (fun _ _ => 0) ⟨#[], args, []⟩).memory) :
  ∃ (w : World) (tape : Tape) (i : Input), w.os = os ∧ (w.forCall tape i).Shaped C.prog ∧ i.vars = [] ∧ Input.okWide C.prog (w.forCall tape i) .any w.heap.size f i ∧
   ((s.pre enc C.prog fn conds apart (w.forCall tape i).memory i.args ∧ X (w.forCall tape i).memory) ∧ sizedMet enc C.prog fn s apart (w.forCall tape i).memory i.args) ∧ ({ modest := modest } : Assume).holds C.prog (lone (Frame.enter C.prog f i.args .normal) [] (w.forCall tape i)) :=
 ⟨w0, fun _ _ => 0, ⟨#[], args, []⟩, hos, hsh, (Input.okWide_of_okWideB (base := 0) hok).1, (Input.okWide_of_okWideB hok).2,
  ⟨⟨(OpenSpec.pre_some hk conds apart _ _).2 ⟨x.1, x.2.1, x.2.2, DataW.Whole_of_whole hx, hconds, hkk⟩, hX⟩, sizedMet_of_sizedB hsz⟩, by
  simp only [Assume.holds]
  exact ⟨by simp, by simp, fun _ => Modest.zero, by simp, by simp⟩⟩
end
end Go.Vc

/- What a claim says of a call's arguments, with the reach of the claim's form: no string and no slice is larger than it. Conditions: none. -/
namespace Go.Vc
open Go Go.Lx
variable {H : Type} {enc : TypeId × Value → H} {P : Program} {w : World} {base : Nat} {spare : Nat → Bool} {held : Bool}
end Go.Vc

/- Opening arguments whose elements hold slices. Conditions: none. -/
namespace Go.Lx
open Go Go.Vc Go.Md Go.ChangeShapes Go.WideShapes Go.ChangeAt
theorem piece_get {cs l : List Value} {o s q : Nat} (h : (cs.drop o).take s = l) (hq : q < l.length) : cs.getD (o + q) undef = l.getD q undef := by
 subst h
 have hs : q < s := by rw [List.length_take] at hq; omega
 simp only [List.getD_eq_getElem?_getD, List.getElem?_take, List.getElem?_drop, if_pos hs]
section
variable {P : Program} {H : Type} {enc : TypeId × Value → H} {w : World} {base : Nat} {spare : Nat → Bool} {held : Bool}
end
end Go.Lx

/- Opening arguments whose bulk is bounded: sums over the parts, for types that hold themselves. Conditions: none. -/
namespace Go.Lx
open Go Go.Vc Go.Md Go.ChangeShapes Go.WideShapes Go.ChangeAt
theorem mem_le_sum {a : Nat} : ∀ {l : List Nat}, a ∈ l → a ≤ l.sum
 | [], h => by cases h
 | x :: l, h => by
  rw [List.sum_cons]
  rcases List.mem_cons.1 h with h | h
  ·omega
  ·have := mem_le_sum h; omega
theorem sum_le_sum {α β : Type} {f : α → Nat} {g : β → Nat} : ∀ {xs : List α} {ys : List β}, xs.length = ys.length → (∀ (i : Nat) x y, xs[i]? = some x → ys[i]? = some y → f x ≤ g y) → (xs.map f).sum ≤ (ys.map g).sum
 | [], [], _, _ => Nat.le_refl _
 | [], _ :: _, h, _ => by simp at h
 | _ :: _, [], h, _ => by simp at h
 | x :: xs, y :: ys, h, k => by
  rw [List.map_cons, List.map_cons, List.sum_cons, List.sum_cons]
  have h1 := k 0 x y rfl rfl
  have h2 := sum_le_sum (f := f) (g := g) (xs := xs) (ys := ys) (by simpa using h) (fun i a b ha hb => k (i + 1) a b (by simpa using ha) (by simpa using hb))
  omega
theorem len_le_sum {α : Type} {f : α → Nat} (h : ∀ x, 1 ≤ f x) : ∀ xs : List α, xs.length ≤ (xs.map f).sum
 | [] => Nat.zero_le _
 | x :: xs => by rw [List.map_cons, List.sum_cons, List.length_cons]; have := h x; have := len_le_sum h xs; omega
section
variable {H : Type} {enc : TypeId × Value → H} {P : Program} {w : World} {base : Nat} {spare : Nat → Bool} {held : Bool}
structure BKS (bk : DataW H → Nat) : Prop where
 slice : ∀ es rs : List (DataW H), (es.map bk).sum ≤ bk (.slice es rs)
 agg : ∀ es : List (DataW H), (es.map bk).sum ≤ bk (.agg es)
 str : ∀ bs : List UInt8, bs.length ≤ bk (.lit (.string bs))
 one : ∀ d : DataW H, 1 ≤ bk d
theorem BKS.toBK {bk : DataW H → Nat} (K : BKS bk) : BK bk :=
 ⟨fun es rs d h => Nat.le_trans (mem_le_sum (List.mem_map.2 ⟨d, h, rfl⟩)) (K.slice es rs), fun es d h => Nat.le_trans (mem_le_sum (List.mem_map.2 ⟨d, h, rfl⟩)) (K.agg es), K.str⟩
theorem BKS.toBKL {bk : DataW H → Nat} (K : BKS bk) : BKL bk := { toBK := K.toBK, len := fun es rs => Nat.le_trans (len_le_sum K.one es) (K.slice es rs) }
theorem op_structS {bk : DataW H → Nat} (K : BKS bk) {t fuel : Nat} {fs : Array Field} {cs : List Value} {x : DataW H × List MemPlace} (ht : P.underlying t = some (.struct fs)) (h : DataW.trod enc P w base spare held fuel t cs = some x) :
  ∃ (n : Nat) (xs : List (DataW H × List MemPlace)), n < fuel ∧ xs.length = fs.size ∧ (xs.map fun y => bk y.1).sum ≤ bk x.1 ∧ ∀ (i : Nat) (f : Field) (sz : Nat), fs[i]? = some f → P.cellsOf f.type = sz → DataW.trod enc P w base spare held n f.type ((cs.drop f.offset).take sz) = xs[i]? := by
 obtain ⟨xs, n, hn, hx, _, hl, hp⟩ := DataW.trod_struct ht h
 refine ⟨n, xs, by omega, hl, ?_, fun i f sz hf hc => by subst hc; exact hp i f hf⟩
 rw [hx]
 have := K.agg (xs.map (·.1))
 rw [List.map_map] at this
 exact this
theorem op_sliceS {bk : DataW H → Nat} (K : BKS bk) {α δ : Type} {G : Jo → (Nat → Value) → α → Prop} {m : δ → α → Nat} {t e sz fuel : Nat} {cs : List Value} {x : DataW H × List MemPlace} (ht : P.underlying t = some (.slice e)) (hc : P.cellsOf e = sz) (hsz : Nat.blt 0 sz = true)
  (hD : ∀ n cs x, n < fuel → cs.length = sz → DataW.trod enc P w base spare held n e cs = some x → ∃ a : α, G (fun b => w.heap[b]?) (fun j => cs.getD j undef) a ∧ ∀ d, m d a ≤ bk x.1) (h : DataW.trod enc P w base spare held fuel t cs = some x) :
  ∃ (v : Value) (xs : List α), cs = [v] ∧ FrN (fun b => w.heap[b]?) sz v G xs ∧ xs.length ≤ bk x.1 ∧ ∀ d, (xs.map (m d)).sum ≤ bk x.1 := by
 rcases DataW.trod_slice ht h with ⟨rfl, _⟩ | ⟨a, len, cap, elems, rest, n, hn, rfl, hx, _, hl, hm, hlen, hel, _⟩
 ·exact ⟨_, [], rfl, FrN.nil _ _ _, by simp, by simp⟩
 ·have each : ∀ i : Fin len, ∃ p : List Value × α, w.cells? base (a.add (i * sz)) sz = some p.1 ∧ p.1.length = sz ∧ G (fun b => w.heap[b]?) (fun j => p.1.getD j undef) p.2 ∧ ∀ d y, elems[(i : Nat)]? = some y → m d p.2 ≤ bk y.1 := by
   intro i
   have hi := hel i i.2
   rw [hc] at hi
   have hlt : (i : Nat) < elems.length := by rw [hlen]; exact i.2
   rw [List.getElem?_eq_getElem hlt, Option.bind_eq_some_iff] at hi
   obtain ⟨cs', h1, h2⟩ := hi
   obtain ⟨a', hg, hmm⟩ := hD _ _ _ (by omega) (Wo h1).1 h2
   refine ⟨(cs', a'), h1, (Wo h1).1, hg, fun d y hy => ?_⟩
   rw [List.getElem?_eq_getElem hlt] at hy
   cases hy
   exact hmm d
  have hsz' : 0 < sz := by simpa using hsz
  have hch : ∃ g : Fin len → List Value × α, ∀ i : Fin len, w.cells? base (a.add (i * sz)) sz = some (g i).1 ∧ (g i).1.length = sz ∧ G (fun b => w.heap[b]?) (fun j => (g i).1.getD j undef) (g i).2 ∧ ∀ d y, elems[(i : Nat)]? = some y → m d (g i).2 ≤ bk y.1 := ⟨fun i => (each i).choose, fun i => (each i).choose_spec⟩
  obtain ⟨g, hg⟩ := hch
  have hrow : Row w (some a) sz ((List.ofFn g).map fun p => p.1) := by
   cases len with
   | zero => left; simp
   | succ k =>
    have h0 := hg 0
    have hsp : a.spot = none := by
     have := (Wo h0.1).2 0 hsz'
     have hln := (Wo h0.1).1
     rw [List.getElem?_eq_getElem (by omega)] at this
     have hs := cell_spot this
     simpa [Addr.add] using hs
    obtain ⟨b, off, spot⟩ := a
    simp only at hsp
    subst hsp
    refine .inr ⟨b, off, rfl, fun i x hx => ?_⟩
    have hi : i < k + 1 := by
     rcases Nat.lt_or_ge i (k + 1) with h | h
     ·exact h
     ·rw [List.getElem?_eq_none (by simpa using h)] at hx; cases hx
    have hx' : x = (g ⟨i, hi⟩).1 := by
     rw [List.getElem?_map, List.getElem?_ofFn, dif_pos hi] at hx
     exact (Option.some.inj hx).symm
    subst hx'
    obtain ⟨c1, c2⟩ := Wo (hg ⟨i, hi⟩).1
    refine ⟨c1, fun j v hv => ?_⟩
    have hj : j < sz := by
     rcases Nat.lt_or_ge j sz with h | h
     ·exact h
     ·rw [List.getElem?_eq_none (by omega)] at hv; cases hv
    have := c2 j hj
    rw [hv, Addr.add_lit, Addr.add_lit] at this
    exact this
  have hm' : cap ≤ 9223372036854775807 := by simpa [maxLen] using hm
  have hfr : FrS (fun b => w.heap[b]?) sz (.slice (some a) len cap) ((List.ofFn g).map fun p => p.1) := ⟨⟨some a, cap, by simp, by simpa using hl, hm', Row.snap hrow hsz'⟩⟩
  refine ⟨_, (List.ofFn g).map Prod.snd, rfl, ?_, ?_, fun d => ?_⟩
  ·refine Ux (css := (List.ofFn g).map Prod.fst) ?_ ⟨by simp, fun i c y hc hy => ?_⟩
   ·have : ((List.ofFn g).map Prod.fst).map idC = (List.ofFn g).map fun p => p.1 := by rw [List.map_map]; rfl
    rw [this]; exact hfr
   ·simp only [List.getElem?_map, Option.map_eq_some_iff] at hc hy
    obtain ⟨p, hp, rfl⟩ := hc
    obtain ⟨q, hq, rfl⟩ := hy
    rw [hp] at hq
    cases hq
    have hpm := List.mem_of_getElem? hp
    rw [List.mem_ofFn] at hpm
    obtain ⟨j, rfl⟩ := hpm
    exact ⟨(hg j).2.1, (hg j).2.2.1⟩
  ·have h1 := len_le_sum K.one (elems.map (·.1))
   have h2 := K.slice (elems.map (·.1)) (rest.map (·.1))
   rw [hx]
   simp only [List.length_map, List.length_ofFn] at h1 ⊢
   omega
  ·have h2 := K.slice (elems.map (·.1)) (rest.map (·.1))
   rw [hx]
   refine Nat.le_trans (sum_le_sum (by simp [hlen]) fun i a y ha hy => ?_) h2
   rw [List.getElem?_map, Option.map_eq_some_iff] at ha hy
   obtain ⟨p, hp, rfl⟩ := ha
   obtain ⟨y, hy, rfl⟩ := hy
   have hi : i < len := by
    rcases Nat.lt_or_ge i len with h | h
    ·exact h
    ·rw [List.getElem?_eq_none (by simpa using h)] at hp; cases hp
   rw [List.getElem?_ofFn, dif_pos hi] at hp
   cases hp
   exact (hg ⟨i, hi⟩).2.2.2 d y hy
end
end Go.Lx
