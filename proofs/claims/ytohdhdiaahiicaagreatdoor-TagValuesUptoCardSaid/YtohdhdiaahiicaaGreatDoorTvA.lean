/- Numbers and values as octets, values checked, in plain Lean. Conditions: none. -/
import Derived.Test.YtohdhdiaahiicaaGreatDoorMTv
import Derived.Test.YtohdhdiaahiicaaGreatDoorPl
import Derived.Test.YtohdhdiaahiicaaGreatDoorPl2
namespace Go.M
open Go.Md Go.Pl

theorem cI {α : Type} {p : Prop} [Decidable p] {x y : Option α} : cnd (decide p) x y = if p then x else y := cnd_if ..
/-- Recursion, with a ghost. -/
theorem fix_ofG {α ρ γ : Type} {F : (α → Option ρ) → α → Option ρ} (spec : γ → α → Option ρ) (I : γ → α → Prop) (μ : γ → Nat)
    (step : ∀ (next : α → Option ρ) (g : γ) (a : α), I g a → (∀ g' b, I g' b → μ g' < μ g → next b = spec g' b) → F next a = spec g a) (g : γ) (a : α) (ha : I g a) : fix F a = spec g a := by
  have key : ∀ (n : Nat) (g : γ) (a : α), I g a → μ g < n → it F n a = spec g a := by
    intro n
    induction n with
    | zero => intro g a _ h; omega
    | succ n ih => intro g a ha h; exact step _ g a ha fun g' b hb hlt => ih g' b hb (by omega)
  exact fix_ev (k := μ g + 1) fun n hn => key n g a ha (by omega)

theorem ofStr_app (a b : List UInt8) : ofStr (a ++ b) = ofStr a ++ ofStr b := List.map_append
theorem ofStr_len (a : List UInt8) : (ofStr a).length = a.length := List.length_map _
theorem toStr_ofStr (a : List UInt8) : toStr (ofStr a) = a := by
  unfold toStr ofStr
  rw [List.map_map]
  conv => rhs; rw [← List.map_id a]
  apply List.map_congr_left
  intro c _
  show UInt8.ofNat ((c.toNat : Int).toNat) = c
  rw [Int.toNat_natCast, UInt8.ofNat_toNat]
theorem ofStr_toStr {l : List Int} (h : ∀ x ∈ l, 0 ≤ x ∧ x ≤ 255) : ofStr (toStr l) = l := by
  unfold toStr ofStr
  rw [List.map_map]
  conv => rhs; rw [← List.map_id l]
  apply List.map_congr_left
  intro c hc
  have := h c hc
  show (((UInt8.ofNat c.toNat).toNat : Nat) : Int) = c
  rw [UInt8.toNat_ofNat']
  omega

/-! ### numbers -/

/-! ### kinds -/

def wideN (k : Int) : Nat := if k = 1 ∨ k = 2 ∨ k = 7 then 1 else if k = 3 then 2 else if k = 4 ∨ k = 9 then 4 else if k = 5 then 8 else 0
theorem wideN_le (k : Int) : wideN k ≤ 8 := by unfold wideN; (repeat' split) <;> omega
theorem sizeOf_eq (k : Int) : tag_sizeOf k = some (if k = 13 then 1 else (wideN k : Int)) := by
  unfold tag_sizeOf tag_sizeOf_j1 wideN
  by_cases h1 : k = 1
  · subst h1; rfl
  by_cases h2 : k = 2
  · subst h2; rfl
  by_cases h3 : k = 3
  · subst h3; rfl
  by_cases h4 : k = 4
  · subst h4; rfl
  by_cases h5 : k = 5
  · subst h5; rfl
  by_cases h7 : k = 7
  · subst h7; rfl
  by_cases h9 : k = 9
  · subst h9; rfl
  by_cases h13 : k = 13
  · subst h13; rfl
  simp [h1, h2, h3, h4, h5, h7, h9, h13, cnd_false]
theorem wide_eq (k : Int) : R_wide k = some (if k = 13 then 4 else (wideN k : Int)) := by
  unfold R_wide R_wide_j1 wideN
  by_cases h1 : k = 1
  · subst h1; rfl
  by_cases h2 : k = 2
  · subst h2; rfl
  by_cases h3 : k = 3
  · subst h3; rfl
  by_cases h4 : k = 4
  · subst h4; rfl
  by_cases h5 : k = 5
  · subst h5; rfl
  by_cases h7 : k = 7
  · subst h7; rfl
  by_cases h9 : k = 9
  · subst h9; rfl
  by_cases h13 : k = 13
  · subst h13; rfl
  simp [h1, h2, h3, h4, h5, h7, h9, h13, cnd_false]

def intsK (k : Int) : Prop := k = 1 ∨ k = 3 ∨ k = 4 ∨ k = 9
def textK (k : Int) : Prop := k = 2 ∨ k = 7
instance (k : Int) : Decidable (intsK k) := by unfold intsK; infer_instance
instance (k : Int) : Decidable (textK k) := by unfold textK; infer_instance
def kindP (k : Int) : Prop := intsK k ∨ textK k ∨ k = 5 ∨ k = 13
instance (k : Int) : Decidable (kindP k) := by unfold kindP; infer_instance
def formP (v : T_tag_Value) : Prop := (¬ intsK v.Kind ∧ v.Ints ≠ []) ∨ (¬ textK v.Kind ∧ v.Text ≠ []) ∨ (v.Kind ≠ 5 ∧ v.Ratios ≠ []) ∨ (v.Kind ≠ 13 ∧ v.Entries ≠ [])
noncomputable def fieldsE (v : T_tag_Value) : Int := open Classical in if ¬ kindP v.Kind then 10 else if formP v then 1 else 0

theorem ne_len {α : Type} (l : List α) : (0 : Int) < (l.length : Int) ↔ l ≠ [] := by
  cases l <;> simp <;> omega
theorem wide_zero (k : Int) (h : k ≠ 13) : (wideN k : Int) = 0 ↔ ¬ kindP k := by
  unfold wideN kindP intsK textK
  split
  · omega
  · split
    · omega
    · split
      · omega
      · split <;> omega

theorem j3_fields (v : T_tag_Value) (b : Bool) : tag_checkFields_j3 v b = some (open Classical in if b = true ∨ (v.Kind ≠ 13 ∧ v.Entries ≠ []) then 1 else 0) := by
  unfold tag_checkFields_j3
  cases b
  · rw [cnd_false, cI, cI]
    by_cases h1 : v.Kind ≠ 13
    · by_cases h2 : v.Entries = []
      · rw [if_pos h1, if_neg (by rw [ne_len]; simpa using h2), if_neg (by simp [h2])]
      · rw [if_pos h1, if_pos ((ne_len _).2 h2), if_pos (.inr ⟨h1, h2⟩)]
    · rw [if_neg h1, if_neg (by simp [h1])]
  · rw [cnd_true, cnd_true, if_pos (.inl rfl)]
theorem j2_fields (v : T_tag_Value) (b : Bool) : tag_checkFields_j2 v b = some (open Classical in if b = true ∨ (v.Kind ≠ 5 ∧ v.Ratios ≠ []) ∨ (v.Kind ≠ 13 ∧ v.Entries ≠ []) then 1 else 0) := by
  unfold tag_checkFields_j2
  cases b
  · rw [cnd_false, cI, j3_fields, j3_fields]
    by_cases h1 : v.Kind ≠ 5
    · rw [if_pos h1]
      congr 1
      by_cases h2 : v.Ratios = []
      · simp [h2]
      · simp [h2, h1, List.length_pos_iff]
    · rw [if_neg h1]; simp [h1]
  · rw [cnd_true, cnd_true, if_pos (.inl rfl)]
theorem j1_fields (v : T_tag_Value) (b : Bool) : tag_checkFields_j1 v b = some (open Classical in if b = true ∨ (¬ textK v.Kind ∧ v.Text ≠ []) ∨ (v.Kind ≠ 5 ∧ v.Ratios ≠ []) ∨ (v.Kind ≠ 13 ∧ v.Entries ≠ []) then 1 else 0) := by
  have ht : tag_isText v.Kind = some (decide (textK v.Kind)) := by
    unfold tag_isText textK
    rw [cI]
    by_cases h : v.Kind = 2
    · simp [h]
    · simp [h]
  unfold tag_checkFields_j1
  cases b
  · rw [cnd_false, ht, bnd_pure, j2_fields, j2_fields]
    by_cases h1 : textK v.Kind
    · rw [decide_eq_true h1]
      show cnd false _ _ = _
      rw [cnd_false]; simp [h1]
    · rw [decide_eq_false h1]
      show cnd true _ _ = _
      rw [cnd_true]; simp [h1]
  · rw [cnd_true, cnd_true, if_pos (.inl rfl)]
theorem checkFields_eq (v : T_tag_Value) : tag_checkFields v = some (fieldsE v) := by
  have hi : tag_isInts v.Kind = some (decide (intsK v.Kind)) := by
    unfold tag_isInts intsK
    rw [cI, cI, cI]
    by_cases h : v.Kind = 1
    · simp [h]
    by_cases h3 : v.Kind = 3
    · simp [h3]
    by_cases h4 : v.Kind = 4
    · simp [h4]
    simp [h, h3, h4]
  unfold tag_checkFields fieldsE
  rw [sizeOf_eq, bnd_pure, cI]
  by_cases hk : kindP v.Kind
  · have hz : ¬ (if v.Kind = 13 then (1 : Int) else (wideN v.Kind : Int)) = 0 := by
      by_cases h13 : v.Kind = 13
      · rw [if_pos h13]; omega
      · rw [if_neg h13]; exact fun e => (wide_zero _ h13).1 e hk
    rw [if_neg hz, hi, bnd_pure, j1_fields, j1_fields, if_neg (show ¬ ¬ kindP v.Kind from fun h => h hk)]
    by_cases h1 : intsK v.Kind
    · rw [decide_eq_true h1]
      show cnd false _ _ = _
      rw [cnd_false]; unfold formP; simp [h1]
    · rw [decide_eq_false h1]
      show cnd true _ _ = _
      rw [cnd_true]; unfold formP; simp [h1, List.length_pos_iff]
  · have h13 : v.Kind ≠ 13 := fun e => hk (.inr (.inr (.inr e)))
    rw [if_neg h13, if_pos ((wide_zero _ h13).2 hk), if_pos hk]

/-! ### values -/

def limS (k : Int) : Int × Int := if k = 1 then (0, 255) else if k = 3 then (0, 65535) else if k = 9 then (-2147483648, 2147483647) else (0, 4294967295)
theorem bounds_eq (k : Int) : tag_bounds k = some (limS k) := by
  unfold tag_bounds limS
  rw [cI, cI, cI]; (repeat' split) <;> rfl
theorem limits_eq (k : Int) : R_limits k = some (limS k) := by
  unfold R_limits limS
  rw [cI, cI, cI]; (repeat' split) <;> rfl
theorem out_tag (a b c : Int) : tag_outside a b c = some (decide (a < b ∨ c < a)) := by
  unfold tag_outside
  rw [cI]
  by_cases h : a < b
  · rw [if_pos h]; simp [h]
  · rw [if_neg h]; simp [h]
def ratP (r : T_tag_Ratio) : Prop := (r.Num < 0 ∨ 4294967295 < r.Num) ∨ (r.Den < 0 ∨ 4294967295 < r.Den)
noncomputable def plainE (v : T_tag_Value) : Int := open Classical in
  if fieldsE v ≠ 0 then fieldsE v else if ∃ n ∈ v.Ints, n < (limS v.Kind).1 ∨ (limS v.Kind).2 < n then 2 else if ∃ r ∈ v.Ratios, ratP r then 2 else if v.Kind = 2 ∧ (0 : UInt8) ∈ v.Text then 9 else 0

/-- A loop that looks for an element. -/
theorem look_loop {α : Type} {F : (Int → Option Int) → Int → Option Int} (xs : List α) (p : α → Prop) (e : Int) (o : Option Int) (more : ∀ (next : Int → Option Int) (k : Nat) (hk : k < xs.length), (p xs[k] → F next (k : Int) = some e) ∧ (¬ p xs[k] → F next (k : Int) = next ((k : Int) + 1))) (stop : ∀ next, F next (xs.length : Int) = o) :
    fix F 0 = open Classical in if ∃ x ∈ xs, p x then some e else o := by
  have key : ∀ m i : Nat, i + m = xs.length → fix F (i : Int) = open Classical in if ∃ x ∈ xs.drop i, p x then some e else o := by
    intro m
    induction m with
    | zero =>
      intro i hi
      have : i = xs.length := by omega
      subst this
      rw [List.drop_length, if_neg (by simp)]
      exact fix_done stop
    | succ m ih =>
      intro i hi
      have hlt : i < xs.length := by omega
      rw [List.drop_eq_getElem_cons hlt]
      by_cases hp : p xs[i]
      · rw [if_pos ⟨_, List.mem_cons_self, hp⟩]
        exact fix_done fun next => (more next i hlt).1 hp
      · rw [fix_goto ((i : Int) + 1) (fun next => (more next i hlt).2 hp)]
        have := ih (i + 1) (by omega)
        rw [show ((i : Int) + 1) = ((i + 1 : Nat) : Int) from rfl, this]
        congr 1
        apply propext
        constructor
        · rintro ⟨x, hx, h⟩; exact ⟨x, List.mem_cons_of_mem _ hx, h⟩
        · rintro ⟨x, hx, h⟩
          rcases List.mem_cons.1 hx with h' | h'
          · subst h'; exact absurd h hp
          · exact ⟨x, h', h⟩
  have := key xs.length 0 (by omega)
  rw [List.drop_zero] at this
  exact this

def vB (v : T_tag_Value) : Prop := v.Text.length ≤ 2000000 ∧ v.Ints.length ≤ 2000000 ∧ v.Ratios.length ≤ 2000000

theorem j2_plain {v : T_tag_Value} (hb : vB v) : tag_checkPlain_j2 v = some (open Classical in if v.Kind = 2 ∧ (0 : UInt8) ∈ v.Text then 9 else 0) := by
  unfold tag_checkPlain_j2
  rw [cI]
  by_cases h2 : v.Kind = 2
  · rw [if_pos h2, look_loop v.Text (fun c => c = 0) 9 (some 0) (fun next k hk => ?_) (fun next => ?_)]
    · congr 1
      by_cases hm : (0 : UInt8) ∈ v.Text
      · rw [if_pos ⟨0, hm, rfl⟩, if_pos ⟨h2, hm⟩]
      · rw [if_neg (fun ⟨x, hx, e⟩ => hm (e ▸ hx)), if_neg (fun h => hm h.2)]
    · show (_ → tag_checkPlain_l3 v next (k : Int) = _) ∧ (_ → tag_checkPlain_l3 v next (k : Int) = _)
      have := hb.1
      unfold tag_checkPlain_l3
      rw [cI, if_pos (by omega), gOct_nat hk, bnd_pure, cI]
      constructor
      · intro e; rw [if_pos (by rw [e]; rfl)]
      · intro e
        have : v.Text[k].toNat ≠ 0 := fun h => e (by rw [← UInt8.ofNat_toNat (x := v.Text[k]), h]; rfl)
        rw [if_neg (by omega), gI_ok (by omega), bnd_pure]
    · show tag_checkPlain_l3 v next (v.Text.length : Int) = _
      unfold tag_checkPlain_l3
      rw [cI, if_neg (by omega)]
  · rw [if_neg h2, if_neg (fun h => h2 h.1)]
theorem checkPlain_eq {v : T_tag_Value} (hb : vB v) : tag_checkPlain v = some (plainE v) := by
  unfold tag_checkPlain plainE
  rw [checkFields_eq, bnd_pure, cI]
  by_cases hf : fieldsE v ≠ 0
  · rw [if_pos hf, if_pos hf]
  rw [if_neg hf, if_neg hf, bounds_eq, bnd_pure]
  rw [look_loop (F := fun next5 s => tag_checkPlain_l5 v (limS v.Kind) next5 s) v.Ints (fun n => n < (limS v.Kind).1 ∨ (limS v.Kind).2 < n) 2 (tag_checkPlain_j1 v) (fun next k hk => ?_) (fun next => ?_)]
  · have e1 : tag_checkPlain_j1 v = some (open Classical in if ∃ r ∈ v.Ratios, ratP r then 2 else if v.Kind = 2 ∧ (0 : UInt8) ∈ v.Text then 9 else 0) := by
      unfold tag_checkPlain_j1
      rw [look_loop (F := fun next4 s => tag_checkPlain_l4 v next4 s) v.Ratios ratP 2 (tag_checkPlain_j2 v) (fun next k hk => ?_) (fun next => ?_), j2_plain hb]
      · split <;> rfl
      · show (_ → tag_checkPlain_l4 v next (k : Int) = _) ∧ (_ → tag_checkPlain_l4 v next (k : Int) = _)
        have := hb.2.2
        unfold tag_checkPlain_l4 ratP
        rw [cI, if_pos (by omega), gAt_nat hk, bnd_pure, out_tag, bnd_pure, cI, out_tag, bnd_pure, cI]
        constructor
        · intro e
          by_cases h1 : v.Ratios[k].Num < 0 ∨ 4294967295 < v.Ratios[k].Num
          · rw [if_pos h1]
          · rw [if_neg h1, if_pos (e.resolve_left h1)]
        · intro e
          rw [if_neg (fun h => e (.inl h)), if_neg (fun h => e (.inr h)), gI_ok (by omega), bnd_pure]
      · show tag_checkPlain_l4 v next (v.Ratios.length : Int) = _
        unfold tag_checkPlain_l4
        rw [cI, if_neg (by omega)]
    rw [e1]; split <;> rfl
  · show (_ → tag_checkPlain_l5 v _ next (k : Int) = _) ∧ (_ → tag_checkPlain_l5 v _ next (k : Int) = _)
    have := hb.2.1
    unfold tag_checkPlain_l5
    rw [cI, if_pos (by omega), gAt_nat hk, bnd_pure, out_tag, bnd_pure, cI]
    constructor
    · intro e; rw [if_pos e]
    · intro e; rw [if_neg e, gI_ok (by omega), bnd_pure]
  · show tag_checkPlain_l5 v _ next (v.Ints.length : Int) = _
    unfold tag_checkPlain_l5
    rw [cI, if_neg (by omega)]

theorem ixB_mem (c : UInt8) (t : List UInt8) : -1 ≤ ixB t c ∧ (0 ≤ ixB t c ↔ c ∈ t) := by
  induction t with
  | nil => exact ⟨by unfold ixB; omega, by simp [ixB]⟩
  | cons b t ih =>
    unfold ixB
    by_cases hb : b = c
    · rw [if_pos hb]; exact ⟨by omega, fun _ => by simp [hb], fun _ => by omega⟩
    · rw [if_neg hb]
      have hc : ¬ c = b := fun e => hb e.symm
      rw [List.mem_cons]
      by_cases h1 : ixB t c = -1
      · rw [if_pos h1]
        exact ⟨by omega, fun h => by omega, fun h => by have := ih.2.2 (h.resolve_left hc); omega⟩
      · rw [if_neg h1]
        exact ⟨by omega, fun h => .inr (ih.2.1 (by omega)), fun h => by have := ih.2.2 (h.resolve_left hc); omega⟩
theorem j2_fault {v : T_tag_Value} (hb : vB v) (h13 : v.Kind ≠ 13) : R_ValueFaultp_j2 v = some (open Classical in if ∃ n ∈ v.Ints, n < (limS v.Kind).1 ∨ (limS v.Kind).2 < n then 2 else if ∃ r ∈ v.Ratios, ratP r then 2 else if v.Kind = 2 ∧ (0 : UInt8) ∈ v.Text then 9 else 0) := by
  have e4 : R_ValueFaultp_j4 v = some (open Classical in if v.Kind = 2 ∧ (0 : UInt8) ∈ v.Text then 9 else 0) := by
    unfold R_ValueFaultp_j4 R_ValueFaultp_j5
    rw [cI, cI, if_neg h13]
    by_cases h2 : v.Kind = 2
    · rw [if_pos h2]
      unfold strings_IndexByte internal_stringslite_IndexByte
      have hx : gIxB v.Text 0 = some (ixB v.Text 0) := by unfold gIxB; rfl
      have hm := (ixB_mem 0 v.Text).2
      rw [hx, bnd_pure, bnd_pure, bnd_pure, cI]
      by_cases h0 : (0 : UInt8) ∈ v.Text
      · rw [if_pos (hm.2 h0), if_pos ⟨h2, h0⟩]
      · rw [if_neg (fun h => h0 (hm.1 h)), if_neg (fun h => h0 h.2)]
    · rw [if_neg h2, if_neg (fun h => h2 h.1)]
  have e3 : R_ValueFaultp_j3 v = some (open Classical in if ∃ r ∈ v.Ratios, ratP r then 2 else if v.Kind = 2 ∧ (0 : UInt8) ∈ v.Text then 9 else 0) := by
    unfold R_ValueFaultp_j3
    rw [look_loop (F := fun next6 s => R_ValueFaultp_l6 v next6 s) v.Ratios ratP 2 (R_ValueFaultp_j4 v) (fun next k hk => ?_) (fun next => ?_), e4]
    · split <;> rfl
    · show (_ → R_ValueFaultp_l6 v next (k : Int) = _) ∧ (_ → R_ValueFaultp_l6 v next (k : Int) = _)
      have := hb.2.2
      unfold R_ValueFaultp_l6 ratP
      rw [cI, if_pos (by omega), gAt_nat hk, bnd_pure, cI, cI, cI, cI]
      constructor
      · intro e
        by_cases h1 : v.Ratios[k].Num < 0
        · rw [if_pos h1]
        by_cases h2 : 4294967295 < v.Ratios[k].Num
        · rw [if_neg h1, if_pos h2]
        by_cases h3 : v.Ratios[k].Den < 0
        · rw [if_neg h1, if_neg h2, if_pos h3]
        rw [if_neg h1, if_neg h2, if_neg h3, if_pos (by omega)]
      · intro e
        rw [if_neg (by omega), if_neg (by omega), if_neg (by omega), if_neg (by omega), gI_ok (by omega), bnd_pure]
    · show R_ValueFaultp_l6 v next (v.Ratios.length : Int) = _
      unfold R_ValueFaultp_l6
      rw [cI, if_neg (by omega)]
  unfold R_ValueFaultp_j2
  rw [limits_eq, bnd_pure]
  rw [look_loop (F := fun next7 s => R_ValueFaultp_l7 v (limS v.Kind) next7 s) v.Ints (fun n => n < (limS v.Kind).1 ∨ (limS v.Kind).2 < n) 2 (R_ValueFaultp_j3 v) (fun next k hk => ?_) (fun next => ?_), e3]
  · split <;> rfl
  · show (_ → R_ValueFaultp_l7 v _ next (k : Int) = _) ∧ (_ → R_ValueFaultp_l7 v _ next (k : Int) = _)
    have := hb.2.1
    unfold R_ValueFaultp_l7
    rw [cI, if_pos (by omega), gAt_nat hk, bnd_pure, cI, cI]
    constructor
    · intro e
      by_cases h1 : v.Ints[k] < (limS v.Kind).1
      · rw [if_pos h1]
      · rw [if_neg h1, if_pos (e.resolve_left h1)]
    · intro e
      rw [if_neg (fun h => e (.inl h)), if_neg (fun h => e (.inr h)), gI_ok (by omega), bnd_pure]
  · show R_ValueFaultp_l7 v _ next (v.Ints.length : Int) = _
    unfold R_ValueFaultp_l7
    rw [cI, if_neg (by omega)]

theorem j10_fault (v : T_tag_Value) (b : Bool) : R_ValueFaultp_j10 v b = open Classical in if b = true ∨ (v.Kind ≠ 13 ∧ v.Entries ≠ []) then some 1 else R_ValueFaultp_j2 v := by
  unfold R_ValueFaultp_j10
  cases b
  · rw [cnd_false, cI, cI]
    by_cases h2 : v.Entries = []
    · rw [if_neg (by rw [ne_len]; simpa using h2), if_neg (by simp [h2])]
    · rw [if_pos ((ne_len _).2 h2)]
      by_cases h1 : v.Kind = 13
      · rw [if_neg (by simpa using h1), if_neg (by simp [h1])]
      · rw [if_pos h1, if_pos (.inr ⟨h1, h2⟩)]
  · rw [cnd_true, cnd_true, if_pos (.inl rfl)]
theorem j9_fault (v : T_tag_Value) (b : Bool) : R_ValueFaultp_j9 v b = open Classical in if b = true ∨ (v.Kind ≠ 5 ∧ v.Ratios ≠ []) ∨ (v.Kind ≠ 13 ∧ v.Entries ≠ []) then some 1 else R_ValueFaultp_j2 v := by
  unfold R_ValueFaultp_j9
  cases b
  · rw [cnd_false, cI, j10_fault, j10_fault]
    by_cases h2 : v.Ratios = []
    · rw [if_neg (by rw [ne_len]; simpa using h2)]; simp [h2]
    · rw [if_pos ((ne_len _).2 h2)]; simp [h2]
  · rw [cnd_true, cnd_true, if_pos (.inl rfl)]
theorem j8_fault (v : T_tag_Value) (x4 b : Bool) : R_ValueFaultp_j8 v x4 b = open Classical in if b = true ∨ (x4 = false ∧ v.Ints ≠ []) ∨ (v.Kind ≠ 5 ∧ v.Ratios ≠ []) ∨ (v.Kind ≠ 13 ∧ v.Entries ≠ []) then some 1 else R_ValueFaultp_j2 v := by
  unfold R_ValueFaultp_j8
  cases b
  · rw [cnd_false, cI, j9_fault, j9_fault]
    by_cases h2 : v.Ints = []
    · rw [if_neg (by rw [ne_len]; simpa using h2)]; simp [h2]
    · rw [if_pos ((ne_len _).2 h2)]; cases x4 <;> simp [h2]
  · rw [cnd_true, cnd_true, if_pos (.inl rfl)]
theorem ValueFault_eq {v : T_tag_Value} (hb : vB v) (h13 : v.Kind ≠ 13) : R_ValueFaultp v = some (plainE v) := by
  have e : R_ValueFaultp v = R_ValueFaultp_j1 v (decide (textK v.Kind)) (decide (intsK v.Kind)) := by
    unfold R_ValueFaultp textK intsK
    by_cases h2 : v.Kind = 2
    · simp [h2, cnd_true, cnd_false]
    by_cases h1 : v.Kind = 1
    · simp [h1, cnd_true, cnd_false]
    by_cases h3 : v.Kind = 3
    · simp [h3, cnd_true, cnd_false]
    by_cases h4 : v.Kind = 4
    · simp [h4, cnd_true, cnd_false]
    simp [h2, h1, h3, h4, cnd_false]
  rw [e]
  unfold R_ValueFaultp_j1
  rw [wide_eq, bnd_pure, cI, if_neg h13]
  unfold plainE fieldsE
  by_cases hk : kindP v.Kind
  · rw [if_neg (fun e => (wide_zero _ h13).1 e hk), cI, j8_fault, j8_fault, j2_fault hb h13, if_neg (show ¬ ¬ kindP v.Kind from fun h => h hk)]
    have hfm : (if v.Text ≠ [] then (open Classical in if (!decide (textK v.Kind)) = true ∨ (decide (intsK v.Kind) = false ∧ v.Ints ≠ []) ∨ (v.Kind ≠ 5 ∧ v.Ratios ≠ []) ∨ (v.Kind ≠ 13 ∧ v.Entries ≠ []) then True else False) else (open Classical in if false = true ∨ (decide (intsK v.Kind) = false ∧ v.Ints ≠ []) ∨ (v.Kind ≠ 5 ∧ v.Ratios ≠ []) ∨ (v.Kind ≠ 13 ∧ v.Entries ≠ []) then True else False)) ↔ formP v := by
      unfold formP
      by_cases ht : v.Text = [] <;> by_cases hk1 : textK v.Kind <;> by_cases hk2 : intsK v.Kind <;> simp [ht, hk1, hk2]
    by_cases hf : formP v
    · rw [if_pos hf, if_pos (show (1 : Int) ≠ 0 by omega)]
      by_cases ht : v.Text = []
      · rw [if_neg (by simpa using ht)]
        rw [if_neg (by simpa using ht)] at hfm
        have := hfm.2 hf
        split at this
        · rename_i h; rw [if_pos h]
        · exact this.elim
      · rw [if_pos ht]
        rw [if_pos ht] at hfm
        have := hfm.2 hf
        split at this
        · rename_i h; rw [if_pos h]
        · exact this.elim
    · rw [if_neg hf, if_neg (show ¬ ((0 : Int) ≠ 0) by omega)]
      by_cases ht : v.Text = []
      · rw [if_neg (by simpa using ht)]
        rw [if_neg (by simpa using ht)] at hfm
        rw [if_neg (fun h => hf (hfm.1 (by rw [if_pos h]; trivial)))]
      · rw [if_pos ht]
        rw [if_pos ht] at hfm
        rw [if_neg (fun h => hf (hfm.1 (by rw [if_pos h]; trivial)))]
  · rw [if_pos ((wide_zero _ h13).2 hk), if_pos hk, if_pos (show (10 : Int) ≠ 0 by omega)]
end Go.M

/- Directories checked, in plain Lean. Conditions: none. -/
namespace Go.M
open Go.Md Go.Pl

def szD : Nat → List T_tag_Entry → Nat
  | 0, _ => 0
  | d + 1, l => (l.map fun e => 1 + e.Value.Text.length + e.Value.Ints.length + e.Value.Ratios.length + szD d e.Value.Entries).sum
def szE (d : Nat) (e : T_tag_Entry) : Nat := 1 + e.Value.Text.length + e.Value.Ints.length + e.Value.Ratios.length + szD d e.Value.Entries
theorem szD_nil (d : Nat) : szD (d + 1) [] = 0 := rfl
theorem szD_cons (d : Nat) (e : T_tag_Entry) (l : List T_tag_Entry) : szD (d + 1) (e :: l) = szE d e + szD (d + 1) l := by
  simp only [szD, szE, List.map_cons, List.sum_cons]
theorem szD_mem {d : Nat} {e : T_tag_Entry} : ∀ {l : List T_tag_Entry}, e ∈ l → szE d e ≤ szD (d + 1) l
  | [], h => by cases h
  | x :: l, h => by
    rw [szD_cons]
    rcases List.mem_cons.1 h with h | h
    · subst h; omega
    · have := szD_mem (d := d) h; omega
theorem szD_len {d : Nat} : ∀ l : List T_tag_Entry, l.length ≤ szD (d + 1) l
  | [] => Nat.zero_le _
  | x :: l => by rw [szD_cons, List.length_cons]; have := szD_len (d := d) l; unfold szE; omega
theorem vB_of {d : Nat} {e : T_tag_Entry} {l : List T_tag_Entry} (h : szD (d + 1) l ≤ 2000000) (he : e ∈ l) : vB e.Value ∧ szD d e.Value.Entries ≤ 2000000 := by
  have := szD_mem (d := d) he
  unfold szE at this
  unfold vB
  omega

def prevT (l : List T_tag_Entry) : Nat → Option Int
  | 0 => none
  | k + 1 => (l[k]?).map (·.Tag)
def lowP (pr : Option Int) (e : T_tag_Entry) : Prop := ∃ t, pr = some t ∧ e.Tag ≤ t
noncomputable def listE (f : T_tag_Entry → Int) : Option Int → List T_tag_Entry → Int
  | _, [] => 0
  | pr, e :: l => open Classical in if e.Tag < 0 ∨ 65535 < e.Tag then 2 else if lowP pr e then 5 else if f e ≠ 0 then f e else listE f (some e.Tag) l

theorem list_loop {G : (Int → Option Int) → Int → Option Int} (l : List T_tag_Entry) (f : T_tag_Entry → Int)
    (more : ∀ (next : Int → Option Int) (k : Nat) (hk : k < l.length), G next (k : Int) = open Classical in if l[k].Tag < 0 ∨ 65535 < l[k].Tag then some 2 else if lowP (prevT l k) l[k] then some 5 else if f l[k] ≠ 0 then some (f l[k]) else next ((k : Int) + 1))
    (stop : ∀ next, G next (l.length : Int) = some 0) : fix G 0 = some (listE f none l) := by
  have key : ∀ m i : Nat, i + m = l.length → fix G (i : Int) = some (listE f (prevT l i) (l.drop i)) := by
    intro m
    induction m with
    | zero =>
      intro i hi
      have : i = l.length := by omega
      subst this
      rw [List.drop_length]
      exact fix_done stop
    | succ m ih =>
      intro i hi
      have hlt : i < l.length := by omega
      rw [List.drop_eq_getElem_cons hlt]
      unfold listE
      by_cases h1 : l[i].Tag < 0 ∨ 65535 < l[i].Tag
      · rw [if_pos h1]
        exact fix_done fun next => by rw [more next i hlt, if_pos h1]
      rw [if_neg h1]
      by_cases h2 : lowP (prevT l i) l[i]
      · rw [if_pos h2]
        exact fix_done fun next => by rw [more next i hlt, if_neg h1, if_pos h2]
      rw [if_neg h2]
      by_cases h3 : f l[i] ≠ 0
      · rw [if_pos h3]
        exact fix_done fun next => by rw [more next i hlt, if_neg h1, if_neg h2, if_pos h3]
      rw [if_neg h3, fix_goto ((i : Int) + 1) (fun next => by rw [more next i hlt, if_neg h1, if_neg h2, if_neg h3])]
      have := ih (i + 1) (by omega)
      have e1 : prevT l (i + 1) = some l[i].Tag := by show (l[i]?).map _ = _; rw [List.getElem?_eq_getElem hlt]; rfl
      rw [e1] at this
      exact this
  have := key l.length 0 (by omega)
  rw [List.drop_zero] at this
  exact this

/-- The error of a directory with so many levels left. -/
noncomputable def dE : Nat → List T_tag_Entry → Int
  | 0, _ => 4
  | d + 1, l => if 200 < l.length then 4 else listE (fun e => if e.Value.Kind ≠ 13 then plainE e.Value else if fieldsE e.Value ≠ 0 then fieldsE e.Value else dE d e.Value.Entries) none l

theorem low_step {α : Type} {l : List T_tag_Entry} {k : Nat} (hk : k < l.length) (hl : l.length ≤ 1000) (J : Option α) (x : α) :
    cnd (decide (0 < (k : Int))) (bnd (gI ((k : Int) - 1)) fun t => bnd (gAt l t) fun t35 => cnd (decide (l[k].Tag ≤ t35.Tag)) (some x) J) J = open Classical in if lowP (prevT l k) l[k] then some x else J := by
  rw [cI]
  cases k with
  | zero =>
    rw [if_neg (by omega), if_neg]
    rintro ⟨t, h, _⟩
    cases h
  | succ k =>
    have e : prevT l (k + 1) = some l[k].Tag := by show (l[k]?).map _ = _; rw [List.getElem?_eq_getElem (by omega)]; rfl
    rw [if_pos (by omega), gI_ok (by omega), bnd_pure, show (((k + 1 : Nat) : Int) - 1) = (k : Int) from by omega, gAt_nat (by omega), bnd_pure, cI, e]
    by_cases h : l[k + 1].Tag ≤ l[k].Tag
    · rw [if_pos h, if_pos ⟨_, rfl, h⟩]
    · rw [if_neg h, if_neg]
      rintro ⟨t, ht, h'⟩
      cases ht
      exact h h'

theorem checkDir_eq (d : Nat) (l : List T_tag_Entry) (deep : Int) (hd : deep = 6 - (d : Int)) (h5 : d ≤ 5) (hz : szD d l ≤ 2000000) : tag_checkDir l deep = some (dE d l) := by
  unfold tag_checkDir
  refine fix_ofG (fun d (a : List T_tag_Entry × Int) => some (dE d a.1)) (fun d a => a.2 = 6 - (d : Int) ∧ d ≤ 5 ∧ szD d a.1 ≤ 2000000) (fun d => d) ?_ d (l, deep) ⟨hd, h5, hz⟩
  rintro next d ⟨l, deep⟩ ⟨hd, h5, hz⟩ ih
  simp only at hd hz
  show tag_checkDir_body next l deep = some (dE d l)
  unfold tag_checkDir_body
  rw [cI, cI]
  cases d with
  | zero => rw [if_pos (by omega)]; rfl
  | succ d =>
    rw [if_neg (by omega)]
    unfold dE
    by_cases hl : 200 < l.length
    · rw [if_pos (by omega), if_pos hl]
    rw [if_neg (by omega), if_neg hl]
    refine list_loop l _ (fun nx k hk => ?_) (fun nx => ?_)
    · obtain ⟨hb, hzn⟩ := vB_of hz (List.getElem_mem hk)
      unfold tag_checkDir_l1
      rw [cI, if_pos (by omega), gAt_nat hk, bnd_pure, out_tag, bnd_pure, cI]
      by_cases h1 : l[k].Tag < 0 ∨ 65535 < l[k].Tag
      · rw [if_pos h1, if_pos h1]
      rw [if_neg h1, if_neg h1, low_step hk (by omega)]
      congr 1
      unfold tag_checkDir_j2
      have e3 : ∀ x : Int, tag_checkDir_j3 (k : Int) nx x = if x ≠ 0 then some x else nx ((k : Int) + 1) := fun x => by
        unfold tag_checkDir_j3; rw [cI, gI_ok (by omega), bnd_pure]
      rw [cI]
      by_cases h13 : l[k].Value.Kind ≠ 13
      · rw [if_pos h13, checkPlain_eq hb, bnd_pure, e3]; simp only [if_pos h13]
      · rw [if_neg h13, checkFields_eq, bnd_pure, cI]
        simp only [if_neg h13]
        by_cases hf : fieldsE l[k].Value = 0
        · have := ih d (l[k].Value.Entries, deep + 1) ⟨by show deep + 1 = _; omega, by omega, hzn⟩ (by omega)
          rw [if_pos hf, gI_ok (by omega), bnd_pure, this, bnd_pure, e3, if_neg (show ¬ fieldsE l[k].Value ≠ 0 from fun h => h hf)]
        · rw [if_neg hf, e3]; simp [hf]
    · unfold tag_checkDir_l1
      rw [cI, if_neg (by omega)]

theorem fields13 {v : T_tag_Value} (h : v.Kind = 13) : fieldsE v = open Classical in if v.Text ≠ [] ∨ v.Ints ≠ [] ∨ v.Ratios ≠ [] then 1 else 0 := by
  unfold fieldsE
  rw [if_neg (show ¬ ¬ kindP v.Kind from fun x => x (.inr (.inr (.inr h))))]
  congr 1
  apply propext
  unfold formP intsK textK
  rw [h]
  constructor
  · rintro (⟨_, a⟩ | ⟨_, a⟩ | ⟨_, a⟩ | ⟨a, _⟩)
    · exact .inr (.inl a)
    · exact .inl a
    · exact .inr (.inr a)
    · exact absurd rfl a
  · rintro (a | a | a)
    · exact .inr (.inl ⟨by omega, a⟩)
    · exact .inl ⟨by omega, a⟩
    · exact .inr (.inr (.inl ⟨by omega, a⟩))

theorem dirFault_eq (d : Nat) (l : List T_tag_Entry) (deep : Int) (hd : deep = 6 - (d : Int)) (h5 : d ≤ 5) (hz : szD d l ≤ 2000000) : R_dirFault l deep = some (dE d l) := by
  unfold R_dirFault
  refine fix_ofG (fun d (a : List T_tag_Entry × Int) => some (dE d a.1)) (fun d a => a.2 = 6 - (d : Int) ∧ d ≤ 5 ∧ szD d a.1 ≤ 2000000) (fun d => d) ?_ d (l, deep) ⟨hd, h5, hz⟩
  rintro next d ⟨l, deep⟩ ⟨hd, h5, hz⟩ ih
  simp only at hd hz
  show R_dirFault_body next l deep = some (dE d l)
  unfold R_dirFault_body
  rw [cI, cI]
  cases d with
  | zero => rw [if_pos (by omega)]; rfl
  | succ d =>
    rw [if_neg (by omega)]
    unfold dE
    by_cases hl : 200 < l.length
    · rw [if_pos (by omega), if_pos hl]
    rw [if_neg (by omega), if_neg hl]
    refine list_loop l _ (fun nx k hk => ?_) (fun nx => ?_)
    · obtain ⟨hb, hzn⟩ := vB_of hz (List.getElem_mem hk)
      unfold R_dirFault_l1
      rw [cI, if_pos (by omega), gAt_nat hk, bnd_pure, cI, cI]
      by_cases h1 : l[k].Tag < 0
      · rw [if_pos h1, if_pos (.inl h1)]
      by_cases h2 : 65535 < l[k].Tag
      · rw [if_neg h1, if_pos h2, if_pos (.inr h2)]
      rw [if_neg h1, if_neg h2, if_neg (show ¬ (l[k].Tag < 0 ∨ 65535 < l[k].Tag) by omega), low_step hk (by omega)]
      congr 1
      unfold R_dirFault_j3
      have e3 : ∀ a b c g i j m o, R_dirFault_j2 (k : Int) nx a b c g i j m o = nx ((k : Int) + 1) := fun a b c g i j m o => by
        unfold R_dirFault_j2; rw [gI_ok (by omega), bnd_pure]
      simp only [e3]
      rw [cI]
      by_cases h13 : l[k].Value.Kind ≠ 13
      · rw [if_pos h13, ValueFault_eq hb h13, bnd_pure, cI]; simp only [if_pos h13]
      · have h13' : l[k].Value.Kind = 13 := by simpa using h13
        rw [if_neg h13, cI, cI, cI]
        simp only [if_neg h13]
        rw [fields13 h13']
        by_cases a1 : l[k].Value.Text = []
        · by_cases a2 : l[k].Value.Ints = []
          · by_cases a3 : l[k].Value.Ratios = []
            · have := ih d (l[k].Value.Entries, deep + 1) ⟨by show deep + 1 = _; omega, by omega, hzn⟩ (by omega)
              rw [if_neg (show ¬ (l[k].Value.Text ≠ []) by simpa using a1), if_neg (by rw [ne_len]; simpa using a2), if_neg (by rw [ne_len]; simpa using a3), gI_ok (by omega), bnd_pure, this, bnd_pure, cI]
              simp [a1, a2, a3]
            · rw [if_neg (show ¬ (l[k].Value.Text ≠ []) by simpa using a1), if_neg (by rw [ne_len]; simpa using a2), if_pos ((ne_len _).2 a3)]
              simp [a3]
          · rw [if_neg (show ¬ (l[k].Value.Text ≠ []) by simpa using a1), if_pos ((ne_len _).2 a2)]
            simp [a2]
        · rw [if_pos a1]
          simp [a1]
    · unfold R_dirFault_l1
      rw [cI, if_neg (by omega)]


end Go.M

/- Values checked, in plain Lean. Conditions: none. -/
namespace Go.M
open Go.Md Go.Pl

theorem j2_faultF {v : T_tag_Value} (hb : vB v) : R_ValueFault_j2 v = open Classical in if ∃ n ∈ v.Ints, n < (limS v.Kind).1 ∨ (limS v.Kind).2 < n then some 2 else if ∃ r ∈ v.Ratios, ratP r then some 2 else if v.Kind = 2 ∧ (0 : UInt8) ∈ v.Text then some 9 else R_ValueFault_j5 v := by
  have e4 : R_ValueFault_j4 v = open Classical in if v.Kind = 2 ∧ (0 : UInt8) ∈ v.Text then some 9 else R_ValueFault_j5 v := by
    unfold R_ValueFault_j4
    rw [cI]
    by_cases h2 : v.Kind = 2
    · rw [if_pos h2]
      unfold strings_IndexByte internal_stringslite_IndexByte
      have hx : gIxB v.Text 0 = some (ixB v.Text 0) := by unfold gIxB; rfl
      have hm := (ixB_mem 0 v.Text).2
      rw [hx, bnd_pure, bnd_pure, bnd_pure, cI]
      by_cases h0 : (0 : UInt8) ∈ v.Text
      · rw [if_pos (hm.2 h0), if_pos ⟨h2, h0⟩]
      · rw [if_neg (fun h => h0 (hm.1 h)), if_neg (fun h => h0 h.2)]
    · rw [if_neg h2, if_neg (fun h => h2 h.1)]
  have e3 : R_ValueFault_j3 v = open Classical in if ∃ r ∈ v.Ratios, ratP r then some 2 else if v.Kind = 2 ∧ (0 : UInt8) ∈ v.Text then some 9 else R_ValueFault_j5 v := by
    unfold R_ValueFault_j3
    rw [look_loop (F := fun next6 s => R_ValueFault_l6 v next6 s) v.Ratios ratP 2 (R_ValueFault_j4 v) (fun next k hk => ?_) (fun next => ?_), e4]
    · show (_ → R_ValueFault_l6 v next (k : Int) = _) ∧ (_ → R_ValueFault_l6 v next (k : Int) = _)
      have := hb.2.2
      unfold R_ValueFault_l6 ratP
      rw [cI, if_pos (by omega), gAt_nat hk, bnd_pure, cI, cI, cI, cI]
      constructor
      · intro e
        by_cases h1 : v.Ratios[k].Num < 0
        · rw [if_pos h1]
        by_cases h2 : 4294967295 < v.Ratios[k].Num
        · rw [if_neg h1, if_pos h2]
        by_cases h3 : v.Ratios[k].Den < 0
        · rw [if_neg h1, if_neg h2, if_pos h3]
        rw [if_neg h1, if_neg h2, if_neg h3, if_pos (by omega)]
      · intro e
        rw [if_neg (by omega), if_neg (by omega), if_neg (by omega), if_neg (by omega), gI_ok (by omega), bnd_pure]
    · show R_ValueFault_l6 v next (v.Ratios.length : Int) = _
      unfold R_ValueFault_l6
      rw [cI, if_neg (by omega)]
  unfold R_ValueFault_j2
  rw [limits_eq, bnd_pure]
  rw [look_loop (F := fun next7 s => R_ValueFault_l7 v (limS v.Kind) next7 s) v.Ints (fun n => n < (limS v.Kind).1 ∨ (limS v.Kind).2 < n) 2 (R_ValueFault_j3 v) (fun next k hk => ?_) (fun next => ?_), e3]
  · split <;> rfl
  · show (_ → R_ValueFault_l7 v _ next (k : Int) = _) ∧ (_ → R_ValueFault_l7 v _ next (k : Int) = _)
    have := hb.2.1
    unfold R_ValueFault_l7
    rw [cI, if_pos (by omega), gAt_nat hk, bnd_pure, cI, cI]
    constructor
    · intro e
      by_cases h1 : v.Ints[k] < (limS v.Kind).1
      · rw [if_pos h1]
      · rw [if_neg h1, if_pos (e.resolve_left h1)]
    · intro e
      rw [if_neg (fun h => e (.inl h)), if_neg (fun h => e (.inr h)), gI_ok (by omega), bnd_pure]
  · show R_ValueFault_l7 v _ next (v.Ints.length : Int) = _
    unfold R_ValueFault_l7
    rw [cI, if_neg (by omega)]

theorem j10_faultF (v : T_tag_Value) (b : Bool) : R_ValueFault_j10 v b = open Classical in if b = true ∨ (v.Kind ≠ 13 ∧ v.Entries ≠ []) then some 1 else R_ValueFault_j2 v := by
  unfold R_ValueFault_j10
  cases b
  · rw [cnd_false, cI, cI]
    by_cases h2 : v.Entries = []
    · rw [if_neg (by rw [ne_len]; simpa using h2), if_neg (by simp [h2])]
    · rw [if_pos ((ne_len _).2 h2)]
      by_cases h1 : v.Kind = 13
      · rw [if_neg (by simpa using h1), if_neg (by simp [h1])]
      · rw [if_pos h1, if_pos (.inr ⟨h1, h2⟩)]
  · rw [cnd_true, cnd_true, if_pos (.inl rfl)]
theorem j9_faultF (v : T_tag_Value) (b : Bool) : R_ValueFault_j9 v b = open Classical in if b = true ∨ (v.Kind ≠ 5 ∧ v.Ratios ≠ []) ∨ (v.Kind ≠ 13 ∧ v.Entries ≠ []) then some 1 else R_ValueFault_j2 v := by
  unfold R_ValueFault_j9
  cases b
  · rw [cnd_false, cI, j10_faultF, j10_faultF]
    by_cases h2 : v.Ratios = []
    · rw [if_neg (by rw [ne_len]; simpa using h2)]; simp [h2]
    · rw [if_pos ((ne_len _).2 h2)]; simp [h2]
  · rw [cnd_true, cnd_true, if_pos (.inl rfl)]
theorem j8_faultF (v : T_tag_Value) (x4 b : Bool) : R_ValueFault_j8 v x4 b = open Classical in if b = true ∨ (x4 = false ∧ v.Ints ≠ []) ∨ (v.Kind ≠ 5 ∧ v.Ratios ≠ []) ∨ (v.Kind ≠ 13 ∧ v.Entries ≠ []) then some 1 else R_ValueFault_j2 v := by
  unfold R_ValueFault_j8
  cases b
  · rw [cnd_false, cI, j9_faultF, j9_faultF]
    by_cases h2 : v.Ints = []
    · rw [if_neg (by rw [ne_len]; simpa using h2)]; simp [h2]
    · rw [if_pos ((ne_len _).2 h2)]; cases x4 <;> simp [h2]
  · rw [cnd_true, cnd_true, if_pos (.inl rfl)]
theorem VF_fields (v : T_tag_Value) : R_ValueFault v = open Classical in if fieldsE v ≠ 0 then some (fieldsE v) else R_ValueFault_j2 v := by
  have e : R_ValueFault v = R_ValueFault_j1 v (decide (textK v.Kind)) (decide (intsK v.Kind)) := by
    unfold R_ValueFault textK intsK
    by_cases h2 : v.Kind = 2
    · simp [h2, cnd_true, cnd_false]
    by_cases h1 : v.Kind = 1
    · simp [h1, cnd_true, cnd_false]
    by_cases h3 : v.Kind = 3
    · simp [h3, cnd_true, cnd_false]
    by_cases h4 : v.Kind = 4
    · simp [h4, cnd_true, cnd_false]
    simp [h2, h1, h3, h4, cnd_false]
  rw [e]
  unfold R_ValueFault_j1
  rw [wide_eq, bnd_pure, cI]
  unfold fieldsE
  by_cases hk : kindP v.Kind
  · have hz : ¬ (if v.Kind = 13 then (4 : Int) else (wideN v.Kind : Int)) = 0 := by
      by_cases h13 : v.Kind = 13
      · rw [if_pos h13]; omega
      · rw [if_neg h13]; exact fun e => (wide_zero _ h13).1 e hk
    rw [if_neg hz, cI, j8_faultF, j8_faultF, if_neg (show ¬ ¬ kindP v.Kind from fun h => h hk)]
    have hfm : (if v.Text ≠ [] then (open Classical in if (!decide (textK v.Kind)) = true ∨ (decide (intsK v.Kind) = false ∧ v.Ints ≠ []) ∨ (v.Kind ≠ 5 ∧ v.Ratios ≠ []) ∨ (v.Kind ≠ 13 ∧ v.Entries ≠ []) then True else False) else (open Classical in if false = true ∨ (decide (intsK v.Kind) = false ∧ v.Ints ≠ []) ∨ (v.Kind ≠ 5 ∧ v.Ratios ≠ []) ∨ (v.Kind ≠ 13 ∧ v.Entries ≠ []) then True else False)) ↔ formP v := by
      unfold formP
      by_cases ht : v.Text = [] <;> by_cases hk1 : textK v.Kind <;> by_cases hk2 : intsK v.Kind <;> simp [ht, hk1, hk2]
    by_cases hf : formP v
    · rw [if_pos hf, if_pos (show (1 : Int) ≠ 0 by omega)]
      by_cases ht : v.Text = []
      · rw [if_neg (by simpa using ht)]
        rw [if_neg (by simpa using ht)] at hfm
        have := hfm.2 hf
        split at this
        · rename_i h; rw [if_pos h]
        · exact this.elim
      · rw [if_pos ht]
        rw [if_pos ht] at hfm
        have := hfm.2 hf
        split at this
        · rename_i h; rw [if_pos h]
        · exact this.elim
    · rw [if_neg hf, if_neg (show ¬ ((0 : Int) ≠ 0) by omega)]
      by_cases ht : v.Text = []
      · rw [if_neg (by simpa using ht)]
        rw [if_neg (by simpa using ht)] at hfm
        rw [if_neg (fun h => hf (hfm.1 (by rw [if_pos h]; trivial)))]
      · rw [if_pos ht]
        rw [if_pos ht] at hfm
        rw [if_neg (fun h => hf (hfm.1 (by rw [if_pos h]; trivial)))]
  · have h13 : v.Kind ≠ 13 := fun e => hk (.inr (.inr (.inr e)))
    rw [if_neg h13, if_pos ((wide_zero _ h13).2 hk), if_pos hk, if_pos (show (10 : Int) ≠ 0 by omega)]

/-- The error of a value. -/
noncomputable def valE (v : T_tag_Value) : Int := open Classical in if v.Kind ≠ 13 then plainE v else if fieldsE v ≠ 0 then fieldsE v else dE 5 v.Entries

theorem VF_eq {v : T_tag_Value} (hb : vB v) (hz : szD 5 v.Entries ≤ 2000000) : R_ValueFault v = some (valE v) := by
  rw [VF_fields]
  unfold valE plainE
  by_cases hf : fieldsE v ≠ 0
  · rw [if_pos hf, if_pos hf, if_pos hf]; split <;> rfl
  rw [if_neg hf, if_neg hf, if_neg hf, j2_faultF hb]
  by_cases h13 : v.Kind = 13
  · rw [if_neg (show ¬ v.Kind ≠ 13 from fun h => h h13)]
    have h0 : ¬ (v.Text ≠ [] ∨ v.Ints ≠ [] ∨ v.Ratios ≠ []) := fun h => hf (by rw [fields13 h13, if_pos h]; omega)
    have hi : v.Ints = [] := by
      by_cases h : v.Ints = []
      · exact h
      · exact absurd (.inr (.inl h)) h0
    have hr : v.Ratios = [] := by
      by_cases h : v.Ratios = []
      · exact h
      · exact absurd (.inr (.inr h)) h0
    rw [if_neg (by rw [hi]; simp), if_neg (by rw [hr]; simp), if_neg (by rw [h13]; omega)]
    unfold R_ValueFault_j5
    rw [cI, if_pos h13, dirFault_eq 5 _ 1 (by omega) (by omega) hz, bnd_pure]
  · rw [if_pos h13]
    have e5 : R_ValueFault_j5 v = some 0 := by unfold R_ValueFault_j5; rw [cI, if_neg h13]
    rw [e5]
    split
    · rfl
    split
    · rfl
    split <;> rfl
theorem CV_eq {v : T_tag_Value} (hb : vB v) (hz : szD 5 v.Entries ≤ 2000000) : tag_CheckValue v = some (valE v) := by
  unfold tag_CheckValue valE
  rw [cI]
  by_cases h13 : v.Kind = 13
  · rw [if_neg (show ¬ v.Kind ≠ 13 from fun h => h h13), if_neg (show ¬ v.Kind ≠ 13 from fun h => h h13), checkFields_eq, bnd_pure, cI]
    by_cases hf : fieldsE v ≠ 0
    · rw [if_pos hf, if_pos hf]
    · rw [if_neg hf, if_neg hf, checkDir_eq 5 _ 1 (by omega) (by omega) hz, bnd_pure]
  · rw [if_pos h13, if_pos h13, checkPlain_eq hb, bnd_pure]
end Go.M

/- strings.Trim at an ASCII cutset, as its model tells it. Conditions: none. -/
namespace Go.M
open Go.Md Go.Pl

/-- A loop that goes a known way. -/
theorem fix_way {α ρ : Type} {F : (α → Option ρ) → α → Option ρ} {o : Option ρ} (st : Nat → α) (n : Nat) (more : ∀ k, k < n → ∀ next, F next (st k) = next (st (k + 1))) (stop : ∀ next, F next (st n) = o) : fix F (st 0) = o := by
  have key : ∀ m, m ≤ n → fix F (st (n - m)) = o := by
    intro m
    induction m with
    | zero => intro _; exact fix_done stop
    | succ m ih =>
      intro h
      rw [fix_goto (b := st (n - (m + 1) + 1)) (more _ (by omega)), show n - (m + 1) + 1 = n - m from by omega]
      exact ih (by omega)
  simpa using key n (Nat.le_refl _)

def setC (cs : List UInt8) : Nat → Bool := cs.foldl (fun m c => setA m c.toNat true) (fun _ => false)
theorem setC_iff (cs : List UInt8) (c : UInt8) : setC cs c.toNat = true ↔ c ∈ cs := by
  have key : ∀ (cs : List UInt8) (m : Nat → Bool), cs.foldl (fun m c => setA m c.toNat true) m c.toNat = true ↔ m c.toNat = true ∨ c ∈ cs := by
    intro cs
    induction cs with
    | nil => intro m; simp
    | cons d cs ih =>
      intro m
      rw [List.foldl_cons, ih, List.mem_cons]
      unfold setA
      by_cases h : c.toNat = d.toNat
      · have : c = d := UInt8.toNat_inj.1 h
        simp [this]
      · have : c ≠ d := fun e => h (by rw [e])
        simp [h, this]
  unfold setC
  rw [key]; simp

theorem set_step {cs : List UInt8} (hcs : ∀ c ∈ cs, c.toNat < 128) (hl : cs.length ≤ 1000) {k : Nat} (hk : k < cs.length) (next : Int × (Nat → Bool) → Option ((Nat → Bool) × Bool)) (m : Nat → Bool) :
    strings_makeASCIISet_l2 cs next (k : Int) m = next ((k + 1 : Nat), setA m cs[k].toNat true) := by
  have hc := hcs _ (List.getElem_mem hk)
  unfold strings_makeASCIISet_l2
  rw [cnd_if, if_pos (by omega), gOct_nat hk, bnd_pure, cnd_if, if_neg (by omega), gIx_nat (by omega), bnd_pure, gI_ok (by omega), bnd_pure]
  rfl
theorem set_eq {cs : List UInt8} (hcs : ∀ c ∈ cs, c.toNat < 128) (hl : cs.length ≤ 1000) : strings_makeASCIISet cs = some (setC cs, true) := by
  unfold strings_makeASCIISet
  refine fix_way (fun k => ((k : Int), setC (cs.take k))) cs.length (fun k hk next => ?_) (fun _ => ?_)
  · show strings_makeASCIISet_l2 cs next (k : Int) (setC (cs.take k)) = _
    rw [set_step hcs hl hk]
    congr 2
    unfold setC
    rw [List.take_add_one, List.getElem?_eq_getElem hk, List.foldl_append]; rfl
  · show strings_makeASCIISet_l2 cs _ (cs.length : Int) (setC (cs.take cs.length)) = _
    unfold strings_makeASCIISet_l2
    rw [cnd_if, if_neg (by omega), List.take_length]; rfl

theorem has_eq (cs : List UInt8) (c : UInt8) : strings_asciiSet_contains (setC cs) (c.toNat : Int) = some (decide (c ∈ cs), setC cs) := by
  have hc := c.toNat_lt
  unfold strings_asciiSet_contains
  rw [gIx_nat (by omega), bnd_pure]
  congr 2
  rw [Bool.eq_iff_iff, setC_iff]; simp

theorem trimR {cs : List UInt8} (s : List UInt8) (hs : s.length ≤ 1000) : ∃ r : List UInt8 × (Nat → Bool), strings_trimRightASCII s (setC cs) = some r ∧ (∃ suf, s = r.1 ++ suf ∧ ∀ c ∈ suf, c ∈ cs) ∧ r.2 = setC cs ∧ (∀ c, r.1.getLast? = some c → c ∉ cs) := by
  unfold strings_trimRightASCII
  refine fix_run (fun a => (∃ suf, s = a.1 ++ suf ∧ ∀ c ∈ suf, c ∈ cs) ∧ a.2 = setC cs) (fun a => a.1.length) (fun (r : List UInt8 × (Nat → Bool)) => (∃ suf, s = r.1 ++ suf ∧ ∀ c ∈ suf, c ∈ cs) ∧ r.2 = setC cs ∧ (∀ c, r.1.getLast? = some c → c ∉ cs)) ?_ (s, setC cs) ⟨⟨[], by simp, by simp⟩, rfl⟩
  rintro ⟨x, m⟩ ⟨⟨suf, h1, h2⟩, h3⟩
  simp only at h1 h3
  subst h3
  have hl : x.length ≤ 1000 := by have := congrArg List.length h1; rw [List.length_append] at this; omega
  rcases List.eq_nil_or_concat x with rfl | ⟨ini, c, rfl⟩
  · exact .inl ⟨([], setC cs), ⟨⟨suf, h1, h2⟩, rfl, by simp⟩, fun _ => rfl⟩
  · simp only [List.concat_eq_append, List.length_append, List.length_singleton] at *
    have e1 : gI (((ini.length + 1 : Nat) : Int) - 1) = some (ini.length : Int) := by rw [gI_ok (by omega)]; congr 1; omega
    have e2 : gOct (ini ++ [c]) (ini.length : Int) = some (c.toNat : Int) := by rw [gOct_nat (by simp)]; simp
    have e3 : gCut (ini ++ [c]) 0 (ini.length : Int) = some ini := by rw [gCut_to (by simp; omega)]; simp
    have key : ∀ next, strings_trimRightASCII_l1 next (ini ++ [c]) (setC cs) = if c ∈ cs then next (ini, setC cs) else some (ini ++ [c], setC cs) := by
      intro next
      unfold strings_trimRightASCII_l1
      rw [List.length_append, List.length_singleton, cnd_if, if_pos (by omega), e1, bnd_pure, e2, bnd_pure, has_eq, bnd_pure, bnd_pure, e3, bnd_pure]
      by_cases hd : c ∈ cs
      · rw [if_pos hd]; simp [hd]
      · rw [if_neg hd]; simp [hd]
    by_cases hd : c ∈ cs
    · refine .inr ⟨(ini, setC cs), ⟨⟨c :: suf, by rw [h1]; simp, fun d hd' => ?_⟩, rfl⟩, by simp, fun next => (key next).trans (if_pos hd)⟩
      rcases List.mem_cons.1 hd' with rfl | h
      · exact hd
      · exact h2 d h
    · exact .inl ⟨(ini ++ [c], setC cs), ⟨⟨suf, h1, h2⟩, rfl, fun d hd' => by simp at hd'; subst hd'; exact hd⟩, fun next => (key next).trans (if_neg hd)⟩

theorem trimL {cs : List UInt8} (s : List UInt8) (hs : s.length ≤ 1000) : ∃ r : List UInt8 × (Nat → Bool), strings_trimLeftASCII s (setC cs) = some r ∧ (∃ pre, s = pre ++ r.1 ∧ ∀ c ∈ pre, c ∈ cs) ∧ r.2 = setC cs ∧ (∀ c, r.1.head? = some c → c ∉ cs) := by
  unfold strings_trimLeftASCII
  refine fix_run (fun a => (∃ pre, s = pre ++ a.1 ∧ ∀ c ∈ pre, c ∈ cs) ∧ a.2 = setC cs) (fun a => a.1.length) (fun (r : List UInt8 × (Nat → Bool)) => (∃ pre, s = pre ++ r.1 ∧ ∀ c ∈ pre, c ∈ cs) ∧ r.2 = setC cs ∧ (∀ c, r.1.head? = some c → c ∉ cs)) ?_ (s, setC cs) ⟨⟨[], by simp, by simp⟩, rfl⟩
  rintro ⟨x, m⟩ ⟨⟨pre, h1, h2⟩, h3⟩
  simp only at h1 h3
  subst h3
  cases x with
  | nil => exact .inl ⟨([], setC cs), ⟨⟨pre, h1, h2⟩, rfl, by simp⟩, fun _ => rfl⟩
  | cons c x =>
    have e2 : gOct (c :: x) 0 = some (c.toNat : Int) := by rw [gOct_ok (by omega) (by simp)]; rfl
    have e3 : gCut (c :: x) 1 ((c :: x).length : Nat) = some x := by rw [gCut_from (by rw [List.length_cons]; omega)]; rfl
    have key : ∀ next, strings_trimLeftASCII_l1 next (c :: x) (setC cs) = if c ∈ cs then next (x, setC cs) else some (c :: x, setC cs) := by
      intro next
      unfold strings_trimLeftASCII_l1
      rw [cnd_if, if_pos (by rw [List.length_cons]; omega), e2, bnd_pure, has_eq, bnd_pure, e3, bnd_pure]
      by_cases hd : c ∈ cs
      · rw [if_pos hd]; simp [hd]
      · rw [if_neg hd]; simp [hd]
    by_cases hd : c ∈ cs
    · refine .inr ⟨(x, setC cs), ⟨⟨pre ++ [c], by rw [h1]; simp, fun d hd' => ?_⟩, rfl⟩, by simp, fun next => (key next).trans (if_pos hd)⟩
      rcases List.mem_append.1 hd' with h | h
      · exact h2 d h
      · rw [List.mem_singleton.1 h]; exact hd
    · exact .inl ⟨(c :: x, setC cs), ⟨⟨pre, h1, h2⟩, rfl, fun d hd' => by simp at hd'; subst hd'; exact hd⟩, fun next => (key next).trans (if_neg hd)⟩

theorem trim_ok {cs : List UInt8} (hcs : ∀ c ∈ cs, c.toNat < 128) (h2 : 2 ≤ cs.length) (hcl : cs.length ≤ 1000) (s : List UInt8) (hs : s.length ≤ 1000) : ∃ r, strings_Trim s cs = some r ∧ (r = [] ↔ ∀ c ∈ s, c ∈ cs) := by
  unfold strings_Trim
  by_cases h0 : s = []
  · subst h0; exact ⟨[], rfl, by simp⟩
  · have hc0 : ¬ cs = [] := fun h => by rw [h] at h2; simp at h2
    rw [cnd_if, if_neg h0, cnd_if, if_neg hc0, cnd_if, if_neg (by omega)]
    obtain ⟨r, hr, ⟨suf, h1, h2⟩, h3, h4⟩ := trimR (cs := cs) s hs
    have hl : r.1.length ≤ 1000 := by have := congrArg List.length h1; rw [List.length_append] at this; omega
    obtain ⟨q, hq, ⟨pre, k1, k2⟩, _, k4⟩ := trimL (cs := cs) r.1 hl
    refine ⟨q.1, ?_, fun h c hc => ?_, fun h => ?_⟩
    · unfold strings_Trim_j1
      rw [set_eq hcs hcl, bnd_pure, cnd_true, hr, bnd_pure, h3, hq, bnd_pure]
    · rw [h1, k1, h] at hc
      simp only [List.append_nil, List.mem_append] at hc
      rcases hc with h | h
      · exact k2 c h
      · exact h2 c h
    · cases hq1 : q.1 with
      | nil => rfl
      | cons c x =>
        exact absurd (h c (by rw [h1, k1, hq1]; simp)) (k4 c (by rw [hq1]; rfl))
end Go.M

/- Strings in parts and as numbers, in plain Lean. Conditions: none. -/
namespace Go.M
open Go.Md Go.Pl

theorem cN {α : Type} {p : Prop} [Decidable p] {x y : Option α} (h : ¬ p) : cnd (decide p) x y = y := by rw [cnd_if, if_neg h]
theorem cY {α : Type} {p : Prop} [Decidable p] {x y : Option α} (h : p) : cnd (decide p) x y = x := by rw [cnd_if, if_pos h]

theorem gIxB_nat (s : List UInt8) (c : UInt8) : gIxB s (c.toNat : Int) = some (ixB s c) := by
  unfold gIxB
  rw [Int.toNat_natCast, show c.toNat.toUInt8 = c from by simp]

/-- What stands before the first c, what behind it, and whether there is one. -/
def cutS (c : UInt8) : List UInt8 → List UInt8 × List UInt8 × Bool
  | [] => ([], [], false)
  | b :: l => if b = c then ([], l, true) else (b :: (cutS c l).1, (cutS c l).2.1, (cutS c l).2.2)

theorem cutS_no {c : UInt8} {s : List UInt8} : (cutS c s).2.2 = false → cutS c s = (s, [], false) := by
  induction s with
  | nil => intro _; rfl
  | cons b l ih =>
    intro h
    unfold cutS at h ⊢
    by_cases hb : b = c
    · rw [if_pos hb] at h; cases h
    · rw [if_neg hb] at h ⊢; rw [ih h]
theorem cutS_yes {c : UInt8} {s : List UInt8} : (cutS c s).2.2 = true → s = (cutS c s).1 ++ c :: (cutS c s).2.1 := by
  induction s with
  | nil => intro h; cases h
  | cons b l ih =>
    intro h
    unfold cutS at h ⊢
    by_cases hb : b = c
    · rw [if_pos hb]; rw [hb]; rfl
    · rw [if_neg hb] at h ⊢
      show b :: l = b :: ((cutS c l).1 ++ c :: (cutS c l).2.1)
      rw [← ih h]
theorem cutS_ix (c : UInt8) (s : List UInt8) : ixB s c = if (cutS c s).2.2 = true then ((cutS c s).1.length : Int) else -1 := by
  induction s with
  | nil => rfl
  | cons b l ih =>
    unfold ixB cutS
    by_cases hb : b = c
    · rw [if_pos hb, if_pos hb]; rfl
    · rw [if_neg hb, if_neg hb, ih]
      by_cases h : (cutS c l).2.2 = true
      · simp only [if_pos h, List.length_cons]
        rw [if_neg (by omega)]; omega
      · simp only [if_neg h, if_true]
theorem cutS_len (c : UInt8) (s : List UInt8) : (cutS c s).1.length + (cutS c s).2.1.length ≤ s.length := by
  by_cases h : (cutS c s).2.2 = true
  · have := congrArg List.length (cutS_yes h); simp at this; omega
  · rw [cutS_no (by simpa using h)]; simp
theorem cutS_at {c : UInt8} {a b : List UInt8} (h : ∀ x ∈ a, x ≠ c) : cutS c (a ++ c :: b) = (a, b, true) := by
  induction a with
  | nil => simp [cutS]
  | cons x a ih =>
    show cutS c (x :: (a ++ c :: b)) = _
    unfold cutS
    rw [if_neg (h x (by simp)), ih fun y hy => h y (by simp [hy])]

theorem Index1_eq (s : List UInt8) (c : UInt8) : internal_stringslite_Index s [c] = some (ixB s c) := by
  unfold internal_stringslite_Index
  rw [cnd_if, if_neg (by simp), cnd_if]
  by_cases h : [c] = s
  · rw [if_pos h, ← h]; simp [ixB]
  · rw [if_neg h, cnd_if, if_pos (show (([c] : List UInt8).length : Int) = 1 from rfl)]
    show bnd (some (c.toNat : Int)) _ = _
    rw [bnd_pure]
    unfold internal_stringslite_IndexByte
    rw [gIxB_nat]; rfl

theorem Cut_eq {s : List UInt8} (hs : s.length ≤ 9223372036854775000) (c : UInt8) : strings_Cut s [c] = some (cutS c s) := by
  unfold strings_Cut internal_stringslite_Cut
  rw [Index1_eq, bnd_pure, cutS_ix]
  by_cases h : (cutS c s).2.2 = true
  · have hl := congrArg List.length (cutS_yes h)
    rw [List.length_append, List.length_cons] at hl
    have e1 : s.take (cutS c s).1.length = (cutS c s).1 := by
      have := List.take_left' (l₁ := (cutS c s).1) (l₂ := c :: (cutS c s).2.1) rfl
      rwa [← cutS_yes h] at this
    have e2 : s.drop ((cutS c s).1.length + 1) = (cutS c s).2.1 := by
      have := List.drop_left' (l₁ := (cutS c s).1 ++ [c]) (l₂ := (cutS c s).2.1) rfl
      rw [List.append_assoc, List.singleton_append, ← cutS_yes h] at this
      simpa using this
    have e4 : (([c] : List UInt8).length : Int) = 1 := rfl
    rw [if_pos h, cnd_if, if_pos (by omega), gCut_to (by omega), bnd_pure, gI_ok (by rw [e4]; omega), bnd_pure, gCut_from (by rw [e4]; omega), bnd_pure, bnd_pure]
    have e3 : (((cutS c s).1.length : Int) + (([c] : List UInt8).length : Int)).toNat = (cutS c s).1.length + 1 := by rw [e4]; omega
    rw [e3, e2, Int.toNat_natCast, e1, ← h]
  · rw [if_neg h, cnd_if, if_neg (by omega), bnd_pure, cutS_no (by simpa using h)]

theorem Pre_eq (s : List UInt8) (c : UInt8) : internal_stringslite_HasPrefix s [c] = some (decide (s.head? = some c)) := by
  unfold internal_stringslite_HasPrefix
  rw [cnd_if]
  cases s with
  | nil => simp
  | cons b l =>
    have e4 : (([c] : List UInt8).length : Int) = 1 := rfl
    rw [if_pos (by rw [e4, List.length_cons]; omega), gCut_to (by rw [e4, List.length_cons]; omega), bnd_pure]
    simp
theorem TrimP_eq (s : List UInt8) (c : UInt8) : strings_TrimPrefix s [c] = some (if s.head? = some c then s.tail else s) := by
  unfold strings_TrimPrefix internal_stringslite_TrimPrefix
  rw [Pre_eq, bnd_pure]
  by_cases h : s.head? = some c
  · have h1 : 1 ≤ s.length := by cases s with | nil => cases h | cons => simp
    rw [decide_eq_true h, cnd_true, gCut_from (by rw [show (([c] : List UInt8).length : Int) = 1 from rfl]; omega), bnd_pure, bnd_pure, if_pos h]
    simp [List.drop_one]
  · rw [decide_eq_false h, cnd_false, bnd_pure, if_neg h]

def dg (c : UInt8) : Bool := decide (48 ≤ c.toNat ∧ c.toNat ≤ 57)
def valS (a : Nat) (l : List UInt8) : Nat := l.foldl (fun n c => n * 10 + (c.toNat - 48)) a
def D10 : List UInt8 := [48, 49, 50, 51, 52, 53, 54, 55, 56, 57]
theorem dg_mem (c : UInt8) : c ∈ D10 ↔ dg c = true := by
  unfold dg
  rw [decide_eq_true_iff]
  constructor
  · intro h
    simp only [D10, List.mem_cons, List.not_mem_nil, or_false] at h
    rcases h with h | h | h | h | h | h | h | h | h | h <;> subst h <;> decide
  · intro h
    have e : c = UInt8.ofNat c.toNat := by simp
    have : c.toNat = 48 ∨ c.toNat = 49 ∨ c.toNat = 50 ∨ c.toNat = 51 ∨ c.toNat = 52 ∨ c.toNat = 53 ∨ c.toNat = 54 ∨ c.toNat = 55 ∨ c.toNat = 56 ∨ c.toNat = 57 := by omega
    rcases this with h | h | h | h | h | h | h | h | h | h <;> rw [h] at e <;> rw [e] <;> decide
theorem TrimD (s : List UInt8) (hs : s.length ≤ 1000) : ∃ r, strings_Trim s [48, 49, 50, 51, 52, 53, 54, 55, 56, 57] = some r ∧ (r = [] ↔ s.all dg = true) := by
  obtain ⟨r, h1, h2⟩ := trim_ok (cs := D10) (by decide) (by decide) (by decide) s hs
  refine ⟨r, h1, h2.trans ?_⟩
  rw [List.all_eq_true]
  exact ⟨fun h c hc => (dg_mem c).1 (h c hc), fun h c hc => (dg_mem c).2 (h c hc)⟩
theorem decF_val {l : List UInt8} : ∀ {a : Nat}, l.all dg = true → decF a l = some (valS a l) := by
  induction l with
  | nil => intro a _; rfl
  | cons c l ih =>
    intro a h
    rw [List.all_cons, Bool.and_eq_true] at h
    unfold decF digV
    have := h.1
    unfold dg at this
    rw [decide_eq_true_iff] at this
    rw [if_pos this]
    exact ih h.2
theorem atoi_val {l : List UInt8} (hl : l ≠ []) (hn : l.length ≤ 18) (h : l.all dg = true) : gAtoi l = some ((valS 0 l : Nat) : Int) := by
  unfold gAtoi
  rw [if_pos hn]
  cases l with
  | nil => exact absurd rfl hl
  | cons c l =>
    have hc : dg c = true := by rw [List.all_cons, Bool.and_eq_true] at h; exact h.1
    have h45 : ¬ (c == 45) = true := by intro e; rw [beq_iff_eq] at e; subst e; revert hc; decide
    have h43 : ¬ (c == 43) = true := by intro e; rw [beq_iff_eq] at e; subst e; revert hc; decide
    show (if (c == 45) = true then _ else if (c == 43) = true then _ else (decN (c :: l)).map fun (m : Nat) => (m : Int)) = _
    rw [if_neg h45, if_neg h43]
    unfold decN
    rw [if_neg (by simp), decF_val h]; rfl
theorem valS_app (a : Nat) (l m : List UInt8) : valS a (l ++ m) = valS (valS a l) m := List.foldl_append
theorem valS_acc (l : List UInt8) : ∀ a : Nat, valS a l = a * 10 ^ l.length + valS 0 l := by
  induction l with
  | nil => intro a; simp [valS]
  | cons c l ih =>
    intro a
    show valS (a * 10 + (c.toNat - 48)) l = _ + valS (0 * 10 + (c.toNat - 48)) l
    rw [ih (a * 10 + (c.toNat - 48)), ih (0 * 10 + (c.toNat - 48)), List.length_cons, Nat.pow_succ, Nat.zero_mul, Nat.zero_add, Nat.add_mul, Nat.add_assoc, Nat.mul_assoc, Nat.mul_comm 10]
theorem valS_lt {l : List UInt8} (h : l.all dg = true) : valS 0 l < 10 ^ l.length := by
  induction l with
  | nil => simp [valS]
  | cons c l ih =>
    rw [List.all_cons, Bool.and_eq_true] at h
    have h1 := ih h.2
    have h2 := h.1
    unfold dg at h2
    rw [decide_eq_true_iff] at h2
    show valS (0 * 10 + (c.toNat - 48)) l < _
    rw [valS_acc, List.length_cons, Nat.pow_succ, Nat.zero_mul, Nat.zero_add]
    have h3 : (c.toNat - 48) * 10 ^ l.length ≤ 9 * 10 ^ l.length := Nat.mul_le_mul_right _ (by omega)
    omega

theorem dg_ofNat {d : Nat} (h : d < 10) : dg (UInt8.ofNat (48 + d)) = true ∧ (UInt8.ofNat (48 + d)).toNat - 48 = d := by
  have e : (UInt8.ofNat (48 + d)).toNat = 48 + d := by rw [UInt8.toNat_ofNat']; omega
  unfold dg
  rw [e, decide_eq_true_iff]
  omega
theorem decD_spec : ∀ (k u : Nat), u < 10 ^ (k + 1) → (decD u).all dg = true ∧ valS 0 (decD u) = u ∧ decD u ≠ [] ∧ (decD u).length ≤ k + 1 ∧ ((decD u).head? = some 48 → u = 0) ∧ (u = 0 → decD u = [48]) := by
  intro k
  induction k with
  | zero =>
    intro u hu
    have hu : u < 10 := by simpa using hu
    unfold decD
    rw [if_pos hu]
    obtain ⟨h1, h2⟩ := dg_ofNat hu
    refine ⟨by rw [List.all_cons, h1]; rfl, ?_, by simp, by simp, fun h => ?_, fun h => by subst h; rfl⟩
    · show 0 * 10 + ((UInt8.ofNat (48 + u)).toNat - 48) = u
      omega
    · simp only [List.head?_cons, Option.some.injEq] at h
      rw [h] at h2
      simpa using h2.symm
  | succ k ih =>
    intro u hu
    unfold decD
    by_cases h10 : u < 10
    · rw [if_pos h10]
      obtain ⟨h1, h2⟩ := dg_ofNat h10
      refine ⟨by rw [List.all_cons, h1]; rfl, ?_, by simp, by simp, fun h => ?_, fun h => by subst h; rfl⟩
      · show 0 * 10 + ((UInt8.ofNat (48 + u)).toNat - 48) = u
        omega
      · simp only [List.head?_cons, Option.some.injEq] at h
        rw [h] at h2
        simpa using h2.symm
    · rw [if_neg h10]
      obtain ⟨h1, h2⟩ := dg_ofNat (d := u % 10) (by omega)
      obtain ⟨i1, i2, i3, i4, i5, i6⟩ := ih (u / 10) (by rw [Nat.pow_succ] at hu; omega)
      refine ⟨by rw [List.all_append, i1, List.all_cons, h1]; rfl, ?_, by simp, by simp; omega, fun h => ?_, fun h => by omega⟩
      · rw [valS_app, i2]
        show u / 10 * 10 + ((UInt8.ofNat (48 + u % 10)).toNat - 48) = u
        omega
      · exfalso
        have : (decD (u / 10)).head? = some 48 := by
          cases hd : decD (u / 10) with
          | nil => exact absurd hd i3
          | cons c l => rw [hd] at h; simpa using h
        have := i5 this
        omega

theorem head_ne {a : List UInt8} (h : a ≠ []) (c : UInt8) : gOct a 0 = some ((a.head h).toNat : Int) := by
  cases a with
  | nil => exact absurd rfl h
  | cons x a => rfl
theorem head48 {a : List UInt8} (h : a ≠ []) : ((a.head h).toNat : Int) = 48 ↔ a.head? = some 48 := by
  cases a with
  | nil => exact absurd rfl h
  | cons x a =>
    simp only [List.head_cons, List.head?_cons, Option.some.injEq]
    constructor
    · intro e
      have : x = UInt8.ofNat x.toNat := by simp
      rw [show x.toNat = 48 from by omega] at this
      exact this
    · intro e; subst e; rfl


end Go.M

/- Numbers as strings: what Itoa writes of what Atoi reads, in plain Lean. Conditions: none. -/
namespace Go.M
open Go.Md

theorem valS_pos {l : List UInt8} (h : l.all dg = true) (h0 : l ≠ []) (hh : l.head? ≠ some 48) : 1 ≤ valS 0 l := by
  cases l with
  | nil => exact absurd rfl h0
  | cons c l =>
    rw [List.all_cons, Bool.and_eq_true] at h
    have h2 := h.1
    unfold dg at h2
    rw [decide_eq_true_iff] at h2
    have h3 : c ≠ 48 := fun e => hh (by rw [e]; rfl)
    have h4 : c.toNat ≠ 48 := fun e => h3 (by rw [← UInt8.ofNat_toNat (x := c), e]; rfl)
    show 1 ≤ valS (0 * 10 + (c.toNat - 48)) l
    rw [valS_acc]
    have : 1 * 10 ^ l.length ≤ (0 * 10 + (c.toNat - 48)) * 10 ^ l.length := Nat.mul_le_mul_right _ (by omega)
    have := Nat.one_le_two_pow (n := 0)
    have h10 : 1 ≤ 10 ^ l.length := Nat.one_le_pow _ _ (by omega)
    omega
theorem dg_back {c : UInt8} (h : dg c = true) : UInt8.ofNat (48 + (c.toNat - 48)) = c := by
  unfold dg at h
  rw [decide_eq_true_iff] at h
  rw [show 48 + (c.toNat - 48) = c.toNat from by omega, UInt8.ofNat_toNat]
theorem decD_back : ∀ (k : Nat) (l : List UInt8), l.length ≤ k → l.all dg = true → l ≠ [] → (l.head? = some 48 → l = [48]) → decD (valS 0 l) = l := by
  intro k
  induction k with
  | zero => intro l hk _ h0; exact absurd (List.length_eq_zero_iff.1 (by omega)) h0
  | succ k ih =>
    intro l hk h h0 hh
    have e := List.dropLast_concat_getLast h0
    generalize hm : l.dropLast = m at e
    generalize hc : l.getLast h0 = c at e
    have hd : m.all dg = true ∧ dg c = true := by
      rw [← e, List.all_append, Bool.and_eq_true] at h
      exact ⟨h.1, by simpa using h.2⟩
    have hcd := hd.2
    unfold dg at hcd
    rw [decide_eq_true_iff] at hcd
    have hv : valS 0 l = valS 0 m * 10 + (c.toNat - 48) := by rw [← e, valS_app]; rfl
    have hl : m.length + 1 = l.length := by rw [← e]; simp
    by_cases m0 : m = []
    · subst m0
      rw [hv, show valS 0 [] = 0 from rfl, Nat.zero_mul, Nat.zero_add]
      unfold decD
      rw [if_pos (by omega), dg_back hd.2]
      exact e
    · have mh : m.head? ≠ some 48 := fun e1 => by
        have : l.head? = some 48 := by rw [← e, List.head?_append, e1]; rfl
        have := hh this
        rw [this] at hl
        have : m.length = 0 := by simpa using hl
        exact m0 (List.length_eq_zero_iff.1 this)
      have p1 := valS_pos hd.1 m0 mh
      have i1 := ih m (by omega) hd.1 m0 (fun e1 => absurd e1 mh)
      unfold decD
      rw [hv, if_neg (by omega), show (valS 0 m * 10 + (c.toNat - 48)) / 10 = valS 0 m from by omega, show (valS 0 m * 10 + (c.toNat - 48)) % 10 = c.toNat - 48 from by omega, i1, dg_back hd.2]
      exact e

/-- The digits of a number with a sign. -/
def digS (s : List UInt8) : List UInt8 := if s.head? = some 45 then s.tail else s
def numV (s : List UInt8) : Int := if s.head? = some 45 then -((valS 0 s.tail : Nat) : Int) else ((valS 0 s : Nat) : Int)
/-- A number of at most n digits, as Itoa writes it. -/
def numOk (n : Nat) (s : List UInt8) : Prop := digS s ≠ [] ∧ (digS s).length ≤ n ∧ (digS s).all dg = true ∧ ((digS s).head? = some 48 → s = [48])

theorem numV_lt {s : List UInt8} {n : Nat} (hd : (digS s).all dg = true) (hn : (digS s).length ≤ n) : -((10 ^ n : Nat) : Int) < numV s ∧ numV s < ((10 ^ n : Nat) : Int) := by
  have h1 := valS_lt hd
  have h2 : 10 ^ (digS s).length ≤ 10 ^ n := Nat.pow_le_pow_right (by omega) hn
  unfold numV
  unfold digS at h1 h2
  split
  · rename_i h; rw [if_pos h] at h1 h2; omega
  · rename_i h; rw [if_neg h] at h1 h2; omega

theorem atoi_num {s : List UInt8} (h0 : digS s ≠ []) (hn : (digS s).length ≤ 17) (hd : (digS s).all dg = true) : gAtoi s = some (numV s) := by
  unfold digS at h0 hn hd
  unfold numV
  by_cases h : s.head? = some 45
  · rw [if_pos h] at h0 hn hd ⊢
    cases s with
    | nil => cases h
    | cons c l =>
      have hc : c = 45 := by simpa using h
      subst hc
      rw [List.tail_cons] at h0 hn hd ⊢
      unfold gAtoi
      rw [if_pos (by simp; omega)]
      show (if ((45 : UInt8) == 45) = true then (decN l).map fun (m : Nat) => -(m : Int) else if ((45 : UInt8) == 43) = true then (decN l).map fun (m : Nat) => (m : Int) else (decN (45 :: l)).map fun (m : Nat) => (m : Int)) = _
      rw [if_pos (by decide)]
      unfold decN
      rw [if_neg (by simpa using h0), decF_val hd]; rfl
  · rw [if_neg h] at h0 hn hd ⊢
    exact atoi_val h0 (by omega) hd

theorem decD_zero : decD 0 = [48] := by unfold decD; rw [if_pos (by omega)]; rfl

/-- What Itoa writes of it is the string itself just where there is no zero that it does not need. -/
theorem itoa_num {s : List UInt8} (h0 : digS s ≠ []) (hd : (digS s).all dg = true) : itoaL (numV s) = s ↔ ((digS s).head? = some 48 → s = [48]) := by
  unfold digS at h0 hd ⊢
  unfold numV
  by_cases h : s.head? = some 45
  · rw [if_pos h] at h0 hd ⊢
    rw [if_pos h]
    cases s with
    | nil => cases h
    | cons c l =>
      have hc : c = 45 := by simpa using h
      subst hc
      rw [List.tail_cons] at h0 hd ⊢
      by_cases hh : l.head? = some 48
      · refine ⟨fun e => ?_, fun e => ?_⟩
        · exfalso
          unfold itoaL at e
          split at e
          · rename_i hneg
            have e1 : decD (valS 0 l) = l := by
              have : (-((valS 0 l : Nat) : Int)).natAbs = valS 0 l := by omega
              rw [this] at e
              simpa using e
            obtain ⟨k, hk⟩ : ∃ k, valS 0 l < 10 ^ (k + 1) := ⟨l.length, Nat.lt_of_lt_of_le (valS_lt hd) (Nat.pow_le_pow_right (by omega) (by omega))⟩
            have := (decD_spec k _ hk).2.2.2.2.1 (by rw [e1]; exact hh)
            omega
          · rename_i hneg
            have hv : valS 0 l = 0 := by omega
            rw [hv] at e
            rw [show (-((0 : Nat) : Int)).toNat = 0 from rfl, decD_zero] at e
            simp at e
        · have := e hh
          simp at this
      · refine ⟨fun _ e => absurd e hh, fun _ => ?_⟩
        have p1 := valS_pos hd h0 hh
        unfold itoaL
        rw [if_pos (by omega), show (-((valS 0 l : Nat) : Int)).natAbs = valS 0 l from by omega, decD_back l.length l (Nat.le_refl _) hd h0 (fun e => absurd e hh)]
  · rw [if_neg h] at h0 hd ⊢
    rw [if_neg h]
    have e1 : itoaL ((valS 0 s : Nat) : Int) = decD (valS 0 s) := by unfold itoaL; rw [if_neg (by omega), Int.toNat_natCast]
    rw [e1]
    refine ⟨fun e hh => ?_, fun e => decD_back s.length s (Nat.le_refl _) hd h0 e⟩
    obtain ⟨k, hk⟩ : ∃ k, valS 0 s < 10 ^ (k + 1) := ⟨s.length, Nat.lt_of_lt_of_le (valS_lt hd) (Nat.pow_le_pow_right (by omega) (by omega))⟩
    obtain ⟨_, _, _, _, a5, a6⟩ := decD_spec k _ hk
    have := a5 (by rw [e]; exact hh)
    rw [a6 this] at e
    exact e.symm
end Go.M

/- Strings in parts, in plain Lean. Conditions: none. -/
namespace Go.M
open Go.Md Go.Pl

theorem j2_split {B n k : Nat} {x : List UInt8} {l : List (List UInt8)} (hk : k ≤ n) (hn : n ≤ 2000000) (hl : l.length = n + 1) (hx : x.length ≤ B) (hb : ∀ y ∈ l, y.length ≤ B) :
    ∃ r, strings_genSplit_j2 x (k : Int) l = some r ∧ r ≠ [] ∧ r.length ≤ n + 1 ∧ ∀ y ∈ r, y.length ≤ B := by
  unfold strings_genSplit_j2
  rw [gAt_nat (by omega), bnd_pure, gSet_ok (by omega) (by omega), bnd_pure, gI_ok (by omega), bnd_pure, gCut_to (by rw [List.length_set]; omega), bnd_pure]
  refine ⟨_, rfl, fun e => ?_, ?_, fun y hy => ?_⟩
  · have := congrArg List.length e
    rw [List.length_take, List.length_set] at this
    simp only [List.length_nil] at this
    omega
  · rw [List.length_take, List.length_set]; omega
  · rcases List.mem_or_eq_of_mem_set (List.mem_of_mem_take hy) with h | h
    · exact hb y h
    · rw [h]; exact hx

theorem split_loop {B n : Nat} (hn : n ≤ 2000000) (hB : B ≤ 2000000) (c : UInt8) (s : List UInt8) (l : List (List UInt8)) (hl : l.length = n + 1) (hs : s.length ≤ B) (hb : ∀ y ∈ l, y.length ≤ B) :
    ∃ r, fix (fun next3 s => strings_genSplit_l3 [c] 0 (n : Int) next3 s.1 s.2.1 s.2.2) (s, (0 : Int), l) = some r ∧ r ≠ [] ∧ r.length ≤ n + 1 ∧ ∀ y ∈ r, y.length ≤ B := by
  refine fix_run (fun a : List UInt8 × Int × List (List UInt8) => ∃ k : Nat, a.2.1 = (k : Int) ∧ k ≤ n ∧ a.1.length ≤ B ∧ a.2.2.length = n + 1 ∧ ∀ y ∈ a.2.2, y.length ≤ B) (fun a : List UInt8 × Int × List (List UInt8) => n - a.2.1.toNat) (fun r : List (List UInt8) => r ≠ [] ∧ r.length ≤ n + 1 ∧ ∀ y ∈ r, y.length ≤ B) ?_ (s, (0 : Int), l) ⟨0, rfl, by omega, hs, hl, hb⟩
  rintro ⟨x, i, l⟩ ⟨k, hk, hkn, hx, hl, hb⟩
  simp only at hk hx hl hb
  subst hk
  obtain ⟨r, hr, hr2⟩ := j2_split hkn hn hl hx hb
  by_cases hlt : k < n
  · have hi : strings_Index x [c] = some (ixB x c) := by unfold strings_Index; rw [Index1_eq, bnd_pure]
    by_cases hc : (cutS c x).2.2 = true
    · right
      have hix := cutS_ix c x
      rw [if_pos hc] at hix
      have hln := congrArg List.length (cutS_yes hc)
      rw [List.length_append, List.length_cons] at hln
      have hm : (cutS c x).1.length < x.length := by omega
      refine ⟨(x.drop ((cutS c x).1.length + 1), ((k + 1 : Nat) : Int), l.set k (x.take (cutS c x).1.length)), ⟨k + 1, rfl, by omega, by rw [List.length_drop]; omega, by rw [List.length_set]; exact hl, fun y hy => ?_⟩, ?_, fun next => ?_⟩
      · rcases List.mem_or_eq_of_mem_set hy with h | h
        · exact hb y h
        · rw [h, List.length_take]; omega
      · show n - (((k + 1 : Nat) : Int)).toNat < n - ((k : Int)).toNat
        omega
      · show strings_genSplit_l3 [c] 0 (n : Int) next x (k : Int) l = _
        unfold strings_genSplit_l3
        have e1 : (([c] : List UInt8).length : Int) = 1 := rfl
        rw [cnd_if, if_pos (by omega), hi, bnd_pure, hix, cnd_if, if_neg (by omega), gI_ok (by omega), bnd_pure, gCut_to (by omega), bnd_pure, gAt_nat (by omega), bnd_pure, gSet_ok (by omega) (by omega), bnd_pure, e1, gI_ok (by omega), bnd_pure, gCut_from (by omega), bnd_pure, gI_ok (by omega), bnd_pure]
        rw [show (((cutS c x).1.length : Int) + 0).toNat = (cutS c x).1.length from by omega, show (((cutS c x).1.length : Int) + 1).toNat = (cutS c x).1.length + 1 from by omega, Int.toNat_natCast]
        rfl
    · left
      refine ⟨r, hr2, fun next => ?_⟩
      show strings_genSplit_l3 [c] 0 (n : Int) next x (k : Int) l = _
      unfold strings_genSplit_l3
      have hix := cutS_ix c x
      rw [if_neg hc] at hix
      rw [cnd_if, if_pos (by omega), hi, bnd_pure, hix, cnd_if, if_pos (by omega), hr]
  · left
    refine ⟨r, hr2, fun next => ?_⟩
    show strings_genSplit_l3 [c] 0 (n : Int) next x (k : Int) l = _
    unfold strings_genSplit_l3
    rw [cnd_if, if_neg (by omega), hr]

/-- A string in parts: there is at least one. -/
theorem Split_ok (c : UInt8) (s : List UInt8) (hs : s.length ≤ 1000000) : ∃ r, strings_Split s [c] = some r ∧ r ≠ [] ∧ r.length ≤ s.length + 1 ∧ ∀ y ∈ r, y.length ≤ s.length := by
  have hc := List.count_le_length (a := c) (l := s)
  have e1 : strings_Count s [c] = some ((s.count c : Nat) : Int) := by
    unfold strings_Count
    rw [cnd_if, if_neg (by simp), cnd_if, if_pos (by rfl), show gOct [c] 0 = some (c.toNat : Int) from rfl, bnd_pure, show gCnB s (c.toNat : Int) = some ((s.count c : Nat) : Int) from by unfold gCnB; rw [Int.toNat_natCast]; simp, bnd_pure]
  obtain ⟨r, h1, h2, h3, h4⟩ := split_loop (B := s.length) (n := s.count c) (by omega) (by omega) c s (List.replicate (s.count c + 1) []) (by simp) (Nat.le_refl _) (fun y hy => by rw [(List.mem_replicate.1 hy).2]; simp)
  refine ⟨r, ?_, h2, by omega, h4⟩
  unfold strings_Split strings_genSplit
  rw [cnd_if, if_neg (by omega), cnd_if, if_neg (by simp), cnd_if, if_pos (by omega), e1, bnd_pure, gI_ok (by omega), bnd_pure]
  unfold strings_genSplit_j1
  rw [gI_ok (by omega), bnd_pure, show min ((s.count c : Int) + 1) ((s.length : Int) + 1) = ((s.count c + 1 : Nat) : Int) from by omega, gMake_ok (by omega), bnd_pure, gI_ok (by omega), bnd_pure, Int.toNat_natCast, show (((s.count c + 1 : Nat) : Int) - 1) = ((s.count c : Nat) : Int) from by omega, h1, bnd_pure]


end Go.M

/- Lengths of numbers, in plain Lean. Conditions: none. -/
namespace Go.M
open Go.Md Go.Pl

theorem decD_len (u : Nat) (k : Nat) (h : u < 10 ^ (k + 1)) : (decD u).length ≤ k + 1 := by
  induction k generalizing u with
  | zero => rw [decD, if_pos (by omega)]; simp
  | succ k ih =>
    rw [decD]
    split
    · simp
    · have := ih (u / 10) (by rw [Nat.pow_succ] at h; omega)
      rw [List.length_append, List.length_singleton]; omega

end Go.M

/- Values as text and read back, in plain Lean; the law TagValues. Conditions: none. -/
namespace Go.M
open Go.Md Go.Pl

/-! ### numbers -/

instance (n : Nat) (s : List UInt8) : Decidable (numOk n s) := by unfold numOk; infer_instance

theorem pn_j1 (s : List UInt8) : ∃ v, tag_plainNumber_j1 s (digS s) = some (v, decide (numOk 10 s)) ∧ (numOk 10 s → v = numV s) := by
  unfold tag_plainNumber_j1
  rw [cnd_if, cnd_if]
  by_cases h0 : digS s = []
  · rw [if_pos h0]
    have : ¬ numOk 10 s := fun h => h.1 h0
    exact ⟨0, by simp [this], fun h => absurd h this⟩
  by_cases h4 : (digS s).length ≤ 10
  · obtain ⟨r, hr, hr2⟩ := TrimD (digS s) (by omega)
    rw [if_neg h0, if_neg (by omega), hr, bnd_pure, cnd_if]
    by_cases hd : (digS s).all dg = true
    · have hb := numV_lt hd h4
      rw [if_neg (fun h => h (hr2.2 hd)), atoi_num h0 (by omega) hd, bnd_pure, show gItoa (numV s) = some (itoaL (numV s)) from if_pos (by omega), bnd_pure]
      refine ⟨numV s, ?_, fun _ => rfl⟩
      congr 2
      rw [decide_eq_decide, itoa_num h0 hd]
      exact ⟨fun h => ⟨h0, h4, hd, h⟩, fun h => h.2.2.2⟩
    · have : ¬ numOk 10 s := fun h => hd h.2.2.1
      rw [if_pos (fun h => hd (hr2.1 h))]
      exact ⟨0, by simp [this], fun h => absurd h this⟩
  · rw [if_neg h0, if_pos (by omega)]
    have : ¬ numOk 10 s := fun h => h4 h.2.1
    exact ⟨0, by simp [this], fun h => absurd h this⟩
theorem wh_j1 (s : List UInt8) : ∃ v, R_Whole_j1 s 10 (digS s) = some (v, decide (numOk 10 s)) ∧ (numOk 10 s → v = numV s) := by
  unfold R_Whole_j1
  rw [cnd_if, cnd_if]
  by_cases h0 : digS s = []
  · rw [if_pos h0]
    have : ¬ numOk 10 s := fun h => h.1 h0
    exact ⟨0, by simp [this], fun h => absurd h this⟩
  by_cases h4 : (digS s).length ≤ 10
  · obtain ⟨r, hr, hr2⟩ := TrimD (digS s) (by omega)
    rw [if_neg h0, if_neg (by omega), hr, bnd_pure, cnd_if]
    by_cases hd : (digS s).all dg = true
    · rw [if_neg (fun h => h (hr2.2 hd)), head_ne h0 0, bnd_pure, cnd_if, cnd_if]
      have j2 : R_Whole_j2 s = some (numV s, true) := by
        unfold R_Whole_j2
        rw [atoi_num h0 (by omega) hd, bnd_pure]
      by_cases h48 : (((digS s).head h0).toNat : Int) = 48
      · rw [if_pos h48]
        by_cases hz : s = [48]
        · have : numOk 10 s := ⟨h0, h4, hd, fun _ => hz⟩
          rw [if_neg (by simpa using hz), j2]
          exact ⟨_, by simp [this], fun _ => rfl⟩
        · have : ¬ numOk 10 s := fun h => hz (h.2.2.2 ((head48 h0).1 h48))
          rw [if_pos hz]
          exact ⟨0, by simp [this], fun h => absurd h this⟩
      · have : numOk 10 s := ⟨h0, h4, hd, fun h => absurd ((head48 h0).2 h) h48⟩
        rw [if_neg h48, j2]
        exact ⟨_, by simp [this], fun _ => rfl⟩
    · have : ¬ numOk 10 s := fun h => hd h.2.2.1
      rw [if_pos (fun h => hd (hr2.1 h))]
      exact ⟨0, by simp [this], fun h => absurd h this⟩
  · rw [if_neg h0, if_pos (by omega)]
    have : ¬ numOk 10 s := fun h => h4 h.2.1
    exact ⟨0, by simp [this], fun h => absurd h this⟩

/-- A number as it is asked for: with a sign or without. -/
def nOk (sg : Bool) (s : List UInt8) : Prop := numOk 10 s ∧ (sg = false → s.head? ≠ some 45)
instance (sg : Bool) (s : List UInt8) : Decidable (nOk sg s) := by unfold nOk; infer_instance

theorem bad_all {s : List UInt8} (h : s.head? = some 45) : ¬ s.all dg = true := by
  cases s with
  | nil => cases h
  | cons c l =>
    have : c = 45 := by simpa using h
    subst this
    rw [List.all_cons]
    intro e
    rw [Bool.and_eq_true] at e
    exact absurd e.1 (by decide)
theorem pn_bad {s : List UInt8} (h : s.head? = some 45) : tag_plainNumber_j1 s s = some (0, false) := by
  unfold tag_plainNumber_j1
  have h0 : s ≠ [] := fun e => by rw [e] at h; cases h
  rw [cnd_if, if_neg h0, cnd_if]
  by_cases hl : 10 < (s.length : Int)
  · rw [if_pos hl]
  · obtain ⟨r, hr, hr2⟩ := TrimD s (by omega)
    rw [if_neg hl, hr, bnd_pure, cnd_if, if_pos (fun e => bad_all h (hr2.1 e))]
theorem wh_bad {s : List UInt8} (h : s.head? = some 45) : R_Whole_j1 s 10 s = some (0, false) := by
  unfold R_Whole_j1
  have h0 : s ≠ [] := fun e => by rw [e] at h; cases h
  rw [cnd_if, if_neg h0, cnd_if]
  by_cases hl : 10 < (s.length : Int)
  · rw [if_pos hl]
  · obtain ⟨r, hr, hr2⟩ := TrimD s (by omega)
    rw [if_neg hl, hr, bnd_pure, cnd_if, if_pos (fun e => bad_all h (hr2.1 e))]

theorem pn_eq (s : List UInt8) (sg : Bool) : ∃ v, tag_plainNumber s sg = some (v, decide (nOk sg s)) ∧ (nOk sg s → v = numV s) := by
  unfold tag_plainNumber
  cases sg
  · rw [cnd_false]
    by_cases h : s.head? = some 45
    · have : ¬ nOk false s := fun e => e.2 rfl h
      exact ⟨0, by rw [pn_bad h]; simp [this], fun e => absurd e this⟩
    · obtain ⟨v, h1, h2⟩ := pn_j1 s
      rw [show digS s = s from if_neg h] at h1
      refine ⟨v, ?_, fun e => h2 e.1⟩
      rw [h1]
      congr 2
      rw [decide_eq_decide]
      exact ⟨fun e => ⟨e, fun _ => h⟩, fun e => e.1⟩
  · rw [cnd_true, TrimP_eq, bnd_pure, show (if s.head? = some 45 then s.tail else s) = digS s from rfl]
    obtain ⟨v, h1, h2⟩ := pn_j1 s
    refine ⟨v, ?_, fun e => h2 e.1⟩
    rw [h1]
    congr 2
    rw [decide_eq_decide]
    exact ⟨fun e => ⟨e, fun h => by cases h⟩, fun e => e.1⟩
theorem wh_eq (s : List UInt8) (sg : Bool) : ∃ v, R_Whole s 10 sg = some (v, decide (nOk sg s)) ∧ (nOk sg s → v = numV s) := by
  unfold R_Whole
  cases sg
  · rw [cnd_false]
    by_cases h : s.head? = some 45
    · have : ¬ nOk false s := fun e => e.2 rfl h
      exact ⟨0, by rw [wh_bad h]; simp [this], fun e => absurd e this⟩
    · obtain ⟨v, h1, h2⟩ := wh_j1 s
      rw [show digS s = s from if_neg h] at h1
      refine ⟨v, ?_, fun e => h2 e.1⟩
      rw [h1]
      congr 2
      rw [decide_eq_decide]
      exact ⟨fun e => ⟨e, fun _ => h⟩, fun e => e.1⟩
  · rw [cnd_true, TrimP_eq, bnd_pure, show (if s.head? = some 45 then s.tail else s) = digS s from rfl]
    obtain ⟨v, h1, h2⟩ := wh_j1 s
    refine ⟨v, ?_, fun e => h2 e.1⟩
    rw [h1]
    congr 2
    rw [decide_eq_decide]
    exact ⟨fun e => ⟨e, fun h => by cases h⟩, fun e => e.1⟩

/-! ### octets to base 16 -/

def hxD : List UInt8 := [48, 49, 50, 51, 52, 53, 54, 55, 56, 57, 97, 98, 99, 100, 101, 102]
theorem and15 : ∀ n : Nat, n < 256 → wU8 (bAnd 8 (n : Int) 15) = ((n % 16 : Nat) : Int) := by decide +kernel
theorem or16 : ∀ a : Nat, a < 16 → ∀ b : Nat, b < 16 → wI64 (bOr 64 ((a : Int) * 16) (b : Int)) = 16 * (a : Int) + (b : Int) := by decide +kernel
theorem shr4 (n : Nat) : gShr 8 (n : Int) 4 = some ((n / 16 : Nat) : Int) := by
  unfold gShr
  rw [if_pos (by omega)]
  rfl
def hx2 (c : UInt8) : List UInt8 := [hxD.getD (c.toNat / 16) 0, hxD.getD (c.toNat % 16) 0]
def hexL (s : List UInt8) : List UInt8 := s.flatMap hx2
theorem hx_at {k : Nat} (h : k < 16) : gOct hxD (k : Int) = some ((hxD.getD k 0).toNat : Int) := by
  rw [gOct_nat (show k < hxD.length from h)]
  congr 2
  rw [List.getD_eq_getElem?_getD, List.getElem?_eq_getElem (show k < hxD.length from h)]; rfl
theorem hx_cut {k : Nat} (h : k < 16) : gCut hxD (k : Int) ((k : Int) + 1) = some [hxD.getD k 0] := by
  have hl : hxD.length = 16 := rfl
  rw [gCut_ok (by rw [hl]; omega), show ((k : Int) + 1).toNat - (k : Int).toNat = 1 from by omega, Int.toNat_natCast, List.drop_eq_getElem_cons (show k < hxD.length from h)]
  rw [List.getD_eq_getElem?_getD, List.getElem?_eq_getElem (show k < hxD.length from h)]; rfl

theorem hex_eq {s : List UInt8} (hs : s.length ≤ 2000000) : tag_hex s = some (hexL s) := by
  unfold tag_hex
  have key := fix_way (F := fun next2 (s_1 : Int × List UInt8) => tag_hex_l2 s next2 s_1.1 s_1.2) (o := some (hexL s)) (fun k => ((k : Int), hexL (s.take k))) s.length (fun k hk next => ?_) (fun next => ?_)
  · exact key
  · show tag_hex_l2 s next (k : Int) (hexL (s.take k)) = next (((k + 1 : Nat) : Int), hexL (s.take (k + 1)))
    have hc := s[k].toNat_lt
    have hlen : (hexL (s.take k)).length = 2 * k := by
      unfold hexL
      rw [List.length_flatMap, show (fun a => (hx2 a).length) = (fun _ => 2) from rfl]
      rw [List.map_const', List.sum_replicate_nat, List.length_take]; omega
    unfold tag_hex_l2
    rw [cnd_if, if_pos (by omega), gOct_nat hk, bnd_pure, shr4, bnd_pure]
    rw [show gOct ([48, 49, 50, 51, 52, 53, 54, 55, 56, 57, 97, 98, 99, 100, 101, 102] : List UInt8) ((s[k].toNat / 16 : Nat) : Int) = _ from hx_at (by omega), bnd_pure]
    have b1 := (hxD.getD (s[k].toNat / 16) 0).toNat_lt
    have b2 := (hxD.getD (s[k].toNat % 16) 0).toNat_lt
    rw [gBldB_ok ⟨by omega, by omega, by omega⟩, bnd_pure, bnd_pure, and15 _ (by omega)]
    rw [show gOct ([48, 49, 50, 51, 52, 53, 54, 55, 56, 57, 97, 98, 99, 100, 101, 102] : List UInt8) ((s[k].toNat % 16 : Nat) : Int) = _ from hx_at (by omega), bnd_pure]
    rw [gBldB_ok ⟨by omega, by omega, by rw [List.length_append, List.length_singleton]; omega⟩, bnd_pure, gI_ok (by omega), bnd_pure]
    congr 2
    unfold hexL
    rw [List.take_add_one, List.getElem?_eq_getElem hk, List.flatMap_append]
    simp [hx2]
  · show tag_hex_l2 s next (s.length : Int) (hexL (s.take s.length)) = _
    unfold tag_hex_l2 tag_hex_j1
    rw [cnd_if, if_neg (by omega), List.take_length]
theorem base16_eq {s : List UInt8} (hs : s.length ≤ 2000000) : R_base16 s = some (hexL s) := by
  unfold R_base16
  have key := fix_way (F := fun next1 (s_1 : List UInt8 × Int) => R_base16_l1 s next1 s_1.1 s_1.2) (o := some (hexL s)) (fun k => (hexL (s.take k), (k : Int))) s.length (fun k hk next => ?_) (fun next => ?_)
  · exact key
  · show R_base16_l1 s next (hexL (s.take k)) (k : Int) = next (hexL (s.take (k + 1)), ((k + 1 : Nat) : Int))
    have hc := s[k].toNat_lt
    have hlen : (hexL (s.take k)).length = 2 * k := by
      unfold hexL
      rw [List.length_flatMap, show (fun a => (hx2 a).length) = (fun _ => 2) from rfl]
      rw [List.map_const', List.sum_replicate_nat, List.length_take]; omega
    unfold R_base16_l1
    rw [cnd_if, if_pos (by omega), gOct_nat hk, bnd_pure, shr4, bnd_pure, bnd_pure, shr4, bnd_pure, wU8_in (by omega)]
    rw [show gCut ([48, 49, 50, 51, 52, 53, 54, 55, 56, 57, 97, 98, 99, 100, 101, 102] : List UInt8) ((s[k].toNat / 16 : Nat) : Int) (((s[k].toNat / 16 : Nat) : Int) + 1) = _ from hx_cut (by omega), bnd_pure, bnd_pure, bnd_pure, and15 _ (by omega), wU8_in (by omega)]
    rw [show gCut ([48, 49, 50, 51, 52, 53, 54, 55, 56, 57, 97, 98, 99, 100, 101, 102] : List UInt8) ((s[k].toNat % 16 : Nat) : Int) (((s[k].toNat % 16 : Nat) : Int) + 1) = _ from hx_cut (by omega), bnd_pure]
    rw [gCat_ok (by simp), bnd_pure, gCat_ok (by simp; omega), bnd_pure, gI_ok (by omega), bnd_pure]
    congr 2
    unfold hexL
    rw [List.take_add_one, List.getElem?_eq_getElem hk, List.flatMap_append]
    simp [hx2]
  · show R_base16_l1 s next (hexL (s.take s.length)) (s.length : Int) = _
    unfold R_base16_l1
    rw [cnd_if, if_neg (by omega), List.take_length]

theorem ix_hex (c : UInt8) : ∃ i : Int, strings_IndexByte [48, 49, 50, 51, 52, 53, 54, 55, 56, 57, 97, 98, 99, 100, 101, 102] (c.toNat : Int) = some i ∧ (i < 0 ∨ ∃ k : Nat, k < 16 ∧ i = (k : Int)) := by
  refine ⟨ixB hxD c, ?_, ?_⟩
  · unfold strings_IndexByte internal_stringslite_IndexByte
    rw [show ([48, 49, 50, 51, 52, 53, 54, 55, 56, 57, 97, 98, 99, 100, 101, 102] : List UInt8) = hxD from rfl, gIxB_nat, bnd_pure, bnd_pure]
  · have h := cutS_ix c hxD
    have hl := cutS_len c hxD
    have h16 : hxD.length = 16 := rfl
    by_cases hc : (cutS c hxD).2.2 = true
    · rw [if_pos hc] at h
      have := congrArg List.length (cutS_yes hc)
      rw [List.length_append, List.length_cons] at this
      exact .inr ⟨_, by omega, h⟩
    · rw [if_neg hc] at h
      exact .inl (by omega)
theorem hex_step (next : List UInt8 × List Int → Option (List UInt8 × Bool)) (x : List UInt8) (l : List Int) : tag_unhex_l2 next x l = R_octets16_l2 next x l := by
  unfold tag_unhex_l2 R_octets16_l2
  rw [cnd_if, cnd_if]
  by_cases h : 2 ≤ (x.length : Int)
  · rw [if_pos h, if_pos h]
    obtain ⟨a, b, y, rfl⟩ : ∃ a b y, x = a :: b :: y := by
      match x, h with
      | [], h => simp at h
      | [a], h => simp at h
      | a :: b :: y, _ => exact ⟨a, b, y, rfl⟩
    have e0 : gOct (a :: b :: y) 0 = some (a.toNat : Int) := gOct_nat (k := 0) (by simp)
    have e1 : gOct (a :: b :: y) 1 = some (b.toNat : Int) := gOct_nat (k := 1) (by simp)
    obtain ⟨i, hi, hi2⟩ := ix_hex a
    obtain ⟨j, hj, hj2⟩ := ix_hex b
    rw [e0, bnd_pure, bnd_pure, hi, bnd_pure, bnd_pure, e1, bnd_pure, bnd_pure, hj, bnd_pure, bnd_pure]
    rcases hi2 with h1 | ⟨m, hm, rfl⟩
    · rw [cY h1, cY h1]
    rcases hj2 with h2 | ⟨n, hn, rfl⟩
    · rw [cN (show ¬ ((m : Int) < 0) by omega), cN (show ¬ ((m : Int) < 0) by omega), cY h2, cY h2]
    rw [cN (show ¬ ((m : Int) < 0) by omega), cN (show ¬ ((m : Int) < 0) by omega), cN (show ¬ ((n : Int) < 0) by omega), cN (show ¬ ((n : Int) < 0) by omega)]
    have s4 : gShl (m : Int) 4 = some ((m : Int) * 16) := by
      unfold gShl
      rw [if_pos (by omega), show (2 : Int) ^ (4 : Int).toNat = 16 from rfl]
      exact gI_ok (by omega)
    rw [s4, bnd_pure, or16 m hm n hn, gI_ok (by omega), bnd_pure, gI_ok (by omega), bnd_pure]
  · rw [if_neg h, if_neg h]; rfl
theorem unhex_ok (s : List UInt8) (hs : s.length ≤ 2000000) : ∃ r : List UInt8 × Bool, r.1.length ≤ 2000000 ∧ tag_unhex s = some r ∧ R_octets16 s = some r := by
  have he : R_octets16 s = tag_unhex s := by
    unfold tag_unhex R_octets16
    exact congrFun (fix_congr fun next a => (hex_step next a.1 a.2).symm) _
  rw [he]
  have : ∃ r : List UInt8 × Bool, tag_unhex s = some r ∧ r.1.length ≤ 2000000 := by
    unfold tag_unhex
    refine fix_run (fun a => a.1.length + a.2.length ≤ 2000000) (fun a => a.1.length) (fun (r : List UInt8 × Bool) => r.1.length ≤ 2000000) ?_ (s, []) (by simpa using hs)
    rintro ⟨x, l⟩ hI
    simp only at hI
    by_cases h : 2 ≤ (x.length : Int)
    · obtain ⟨a, b, y, rfl⟩ : ∃ a b y, x = a :: b :: y := by
        match x, h with
        | [], h => simp at h
        | [a], h => simp at h
        | a :: b :: y, _ => exact ⟨a, b, y, rfl⟩
      have e0 : gOct (a :: b :: y) 0 = some (a.toNat : Int) := gOct_nat (k := 0) (by simp)
      have e1 : gOct (a :: b :: y) 1 = some (b.toNat : Int) := gOct_nat (k := 1) (by simp)
      obtain ⟨i, hi, hi2⟩ := ix_hex a
      obtain ⟨j, hj, hj2⟩ := ix_hex b
      rcases hi2 with h1 | ⟨m, hm, rfl⟩
      · refine .inl ⟨([], false), by simp, fun next => ?_⟩
        show tag_unhex_l2 next (a :: b :: y) l = _
        unfold tag_unhex_l2
        rw [cnd_if, if_pos h, e0, bnd_pure, hi, bnd_pure, e1, bnd_pure, hj, bnd_pure, cnd_if, if_pos h1]
      rcases hj2 with h2 | ⟨n, hn, rfl⟩
      · refine .inl ⟨([], false), by simp, fun next => ?_⟩
        show tag_unhex_l2 next (a :: b :: y) l = _
        unfold tag_unhex_l2
        rw [cnd_if, if_pos h, e0, bnd_pure, hi, bnd_pure, e1, bnd_pure, hj, bnd_pure, cnd_if, if_neg (by omega), cnd_if, if_pos h2]
      rw [List.length_cons, List.length_cons] at hI
      refine .inr ⟨(y, l ++ [wU8 (16 * (m : Int) + n)]), by show y.length + (l ++ [_]).length ≤ _; rw [List.length_append, List.length_singleton]; omega, by show y.length < y.length + 1 + 1; omega, fun next => ?_⟩
      show tag_unhex_l2 next (a :: b :: y) l = _
      have s4 : gShl (m : Int) 4 = some ((m : Int) * 16) := by
        unfold gShl
        rw [if_pos (by omega), show (2 : Int) ^ (4 : Int).toNat = 16 from rfl]
        exact gI_ok (by omega)
      unfold tag_unhex_l2
      rw [cnd_if, if_pos h, e0, bnd_pure, hi, bnd_pure, e1, bnd_pure, hj, bnd_pure, cnd_if, if_neg (by omega), cnd_if, if_neg (by omega), s4, bnd_pure, or16 m hm n hn, gApp_ok (by rw [List.length_singleton]; omega), bnd_pure, gCut_from (by simp only [List.length_cons]; omega), bnd_pure]
      rfl
    · refine .inl ⟨(toStr l, decide (x = [])), by unfold toStr; rw [List.length_map]; omega, fun next => ?_⟩
      show tag_unhex_l2 next x l = _
      unfold tag_unhex_l2 tag_unhex_j1
      rw [cnd_if, if_neg h]
  obtain ⟨r, h1, h2⟩ := this
  exact ⟨r, h2, h1, h1⟩
end Go.M

/- Values as text, in plain Lean. Conditions: none. -/
namespace Go.M
open Go.Md Go.Pl

def wordK (k : Int) : List UInt8 := if k = 1 then [98, 121, 116, 101] else if k = 2 then [97, 115, 99, 105, 105] else if k = 3 then [115, 104, 111, 114, 116] else if k = 4 then [108, 111, 110, 103] else if k = 5 then [114, 97, 116, 105, 111] else if k = 7 then [111, 112, 97, 113, 117, 101] else [115, 105, 103, 110, 101, 100]
theorem word_eq (k : Int) : tag_word k = some (wordK k) := by
  unfold tag_word wordK
  rw [cI, cI, cI, cI, cI, cI]
  (repeat' split) <;> rfl
def KW : List (Int × List UInt8) := [(1, wordK 1), (2, wordK 2), (3, wordK 3), (4, wordK 4), (5, wordK 5), (7, wordK 7), (9, wordK 9)]
theorem kw_eq : R_kindWords = some KW := by rfl
theorem kw_get {k : Int} (h : k = 1 ∨ k = 2 ∨ k = 3 ∨ k = 4 ∨ k = 5 ∨ k = 7 ∨ k = 9) : (mGet KW k).getD [] = wordK k := by
  rcases h with h | h | h | h | h | h | h <;> subst h <;> rfl
theorem word_len (k : Int) : (wordK k).length ≤ 6 := by
  unfold wordK
  (repeat' split) <;> simp

theorem itoa11 {n : Int} (h : -10000000000 < n ∧ n < 10000000000) : (itoaL n).length ≤ 11 := by
  unfold itoaL
  split
  · have := decD_len n.natAbs 9 (by show _ < 10 ^ 10; omega)
    rw [List.length_cons]; omega
  · have := decD_len n.toNat 9 (by show _ < 10 ^ 10; omega)
    omega
theorem gItoa_ok {n : Int} (h : -10000000000 < n ∧ n < 10000000000) : gItoa n = some (itoaL n) := if_pos (by omega)
def ratS (r : T_tag_Ratio) : List UInt8 := (itoaL r.Num ++ [47]) ++ itoaL r.Den
def sm (n : Int) : Prop := -10000000000 < n ∧ n < 10000000000

structure okT (v : T_tag_Value) : Prop where
  b : vB v
  ints : ∀ n ∈ v.Ints, sm n
  rats : ∀ r ∈ v.Ratios, sm r.Num ∧ sm r.Den

theorem vt5 {v : T_tag_Value} (h : okT v) {l0 : List (List UInt8)} (hl : l0.length ≤ 10) : fix (fun next5 (s : Int × List (List UInt8)) => tag_valueText_l5 v next5 s.1 s.2) (0, l0) = tag_valueText_j1 v (l0 ++ v.Ints.map itoaL) := by
  have hb := h.b.2.1
  rw [← foldl_app]
  refine fix_list (F := fun next5 (s : Int × List (List UInt8)) => tag_valueText_l5 v next5 s.1 s.2) v.Ints (fun l n => l ++ [itoaL n]) (fun l => tag_valueText_j1 v l) (fun k l => l.length ≤ 10 + k) (fun next k s hk hI => ?_) (fun next s hI => ?_) l0 hl
  · refine ⟨?_, by show (s ++ [_]).length ≤ _; rw [List.length_append, List.length_singleton]; omega⟩
    show tag_valueText_l5 v next (k : Int) s = _
    unfold tag_valueText_l5
    rw [cI, if_pos (by omega), gAt_nat hk, bnd_pure, gItoa_ok (h.ints _ (List.getElem_mem hk)), bnd_pure, gApp_ok (by rw [List.length_singleton]; omega), bnd_pure, gI_ok (by omega), bnd_pure]
  · show tag_valueText_l5 v next (v.Ints.length : Int) s = _
    unfold tag_valueText_l5
    rw [cI, if_neg (by omega)]
theorem vt4 {v : T_tag_Value} (h : okT v) {l0 : List (List UInt8)} (hl : l0.length ≤ 2000010) : tag_valueText_j1 v l0 = tag_valueText_j2 v (l0 ++ v.Ratios.map ratS) := by
  have hb := h.b.2.2
  unfold tag_valueText_j1
  rw [← foldl_app]
  refine fix_list (F := fun next4 (s : Int × List (List UInt8)) => tag_valueText_l4 v next4 s.1 s.2) v.Ratios (fun l n => l ++ [ratS n]) (fun l => tag_valueText_j2 v l) (fun k l => l.length ≤ 2000010 + k) (fun next k s hk hI => ?_) (fun next s hI => ?_) l0 hl
  · refine ⟨?_, by show (s ++ [_]).length ≤ _; rw [List.length_append, List.length_singleton]; omega⟩
    show tag_valueText_l4 v next (k : Int) s = _
    obtain ⟨h1, h2⟩ := h.rats _ (List.getElem_mem hk)
    have l1 := itoa11 h1
    have l2 := itoa11 h2
    unfold tag_valueText_l4
    rw [cI, if_pos (by omega), gAt_nat hk, bnd_pure, gItoa_ok h1, bnd_pure, gCat_ok (by rw [List.length_singleton]; omega), bnd_pure, gItoa_ok h2, bnd_pure, gCat_ok (by rw [List.length_append, List.length_singleton]; omega), bnd_pure, gApp_ok (by rw [List.length_singleton]; omega), bnd_pure, gI_ok (by omega), bnd_pure]
    rfl
  · show tag_valueText_l4 v next (v.Ratios.length : Int) s = _
    unfold tag_valueText_l4
    rw [cI, if_neg (by omega)]
theorem rt5 {v : T_tag_Value} (h : okT v) {l0 : List (List UInt8)} (hl : l0.length ≤ 10) : R_ValueTextOf_j1 v l0 = R_ValueTextOf_j2 v (l0 ++ v.Ints.map itoaL) := by
  have hb := h.b.2.1
  unfold R_ValueTextOf_j1
  rw [← foldl_app]
  refine fix_list (F := fun next5 (s : Int × List (List UInt8)) => R_ValueTextOf_l5 v next5 s.1 s.2) v.Ints (fun l n => l ++ [itoaL n]) (fun l => R_ValueTextOf_j2 v l) (fun k l => l.length ≤ 10 + k) (fun next k s hk hI => ?_) (fun next s hI => ?_) l0 hl
  · refine ⟨?_, by show (s ++ [_]).length ≤ _; rw [List.length_append, List.length_singleton]; omega⟩
    show R_ValueTextOf_l5 v next (k : Int) s = _
    unfold R_ValueTextOf_l5
    rw [cI, if_pos (by omega), gAt_nat hk, bnd_pure, gItoa_ok (h.ints _ (List.getElem_mem hk)), bnd_pure, gApp_ok (by rw [List.length_singleton]; omega), bnd_pure, gI_ok (by omega), bnd_pure]
  · show R_ValueTextOf_l5 v next (v.Ints.length : Int) s = _
    unfold R_ValueTextOf_l5
    rw [cI, if_neg (by omega)]
theorem rt4 {v : T_tag_Value} (h : okT v) {l0 : List (List UInt8)} (hl : l0.length ≤ 2000010) : R_ValueTextOf_j2 v l0 = R_ValueTextOf_j3 (l0 ++ v.Ratios.map ratS) := by
  have hb := h.b.2.2
  unfold R_ValueTextOf_j2
  rw [← foldl_app]
  refine fix_list (F := fun next4 (s : Int × List (List UInt8)) => R_ValueTextOf_l4 v next4 s.1 s.2) v.Ratios (fun l n => l ++ [ratS n]) (fun l => R_ValueTextOf_j3 l) (fun k l => l.length ≤ 2000010 + k) (fun next k s hk hI => ?_) (fun next s hI => ?_) l0 hl
  · refine ⟨?_, by show (s ++ [_]).length ≤ _; rw [List.length_append, List.length_singleton]; omega⟩
    show R_ValueTextOf_l4 v next (k : Int) s = _
    obtain ⟨h1, h2⟩ := h.rats _ (List.getElem_mem hk)
    have l1 := itoa11 h1
    have l2 := itoa11 h2
    unfold R_ValueTextOf_l4
    rw [cI, if_pos (by omega), gAt_nat hk, bnd_pure, gItoa_ok h1, bnd_pure, gCat_ok (by rw [List.length_singleton]; omega), bnd_pure, gItoa_ok h2, bnd_pure, gCat_ok (by rw [List.length_append, List.length_singleton]; omega), bnd_pure, gApp_ok (by rw [List.length_singleton]; omega), bnd_pure, gI_ok (by omega), bnd_pure]
    rfl
  · show R_ValueTextOf_l4 v next (v.Ratios.length : Int) s = _
    unfold R_ValueTextOf_l4
    rw [cI, if_neg (by omega)]

theorem inter_len {B : Nat} : ∀ l : List (List UInt8), (∀ x ∈ l, x.length ≤ B) → (([32] : List UInt8).intercalate l).length ≤ l.length * (B + 1)
  | [], _ => by simp [List.intercalate]
  | [x], h => by
    have := h x (by simp)
    simp [List.intercalate]; omega
  | x :: y :: l, h => by
    have h1 := h x (by simp)
    have h2 := inter_len (y :: l) (fun z hz => h z (List.mem_cons_of_mem _ hz))
    have e : ([32] : List UInt8).intercalate (x :: y :: l) = x ++ ([32] ++ ([32] : List UInt8).intercalate (y :: l)) := by
      simp [List.intercalate, List.intersperse]
    rw [e, List.length_append, List.length_append, List.length_singleton, List.length_cons, Nat.succ_mul]
    omega
theorem join_ok {l : List (List UInt8)} (h1 : l.length ≤ 6000000) (h2 : ∀ x ∈ l, x.length ≤ 4000000) : ∃ s, gJoin l [32] = some s := by
  have := inter_len l h2
  have h3 : l.length * (4000000 + 1) ≤ 6000000 * (4000000 + 1) := Nat.mul_le_mul_right _ h1
  exact ⟨_, if_pos ⟨by omega, by omega⟩⟩

theorem hexL_len (s : List UInt8) : (hexL s).length = 2 * s.length := by
  unfold hexL
  rw [List.length_flatMap, show (fun a => (hx2 a).length) = (fun _ => 2) from rfl]
  rw [List.map_const', List.sum_replicate_nat]; omega

/-- A right value that is no directory, as text. -/
theorem text_sim {v : T_tag_Value} (hb : vB v) (hv : plainE v = 0) (h13 : v.Kind ≠ 13) : ∃ s, tag_valueText v = some s ∧ R_ValueTextOf v = some s := by
  unfold plainE at hv
  have hf : fieldsE v = 0 := by
    by_cases h : fieldsE v = 0
    · exact h
    · rw [if_pos h] at hv; exact hv
  rw [if_neg (show ¬ fieldsE v ≠ 0 from fun h => h hf)] at hv
  have hi : ∀ n ∈ v.Ints, ¬ (n < (limS v.Kind).1 ∨ (limS v.Kind).2 < n) := by
    intro n hn hx
    rw [if_pos ⟨n, hn, hx⟩] at hv; omega
  rw [if_neg (fun ⟨n, hn, hx⟩ => hi n hn hx)] at hv
  have hr : ∀ r ∈ v.Ratios, ¬ ratP r := by
    intro r hr hx
    rw [if_pos ⟨r, hr, hx⟩] at hv; omega
  have hk : kindP v.Kind ∧ ¬ formP v := by
    unfold fieldsE at hf
    by_cases h1 : kindP v.Kind
    · rw [if_neg (show ¬ ¬ kindP v.Kind from fun h => h h1)] at hf
      refine ⟨h1, fun h2 => ?_⟩
      rw [if_pos h2] at hf; omega
    · rw [if_pos h1] at hf; omega
  have hw : v.Kind = 1 ∨ v.Kind = 2 ∨ v.Kind = 3 ∨ v.Kind = 4 ∨ v.Kind = 5 ∨ v.Kind = 7 ∨ v.Kind = 9 := by
    have := hk.1; unfold kindP intsK textK at this; omega
  have h : okT v := by
    refine ⟨hb, fun n hn => ?_, fun r hm => ?_⟩
    · have := hi n hn
      unfold limS at this
      unfold sm
      (repeat' split at this) <;> omega
    · have := hr r hm
      unfold ratP at this
      unfold sm; omega
  have hwl := word_len v.Kind
  have hbi := hb.2.1
  have hbr := hb.2.2
  have hall : ∀ L : List (List UInt8), (∀ x ∈ L, x = wordK v.Kind ∨ x = hexL v.Text ∨ x ∈ v.Ints.map itoaL ∨ x ∈ v.Ratios.map ratS) → ∀ x ∈ L, x.length ≤ 4000000 := by
    intro L hL x hx
    rcases hL x hx with e | e | e | e
    · rw [e]; omega
    · rw [e, hexL_len]; have := hb.1; omega
    · obtain ⟨n, hn, rfl⟩ := List.mem_map.1 e
      have := itoa11 (h.ints n hn); omega
    · obtain ⟨r, hn, rfl⟩ := List.mem_map.1 e
      have h1 := itoa11 (h.rats r hn).1
      have h2 := itoa11 (h.rats r hn).2
      unfold ratS
      rw [List.length_append, List.length_append, List.length_singleton]; omega
  by_cases ht : v.Text = []
  · obtain ⟨s, hs⟩ := join_ok (l := ([wordK v.Kind] ++ v.Ints.map itoaL) ++ v.Ratios.map ratS) (by simp; omega) (hall _ (fun x hx => by
      simp only [List.mem_append, List.mem_singleton] at hx
      rcases hx with (h | h) | h
      · exact .inl h
      · exact .inr (.inr (.inl h))
      · exact .inr (.inr (.inr h))))
    refine ⟨s, ?_, ?_⟩
    · unfold tag_valueText
      rw [word_eq, bnd_pure, vt5 h (by simp), vt4 h (by simp; omega)]
      unfold tag_valueText_j2 tag_valueText_j3
      rw [cI, if_neg (by simpa using ht), hs, bnd_pure]
    · unfold R_ValueTextOf
      rw [kw_eq, bnd_pure, cI, if_neg (by simpa using ht), kw_get hw, rt5 h (by simp), rt4 h (by simp; omega)]
      unfold R_ValueTextOf_j3
      rw [hs, bnd_pure]
  · have htk : textK v.Kind := by
      by_cases h : textK v.Kind
      · exact h
      · exact absurd (.inr (.inl ⟨h, ht⟩)) hk.2
    have hin : v.Ints = [] := by
      by_cases h : v.Ints = []
      · exact h
      · exact absurd (.inl ⟨by unfold textK at htk; unfold intsK; omega, h⟩) hk.2
    have hrn : v.Ratios = [] := by
      by_cases h : v.Ratios = []
      · exact h
      · exact absurd (.inr (.inr (.inl ⟨by unfold textK at htk; omega, h⟩))) hk.2
    obtain ⟨s, hs⟩ := join_ok (l := [wordK v.Kind] ++ [hexL v.Text]) (by simp) (hall _ (fun x hx => by
      simp only [List.mem_append, List.mem_singleton] at hx
      rcases hx with h | h
      · exact .inl h
      · exact .inr (.inl h)))
    refine ⟨s, ?_, ?_⟩
    · unfold tag_valueText
      rw [word_eq, bnd_pure, vt5 h (by simp), vt4 h (by rw [hin]; simp), hin, hrn]
      unfold tag_valueText_j2 tag_valueText_j3
      rw [cI, if_pos ht, hex_eq hb.1, bnd_pure]
      simp only [List.map_nil, List.append_nil]
      rw [gApp_ok (by simp), bnd_pure, hs, bnd_pure]
    · unfold R_ValueTextOf
      rw [kw_eq, bnd_pure, cI, if_pos ht, base16_eq hb.1, bnd_pure, kw_get hw, gApp_ok (by simp), bnd_pure, rt5 h (by simp), rt4 h (by rw [hin]; simp), hin, hrn]
      unfold R_ValueTextOf_j3
      simp only [List.map_nil, List.append_nil]
      rw [hs, bnd_pure]
end Go.M

/- Values read, in plain Lean; the law TagValues. Conditions: none. -/
namespace Go.M
open Go.Md Go.Pl

/-! ### words -/

def kindW (w : List UInt8) : Int := if wordK 1 = w then 1 else if wordK 2 = w then 2 else if wordK 3 = w then 3 else if wordK 4 = w then 4 else if wordK 5 = w then 5 else if wordK 7 = w then 7 else if wordK 9 = w then 9 else 0

theorem kind_step (w : List UInt8) (next : Int → Option Int) {i : Nat} {k : Int} (hi : i < 7) (hk : ([1, 2, 3, 4, 5, 7, 9] : List Int)[i]? = some k) : tag_kindOf_l1 w next (i : Int) = if wordK k = w then some k else next ((i : Int) + 1) := by
  unfold tag_kindOf_l1
  have : gAt ([1, 2, 3, 4, 5, 7, 9] : List Int) (i : Int) = some k := by unfold gAt; rw [if_pos (by omega), Int.toNat_natCast]; exact hk
  rw [cI, if_pos (by omega), this, bnd_pure, word_eq, bnd_pure, cI, gI_ok (by omega), bnd_pure]
theorem kindOf_eq (w : List UInt8) : tag_kindOf w = some (kindW w) := by
  unfold tag_kindOf kindW
  have st : ∀ (i : Nat) (k : Int) (o : Option Int), i < 7 → ([1, 2, 3, 4, 5, 7, 9] : List Int)[i]? = some k → (wordK k ≠ w → fix (fun next1 s => tag_kindOf_l1 w next1 s) ((i : Int) + 1) = o) → fix (fun next1 s => tag_kindOf_l1 w next1 s) (i : Int) = if wordK k = w then some k else o := by
    intro i k o hi hk ho
    by_cases h : wordK k = w
    · rw [if_pos h]
      exact fix_done fun next => (kind_step w next hi hk).trans (if_pos h)
    · rw [if_neg h, ← ho h]
      exact fix_goto _ fun next => (kind_step w next hi hk).trans (if_neg h)
  have e7 : fix (fun next1 s => tag_kindOf_l1 w next1 s) (7 : Int) = some 0 := fix_done fun next => by
    show tag_kindOf_l1 w next 7 = _
    unfold tag_kindOf_l1
    rw [cI, if_neg (by omega)]
  refine (st 0 1 _ (by omega) rfl fun _ => (st 1 2 _ (by omega) rfl fun _ => (st 2 3 _ (by omega) rfl fun _ => (st 3 4 _ (by omega) rfl fun _ => (st 4 5 _ (by omega) rfl fun _ => (st 5 7 _ (by omega) rfl fun _ => (st 6 9 _ (by omega) rfl fun _ => e7))))))).trans ?_
  (repeat' split) <;> rfl

theorem kw_inj : ∀ p ∈ KW, ∀ q ∈ KW, p.2 = q.2 → p = q := by decide
theorem kw_kind {w : List UInt8} : (∀ p ∈ KW, p.2 = w → p.1 = kindW w) ∧ (kindW w = 0 ∨ (kindW w, w) ∈ KW) := by
  have key : ∀ p ∈ KW, kindW p.2 = p.1 := by decide
  refine ⟨fun p hp e => by rw [← e]; exact (key p hp).symm, ?_⟩
  unfold kindW
  by_cases h : wordK 1 = w
  · rw [if_pos h, ← h]; exact .inr (by decide)
  rw [if_neg h]; clear h
  by_cases h : wordK 2 = w
  · rw [if_pos h, ← h]; exact .inr (by decide)
  rw [if_neg h]; clear h
  by_cases h : wordK 3 = w
  · rw [if_pos h, ← h]; exact .inr (by decide)
  rw [if_neg h]; clear h
  by_cases h : wordK 4 = w
  · rw [if_pos h, ← h]; exact .inr (by decide)
  rw [if_neg h]; clear h
  by_cases h : wordK 5 = w
  · rw [if_pos h, ← h]; exact .inr (by decide)
  rw [if_neg h]; clear h
  by_cases h : wordK 7 = w
  · rw [if_pos h, ← h]; exact .inr (by decide)
  rw [if_neg h]; clear h
  by_cases h : wordK 9 = w
  · rw [if_pos h, ← h]; exact .inr (by decide)
  rw [if_neg h]; exact .inl rfl
theorem kindW_in (w : List UInt8) : kindW w = 0 ∨ kindW w = 1 ∨ kindW w = 2 ∨ kindW w = 3 ∨ kindW w = 4 ∨ kindW w = 5 ∨ kindW w = 7 ∨ kindW w = 9 := by
  unfold kindW
  (repeat' split) <;> omega

/-- The range over the words, in whatever order. -/
theorem word_range {t : List (List UInt8)} {w : List UInt8} (hw : gAt t 0 = some w) {r : T_tag_Value × Int} (hr : R_ValueRead_j1 t (kindW w) = some r) : fix (fun next8 (s : Int × List (Int × List UInt8)) => R_ValueRead_l8 t next8 s.1 s.2) (0, KW) = some r := by
  refine fix_of (fun _ => some r) (fun s : Int × List (Int × List UInt8) => (∀ p ∈ s.2, p ∈ KW) ∧ (s.1 = kindW w ∨ (s.1 = 0 ∧ ∃ q ∈ s.2, q.2 = w))) (fun s => s.2.length) ?_ (0, KW) ⟨fun _ h => h, ?_⟩
  · rintro next ⟨m, rs⟩ ⟨h1, h2⟩ ih
    simp only at h1 h2 ih
    show R_ValueRead_l8 t next m rs = some r
    unfold R_ValueRead_l8
    by_cases h0 : rs = []
    · subst h0
      have hm : m = kindW w := by
        rcases h2 with h | ⟨_, q, hq, _⟩
        · exact h
        · cases hq
      show cnd false _ _ = _
      rw [cnd_false, hm, hr]
    · have hne : (!rs.isEmpty) = true := by simpa using h0
      rw [hne, cnd_true]
      refine gAll_ok (fun p l' hp => ?_) h0
      have hlt : l'.length < rs.length := by have := hp.len; omega
      have hperm := hp.perm
      have hsub : ∀ x ∈ l', x ∈ KW := fun x hx => h1 x (hp.sub x hx)
      rw [hw, bnd_pure, cI]
      by_cases hpw : p.2 = w
      · rw [if_pos hpw]
        exact ih (p.1, l') ⟨hsub, .inl (kw_kind.1 p (h1 p hp.mem) hpw)⟩ hlt
      · rw [if_neg hpw]
        refine ih (m, l') ⟨hsub, ?_⟩ hlt
        rcases h2 with h | ⟨h, q, hq, hqw⟩
        · exact .inl h
        · refine .inr ⟨h, q, ?_, hqw⟩
          rcases List.mem_cons.1 (hperm.mem_iff.1 hq) with h | h
          · exact absurd (by rw [← h]; exact hqw) hpw
          · exact h
  · rcases kw_kind (w := w) |>.2 with h | h
    · exact .inl h.symm
    · exact .inr ⟨rfl, _, h, rfl⟩

/-! ### the words of a value -/

def v0 : T_tag_Value := ⟨0, [], [], [], []⟩
noncomputable def rtT (x : List UInt8) : T_tag_Ratio × Bool := (tag_readRatio x).getD (⟨0, 0⟩, false)
noncomputable def pnT (sg : Bool) (x : List UInt8) : Int × Bool := (tag_plainNumber x sg).getD (0, false)
noncomputable def whT (sg : Bool) (x : List UInt8) : Int × Bool := (R_Whole x 10 sg).getD (0, false)
theorem pnT_eq (sg : Bool) (x : List UInt8) : tag_plainNumber x sg = some (pnT sg x) ∧ R_Whole x 10 sg = some (whT sg x) ∧ (pnT sg x).2 = (whT sg x).2 ∧ ((pnT sg x).2 = true → (pnT sg x).1 = (whT sg x).1) := by
  obtain ⟨a, h1, h2⟩ := pn_eq x sg
  obtain ⟨b, h3, h4⟩ := wh_eq x sg
  unfold pnT whT
  rw [h1, h3]
  refine ⟨rfl, rfl, rfl, fun h => ?_⟩
  have := of_decide_eq_true h
  show a = b
  rw [h2 this, h4 this]

/-- A ratio, on both sides. -/
noncomputable def rr (x : List UInt8) : T_tag_Ratio := ⟨(whT false (cutS 47 x).1).1, (whT false (cutS 47 x).2.1).1⟩
theorem ratio_eq {x : List UInt8} (hx : x.length ≤ 2000000) : tag_readRatio x = some (rtT x) ∧ ((rtT x).2 = ((cutS 47 x).2.2 && (whT false (cutS 47 x).1).2 && (whT false (cutS 47 x).2.1).2)) ∧ ((rtT x).2 = true → (rtT x).1 = rr x) := by
  obtain ⟨a1, a2, a3, a4⟩ := pnT_eq false (cutS 47 x).1
  obtain ⟨b1, b2, b3, b4⟩ := pnT_eq false (cutS 47 x).2.1
  have e : tag_readRatio x = some ((⟨(pnT false (cutS 47 x).1).1, (pnT false (cutS 47 x).2.1).1⟩ : T_tag_Ratio), (cutS 47 x).2.2 && (pnT false (cutS 47 x).1).2 && (pnT false (cutS 47 x).2.1).2) := by
    unfold tag_readRatio
    rw [Cut_eq (by omega), bnd_pure, a1, bnd_pure, b1, bnd_pure]
    cases (cutS 47 x).2.2 <;> cases (pnT false (cutS 47 x).1).2 <;> rfl
  have e2 : rtT x = ((⟨(pnT false (cutS 47 x).1).1, (pnT false (cutS 47 x).2.1).1⟩ : T_tag_Ratio), (cutS 47 x).2.2 && (pnT false (cutS 47 x).1).2 && (pnT false (cutS 47 x).2.1).2) := by
    unfold rtT; rw [e]; rfl
  rw [e2]
  refine ⟨e, by show _ = _; rw [a3, b3], fun h => ?_⟩
  simp only [Bool.and_eq_true] at h
  show (⟨_, _⟩ : T_tag_Ratio) = ⟨_, _⟩
  rw [a4 h.1.2, b4 h.2]

/-- The loop of the program over the words: it stops at the first that is none. -/
theorem tag_words {K : Int} {ws : List (List UInt8)} (hl : ws.length ≤ 2000000) (hx : ∀ x ∈ ws, x.length ≤ 2000000) (h5 : K = 5) :
    fix (fun next3 (s : Int × List Int × List T_tag_Ratio) => tag_readWords_l3 K ws next3 s.1 s.2.1 s.2.2) (0, ([] : List Int), ([] : List T_tag_Ratio)) = some (if ∀ x ∈ ws, (rtT x).2 = true then ((⟨K, [], [], ws.map fun x => (rtT x).1, []⟩ : T_tag_Value), true) else (v0, false)) := by
  have key : ∀ m i : Nat, i + m = ws.length → (∀ x ∈ ws.take i, (rtT x).2 = true) → fix (fun next3 (s : Int × List Int × List T_tag_Ratio) => tag_readWords_l3 K ws next3 s.1 s.2.1 s.2.2) ((i : Int), ([] : List Int), (ws.take i).map fun x => (rtT x).1) = some (if ∀ x ∈ ws, (rtT x).2 = true then ((⟨K, [], [], ws.map fun x => (rtT x).1, []⟩ : T_tag_Value), true) else (v0, false)) := by
    intro m
    induction m with
    | zero =>
      intro i hi hp
      have : i = ws.length := by omega
      subst this
      rw [List.take_length] at hp ⊢
      rw [if_pos hp]
      refine fix_done fun next => ?_
      show tag_readWords_l3 K ws next (ws.length : Int) [] _ = _
      unfold tag_readWords_l3 tag_readWords_j2
      rw [cI, if_neg (by omega)]
    | succ m ih =>
      intro i hi hp
      have hlt : i < ws.length := by omega
      have hxi := hx _ (List.getElem_mem hlt)
      obtain ⟨r1, r2, r3⟩ := ratio_eq hxi
      have hlen : ((ws.take i).map fun x => (rtT x).1).length = i := by rw [List.length_map, List.length_take]; omega
      by_cases hok : (rtT ws[i]).2 = true
      · have ht : (ws.take (i + 1)).map (fun x => (rtT x).1) = ((ws.take i).map fun x => (rtT x).1) ++ [(rtT ws[i]).1] := by
          rw [List.take_add_one, List.getElem?_eq_getElem hlt, List.map_append]; rfl
        have := ih (i + 1) (by omega) (by
          intro x hx'
          rw [List.take_add_one, List.getElem?_eq_getElem hlt] at hx'
          rcases List.mem_append.1 hx' with h | h
          · exact hp x h
          · have : x = ws[i] := by simpa using h
            rw [this]; exact hok)
        rw [ht] at this
        rw [← this]
        refine fix_goto _ fun next => ?_
        show tag_readWords_l3 K ws next (i : Int) [] _ = _
        unfold tag_readWords_l3 tag_readWords_j4
        rw [cI, if_pos (by omega), gAt_nat hlt, bnd_pure, cI, if_pos h5, r1, bnd_pure, gApp_ok (by rw [hlen, List.length_singleton]; omega), bnd_pure, hok]
        show cnd false _ _ = _
        rw [cnd_false, gI_ok (by omega), bnd_pure]
        rfl
      · rw [if_neg (fun h => hok (h _ (List.getElem_mem hlt)))]
        refine fix_done fun next => ?_
        show tag_readWords_l3 K ws next (i : Int) [] _ = _
        unfold tag_readWords_l3 tag_readWords_j4
        have hf : (rtT ws[i]).2 = false := by simpa using hok
        rw [cI, if_pos (by omega), gAt_nat hlt, bnd_pure, cI, if_pos h5, r1, bnd_pure, gApp_ok (by rw [hlen, List.length_singleton]; omega), bnd_pure, hf]
        rfl
  exact key ws.length 0 (by omega) (by simp)
theorem tag_ints {K : Int} {ws : List (List UInt8)} (hl : ws.length ≤ 2000000) (h5 : K ≠ 5) :
    fix (fun next3 (s : Int × List Int × List T_tag_Ratio) => tag_readWords_l3 K ws next3 s.1 s.2.1 s.2.2) (0, ([] : List Int), ([] : List T_tag_Ratio)) = some (if ∀ x ∈ ws, (pnT (decide (K = 9)) x).2 = true then ((⟨K, [], ws.map fun x => (pnT (decide (K = 9)) x).1, [], []⟩ : T_tag_Value), true) else (v0, false)) := by
  generalize hg : decide (K = 9) = sg
  have key : ∀ m i : Nat, i + m = ws.length → (∀ x ∈ ws.take i, (pnT sg x).2 = true) → fix (fun next3 (s : Int × List Int × List T_tag_Ratio) => tag_readWords_l3 K ws next3 s.1 s.2.1 s.2.2) ((i : Int), (ws.take i).map (fun x => (pnT sg x).1), ([] : List T_tag_Ratio)) = some (if ∀ x ∈ ws, (pnT sg x).2 = true then ((⟨K, [], ws.map fun x => (pnT sg x).1, [], []⟩ : T_tag_Value), true) else (v0, false)) := by
    intro m
    induction m with
    | zero =>
      intro i hi hp
      have : i = ws.length := by omega
      subst this
      rw [List.take_length] at hp ⊢
      rw [if_pos hp]
      refine fix_done fun next => ?_
      show tag_readWords_l3 K ws next (ws.length : Int) _ [] = _
      unfold tag_readWords_l3 tag_readWords_j2
      rw [cI, if_neg (by omega)]
    | succ m ih =>
      intro i hi hp
      have hlt : i < ws.length := by omega
      obtain ⟨r1, _⟩ := pnT_eq sg ws[i]
      have hlen : ((ws.take i).map fun x => (pnT sg x).1).length = i := by rw [List.length_map, List.length_take]; omega
      by_cases hok : (pnT sg ws[i]).2 = true
      · have ht : (ws.take (i + 1)).map (fun x => (pnT sg x).1) = ((ws.take i).map fun x => (pnT sg x).1) ++ [(pnT sg ws[i]).1] := by
          rw [List.take_add_one, List.getElem?_eq_getElem hlt, List.map_append]; rfl
        have := ih (i + 1) (by omega) (by
          intro x hx'
          rw [List.take_add_one, List.getElem?_eq_getElem hlt] at hx'
          rcases List.mem_append.1 hx' with h | h
          · exact hp x h
          · have : x = ws[i] := by simpa using h
            rw [this]; exact hok)
        rw [ht] at this
        rw [← this]
        refine fix_goto _ fun next => ?_
        show tag_readWords_l3 K ws next (i : Int) _ [] = _
        unfold tag_readWords_l3 tag_readWords_j4
        rw [cI, if_pos (by omega), gAt_nat hlt, bnd_pure, cI, if_neg h5, hg, r1, bnd_pure, gApp_ok (by rw [hlen, List.length_singleton]; omega), bnd_pure, hok]
        show cnd false _ _ = _
        rw [cnd_false, gI_ok (by omega), bnd_pure]
        rfl
      · rw [if_neg (fun h => hok (h _ (List.getElem_mem hlt)))]
        refine fix_done fun next => ?_
        show tag_readWords_l3 K ws next (i : Int) _ [] = _
        unfold tag_readWords_l3 tag_readWords_j4
        have hf : (pnT sg ws[i]).2 = false := by simpa using hok
        rw [cI, if_pos (by omega), gAt_nat hlt, bnd_pure, cI, if_neg h5, hg, r1, bnd_pure, gApp_ok (by rw [hlen, List.length_singleton]; omega), bnd_pure, hf]
        rfl
  exact key ws.length 0 (by omega) (by simp)

/-- The loops of the reference: they go through all words. -/
theorem R_ratios {K : Int} {ws : List (List UInt8)} (hl : ws.length ≤ 2000000) (hx : ∀ x ∈ ws, x.length ≤ 2000000) (ok0 : Bool) :
    fix (fun next4 (s : Bool × Int × List T_tag_Ratio) => R_ValueRead_l4 K ws next4 s.1 s.2.1 s.2.2) (ok0, 0, ([] : List T_tag_Ratio)) = R_ValueRead_j2 K (ok0 && ws.all fun x => (rtT x).2) [] [] (ws.map rr) := by
  have key : ∀ m i : Nat, i + m = ws.length → fix (fun next4 (s : Bool × Int × List T_tag_Ratio) => R_ValueRead_l4 K ws next4 s.1 s.2.1 s.2.2) ((ok0 && (ws.take i).all fun x => (rtT x).2), (i : Int), (ws.take i).map rr) = R_ValueRead_j2 K (ok0 && ws.all fun x => (rtT x).2) [] [] (ws.map rr) := by
    intro m
    induction m with
    | zero =>
      intro i hi
      have : i = ws.length := by omega
      subst this
      rw [List.take_length]
      refine fix_done fun next => ?_
      show R_ValueRead_l4 K ws next _ (ws.length : Int) _ = _
      unfold R_ValueRead_l4
      rw [cI, if_neg (by omega)]
    | succ m ih =>
      intro i hi
      have hlt : i < ws.length := by omega
      have hxi := hx _ (List.getElem_mem hlt)
      obtain ⟨r1, r2, r3⟩ := ratio_eq hxi
      obtain ⟨_, a2, _⟩ := pnT_eq false (cutS 47 ws[i]).1
      obtain ⟨_, b2, _⟩ := pnT_eq false (cutS 47 ws[i]).2.1
      have hlen : ((ws.take i).map rr).length = i := by rw [List.length_map, List.length_take]; omega
      rw [← ih (i + 1) (by omega), List.take_add_one, List.getElem?_eq_getElem hlt, List.all_append, List.map_append]
      generalize (ws.take i).all (fun x => (rtT x).2) = al
      refine fix_goto _ fun next => ?_
      show R_ValueRead_l4 K ws next _ (i : Int) _ = next ((ok0 && (al && [ws[i]].all fun x => (rtT x).2)), ((i + 1 : Nat) : Int), (ws.take i).map rr ++ [ws[i]].map rr)
      have e5 : ∀ b, R_ValueRead_j5 (i : Int) ((ws.take i).map rr) next (whT false (cutS 47 ws[i]).1) (whT false (cutS 47 ws[i]).2.1) b = next (b, (i : Int) + 1, (ws.take i).map rr ++ [rr ws[i]]) := fun b => by
        unfold R_ValueRead_j5
        rw [gApp_ok (by rw [hlen, List.length_singleton]; omega), bnd_pure, gI_ok (by omega), bnd_pure]; rfl
      unfold R_ValueRead_l4
      rw [cI, if_pos (by omega), gAt_nat hlt, bnd_pure, Cut_eq (by omega), bnd_pure, a2, bnd_pure, b2, bnd_pure, e5, e5]
      have hr : [ws[i]].all (fun x => (rtT x).2) = (rtT ws[i]).2 := by simp
      rw [hr, r2]
      cases ok0 <;> cases al <;> cases (cutS 47 ws[i]).2.2 <;> cases (whT false (cutS 47 ws[i]).1).2 <;> rfl
  have := key ws.length 0 (by omega)
  simpa using this
theorem R_ints {K : Int} {ws : List (List UInt8)} (hl : ws.length ≤ 2000000) (ok0 : Bool) :
    fix (fun next6 (s : Bool × Int × List Int) => R_ValueRead_l6 K ws next6 s.1 s.2.1 s.2.2) (ok0, 0, ([] : List Int)) = R_ValueRead_j2 K (ok0 && ws.all fun x => (whT (decide (K = 9)) x).2) [] (ws.map fun x => (whT (decide (K = 9)) x).1) [] := by
  generalize hg : decide (K = 9) = sg
  have key : ∀ m i : Nat, i + m = ws.length → fix (fun next6 (s : Bool × Int × List Int) => R_ValueRead_l6 K ws next6 s.1 s.2.1 s.2.2) ((ok0 && (ws.take i).all fun x => (whT sg x).2), (i : Int), (ws.take i).map fun x => (whT sg x).1) = R_ValueRead_j2 K (ok0 && ws.all fun x => (whT sg x).2) [] (ws.map fun x => (whT sg x).1) [] := by
    intro m
    induction m with
    | zero =>
      intro i hi
      have : i = ws.length := by omega
      subst this
      rw [List.take_length]
      refine fix_done fun next => ?_
      show R_ValueRead_l6 K ws next _ (ws.length : Int) _ = _
      unfold R_ValueRead_l6
      rw [cI, if_neg (by omega)]
    | succ m ih =>
      intro i hi
      have hlt : i < ws.length := by omega
      obtain ⟨_, a2, _⟩ := pnT_eq sg ws[i]
      have hlen : ((ws.take i).map fun x => (whT sg x).1).length = i := by rw [List.length_map, List.length_take]; omega
      rw [← ih (i + 1) (by omega), List.take_add_one, List.getElem?_eq_getElem hlt, List.all_append, List.map_append]
      generalize (ws.take i).all (fun x => (whT sg x).2) = al
      refine fix_goto _ fun next => ?_
      show R_ValueRead_l6 K ws next _ (i : Int) _ = next ((ok0 && (al && [ws[i]].all fun x => (whT sg x).2)), ((i + 1 : Nat) : Int), (ws.take i).map (fun x => (whT sg x).1) ++ [ws[i]].map fun x => (whT sg x).1)
      have e7 : ∀ b, R_ValueRead_j7 (i : Int) ((ws.take i).map fun x => (whT sg x).1) next (whT sg ws[i]) b = next (b, (i : Int) + 1, (ws.take i).map (fun x => (whT sg x).1) ++ [(whT sg ws[i]).1]) := fun b => by
        unfold R_ValueRead_j7
        rw [gApp_ok (by rw [hlen, List.length_singleton]; omega), bnd_pure, gI_ok (by omega), bnd_pure]
      unfold R_ValueRead_l6
      rw [cI, if_pos (by omega), gAt_nat hlt, bnd_pure, hg, a2, bnd_pure, e7, e7]
      have hr : [ws[i]].all (fun x => (whT sg x).2) = (whT sg ws[i]).2 := by simp
      rw [hr]
      cases ok0 <;> cases al <;> rfl
  have := key ws.length 0 (by omega)
  simpa using this

/-! ### a value read -/

theorem Same_v (v : T_tag_Value) (hb : vB v) (he : v.Entries = []) : R_SameValue v v = some true := by
  have e1 : slices_Equal_int v.Ints v.Ints = some true := by
    unfold slices_Equal_int
    rw [cI, if_neg (by simp)]
    have := hb.2.1
    refine fix_upto 0 v.Ints.length (by omega) (fun next k _ hk => ?_) (fun next => ?_)
    · show slices_Equal_int_l1 _ _ next (k : Int) = _
      unfold slices_Equal_int_l1
      rw [cI, if_pos (by omega), gAt_nat hk, bnd_pure, bnd_pure, cI, if_neg (by simp), gI_ok (by omega), bnd_pure]
    · show slices_Equal_int_l1 _ _ next (v.Ints.length : Int) = _
      unfold slices_Equal_int_l1
      rw [cI, if_neg (by omega)]
  have e2 : slices_Equal_tag_Ratio v.Ratios v.Ratios = some true := by
    unfold slices_Equal_tag_Ratio
    rw [cI, if_neg (by simp)]
    have := hb.2.2
    refine fix_upto 0 v.Ratios.length (by omega) (fun next k _ hk => ?_) (fun next => ?_)
    · show slices_Equal_tag_Ratio_l1 _ _ next (k : Int) = _
      unfold slices_Equal_tag_Ratio_l1
      rw [cI, if_pos (by omega), gAt_nat hk, bnd_pure, bnd_pure, show eq_tag_Ratio v.Ratios[k] v.Ratios[k] = true from by unfold eq_tag_Ratio; simp]
      show cnd false _ _ = _
      rw [cnd_false, gI_ok (by omega), bnd_pure]
    · show slices_Equal_tag_Ratio_l1 _ _ next (v.Ratios.length : Int) = _
      unfold slices_Equal_tag_Ratio_l1
      rw [cI, if_neg (by omega)]
  have e3 : R_SameDir ([] : List T_tag_Entry) [] = some true := by
    unfold R_SameDir slices_EqualFunc_tag_Entry_tag_Entry_tag_Entry
    rw [cI, if_neg (by simp)]
    have : fix (fun next1 s => slices_EqualFunc_tag_Entry_tag_Entry_tag_Entry_l1 [] [] R_SameDir_1 next1 s) 0 = some true := fix_done fun next => by
      show slices_EqualFunc_tag_Entry_tag_Entry_tag_Entry_l1 [] [] R_SameDir_1 next 0 = _
      unfold slices_EqualFunc_tag_Entry_tag_Entry_tag_Entry_l1
      rw [cI, if_neg (by simp)]
    rw [this, bnd_pure]
  unfold R_SameValue
  rw [cI, if_pos rfl, cI, if_pos rfl, e1, bnd_pure, cnd_true, e2, bnd_pure, cnd_true, he, e3, bnd_pure]

theorem copy_v (v : T_tag_Value) (hb : vB v) (he : v.Entries = []) : tag_copyValue v = some v := by
  have h1 := hb.2.1
  have h2 := hb.2.2
  unfold tag_copyValue slices_Clone_int slices_Clone_tag_Ratio tag_copyEntries
  rw [gApp_ok (by simp; omega), bnd_pure, bnd_pure, gApp_ok (by simp; omega), bnd_pure, bnd_pure, he, cI, if_pos (by simp), bnd_pure]
  obtain ⟨k, t, i, r, e⟩ := v
  simp only at he
  subst he
  rfl

/-- What both sides do with a value that was read. -/
theorem end_sim {K : Int} (h13 : K ≠ 13) {t : List UInt8} {li : List Int} {lr : List T_tag_Ratio} (hb : vB ⟨K, t, li, lr, []⟩) : ∃ r : T_tag_Value × Int,
    (bnd (tag_CheckValue (⟨K, t, li, lr, []⟩ : T_tag_Value)) fun t33 => cnd (decide (t33 ≠ 0)) (some (v0, t33)) (bnd (tag_copyValue (⟨K, t, li, lr, []⟩ : T_tag_Value)) fun t39 => some (t39, 0))) = some r ∧ R_ValueRead_j2 K true t li lr = some r ∧ R_SameValue r.1 r.1 = some true := by
  have hz : szD 5 ([] : List T_tag_Entry) ≤ 2000000 := by rw [szD_nil]; omega
  rw [CV_eq (v := ⟨K, t, li, lr, []⟩) hb hz, bnd_pure, cI]
  unfold R_ValueRead_j2
  show ∃ r, _ ∧ cnd false _ _ = _ ∧ _
  rw [cnd_false, VF_eq (v := ⟨K, t, li, lr, []⟩) hb hz, bnd_pure, cI]
  by_cases h : valE (⟨K, t, li, lr, []⟩ : T_tag_Value) ≠ 0
  · rw [if_pos h, if_pos h]
    exact ⟨_, rfl, rfl, Same_v v0 ⟨by simp [v0], by simp [v0], by simp [v0]⟩ rfl⟩
  · rw [if_neg h, if_neg h, copy_v _ hb rfl, bnd_pure]
    exact ⟨_, rfl, rfl, Same_v _ hb rfl⟩

theorem fail_sim {K : Int} {t : List UInt8} {li : List Int} {lr : List T_tag_Ratio} : R_ValueRead_j2 K false t li lr = some (v0, 8) := rfl
theorem v0_same : R_SameValue v0 v0 = some true := Same_v v0 ⟨by simp [v0], by simp [v0], by simp [v0]⟩ rfl

theorem text_kind (K : Int) : tag_isText K = some (decide (textK K)) := by
  unfold tag_isText textK
  rw [cI]
  by_cases h : K = 2
  · simp [h]
  · simp [h]

/-- A string read as a value, on both sides. -/
theorem Read_sim (s : List UInt8) : ∃ r : T_tag_Value × Int, tag_ReadValue s = some r ∧ R_ValueRead s = some r ∧ R_SameValue r.1 r.1 = some true := by
  unfold tag_ReadValue R_ValueRead
  rw [cI, cI]
  by_cases hs : 1000000 < (s.length : Int)
  · rw [if_pos hs, if_pos hs]
    exact ⟨(v0, 4), rfl, rfl, v0_same⟩
  rw [if_neg hs, if_neg hs]
  obtain ⟨ws0, hw, hne, hl, hx⟩ := Split_ok 32 s (by omega)
  obtain ⟨w, ws, rfl⟩ := List.exists_cons_of_ne_nil hne
  have hat : gAt (w :: ws) 0 = some w := gAt_nat (k := 0) (by simp)
  have hcut : gCut (w :: ws) 1 (w :: ws).length = some ws := by rw [gCut_from (by simp; omega)]; rfl
  rw [List.length_cons] at hl
  have hxs : ∀ x ∈ ws, x.length ≤ 2000000 := fun x h => by have := hx x (List.mem_cons_of_mem _ h); omega
  have hwl : ws.length ≤ 2000000 := by omega
  rw [hw, bnd_pure, bnd_pure, hat, bnd_pure, kindOf_eq, bnd_pure, kw_eq, bnd_pure]
  have hk := kindW_in w
  -- the reference from its words on
  suffices H : ∃ r : T_tag_Value × Int, (cnd (decide (kindW w = 0)) (some (v0, 8)) (bnd (gCut (w :: ws) 1 (w :: ws).length) fun t25 => bnd (tag_readWords (kindW w) t25) fun t26 => cnd (!t26.2) (some (v0, 8)) (bnd (tag_CheckValue t26.1) fun t33 => cnd (decide (t33 ≠ 0)) (some (v0, t33)) (bnd (tag_copyValue t26.1) fun t39 => some (t39, 0))))) = some r ∧ R_ValueRead_j1 (w :: ws) (kindW w) = some r ∧ R_SameValue r.1 r.1 = some true by
    obtain ⟨r, h1, h2, h3⟩ := H
    exact ⟨r, h1, word_range hat h2, h3⟩
  generalize kindW w = K at hk
  unfold R_ValueRead_j1
  rw [hcut, bnd_pure, bnd_pure]
  have hj3 : cnd (decide (K = 2)) (R_ValueRead_j3 K ws (decide (K = 2))) (R_ValueRead_j3 K ws (decide (K = 7))) = R_ValueRead_j3 K ws (decide (textK K)) := by
    rw [cI]
    unfold textK
    by_cases h : K = 2
    · simp [h]
    · simp [h]
  rw [hj3]
  unfold R_ValueRead_j3
  by_cases h0 : K = 0
  · subst h0
    rw [cY rfl]
    have ht : decide (textK 0) = false := by decide
    rw [ht, cnd_false, cI, if_neg (by omega), show decide ((0 : Int) < 0) = false from rfl, R_ints hwl, Bool.false_and, fail_sim]
    exact ⟨(v0, 8), rfl, rfl, v0_same⟩
  rw [cN h0]
  have hpos : decide (0 < K) = true := decide_eq_true (by omega)
  have h13 : K ≠ 13 := by omega
  unfold tag_readWords
  rw [text_kind, bnd_pure]
  by_cases ht : textK K
  · rw [decide_eq_true ht, cnd_true, cnd_true, hpos]
    match ws, hwl, hxs with
    | [], _, _ =>
      rw [cN (by simp), cN (by simp), cN (by simp)]
      unfold tag_readWords_j1
      obtain ⟨u, u1, u2, u3⟩ := unhex_ok [] (by simp)
      have hu : u = ([], true) := by
        have : tag_unhex [] = some ([], true) := by
          unfold tag_unhex
          refine fix_done fun next => ?_
          show tag_unhex_l2 next [] [] = _
          unfold tag_unhex_l2
          rw [cN (by simp)]; rfl
        rw [this] at u2; cases u2; rfl
      rw [show gJoin ([] : List (List UInt8)) [] = some [] from rfl, bnd_pure, u2, bnd_pure, bnd_pure, hu]
      show ∃ r, cnd false _ _ = _ ∧ _
      rw [cnd_false]
      exact end_sim h13 ⟨by simp, by simp, by simp⟩
    | [x], _, hxs =>
      have hxl := hxs x (by simp)
      obtain ⟨u, u1, u2, u3⟩ := unhex_ok x hxl
      have hl1 : (([x] : List (List UInt8)).length : Int) = 1 := by simp
      rw [cN (show ¬ (1 < (([x] : List (List UInt8)).length : Int)) by simp), cY hl1, cY (show 0 < (([x] : List (List UInt8)).length : Int) by simp), show gAt [x] 0 = some x from rfl, bnd_pure, bnd_pure, u3, bnd_pure, cY hl1, bnd_pure]
      by_cases hx0 : x = []
      · rw [cY hx0, bnd_pure]
        show ∃ r, cnd true _ _ = _ ∧ _
        rw [cnd_true, decide_eq_false (by simpa using hx0), fail_sim]
        refine ⟨_, rfl, ?_, v0_same⟩
        cases u.2 <;> rfl
      · rw [cN hx0]
        unfold tag_readWords_j1
        have hj : gJoin [x] [] = some x := by
          unfold gJoin
          have e : ([] : List UInt8).intercalate [x] = x := by simp [List.intercalate]
          rw [if_pos (by rw [e, List.length_singleton]; omega), e]
        rw [hj, bnd_pure, u2, bnd_pure, bnd_pure, decide_eq_true hx0]
        cases hu : u.2
        · rw [cnd_false, fail_sim]
          exact ⟨(v0, 8), rfl, rfl, v0_same⟩
        · rw [cnd_true]
          show ∃ r, cnd false _ _ = _ ∧ _
          rw [cnd_false]
          exact end_sim h13 ⟨u1, by simp, by simp⟩
    | x :: y :: l, _, hxs =>
      obtain ⟨u, u1, u2, u3⟩ := unhex_ok x (hxs x (by simp))
      have hlen : ¬ (((x :: y :: l).length : Int) = 1) := by simp only [List.length_cons]; omega
      rw [cY (by simp only [List.length_cons]; omega), bnd_pure, cY (by simp only [List.length_cons]; omega), show gAt (x :: y :: l) 0 = some x from gAt_nat (k := 0) (by simp), bnd_pure, u3, bnd_pure, cN hlen, fail_sim]
      refine ⟨(v0, 8), rfl, ?_, v0_same⟩
      cases u.2 <;> rfl
  · rw [decide_eq_false ht, cnd_false, cnd_false, hpos, cI]
    by_cases h5 : K = 5
    · rw [if_pos h5, tag_words hwl hxs h5, bnd_pure, R_ratios hwl hxs, Bool.true_and]
      by_cases hall : ∀ x ∈ ws, (rtT x).2 = true
      · rw [if_pos hall, show (ws.all fun x => (rtT x).2) = true from List.all_eq_true.2 hall]
        have e : ws.map (fun x => (rtT x).1) = ws.map rr := List.map_congr_left fun x h => (ratio_eq (hxs x h)).2.2 (hall x h)
        show ∃ r, cnd false _ _ = _ ∧ _
        rw [cnd_false, ← e]
        exact end_sim h13 ⟨by simp, by simp, by simpa using hwl⟩
      · rw [if_neg hall, show (ws.all fun x => (rtT x).2) = false from by
          rw [Bool.eq_false_iff]; exact fun h => hall (List.all_eq_true.1 h), fail_sim]
        exact ⟨(v0, 8), rfl, rfl, v0_same⟩
    · rw [if_neg h5, tag_ints hwl h5, bnd_pure, R_ints hwl, Bool.true_and]
      have e2 : (ws.all fun x => (whT (decide (K = 9)) x).2) = (ws.all fun x => (pnT (decide (K = 9)) x).2) := by
        exact congrArg ws.all (funext fun x => (pnT_eq _ x).2.2.1.symm)
      rw [e2]
      by_cases hall : ∀ x ∈ ws, (pnT (decide (K = 9)) x).2 = true
      · rw [if_pos hall, show (ws.all fun x => (pnT (decide (K = 9)) x).2) = true from List.all_eq_true.2 hall]
        have e : ws.map (fun x => (pnT (decide (K = 9)) x).1) = ws.map fun x => (whT (decide (K = 9)) x).1 := List.map_congr_left fun x h => (pnT_eq _ x).2.2.2 (hall x h)
        show ∃ r, cnd false _ _ = _ ∧ _
        rw [cnd_false, ← e]
        exact end_sim h13 ⟨by simp, by simpa using hwl, by simp⟩
      · rw [if_neg hall, show (ws.all fun x => (pnT (decide (K = 9)) x).2) = false from by
          rw [Bool.eq_false_iff]; exact fun h => hall (List.all_eq_true.1 h), fail_sim]
        exact ⟨(v0, 8), rfl, rfl, v0_same⟩

/-! ### the law -/

theorem told_str {v w : List UInt8} {e f : Int} (h0 : f = 0 → v = w) (h1 : f ≠ 0 → v = []) (he : e = f) : Law_told_string v e w f = some true := by
  subst he
  have key : Law_told_string_j1 v e e v = some true := by
    unfold Law_told_string_j1; simp [cnd]
  unfold Law_told_string
  rw [cnd_if]
  by_cases h : e ≠ 0
  · rw [if_pos h]; have := h1 h; subst this; exact key
  · rw [if_neg h, ← h0 (by simpa using h)]; exact key

theorem j2_true (v : T_tag_Value) (s x t : List UInt8) (e f : Int) (ht : tag_ValueText v = some (t, e)) (h0 : f = 0 → t = x) (h1 : f ≠ 0 → t = []) (he : e = f) : Law_TagValues_j2 v s f x = some true := by
  unfold Law_TagValues_j2
  rw [ht, bnd_pure, told_str h0 h1 he, bnd_pure]
  show cnd false _ _ = _
  rw [cnd_false]
  have := fix_upto (F := fun next3 s_1 => Law_TagValues_l3 s x next3 s_1) (o := some true) 0 2 (by omega) (fun next k _ hk => ?_) (fun next => ?_)
  · exact this
  · show Law_TagValues_l3 s x next (k : Int) = _
    unfold Law_TagValues_l3
    obtain ⟨y, hy⟩ : ∃ y, gAt [s, x] (k : Int) = some y := ⟨_, gAt_nat (by simpa using hk)⟩
    obtain ⟨r, r1, r2, r3⟩ := Read_sim y
    rw [cI, if_pos (by omega), hy, bnd_pure, r1, bnd_pure, r2, bnd_pure, cI, if_neg (by simp), r3, bnd_pure]
    show cnd false _ _ = _
    rw [cnd_false, gI_ok (by omega), bnd_pure]
  · show Law_TagValues_l3 s x next ((2 : Nat) : Int) = _
    unfold Law_TagValues_l3
    rw [cI, if_neg (by omega)]

theorem tagValues_all (v : T_tag_Value) (s : List UInt8) (hb : vB v) (hz : szD 5 v.Entries ≤ 2000000) : Law_TagValues v s = some true := by
  unfold Law_TagValues
  have hVT : tag_ValueText v = bnd (some (valE v)) fun t7 => cnd (decide (t7 ≠ 0)) (some ([], t7)) (cnd (decide (v.Kind = 13)) (some ([], 10)) (bnd (tag_valueText v) fun t15 => cnd (decide (1000000 < (t15.length : Int))) (some ([], 4)) (some (t15, 0)))) := by
    unfold tag_ValueText; rw [CV_eq hb hz]
  rw [bnd_pure] at hVT
  rw [VF_eq hb hz, bnd_pure, CV_eq hb hz, bnd_pure, cI, if_neg (by simp), cI]
  by_cases he : valE v = 0
  · rw [cN (by simpa using he)] at hVT
    rw [if_pos he, cI]
    by_cases h13 : v.Kind = 13
    · rw [cY h13] at hVT
      rw [if_pos h13]
      unfold Law_TagValues_j1
      rw [cN (by omega)]
      exact j2_true v s [] [] 10 10 hVT (fun h => by omega) (fun _ => rfl) rfl
    · rw [cN h13] at hVT
      rw [if_neg h13]
      have hp : plainE v = 0 := by unfold valE at he; rw [if_pos h13] at he; exact he
      obtain ⟨t, t1, t2⟩ := text_sim hb hp h13
      rw [t1, bnd_pure] at hVT
      unfold Law_TagValues_j1
      rw [cY he, t2, bnd_pure]
      by_cases hl : 1000000 < (t.length : Int)
      · rw [cY hl] at hVT
        rw [cY hl]
        exact j2_true v s t [] 4 4 hVT (fun h => by omega) (fun _ => rfl) rfl
      · rw [cN hl] at hVT
        rw [cN hl, he]
        exact j2_true v s t t 0 0 hVT (fun _ => rfl) (fun h => absurd rfl h) rfl
  · rw [cY he] at hVT
    rw [if_neg he]
    unfold Law_TagValues_j1
    rw [cN he]
    exact j2_true v s [] [] _ _ hVT (fun h => absurd h he) (fun _ => rfl) rfl
theorem valueB_of {v : T_tag_Value} (h1 : v.Text.length + v.Ints.length + v.Ratios.length ≤ 1048576) (h2 : szD 5 v.Entries ≤ 1048576) : vB v ∧ szD 5 v.Entries ≤ 2000000 :=
  ⟨⟨by omega, by omega, by omega⟩, by omega⟩
theorem tagValuesS (v : T_tag_Value) (s : List UInt8) {ψ : Prop} (hv : vB v ∧ szD 5 v.Entries ≤ 2000000) (_ : ψ) : Law_TagValues v s = some true := tagValues_all v s hv.1 hv.2
end Go.M
