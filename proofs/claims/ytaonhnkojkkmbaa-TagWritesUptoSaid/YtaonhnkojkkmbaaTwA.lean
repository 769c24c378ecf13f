/- Numbers and values as octets, values checked, in plain Lean. Conditions: none. -/
import Derived.Test.YtaonhnkojkkmbaaMTw
import Derived.Test.YtaonhnkojkkmbaaPl
import Derived.Test.YtaonhnkojkkmbaaPl2
namespace Go.M
open Go.Md Go.Pl

theorem cI {α : Type} {p : Prop} [Decidable p] {x y : Option α} : cnd (decide p) x y = if p then x else y := cnd_if ..
/-- Recursion, with a ghost. -/
theorem fix_ofG {α ρ γ : Type} {F : (α → Option ρ) → α → Option ρ} (spec : γ → α → Option ρ) (I : γ → α → Prop) (μ : γ → Nat)
    (step : ∀ (next : α → Option ρ) (g : γ) (a : α), I g a → (∀ g' b, I g' b → μ g' < μ g → next b = spec g' b) → F next a = spec g a) (g : γ) (a : α) (ha : I g a) : fix F a = spec g a := by
  have key : ∀ (n : Nat) (g : γ) (a : α), I g a → μ g < n → it F n a = spec g a := by
    intro n
    induction n with
    | zero => intro g a _ h; omega
    | succ n ih => intro g a ha h; exact step _ g a ha fun g' b hb hlt => ih g' b hb (by omega)
  exact fix_ev (k := μ g + 1) fun n hn => key n g a ha (by omega)

theorem ofStr_app (a b : List UInt8) : ofStr (a ++ b) = ofStr a ++ ofStr b := List.map_append
theorem ofStr_len (a : List UInt8) : (ofStr a).length = a.length := List.length_map _
theorem toStr_ofStr (a : List UInt8) : toStr (ofStr a) = a := by
  unfold toStr ofStr
  rw [List.map_map]
  conv => rhs; rw [← List.map_id a]
  apply List.map_congr_left
  intro c _
  show UInt8.ofNat ((c.toNat : Int).toNat) = c
  rw [Int.toNat_natCast, UInt8.ofNat_toNat]
theorem ofStr_toStr {l : List Int} (h : ∀ x ∈ l, 0 ≤ x ∧ x ≤ 255) : ofStr (toStr l) = l := by
  unfold toStr ofStr
  rw [List.map_map]
  conv => rhs; rw [← List.map_id l]
  apply List.map_congr_left
  intro c hc
  have := h c hc
  show (((UInt8.ofNat c.toNat).toNat : Nat) : Int) = c
  rw [UInt8.toNat_ofNat']
  omega

/-! ### numbers -/

/-- Both loops of a number do the same. -/
theorem num_ex (big : Bool) (n : Int) (k : Nat) (hk : k ≤ 8) : ∃ L : List Int, tag_number big n k = some L ∧ R_number big n k = some (toStr L) ∧ L.length = k ∧ (∀ x ∈ L, 0 ≤ x ∧ x ≤ 255) ∧ (n = 0 → ∀ x ∈ L, x = 0) := by
  have key : ∀ m i : Nat, i + m = k → ∀ l : List Int, l.length = k → (∀ x ∈ l, 0 ≤ x ∧ x ≤ 255) → (n = 0 → ∀ x ∈ l, x = 0) →
      ∃ L : List Int, fix (fun next1 s => tag_number_l1 big n k (List.replicate k 0) next1 s.1 s.2) ((i : Int), l) = some L ∧ fix (fun next2 s => R_number_l2 big n k (List.replicate k 0) next2 s.1 s.2) ((i : Int), l) = some (toStr L) ∧ L.length = k ∧ (∀ x ∈ L, 0 ≤ x ∧ x ≤ 255) ∧ (n = 0 → ∀ x ∈ L, x = 0) := by
    intro m
    induction m with
    | zero =>
      intro i hi l hl hx hz
      refine ⟨l, fix_done fun next => ?_, fix_done fun next => ?_, hl, hx, hz⟩
      · show tag_number_l1 big n k _ next (i : Int) l = _
        unfold tag_number_l1
        rw [cI, if_neg (by rw [List.length_replicate]; omega)]
      · show R_number_l2 big n k _ next (i : Int) l = _
        unfold R_number_l2
        rw [cI, if_neg (by rw [List.length_replicate]; omega)]; rfl
    | succ m ih =>
      intro i hi l hl hx hz
      have hs : ∃ y : Int, gShr 64 n (8 * (i : Int)) = some y ∧ (n = 0 → y = 0) := by
        refine ⟨n / 2 ^ min (8 * (i : Int)).toNat 64, if_pos (by omega), fun e => by rw [e]; exact Int.zero_ediv _⟩
      obtain ⟨y, hy, hy0⟩ := hs
      have hp : ∃ q : Nat, q < k ∧ (∀ (next : Int × List Int → Option (List Int)), tag_number_l1 big n k (List.replicate k 0) next (i : Int) l = next ((i : Int) + 1, l.set q (wU8 y))) ∧ (∀ (next : Int × List Int → Option (List UInt8)), R_number_l2 big n k (List.replicate k 0) next (i : Int) l = next ((i : Int) + 1, l.set q (wU8 y))) := by
        cases big
        · refine ⟨i, by omega, fun next => ?_, fun next => ?_⟩
          · unfold tag_number_l1
            rw [cI, if_pos (by rw [List.length_replicate]; omega), cnd_false]
            unfold tag_number_j2
            rw [gI_ok (by omega), bnd_pure, hy, bnd_pure, gAt_nat (by omega), bnd_pure, gSet_ok (by omega) (by omega), bnd_pure, gI_ok (by omega), bnd_pure, Int.toNat_natCast]
          · unfold R_number_l2
            rw [cI, if_pos (by rw [List.length_replicate]; omega), cnd_false]
            unfold R_number_j3
            rw [gI_ok (by omega), bnd_pure, hy, bnd_pure, gAt_nat (by omega), bnd_pure, gSet_ok (by omega) (by omega), bnd_pure, gI_ok (by omega), bnd_pure, Int.toNat_natCast]
        · refine ⟨k - 1 - i, by omega, fun next => ?_, fun next => ?_⟩
          · unfold tag_number_l1
            rw [cI, if_pos (by rw [List.length_replicate]; omega), cnd_true, gI_ok (by omega), bnd_pure, gI_ok (by omega), bnd_pure]
            unfold tag_number_j2
            rw [gI_ok (by omega), bnd_pure, hy, bnd_pure, gAt_ok (by omega) (by omega), bnd_pure, gSet_ok (by omega) (by omega), bnd_pure, gI_ok (by omega), bnd_pure, show ((k : Int) - 1 - (i : Int)).toNat = k - 1 - i from by omega]
          · unfold R_number_l2
            rw [cI, if_pos (by rw [List.length_replicate]; omega), cnd_true, gI_ok (by omega), bnd_pure, gI_ok (by omega), bnd_pure]
            unfold R_number_j3
            rw [gI_ok (by omega), bnd_pure, hy, bnd_pure, gAt_ok (by omega) (by omega), bnd_pure, gSet_ok (by omega) (by omega), bnd_pure, gI_ok (by omega), bnd_pure, show ((k : Int) - 1 - (i : Int)).toNat = k - 1 - i from by omega]
      obtain ⟨q, hq, h1, h2⟩ := hp
      obtain ⟨L, a1, a2, a3, a4, a5⟩ := ih (i + 1) (by omega) (l.set q (wU8 y)) (by rw [List.length_set]; exact hl) (fun x hxm => by
        rcases List.mem_or_eq_of_mem_set hxm with h | h
        · exact hx x h
        · rw [h]; unfold wU8; omega) (fun e x hxm => by
        rcases List.mem_or_eq_of_mem_set hxm with h | h
        · exact hz e x h
        · rw [h, hy0 e]; rfl)
      exact ⟨L, (fix_goto _ h1).trans a1, (fix_goto _ h2).trans a2, a3, a4, a5⟩
  obtain ⟨L, a1, a2, a3⟩ := key k 0 (by omega) (List.replicate k 0) (by simp) (fun x hx => by rw [(List.mem_replicate.1 hx).2]; omega) (fun _ x hx => (List.mem_replicate.1 hx).2)
  refine ⟨L, ?_, ?_, a3⟩
  · unfold tag_number
    rw [gMake_ok (by omega), bnd_pure, Int.toNat_natCast]; exact a1
  · unfold R_number
    rw [gMake_ok (by omega), bnd_pure, Int.toNat_natCast]; exact a2

/-- A number's octets. -/
noncomputable def numS (big : Bool) (n : Int) (k : Nat) : List UInt8 := toStr ((tag_number big n k).getD [])
theorem num_tag (big : Bool) (n : Int) {k : Nat} (hk : k ≤ 8) : tag_number big n k = some (ofStr (numS big n k)) := by
  obtain ⟨L, h1, _, _, h4, _⟩ := num_ex big n k hk
  unfold numS
  rw [h1, Option.getD_some, ofStr_toStr h4]
theorem num_R (big : Bool) (n : Int) {k : Nat} (hk : k ≤ 8) : R_number big n k = some (numS big n k) := by
  obtain ⟨L, h1, h2, _⟩ := num_ex big n k hk
  unfold numS
  rw [h1, Option.getD_some, h2]
theorem num_len (big : Bool) (n : Int) {k : Nat} (hk : k ≤ 8) : (numS big n k).length = k := by
  obtain ⟨L, h1, _, h3, _⟩ := num_ex big n k hk
  unfold numS toStr
  rw [h1, Option.getD_some, List.length_map, h3]
theorem num_zero (big : Bool) {k : Nat} (hk : k ≤ 8) : numS big 0 k = List.replicate k 0 := by
  obtain ⟨L, h1, _, h3, _, h5⟩ := num_ex big 0 k hk
  have : L = List.replicate k 0 := List.eq_replicate_iff.2 ⟨h3, h5 rfl⟩
  unfold numS toStr
  rw [h1, Option.getD_some, this, List.map_replicate]; rfl
theorem tag2 (big : Bool) (n : Int) : tag_number big n 2 = some (ofStr (numS big n 2)) := num_tag big n (k := 2) (by omega)
theorem tag4 (big : Bool) (n : Int) : tag_number big n 4 = some (ofStr (numS big n 4)) := num_tag big n (k := 4) (by omega)
theorem R2 (big : Bool) (n : Int) : R_number big n 2 = some (numS big n 2) := num_R big n (k := 2) (by omega)
theorem R4 (big : Bool) (n : Int) : R_number big n 4 = some (numS big n 4) := num_R big n (k := 4) (by omega)

/-! ### kinds -/

def wideN (k : Int) : Nat := if k = 1 ∨ k = 2 ∨ k = 7 then 1 else if k = 3 then 2 else if k = 4 ∨ k = 9 then 4 else if k = 5 then 8 else 0
theorem wideN_le (k : Int) : wideN k ≤ 8 := by unfold wideN; (repeat' split) <;> omega
theorem sizeOf_eq (k : Int) : tag_sizeOf k = some (if k = 13 then 1 else (wideN k : Int)) := by
  unfold tag_sizeOf tag_sizeOf_j1 wideN
  by_cases h1 : k = 1
  · subst h1; rfl
  by_cases h2 : k = 2
  · subst h2; rfl
  by_cases h3 : k = 3
  · subst h3; rfl
  by_cases h4 : k = 4
  · subst h4; rfl
  by_cases h5 : k = 5
  · subst h5; rfl
  by_cases h7 : k = 7
  · subst h7; rfl
  by_cases h9 : k = 9
  · subst h9; rfl
  by_cases h13 : k = 13
  · subst h13; rfl
  simp [h1, h2, h3, h4, h5, h7, h9, h13, cnd_false]
theorem wide_eq (k : Int) : R_wide k = some (if k = 13 then 4 else (wideN k : Int)) := by
  unfold R_wide R_wide_j1 wideN
  by_cases h1 : k = 1
  · subst h1; rfl
  by_cases h2 : k = 2
  · subst h2; rfl
  by_cases h3 : k = 3
  · subst h3; rfl
  by_cases h4 : k = 4
  · subst h4; rfl
  by_cases h5 : k = 5
  · subst h5; rfl
  by_cases h7 : k = 7
  · subst h7; rfl
  by_cases h9 : k = 9
  · subst h9; rfl
  by_cases h13 : k = 13
  · subst h13; rfl
  simp [h1, h2, h3, h4, h5, h7, h9, h13, cnd_false]

def intsK (k : Int) : Prop := k = 1 ∨ k = 3 ∨ k = 4 ∨ k = 9
def textK (k : Int) : Prop := k = 2 ∨ k = 7
instance (k : Int) : Decidable (intsK k) := by unfold intsK; infer_instance
instance (k : Int) : Decidable (textK k) := by unfold textK; infer_instance
def kindP (k : Int) : Prop := intsK k ∨ textK k ∨ k = 5 ∨ k = 13
instance (k : Int) : Decidable (kindP k) := by unfold kindP; infer_instance
def formP (v : T_tag_Value) : Prop := (¬ intsK v.Kind ∧ v.Ints ≠ []) ∨ (¬ textK v.Kind ∧ v.Text ≠ []) ∨ (v.Kind ≠ 5 ∧ v.Ratios ≠ []) ∨ (v.Kind ≠ 13 ∧ v.Entries ≠ [])
noncomputable def fieldsE (v : T_tag_Value) : Int := open Classical in if ¬ kindP v.Kind then 10 else if formP v then 1 else 0

theorem ne_len {α : Type} (l : List α) : (0 : Int) < (l.length : Int) ↔ l ≠ [] := by
  cases l <;> simp <;> omega
theorem wide_zero (k : Int) (h : k ≠ 13) : (wideN k : Int) = 0 ↔ ¬ kindP k := by
  unfold wideN kindP intsK textK
  split
  · omega
  · split
    · omega
    · split
      · omega
      · split <;> omega

theorem j3_fields (v : T_tag_Value) (b : Bool) : tag_checkFields_j3 v b = some (open Classical in if b = true ∨ (v.Kind ≠ 13 ∧ v.Entries ≠ []) then 1 else 0) := by
  unfold tag_checkFields_j3
  cases b
  · rw [cnd_false, cI, cI]
    by_cases h1 : v.Kind ≠ 13
    · by_cases h2 : v.Entries = []
      · rw [if_pos h1, if_neg (by rw [ne_len]; simpa using h2), if_neg (by simp [h2])]
      · rw [if_pos h1, if_pos ((ne_len _).2 h2), if_pos (.inr ⟨h1, h2⟩)]
    · rw [if_neg h1, if_neg (by simp [h1])]
  · rw [cnd_true, cnd_true, if_pos (.inl rfl)]
theorem j2_fields (v : T_tag_Value) (b : Bool) : tag_checkFields_j2 v b = some (open Classical in if b = true ∨ (v.Kind ≠ 5 ∧ v.Ratios ≠ []) ∨ (v.Kind ≠ 13 ∧ v.Entries ≠ []) then 1 else 0) := by
  unfold tag_checkFields_j2
  cases b
  · rw [cnd_false, cI, j3_fields, j3_fields]
    by_cases h1 : v.Kind ≠ 5
    · rw [if_pos h1]
      congr 1
      by_cases h2 : v.Ratios = []
      · simp [h2]
      · simp [h2, h1, List.length_pos_iff]
    · rw [if_neg h1]; simp [h1]
  · rw [cnd_true, cnd_true, if_pos (.inl rfl)]
theorem j1_fields (v : T_tag_Value) (b : Bool) : tag_checkFields_j1 v b = some (open Classical in if b = true ∨ (¬ textK v.Kind ∧ v.Text ≠ []) ∨ (v.Kind ≠ 5 ∧ v.Ratios ≠ []) ∨ (v.Kind ≠ 13 ∧ v.Entries ≠ []) then 1 else 0) := by
  have ht : tag_isText v.Kind = some (decide (textK v.Kind)) := by
    unfold tag_isText textK
    rw [cI]
    by_cases h : v.Kind = 2
    · simp [h]
    · simp [h]
  unfold tag_checkFields_j1
  cases b
  · rw [cnd_false, ht, bnd_pure, j2_fields, j2_fields]
    by_cases h1 : textK v.Kind
    · rw [decide_eq_true h1]
      show cnd false _ _ = _
      rw [cnd_false]; simp [h1]
    · rw [decide_eq_false h1]
      show cnd true _ _ = _
      rw [cnd_true]; simp [h1]
  · rw [cnd_true, cnd_true, if_pos (.inl rfl)]
theorem checkFields_eq (v : T_tag_Value) : tag_checkFields v = some (fieldsE v) := by
  have hi : tag_isInts v.Kind = some (decide (intsK v.Kind)) := by
    unfold tag_isInts intsK
    rw [cI, cI, cI]
    by_cases h : v.Kind = 1
    · simp [h]
    by_cases h3 : v.Kind = 3
    · simp [h3]
    by_cases h4 : v.Kind = 4
    · simp [h4]
    simp [h, h3, h4]
  unfold tag_checkFields fieldsE
  rw [sizeOf_eq, bnd_pure, cI]
  by_cases hk : kindP v.Kind
  · have hz : ¬ (if v.Kind = 13 then (1 : Int) else (wideN v.Kind : Int)) = 0 := by
      by_cases h13 : v.Kind = 13
      · rw [if_pos h13]; omega
      · rw [if_neg h13]; exact fun e => (wide_zero _ h13).1 e hk
    rw [if_neg hz, hi, bnd_pure, j1_fields, j1_fields, if_neg (show ¬ ¬ kindP v.Kind from fun h => h hk)]
    by_cases h1 : intsK v.Kind
    · rw [decide_eq_true h1]
      show cnd false _ _ = _
      rw [cnd_false]; unfold formP; simp [h1]
    · rw [decide_eq_false h1]
      show cnd true _ _ = _
      rw [cnd_true]; unfold formP; simp [h1, List.length_pos_iff]
  · have h13 : v.Kind ≠ 13 := fun e => hk (.inr (.inr (.inr e)))
    rw [if_neg h13, if_pos ((wide_zero _ h13).2 hk), if_pos hk]

/-! ### values -/

def limS (k : Int) : Int × Int := if k = 1 then (0, 255) else if k = 3 then (0, 65535) else if k = 9 then (-2147483648, 2147483647) else (0, 4294967295)
theorem bounds_eq (k : Int) : tag_bounds k = some (limS k) := by
  unfold tag_bounds limS
  rw [cI, cI, cI]; (repeat' split) <;> rfl
theorem limits_eq (k : Int) : R_limits k = some (limS k) := by
  unfold R_limits limS
  rw [cI, cI, cI]; (repeat' split) <;> rfl
theorem out_tag (a b c : Int) : tag_outside a b c = some (decide (a < b ∨ c < a)) := by
  unfold tag_outside
  rw [cI]
  by_cases h : a < b
  · rw [if_pos h]; simp [h]
  · rw [if_neg h]; simp [h]
def ratP (r : T_tag_Ratio) : Prop := (r.Num < 0 ∨ 4294967295 < r.Num) ∨ (r.Den < 0 ∨ 4294967295 < r.Den)
noncomputable def plainE (v : T_tag_Value) : Int := open Classical in
  if fieldsE v ≠ 0 then fieldsE v else if ∃ n ∈ v.Ints, n < (limS v.Kind).1 ∨ (limS v.Kind).2 < n then 2 else if ∃ r ∈ v.Ratios, ratP r then 2 else if v.Kind = 2 ∧ (0 : UInt8) ∈ v.Text then 9 else 0

/-- A loop that looks for an element. -/
theorem look_loop {α : Type} {F : (Int → Option Int) → Int → Option Int} (xs : List α) (p : α → Prop) (e : Int) (o : Option Int) (more : ∀ (next : Int → Option Int) (k : Nat) (hk : k < xs.length), (p xs[k] → F next (k : Int) = some e) ∧ (¬ p xs[k] → F next (k : Int) = next ((k : Int) + 1))) (stop : ∀ next, F next (xs.length : Int) = o) :
    fix F 0 = open Classical in if ∃ x ∈ xs, p x then some e else o := by
  have key : ∀ m i : Nat, i + m = xs.length → fix F (i : Int) = open Classical in if ∃ x ∈ xs.drop i, p x then some e else o := by
    intro m
    induction m with
    | zero =>
      intro i hi
      have : i = xs.length := by omega
      subst this
      rw [List.drop_length, if_neg (by simp)]
      exact fix_done stop
    | succ m ih =>
      intro i hi
      have hlt : i < xs.length := by omega
      rw [List.drop_eq_getElem_cons hlt]
      by_cases hp : p xs[i]
      · rw [if_pos ⟨_, List.mem_cons_self, hp⟩]
        exact fix_done fun next => (more next i hlt).1 hp
      · rw [fix_goto ((i : Int) + 1) (fun next => (more next i hlt).2 hp)]
        have := ih (i + 1) (by omega)
        rw [show ((i : Int) + 1) = ((i + 1 : Nat) : Int) from rfl, this]
        congr 1
        apply propext
        constructor
        · rintro ⟨x, hx, h⟩; exact ⟨x, List.mem_cons_of_mem _ hx, h⟩
        · rintro ⟨x, hx, h⟩
          rcases List.mem_cons.1 hx with h' | h'
          · subst h'; exact absurd h hp
          · exact ⟨x, h', h⟩
  have := key xs.length 0 (by omega)
  rw [List.drop_zero] at this
  exact this

def vB (v : T_tag_Value) : Prop := v.Text.length ≤ 2000000 ∧ v.Ints.length ≤ 2000000 ∧ v.Ratios.length ≤ 2000000

theorem j2_plain {v : T_tag_Value} (hb : vB v) : tag_checkPlain_j2 v = some (open Classical in if v.Kind = 2 ∧ (0 : UInt8) ∈ v.Text then 9 else 0) := by
  unfold tag_checkPlain_j2
  rw [cI]
  by_cases h2 : v.Kind = 2
  · rw [if_pos h2, look_loop v.Text (fun c => c = 0) 9 (some 0) (fun next k hk => ?_) (fun next => ?_)]
    · congr 1
      by_cases hm : (0 : UInt8) ∈ v.Text
      · rw [if_pos ⟨0, hm, rfl⟩, if_pos ⟨h2, hm⟩]
      · rw [if_neg (fun ⟨x, hx, e⟩ => hm (e ▸ hx)), if_neg (fun h => hm h.2)]
    · show (_ → tag_checkPlain_l3 v next (k : Int) = _) ∧ (_ → tag_checkPlain_l3 v next (k : Int) = _)
      have := hb.1
      unfold tag_checkPlain_l3
      rw [cI, if_pos (by omega), gOct_nat hk, bnd_pure, cI]
      constructor
      · intro e; rw [if_pos (by rw [e]; rfl)]
      · intro e
        have : v.Text[k].toNat ≠ 0 := fun h => e (by rw [← UInt8.ofNat_toNat (x := v.Text[k]), h]; rfl)
        rw [if_neg (by omega), gI_ok (by omega), bnd_pure]
    · show tag_checkPlain_l3 v next (v.Text.length : Int) = _
      unfold tag_checkPlain_l3
      rw [cI, if_neg (by omega)]
  · rw [if_neg h2, if_neg (fun h => h2 h.1)]
theorem checkPlain_eq {v : T_tag_Value} (hb : vB v) : tag_checkPlain v = some (plainE v) := by
  unfold tag_checkPlain plainE
  rw [checkFields_eq, bnd_pure, cI]
  by_cases hf : fieldsE v ≠ 0
  · rw [if_pos hf, if_pos hf]
  rw [if_neg hf, if_neg hf, bounds_eq, bnd_pure]
  rw [look_loop (F := fun next5 s => tag_checkPlain_l5 v (limS v.Kind) next5 s) v.Ints (fun n => n < (limS v.Kind).1 ∨ (limS v.Kind).2 < n) 2 (tag_checkPlain_j1 v) (fun next k hk => ?_) (fun next => ?_)]
  · have e1 : tag_checkPlain_j1 v = some (open Classical in if ∃ r ∈ v.Ratios, ratP r then 2 else if v.Kind = 2 ∧ (0 : UInt8) ∈ v.Text then 9 else 0) := by
      unfold tag_checkPlain_j1
      rw [look_loop (F := fun next4 s => tag_checkPlain_l4 v next4 s) v.Ratios ratP 2 (tag_checkPlain_j2 v) (fun next k hk => ?_) (fun next => ?_), j2_plain hb]
      · split <;> rfl
      · show (_ → tag_checkPlain_l4 v next (k : Int) = _) ∧ (_ → tag_checkPlain_l4 v next (k : Int) = _)
        have := hb.2.2
        unfold tag_checkPlain_l4 ratP
        rw [cI, if_pos (by omega), gAt_nat hk, bnd_pure, out_tag, bnd_pure, cI, out_tag, bnd_pure, cI]
        constructor
        · intro e
          by_cases h1 : v.Ratios[k].Num < 0 ∨ 4294967295 < v.Ratios[k].Num
          · rw [if_pos h1]
          · rw [if_neg h1, if_pos (e.resolve_left h1)]
        · intro e
          rw [if_neg (fun h => e (.inl h)), if_neg (fun h => e (.inr h)), gI_ok (by omega), bnd_pure]
      · show tag_checkPlain_l4 v next (v.Ratios.length : Int) = _
        unfold tag_checkPlain_l4
        rw [cI, if_neg (by omega)]
    rw [e1]; split <;> rfl
  · show (_ → tag_checkPlain_l5 v _ next (k : Int) = _) ∧ (_ → tag_checkPlain_l5 v _ next (k : Int) = _)
    have := hb.2.1
    unfold tag_checkPlain_l5
    rw [cI, if_pos (by omega), gAt_nat hk, bnd_pure, out_tag, bnd_pure, cI]
    constructor
    · intro e; rw [if_pos e]
    · intro e; rw [if_neg e, gI_ok (by omega), bnd_pure]
  · show tag_checkPlain_l5 v _ next (v.Ints.length : Int) = _
    unfold tag_checkPlain_l5
    rw [cI, if_neg (by omega)]

theorem ixB_mem (c : UInt8) (t : List UInt8) : -1 ≤ ixB t c ∧ (0 ≤ ixB t c ↔ c ∈ t) := by
  induction t with
  | nil => exact ⟨by unfold ixB; omega, by simp [ixB]⟩
  | cons b t ih =>
    unfold ixB
    by_cases hb : b = c
    · rw [if_pos hb]; exact ⟨by omega, fun _ => by simp [hb], fun _ => by omega⟩
    · rw [if_neg hb]
      have hc : ¬ c = b := fun e => hb e.symm
      rw [List.mem_cons]
      by_cases h1 : ixB t c = -1
      · rw [if_pos h1]
        exact ⟨by omega, fun h => by omega, fun h => by have := ih.2.2 (h.resolve_left hc); omega⟩
      · rw [if_neg h1]
        exact ⟨by omega, fun h => .inr (ih.2.1 (by omega)), fun h => by have := ih.2.2 (h.resolve_left hc); omega⟩
theorem j2_fault {v : T_tag_Value} (hb : vB v) (h13 : v.Kind ≠ 13) : R_ValueFault_j2 v = some (open Classical in if ∃ n ∈ v.Ints, n < (limS v.Kind).1 ∨ (limS v.Kind).2 < n then 2 else if ∃ r ∈ v.Ratios, ratP r then 2 else if v.Kind = 2 ∧ (0 : UInt8) ∈ v.Text then 9 else 0) := by
  have e4 : R_ValueFault_j4 v = some (open Classical in if v.Kind = 2 ∧ (0 : UInt8) ∈ v.Text then 9 else 0) := by
    unfold R_ValueFault_j4 R_ValueFault_j5
    rw [cI, cI, if_neg h13]
    by_cases h2 : v.Kind = 2
    · rw [if_pos h2]
      unfold strings_IndexByte internal_stringslite_IndexByte
      have hx : gIxB v.Text 0 = some (ixB v.Text 0) := by unfold gIxB; rfl
      have hm := (ixB_mem 0 v.Text).2
      rw [hx, bnd_pure, bnd_pure, bnd_pure, cI]
      by_cases h0 : (0 : UInt8) ∈ v.Text
      · rw [if_pos (hm.2 h0), if_pos ⟨h2, h0⟩]
      · rw [if_neg (fun h => h0 (hm.1 h)), if_neg (fun h => h0 h.2)]
    · rw [if_neg h2, if_neg (fun h => h2 h.1)]
  have e3 : R_ValueFault_j3 v = some (open Classical in if ∃ r ∈ v.Ratios, ratP r then 2 else if v.Kind = 2 ∧ (0 : UInt8) ∈ v.Text then 9 else 0) := by
    unfold R_ValueFault_j3
    rw [look_loop (F := fun next6 s => R_ValueFault_l6 v next6 s) v.Ratios ratP 2 (R_ValueFault_j4 v) (fun next k hk => ?_) (fun next => ?_), e4]
    · split <;> rfl
    · show (_ → R_ValueFault_l6 v next (k : Int) = _) ∧ (_ → R_ValueFault_l6 v next (k : Int) = _)
      have := hb.2.2
      unfold R_ValueFault_l6 ratP
      rw [cI, if_pos (by omega), gAt_nat hk, bnd_pure, cI, cI, cI, cI]
      constructor
      · intro e
        by_cases h1 : v.Ratios[k].Num < 0
        · rw [if_pos h1]
        by_cases h2 : 4294967295 < v.Ratios[k].Num
        · rw [if_neg h1, if_pos h2]
        by_cases h3 : v.Ratios[k].Den < 0
        · rw [if_neg h1, if_neg h2, if_pos h3]
        rw [if_neg h1, if_neg h2, if_neg h3, if_pos (by omega)]
      · intro e
        rw [if_neg (by omega), if_neg (by omega), if_neg (by omega), if_neg (by omega), gI_ok (by omega), bnd_pure]
    · show R_ValueFault_l6 v next (v.Ratios.length : Int) = _
      unfold R_ValueFault_l6
      rw [cI, if_neg (by omega)]
  unfold R_ValueFault_j2
  rw [limits_eq, bnd_pure]
  rw [look_loop (F := fun next7 s => R_ValueFault_l7 v (limS v.Kind) next7 s) v.Ints (fun n => n < (limS v.Kind).1 ∨ (limS v.Kind).2 < n) 2 (R_ValueFault_j3 v) (fun next k hk => ?_) (fun next => ?_), e3]
  · split <;> rfl
  · show (_ → R_ValueFault_l7 v _ next (k : Int) = _) ∧ (_ → R_ValueFault_l7 v _ next (k : Int) = _)
    have := hb.2.1
    unfold R_ValueFault_l7
    rw [cI, if_pos (by omega), gAt_nat hk, bnd_pure, cI, cI]
    constructor
    · intro e
      by_cases h1 : v.Ints[k] < (limS v.Kind).1
      · rw [if_pos h1]
      · rw [if_neg h1, if_pos (e.resolve_left h1)]
    · intro e
      rw [if_neg (fun h => e (.inl h)), if_neg (fun h => e (.inr h)), gI_ok (by omega), bnd_pure]
  · show R_ValueFault_l7 v _ next (v.Ints.length : Int) = _
    unfold R_ValueFault_l7
    rw [cI, if_neg (by omega)]

theorem j10_fault (v : T_tag_Value) (b : Bool) : R_ValueFault_j10 v b = open Classical in if b = true ∨ (v.Kind ≠ 13 ∧ v.Entries ≠ []) then some 1 else R_ValueFault_j2 v := by
  unfold R_ValueFault_j10
  cases b
  · rw [cnd_false, cI, cI]
    by_cases h2 : v.Entries = []
    · rw [if_neg (by rw [ne_len]; simpa using h2), if_neg (by simp [h2])]
    · rw [if_pos ((ne_len _).2 h2)]
      by_cases h1 : v.Kind = 13
      · rw [if_neg (by simpa using h1), if_neg (by simp [h1])]
      · rw [if_pos h1, if_pos (.inr ⟨h1, h2⟩)]
  · rw [cnd_true, cnd_true, if_pos (.inl rfl)]
theorem j9_fault (v : T_tag_Value) (b : Bool) : R_ValueFault_j9 v b = open Classical in if b = true ∨ (v.Kind ≠ 5 ∧ v.Ratios ≠ []) ∨ (v.Kind ≠ 13 ∧ v.Entries ≠ []) then some 1 else R_ValueFault_j2 v := by
  unfold R_ValueFault_j9
  cases b
  · rw [cnd_false, cI, j10_fault, j10_fault]
    by_cases h2 : v.Ratios = []
    · rw [if_neg (by rw [ne_len]; simpa using h2)]; simp [h2]
    · rw [if_pos ((ne_len _).2 h2)]; simp [h2]
  · rw [cnd_true, cnd_true, if_pos (.inl rfl)]
theorem j8_fault (v : T_tag_Value) (x4 b : Bool) : R_ValueFault_j8 v x4 b = open Classical in if b = true ∨ (x4 = false ∧ v.Ints ≠ []) ∨ (v.Kind ≠ 5 ∧ v.Ratios ≠ []) ∨ (v.Kind ≠ 13 ∧ v.Entries ≠ []) then some 1 else R_ValueFault_j2 v := by
  unfold R_ValueFault_j8
  cases b
  · rw [cnd_false, cI, j9_fault, j9_fault]
    by_cases h2 : v.Ints = []
    · rw [if_neg (by rw [ne_len]; simpa using h2)]; simp [h2]
    · rw [if_pos ((ne_len _).2 h2)]; cases x4 <;> simp [h2]
  · rw [cnd_true, cnd_true, if_pos (.inl rfl)]
theorem ValueFault_eq {v : T_tag_Value} (hb : vB v) (h13 : v.Kind ≠ 13) : R_ValueFault v = some (plainE v) := by
  have e : R_ValueFault v = R_ValueFault_j1 v (decide (textK v.Kind)) (decide (intsK v.Kind)) := by
    unfold R_ValueFault textK intsK
    by_cases h2 : v.Kind = 2
    · simp [h2, cnd_true, cnd_false]
    by_cases h1 : v.Kind = 1
    · simp [h1, cnd_true, cnd_false]
    by_cases h3 : v.Kind = 3
    · simp [h3, cnd_true, cnd_false]
    by_cases h4 : v.Kind = 4
    · simp [h4, cnd_true, cnd_false]
    simp [h2, h1, h3, h4, cnd_false]
  rw [e]
  unfold R_ValueFault_j1
  rw [wide_eq, bnd_pure, cI, if_neg h13]
  unfold plainE fieldsE
  by_cases hk : kindP v.Kind
  · rw [if_neg (fun e => (wide_zero _ h13).1 e hk), cI, j8_fault, j8_fault, j2_fault hb h13, if_neg (show ¬ ¬ kindP v.Kind from fun h => h hk)]
    have hfm : (if v.Text ≠ [] then (open Classical in if (!decide (textK v.Kind)) = true ∨ (decide (intsK v.Kind) = false ∧ v.Ints ≠ []) ∨ (v.Kind ≠ 5 ∧ v.Ratios ≠ []) ∨ (v.Kind ≠ 13 ∧ v.Entries ≠ []) then True else False) else (open Classical in if false = true ∨ (decide (intsK v.Kind) = false ∧ v.Ints ≠ []) ∨ (v.Kind ≠ 5 ∧ v.Ratios ≠ []) ∨ (v.Kind ≠ 13 ∧ v.Entries ≠ []) then True else False)) ↔ formP v := by
      unfold formP
      by_cases ht : v.Text = [] <;> by_cases hk1 : textK v.Kind <;> by_cases hk2 : intsK v.Kind <;> simp [ht, hk1, hk2]
    by_cases hf : formP v
    · rw [if_pos hf, if_pos (show (1 : Int) ≠ 0 by omega)]
      by_cases ht : v.Text = []
      · rw [if_neg (by simpa using ht)]
        rw [if_neg (by simpa using ht)] at hfm
        have := hfm.2 hf
        split at this
        · rename_i h; rw [if_pos h]
        · exact this.elim
      · rw [if_pos ht]
        rw [if_pos ht] at hfm
        have := hfm.2 hf
        split at this
        · rename_i h; rw [if_pos h]
        · exact this.elim
    · rw [if_neg hf, if_neg (show ¬ ((0 : Int) ≠ 0) by omega)]
      by_cases ht : v.Text = []
      · rw [if_neg (by simpa using ht)]
        rw [if_neg (by simpa using ht)] at hfm
        rw [if_neg (fun h => hf (hfm.1 (by rw [if_pos h]; trivial)))]
      · rw [if_pos ht]
        rw [if_pos ht] at hfm
        rw [if_neg (fun h => hf (hfm.1 (by rw [if_pos h]; trivial)))]
  · rw [if_pos ((wide_zero _ h13).2 hk), if_pos hk, if_pos (show (10 : Int) ≠ 0 by omega)]
end Go.M

/- Directories checked, values as octets, in plain Lean. Conditions: none. -/
namespace Go.M
open Go.Md Go.Pl

/-! ### sizes -/

def szD : Nat → List T_tag_Entry → Nat
  | 0, _ => 0
  | d + 1, l => (l.map fun e => 1 + e.Value.Text.length + e.Value.Ints.length + e.Value.Ratios.length + szD d e.Value.Entries).sum
def szE (d : Nat) (e : T_tag_Entry) : Nat := 1 + e.Value.Text.length + e.Value.Ints.length + e.Value.Ratios.length + szD d e.Value.Entries
theorem szD_nil (d : Nat) : szD (d + 1) [] = 0 := rfl
theorem szD_cons (d : Nat) (e : T_tag_Entry) (l : List T_tag_Entry) : szD (d + 1) (e :: l) = szE d e + szD (d + 1) l := by
  simp only [szD, szE, List.map_cons, List.sum_cons]
theorem szD_mem {d : Nat} {e : T_tag_Entry} : ∀ {l : List T_tag_Entry}, e ∈ l → szE d e ≤ szD (d + 1) l
  | [], h => by cases h
  | x :: l, h => by
    rw [szD_cons]
    rcases List.mem_cons.1 h with h | h
    · subst h; omega
    · have := szD_mem (d := d) h; omega
theorem szD_len {d : Nat} : ∀ l : List T_tag_Entry, l.length ≤ szD (d + 1) l
  | [] => Nat.zero_le _
  | x :: l => by rw [szD_cons, List.length_cons]; have := szD_len (d := d) l; unfold szE; omega
theorem vB_of {d : Nat} {e : T_tag_Entry} {l : List T_tag_Entry} (h : szD (d + 1) l ≤ 2000000) (he : e ∈ l) : vB e.Value ∧ szD d e.Value.Entries ≤ 2000000 := by
  have := szD_mem (d := d) he
  unfold szE at this
  unfold vB
  omega

/-! ### directories checked -/

def prevT (l : List T_tag_Entry) : Nat → Option Int
  | 0 => none
  | k + 1 => (l[k]?).map (·.Tag)
def lowP (pr : Option Int) (e : T_tag_Entry) : Prop := ∃ t, pr = some t ∧ e.Tag ≤ t
noncomputable def listE (f : T_tag_Entry → Int) : Option Int → List T_tag_Entry → Int
  | _, [] => 0
  | pr, e :: l => open Classical in if e.Tag < 0 ∨ 65535 < e.Tag then 2 else if lowP pr e then 5 else if f e ≠ 0 then f e else listE f (some e.Tag) l

theorem list_loop {G : (Int → Option Int) → Int → Option Int} (l : List T_tag_Entry) (f : T_tag_Entry → Int)
    (more : ∀ (next : Int → Option Int) (k : Nat) (hk : k < l.length), G next (k : Int) = open Classical in if l[k].Tag < 0 ∨ 65535 < l[k].Tag then some 2 else if lowP (prevT l k) l[k] then some 5 else if f l[k] ≠ 0 then some (f l[k]) else next ((k : Int) + 1))
    (stop : ∀ next, G next (l.length : Int) = some 0) : fix G 0 = some (listE f none l) := by
  have key : ∀ m i : Nat, i + m = l.length → fix G (i : Int) = some (listE f (prevT l i) (l.drop i)) := by
    intro m
    induction m with
    | zero =>
      intro i hi
      have : i = l.length := by omega
      subst this
      rw [List.drop_length]
      exact fix_done stop
    | succ m ih =>
      intro i hi
      have hlt : i < l.length := by omega
      rw [List.drop_eq_getElem_cons hlt]
      unfold listE
      by_cases h1 : l[i].Tag < 0 ∨ 65535 < l[i].Tag
      · rw [if_pos h1]
        exact fix_done fun next => by rw [more next i hlt, if_pos h1]
      rw [if_neg h1]
      by_cases h2 : lowP (prevT l i) l[i]
      · rw [if_pos h2]
        exact fix_done fun next => by rw [more next i hlt, if_neg h1, if_pos h2]
      rw [if_neg h2]
      by_cases h3 : f l[i] ≠ 0
      · rw [if_pos h3]
        exact fix_done fun next => by rw [more next i hlt, if_neg h1, if_neg h2, if_pos h3]
      rw [if_neg h3, fix_goto ((i : Int) + 1) (fun next => by rw [more next i hlt, if_neg h1, if_neg h2, if_neg h3])]
      have := ih (i + 1) (by omega)
      have e1 : prevT l (i + 1) = some l[i].Tag := by show (l[i]?).map _ = _; rw [List.getElem?_eq_getElem hlt]; rfl
      rw [e1] at this
      exact this
  have := key l.length 0 (by omega)
  rw [List.drop_zero] at this
  exact this

theorem listE_zero {f : T_tag_Entry → Int} : ∀ {l : List T_tag_Entry} {pr : Option Int}, listE f pr l = 0 → ∀ e ∈ l, f e = 0
  | [], _, _, e, he => by cases he
  | x :: l, pr, h, e, he => by
    unfold listE at h
    split at h
    · omega
    split at h
    · omega
    split at h
    · rename_i h1; exact absurd h h1
    · rename_i h1
      rcases List.mem_cons.1 he with h' | h'
      · subst h'; simpa using h1
      · exact listE_zero h e h'

/-- The error of a directory with so many levels left. -/
noncomputable def dE : Nat → List T_tag_Entry → Int
  | 0, _ => 4
  | d + 1, l => if 200 < l.length then 4 else listE (fun e => if e.Value.Kind ≠ 13 then plainE e.Value else if fieldsE e.Value ≠ 0 then fieldsE e.Value else dE d e.Value.Entries) none l

theorem low_step {α : Type} {l : List T_tag_Entry} {k : Nat} (hk : k < l.length) (hl : l.length ≤ 1000) (J : Option α) (x : α) :
    cnd (decide (0 < (k : Int))) (bnd (gI ((k : Int) - 1)) fun t => bnd (gAt l t) fun t35 => cnd (decide (l[k].Tag ≤ t35.Tag)) (some x) J) J = open Classical in if lowP (prevT l k) l[k] then some x else J := by
  rw [cI]
  cases k with
  | zero =>
    rw [if_neg (by omega), if_neg]
    rintro ⟨t, h, _⟩
    cases h
  | succ k =>
    have e : prevT l (k + 1) = some l[k].Tag := by show (l[k]?).map _ = _; rw [List.getElem?_eq_getElem (by omega)]; rfl
    rw [if_pos (by omega), gI_ok (by omega), bnd_pure, show (((k + 1 : Nat) : Int) - 1) = (k : Int) from by omega, gAt_nat (by omega), bnd_pure, cI, e]
    by_cases h : l[k + 1].Tag ≤ l[k].Tag
    · rw [if_pos h, if_pos ⟨_, rfl, h⟩]
    · rw [if_neg h, if_neg]
      rintro ⟨t, ht, h'⟩
      cases ht
      exact h h'

theorem checkDir_eq (d : Nat) (l : List T_tag_Entry) (deep : Int) (hd : deep = 6 - (d : Int)) (h5 : d ≤ 5) (hz : szD d l ≤ 2000000) : tag_checkDir l deep = some (dE d l) := by
  unfold tag_checkDir
  refine fix_ofG (fun d (a : List T_tag_Entry × Int) => some (dE d a.1)) (fun d a => a.2 = 6 - (d : Int) ∧ d ≤ 5 ∧ szD d a.1 ≤ 2000000) (fun d => d) ?_ d (l, deep) ⟨hd, h5, hz⟩
  rintro next d ⟨l, deep⟩ ⟨hd, h5, hz⟩ ih
  simp only at hd hz
  show tag_checkDir_body next l deep = some (dE d l)
  unfold tag_checkDir_body
  rw [cI, cI]
  cases d with
  | zero => rw [if_pos (by omega)]; rfl
  | succ d =>
    rw [if_neg (by omega)]
    unfold dE
    by_cases hl : 200 < l.length
    · rw [if_pos (by omega), if_pos hl]
    rw [if_neg (by omega), if_neg hl]
    refine list_loop l _ (fun nx k hk => ?_) (fun nx => ?_)
    · obtain ⟨hb, hzn⟩ := vB_of hz (List.getElem_mem hk)
      unfold tag_checkDir_l1
      rw [cI, if_pos (by omega), gAt_nat hk, bnd_pure, out_tag, bnd_pure, cI]
      by_cases h1 : l[k].Tag < 0 ∨ 65535 < l[k].Tag
      · rw [if_pos h1, if_pos h1]
      rw [if_neg h1, if_neg h1, low_step hk (by omega)]
      congr 1
      unfold tag_checkDir_j2
      have e3 : ∀ x : Int, tag_checkDir_j3 (k : Int) nx x = if x ≠ 0 then some x else nx ((k : Int) + 1) := fun x => by
        unfold tag_checkDir_j3; rw [cI, gI_ok (by omega), bnd_pure]
      rw [cI]
      by_cases h13 : l[k].Value.Kind ≠ 13
      · rw [if_pos h13, checkPlain_eq hb, bnd_pure, e3]; simp only [if_pos h13]
      · rw [if_neg h13, checkFields_eq, bnd_pure, cI]
        simp only [if_neg h13]
        by_cases hf : fieldsE l[k].Value = 0
        · have := ih d (l[k].Value.Entries, deep + 1) ⟨by show deep + 1 = _; omega, by omega, hzn⟩ (by omega)
          rw [if_pos hf, gI_ok (by omega), bnd_pure, this, bnd_pure, e3, if_neg (show ¬ fieldsE l[k].Value ≠ 0 from fun h => h hf)]
        · rw [if_neg hf, e3]; simp [hf]
    · unfold tag_checkDir_l1
      rw [cI, if_neg (by omega)]

theorem fields13 {v : T_tag_Value} (h : v.Kind = 13) : fieldsE v = open Classical in if v.Text ≠ [] ∨ v.Ints ≠ [] ∨ v.Ratios ≠ [] then 1 else 0 := by
  unfold fieldsE
  rw [if_neg (show ¬ ¬ kindP v.Kind from fun x => x (.inr (.inr (.inr h))))]
  congr 1
  apply propext
  unfold formP intsK textK
  rw [h]
  constructor
  · rintro (⟨_, a⟩ | ⟨_, a⟩ | ⟨_, a⟩ | ⟨a, _⟩)
    · exact .inr (.inl a)
    · exact .inl a
    · exact .inr (.inr a)
    · exact absurd rfl a
  · rintro (a | a | a)
    · exact .inr (.inl ⟨by omega, a⟩)
    · exact .inl ⟨by omega, a⟩
    · exact .inr (.inr (.inl ⟨by omega, a⟩))

theorem dirFault_eq (d : Nat) (l : List T_tag_Entry) (deep : Int) (hd : deep = 6 - (d : Int)) (h5 : d ≤ 5) (hz : szD d l ≤ 2000000) : R_dirFault l deep = some (dE d l) := by
  unfold R_dirFault
  refine fix_ofG (fun d (a : List T_tag_Entry × Int) => some (dE d a.1)) (fun d a => a.2 = 6 - (d : Int) ∧ d ≤ 5 ∧ szD d a.1 ≤ 2000000) (fun d => d) ?_ d (l, deep) ⟨hd, h5, hz⟩
  rintro next d ⟨l, deep⟩ ⟨hd, h5, hz⟩ ih
  simp only at hd hz
  show R_dirFault_body next l deep = some (dE d l)
  unfold R_dirFault_body
  rw [cI, cI]
  cases d with
  | zero => rw [if_pos (by omega)]; rfl
  | succ d =>
    rw [if_neg (by omega)]
    unfold dE
    by_cases hl : 200 < l.length
    · rw [if_pos (by omega), if_pos hl]
    rw [if_neg (by omega), if_neg hl]
    refine list_loop l _ (fun nx k hk => ?_) (fun nx => ?_)
    · obtain ⟨hb, hzn⟩ := vB_of hz (List.getElem_mem hk)
      unfold R_dirFault_l1
      rw [cI, if_pos (by omega), gAt_nat hk, bnd_pure, cI, cI]
      by_cases h1 : l[k].Tag < 0
      · rw [if_pos h1, if_pos (.inl h1)]
      by_cases h2 : 65535 < l[k].Tag
      · rw [if_neg h1, if_pos h2, if_pos (.inr h2)]
      rw [if_neg h1, if_neg h2, if_neg (show ¬ (l[k].Tag < 0 ∨ 65535 < l[k].Tag) by omega), low_step hk (by omega)]
      congr 1
      unfold R_dirFault_j3
      have e3 : ∀ a b c g i j m o, R_dirFault_j2 (k : Int) nx a b c g i j m o = nx ((k : Int) + 1) := fun a b c g i j m o => by
        unfold R_dirFault_j2; rw [gI_ok (by omega), bnd_pure]
      simp only [e3]
      rw [cI]
      by_cases h13 : l[k].Value.Kind ≠ 13
      · rw [if_pos h13, ValueFault_eq hb h13, bnd_pure, cI]; simp only [if_pos h13]
      · have h13' : l[k].Value.Kind = 13 := by simpa using h13
        rw [if_neg h13, cI, cI, cI]
        simp only [if_neg h13]
        rw [fields13 h13']
        by_cases a1 : l[k].Value.Text = []
        · by_cases a2 : l[k].Value.Ints = []
          · by_cases a3 : l[k].Value.Ratios = []
            · have := ih d (l[k].Value.Entries, deep + 1) ⟨by show deep + 1 = _; omega, by omega, hzn⟩ (by omega)
              rw [if_neg (show ¬ (l[k].Value.Text ≠ []) by simpa using a1), if_neg (by rw [ne_len]; simpa using a2), if_neg (by rw [ne_len]; simpa using a3), gI_ok (by omega), bnd_pure, this, bnd_pure, cI]
              simp [a1, a2, a3]
            · rw [if_neg (show ¬ (l[k].Value.Text ≠ []) by simpa using a1), if_neg (by rw [ne_len]; simpa using a2), if_pos ((ne_len _).2 a3)]
              simp [a3]
          · rw [if_neg (show ¬ (l[k].Value.Text ≠ []) by simpa using a1), if_pos ((ne_len _).2 a2)]
            simp [a2]
        · rw [if_pos a1]
          simp [a1]
    · unfold R_dirFault_l1
      rw [cI, if_neg (by omega)]

/-- A directory that is right. -/
def okV (v : T_tag_Value) : Prop := kindP v.Kind ∧ ¬ formP v
def okD : Nat → List T_tag_Entry → Prop
  | 0, _ => False
  | d + 1, l => l.length ≤ 200 ∧ ∀ e ∈ l, okV e.Value ∧ (e.Value.Kind = 13 → okD d e.Value.Entries)
theorem fields_ok {v : T_tag_Value} (h : fieldsE v = 0) : okV v := by
  unfold fieldsE at h
  split at h
  · omega
  split at h
  · omega
  rename_i h1 h2
  exact ⟨Classical.byContradiction h1, h2⟩
theorem dE_ok : ∀ {d : Nat} {l : List T_tag_Entry}, dE d l = 0 → okD d l := by
  intro d
  induction d with
  | zero => intro l h; unfold dE at h; omega
  | succ d ih =>
    intro l h
    unfold dE at h
    split at h
    · omega
    rename_i hl
    refine ⟨by omega, fun e he => ?_⟩
    have := listE_zero h e he
    split at this
    · rename_i h13
      refine ⟨?_, fun h => absurd h h13⟩
      unfold plainE at this
      split at this
      · rename_i h1; exact absurd this h1
      · rename_i h1; exact fields_ok (by simpa using h1)
    · split at this
      · rename_i h1; exact absurd this h1
      · rename_i h1; exact ⟨fields_ok (by simpa using h1), fun _ => ih this⟩

/-! ### values as octets -/

/-- A loop over a list, the place behind the state. -/
theorem fix_listR {α ρ σ : Type} {F : (σ × Int → Option ρ) → σ × Int → Option ρ} (xs : List α) (f : σ → α → σ) (J : σ → Option ρ) (I : Nat → σ → Prop)
    (more : ∀ (next : σ × Int → Option ρ) (k : Nat) (s : σ) (hk : k < xs.length), I k s → F next (s, (k : Int)) = next (f s xs[k], (k : Int) + 1) ∧ I (k + 1) (f s xs[k]))
    (stop : ∀ (next : σ × Int → Option ρ) (s : σ), I xs.length s → F next (s, (xs.length : Int)) = J s) (s : σ) (hs : I 0 s) : fix F (s, 0) = J (xs.foldl f s) := by
  have key : ∀ n k s, k ≤ xs.length → xs.length - k < n → I k s → fix F (s, (k : Int)) = J ((xs.drop k).foldl f s) := by
    intro n
    induction n with
    | zero => intro k s _ h; omega
    | succ n ih =>
      intro k s hk h hI
      rcases Nat.lt_or_ge k xs.length with h1 | h1
      · rw [fix_goto (f s xs[k], (k : Int) + 1) (fun next => (more next k s h1 hI).1), List.drop_eq_getElem_cons h1, List.foldl_cons]
        exact ih (k + 1) _ (by omega) (by omega) (more (fun _ => none) k s h1 hI).2
      · have : k = xs.length := by omega
        subst this
        rw [List.drop_length]
        exact fix_done fun next => stop next s hI
  have := key (xs.length + 1) 0 s (Nat.zero_le _) (by omega) hs
  simpa using this

theorem fold_flat {α : Type} (g : α → List UInt8) : ∀ (xs : List α) (a : List UInt8), xs.foldl (fun s x => s ++ g x) a = a ++ xs.flatMap g
  | [], a => by simp
  | x :: xs, a => by rw [List.foldl_cons, fold_flat g xs]; simp
theorem fold_ofStr {α : Type} (g : α → List UInt8) : ∀ (xs : List α) (a : List UInt8), xs.foldl (fun s x => s ++ ofStr (g x)) (ofStr a) = ofStr (a ++ xs.flatMap g)
  | [], a => by simp
  | x :: xs, a => by rw [List.foldl_cons, ← ofStr_app, fold_ofStr g xs]; simp

noncomputable def ratS (big : Bool) (r : T_tag_Ratio) : List UInt8 := numS big r.Num 4 ++ numS big r.Den 4
noncomputable def octS (big : Bool) (v : T_tag_Value) : List UInt8 :=
  if v.Kind = 2 then v.Text ++ [0] else if v.Kind = 7 then v.Text else if v.Kind = 5 then v.Ratios.flatMap (ratS big) else v.Ints.flatMap fun n => numS big n (wideN v.Kind)
def cntS (v : T_tag_Value) : Nat := if v.Kind = 2 then v.Text.length + 1 else if v.Kind = 7 then v.Text.length else if v.Kind = 5 then v.Ratios.length else if v.Kind = 13 then 1 else v.Ints.length

theorem flat_const {α : Type} {g : α → List UInt8} {w : Nat} (h : ∀ x, (g x).length = w) : ∀ xs : List α, (xs.flatMap g).length = xs.length * w
  | [] => by simp
  | x :: xs => by rw [List.flatMap_cons, List.length_append, h, flat_const h xs, List.length_cons, Nat.add_mul]; omega
theorem ratS_len (big : Bool) (r : T_tag_Ratio) : (ratS big r).length = 8 := by
  unfold ratS; rw [List.length_append, num_len _ _ (by omega), num_len _ _ (by omega)]

theorem octS_len (big : Bool) {v : T_tag_Value} (hv : okV v) (h13 : v.Kind ≠ 13) : (octS big v).length = cntS v * wideN v.Kind := by
  unfold octS cntS
  by_cases h2 : v.Kind = 2
  · rw [if_pos h2, if_pos h2, List.length_append, h2]; simp [wideN]
  rw [if_neg h2, if_neg h2]
  by_cases h7 : v.Kind = 7
  · rw [if_pos h7, if_pos h7, h7]; simp [wideN]
  rw [if_neg h7, if_neg h7]
  by_cases h5 : v.Kind = 5
  · rw [if_pos h5, if_pos h5, h5, flat_const (ratS_len big)]; rfl
  rw [if_neg h5, if_neg h5, if_neg h13, flat_const (w := wideN v.Kind) (fun n => num_len _ _ (wideN_le _))]
theorem octS_le (big : Bool) (v : T_tag_Value) : (octS big v).length ≤ 1 + v.Text.length + 8 * v.Ints.length + 8 * v.Ratios.length := by
  unfold octS
  split
  · rw [List.length_append, List.length_singleton]; omega
  split
  · omega
  split
  · rw [flat_const (ratS_len big)]; omega
  · rw [flat_const (w := wideN v.Kind) (fun n => num_len _ _ (wideN_le _))]
    have := Nat.mul_le_mul_left v.Ints.length (wideN_le v.Kind)
    omega

theorem count_eq {v : T_tag_Value} (hb : vB v) : tag_count v = some (cntS v : Int) := by
  unfold tag_count cntS
  have := hb.1
  rw [cI, cI, cI, cI]
  by_cases h2 : v.Kind = 2
  · rw [if_pos h2, if_pos h2, gI_ok (by omega), bnd_pure]; rfl
  by_cases h7 : v.Kind = 7
  · rw [if_neg h2, if_pos h7, if_neg h2, if_pos h7]
  by_cases h5 : v.Kind = 5
  · rw [if_neg h2, if_neg h7, if_pos h5, if_neg h2, if_neg h7, if_pos h5]
  by_cases h13 : v.Kind = 13
  · rw [if_neg h2, if_neg h7, if_neg h5, if_pos h13, if_neg h2, if_neg h7, if_neg h5, if_pos h13]; rfl
  rw [if_neg h2, if_neg h7, if_neg h5, if_neg h13, if_neg h2, if_neg h7, if_neg h5, if_neg h13]

theorem ok_parts {v : T_tag_Value} (hv : okV v) : (¬ intsK v.Kind → v.Ints = []) ∧ (¬ textK v.Kind → v.Text = []) ∧ (v.Kind ≠ 5 → v.Ratios = []) := by
  obtain ⟨_, hf⟩ := hv
  unfold formP at hf
  refine ⟨fun h => ?_, fun h => ?_, fun h => ?_⟩
  · exact Classical.byContradiction fun e => hf (.inl ⟨h, e⟩)
  · exact Classical.byContradiction fun e => hf (.inr (.inl ⟨h, e⟩))
  · exact Classical.byContradiction fun e => hf (.inr (.inr (.inl ⟨h, e⟩)))

theorem tag_ratios {big : Bool} {v : T_tag_Value} (hb : vB v) (a : List UInt8) (ha : a.length ≤ 16000000) : tag_octets_j1 big v (ofStr a) = some (ofStr (a ++ v.Ratios.flatMap (ratS big))) := by
  unfold tag_octets_j1
  have hr := hb.2.2
  rw [← fold_ofStr]
  refine fix_list (F := fun next2 s => tag_octets_l2 big v next2 s.1 s.2) v.Ratios (fun s r => s ++ ofStr (ratS big r)) some (fun k s => s.length ≤ a.length + 8 * k) (fun next k s hk hs => ?_) (fun next s hs => ?_) _ (by rw [ofStr_len]; omega)
  · refine ⟨?_, by show (s ++ _).length ≤ _; rw [List.length_append, ofStr_len, ratS_len]; omega⟩
    show tag_octets_l2 big v next (k : Int) s = _
    unfold tag_octets_l2
    have l1 : (ofStr (numS big v.Ratios[k].Num 4)).length = 4 := by rw [ofStr_len, num_len _ _ (by omega)]
    have l2 : (ofStr (numS big v.Ratios[k].Den 4)).length = 4 := by rw [ofStr_len, num_len _ _ (by omega)]
    rw [cI, if_pos (by omega), gAt_nat hk, bnd_pure, tag4, bnd_pure, gApp_ok (by omega), bnd_pure, tag4, bnd_pure, gApp_ok (by rw [List.length_append]; omega), bnd_pure, gI_ok (by omega), bnd_pure]
    unfold ratS
    rw [ofStr_app, List.append_assoc]
  · show tag_octets_l2 big v next (v.Ratios.length : Int) s = _
    unfold tag_octets_l2
    rw [cI, if_neg (by omega)]

theorem octets_eq {big : Bool} {v : T_tag_Value} (hb : vB v) (hv : okV v) (h13 : v.Kind ≠ 13) : tag_octets big v = some (ofStr (octS big v)) := by
  have hb' := hb
  obtain ⟨b1, b2, b3⟩ := hb'
  obtain ⟨p1, p2, p3⟩ := ok_parts hv
  unfold tag_octets octS
  rw [cI, cI]
  by_cases h2 : v.Kind = 2
  · rw [if_pos h2, if_pos h2, gByt_ok (by omega), bnd_pure, gApL_ok (by rw [ofStr_len, List.length_singleton]; omega), bnd_pure, ofStr_app]; rfl
  by_cases h7 : v.Kind = 7
  · rw [if_neg h2, if_pos h7, if_neg h2, if_pos h7, gByt_ok (by omega), bnd_pure]
  rw [if_neg h2, if_neg h7, if_neg h2, if_neg h7]
  have hloop := fix_list (F := fun next3 s => tag_octets_l3 big v next3 s.1 s.2) v.Ints (fun s n => s ++ ofStr (numS big n (wideN v.Kind))) (tag_octets_j1 big v) (fun k s => s.length ≤ 8 * k) (fun next k s hk hs => by
      have hw := wideN_le v.Kind
      have l1 : (ofStr (numS big v.Ints[k] (wideN v.Kind))).length = wideN v.Kind := by rw [ofStr_len, num_len _ _ hw]
      refine ⟨?_, by show (s ++ _).length ≤ _; rw [List.length_append, l1]; omega⟩
      show tag_octets_l3 big v next (k : Int) s = _
      unfold tag_octets_l3
      rw [cI, if_pos (by omega), gAt_nat hk, bnd_pure, sizeOf_eq, bnd_pure, if_neg h13, num_tag _ _ hw, bnd_pure, gApp_ok (by omega), bnd_pure, gI_ok (by omega), bnd_pure]) (fun next s hs => by
      show tag_octets_l3 big v next (v.Ints.length : Int) s = _
      unfold tag_octets_l3
      rw [cI, if_neg (by omega)]) [] (by simp)
  rw [hloop, show ([] : List Int) = ofStr [] from rfl, fold_ofStr, List.nil_append]
  have hlen : (v.Ints.flatMap fun n => numS big n (wideN v.Kind)).length ≤ 16000000 := by
    rw [flat_const (w := wideN v.Kind) (fun n => num_len _ _ (wideN_le _))]
    have := Nat.mul_le_mul_left v.Ints.length (wideN_le v.Kind)
    omega
  rw [tag_ratios hb _ hlen]
  by_cases h5 : v.Kind = 5
  · rw [if_pos h5, p1 (by rw [h5]; unfold intsK; omega)]; rfl
  · rw [if_neg h5, p3 h5, List.flatMap_nil, List.append_nil]

theorem R_octets_eq {big : Bool} {v : T_tag_Value} (hb : vB v) (hv : okV v) (h13 : v.Kind ≠ 13) : R_octets big v = some (octS big v) := by
  have hb' := hb
  obtain ⟨b1, b2, b3⟩ := hb'
  obtain ⟨p1, p2, p3⟩ := ok_parts hv
  have j2 : ∀ a : List UInt8, a.length ≤ 32000000 → R_octets_j2 big v a = some (a ++ v.Ratios.flatMap (ratS big)) := fun a ha => by
    unfold R_octets_j2
    rw [← fold_flat]
    refine fix_listR (F := fun next3 s => R_octets_l3 big v next3 s.1 s.2) v.Ratios (fun s r => s ++ ratS big r) some (fun k s => s.length ≤ a.length + 8 * k) (fun next k s hk hs => ?_) (fun next s hs => ?_) _ (by omega)
    · refine ⟨?_, by show (s ++ _).length ≤ _; rw [List.length_append, ratS_len]; omega⟩
      show R_octets_l3 big v next s (k : Int) = _
      unfold R_octets_l3
      have l1 : (numS big v.Ratios[k].Num 4).length = 4 := num_len _ _ (by omega)
      have l2 : (numS big v.Ratios[k].Den 4).length = 4 := num_len _ _ (by omega)
      rw [cI, if_pos (by omega), gAt_nat hk, bnd_pure, R4, bnd_pure, R4, bnd_pure, gCat_ok (by omega), bnd_pure, gCat_ok (by rw [List.length_append]; omega), bnd_pure, gI_ok (by omega), bnd_pure]
      rfl
    · show R_octets_l3 big v next s (v.Ratios.length : Int) = _
      unfold R_octets_l3
      rw [cI, if_neg (by omega)]
  have j1 : ∀ a : List UInt8, a.length ≤ 4000000 → R_octets_j1 big v a = some (a ++ (v.Ints.flatMap fun n => numS big n (wideN v.Kind)) ++ v.Ratios.flatMap (ratS big)) := fun a ha => by
    unfold R_octets_j1
    have hloop := fix_listR (F := fun next4 s => R_octets_l4 big v next4 s.1 s.2) v.Ints (fun s n => s ++ numS big n (wideN v.Kind)) (R_octets_j2 big v) (fun k s => s.length ≤ a.length + 8 * k) (fun next k s hk hs => by
      have hw := wideN_le v.Kind
      have l1 : (numS big v.Ints[k] (wideN v.Kind)).length = wideN v.Kind := num_len _ _ hw
      refine ⟨?_, by show (s ++ _).length ≤ _; rw [List.length_append, l1]; omega⟩
      show R_octets_l4 big v next s (k : Int) = _
      unfold R_octets_l4
      rw [cI, if_pos (by omega), gAt_nat hk, bnd_pure, wide_eq, bnd_pure, if_neg h13, num_R _ _ hw, bnd_pure, gCat_ok (by omega), bnd_pure, gI_ok (by omega), bnd_pure]) (fun next s hs => by
      show R_octets_l4 big v next s (v.Ints.length : Int) = _
      unfold R_octets_l4
      rw [cI, if_neg (by omega)]) a (by omega)
    rw [hloop, fold_flat, j2]
    rw [List.length_append, flat_const (w := wideN v.Kind) (fun n => num_len _ _ (wideN_le _))]
    have := Nat.mul_le_mul_left v.Ints.length (wideN_le v.Kind)
    omega
  unfold R_octets octS
  rw [cI]
  by_cases h2 : v.Kind = 2
  · rw [if_pos h2, if_pos h2, gCat_ok (by rw [List.length_singleton]; omega), bnd_pure, j1 _ (by rw [List.length_append, List.length_singleton]; omega), p1 (by rw [h2]; unfold intsK; omega), p3 (by omega)]
    simp
  rw [if_neg h2, if_neg h2, j1 _ (by omega)]
  by_cases h7 : v.Kind = 7
  · rw [if_pos h7, p1 (by rw [h7]; unfold intsK; omega), p3 (by omega)]
    simp
  rw [if_neg h7, p2 (by unfold textK; omega), List.nil_append]
  by_cases h5 : v.Kind = 5
  · rw [if_pos h5, p1 (by rw [h5]; unfold intsK; omega)]; rfl
  · rw [if_neg h5, p3 h5, List.flatMap_nil, List.append_nil]

theorem R_count_eq {v : T_tag_Value} (hb : vB v) (hv : okV v) : R_count v = some (cntS v : Int) := by
  unfold R_count
  rw [cI]
  by_cases h13 : v.Kind = 13
  · rw [if_pos h13]; unfold cntS; rw [h13]; rfl
  · rw [if_neg h13, R_octets_eq hb hv h13, bnd_pure, wide_eq, bnd_pure, if_neg h13, octS_len false hv h13]
    have hw : wideN v.Kind ≠ 0 := fun e => (wide_zero _ h13).1 (by rw [e]; rfl) hv.1
    have hle := octS_le false v
    rw [octS_len false hv h13] at hle
    have hb1 := hb.1; have hb2 := hb.2.1; have hb3 := hb.2.2
    have e : (((cntS v * wideN v.Kind : Nat) : Int)).tdiv (wideN v.Kind : Int) = (cntS v : Int) := by
      rw [Int.natCast_mul, Int.mul_tdiv_cancel _ (by omega)]
    have hc : cntS v ≤ cntS v * wideN v.Kind := Nat.le_mul_of_pos_right _ (by omega)
    unfold gQuo
    rw [if_neg (by omega), e, gI_ok (by omega), bnd_pure]
end Go.M

/- Directories and files written, in plain Lean; the law TagWrites. Conditions: none. -/
namespace Go.M
open Go.Md Go.Pl

/-! ### octets in place -/

def zer (n : Nat) : List UInt8 := List.replicate n 0
def ev (p : Nat) : Nat := p + p % 2
def pad (p : Nat) : List UInt8 := zer (p % 2)
def put (s : List UInt8) (at_ : Nat) (b : List UInt8) : List UInt8 := s.take at_ ++ b ++ s.drop (at_ + b.length)
theorem zer_len (n : Nat) : (zer n).length = n := List.length_replicate
theorem pad_len (p : Nat) : (pad p).length = p % 2 := zer_len _
theorem ofStr_zer4 : ofStr (zer 4) = [0, 0, 0, 0] := rfl
theorem zer_add (a b : Nat) : zer (a + b) = zer a ++ zer b := List.replicate_append_replicate.symm
theorem put_len {s : List UInt8} {a : Nat} {b : List UInt8} (h : a + b.length ≤ s.length) : (put s a b).length = s.length := by
  unfold put
  simp only [List.length_append, List.length_take, List.length_drop]; omega
theorem put_at (A B C b : List UInt8) (h : b.length = B.length) {a : Nat} (ha : a = A.length) : put (A ++ B ++ C) a b = A ++ b ++ C := by
  subst ha
  unfold put
  rw [h, List.append_assoc A B C, List.take_left' rfl, ← List.append_assoc A B C, List.drop_left' (by rw [List.length_append])]

theorem ofStr_take (s : List UInt8) (n : Nat) : (ofStr s).take n = ofStr (s.take n) := List.map_take.symm
theorem ofStr_drop (s : List UInt8) (n : Nat) : (ofStr s).drop n = ofStr (s.drop n) := List.map_drop.symm

theorem cpy_put {s b : List UInt8} {a : Int} {m : Nat} {p : Nat} (ha : a = (p : Int)) (hm : b.length ≤ m) : cpyL (ofStr s) a m (ofStr b) = ofStr (put s p b) := by
  subst ha
  unfold cpyL put
  have h1 : (ofStr b).take m = ofStr b := List.take_of_length_le (by rw [ofStr_len]; exact hm)
  rw [Int.toNat_natCast, ofStr_len, Nat.min_eq_right hm, h1, ofStr_take, ofStr_drop, ofStr_app, ofStr_app, List.append_assoc]

theorem set_eq4 {big : Bool} {s : List UInt8} {a n : Int} {p : Nat} (ha : a = (p : Int)) (h : p + 4 ≤ s.length) : tag_writer_set ⟨big, ofStr s⟩ a n = some ⟨big, ofStr (put s p (numS big n 4))⟩ := by
  unfold tag_writer_set
  dsimp only
  rw [gCut_from (by rw [ofStr_len]; omega), bnd_pure, tag4, bnd_pure]
  rw [cpy_put ha (by rw [num_len _ _ (by omega), List.length_drop, ofStr_len]; omega)]
theorem R_set_eq {big : Bool} {s : List UInt8} {a n : Int} {p k : Nat} {k' : Int} (ha : a = (p : Int)) (hk' : k' = (k : Int)) (hk : k ≤ 8) (h : p + k ≤ s.length) (hs : s.length ≤ 4611686018427387904) : R_written_set ⟨s, big⟩ a n k' = some ⟨put s p (numS big n k), big⟩ := by
  subst ha hk'
  unfold R_written_set
  dsimp only
  have hl := num_len big n hk
  rw [gCut_to (by omega), bnd_pure, num_R _ _ hk, bnd_pure, gCat_ok (by rw [List.length_take]; omega), bnd_pure, gI_ok (by omega), bnd_pure, gCut_from (by omega), bnd_pure, gCat_ok (by rw [List.length_append, List.length_take, List.length_drop]; omega), bnd_pure]
  unfold put
  rw [hl, Int.toNat_natCast, show ((p : Int) + (k : Int)).toNat = p + k from by omega]

theorem begin_eq {big : Bool} {s : List UInt8} (hs : s.length ≤ 1099511627776) : tag_writer_begin ⟨big, ofStr s⟩ = some (((ev s.length : Nat) : Int), ⟨big, ofStr (s ++ pad s.length)⟩) := by
  unfold tag_writer_begin tag_writer_begin_j1 ev pad
  dsimp only
  rw [gRem_ok (by omega), bnd_pure, cI, ofStr_len]
  have e : ((s.length : Int)).tmod 2 = ((s.length % 2 : Nat) : Int) := by rw [Int.tmod_eq_emod_of_nonneg (by omega)]; omega
  by_cases h : s.length % 2 = 0
  · rw [e, if_neg (by omega), h]
    simp [zer]
  · have h1 : s.length % 2 = 1 := by omega
    rw [e, if_pos (by omega), gApp_ok (by rw [ofStr_len, List.length_singleton]; omega), bnd_pure, h1, ofStr_app]
    simp only [List.length_append, ofStr_len, List.length_singleton]
    rfl
theorem R_add_eq {big : Bool} {s a : List UInt8} (hs : s.length + a.length ≤ 4611686018427387904) : R_written_add ⟨s, big⟩ a = some (((ev s.length : Nat) : Int), ⟨s ++ pad s.length ++ a, big⟩) := by
  unfold R_written_add R_written_add_j1 ev pad
  dsimp only
  rw [gRem_ok (by omega), bnd_pure, cI]
  have e : ((s.length : Int)).tmod 2 = ((s.length % 2 : Nat) : Int) := by rw [Int.tmod_eq_emod_of_nonneg (by omega)]; omega
  by_cases h : s.length % 2 = 0
  · rw [e, if_neg (by omega), h, gCat_ok (by omega), bnd_pure]
    simp [zer]
  · have h1 : s.length % 2 = 1 := by omega
    rw [e, if_pos (by omega), gCat_ok (by rw [List.length_singleton]; omega), bnd_pure, h1, gCat_ok (by rw [List.length_append, List.length_singleton]; omega), bnd_pure]
    simp [zer]

/-! ### a directory's octets -/

noncomputable def hdrS (big : Bool) (e : T_tag_Entry) : List UInt8 := numS big e.Tag 2 ++ numS big e.Value.Kind 2 ++ numS big (cntS e.Value) 4
theorem hdr_len (big : Bool) (e : T_tag_Entry) : (hdrS big e).length = 8 := by
  unfold hdrS; rw [List.length_append, List.length_append, num_len _ _ (by omega), num_len _ _ (by omega), num_len _ _ (by omega)]
noncomputable def entF (G : List T_tag_Entry → Nat → List UInt8) (big : Bool) (e : T_tag_Entry) (q : Nat) : List UInt8 × List UInt8 :=
  if e.Value.Kind = 13 then (numS big (ev q) 4, G e.Value.Entries q)
  else if (octS big e.Value).length ≤ 4 then (octS big e.Value ++ zer (4 - (octS big e.Value).length), [])
  else (numS big (ev q) 4, pad q ++ octS big e.Value)
theorem entF_len (G : List T_tag_Entry → Nat → List UInt8) (big : Bool) (e : T_tag_Entry) (q : Nat) : (entF G big e q).1.length = 4 := by
  unfold entF
  split
  · exact num_len _ _ (by omega)
  split
  · rw [List.length_append, zer_len]; omega
  · exact num_len _ _ (by omega)
noncomputable def bods (G : List T_tag_Entry → Nat → List UInt8) (big : Bool) : List T_tag_Entry → Nat → List UInt8 × List UInt8
  | [], _ => ([], [])
  | e :: l, q => (hdrS big e ++ (entF G big e q).1 ++ (bods G big l (q + (entF G big e q).2.length)).1, (entF G big e q).2 ++ (bods G big l (q + (entF G big e q).2.length)).2)
theorem bods_len (G : List T_tag_Entry → Nat → List UInt8) (big : Bool) : ∀ (l : List T_tag_Entry) (q : Nat), (bods G big l q).1.length = 12 * l.length
  | [], _ => rfl
  | e :: l, q => by
    unfold bods
    rw [List.length_append, List.length_append, hdr_len, entF_len, bods_len G big l, List.length_cons]; omega
noncomputable def dirB (G : List T_tag_Entry → Nat → List UInt8) (big : Bool) (l : List T_tag_Entry) (p : Nat) : List UInt8 :=
  pad p ++ numS big l.length 2 ++ (bods G big l (ev p + 2 + 12 * l.length + 4)).1 ++ zer 4 ++ (bods G big l (ev p + 2 + 12 * l.length + 4)).2
noncomputable def dirS : Nat → Bool → List T_tag_Entry → Nat → List UInt8
  | 0, _ => fun _ _ => []
  | d + 1, big => dirB (dirS d big) big

theorem dirB_len (G : List T_tag_Entry → Nat → List UInt8) (big : Bool) (l : List T_tag_Entry) (p : Nat) : p + (dirB G big l p).length = ev p + 2 + 12 * l.length + 4 + (bods G big l (ev p + 2 + 12 * l.length + 4)).2.length := by
  unfold dirB ev
  simp only [List.length_append, pad_len, num_len _ _ (show 2 ≤ 8 by omega), bods_len, zer_len]; omega

theorem dirS_le (big : Bool) : ∀ (d : Nat) (l : List T_tag_Entry) (p : Nat), (dirS d big l p).length ≤ 8 + 32 * szD d l := by
  intro d
  induction d with
  | zero => intro l p; exact Nat.zero_le _
  | succ d ih =>
    intro l p
    have hb : ∀ (l : List T_tag_Entry) (q : Nat), (bods (dirS d big) big l q).2.length + 12 * l.length ≤ 32 * szD (d + 1) l := by
      intro l
      induction l with
      | nil => intro q; exact Nat.zero_le _
      | cons e l ih2 =>
        intro q
        unfold bods
        rw [List.length_append, List.length_cons, szD_cons]
        have h1 := ih2 (q + (entF (dirS d big) big e q).2.length)
        have h2 : (entF (dirS d big) big e q).2.length + 12 ≤ 32 * szE d e := by
          unfold entF szE
          split
          · have := ih e.Value.Entries q; simp only; omega
          split
          · simp only [List.length_nil]; omega
          · have := octS_le big e.Value
            simp only [List.length_append, pad_len]; omega
        omega
    have h1 := dirB_len (dirS d big) big l p
    have h2 := hb l (ev p + 2 + 12 * l.length + 4)
    show (dirB (dirS d big) big l p).length ≤ _
    have h3 : ev p ≤ p + 1 := by unfold ev; omega
    omega

/-! ### the program's directory -/

def zhS (big : Bool) (l : List T_tag_Entry) : List UInt8 := l.flatMap fun e => zer 12
noncomputable def hzS (big : Bool) (l : List T_tag_Entry) : List UInt8 := l.flatMap fun e => hdrS big e ++ zer 4
theorem hz_len (big : Bool) (l : List T_tag_Entry) : (hzS big l).length = 12 * l.length := by
  unfold hzS
  rw [flat_const (w := 12) (fun e => by rw [List.length_append, hdr_len, zer_len])]; omega

theorem heads_loop {big : Bool} {l : List T_tag_Entry} (hl : l.length ≤ 200) (hv : ∀ e ∈ l, vB e.Value) {self : T_tag_writer × List T_tag_Entry → Option (Int × Int × T_tag_writer)} {t15 : Int × T_tag_writer} (ht : t15.2.big_ = big) (s : List UInt8) (hs : s.length ≤ 1099511627776) :
    fix (fun next5 a => tag_writer_dir_l5 l self t15 next5 a.1 a.2) (0, ofStr s) = tag_writer_dir_j1 l self t15 (ofStr (s ++ hzS big l)) := by
  unfold hzS
  rw [← fold_ofStr]
  refine fix_list (F := fun next5 a => tag_writer_dir_l5 l self t15 next5 a.1 a.2) l (fun s e => s ++ ofStr (hdrS big e ++ zer 4)) (tag_writer_dir_j1 l self t15) (fun k a => a.length ≤ s.length + 12 * k) (fun next k a hk ha => ?_) (fun next a ha => ?_) _ (by rw [ofStr_len]; omega)
  · refine ⟨?_, by show (a ++ _).length ≤ _; rw [List.length_append, ofStr_len, List.length_append, hdr_len, zer_len]; omega⟩
    show tag_writer_dir_l5 l self t15 next (k : Int) a = _
    unfold tag_writer_dir_l5
    have n2 : ∀ n, (ofStr (numS big n 2)).length = 2 := fun n => by rw [ofStr_len, num_len _ _ (by omega)]
    have n4 : ∀ n, (ofStr (numS big n 4)).length = 4 := fun n => by rw [ofStr_len, num_len _ _ (by omega)]
    rw [cI, if_pos (by omega), gAt_nat hk, bnd_pure, ht, tag2, bnd_pure, gApp_ok (by rw [n2]; omega), bnd_pure, tag2, bnd_pure, gApp_ok (by rw [List.length_append, n2, n2]; omega), bnd_pure, count_eq (hv _ (List.getElem_mem hk)), bnd_pure, tag4, bnd_pure, gApp_ok (by rw [List.length_append, List.length_append, n2, n2, n4]; omega), bnd_pure, gApp_ok (by rw [List.length_append, List.length_append, List.length_append, n2, n2, n4]; simp; omega), bnd_pure, gI_ok (by omega), bnd_pure]
    unfold hdrS
    rw [ofStr_app, ofStr_app, ofStr_app, ofStr_zer4]
    simp only [List.append_assoc]
  · show tag_writer_dir_l5 l self t15 next (l.length : Int) a = _
    unfold tag_writer_dir_l5
    rw [cI, if_neg (by omega)]

theorem prog_loop {big : Bool} {l : List T_tag_Entry} (hl : l.length ≤ 200) (hv : ∀ e ∈ l, okV e.Value ∧ vB e.Value) {G : List T_tag_Entry → Nat → List UInt8} {self : T_tag_writer × List T_tag_Entry → Option (Int × Int × T_tag_writer)}
    (hself : ∀ e ∈ l, e.Value.Kind = 13 → ∀ s : List UInt8, s.length + (G e.Value.Entries s.length).length ≤ 1099511627776 → ∃ q, self (⟨big, ofStr s⟩, e.Value.Entries) = some (((ev s.length : Nat) : Int), q, ⟨big, ofStr (s ++ G e.Value.Entries s.length)⟩))
    {t15 : Int × T_tag_writer} {at_ : Nat} (ht : t15.1 = (at_ : Int)) (L : List Int) :
    ∀ (l2 : List T_tag_Entry) (i : Nat) (X Y : List UInt8), i + l2.length = l.length → l.drop i = l2 → X.length = at_ + 2 + 12 * i → X.length + 12 * l2.length + 4 + Y.length + (bods G big l2 (X.length + 12 * l2.length + 4 + Y.length)).2.length ≤ 1099511627776 →
      fix (fun next3 a => tag_writer_dir_l3 l self t15 L next3 a.1 a.2.1 a.2.2) ((i : Int), big, ofStr (X ++ hzS big l2 ++ zer 4 ++ Y)) = some (t15.1, (L.length : Int), ⟨big, ofStr (X ++ (bods G big l2 (X.length + 12 * l2.length + 4 + Y.length)).1 ++ zer 4 ++ Y ++ (bods G big l2 (X.length + 12 * l2.length + 4 + Y.length)).2)⟩) := by
  intro l2
  induction l2 with
  | nil =>
    intro i X Y hi _ hX hM
    refine fix_done fun next => ?_
    show tag_writer_dir_l3 l self t15 L next (i : Int) big _ = _
    unfold tag_writer_dir_l3
    rw [cI, if_neg (by rw [List.length_nil] at hi; omega)]
    unfold tag_writer_dir_j2 bods hzS
    simp
  | cons e l2 ih =>
    intro i X Y hi hd hX hM
    have hlt : i < l.length := by rw [List.length_cons] at hi; omega
    have he : l[i] = e := by have := List.drop_eq_getElem_cons hlt; rw [hd] at this; injection this with h1 h2; exact h1.symm
    have hd' : l.drop (i + 1) = l2 := by have := List.drop_eq_getElem_cons hlt; rw [hd] at this; injection this with h1 h2; exact h2.symm
    have hmem : e ∈ l := he ▸ List.getElem_mem hlt
    obtain ⟨hok, hvb⟩ := hv e hmem
    generalize hp : X.length + 12 * (e :: l2).length + 4 + Y.length = p at hM ⊢
    rw [List.length_cons] at hp hi
    unfold bods at hM ⊢
    simp only at hM ⊢
    generalize hF : entF G big e p = F at hM ⊢
    obtain ⟨f, b⟩ := F
    have hf4 : f.length = 4 := by have := entF_len G big e p; rw [hF] at this; exact this
    simp only at hM ⊢
    rw [List.length_append] at hM
    have hS : (X ++ hzS big (e :: l2) ++ zer 4 ++ Y).length = p := by
      simp only [List.length_append, hz_len, zer_len, List.length_cons]; omega
    have hsplit : ∀ Z : List UInt8, X ++ hzS big (e :: l2) ++ zer 4 ++ Y ++ Z = (X ++ hdrS big e) ++ zer 4 ++ (hzS big l2 ++ zer 4 ++ Y ++ Z) := fun Z => by
      unfold hzS
      rw [List.flatMap_cons]
      simp only [List.append_assoc]
    have hpos : (at_ : Int) + 2 + 12 * (i : Int) + 8 = ((X ++ hdrS big e).length : Int) := by
      rw [List.length_append, hdr_len]; omega
    -- what the round leaves
    have hround : ∀ next : Int × Bool × List Int → Option (Int × Int × T_tag_writer), tag_writer_dir_l3 l self t15 L next (i : Int) big (ofStr (X ++ hzS big (e :: l2) ++ zer 4 ++ Y)) = next (((i + 1 : Nat) : Int), big, ofStr ((X ++ hdrS big e ++ f) ++ hzS big l2 ++ zer 4 ++ (Y ++ b))) := fun next => by
      unfold tag_writer_dir_l3
      have e4 : ∀ a m, tag_writer_dir_j4 (i : Int) next a m = next (((i + 1 : Nat) : Int), a, m) := fun a m => by
        unfold tag_writer_dir_j4; rw [gI_ok (by omega), bnd_pure]; rfl
      rw [cI, if_pos (by omega), gAt_nat hlt, bnd_pure, he, ht, gI_ok (by omega), bnd_pure, gI_ok (by omega), bnd_pure, gI_ok (by omega), bnd_pure, gI_ok (by omega), bnd_pure, cI]
      unfold entF at hF
      by_cases h13 : e.Value.Kind = 13
      · rw [if_pos h13] at hF ⊢
        injection hF with hF1 hF2
        obtain ⟨q, hq⟩ := hself e hmem h13 (X ++ hzS big (e :: l2) ++ zer 4 ++ Y) (by rw [hS, hF2]; omega)
        rw [hq, bnd_pure]
        simp only
        rw [hS, hF2, set_eq4 (p := (X ++ hdrS big e).length) hpos (by rw [hsplit]; simp only [List.length_append, zer_len]; omega), bnd_pure, e4, hF1, hsplit, put_at _ _ _ _ (by rw [hf4, zer_len]) rfl]
        simp only [List.append_assoc]
      · rw [if_neg h13] at hF ⊢
        rw [octets_eq hvb hok h13, bnd_pure, cI, ofStr_len]
        by_cases ho : (octS big e.Value).length ≤ 4
        · rw [if_pos ho] at hF
          injection hF with hF1 hF2
          have hpn : ((at_ : Int) + 2 + 12 * (i : Int) + 8).toNat = X.length + 8 := by omega
          rw [if_pos (by omega), gCut_from (by rw [ofStr_len, hS]; omega), bnd_pure, e4, cpy_put (p := (X ++ hdrS big e).length) hpos (by rw [List.length_drop, ofStr_len, hS, hpn]; omega)]
          have h0 := hsplit []
          rw [List.append_nil] at h0
          have hz : zer 4 = zer (octS big e.Value).length ++ zer (4 - (octS big e.Value).length) := by rw [← zer_add]; congr 1; omega
          have h1 : ∀ R, (X ++ hdrS big e) ++ zer 4 ++ R = (X ++ hdrS big e) ++ zer (octS big e.Value).length ++ (zer (4 - (octS big e.Value).length) ++ R) := fun R => by
            rw [hz]
            simp only [List.append_assoc]
          rw [h0]
          rw [h1, put_at _ _ _ _ (by rw [zer_len]) rfl, ← hF1, ← hF2]
          simp only [List.append_assoc, List.append_nil]
        · rw [if_neg ho] at hF
          injection hF with hF1 hF2
          rw [if_neg (by omega), begin_eq (by rw [hS]; omega), bnd_pure]
          simp only
          have hol := octS_le big e.Value
          rw [hS, set_eq4 (p := (X ++ hdrS big e).length) hpos (by rw [hsplit]; simp only [List.length_append, zer_len]; omega), bnd_pure]
          simp only
          rw [gApp_ok (by rw [ofStr_len, ofStr_len, put_len (by rw [hsplit, num_len _ _ (by omega)]; simp only [List.length_append, zer_len]; omega), List.length_append, hS, pad_len]; rw [← hF2, List.length_append, pad_len] at hM; omega), bnd_pure, e4, hsplit, put_at _ _ _ _ (by rw [num_len _ _ (by omega), zer_len]) rfl, ← ofStr_app, ← hF1, ← hF2]
          simp only [List.append_assoc]
    rw [fix_goto _ hround]
    have hq : (X ++ hdrS big e ++ f).length + 12 * l2.length + 4 + (Y ++ b).length = p + b.length := by
      simp only [List.length_append, hdr_len, hf4]; omega
    have := ih (i + 1) (X ++ hdrS big e ++ f) (Y ++ b) (by omega) hd' (by simp only [List.length_append, hdr_len, hf4]; omega) (by rw [hq]; omega)
    rw [this, hq]
    simp only [List.append_assoc]
end Go.M

/- Directories and files written by both, in plain Lean. Conditions: none. -/
namespace Go.M
open Go.Md Go.Pl

/-! ### the reference's directory -/

theorem zer_mul (n : Nat) : zer (12 * (n + 1)) = zer 2 ++ zer 2 ++ zer 4 ++ zer 4 ++ zer (12 * n) := by
  rw [← zer_add, ← zer_add, ← zer_add, ← zer_add]; congr 1; omega

theorem spec_loop {big : Bool} {l : List T_tag_Entry} (hl : l.length ≤ 200) (hv : ∀ e ∈ l, okV e.Value ∧ vB e.Value) {G : List T_tag_Entry → Nat → List UInt8} {self : T_tintref2_written × List T_tag_Entry → Option (Int × T_tintref2_written)}
    (hself : ∀ e ∈ l, e.Value.Kind = 13 → ∀ s : List UInt8, s.length + (G e.Value.Entries s.length).length ≤ 1099511627776 → self (⟨s, big⟩, e.Value.Entries) = some (((ev s.length : Nat) : Int), ⟨s ++ G e.Value.Entries s.length, big⟩))
    {t17 : Int × T_tintref2_written} {at_ : Nat} (ht : t17.1 = (at_ : Int)) :
    ∀ (l2 : List T_tag_Entry) (i : Nat) (X Y : List UInt8), i + l2.length = l.length → l.drop i = l2 → X.length = at_ + 2 + 12 * i → X.length + 12 * l2.length + 4 + Y.length + (bods G big l2 (X.length + 12 * l2.length + 4 + Y.length)).2.length ≤ 1099511627776 →
      fix (fun next1 a => R_written_dir_l1 l self t17 next1 a.1 a.2.1 a.2.2) ((i : Int), X ++ zer (12 * l2.length) ++ zer 4 ++ Y, big) = some (t17.1, ⟨X ++ (bods G big l2 (X.length + 12 * l2.length + 4 + Y.length)).1 ++ zer 4 ++ Y ++ (bods G big l2 (X.length + 12 * l2.length + 4 + Y.length)).2, big⟩) := by
  intro l2
  induction l2 with
  | nil =>
    intro i X Y hi _ hX hM
    refine fix_done fun next => ?_
    show R_written_dir_l1 l self t17 next (i : Int) _ big = _
    unfold R_written_dir_l1
    rw [cI, if_neg (by rw [List.length_nil] at hi; omega)]
    unfold bods
    simp [zer]
  | cons e l2 ih =>
    intro i X Y hi hd hX hM
    have hlt : i < l.length := by rw [List.length_cons] at hi; omega
    have he : l[i] = e := by have := List.drop_eq_getElem_cons hlt; rw [hd] at this; injection this with h1 h2; exact h1.symm
    have hd' : l.drop (i + 1) = l2 := by have := List.drop_eq_getElem_cons hlt; rw [hd] at this; injection this with h1 h2; exact h2.symm
    have hmem : e ∈ l := he ▸ List.getElem_mem hlt
    obtain ⟨hok, hvb⟩ := hv e hmem
    generalize hp : X.length + 12 * (e :: l2).length + 4 + Y.length = p at hM ⊢
    rw [List.length_cons] at hp hi ⊢
    unfold bods at hM ⊢
    simp only at hM ⊢
    generalize hF : entF G big e p = F at hM ⊢
    obtain ⟨f, b⟩ := F
    have hf4 : f.length = 4 := by have := entF_len G big e p; rw [hF] at this; exact this
    simp only at hM ⊢
    rw [List.length_append] at hM
    have n2 : ∀ n, (numS big n 2).length = 2 := fun n => num_len _ _ (by omega)
    have n4 : ∀ n, (numS big n 4).length = 4 := fun n => num_len _ _ (by omega)
    generalize hR : zer (12 * l2.length) ++ zer 4 ++ Y = R
    have hRl : R.length = 12 * l2.length + 4 + Y.length := by rw [← hR]; simp only [List.length_append, zer_len]
    have s0 : X ++ zer (12 * (l2.length + 1)) ++ zer 4 ++ Y = X ++ zer 2 ++ (zer 2 ++ zer 4 ++ zer 4 ++ R) := by
      rw [zer_mul, ← hR]; simp only [List.append_assoc]
    have e1 : put (X ++ zer 2 ++ (zer 2 ++ zer 4 ++ zer 4 ++ R)) X.length (numS big e.Tag 2) = (X ++ numS big e.Tag 2) ++ zer 2 ++ (zer 4 ++ zer 4 ++ R) := by
      rw [put_at _ _ _ _ (by rw [n2, zer_len]) rfl]; simp only [List.append_assoc]
    have e2 : put ((X ++ numS big e.Tag 2) ++ zer 2 ++ (zer 4 ++ zer 4 ++ R)) (X.length + 2) (numS big e.Value.Kind 2) = (X ++ numS big e.Tag 2 ++ numS big e.Value.Kind 2) ++ zer 4 ++ (zer 4 ++ R) := by
      rw [put_at _ _ _ _ (by rw [n2, zer_len]) (by rw [List.length_append, n2])]; simp only [List.append_assoc]
    have e3 : put ((X ++ numS big e.Tag 2 ++ numS big e.Value.Kind 2) ++ zer 4 ++ (zer 4 ++ R)) (X.length + 4) (numS big (cntS e.Value) 4) = (X ++ hdrS big e) ++ zer 4 ++ R := by
      rw [put_at _ _ _ _ (by rw [n4, zer_len]) (by rw [List.length_append, List.length_append, n2, n2])]
      unfold hdrS; simp only [List.append_assoc]
    have hS : ((X ++ hdrS big e) ++ zer 4 ++ R).length = p := by
      simp only [List.length_append, hdr_len, zer_len, hRl]; omega
    have hpos : (at_ : Int) + 2 + 12 * (i : Int) + 8 = ((X ++ hdrS big e).length : Int) := by
      rw [List.length_append, hdr_len]; omega
    have hround : ∀ next : Int × List UInt8 × Bool → Option (Int × T_tintref2_written), R_written_dir_l1 l self t17 next (i : Int) (X ++ zer (12 * (l2.length + 1)) ++ zer 4 ++ Y) big = next (((i + 1 : Nat) : Int), (X ++ hdrS big e ++ f) ++ zer (12 * l2.length) ++ zer 4 ++ (Y ++ b), big) := fun next => by
      unfold R_written_dir_l1
      have e5 : ∀ m a, R_written_dir_j2 (i : Int) next m a = next (((i + 1 : Nat) : Int), m, a) := fun m a => by
        unfold R_written_dir_j2; rw [gI_ok (by omega), bnd_pure]; rfl
      rw [cI, if_pos (by omega), gAt_nat hlt, bnd_pure, he, ht, gI_ok (by omega), bnd_pure, gI_ok (by omega), bnd_pure, gI_ok (by omega), bnd_pure, s0]
      rw [R_set_eq (p := X.length) (k := 2) (k' := 2) (by omega) rfl (by omega) (by simp only [List.length_append, zer_len]; omega) (by simp only [List.length_append, zer_len, hRl]; omega), bnd_pure, e1, gI_ok (by omega), bnd_pure]
      rw [R_set_eq (p := X.length + 2) (k := 2) (k' := 2) (by omega) rfl (by omega) (by simp only [List.length_append, zer_len, n2]; omega) (by simp only [List.length_append, zer_len, hRl, n2]; omega), bnd_pure, e2, gI_ok (by omega), bnd_pure, R_count_eq hvb hok, bnd_pure]
      rw [R_set_eq (p := X.length + 4) (k := 4) (k' := 4) (by omega) rfl (by omega) (by simp only [List.length_append, zer_len, n2]; omega) (by simp only [List.length_append, zer_len, hRl, n2]; omega), bnd_pure, e3, cI]
      unfold entF at hF
      by_cases h13 : e.Value.Kind = 13
      · rw [if_pos h13] at hF ⊢
        obtain ⟨hF1, hF2⟩ := Prod.mk.inj hF
        rw [gI_ok (by omega), bnd_pure, hself e hmem h13 ((X ++ hdrS big e) ++ zer 4 ++ R) (by rw [hS, hF2]; omega), bnd_pure]
        show bnd (R_written_set ⟨(X ++ hdrS big e) ++ zer 4 ++ R ++ G e.Value.Entries ((X ++ hdrS big e) ++ zer 4 ++ R).length, big⟩ _ _ 4) _ = _
        rw [hS, hF2, R_set_eq (p := (X ++ hdrS big e).length) (k := 4) (k' := 4) (by omega) rfl (by omega) (by simp only [List.length_append, zer_len]; omega) (by rw [List.length_append, hS]; omega), bnd_pure, e5, hF1]
        have : (X ++ hdrS big e) ++ zer 4 ++ R ++ b = (X ++ hdrS big e) ++ zer 4 ++ (R ++ b) := by simp only [List.append_assoc]
        rw [this, put_at _ _ _ _ (by rw [hf4, zer_len]) rfl, ← hR]
        simp only [List.append_assoc]
      · rw [if_neg h13] at hF ⊢
        dsimp only
        rw [R_octets_eq hvb hok h13, bnd_pure, cI]
        by_cases ho : (octS big e.Value).length ≤ 4
        · rw [if_pos ho] at hF
          obtain ⟨hF1, hF2⟩ := Prod.mk.inj hF
          have hpn : ((at_ : Int) + 2 + 12 * (i : Int) + 8).toNat = (X ++ hdrS big e).length := by omega
          have hp2 : ((at_ : Int) + 2 + 12 * (i : Int) + 8 + ((octS big e.Value).length : Int)).toNat = (X ++ hdrS big e).length + (octS big e.Value).length := by omega
          have hXl : (X ++ hdrS big e).length = X.length + 8 := by rw [List.length_append, hdr_len]
          rw [if_neg (by omega), gI_ok (by omega), bnd_pure, gCut_to (by rw [hS]; omega), bnd_pure, hpn]
          rw [gCat_ok (by rw [List.length_take]; omega), bnd_pure, bnd_pure, gI_ok (by omega), bnd_pure, gCut_from (by rw [hS]; omega), bnd_pure, hp2]
          rw [gCat_ok (by simp only [List.length_append, List.length_take, List.length_drop, hS]; omega), bnd_pure, e5]
          have hput : List.take (X ++ hdrS big e).length ((X ++ hdrS big e) ++ zer 4 ++ R) ++ octS big e.Value ++ List.drop ((X ++ hdrS big e).length + (octS big e.Value).length) ((X ++ hdrS big e) ++ zer 4 ++ R) = put ((X ++ hdrS big e) ++ zer 4 ++ R) (X ++ hdrS big e).length (octS big e.Value) := rfl
          have hz : zer 4 = zer (octS big e.Value).length ++ zer (4 - (octS big e.Value).length) := by rw [← zer_add]; congr 1; omega
          have h1 : (X ++ hdrS big e) ++ zer 4 ++ R = (X ++ hdrS big e) ++ zer (octS big e.Value).length ++ (zer (4 - (octS big e.Value).length) ++ R) := by
            rw [hz]
            simp only [List.append_assoc]
          rw [hput, h1, put_at _ _ _ _ (by rw [zer_len]) rfl, ← hF1, ← hF2, ← hR]
          simp only [List.append_assoc, List.append_nil]
        · rw [if_neg ho] at hF
          obtain ⟨hF1, hF2⟩ := Prod.mk.inj hF
          have hbl : b.length = p % 2 + (octS big e.Value).length := by rw [← hF2, List.length_append, pad_len]
          rw [if_pos (by omega), gI_ok (by omega), bnd_pure, R_add_eq (by rw [hS]; omega), bnd_pure]
          dsimp only
          rw [hS, R_set_eq (p := (X ++ hdrS big e).length) (k := 4) (k' := 4) (by omega) rfl (by omega) (by simp only [List.length_append, zer_len]; omega) (by simp only [List.length_append, pad_len]; rw [← List.length_append, ← List.length_append, ← List.length_append, hS]; omega), bnd_pure, e5]
          have : (X ++ hdrS big e) ++ zer 4 ++ R ++ pad p ++ octS big e.Value = (X ++ hdrS big e) ++ zer 4 ++ (R ++ pad p ++ octS big e.Value) := by simp only [List.append_assoc]
          rw [this, put_at _ _ _ _ (by rw [n4, zer_len]) rfl, ← hF1, ← hF2, ← hR]
          simp only [List.append_assoc]
    rw [fix_goto _ hround]
    have hq : (X ++ hdrS big e ++ f).length + 12 * l2.length + 4 + (Y ++ b).length = p + b.length := by
      simp only [List.length_append, hdr_len, hf4]; omega
    have := ih (i + 1) (X ++ hdrS big e ++ f) (Y ++ b) (by omega) hd' (by simp only [List.length_append, hdr_len, hf4]; omega) (by rw [hq]; omega)
    rw [this, hq]
    simp only [List.append_assoc]

/-! ### the recursion -/

theorem dir_eq (d : Nat) (big : Bool) (s : List UInt8) (l : List T_tag_Entry) (hok : okD d l) (hz : szD d l ≤ 2000000) (hM : s.length + (dirS d big l s.length).length ≤ 1099511627776) :
    tag_writer_dir ⟨big, ofStr s⟩ l = some (((ev s.length : Nat) : Int), ((ev s.length + 2 + 12 * l.length : Nat) : Int), ⟨big, ofStr (s ++ dirS d big l s.length)⟩) := by
  unfold tag_writer_dir
  have := fix_ofG (F := fun (self : (T_tag_writer × List T_tag_Entry) → Option (Int × Int × T_tag_writer)) (s : T_tag_writer × List T_tag_Entry) => tag_writer_dir_body self s.1 s.2)
    (fun (g : Nat × Bool × List UInt8) (a : T_tag_writer × List T_tag_Entry) => some (((ev g.2.2.length : Nat) : Int), ((ev g.2.2.length + 2 + 12 * a.2.length : Nat) : Int), ⟨g.2.1, ofStr (g.2.2 ++ dirS g.1 g.2.1 a.2 g.2.2.length)⟩))
    (fun g a => a.1 = ⟨g.2.1, ofStr g.2.2⟩ ∧ okD g.1 a.2 ∧ szD g.1 a.2 ≤ 2000000 ∧ g.2.2.length + (dirS g.1 g.2.1 a.2 g.2.2.length).length ≤ 1099511627776) (fun g => g.1) ?_ (d, big, s) (⟨big, ofStr s⟩, l) ⟨rfl, hok, hz, hM⟩
  · exact this
  rintro next ⟨d, big, s⟩ ⟨w, l⟩ ⟨hw, hok, hz, hM⟩ ih
  simp only at hw hok hz hM ih ⊢
  subst hw
  cases d with
  | zero => exact hok.elim
  | succ d =>
    obtain ⟨hl, hall⟩ := hok
    have hM' := dirB_len (dirS d big) big l s.length
    have hMM : s.length + (dirB (dirS d big) big l s.length).length ≤ 1099511627776 := hM
    unfold tag_writer_dir_body
    have hev : ev s.length = (s ++ pad s.length).length := by rw [List.length_append, pad_len]; rfl
    rw [begin_eq (by omega), bnd_pure]
    dsimp only
    rw [tag2, bnd_pure, gApp_ok (by rw [ofStr_len, ofStr_len, ← hev, num_len _ _ (by omega)]; omega), bnd_pure, ← ofStr_app]
    have hX : (s ++ pad s.length ++ numS big l.length 2).length = ev s.length + 2 := by rw [List.length_append, ← hev, num_len _ _ (by omega)]
    rw [heads_loop hl (fun e he => (vB_of hz he).1) rfl _ (by rw [hX]; omega)]
    unfold tag_writer_dir_j1
    dsimp only
    rw [gApp_ok (by rw [ofStr_len, List.length_append, hX, hz_len]; simp; omega), bnd_pure, ← ofStr_zer4, ← ofStr_app]
    have := prog_loop (big := big) hl (fun e he => ⟨(hall e he).1, (vB_of hz he).1⟩) (G := dirS d big) (self := next) (fun e he h13 s' hs' => ⟨_, ih (d, big, s') (⟨big, ofStr s'⟩, e.Value.Entries) ⟨rfl, (hall e he).2 h13, (vB_of hz he).2, hs'⟩ (by simp)⟩)
      (t15 := (((ev s.length : Nat) : Int), ⟨big, ofStr (s ++ pad s.length)⟩)) (at_ := ev s.length) rfl (ofStr (s ++ pad s.length ++ numS big l.length 2 ++ hzS big l)) l 0 (s ++ pad s.length ++ numS big l.length 2) [] (by omega) rfl (by rw [hX]) (by rw [hX, List.length_nil, Nat.add_zero]; omega)
    rw [List.append_nil] at this
    refine this.trans ?_
    rw [hX, ofStr_len, List.length_append, hX, hz_len, List.length_nil, Nat.add_zero, List.append_nil]
    show some _ = some (_, _, (⟨big, ofStr (s ++ dirB (dirS d big) big l s.length)⟩ : T_tag_writer))
    unfold dirB
    simp only [List.append_assoc]
end Go.M

/- Files written and checked; the law TagWrites, in plain Lean. Conditions: none. -/
namespace Go.M
open Go.Md Go.Pl

theorem rep_zero (n : Nat) : (List.replicate n ([0] : List UInt8)).flatten = zer n := by
  unfold zer
  induction n with
  | zero => rfl
  | succ n ih => rw [List.replicate_succ, List.flatten_cons, ih, List.replicate_succ]; rfl

theorem R_dir_eq (d : Nat) (big : Bool) (s : List UInt8) (l : List T_tag_Entry) (hok : okD d l) (hz : szD d l ≤ 2000000) (hM : s.length + (dirS d big l s.length).length ≤ 1099511627776) :
    R_written_dir ⟨s, big⟩ l = some (((ev s.length : Nat) : Int), ⟨s ++ dirS d big l s.length, big⟩) := by
  unfold R_written_dir
  have := fix_ofG (F := fun (self : (T_tintref2_written × List T_tag_Entry) → Option (Int × T_tintref2_written)) (s : T_tintref2_written × List T_tag_Entry) => R_written_dir_body self s.1 s.2)
    (fun (g : Nat × Bool × List UInt8) (a : T_tintref2_written × List T_tag_Entry) => some (((ev g.2.2.length : Nat) : Int), ⟨g.2.2 ++ dirS g.1 g.2.1 a.2 g.2.2.length, g.2.1⟩))
    (fun g a => a.1 = ⟨g.2.2, g.2.1⟩ ∧ okD g.1 a.2 ∧ szD g.1 a.2 ≤ 2000000 ∧ g.2.2.length + (dirS g.1 g.2.1 a.2 g.2.2.length).length ≤ 1099511627776) (fun g => g.1) ?_ (d, big, s) (⟨s, big⟩, l) ⟨rfl, hok, hz, hM⟩
  · exact this
  rintro next ⟨d, big, s⟩ ⟨w, l⟩ ⟨hw, hok, hz, hM⟩ ih
  simp only at hw hok hz hM ih ⊢
  subst hw
  cases d with
  | zero => exact hok.elim
  | succ d =>
    obtain ⟨hl, hall⟩ := hok
    have hM' := dirB_len (dirS d big) big l s.length
    have hMM : s.length + (dirB (dirS d big) big l s.length).length ≤ 1099511627776 := hM
    have hev : ev s.length = (s ++ pad s.length).length := by rw [List.length_append, pad_len]; rfl
    unfold R_written_dir_body
    have ht : (2 + 12 * (l.length : Int) + 4).toNat = 2 + 12 * l.length + 4 := by omega
    rw [gI_ok (by omega), bnd_pure, gI_ok (by omega), bnd_pure, gI_ok (by omega), bnd_pure]
    have hrep : gRep [0] (2 + 12 * (l.length : Int) + 4) = some (zer (2 + 12 * l.length + 4)) := by
      unfold gRep
      rw [if_pos (by rw [List.length_singleton]; omega), ht, rep_zero]
    rw [hrep, bnd_pure, R_add_eq (by rw [zer_len]; omega), bnd_pure]
    have hsp : s ++ pad s.length ++ zer (2 + 12 * l.length + 4) = (s ++ pad s.length) ++ zer 2 ++ (zer (12 * l.length) ++ zer 4) := by
      rw [zer_add, zer_add]; simp only [List.append_assoc]
    show bnd (R_written_set ⟨s ++ pad s.length ++ zer (2 + 12 * l.length + 4), big⟩ _ _ 2) _ = _
    rw [R_set_eq (p := ev s.length) (k := 2) (k' := 2) rfl rfl (by omega) (by rw [List.length_append, ← hev, zer_len]; omega) (by rw [List.length_append, ← hev, zer_len]; omega), bnd_pure, hsp, put_at _ _ _ _ (by rw [num_len _ _ (by omega), zer_len]) hev]
    have hX : (s ++ pad s.length ++ numS big l.length 2).length = ev s.length + 2 := by rw [List.length_append, ← hev, num_len _ _ (by omega)]
    have := spec_loop (big := big) hl (fun e he => ⟨(hall e he).1, (vB_of hz he).1⟩) (G := dirS d big) (self := next) (fun e he h13 s' hs' => ih (d, big, s') (⟨s', big⟩, e.Value.Entries) ⟨rfl, (hall e he).2 h13, (vB_of hz he).2, hs'⟩ (by simp))
      (t17 := (((ev s.length : Nat) : Int), ⟨s ++ pad s.length ++ zer (2 + 12 * l.length + 4), big⟩)) (at_ := ev s.length) rfl l 0 (s ++ pad s.length ++ numS big l.length 2) [] (by omega) rfl (by rw [hX]) (by rw [hX, List.length_nil, Nat.add_zero]; omega)
    rw [List.append_nil] at this
    have hst : s ++ pad s.length ++ numS big l.length 2 ++ (zer (12 * l.length) ++ zer 4) = s ++ pad s.length ++ numS big l.length 2 ++ zer (12 * l.length) ++ zer 4 := by simp only [List.append_assoc]
    rw [hst, ← hsp]
    refine this.trans ?_
    rw [hX, List.length_nil, Nat.add_zero, List.append_nil]
    show some _ = some (_, (⟨s ++ dirB (dirS d big) big l s.length, big⟩ : T_tintref2_written))
    unfold dirB
    simp only [List.append_assoc]

theorem even_eq (p : Nat) (hp : p ≤ 4611686018427387904) : tag_even (p : Int) = some ((ev p : Nat) : Int) := by
  unfold tag_even ev
  have e : ((p : Int)).tmod 2 = ((p % 2 : Nat) : Int) := by rw [Int.tmod_eq_emod_of_nonneg (by omega)]; omega
  rw [gRem_ok (by omega), bnd_pure, e, gI_ok (by omega), bnd_pure]; rfl
theorem octetsOf_eq {v : T_tag_Value} (hb : vB v) (hok : okV v) (h13 : v.Kind ≠ 13) (big : Bool) : tag_octetsOf v = some ((octS big v).length : Int) := by
  unfold tag_octetsOf
  have h1 := octS_le big v
  have h2 := octS_len big hok h13
  obtain ⟨b1, b2, b3⟩ := hb
  rw [count_eq ⟨b1, b2, b3⟩, bnd_pure, sizeOf_eq, bnd_pure, if_neg h13, ← Int.natCast_mul, ← h2, gI_ok (by omega), bnd_pure]

theorem dirEnd_eq (big : Bool) (d : Nat) (l : List T_tag_Entry) (p : Nat) (hok : okD d l) (hz : szD d l ≤ 2000000) (hM : p + (dirS d big l p).length ≤ 1099511627776) :
    tag_dirEnd l (p : Int) = some (((p + (dirS d big l p).length : Nat)) : Int) := by
  unfold tag_dirEnd
  have := fix_ofG (F := fun (self : (List T_tag_Entry × Int) → Option Int) (s : List T_tag_Entry × Int) => tag_dirEnd_body self s.1 s.2)
    (fun (g : Nat × Nat) (a : List T_tag_Entry × Int) => some (((g.2 + (dirS g.1 big a.1 g.2).length : Nat)) : Int))
    (fun g a => a.2 = (g.2 : Int) ∧ okD g.1 a.1 ∧ szD g.1 a.1 ≤ 2000000 ∧ g.2 + (dirS g.1 big a.1 g.2).length ≤ 1099511627776) (fun g => g.1) ?_ (d, p) (l, (p : Int)) ⟨rfl, hok, hz, hM⟩
  · exact this
  rintro next ⟨d, p⟩ ⟨l, a⟩ ⟨hw, hok, hz, hM⟩ ih
  simp only at hw hok hz hM ih ⊢
  subst hw
  cases d with
  | zero => exact hok.elim
  | succ d =>
    obtain ⟨hl, hall⟩ := hok
    have hM' := dirB_len (dirS d big) big l p
    have hMM : p + (dirB (dirS d big) big l p).length ≤ 1099511627776 := hM
    unfold tag_dirEnd_body
    rw [even_eq p (by omega), bnd_pure, gI_ok (by omega), bnd_pure, gI_ok (by omega), bnd_pure, gI_ok (by omega), bnd_pure, gI_ok (by omega), bnd_pure]
    have key : ∀ (l2 : List T_tag_Entry) (i q : Nat), i + l2.length = l.length → l.drop i = l2 → q + (bods (dirS d big) big l2 q).2.length ≤ 1099511627776 → fix (fun next1 s => tag_dirEnd_l1 l next next1 s.1 s.2) ((q : Int), (i : Int)) = some (((q + (bods (dirS d big) big l2 q).2.length : Nat)) : Int) := by
      intro l2
      induction l2 with
      | nil =>
        intro i q hi _ _
        refine fix_done fun nx => ?_
        show tag_dirEnd_l1 l next nx (q : Int) (i : Int) = _
        unfold tag_dirEnd_l1
        rw [cI, if_neg (by rw [List.length_nil] at hi; omega)]
        rfl
      | cons e l2 ih2 =>
        intro i q hi hd hq
        have hlt : i < l.length := by rw [List.length_cons] at hi; omega
        have he : l[i] = e := by have := List.drop_eq_getElem_cons hlt; rw [hd] at this; injection this with h1 h2; exact h1.symm
        have hd' : l.drop (i + 1) = l2 := by have := List.drop_eq_getElem_cons hlt; rw [hd] at this; injection this with h1 h2; exact h2.symm
        have hmem : e ∈ l := he ▸ List.getElem_mem hlt
        have hvb := (vB_of hz hmem).1
        have hok := (hall e hmem).1
        rw [List.length_cons] at hi
        unfold bods at hq ⊢
        simp only at hq ⊢
        generalize hF : entF (dirS d big) big e q = F at hq ⊢
        obtain ⟨f, b⟩ := F
        simp only at hq ⊢
        rw [List.length_append] at hq ⊢
        have hround : ∀ nx : Int × Int → Option Int, tag_dirEnd_l1 l next nx (q : Int) (i : Int) = nx (((q + b.length : Nat) : Int), ((i + 1 : Nat) : Int)) := fun nx => by
          unfold tag_dirEnd_l1
          have e2 : ∀ x, tag_dirEnd_j2 (i : Int) nx x = nx (x, ((i + 1 : Nat) : Int)) := fun x => by
            unfold tag_dirEnd_j2; rw [gI_ok (by omega), bnd_pure]; rfl
          rw [cI, if_pos (by omega), gAt_nat hlt, bnd_pure, he, cI]
          unfold entF at hF
          by_cases h13 : e.Value.Kind = 13
          · rw [if_pos h13] at hF ⊢
            obtain ⟨_, hF2⟩ := Prod.mk.inj hF
            have := ih (d, q) (e.Value.Entries, (q : Int)) ⟨rfl, (hall e hmem).2 h13, (vB_of hz hmem).2, by show q + (dirS d big e.Value.Entries q).length ≤ _; rw [hF2]; omega⟩ (by simp)
            rw [this, bnd_pure, e2]
            show nx (((q + (dirS d big e.Value.Entries q).length : Nat) : Int), _) = _
            rw [hF2]
          · rw [if_neg h13] at hF ⊢
            rw [octetsOf_eq hvb hok h13 big, bnd_pure, cI, e2]
            by_cases ho : (octS big e.Value).length ≤ 4
            · rw [if_pos ho] at hF
              obtain ⟨_, hF2⟩ := Prod.mk.inj hF
              rw [if_neg (by omega), ← hF2]; rfl
            · rw [if_neg ho] at hF
              obtain ⟨_, hF2⟩ := Prod.mk.inj hF
              have hbl : b.length = q % 2 + (octS big e.Value).length := by rw [← hF2, List.length_append, pad_len]
              rw [if_pos (by omega), even_eq q (by omega), bnd_pure, bnd_pure, gI_ok (by unfold ev; omega), bnd_pure, e2, hbl]
              congr 2
              unfold ev; omega
        rw [fix_goto _ hround, ih2 (i + 1) (q + b.length) (by omega) hd' (by omega)]
        congr 2
        omega
    have := key l 0 (ev p + 2 + 12 * l.length + 4) (by omega) rfl (by omega)
    have e0 : ((ev p : Nat) : Int) + 2 + 12 * (l.length : Int) + 4 = ((ev p + 2 + 12 * l.length + 4 : Nat) : Int) := by omega
    rw [e0]
    refine this.trans ?_
    rw [← hM']
    rfl

/-! ### files -/

noncomputable def filS (big : Bool) : List (List T_tag_Entry) → List UInt8 → Nat → List UInt8
  | [], s, _ => s
  | l :: ls, s, link => filS big ls (put (s ++ dirS 5 big l s.length) link (numS big ((ev s.length : Nat) : Int) 4)) (ev s.length + 2 + 12 * l.length)
noncomputable def lenF (big : Bool) : List (List T_tag_Entry) → Nat → Nat
  | [], p => p
  | l :: ls, p => lenF big ls (p + (dirS 5 big l p).length)
def szL : List (List T_tag_Entry) → Nat
  | [] => 0
  | l :: ls => 8 + 32 * szD 5 l + szL ls
def dirsOk (ls : List (List T_tag_Entry)) : Prop := ∀ l ∈ ls, okD 5 l ∧ szD 5 l ≤ 2000000

theorem dir5_len {big : Bool} {l : List T_tag_Entry} {p : Nat} : ev p + 2 + 12 * l.length + 4 ≤ p + (dirS 5 big l p).length := by
  have := dirB_len (dirS 4 big) big l p
  show _ ≤ p + (dirB (dirS 4 big) big l p).length
  omega
theorem filS_len (big : Bool) : ∀ (ls : List (List T_tag_Entry)) (s : List UInt8) (link : Nat), link + 4 ≤ s.length → (filS big ls s link).length = lenF big ls s.length
  | [], _, _, _ => rfl
  | l :: ls, s, link, h => by
    unfold filS lenF
    have h5 := dir5_len (big := big) (l := l) (p := s.length)
    have hp : (put (s ++ dirS 5 big l s.length) link (numS big ((ev s.length : Nat) : Int) 4)).length = s.length + (dirS 5 big l s.length).length := by
      rw [put_len (by rw [num_len _ _ (by omega), List.length_append]; omega), List.length_append]
    rw [filS_len big ls _ _ (by rw [hp]; omega), hp]
theorem lenF_le (big : Bool) : ∀ (ls : List (List T_tag_Entry)) (p : Nat), lenF big ls p ≤ p + szL ls
  | [], p => Nat.le_refl _
  | l :: ls, p => by
    unfold lenF szL
    have := lenF_le big ls (p + (dirS 5 big l p).length)
    have := dirS_le big 5 l p
    omega

theorem oct_loop (f : T_tag_File) (hok : dirsOk f.Dirs) (hn : f.Dirs.length ≤ 20) : ∀ (ls : List (List T_tag_Entry)) (i : Nat) (s : List UInt8) (link : Nat), i + ls.length = f.Dirs.length → f.Dirs.drop i = ls → link + 4 ≤ s.length → s.length + szL ls ≤ 549755813888 →
    fix (fun next3 a => R_Octets_l3 f next3 a.1 a.2.1 a.2.2.1 a.2.2.2) ((link : Int), (i : Int), s, f.Big) = some (filS f.Big ls s link) ∧ fix (fun next3 a => tag_written_l3 f next3 a.1 a.2.1 a.2.2.1 a.2.2.2) ((link : Int), (i : Int), f.Big, ofStr s) = some (filS f.Big ls s link) := by
  intro ls
  induction ls with
  | nil =>
    intro i s link hi _ _ _
    rw [List.length_nil] at hi
    refine ⟨fix_done fun next => ?_, fix_done fun next => ?_⟩
    · show R_Octets_l3 f next _ (i : Int) s f.Big = _
      unfold R_Octets_l3
      rw [cI, if_neg (by omega)]; rfl
    · show tag_written_l3 f next _ (i : Int) f.Big (ofStr s) = _
      unfold tag_written_l3
      rw [cI, if_neg (by omega)]
      unfold tag_written_j2 filS
      rw [toStr_ofStr]
  | cons l ls ih =>
    intro i s link hi hd hlk hsz
    rw [List.length_cons] at hi
    have hlt : i < f.Dirs.length := by omega
    have he : f.Dirs[i] = l := by have := List.drop_eq_getElem_cons hlt; rw [hd] at this; injection this with h1 h2; exact h1.symm
    have hd' : f.Dirs.drop (i + 1) = ls := by have := List.drop_eq_getElem_cons hlt; rw [hd] at this; injection this with h1 h2; exact h2.symm
    obtain ⟨o1, o2⟩ := hok l (he ▸ List.getElem_mem hlt)
    unfold szL at hsz
    have hle := dirS_le f.Big 5 l s.length
    have h5 := dir5_len (big := f.Big) (l := l) (p := s.length)
    have hl200 : l.length ≤ 200 := o1.1
    have hp : (put (s ++ dirS 5 f.Big l s.length) link (numS f.Big ((ev s.length : Nat) : Int) 4)).length = s.length + (dirS 5 f.Big l s.length).length := by
      rw [put_len (by rw [num_len _ _ (by omega), List.length_append]; omega), List.length_append]
    obtain ⟨a1, a2⟩ := ih (i + 1) (put (s ++ dirS 5 f.Big l s.length) link (numS f.Big ((ev s.length : Nat) : Int) 4)) (ev s.length + 2 + 12 * l.length) (by omega) hd' (by rw [hp]; omega) (by rw [hp]; omega)
    have hev : ev s.length ≤ s.length + 1 := by unfold ev; omega
    refine ⟨?_, ?_⟩
    · refine Eq.trans (fix_goto _ fun next => ?_) a1
      show R_Octets_l3 f next (link : Int) (i : Int) s f.Big = _
      unfold R_Octets_l3
      rw [cI, if_pos (by omega), gAt_nat hlt, bnd_pure, he, R_dir_eq 5 f.Big s l o1 o2 (by omega), bnd_pure]
      show bnd (R_written_set ⟨s ++ dirS 5 f.Big l s.length, f.Big⟩ _ _ 4) _ = _
      rw [R_set_eq (p := link) (k := 4) (k' := 4) rfl rfl (by omega) (by rw [List.length_append]; omega) (by rw [List.length_append]; omega), bnd_pure]
      show bnd (gI (((ev s.length : Nat) : Int) + 2)) _ = _
      rw [gI_ok (by omega), bnd_pure, gI_ok (by omega), bnd_pure, gI_ok (by omega), bnd_pure, gI_ok (by omega), bnd_pure]
      rfl
    · refine Eq.trans (fix_goto _ fun next => ?_) a2
      show tag_written_l3 f next (link : Int) (i : Int) f.Big (ofStr s) = _
      unfold tag_written_l3
      rw [cI, if_pos (by omega), gAt_nat hlt, bnd_pure, he, dir_eq 5 f.Big s l o1 o2 (by omega), bnd_pure]
      show bnd (tag_writer_set ⟨f.Big, ofStr (s ++ dirS 5 f.Big l s.length)⟩ _ _) _ = _
      rw [set_eq4 (p := link) rfl (by rw [List.length_append]; omega), bnd_pure, gI_ok (by omega), bnd_pure]
      rfl

noncomputable def headS (big : Bool) : List UInt8 := (if big then [77, 77] else [73, 73]) ++ numS big 42 2 ++ zer 4
theorem headS_len (big : Bool) : (headS big).length = 8 := by
  unfold headS
  rw [List.length_append, List.length_append, num_len _ _ (by omega), zer_len]
  cases big <;> rfl
noncomputable def octF (f : T_tag_File) : List UInt8 := filS f.Big f.Dirs (headS f.Big) 4
theorem octF_len (f : T_tag_File) : (octF f).length = lenF f.Big f.Dirs 8 := by
  unfold octF; rw [filS_len _ _ _ _ (by rw [headS_len]; omega), headS_len]

theorem Octets_eq {f : T_tag_File} (hok : dirsOk f.Dirs) (hn : f.Dirs.length ≤ 20) (hsz : szL f.Dirs ≤ 274877906944) : R_Octets f = some (octF f) := by
  have key : ∀ m : List UInt8, m.length = 2 → m ++ numS f.Big 42 2 ++ zer 4 = headS f.Big → R_Octets_j1 f m = some (octF f) := fun m hm hh => by
    unfold R_Octets_j1
    have hz : numS f.Big 0 4 = zer 4 := num_zero f.Big (by omega)
    rw [R2, bnd_pure, R4, bnd_pure, hz, gCat_ok (by rw [num_len _ _ (by omega), zer_len]; omega), bnd_pure, gCat_ok (by rw [List.length_append, num_len _ _ (by omega), zer_len]; omega), bnd_pure, ← List.append_assoc, hh]
    exact (oct_loop f hok hn f.Dirs 0 (headS f.Big) 4 (by omega) rfl (by rw [headS_len]; omega) (by rw [headS_len]; omega)).1
  unfold R_Octets
  cases h : f.Big
  · rw [cnd_false, key [73, 73] rfl (by rw [h]; rfl)]
  · rw [cnd_true, key [77, 77] rfl (by rw [h]; rfl)]
theorem written_eq {f : T_tag_File} (hok : dirsOk f.Dirs) (hn : f.Dirs.length ≤ 20) (hsz : szL f.Dirs ≤ 274877906944) : tag_written f = some (octF f) := by
  have key : ∀ m : List UInt8, m.length = 2 → m ++ numS f.Big 42 2 ++ zer 4 = headS f.Big → tag_written_j1 f (ofStr m) = some (octF f) := fun m hm hh => by
    unfold tag_written_j1
    have l2 : (ofStr (numS f.Big 42 2)).length = 2 := by rw [ofStr_len, num_len _ _ (by omega)]
    rw [tag2, bnd_pure, gApN_ok (by rw [l2, ofStr_len, hm]; omega), bnd_pure, gApp_ok (by rw [List.length_append, l2, ofStr_len, hm]; simp), bnd_pure, ← ofStr_app, ← ofStr_zer4, ← ofStr_app, hh, ofStr_len, List.length_append, hm, num_len _ _ (by omega)]
    exact (oct_loop f hok hn f.Dirs 0 (headS f.Big) 4 (by omega) rfl (by rw [headS_len]; omega) (by rw [headS_len]; omega)).2
  unfold tag_written
  cases h : f.Big
  · rw [cnd_false, show ([73, 73] : List Int) = ofStr [73, 73] from rfl, key [73, 73] rfl (by rw [h]; rfl)]
  · rw [cnd_true, show ([77, 77] : List Int) = ofStr [77, 77] from rfl, key [77, 77] rfl (by rw [h]; rfl)]
theorem size_eq {f : T_tag_File} (hok : dirsOk f.Dirs) (hn : f.Dirs.length ≤ 20) (hsz : szL f.Dirs ≤ 274877906944) : tag_size f = some ((octF f).length : Int) := by
  rw [octF_len]
  unfold tag_size
  have key : ∀ (ls : List (List T_tag_Entry)) (i p : Nat), i + ls.length = f.Dirs.length → f.Dirs.drop i = ls → p + szL ls ≤ 549755813888 → fix (fun next1 s => tag_size_l1 f next1 s.1 s.2) ((p : Int), (i : Int)) = some (lenF f.Big ls p : Int) := by
    intro ls
    induction ls with
    | nil =>
      intro i p hi _ _
      rw [List.length_nil] at hi
      refine fix_done fun next => ?_
      show tag_size_l1 f next (p : Int) (i : Int) = _
      unfold tag_size_l1
      rw [cI, if_neg (by omega)]; rfl
    | cons l ls ih =>
      intro i p hi hd hs
      rw [List.length_cons] at hi
      have hlt : i < f.Dirs.length := by omega
      have he : f.Dirs[i] = l := by have := List.drop_eq_getElem_cons hlt; rw [hd] at this; injection this with h1 h2; exact h1.symm
      have hd' : f.Dirs.drop (i + 1) = ls := by have := List.drop_eq_getElem_cons hlt; rw [hd] at this; injection this with h1 h2; exact h2.symm
      obtain ⟨o1, o2⟩ := hok l (he ▸ List.getElem_mem hlt)
      unfold szL at hs
      have hle := dirS_le f.Big 5 l p
      refine Eq.trans (fix_goto (((p + (dirS 5 f.Big l p).length : Nat) : Int), ((i + 1 : Nat) : Int)) fun next => ?_) (ih (i + 1) (p + (dirS 5 f.Big l p).length) (by omega) hd' (by omega))
      show tag_size_l1 f next (p : Int) (i : Int) = _
      unfold tag_size_l1
      rw [cI, if_pos (by omega), gAt_nat hlt, bnd_pure, he, dirEnd_eq f.Big 5 l p o1 o2 (by omega), bnd_pure, gI_ok (by omega), bnd_pure]
      rfl
  exact key f.Dirs 0 8 (by omega) rfl (by omega)

/-! ### files checked -/

noncomputable def firstD : List (List T_tag_Entry) → Int
  | [] => 0
  | l :: ls => if dE 5 l ≠ 0 then dE 5 l else firstD ls
theorem firstD_ok : ∀ {ls : List (List T_tag_Entry)}, firstD ls = 0 → ∀ l ∈ ls, dE 5 l = 0
  | [], _, l, hl => by cases hl
  | x :: ls, h, l, hl => by
    unfold firstD at h
    split at h
    · rename_i h1; exact absurd h h1
    · rename_i h1
      rcases List.mem_cons.1 hl with h' | h'
      · subst h'; simpa using h1
      · exact firstD_ok h l h'
theorem scan_dirs {F : (Int → Option Int) → Int → Option Int} (ls : List (List T_tag_Entry)) (o : Option Int) (more : ∀ (next : Int → Option Int) (k : Nat) (hk : k < ls.length), F next (k : Int) = if dE 5 ls[k] ≠ 0 then some (dE 5 ls[k]) else next ((k : Int) + 1)) (stop : firstD ls = 0 → ∀ next, F next (ls.length : Int) = o) :
    fix F 0 = if firstD ls ≠ 0 then some (firstD ls) else o := by
  have key : ∀ m i : Nat, i + m = ls.length → (firstD ls = firstD (ls.drop i)) → fix F (i : Int) = if firstD ls ≠ 0 then some (firstD ls) else o := by
    intro m
    induction m with
    | zero =>
      intro i hi hf
      have : i = ls.length := by omega
      subst this
      rw [List.drop_length] at hf
      have h0 : firstD ls = 0 := hf
      rw [if_neg (by simpa using h0)]
      exact fix_done (stop h0)
    | succ m ih =>
      intro i hi hf
      have hlt : i < ls.length := by omega
      rw [List.drop_eq_getElem_cons hlt] at hf
      unfold firstD at hf
      by_cases h : dE 5 ls[i] ≠ 0
      · rw [if_pos h] at hf
        have : fix F (i : Int) = some (dE 5 ls[i]) := fix_done fun next => by rw [more next i hlt, if_pos h]
        have hf' : firstD ls = dE 5 ls[i] := by unfold firstD; exact hf
        rw [this, hf', if_pos h]
      · rw [if_neg h] at hf
        rw [fix_goto ((i : Int) + 1) (fun next => by rw [more next i hlt, if_neg h])]
        exact ih (i + 1) (by omega) (by conv => lhs; unfold firstD
                                        exact hf)
  exact key ls.length 0 (by omega) rfl

/-- What a file must be for all that follows: not too great. -/
def fileB (f : T_tag_File) : Prop := (∀ l ∈ f.Dirs, szD 5 l ≤ 2000000) ∧ szL f.Dirs ≤ 274877906944
noncomputable def fileE (f : T_tag_File) : Int := if 20 < f.Dirs.length then 4 else if firstD f.Dirs ≠ 0 then firstD f.Dirs else if 65000 < (octF f).length then 4 else 0

theorem dirs_ok {f : T_tag_File} (hb : fileB f) (h : firstD f.Dirs = 0) : dirsOk f.Dirs := fun l hl => ⟨dE_ok (firstD_ok h l hl), hb.1 l hl⟩

theorem Check_eq {f : T_tag_File} (hb : fileB f) : tag_Check f = some (fileE f) := by
  unfold tag_Check fileE
  rw [cI]
  by_cases hn : 20 < f.Dirs.length
  · rw [if_pos (by omega), if_pos hn]
  rw [if_neg (by omega), if_neg hn]
  rw [scan_dirs (F := fun next2 s => tag_Check_l2 f next2 s) f.Dirs (some (if 65000 < (octF f).length then 4 else 0)) (fun next k hk => ?_) (fun h0 next => ?_)]
  · split <;> rfl
  · show tag_Check_l2 f next (k : Int) = _
    unfold tag_Check_l2
    rw [cI, if_pos (by omega), gAt_nat hk, bnd_pure, checkDir_eq 5 _ 1 (by omega) (by omega) (hb.1 _ (List.getElem_mem hk)), bnd_pure, cI, gI_ok (by omega), bnd_pure]
  · show tag_Check_l2 f next (f.Dirs.length : Int) = _
    unfold tag_Check_l2
    rw [cI, if_neg (by omega)]
    unfold tag_Check_j1
    rw [size_eq (dirs_ok hb h0) (by omega) hb.2, bnd_pure, cI]
    by_cases h : 65000 < (octF f).length
    · rw [if_pos (by omega), if_pos h]
    · rw [if_neg (by omega), if_neg h]
theorem FileFault_eq {f : T_tag_File} (hb : fileB f) : R_FileFault f = some (fileE f) := by
  unfold R_FileFault fileE
  rw [cI]
  by_cases hn : 20 < f.Dirs.length
  · rw [if_pos (by omega), if_pos hn]
  rw [if_neg (by omega), if_neg hn]
  rw [scan_dirs (F := fun next2 s => R_FileFault_l2 f next2 s) f.Dirs (some (if 65000 < (octF f).length then 4 else 0)) (fun next k hk => ?_) (fun h0 next => ?_)]
  · split <;> rfl
  · show R_FileFault_l2 f next (k : Int) = _
    unfold R_FileFault_l2
    rw [cI, if_pos (by omega), gAt_nat hk, bnd_pure, dirFault_eq 5 _ 1 (by omega) (by omega) (hb.1 _ (List.getElem_mem hk)), bnd_pure, cI, gI_ok (by omega), bnd_pure]
  · show R_FileFault_l2 f next (f.Dirs.length : Int) = _
    unfold R_FileFault_l2
    rw [cI, if_neg (by omega)]
    unfold R_FileFault_j1
    rw [Octets_eq (dirs_ok hb h0) (by omega) hb.2, bnd_pure, cI]
    by_cases h : 65000 < (octF f).length
    · rw [if_pos (by omega), if_pos h]
    · rw [if_neg (by omega), if_neg h]

theorem fileE_zero {f : T_tag_File} (hb : fileB f) (h : fileE f = 0) : dirsOk f.Dirs ∧ f.Dirs.length ≤ 20 := by
  unfold fileE at h
  split at h
  · omega
  rename_i hn
  split at h
  · rename_i h1; exact absurd h h1
  · rename_i h1; exact ⟨dirs_ok hb (by simpa using h1), by omega⟩
theorem told_str {v w : List UInt8} {e f : Int} (h0 : f = 0 → v = w) (h1 : f ≠ 0 → v = []) (he : e = f) : Law_told_string v e w f = some true := by
  subst he
  have key : Law_told_string_j1 v e e v = some true := by
    unfold Law_told_string_j1; simp [cnd]
  unfold Law_told_string
  rw [cI]
  by_cases h : e ≠ 0
  · rw [if_pos h]; have := h1 h; subst this; exact key
  · rw [if_neg h, ← h0 (by simpa using h)]; exact key
theorem told_int {v w e f : Int} (h0 : f = 0 → v = w) (h1 : f ≠ 0 → v = 0) (he : e = f) : Law_told_int v e w f = some true := by
  subst he
  have key : Law_told_int_j1 v e e v = some true := by
    unfold Law_told_int_j1; simp [cnd]
  unfold Law_told_int
  rw [cI]
  by_cases h : e ≠ 0
  · rw [if_pos h]; have := h1 h; subst this; exact key
  · rw [if_neg h, ← h0 (by simpa using h)]; exact key

theorem tagWrites_j1 {f : T_tag_File} (hb : fileB f) (x : List UInt8) (hx : fileE f = 0 → x = octF f) : Law_TagWrites_j1 f (fileE f) x = some true := by
  unfold Law_TagWrites_j1 tag_Size tag_Write
  rw [Check_eq hb, bnd_pure, bnd_pure, cI, cI]
  by_cases h : fileE f = 0
  · obtain ⟨o1, o2⟩ := fileE_zero hb h
    rw [if_neg (by simpa using h), if_neg (by simpa using h), size_eq o1 o2 hb.2, bnd_pure, bnd_pure, written_eq o1 o2 hb.2, bnd_pure, bnd_pure, bnd_pure, cI, if_pos rfl, told_int (fun _ => by rw [hx h]) (fun e => absurd h e) h.symm, bnd_pure, cnd_true, told_str (fun _ => (hx h).symm) (fun e => absurd h e) h.symm, bnd_pure]
  · rw [if_pos h, if_pos h, bnd_pure, bnd_pure, bnd_pure, cI, if_pos rfl, told_int (fun e => absurd e h) (fun _ => rfl) rfl, bnd_pure, cnd_true, told_str (fun e => absurd e h) (fun _ => rfl) rfl, bnd_pure]

theorem tagWrites_all {f : T_tag_File} (hb : fileB f) : Law_TagWrites f = some true := by
  unfold Law_TagWrites
  rw [FileFault_eq hb, bnd_pure, cI]
  by_cases h : fileE f = 0
  · obtain ⟨o1, o2⟩ := fileE_zero hb h
    rw [if_pos h, Octets_eq o1 o2 hb.2, bnd_pure, tagWrites_j1 hb _ fun _ => rfl]
  · rw [if_neg h, tagWrites_j1 hb _ fun e => absurd e h]
theorem szL_eq : ∀ ls : List (List T_tag_Entry), szL ls = 8 * ls.length + 32 * (ls.map (szD 5)).sum
  | [] => rfl
  | l :: ls => by unfold szL; rw [szL_eq ls, List.map_cons, List.sum_cons, List.length_cons]; omega
theorem sz_in {l : List T_tag_Entry} : ∀ {ls : List (List T_tag_Entry)}, l ∈ ls → szD 5 l ≤ (ls.map (szD 5)).sum
  | [], h => by cases h
  | x :: ls, h => by
    rw [List.map_cons, List.sum_cons]
    rcases List.mem_cons.1 h with h | h
    · subst h; omega
    · have := sz_in h; omega
theorem fileB_of {f : T_tag_File} (h1 : f.Dirs.length ≤ 1048576) (h2 : (f.Dirs.map (szD 5)).sum ≤ 1048576) : fileB f :=
  ⟨fun l hl => by have := sz_in hl; omega, by rw [szL_eq]; omega⟩
theorem tagWritesS (f : T_tag_File) (hb : fileB f) : Law_TagWrites f = some true := tagWrites_all hb
end Go.M
