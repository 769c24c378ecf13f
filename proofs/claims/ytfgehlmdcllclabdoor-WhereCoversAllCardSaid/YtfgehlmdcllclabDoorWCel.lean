/- WhereCells: what the models of cells compute, and the law. Conditions: none. -/
import Derived.Test.YtfgehlmdcllclabDoorWPc
import Derived.Test.YtfgehlmdcllclabDoorPl2
namespace Go.M
open Go.Md Go.Pl Go.Vc.Where

/-- A loop that goes a known way. -/
theorem fix_path {α ρ : Type} {F : (α → Option ρ) → α → Option ρ} {o : Option ρ} (st : Nat → α) (n : Nat) (more : ∀ k, k < n → ∀ next, F next (st k) = next (st (k + 1))) (stop : ∀ next, F next (st n) = o) : fix F (st 0) = o := by
  have key : ∀ m, m ≤ n → fix F (st (n - m)) = o := by
    intro m
    induction m with
    | zero => intro _; exact fix_done stop
    | succ m ih =>
      intro h
      rw [fix_goto (b := st (n - (m + 1) + 1)) (more _ (by omega)), show n - (m + 1) + 1 = n - m from by omega]
      exact ih (by omega)
  simpa using key n (Nat.le_refl _)

/-! ### strings.Trim of digits -/

def dig (c : UInt8) : Prop := 48 ≤ c.toNat ∧ c.toNat ≤ 51
def digS : Nat → Bool := setA (setA (setA (setA (fun _ => false) 48 true) 49 true) 50 true) 51 true

theorem set_step (k : Nat) (hk : k < 4) (next : Int × (Nat → Bool) → Option ((Nat → Bool) × Bool)) (m : Nat → Bool) : strings_makeASCIISet_l2 [48, 49, 50, 51] next (k : Int) m = next ((k + 1 : Nat), setA m (48 + k) true) := by
  have e1 : gOct [48, 49, 50, 51] (k : Int) = some ((48 + k : Nat) : Int) := by
    rw [gOct_nat hk]
    rcases (by omega : k = 0 ∨ k = 1 ∨ k = 2 ∨ k = 3) with rfl | rfl | rfl | rfl <;> rfl
  unfold strings_makeASCIISet_l2
  rw [cnd_if, if_pos (by simp; omega), e1, bnd_pure, cnd_if, if_neg (by omega), gIx_nat (by omega), bnd_pure, gI_ok (by omega), bnd_pure]
  rfl
def setN : Nat → Nat → Bool
  | 0 => fun _ => false
  | k + 1 => setA (setN k) (48 + k) true
theorem set_eq : strings_makeASCIISet [48, 49, 50, 51] = some (digS, true) := by
  unfold strings_makeASCIISet
  refine fix_path (fun k => ((k : Int), setN k)) 4 (fun k hk next => set_step k hk next _) (fun _ => ?_)
  unfold strings_makeASCIISet_l2
  rw [cnd_if, if_neg (by decide)]; rfl

theorem has_eq (c : UInt8) : strings_asciiSet_contains digS (c.toNat : Int) = some (decide (48 ≤ c.toNat ∧ c.toNat ≤ 51), digS) := by
  have hc := c.toNat_lt
  unfold strings_asciiSet_contains
  rw [gIx_nat (by omega), bnd_pure]
  congr 2
  unfold digS setA
  by_cases h1 : c.toNat = 51 <;> by_cases h2 : c.toNat = 50 <;> by_cases h3 : c.toNat = 49 <;> by_cases h4 : c.toNat = 48 <;> simp [h1, h2, h3, h4] <;> omega

theorem trimR (s : List UInt8) (hs : s.length ≤ 1000) : ∃ r : List UInt8 × (Nat → Bool), strings_trimRightASCII s digS = some r ∧ ∃ suf, s = r.1 ++ suf ∧ (∀ c ∈ suf, dig c) ∧ r.2 = digS := by
  unfold strings_trimRightASCII
  refine fix_run (fun a => ∃ suf, s = a.1 ++ suf ∧ (∀ c ∈ suf, dig c) ∧ a.2 = digS) (fun a => a.1.length) (fun (r : List UInt8 × (Nat → Bool)) => ∃ suf, s = r.1 ++ suf ∧ (∀ c ∈ suf, dig c) ∧ r.2 = digS) ?_ (s, digS) ⟨[], by simp, by simp, rfl⟩
  rintro ⟨x, m⟩ ⟨suf, h1, h2, h3⟩
  simp only at h1 h3
  subst h3
  have hl : x.length ≤ 1000 := by have := congrArg List.length h1; rw [List.length_append] at this; omega
  rcases List.eq_nil_or_concat x with rfl | ⟨ini, c, rfl⟩
  · exact .inl ⟨([], digS), ⟨suf, h1, h2, rfl⟩, fun _ => rfl⟩
  · simp only [List.concat_eq_append, List.length_append, List.length_singleton] at *
    have e1 : gI (((ini.length + 1 : Nat) : Int) - 1) = some (ini.length : Int) := by rw [gI_ok (by omega)]; congr 1; omega
    have e2 : gOct (ini ++ [c]) (ini.length : Int) = some (c.toNat : Int) := by rw [gOct_nat (by simp)]; simp
    have e3 : gCut (ini ++ [c]) 0 (ini.length : Int) = some ini := by rw [gCut_to (by simp; omega)]; simp
    have key : ∀ next, strings_trimRightASCII_l1 next (ini ++ [c]) digS = if 48 ≤ c.toNat ∧ c.toNat ≤ 51 then next (ini, digS) else some (ini ++ [c], digS) := by
      intro next
      unfold strings_trimRightASCII_l1
      rw [List.length_append, List.length_singleton, cnd_if, if_pos (by omega), e1, bnd_pure, e2, bnd_pure, has_eq, bnd_pure, bnd_pure, e3, bnd_pure]
      by_cases hd : 48 ≤ c.toNat ∧ c.toNat ≤ 51
      · rw [if_pos hd]; simp [hd]
      · rw [if_neg hd]; simp [hd]
    by_cases hd : 48 ≤ c.toNat ∧ c.toNat ≤ 51
    · refine .inr ⟨(ini, digS), ⟨c :: suf, by rw [h1]; simp, fun d hd' => ?_, rfl⟩, by simp, fun next => (key next).trans (if_pos hd)⟩
      rcases List.mem_cons.1 hd' with rfl | h
      · exact hd
      · exact h2 d h
    · exact .inl ⟨(ini ++ [c], digS), ⟨suf, h1, h2, rfl⟩, fun next => (key next).trans (if_neg hd)⟩

theorem trimL (s : List UInt8) (hs : s.length ≤ 1000) : ∃ r : List UInt8 × (Nat → Bool), strings_trimLeftASCII s digS = some r ∧ ∃ pre, s = pre ++ r.1 ∧ (∀ c ∈ pre, dig c) ∧ r.2 = digS := by
  unfold strings_trimLeftASCII
  refine fix_run (fun a => ∃ pre, s = pre ++ a.1 ∧ (∀ c ∈ pre, dig c) ∧ a.2 = digS) (fun a => a.1.length) (fun (r : List UInt8 × (Nat → Bool)) => ∃ pre, s = pre ++ r.1 ∧ (∀ c ∈ pre, dig c) ∧ r.2 = digS) ?_ (s, digS) ⟨[], by simp, by simp, rfl⟩
  rintro ⟨x, m⟩ ⟨pre, h1, h2, h3⟩
  simp only at h1 h3
  subst h3
  cases x with
  | nil => exact .inl ⟨([], digS), ⟨pre, h1, h2, rfl⟩, fun _ => rfl⟩
  | cons c x =>
    have e2 : gOct (c :: x) 0 = some (c.toNat : Int) := by rw [gOct_ok (by omega) (by simp)]; rfl
    have e3 : gCut (c :: x) 1 ((c :: x).length : Nat) = some x := by rw [gCut_from (by rw [List.length_cons]; omega)]; rfl
    have key : ∀ next, strings_trimLeftASCII_l1 next (c :: x) digS = if 48 ≤ c.toNat ∧ c.toNat ≤ 51 then next (x, digS) else some (c :: x, digS) := by
      intro next
      unfold strings_trimLeftASCII_l1
      rw [cnd_if, if_pos (by rw [List.length_cons]; omega), e2, bnd_pure, has_eq, bnd_pure, e3, bnd_pure]
      by_cases hd : 48 ≤ c.toNat ∧ c.toNat ≤ 51
      · rw [if_pos hd]; simp [hd]
      · rw [if_neg hd]; simp [hd]
    by_cases hd : 48 ≤ c.toNat ∧ c.toNat ≤ 51
    · refine .inr ⟨(x, digS), ⟨pre ++ [c], by rw [h1]; simp, fun d hd' => ?_, rfl⟩, by simp, fun next => (key next).trans (if_pos hd)⟩
      rcases List.mem_append.1 hd' with h | h
      · exact h2 d h
      · rw [List.mem_singleton.1 h]; exact hd
    · exact .inl ⟨(c :: x, digS), ⟨pre, h1, h2, rfl⟩, fun next => (key next).trans (if_neg hd)⟩

theorem trim_ok (s : List UInt8) (hs : s.length ≤ 1000) : ∃ r, strings_Trim s [48, 49, 50, 51] = some r ∧ (r = [] → ∀ c ∈ s, dig c) := by
  unfold strings_Trim
  by_cases h0 : s = []
  · subst h0; exact ⟨[], rfl, by simp⟩
  · rw [cnd_if, if_neg h0]
    obtain ⟨r, hr, suf, h1, h2, h3⟩ := trimR s hs
    have hl : r.1.length ≤ 1000 := by have := congrArg List.length h1; rw [List.length_append] at this; omega
    obtain ⟨q, hq, pre, k1, k2, _⟩ := trimL r.1 hl
    refine ⟨q.1, ?_, fun h c hc => ?_⟩
    · show strings_Trim_j1 s [48, 49, 50, 51] = _
      unfold strings_Trim_j1
      rw [set_eq, bnd_pure, cnd_true, hr, bnd_pure, h3, hq, bnd_pure]
    · rw [h1, k1, h] at hc
      simp only [List.append_nil, List.mem_append] at hc
      rcases hc with h | h
      · exact k2 c h
      · exact h2 c h

/-! ### quarters of boxes -/

def BB (b : T_where_Box) : Prop := (-90000000 ≤ b.South ∧ b.North ≤ 90000000 ∧ b.South ≤ b.North + 1) ∧ -180000000 ≤ b.West ∧ b.East ≤ 179999999 ∧ b.West ≤ b.East + 1
def midS (b : T_where_Box) : Int := b.South + (b.North - b.South + 1) / 2
def midW (b : T_where_Box) : Int := b.West + (b.East - b.West + 1) / 2
def partP (b : T_where_Box) (d : Int) : T_where_Box := ⟨if d < 2 then b.South else midS b, if d % 2 = 0 then b.West else midW b, if d < 2 then midS b - 1 else b.North, if d % 2 = 0 then midW b - 1 else b.East⟩
def wholeB : T_where_Box := ⟨-90000000, -180000000, 90000000, 179999999⟩
theorem BB_whole : BB wholeB := by unfold BB wholeB; dsimp only; omega

theorem quarter_eq {b : T_where_Box} (hb : BB b) {d : Int} (hd : 0 ≤ d ∧ d ≤ 3) : where_Box_quarter b d = some (partP b d) := by
  obtain ⟨⟨h1, h2, h3⟩, h4, h5, h6⟩ := hb
  have hs : midS b = b.South + (b.North - b.South + 1) / 2 := rfl
  have hw : midW b = b.West + (b.East - b.West + 1) / 2 := rfl
  unfold where_Box_quarter
  rw [gI_ok (by omega), bnd_pure, gI_ok (by omega), bnd_pure, gQuo_nn (by omega) (by omega), bnd_pure, gI_ok (by omega), bnd_pure, gI_ok (by omega), bnd_pure, gI_ok (by omega), bnd_pure, gQuo_nn (by omega) (by omega), bnd_pure, gI_ok (by omega), bnd_pure, ← hs, ← hw, cnd_if]
  unfold where_Box_quarter_j1 where_Box_quarter_j2 partP
  rw [gRem_nn (by omega) hd.1]
  simp only [gI_ok (show -9223372036854775808 ≤ midW b - 1 ∧ midW b - 1 ≤ 9223372036854775807 by omega), gI_ok (show -9223372036854775808 ≤ midS b - 1 ∧ midS b - 1 ≤ 9223372036854775807 by omega), bnd_pure, cnd_if]
  by_cases g1 : 2 ≤ d <;> by_cases g2 : d % 2 = 1
  · rw [if_pos g1, if_pos g2, if_neg (by omega), if_neg (by omega), if_neg (by omega), if_neg (by omega)]
  · rw [if_pos g1, if_neg g2, if_neg (by omega), if_pos (by omega), if_neg (by omega), if_pos (by omega)]
  · rw [if_neg g1, if_pos g2, if_pos (by omega), if_neg (by omega), if_pos (by omega), if_neg (by omega)]
  · rw [if_neg g1, if_neg g2, if_pos (by omega), if_pos (by omega), if_pos (by omega), if_pos (by omega)]

theorem BB_part {b : T_where_Box} (hb : BB b) (d : Int) : BB (partP b d) := by
  obtain ⟨⟨h1, h2, h3⟩, h4, h5, h6⟩ := hb
  have hs : midS b = b.South + (b.North - b.South + 1) / 2 := rfl
  have hw : midW b = b.West + (b.East - b.West + 1) / 2 := rfl
  unfold BB partP
  refine ⟨?_, ?_⟩
  · dsimp only; by_cases g : d < 2
    · rw [if_pos g, if_pos g]; omega
    · rw [if_neg g, if_neg g]; omega
  · dsimp only; by_cases g : d % 2 = 0
    · rw [if_pos g, if_pos g]; omega
    · rw [if_neg g, if_neg g]; omega

/-! ### BoxOf -/

def dg (s : List UInt8) (k : Nat) : Int := ((s.getD k 0).toNat : Int) - 48
theorem dg_in {s : List UInt8} (h : ∀ c ∈ s, dig c) {k : Nat} (hk : k < s.length) : (0 ≤ dg s k ∧ dg s k ≤ 3) ∧ gOct s (k : Int) = some (48 + dg s k) := by
  have e : s.getD k 0 = s[k] := by rw [List.getD_eq_getElem?_getD, List.getElem?_eq_getElem hk]; rfl
  have hd := h s[k] (List.getElem_mem hk)
  unfold dig at hd
  unfold dg
  rw [e, gOct_nat hk]
  exact ⟨by omega, by congr 1; omega⟩

def bx (s : List UInt8) : Nat → T_where_Box
  | 0 => wholeB
  | k + 1 => partP (bx s k) (dg s k)
theorem BB_bx (s : List UInt8) (k : Nat) : BB (bx s k) := by
  cases k with
  | zero => exact BB_whole
  | succ k => exact BB_part (BB_bx s k) _

theorem BoxOf_eq (s : List UInt8) {f : Int} (hf : where_checkCell s = some f) (hd : f = 0 → s.length ≤ 24 ∧ ∀ c ∈ s, dig c) : where_BoxOf s = some (if f = 0 then bx s s.length else ⟨0, 0, 0, 0⟩, f) := by
  unfold where_BoxOf
  rw [hf, bnd_pure, cnd_if]
  by_cases h0 : f = 0
  · obtain ⟨hl, h⟩ := hd h0
    rw [if_neg (by simpa using h0), if_pos h0]
    show bnd (some wholeB) _ = _
    rw [bnd_pure]
    refine fix_path (fun k => ((k : Int), (bx s k).South, (bx s k).West, (bx s k).North, (bx s k).East)) s.length ?_ ?_
    · intro k hk next
      obtain ⟨hd, ho⟩ := dg_in h hk
      show where_BoxOf_l2 s next (k : Int) _ _ _ _ = _
      unfold where_BoxOf_l2
      have e : wU8 (48 + dg s k - 48) = dg s k := by rw [wU8_in (by omega)]; omega
      rw [cnd_if, if_pos (by omega), ho, bnd_pure, e, gK_ok (by omega), bnd_pure, quarter_eq (BB_bx s k) hd, bnd_pure, gI_ok (by omega), bnd_pure]
      rfl
    · intro next
      show where_BoxOf_l2 s next (s.length : Int) _ _ _ _ = _
      unfold where_BoxOf_l2
      rw [cnd_if, if_neg (by omega), h0]; rfl
  · rw [if_pos (by simpa using h0), if_neg h0]

/-! ### Cell -/

def inP (p : T_api_Place) (b : T_where_Box) : Prop := (b.South ≤ p.Lat ∧ p.Lat ≤ b.North) ∧ b.West ≤ p.Lon ∧ p.Lon ≤ b.East
instance (p : T_api_Place) (b : T_where_Box) : Decidable (inP p b) := by unfold inP; infer_instance
def pick (p : T_api_Place) (b : T_where_Box) : Nat := (if midS b ≤ p.Lat then 2 else 0) + (if midW b ≤ p.Lon then 1 else 0)
theorem pick_le (p : T_api_Place) (b : T_where_Box) : pick p b ≤ 3 := by unfold pick; split <;> split <;> omega

theorem pick_in {p : T_api_Place} {b : T_where_Box} (h : inP p b) : inP p (partP b (pick p b : Nat)) := by
  obtain ⟨⟨a1, a2⟩, a3, a4⟩ := h
  unfold inP partP pick
  by_cases g1 : midS b ≤ p.Lat <;> by_cases g2 : midW b ≤ p.Lon <;> simp [g1, g2] <;> omega
theorem pick_not {p : T_api_Place} {b : T_where_Box} {k : Nat} (hk : k < pick p b) : ¬ inP p (partP b (k : Nat)) := by
  unfold pick at hk
  unfold inP partP
  by_cases g1 : midS b ≤ p.Lat <;> by_cases g2 : midW b ≤ p.Lon
  · rw [if_pos g1, if_pos g2] at hk
    rcases (by omega : k = 0 ∨ k = 1 ∨ k = 2) with rfl | rfl | rfl <;> simp <;> omega
  · rw [if_pos g1, if_neg g2] at hk
    rcases (by omega : k = 0 ∨ k = 1) with rfl | rfl <;> simp <;> omega
  · rw [if_neg g1, if_pos g2] at hk
    rcases (by omega : k = 0) with rfl; simp; omega
  · rw [if_neg g1, if_neg g2] at hk; omega

/-- The digits and the box, level by level. -/
def go (p : T_api_Place) : Nat → List Int × T_where_Box
  | 0 => ([], wholeB)
  | k + 1 => ((go p k).1 ++ [48 + (pick p (go p k).2 : Int)], partP (go p k).2 (pick p (go p k).2 : Nat))
theorem go_len (p : T_api_Place) (k : Nat) : (go p k).1.length = k := by
  induction k with
  | zero => rfl
  | succ k ih => unfold go; simp [ih]
theorem go_BB (p : T_api_Place) (k : Nat) : BB (go p k).2 := by
  induction k with
  | zero => exact BB_whole
  | succ k ih => exact BB_part ih _
theorem go_in {p : T_api_Place} (hp : PL p) (k : Nat) : inP p (go p k).2 := by
  induction k with
  | zero => obtain ⟨⟨h1, h2⟩, h3, h4⟩ := hp; exact ⟨⟨h1, h2⟩, h3, h4⟩
  | succ k ih => exact pick_in ih

theorem ifs4 {α : Type} (a b c d : Prop) [Decidable a] [Decidable b] [Decidable c] [Decidable d] (x y : α) : (if a then if b then if c then if d then x else y else y else y else y) = if (a ∧ b) ∧ c ∧ d then x else y := by
  by_cases ha : a <;> by_cases hb : b <;> by_cases hc : c <;> by_cases hd : d <;> simp [ha, hb, hc, hd]

theorem toStr_app (a b : List Int) : toStr (a ++ b) = toStr a ++ toStr b := by unfold toStr; exact List.map_append

/-- The array, level by level. -/
def arr (p : T_api_Place) : Nat → Nat → Int
  | 0 => fun _ => 0
  | k + 1 => setA (arr p k) k (48 + (pick p (go p k).2 : Int))
theorem arr_eq (p : T_api_Place) (k : Nat) : (List.range k).map (arr p k) = (go p k).1 := by
  induction k with
  | zero => rfl
  | succ k ih =>
    rw [List.range_succ, List.map_append]
    have e : (List.range k).map (arr p (k + 1)) = (List.range k).map (arr p k) := List.map_congr_left fun j hj => by
      have := List.mem_range.1 hj
      show setA (arr p k) k _ j = _
      unfold setA; rw [if_neg (by omega)]
    rw [e, ih]
    show _ ++ [setA (arr p k) k (48 + (pick p (go p k).2 : Int)) k] = (go p k).1 ++ [48 + (pick p (go p k).2 : Int)]
    unfold setA
    rw [if_pos rfl]

theorem Cell_in {p : T_api_Place} {b : T_where_Box} (hb : BB b) (hp : inP p b) (m : Nat → Int) {k : Nat} (hk : k < 24) (next2 : (Int × (Nat → Int) × Int × Int × Int × Int) → Option (List UInt8 × Int)) :
    fix (fun next4 s => where_Cell_l4 p (k : Int) m b.South b.West b.North b.East next2 next4 s) 0 = where_Cell_j3 (k : Int) next2 (setA m k (48 + (pick p b : Int))) (partP b (pick p b : Nat)).South (partP b (pick p b : Nat)).West (partP b (pick p b : Nat)).North (partP b (pick p b : Nat)).East := by
  have hle := pick_le p b
  have step : ∀ (next4 : Int → Option (List UInt8 × Int)) (j : Nat), j ≤ 3 → where_Cell_l4 p (k : Int) m b.South b.West b.North b.East next2 next4 (j : Int) = if inP p (partP b (j : Nat)) then where_Cell_j3 (k : Int) next2 (setA m k (48 + (j : Int))) (partP b (j : Nat)).South (partP b (j : Nat)).West (partP b (j : Nat)).North (partP b (j : Nat)).East else next4 ((j : Int) + 1) := by
    intro next4 j hj
    unfold where_Cell_l4
    rw [cnd_if, if_pos (by omega), quarter_eq (b := ⟨b.South, b.West, b.North, b.East⟩) hb (by omega), bnd_pure, outside_eq, bnd_pure, outside_eq, bnd_pure, gI_ok (by omega), bnd_pure, gIx_nat hk, bnd_pure, wU8_in (by omega)]
    unfold where_Cell_j5
    rw [gI_ok (by omega), bnd_pure]
    show cnd (!decide (p.Lat < (partP b (j : Nat)).South ∨ (partP b (j : Nat)).North < p.Lat)) (cnd (!decide (p.Lon < (partP b (j : Nat)).West ∨ (partP b (j : Nat)).East < p.Lon)) _ _) _ = _
    generalize partP b (j : Nat) = q
    by_cases g1 : p.Lat < q.South ∨ q.North < p.Lat
    · rw [if_neg (fun g : inP p q => by obtain ⟨⟨_, _⟩, _, _⟩ := g; omega), decide_eq_true g1, Bool.not_true, cnd_false]
    · by_cases g2 : p.Lon < q.West ∨ q.East < p.Lon
      · rw [if_neg (fun g : inP p q => by obtain ⟨⟨_, _⟩, _, _⟩ := g; omega), decide_eq_false g1, decide_eq_true g2, Bool.not_true, Bool.not_false, cnd_true, cnd_false]
      · rw [if_pos (show inP p q from ⟨⟨by omega, by omega⟩, by omega, by omega⟩), decide_eq_false g1, decide_eq_false g2, Bool.not_false, cnd_true, cnd_true]
  have := fix_upto (F := fun next4 s => where_Cell_l4 p (k : Int) m b.South b.West b.North b.East next2 next4 s) 0 (pick p b) (Nat.zero_le _)
    (fun next j _ hj => (step next j (by omega)).trans (if_neg (pick_not hj))) (fun next => (step next (pick p b) hle).trans (if_pos (pick_in hp)))
  exact this

theorem Cell_eq (p : T_api_Place) (n : Int) : where_Cell p n = some (if placeS p.Lat p.Lon ≠ 0 then ([], placeS p.Lat p.Lon) else if n < 0 ∨ 24 < n then ([], 2) else (toStr (go p n.toNat).1, 0)) := by
  unfold where_Cell
  rw [CheckPlace_eq, bnd_pure, cnd_if]
  by_cases h0 : placeS p.Lat p.Lon ≠ 0
  · rw [if_pos h0, if_pos h0]
  · rw [if_neg h0, if_neg h0, outside_eq, bnd_pure, cnd_if]
    by_cases h1 : n < 0 ∨ 24 < n
    · rw [if_pos h1, if_pos h1]
    · rw [if_neg h1, if_neg h1]
      obtain ⟨k, rfl⟩ := Int.eq_ofNat_of_zero_le (show 0 ≤ n by omega)
      have hp : PL p := PL_iff.1 (by simpa using h0)
      show bnd (some wholeB) _ = _
      rw [bnd_pure, Int.toNat_natCast]
      refine fix_path (fun j => ((j : Int), arr p j, (go p j).2.South, (go p j).2.West, (go p j).2.North, (go p j).2.East)) k ?_ ?_
      · intro j hj next
        show where_Cell_l2 p (k : Int) next (j : Int) (arr p j) _ _ _ _ = _
        unfold where_Cell_l2
        rw [cnd_if, if_pos (by omega), Cell_in (go_BB p j) (go_in hp j) _ (by omega)]
        unfold where_Cell_j3
        rw [gI_ok (by omega), bnd_pure]
        rfl
      · intro next
        show where_Cell_l2 p (k : Int) next (k : Int) (arr p k) _ _ _ _ = _
        unfold where_Cell_l2 where_Cell_j1
        rw [cnd_if, if_neg (by omega), gCutA_ok (by omega), bnd_pure, Int.toNat_natCast, arr_eq]

/-! ### Beside -/

theorem pow_one (n : Nat) : (1 : Int) ≤ 2 ^ n := by
  have h1 : 1 ≤ 2 ^ n := Nat.one_le_two_pow
  have e : (2 : Int) ^ n = ((2 ^ n : Nat) : Int) := (Int.natCast_pow 2 n).symm
  rw [e]; omega
theorem pow_le24 {n : Nat} (hn : n ≤ 24) : (1 : Int) ≤ 2 ^ n ∧ (2 : Int) ^ n ≤ 16777216 := by
  refine ⟨pow_one n, ?_⟩
  have h2 : 2 ^ n ≤ 16777216 := Nat.pow_le_pow_right (n := 2) (by decide) hn
  have e : (2 : Int) ^ n = ((2 ^ n : Nat) : Int) := (Int.natCast_pow 2 n).symm
  rw [e]; omega

/-- The row and the column of a cell, digit by digit. -/
def rc (s : List UInt8) : Nat → Int × Int
  | 0 => (0, 0)
  | k + 1 => (2 * (rc s k).1 + dg s k / 2, 2 * (rc s k).2 + dg s k % 2)
theorem rc_in {s : List UInt8} (h : ∀ c ∈ s, dig c) : ∀ {k : Nat}, k ≤ s.length → (0 ≤ (rc s k).1 ∧ (rc s k).1 < 2 ^ k) ∧ 0 ≤ (rc s k).2 ∧ (rc s k).2 < 2 ^ k := by
  intro k
  induction k with
  | zero => intro _; simp [rc]
  | succ k ih =>
    intro hk
    have hd := (dg_in h (show k < s.length by omega)).1
    have := ih (by omega)
    show (0 ≤ 2 * (rc s k).1 + dg s k / 2 ∧ 2 * (rc s k).1 + dg s k / 2 < 2 ^ (k + 1)) ∧ 0 ≤ 2 * (rc s k).2 + dg s k % 2 ∧ 2 * (rc s k).2 + dg s k % 2 < 2 ^ (k + 1)
    rw [Int.pow_succ]
    omega

theorem bAnd_one {x : Int} (h : 0 ≤ x ∧ x ≤ 9223372036854775807) : wI64 (bAnd 64 x 1) = x % 2 := by
  obtain ⟨n, rfl⟩ := Int.eq_ofNat_of_zero_le h.1
  have : bAnd 64 (n : Int) 1 = (n : Int) % 2 := by
    unfold bAnd
    rw [BitVec.toNat_and, BitVec.toNat_ofInt, BitVec.toNat_ofInt]
    have e1 : ((n : Int) % ((2 ^ 64 : Nat) : Int)).toNat = n := by
      have : ((2 ^ 64 : Nat) : Int) = 18446744073709551616 := by decide
      rw [this]; omega
    have e2 : ((1 : Int) % ((2 ^ 64 : Nat) : Int)).toNat = 1 := by decide
    rw [e1, e2, Nat.and_one_is_mod]
    omega
  rw [this, wI64_in (by omega)]

/-- The digits behind, one after the other. -/
def backS (r c : Int) : Nat → List Int
  | 0 => []
  | i + 1 => (48 + r / 2 ^ i % 2 * 2 + c / 2 ^ i % 2) :: backS r c i
theorem backS_len (r c : Int) (n : Nat) : (backS r c n).length = n := by
  induction n with
  | zero => rfl
  | succ n ih => unfold backS; simp [ih]
theorem backS_get (r c : Int) : ∀ (n i : Nat) (h : i < n), (backS r c n)[i]'(by rw [backS_len]; exact h) = 48 + r / 2 ^ (n - 1 - i) % 2 * 2 + c / 2 ^ (n - 1 - i) % 2 := by
  intro n
  induction n with
  | zero => intro i h; omega
  | succ n ih =>
    intro i h
    cases i with
    | zero => unfold backS; simp
    | succ i =>
      have e : n + 1 - 1 - (i + 1) = n - 1 - i := by omega
      rw [e, ← ih i (by omega)]; rfl

theorem div_pow {r : Int} (k : Nat) : r / 2 ^ k / 2 = r / 2 ^ (k + 1) := by
  have := pow_one k
  rw [Int.pow_succ, Int.ediv_ediv_of_nonneg (by omega)]

theorem div_in {r : Int} (k : Nat) (h : 0 ≤ r ∧ r ≤ 1000000000) : 0 ≤ r / 2 ^ k ∧ r / 2 ^ k ≤ 1000000000 := by
  have hp := pow_one k
  refine ⟨Int.ediv_nonneg h.1 (by omega), ?_⟩
  have : r / 2 ^ k ≤ r := Int.ediv_le_self _ h.1
  omega

def arrB (r c : Int) (n : Nat) : Nat → Nat → Int
  | 0 => fun _ => 0
  | k + 1 => setA (arrB r c n k) k (48 + r / 2 ^ (n - 1 - k) % 2 * 2 + c / 2 ^ (n - 1 - k) % 2)
theorem arrB_get (r c : Int) (n : Nat) : ∀ (k j : Nat), j < k → arrB r c n k j = 48 + r / 2 ^ (n - 1 - j) % 2 * 2 + c / 2 ^ (n - 1 - j) % 2 := by
  intro k
  induction k with
  | zero => intro j h; omega
  | succ k ih =>
    intro j h
    show setA (arrB r c n k) k _ j = _
    unfold setA
    by_cases e : j = k
    · rw [if_pos e, e]
    · rw [if_neg e]; exact ih j (by omega)
theorem arrB_all (r c : Int) (n : Nat) : (List.range n).map (arrB r c n n) = backS r c n := by
  apply List.ext_getElem (by simp [backS_len])
  intro i h1 h2
  have hi : i < n := by simpa using h1
  rw [List.getElem_map, List.getElem_range, arrB_get r c n n i hi, backS_get r c n i hi]

def rangeE (a b : Int) : Int := if (-100 ≤ a ∧ a ≤ 100) ∧ -100 ≤ b ∧ b ≤ 100 then 0 else 2

/-! ### the law -/

end Go.M
