/- strings.Trim at an ASCII cutset, as its model tells it. Conditions: none. -/
import Derived.Test.YtaonhnkojkkmbaaDoorMEs
import Derived.Test.YtaonhnkojkkmbaaDoorPl
import Derived.Test.YtaonhnkojkkmbaaDoorPl2
namespace Go.M
open Go.Md Go.Pl

/-- A loop that goes a known way. -/
theorem fix_way {α ρ : Type} {F : (α → Option ρ) → α → Option ρ} {o : Option ρ} (st : Nat → α) (n : Nat) (more : ∀ k, k < n → ∀ next, F next (st k) = next (st (k + 1))) (stop : ∀ next, F next (st n) = o) : fix F (st 0) = o := by
  have key : ∀ m, m ≤ n → fix F (st (n - m)) = o := by
    intro m
    induction m with
    | zero => intro _; exact fix_done stop
    | succ m ih =>
      intro h
      rw [fix_goto (b := st (n - (m + 1) + 1)) (more _ (by omega)), show n - (m + 1) + 1 = n - m from by omega]
      exact ih (by omega)
  simpa using key n (Nat.le_refl _)

def setC (cs : List UInt8) : Nat → Bool := cs.foldl (fun m c => setA m c.toNat true) (fun _ => false)
theorem setC_iff (cs : List UInt8) (c : UInt8) : setC cs c.toNat = true ↔ c ∈ cs := by
  have key : ∀ (cs : List UInt8) (m : Nat → Bool), cs.foldl (fun m c => setA m c.toNat true) m c.toNat = true ↔ m c.toNat = true ∨ c ∈ cs := by
    intro cs
    induction cs with
    | nil => intro m; simp
    | cons d cs ih =>
      intro m
      rw [List.foldl_cons, ih, List.mem_cons]
      unfold setA
      by_cases h : c.toNat = d.toNat
      · have : c = d := UInt8.toNat_inj.1 h
        simp [this]
      · have : c ≠ d := fun e => h (by rw [e])
        simp [h, this]
  unfold setC
  rw [key]; simp

theorem set_step {cs : List UInt8} (hcs : ∀ c ∈ cs, c.toNat < 128) (hl : cs.length ≤ 1000) {k : Nat} (hk : k < cs.length) (next : Int × (Nat → Bool) → Option ((Nat → Bool) × Bool)) (m : Nat → Bool) :
    strings_makeASCIISet_l2 cs next (k : Int) m = next ((k + 1 : Nat), setA m cs[k].toNat true) := by
  have hc := hcs _ (List.getElem_mem hk)
  unfold strings_makeASCIISet_l2
  rw [cnd_if, if_pos (by omega), gOct_nat hk, bnd_pure, cnd_if, if_neg (by omega), gIx_nat (by omega), bnd_pure, gI_ok (by omega), bnd_pure]
  rfl
theorem set_eq {cs : List UInt8} (hcs : ∀ c ∈ cs, c.toNat < 128) (hl : cs.length ≤ 1000) : strings_makeASCIISet cs = some (setC cs, true) := by
  unfold strings_makeASCIISet
  refine fix_way (fun k => ((k : Int), setC (cs.take k))) cs.length (fun k hk next => ?_) (fun _ => ?_)
  · show strings_makeASCIISet_l2 cs next (k : Int) (setC (cs.take k)) = _
    rw [set_step hcs hl hk]
    congr 2
    unfold setC
    rw [List.take_add_one, List.getElem?_eq_getElem hk, List.foldl_append]; rfl
  · show strings_makeASCIISet_l2 cs _ (cs.length : Int) (setC (cs.take cs.length)) = _
    unfold strings_makeASCIISet_l2
    rw [cnd_if, if_neg (by omega), List.take_length]; rfl

theorem has_eq (cs : List UInt8) (c : UInt8) : strings_asciiSet_contains (setC cs) (c.toNat : Int) = some (decide (c ∈ cs), setC cs) := by
  have hc := c.toNat_lt
  unfold strings_asciiSet_contains
  rw [gIx_nat (by omega), bnd_pure]
  congr 2
  rw [Bool.eq_iff_iff, setC_iff]; simp

theorem trimR {cs : List UInt8} (s : List UInt8) (hs : s.length ≤ 1000) : ∃ r : List UInt8 × (Nat → Bool), strings_trimRightASCII s (setC cs) = some r ∧ (∃ suf, s = r.1 ++ suf ∧ ∀ c ∈ suf, c ∈ cs) ∧ r.2 = setC cs ∧ (∀ c, r.1.getLast? = some c → c ∉ cs) := by
  unfold strings_trimRightASCII
  refine fix_run (fun a => (∃ suf, s = a.1 ++ suf ∧ ∀ c ∈ suf, c ∈ cs) ∧ a.2 = setC cs) (fun a => a.1.length) (fun (r : List UInt8 × (Nat → Bool)) => (∃ suf, s = r.1 ++ suf ∧ ∀ c ∈ suf, c ∈ cs) ∧ r.2 = setC cs ∧ (∀ c, r.1.getLast? = some c → c ∉ cs)) ?_ (s, setC cs) ⟨⟨[], by simp, by simp⟩, rfl⟩
  rintro ⟨x, m⟩ ⟨⟨suf, h1, h2⟩, h3⟩
  simp only at h1 h3
  subst h3
  have hl : x.length ≤ 1000 := by have := congrArg List.length h1; rw [List.length_append] at this; omega
  rcases List.eq_nil_or_concat x with rfl | ⟨ini, c, rfl⟩
  · exact .inl ⟨([], setC cs), ⟨⟨suf, h1, h2⟩, rfl, by simp⟩, fun _ => rfl⟩
  · simp only [List.concat_eq_append, List.length_append, List.length_singleton] at *
    have e1 : gI (((ini.length + 1 : Nat) : Int) - 1) = some (ini.length : Int) := by rw [gI_ok (by omega)]; congr 1; omega
    have e2 : gOct (ini ++ [c]) (ini.length : Int) = some (c.toNat : Int) := by rw [gOct_nat (by simp)]; simp
    have e3 : gCut (ini ++ [c]) 0 (ini.length : Int) = some ini := by rw [gCut_to (by simp; omega)]; simp
    have key : ∀ next, strings_trimRightASCII_l1 next (ini ++ [c]) (setC cs) = if c ∈ cs then next (ini, setC cs) else some (ini ++ [c], setC cs) := by
      intro next
      unfold strings_trimRightASCII_l1
      rw [List.length_append, List.length_singleton, cnd_if, if_pos (by omega), e1, bnd_pure, e2, bnd_pure, has_eq, bnd_pure, bnd_pure, e3, bnd_pure]
      by_cases hd : c ∈ cs
      · rw [if_pos hd]; simp [hd]
      · rw [if_neg hd]; simp [hd]
    by_cases hd : c ∈ cs
    · refine .inr ⟨(ini, setC cs), ⟨⟨c :: suf, by rw [h1]; simp, fun d hd' => ?_⟩, rfl⟩, by simp, fun next => (key next).trans (if_pos hd)⟩
      rcases List.mem_cons.1 hd' with rfl | h
      · exact hd
      · exact h2 d h
    · exact .inl ⟨(ini ++ [c], setC cs), ⟨⟨suf, h1, h2⟩, rfl, fun d hd' => by simp at hd'; subst hd'; exact hd⟩, fun next => (key next).trans (if_neg hd)⟩

theorem trimL {cs : List UInt8} (s : List UInt8) (hs : s.length ≤ 1000) : ∃ r : List UInt8 × (Nat → Bool), strings_trimLeftASCII s (setC cs) = some r ∧ (∃ pre, s = pre ++ r.1 ∧ ∀ c ∈ pre, c ∈ cs) ∧ r.2 = setC cs ∧ (∀ c, r.1.head? = some c → c ∉ cs) := by
  unfold strings_trimLeftASCII
  refine fix_run (fun a => (∃ pre, s = pre ++ a.1 ∧ ∀ c ∈ pre, c ∈ cs) ∧ a.2 = setC cs) (fun a => a.1.length) (fun (r : List UInt8 × (Nat → Bool)) => (∃ pre, s = pre ++ r.1 ∧ ∀ c ∈ pre, c ∈ cs) ∧ r.2 = setC cs ∧ (∀ c, r.1.head? = some c → c ∉ cs)) ?_ (s, setC cs) ⟨⟨[], by simp, by simp⟩, rfl⟩
  rintro ⟨x, m⟩ ⟨⟨pre, h1, h2⟩, h3⟩
  simp only at h1 h3
  subst h3
  cases x with
  | nil => exact .inl ⟨([], setC cs), ⟨⟨pre, h1, h2⟩, rfl, by simp⟩, fun _ => rfl⟩
  | cons c x =>
    have e2 : gOct (c :: x) 0 = some (c.toNat : Int) := by rw [gOct_ok (by omega) (by simp)]; rfl
    have e3 : gCut (c :: x) 1 ((c :: x).length : Nat) = some x := by rw [gCut_from (by rw [List.length_cons]; omega)]; rfl
    have key : ∀ next, strings_trimLeftASCII_l1 next (c :: x) (setC cs) = if c ∈ cs then next (x, setC cs) else some (c :: x, setC cs) := by
      intro next
      unfold strings_trimLeftASCII_l1
      rw [cnd_if, if_pos (by rw [List.length_cons]; omega), e2, bnd_pure, has_eq, bnd_pure, e3, bnd_pure]
      by_cases hd : c ∈ cs
      · rw [if_pos hd]; simp [hd]
      · rw [if_neg hd]; simp [hd]
    by_cases hd : c ∈ cs
    · refine .inr ⟨(x, setC cs), ⟨⟨pre ++ [c], by rw [h1]; simp, fun d hd' => ?_⟩, rfl⟩, by simp, fun next => (key next).trans (if_pos hd)⟩
      rcases List.mem_append.1 hd' with h | h
      · exact h2 d h
      · rw [List.mem_singleton.1 h]; exact hd
    · exact .inl ⟨(c :: x, setC cs), ⟨⟨pre, h1, h2⟩, rfl, fun d hd' => by simp at hd'; subst hd'; exact hd⟩, fun next => (key next).trans (if_neg hd)⟩

theorem trim_ok {cs : List UInt8} (hcs : ∀ c ∈ cs, c.toNat < 128) (h2 : 2 ≤ cs.length) (hcl : cs.length ≤ 1000) (s : List UInt8) (hs : s.length ≤ 1000) : ∃ r, strings_Trim s cs = some r ∧ (r = [] ↔ ∀ c ∈ s, c ∈ cs) := by
  unfold strings_Trim
  by_cases h0 : s = []
  · subst h0; exact ⟨[], rfl, by simp⟩
  · have hc0 : ¬ cs = [] := fun h => by rw [h] at h2; simp at h2
    rw [cnd_if, if_neg h0, cnd_if, if_neg hc0, cnd_if, if_neg (by omega)]
    obtain ⟨r, hr, ⟨suf, h1, h2⟩, h3, h4⟩ := trimR (cs := cs) s hs
    have hl : r.1.length ≤ 1000 := by have := congrArg List.length h1; rw [List.length_append] at this; omega
    obtain ⟨q, hq, ⟨pre, k1, k2⟩, _, k4⟩ := trimL (cs := cs) r.1 hl
    refine ⟨q.1, ?_, fun h c hc => ?_, fun h => ?_⟩
    · unfold strings_Trim_j1
      rw [set_eq hcs hcl, bnd_pure, cnd_true, hr, bnd_pure, h3, hq, bnd_pure]
    · rw [h1, k1, h] at hc
      simp only [List.append_nil, List.mem_append] at hc
      rcases hc with h | h
      · exact k2 c h
      · exact h2 c h
    · cases hq1 : q.1 with
      | nil => rfl
      | cons c x =>
        exact absurd (h c (by rw [h1, k1, hq1]; simp)) (k4 c (by rw [hq1]; rfl))
end Go.M

/- Strings in parts and as numbers, in plain Lean. Conditions: none. -/
namespace Go.M
open Go.Md Go.Pl

theorem cN {α : Type} {p : Prop} [Decidable p] {x y : Option α} (h : ¬ p) : cnd (decide p) x y = y := by rw [cnd_if, if_neg h]
theorem cY {α : Type} {p : Prop} [Decidable p] {x y : Option α} (h : p) : cnd (decide p) x y = x := by rw [cnd_if, if_pos h]

theorem gIxB_nat (s : List UInt8) (c : UInt8) : gIxB s (c.toNat : Int) = some (ixB s c) := by
  unfold gIxB
  rw [Int.toNat_natCast, show c.toNat.toUInt8 = c from by simp]

/-- What stands before the first c, what behind it, and whether there is one. -/
def cutS (c : UInt8) : List UInt8 → List UInt8 × List UInt8 × Bool
  | [] => ([], [], false)
  | b :: l => if b = c then ([], l, true) else (b :: (cutS c l).1, (cutS c l).2.1, (cutS c l).2.2)

theorem cutS_no {c : UInt8} {s : List UInt8} : (cutS c s).2.2 = false → cutS c s = (s, [], false) := by
  induction s with
  | nil => intro _; rfl
  | cons b l ih =>
    intro h
    unfold cutS at h ⊢
    by_cases hb : b = c
    · rw [if_pos hb] at h; cases h
    · rw [if_neg hb] at h ⊢; rw [ih h]
theorem cutS_yes {c : UInt8} {s : List UInt8} : (cutS c s).2.2 = true → s = (cutS c s).1 ++ c :: (cutS c s).2.1 := by
  induction s with
  | nil => intro h; cases h
  | cons b l ih =>
    intro h
    unfold cutS at h ⊢
    by_cases hb : b = c
    · rw [if_pos hb]; rw [hb]; rfl
    · rw [if_neg hb] at h ⊢
      show b :: l = b :: ((cutS c l).1 ++ c :: (cutS c l).2.1)
      rw [← ih h]
theorem cutS_ix (c : UInt8) (s : List UInt8) : ixB s c = if (cutS c s).2.2 = true then ((cutS c s).1.length : Int) else -1 := by
  induction s with
  | nil => rfl
  | cons b l ih =>
    unfold ixB cutS
    by_cases hb : b = c
    · rw [if_pos hb, if_pos hb]; rfl
    · rw [if_neg hb, if_neg hb, ih]
      by_cases h : (cutS c l).2.2 = true
      · simp only [if_pos h, List.length_cons]
        rw [if_neg (by omega)]; omega
      · simp only [if_neg h, if_true]
theorem cutS_len (c : UInt8) (s : List UInt8) : (cutS c s).1.length + (cutS c s).2.1.length ≤ s.length := by
  by_cases h : (cutS c s).2.2 = true
  · have := congrArg List.length (cutS_yes h); simp at this; omega
  · rw [cutS_no (by simpa using h)]; simp
theorem cutS_at {c : UInt8} {a b : List UInt8} (h : ∀ x ∈ a, x ≠ c) : cutS c (a ++ c :: b) = (a, b, true) := by
  induction a with
  | nil => simp [cutS]
  | cons x a ih =>
    show cutS c (x :: (a ++ c :: b)) = _
    unfold cutS
    rw [if_neg (h x (by simp)), ih fun y hy => h y (by simp [hy])]

theorem Index1_eq (s : List UInt8) (c : UInt8) : internal_stringslite_Index s [c] = some (ixB s c) := by
  unfold internal_stringslite_Index
  rw [cnd_if, if_neg (by simp), cnd_if]
  by_cases h : [c] = s
  · rw [if_pos h, ← h]; simp [ixB]
  · rw [if_neg h, cnd_if, if_pos (show (([c] : List UInt8).length : Int) = 1 from rfl)]
    show bnd (some (c.toNat : Int)) _ = _
    rw [bnd_pure]
    unfold internal_stringslite_IndexByte
    rw [gIxB_nat]; rfl

theorem Cut_eq {s : List UInt8} (hs : s.length ≤ 9223372036854775000) (c : UInt8) : strings_Cut s [c] = some (cutS c s) := by
  unfold strings_Cut internal_stringslite_Cut
  rw [Index1_eq, bnd_pure, cutS_ix]
  by_cases h : (cutS c s).2.2 = true
  · have hl := congrArg List.length (cutS_yes h)
    rw [List.length_append, List.length_cons] at hl
    have e1 : s.take (cutS c s).1.length = (cutS c s).1 := by
      have := List.take_left' (l₁ := (cutS c s).1) (l₂ := c :: (cutS c s).2.1) rfl
      rwa [← cutS_yes h] at this
    have e2 : s.drop ((cutS c s).1.length + 1) = (cutS c s).2.1 := by
      have := List.drop_left' (l₁ := (cutS c s).1 ++ [c]) (l₂ := (cutS c s).2.1) rfl
      rw [List.append_assoc, List.singleton_append, ← cutS_yes h] at this
      simpa using this
    have e4 : (([c] : List UInt8).length : Int) = 1 := rfl
    rw [if_pos h, cnd_if, if_pos (by omega), gCut_to (by omega), bnd_pure, gI_ok (by rw [e4]; omega), bnd_pure, gCut_from (by rw [e4]; omega), bnd_pure, bnd_pure]
    have e3 : (((cutS c s).1.length : Int) + (([c] : List UInt8).length : Int)).toNat = (cutS c s).1.length + 1 := by rw [e4]; omega
    rw [e3, e2, Int.toNat_natCast, e1, ← h]
  · rw [if_neg h, cnd_if, if_neg (by omega), bnd_pure, cutS_no (by simpa using h)]

theorem Pre_eq (s : List UInt8) (c : UInt8) : internal_stringslite_HasPrefix s [c] = some (decide (s.head? = some c)) := by
  unfold internal_stringslite_HasPrefix
  rw [cnd_if]
  cases s with
  | nil => simp
  | cons b l =>
    have e4 : (([c] : List UInt8).length : Int) = 1 := rfl
    rw [if_pos (by rw [e4, List.length_cons]; omega), gCut_to (by rw [e4, List.length_cons]; omega), bnd_pure]
    simp
theorem TrimP_eq (s : List UInt8) (c : UInt8) : strings_TrimPrefix s [c] = some (if s.head? = some c then s.tail else s) := by
  unfold strings_TrimPrefix internal_stringslite_TrimPrefix
  rw [Pre_eq, bnd_pure]
  by_cases h : s.head? = some c
  · have h1 : 1 ≤ s.length := by cases s with | nil => cases h | cons => simp
    rw [decide_eq_true h, cnd_true, gCut_from (by rw [show (([c] : List UInt8).length : Int) = 1 from rfl]; omega), bnd_pure, bnd_pure, if_pos h]
    simp [List.drop_one]
  · rw [decide_eq_false h, cnd_false, bnd_pure, if_neg h]

def dg (c : UInt8) : Bool := decide (48 ≤ c.toNat ∧ c.toNat ≤ 57)
def valS (a : Nat) (l : List UInt8) : Nat := l.foldl (fun n c => n * 10 + (c.toNat - 48)) a
def D10 : List UInt8 := [48, 49, 50, 51, 52, 53, 54, 55, 56, 57]
theorem dg_mem (c : UInt8) : c ∈ D10 ↔ dg c = true := by
  unfold dg
  rw [decide_eq_true_iff]
  constructor
  · intro h
    simp only [D10, List.mem_cons, List.not_mem_nil, or_false] at h
    rcases h with h | h | h | h | h | h | h | h | h | h <;> subst h <;> decide
  · intro h
    have e : c = UInt8.ofNat c.toNat := by simp
    have : c.toNat = 48 ∨ c.toNat = 49 ∨ c.toNat = 50 ∨ c.toNat = 51 ∨ c.toNat = 52 ∨ c.toNat = 53 ∨ c.toNat = 54 ∨ c.toNat = 55 ∨ c.toNat = 56 ∨ c.toNat = 57 := by omega
    rcases this with h | h | h | h | h | h | h | h | h | h <;> rw [h] at e <;> rw [e] <;> decide
theorem TrimD (s : List UInt8) (hs : s.length ≤ 1000) : ∃ r, strings_Trim s [48, 49, 50, 51, 52, 53, 54, 55, 56, 57] = some r ∧ (r = [] ↔ s.all dg = true) := by
  obtain ⟨r, h1, h2⟩ := trim_ok (cs := D10) (by decide) (by decide) (by decide) s hs
  refine ⟨r, h1, h2.trans ?_⟩
  rw [List.all_eq_true]
  exact ⟨fun h c hc => (dg_mem c).1 (h c hc), fun h c hc => (dg_mem c).2 (h c hc)⟩
theorem decF_val {l : List UInt8} : ∀ {a : Nat}, l.all dg = true → decF a l = some (valS a l) := by
  induction l with
  | nil => intro a _; rfl
  | cons c l ih =>
    intro a h
    rw [List.all_cons, Bool.and_eq_true] at h
    unfold decF digV
    have := h.1
    unfold dg at this
    rw [decide_eq_true_iff] at this
    rw [if_pos this]
    exact ih h.2
theorem atoi_val {l : List UInt8} (hl : l ≠ []) (hn : l.length ≤ 18) (h : l.all dg = true) : gAtoi l = some ((valS 0 l : Nat) : Int) := by
  unfold gAtoi
  rw [if_pos hn]
  cases l with
  | nil => exact absurd rfl hl
  | cons c l =>
    have hc : dg c = true := by rw [List.all_cons, Bool.and_eq_true] at h; exact h.1
    have h45 : ¬ (c == 45) = true := by intro e; rw [beq_iff_eq] at e; subst e; revert hc; decide
    have h43 : ¬ (c == 43) = true := by intro e; rw [beq_iff_eq] at e; subst e; revert hc; decide
    show (if (c == 45) = true then _ else if (c == 43) = true then _ else (decN (c :: l)).map fun (m : Nat) => (m : Int)) = _
    rw [if_neg h45, if_neg h43]
    unfold decN
    rw [if_neg (by simp), decF_val h]; rfl
theorem valS_app (a : Nat) (l m : List UInt8) : valS a (l ++ m) = valS (valS a l) m := List.foldl_append
theorem valS_acc (l : List UInt8) : ∀ a : Nat, valS a l = a * 10 ^ l.length + valS 0 l := by
  induction l with
  | nil => intro a; simp [valS]
  | cons c l ih =>
    intro a
    show valS (a * 10 + (c.toNat - 48)) l = _ + valS (0 * 10 + (c.toNat - 48)) l
    rw [ih (a * 10 + (c.toNat - 48)), ih (0 * 10 + (c.toNat - 48)), List.length_cons, Nat.pow_succ, Nat.zero_mul, Nat.zero_add, Nat.add_mul, Nat.add_assoc, Nat.mul_assoc, Nat.mul_comm 10]
theorem valS_lt {l : List UInt8} (h : l.all dg = true) : valS 0 l < 10 ^ l.length := by
  induction l with
  | nil => simp [valS]
  | cons c l ih =>
    rw [List.all_cons, Bool.and_eq_true] at h
    have h1 := ih h.2
    have h2 := h.1
    unfold dg at h2
    rw [decide_eq_true_iff] at h2
    show valS (0 * 10 + (c.toNat - 48)) l < _
    rw [valS_acc, List.length_cons, Nat.pow_succ, Nat.zero_mul, Nat.zero_add]
    have h3 : (c.toNat - 48) * 10 ^ l.length ≤ 9 * 10 ^ l.length := Nat.mul_le_mul_right _ (by omega)
    omega

theorem dg_ofNat {d : Nat} (h : d < 10) : dg (UInt8.ofNat (48 + d)) = true ∧ (UInt8.ofNat (48 + d)).toNat - 48 = d := by
  have e : (UInt8.ofNat (48 + d)).toNat = 48 + d := by rw [UInt8.toNat_ofNat']; omega
  unfold dg
  rw [e, decide_eq_true_iff]
  omega
theorem decD_spec : ∀ (k u : Nat), u < 10 ^ (k + 1) → (decD u).all dg = true ∧ valS 0 (decD u) = u ∧ decD u ≠ [] ∧ (decD u).length ≤ k + 1 ∧ ((decD u).head? = some 48 → u = 0) ∧ (u = 0 → decD u = [48]) := by
  intro k
  induction k with
  | zero =>
    intro u hu
    have hu : u < 10 := by simpa using hu
    unfold decD
    rw [if_pos hu]
    obtain ⟨h1, h2⟩ := dg_ofNat hu
    refine ⟨by rw [List.all_cons, h1]; rfl, ?_, by simp, by simp, fun h => ?_, fun h => by subst h; rfl⟩
    · show 0 * 10 + ((UInt8.ofNat (48 + u)).toNat - 48) = u
      omega
    · simp only [List.head?_cons, Option.some.injEq] at h
      rw [h] at h2
      simpa using h2.symm
  | succ k ih =>
    intro u hu
    unfold decD
    by_cases h10 : u < 10
    · rw [if_pos h10]
      obtain ⟨h1, h2⟩ := dg_ofNat h10
      refine ⟨by rw [List.all_cons, h1]; rfl, ?_, by simp, by simp, fun h => ?_, fun h => by subst h; rfl⟩
      · show 0 * 10 + ((UInt8.ofNat (48 + u)).toNat - 48) = u
        omega
      · simp only [List.head?_cons, Option.some.injEq] at h
        rw [h] at h2
        simpa using h2.symm
    · rw [if_neg h10]
      obtain ⟨h1, h2⟩ := dg_ofNat (d := u % 10) (by omega)
      obtain ⟨i1, i2, i3, i4, i5, i6⟩ := ih (u / 10) (by rw [Nat.pow_succ] at hu; omega)
      refine ⟨by rw [List.all_append, i1, List.all_cons, h1]; rfl, ?_, by simp, by simp; omega, fun h => ?_, fun h => by omega⟩
      · rw [valS_app, i2]
        show u / 10 * 10 + ((UInt8.ofNat (48 + u % 10)).toNat - 48) = u
        omega
      · exfalso
        have : (decD (u / 10)).head? = some 48 := by
          cases hd : decD (u / 10) with
          | nil => exact absurd hd i3
          | cons c l => rw [hd] at h; simpa using h
        have := i5 this
        omega

theorem head_ne {a : List UInt8} (h : a ≠ []) (c : UInt8) : gOct a 0 = some ((a.head h).toNat : Int) := by
  cases a with
  | nil => exact absurd rfl h
  | cons x a => rfl
theorem head48 {a : List UInt8} (h : a ≠ []) : ((a.head h).toNat : Int) = 48 ↔ a.head? = some 48 := by
  cases a with
  | nil => exact absurd rfl h
  | cons x a =>
    simp only [List.head_cons, List.head?_cons, Option.some.injEq]
    constructor
    · intro e
      have : x = UInt8.ofNat x.toNat := by simp
      rw [show x.toNat = 48 from by omega] at this
      exact this
    · intro e; subst e; rfl


end Go.M

/- Numbers as strings: what Itoa writes of what Atoi reads, in plain Lean. Conditions: none. -/
namespace Go.M
open Go.Md

theorem valS_pos {l : List UInt8} (h : l.all dg = true) (h0 : l ≠ []) (hh : l.head? ≠ some 48) : 1 ≤ valS 0 l := by
  cases l with
  | nil => exact absurd rfl h0
  | cons c l =>
    rw [List.all_cons, Bool.and_eq_true] at h
    have h2 := h.1
    unfold dg at h2
    rw [decide_eq_true_iff] at h2
    have h3 : c ≠ 48 := fun e => hh (by rw [e]; rfl)
    have h4 : c.toNat ≠ 48 := fun e => h3 (by rw [← UInt8.ofNat_toNat (x := c), e]; rfl)
    show 1 ≤ valS (0 * 10 + (c.toNat - 48)) l
    rw [valS_acc]
    have : 1 * 10 ^ l.length ≤ (0 * 10 + (c.toNat - 48)) * 10 ^ l.length := Nat.mul_le_mul_right _ (by omega)
    have := Nat.one_le_two_pow (n := 0)
    have h10 : 1 ≤ 10 ^ l.length := Nat.one_le_pow _ _ (by omega)
    omega
theorem dg_back {c : UInt8} (h : dg c = true) : UInt8.ofNat (48 + (c.toNat - 48)) = c := by
  unfold dg at h
  rw [decide_eq_true_iff] at h
  rw [show 48 + (c.toNat - 48) = c.toNat from by omega, UInt8.ofNat_toNat]
theorem decD_back : ∀ (k : Nat) (l : List UInt8), l.length ≤ k → l.all dg = true → l ≠ [] → (l.head? = some 48 → l = [48]) → decD (valS 0 l) = l := by
  intro k
  induction k with
  | zero => intro l hk _ h0; exact absurd (List.length_eq_zero_iff.1 (by omega)) h0
  | succ k ih =>
    intro l hk h h0 hh
    have e := List.dropLast_concat_getLast h0
    generalize hm : l.dropLast = m at e
    generalize hc : l.getLast h0 = c at e
    have hd : m.all dg = true ∧ dg c = true := by
      rw [← e, List.all_append, Bool.and_eq_true] at h
      exact ⟨h.1, by simpa using h.2⟩
    have hcd := hd.2
    unfold dg at hcd
    rw [decide_eq_true_iff] at hcd
    have hv : valS 0 l = valS 0 m * 10 + (c.toNat - 48) := by rw [← e, valS_app]; rfl
    have hl : m.length + 1 = l.length := by rw [← e]; simp
    by_cases m0 : m = []
    · subst m0
      rw [hv, show valS 0 [] = 0 from rfl, Nat.zero_mul, Nat.zero_add]
      unfold decD
      rw [if_pos (by omega), dg_back hd.2]
      exact e
    · have mh : m.head? ≠ some 48 := fun e1 => by
        have : l.head? = some 48 := by rw [← e, List.head?_append, e1]; rfl
        have := hh this
        rw [this] at hl
        have : m.length = 0 := by simpa using hl
        exact m0 (List.length_eq_zero_iff.1 this)
      have p1 := valS_pos hd.1 m0 mh
      have i1 := ih m (by omega) hd.1 m0 (fun e1 => absurd e1 mh)
      unfold decD
      rw [hv, if_neg (by omega), show (valS 0 m * 10 + (c.toNat - 48)) / 10 = valS 0 m from by omega, show (valS 0 m * 10 + (c.toNat - 48)) % 10 = c.toNat - 48 from by omega, i1, dg_back hd.2]
      exact e

/-- The digits of a number with a sign. -/
def digS (s : List UInt8) : List UInt8 := if s.head? = some 45 then s.tail else s
def numV (s : List UInt8) : Int := if s.head? = some 45 then -((valS 0 s.tail : Nat) : Int) else ((valS 0 s : Nat) : Int)
/-- A number of at most n digits, as Itoa writes it. -/
def numOk (n : Nat) (s : List UInt8) : Prop := digS s ≠ [] ∧ (digS s).length ≤ n ∧ (digS s).all dg = true ∧ ((digS s).head? = some 48 → s = [48])

theorem numV_lt {s : List UInt8} {n : Nat} (hd : (digS s).all dg = true) (hn : (digS s).length ≤ n) : -((10 ^ n : Nat) : Int) < numV s ∧ numV s < ((10 ^ n : Nat) : Int) := by
  have h1 := valS_lt hd
  have h2 : 10 ^ (digS s).length ≤ 10 ^ n := Nat.pow_le_pow_right (by omega) hn
  unfold numV
  unfold digS at h1 h2
  split
  · rename_i h; rw [if_pos h] at h1 h2; omega
  · rename_i h; rw [if_neg h] at h1 h2; omega

theorem atoi_num {s : List UInt8} (h0 : digS s ≠ []) (hn : (digS s).length ≤ 17) (hd : (digS s).all dg = true) : gAtoi s = some (numV s) := by
  unfold digS at h0 hn hd
  unfold numV
  by_cases h : s.head? = some 45
  · rw [if_pos h] at h0 hn hd ⊢
    cases s with
    | nil => cases h
    | cons c l =>
      have hc : c = 45 := by simpa using h
      subst hc
      rw [List.tail_cons] at h0 hn hd ⊢
      unfold gAtoi
      rw [if_pos (by simp; omega)]
      show (if ((45 : UInt8) == 45) = true then (decN l).map fun (m : Nat) => -(m : Int) else if ((45 : UInt8) == 43) = true then (decN l).map fun (m : Nat) => (m : Int) else (decN (45 :: l)).map fun (m : Nat) => (m : Int)) = _
      rw [if_pos (by decide)]
      unfold decN
      rw [if_neg (by simpa using h0), decF_val hd]; rfl
  · rw [if_neg h] at h0 hn hd ⊢
    exact atoi_val h0 (by omega) hd

theorem decD_zero : decD 0 = [48] := by unfold decD; rw [if_pos (by omega)]; rfl

/-- What Itoa writes of it is the string itself just where there is no zero that it does not need. -/
theorem itoa_num {s : List UInt8} (h0 : digS s ≠ []) (hd : (digS s).all dg = true) : itoaL (numV s) = s ↔ ((digS s).head? = some 48 → s = [48]) := by
  unfold digS at h0 hd ⊢
  unfold numV
  by_cases h : s.head? = some 45
  · rw [if_pos h] at h0 hd ⊢
    rw [if_pos h]
    cases s with
    | nil => cases h
    | cons c l =>
      have hc : c = 45 := by simpa using h
      subst hc
      rw [List.tail_cons] at h0 hd ⊢
      by_cases hh : l.head? = some 48
      · refine ⟨fun e => ?_, fun e => ?_⟩
        · exfalso
          unfold itoaL at e
          split at e
          · rename_i hneg
            have e1 : decD (valS 0 l) = l := by
              have : (-((valS 0 l : Nat) : Int)).natAbs = valS 0 l := by omega
              rw [this] at e
              simpa using e
            obtain ⟨k, hk⟩ : ∃ k, valS 0 l < 10 ^ (k + 1) := ⟨l.length, Nat.lt_of_lt_of_le (valS_lt hd) (Nat.pow_le_pow_right (by omega) (by omega))⟩
            have := (decD_spec k _ hk).2.2.2.2.1 (by rw [e1]; exact hh)
            omega
          · rename_i hneg
            have hv : valS 0 l = 0 := by omega
            rw [hv] at e
            rw [show (-((0 : Nat) : Int)).toNat = 0 from rfl, decD_zero] at e
            simp at e
        · have := e hh
          simp at this
      · refine ⟨fun _ e => absurd e hh, fun _ => ?_⟩
        have p1 := valS_pos hd h0 hh
        unfold itoaL
        rw [if_pos (by omega), show (-((valS 0 l : Nat) : Int)).natAbs = valS 0 l from by omega, decD_back l.length l (Nat.le_refl _) hd h0 (fun e => absurd e hh)]
  · rw [if_neg h] at h0 hd ⊢
    rw [if_neg h]
    have e1 : itoaL ((valS 0 s : Nat) : Int) = decD (valS 0 s) := by unfold itoaL; rw [if_neg (by omega), Int.toNat_natCast]
    rw [e1]
    refine ⟨fun e hh => ?_, fun e => decD_back s.length s (Nat.le_refl _) hd h0 e⟩
    obtain ⟨k, hk⟩ : ∃ k, valS 0 s < 10 ^ (k + 1) := ⟨s.length, Nat.lt_of_lt_of_le (valS_lt hd) (Nat.pow_le_pow_right (by omega) (by omega))⟩
    obtain ⟨_, _, _, _, a5, a6⟩ := decD_spec k _ hk
    have := a5 (by rw [e]; exact hh)
    rw [a6 this] at e
    exact e.symm
end Go.M
