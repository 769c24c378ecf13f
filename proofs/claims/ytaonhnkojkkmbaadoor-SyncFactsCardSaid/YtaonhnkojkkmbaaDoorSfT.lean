/- strings.Trim at an ASCII cutset, as its model tells it. Conditions: none. -/
import Derived.Test.YtaonhnkojkkmbaaDoorMSf
import Derived.Test.YtaonhnkojkkmbaaDoorPl
import Derived.Test.YtaonhnkojkkmbaaDoorPl2
namespace Go.M
open Go.Md Go.Pl

/-- A loop that goes a known way. -/
theorem fix_way {α ρ : Type} {F : (α → Option ρ) → α → Option ρ} {o : Option ρ} (st : Nat → α) (n : Nat) (more : ∀ k, k < n → ∀ next, F next (st k) = next (st (k + 1))) (stop : ∀ next, F next (st n) = o) : fix F (st 0) = o := by
  have key : ∀ m, m ≤ n → fix F (st (n - m)) = o := by
    intro m
    induction m with
    | zero => intro _; exact fix_done stop
    | succ m ih =>
      intro h
      rw [fix_goto (b := st (n - (m + 1) + 1)) (more _ (by omega)), show n - (m + 1) + 1 = n - m from by omega]
      exact ih (by omega)
  simpa using key n (Nat.le_refl _)

def setC (cs : List UInt8) : Nat → Bool := cs.foldl (fun m c => setA m c.toNat true) (fun _ => false)
theorem setC_iff (cs : List UInt8) (c : UInt8) : setC cs c.toNat = true ↔ c ∈ cs := by
  have key : ∀ (cs : List UInt8) (m : Nat → Bool), cs.foldl (fun m c => setA m c.toNat true) m c.toNat = true ↔ m c.toNat = true ∨ c ∈ cs := by
    intro cs
    induction cs with
    | nil => intro m; simp
    | cons d cs ih =>
      intro m
      rw [List.foldl_cons, ih, List.mem_cons]
      unfold setA
      by_cases h : c.toNat = d.toNat
      · have : c = d := UInt8.toNat_inj.1 h
        simp [this]
      · have : c ≠ d := fun e => h (by rw [e])
        simp [h, this]
  unfold setC
  rw [key]; simp

theorem set_step {cs : List UInt8} (hcs : ∀ c ∈ cs, c.toNat < 128) (hl : cs.length ≤ 1000) {k : Nat} (hk : k < cs.length) (next : Int × (Nat → Bool) → Option ((Nat → Bool) × Bool)) (m : Nat → Bool) :
    strings_makeASCIISet_l2 cs next (k : Int) m = next ((k + 1 : Nat), setA m cs[k].toNat true) := by
  have hc := hcs _ (List.getElem_mem hk)
  unfold strings_makeASCIISet_l2
  rw [cnd_if, if_pos (by omega), gOct_nat hk, bnd_pure, cnd_if, if_neg (by omega), gIx_nat (by omega), bnd_pure, gI_ok (by omega), bnd_pure]
  rfl
theorem set_eq {cs : List UInt8} (hcs : ∀ c ∈ cs, c.toNat < 128) (hl : cs.length ≤ 1000) : strings_makeASCIISet cs = some (setC cs, true) := by
  unfold strings_makeASCIISet
  refine fix_way (fun k => ((k : Int), setC (cs.take k))) cs.length (fun k hk next => ?_) (fun _ => ?_)
  · show strings_makeASCIISet_l2 cs next (k : Int) (setC (cs.take k)) = _
    rw [set_step hcs hl hk]
    congr 2
    unfold setC
    rw [List.take_add_one, List.getElem?_eq_getElem hk, List.foldl_append]; rfl
  · show strings_makeASCIISet_l2 cs _ (cs.length : Int) (setC (cs.take cs.length)) = _
    unfold strings_makeASCIISet_l2
    rw [cnd_if, if_neg (by omega), List.take_length]; rfl

theorem has_eq (cs : List UInt8) (c : UInt8) : strings_asciiSet_contains (setC cs) (c.toNat : Int) = some (decide (c ∈ cs), setC cs) := by
  have hc := c.toNat_lt
  unfold strings_asciiSet_contains
  rw [gIx_nat (by omega), bnd_pure]
  congr 2
  rw [Bool.eq_iff_iff, setC_iff]; simp

theorem trimR {cs : List UInt8} (s : List UInt8) (hs : s.length ≤ 1000) : ∃ r : List UInt8 × (Nat → Bool), strings_trimRightASCII s (setC cs) = some r ∧ (∃ suf, s = r.1 ++ suf ∧ ∀ c ∈ suf, c ∈ cs) ∧ r.2 = setC cs ∧ (∀ c, r.1.getLast? = some c → c ∉ cs) := by
  unfold strings_trimRightASCII
  refine fix_run (fun a => (∃ suf, s = a.1 ++ suf ∧ ∀ c ∈ suf, c ∈ cs) ∧ a.2 = setC cs) (fun a => a.1.length) (fun (r : List UInt8 × (Nat → Bool)) => (∃ suf, s = r.1 ++ suf ∧ ∀ c ∈ suf, c ∈ cs) ∧ r.2 = setC cs ∧ (∀ c, r.1.getLast? = some c → c ∉ cs)) ?_ (s, setC cs) ⟨⟨[], by simp, by simp⟩, rfl⟩
  rintro ⟨x, m⟩ ⟨⟨suf, h1, h2⟩, h3⟩
  simp only at h1 h3
  subst h3
  have hl : x.length ≤ 1000 := by have := congrArg List.length h1; rw [List.length_append] at this; omega
  rcases List.eq_nil_or_concat x with rfl | ⟨ini, c, rfl⟩
  · exact .inl ⟨([], setC cs), ⟨⟨suf, h1, h2⟩, rfl, by simp⟩, fun _ => rfl⟩
  · simp only [List.concat_eq_append, List.length_append, List.length_singleton] at *
    have e1 : gI (((ini.length + 1 : Nat) : Int) - 1) = some (ini.length : Int) := by rw [gI_ok (by omega)]; congr 1; omega
    have e2 : gOct (ini ++ [c]) (ini.length : Int) = some (c.toNat : Int) := by rw [gOct_nat (by simp)]; simp
    have e3 : gCut (ini ++ [c]) 0 (ini.length : Int) = some ini := by rw [gCut_to (by simp; omega)]; simp
    have key : ∀ next, strings_trimRightASCII_l1 next (ini ++ [c]) (setC cs) = if c ∈ cs then next (ini, setC cs) else some (ini ++ [c], setC cs) := by
      intro next
      unfold strings_trimRightASCII_l1
      rw [List.length_append, List.length_singleton, cnd_if, if_pos (by omega), e1, bnd_pure, e2, bnd_pure, has_eq, bnd_pure, bnd_pure, e3, bnd_pure]
      by_cases hd : c ∈ cs
      · rw [if_pos hd]; simp [hd]
      · rw [if_neg hd]; simp [hd]
    by_cases hd : c ∈ cs
    · refine .inr ⟨(ini, setC cs), ⟨⟨c :: suf, by rw [h1]; simp, fun d hd' => ?_⟩, rfl⟩, by simp, fun next => (key next).trans (if_pos hd)⟩
      rcases List.mem_cons.1 hd' with rfl | h
      · exact hd
      · exact h2 d h
    · exact .inl ⟨(ini ++ [c], setC cs), ⟨⟨suf, h1, h2⟩, rfl, fun d hd' => by simp at hd'; subst hd'; exact hd⟩, fun next => (key next).trans (if_neg hd)⟩

theorem trimL {cs : List UInt8} (s : List UInt8) (hs : s.length ≤ 1000) : ∃ r : List UInt8 × (Nat → Bool), strings_trimLeftASCII s (setC cs) = some r ∧ (∃ pre, s = pre ++ r.1 ∧ ∀ c ∈ pre, c ∈ cs) ∧ r.2 = setC cs ∧ (∀ c, r.1.head? = some c → c ∉ cs) := by
  unfold strings_trimLeftASCII
  refine fix_run (fun a => (∃ pre, s = pre ++ a.1 ∧ ∀ c ∈ pre, c ∈ cs) ∧ a.2 = setC cs) (fun a => a.1.length) (fun (r : List UInt8 × (Nat → Bool)) => (∃ pre, s = pre ++ r.1 ∧ ∀ c ∈ pre, c ∈ cs) ∧ r.2 = setC cs ∧ (∀ c, r.1.head? = some c → c ∉ cs)) ?_ (s, setC cs) ⟨⟨[], by simp, by simp⟩, rfl⟩
  rintro ⟨x, m⟩ ⟨⟨pre, h1, h2⟩, h3⟩
  simp only at h1 h3
  subst h3
  cases x with
  | nil => exact .inl ⟨([], setC cs), ⟨⟨pre, h1, h2⟩, rfl, by simp⟩, fun _ => rfl⟩
  | cons c x =>
    have e2 : gOct (c :: x) 0 = some (c.toNat : Int) := by rw [gOct_ok (by omega) (by simp)]; rfl
    have e3 : gCut (c :: x) 1 ((c :: x).length : Nat) = some x := by rw [gCut_from (by rw [List.length_cons]; omega)]; rfl
    have key : ∀ next, strings_trimLeftASCII_l1 next (c :: x) (setC cs) = if c ∈ cs then next (x, setC cs) else some (c :: x, setC cs) := by
      intro next
      unfold strings_trimLeftASCII_l1
      rw [cnd_if, if_pos (by rw [List.length_cons]; omega), e2, bnd_pure, has_eq, bnd_pure, e3, bnd_pure]
      by_cases hd : c ∈ cs
      · rw [if_pos hd]; simp [hd]
      · rw [if_neg hd]; simp [hd]
    by_cases hd : c ∈ cs
    · refine .inr ⟨(x, setC cs), ⟨⟨pre ++ [c], by rw [h1]; simp, fun d hd' => ?_⟩, rfl⟩, by simp, fun next => (key next).trans (if_pos hd)⟩
      rcases List.mem_append.1 hd' with h | h
      · exact h2 d h
      · rw [List.mem_singleton.1 h]; exact hd
    · exact .inl ⟨(c :: x, setC cs), ⟨⟨pre, h1, h2⟩, rfl, fun d hd' => by simp at hd'; subst hd'; exact hd⟩, fun next => (key next).trans (if_neg hd)⟩

theorem trim_ok {cs : List UInt8} (hcs : ∀ c ∈ cs, c.toNat < 128) (h2 : 2 ≤ cs.length) (hcl : cs.length ≤ 1000) (s : List UInt8) (hs : s.length ≤ 1000) : ∃ r, strings_Trim s cs = some r ∧ (r = [] ↔ ∀ c ∈ s, c ∈ cs) := by
  unfold strings_Trim
  by_cases h0 : s = []
  · subst h0; exact ⟨[], rfl, by simp⟩
  · have hc0 : ¬ cs = [] := fun h => by rw [h] at h2; simp at h2
    rw [cnd_if, if_neg h0, cnd_if, if_neg hc0, cnd_if, if_neg (by omega)]
    obtain ⟨r, hr, ⟨suf, h1, h2⟩, h3, h4⟩ := trimR (cs := cs) s hs
    have hl : r.1.length ≤ 1000 := by have := congrArg List.length h1; rw [List.length_append] at this; omega
    obtain ⟨q, hq, ⟨pre, k1, k2⟩, _, k4⟩ := trimL (cs := cs) r.1 hl
    refine ⟨q.1, ?_, fun h c hc => ?_, fun h => ?_⟩
    · unfold strings_Trim_j1
      rw [set_eq hcs hcl, bnd_pure, cnd_true, hr, bnd_pure, h3, hq, bnd_pure]
    · rw [h1, k1, h] at hc
      simp only [List.append_nil, List.mem_append] at hc
      rcases hc with h | h
      · exact k2 c h
      · exact h2 c h
    · cases hq1 : q.1 with
      | nil => rfl
      | cons c x =>
        exact absurd (h c (by rw [h1, k1, hq1]; simp)) (k4 c (by rw [hq1]; rfl))
end Go.M
