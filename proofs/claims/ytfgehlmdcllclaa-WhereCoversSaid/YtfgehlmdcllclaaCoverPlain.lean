/- The cells that cover a box: depth first and level by level, in plain Lean. Conditions: none. -/
import Derived.Test.YtfgehlmdcllclaaWherePlain
namespace Go.Vc.Where
open Go

abbrev Bx := Int × Int × Int × Int

def quarterB (b : Bx) (q : Int) : Bx :=
  (if 2 ≤ q then b.1 + (b.2.2.1 - b.1 + 1) / 2 else b.1, if q % 2 = 1 then b.2.1 + (b.2.2.2 - b.2.1 + 1) / 2 else b.2.1,
   if 2 ≤ q then b.2.2.1 else b.1 + (b.2.2.1 - b.1 + 1) / 2 - 1, if q % 2 = 1 then b.2.2.2 else b.2.1 + (b.2.2.2 - b.2.1 + 1) / 2 - 1)

def wholeB : Bx := (-90000000, -180000000, 90000000, 179999999)

/-- A cell that is wide enough for k more quarterings. -/
def Wide (k : Nat) (b : Bx) : Prop := (-90000000 ≤ b.1 ∧ b.2.2.1 ≤ 90000000) ∧ (-180000000 ≤ b.2.1 ∧ b.2.2.2 ≤ 179999999) ∧ (10 * 2 ^ k : Nat) ≤ b.2.2.1 - b.1 + 1 ∧ (10 * 2 ^ k : Nat) ≤ b.2.2.2 - b.2.1 + 1

theorem wide_pos {k : Nat} {b : Bx} (h : Wide k b) : (-90000000 ≤ b.1 ∧ b.2.2.1 ≤ 90000000) ∧ (-180000000 ≤ b.2.1 ∧ b.2.2.2 ≤ 179999999) ∧ b.1 + 9 ≤ b.2.2.1 ∧ b.2.1 + 9 ≤ b.2.2.2 := by
  obtain ⟨h1, h2, h3, h4⟩ := h
  have := Nat.one_le_two_pow (n := k)
  omega

theorem wide_quarter {k : Nat} {b : Bx} (h : Wide (k + 1) b) (q : Int) : Wide k (quarterB b q) := by
  obtain ⟨h1, h2, h3, h4⟩ := h
  have h5 : 10 * 2 ^ (k + 1) = 2 * (10 * 2 ^ k) := by rw [Nat.pow_succ]; omega
  rw [h5] at h3 h4
  generalize 10 * 2 ^ k = t at *
  unfold Wide quarterB
  simp only
  split <;> split <;> omega

theorem wide_mono {k j : Nat} {b : Bx} (h : Wide k b) (hj : j ≤ k) : Wide j b := by
  obtain ⟨h1, h2, h3, h4⟩ := h
  have : 2 ^ j ≤ 2 ^ k := Nat.pow_le_pow_right (by omega) hj
  exact ⟨h1, h2, by omega, by omega⟩

theorem wide_whole : Wide 24 wholeB := by unfold Wide wholeB; simp

theorem wide_box {k : Nat} {b : Bx} (h : Wide k b) : boxS b.1 b.2.1 b.2.2.1 b.2.2.2 = 0 := by
  have := wide_pos h
  unfold boxS placeS
  repeat' split
  all_goals omega

def meetsB (a b : Bx) : Bool := meetsS a.1 a.2.1 a.2.2.1 a.2.2.2 b.1 b.2.1 b.2.2.1 b.2.2.2

/-- Where a cell meets a box, a quarter of it does. -/
theorem meets_quarter {k : Nat} {c b : Bx} (h : Wide k c) (hb : boxS b.1 b.2.1 b.2.2.1 b.2.2.2 = 0) (hm : meetsB c b = true) : meetsB (quarterB c 0) b = true ∨ meetsB (quarterB c 1) b = true ∨ meetsB (quarterB c 2) b = true ∨ meetsB (quarterB c 3) b = true := by
  have hw := wide_pos h
  have hk := box_ok hb
  unfold meetsB meetsS quarterB eastS at *
  simp at hm ⊢
  obtain ⟨h1, h2⟩ := hm
  rcases Int.lt_or_le b.1 (c.1 + (c.2.2.1 - c.1 + 1) / 2) with hlat | hlat
  · rcases h2 with h2 | h2
    · rcases Int.lt_or_le ((b.2.1 - c.2.1) % 360000000) ((c.2.2.2 - c.2.1 + 1) / 2) with hlon | hlon
      · left; omega
      · right; left; omega
    · left; omega
  · rcases h2 with h2 | h2
    · rcases Int.lt_or_le ((b.2.1 - c.2.1) % 360000000) ((c.2.2.2 - c.2.1 + 1) / 2) with hlon | hlon
      · right; right; left; omega
      · right; right; right; omega
    · right; right; left; omega

theorem meets_whole {b : Bx} (hb : boxS b.1 b.2.1 b.2.2.1 b.2.2.2 = 0) : meetsB wholeB b = true := by
  have hk := box_ok hb
  unfold meetsB meetsS wholeB eastS
  simp
  omega

/-! ### the cells, depth first -/

def dg (q : Nat) : UInt8 := UInt8.ofNat (48 + q)

/-- With an end behind 1000 cells. -/
def coverG (b : Bx) : Nat → List UInt8 → Bx → List (List UInt8) → List (List UInt8)
  | 0, pre, c, acc => if 1000 < acc.length ∨ meetsB c b = false then acc else acc ++ [pre]
  | k + 1, pre, c, acc => if 1000 < acc.length ∨ meetsB c b = false then acc else
    coverG b k (pre ++ [51]) (quarterB c 3) (coverG b k (pre ++ [50]) (quarterB c 2) (coverG b k (pre ++ [49]) (quarterB c 1) (coverG b k (pre ++ [48]) (quarterB c 0) acc)))

theorem coverG_full {b c : Bx} {k : Nat} {pre : List UInt8} {acc : List (List UInt8)} (h : 1000 < acc.length) : coverG b k pre c acc = acc := by
  cases k <;> (unfold coverG; rw [if_pos (.inl h)])
theorem coverG_miss {b c : Bx} {k : Nat} {pre : List UInt8} {acc : List (List UInt8)} (h : meetsB c b = false) : coverG b k pre c acc = acc := by
  cases k <;> (unfold coverG; rw [if_pos (.inr h)])
theorem coverG_leaf {b c : Bx} {k : Nat} {pre : List UInt8} {acc : List (List UInt8)} (hk : k = 0) (h : ¬ 1000 < acc.length) (hm : meetsB c b = true) : coverG b k pre c acc = acc ++ [pre] := by
  subst hk
  unfold coverG; rw [if_neg (by simp [hm]; omega)]
theorem coverG_node {b c : Bx} {k : Nat} {pre : List UInt8} {acc : List (List UInt8)} (h : ¬ 1000 < acc.length) (hm : meetsB c b = true) : coverG b (k + 1) pre c acc =
    coverG b k (pre ++ [51]) (quarterB c 3) (coverG b k (pre ++ [50]) (quarterB c 2) (coverG b k (pre ++ [49]) (quarterB c 1) (coverG b k (pre ++ [48]) (quarterB c 0) acc))) := by
  rw [coverG, if_neg (by simp [hm]; omega)]

def coverF (b : Bx) (m : Int) : Int := firstS [boxS b.1 b.2.1 b.2.2.1 b.2.2.2, if 0 ≤ m ∧ m ≤ 24 then 0 else 2, if (coverG b m.toNat [] wholeB []).length ≤ 1000 then 0 else 4]
def coverR (b : Bx) (m : Int) : List (List UInt8) := if coverF b m = 0 then coverG b m.toNat [] wholeB [] else []

theorem coverG_le (b : Bx) : ∀ (k : Nat) (pre : List UInt8) (c : Bx) (acc : List (List UInt8)), acc.length ≤ 1001 → (coverG b k pre c acc).length ≤ 1001
  | 0, pre, c, acc, h => by
    unfold coverG
    split
    · exact h
    · simp; omega
  | k + 1, pre, c, acc, h => by
    unfold coverG
    split
    · exact h
    · exact coverG_le b k _ _ _ (coverG_le b k _ _ _ (coverG_le b k _ _ _ (coverG_le b k _ _ _ h)))

/-- Without. -/
def dfs (b : Bx) : Nat → List UInt8 → Bx → List (List UInt8)
  | 0, pre, c => if meetsB c b = true then [pre] else []
  | k + 1, pre, c => if meetsB c b = true then dfs b k (pre ++ [48]) (quarterB c 0) ++ dfs b k (pre ++ [49]) (quarterB c 1) ++ dfs b k (pre ++ [50]) (quarterB c 2) ++ dfs b k (pre ++ [51]) (quarterB c 3) else []

/-- All of it, or more than 1000 and no less of it. -/
def Ends (acc d r : List (List UInt8)) : Prop := r = acc ++ d ∨ (1000 < r.length ∧ 1000 < acc.length + d.length)

theorem Ends.seq {acc d1 d2 r1 r2 : List (List UInt8)} (h1 : Ends acc d1 r1) (h2 : Ends r1 d2 r2) (hl : r1.length ≤ r2.length) : Ends acc (d1 ++ d2) r2 := by
  unfold Ends at *
  rcases h1 with rfl | ⟨h1, h1'⟩
  · rcases h2 with rfl | ⟨h2, h2'⟩
    · left; simp
    · right; simp at *; omega
  · right; simp at *; omega

theorem coverG_ge (b : Bx) : ∀ (k : Nat) (pre : List UInt8) (c : Bx) (acc : List (List UInt8)), acc.length ≤ (coverG b k pre c acc).length
  | 0, pre, c, acc => by
    unfold coverG
    split <;> simp
  | k + 1, pre, c, acc => by
    unfold coverG
    split
    · exact Nat.le_refl _
    · exact Nat.le_trans (coverG_ge b k _ _ _) (Nat.le_trans (coverG_ge b k _ _ _) (Nat.le_trans (coverG_ge b k _ _ _) (coverG_ge b k _ _ _)))

theorem coverG_ends (b : Bx) : ∀ (k : Nat) (pre : List UInt8) (c : Bx) (acc : List (List UInt8)), Ends acc (dfs b k pre c) (coverG b k pre c acc)
  | 0, pre, c, acc => by
    unfold coverG dfs
    by_cases hm : meetsB c b = true
    · rw [if_pos hm]
      by_cases hl : 1000 < acc.length
      · rw [if_pos (.inl hl)]; right; simp; omega
      · rw [if_neg (by simp [hm]; omega)]; left; rfl
    · rw [if_neg hm, if_pos (.inr (by simpa using hm))]; left; simp
  | k + 1, pre, c, acc => by
    unfold coverG dfs
    by_cases hm : meetsB c b = true
    · rw [if_pos hm]
      by_cases hl : 1000 < acc.length
      · rw [if_pos (.inl hl)]; right; simp only [List.length_append]; omega
      · rw [if_neg (by simp [hm]; omega)]
        exact (((coverG_ends b k _ _ _).seq (coverG_ends b k _ _ _) (coverG_ge b k _ _ _)).seq (coverG_ends b k _ _ _) (coverG_ge b k _ _ _)).seq (coverG_ends b k _ _ _) (coverG_ge b k _ _ _)
    · rw [if_neg hm, if_pos (.inr (by simpa using hm))]; left; simp

/-! ### level by level -/

def partB (c : Bx) (d : UInt8) : Bx :=
  (if d = 48 ∨ d = 49 then c.1 else c.1 + (c.2.2.1 - c.1 + 1) / 2, if d = 48 ∨ d = 50 then c.2.1 else c.2.1 + (c.2.2.2 - c.2.1 + 1) / 2,
   if d = 48 ∨ d = 49 then c.1 + (c.2.2.1 - c.1 + 1) / 2 - 1 else c.2.2.1, if d = 48 ∨ d = 50 then c.2.1 + (c.2.2.2 - c.2.1 + 1) / 2 - 1 else c.2.2.2)

def cellB (s : List UInt8) : Bx := s.foldl partB wholeB

theorem cell_snoc (s : List UInt8) (d : UInt8) : cellB (s ++ [d]) = partB (cellB s) d := by simp [cellB]

theorem part_quarter (c : Bx) : partB c 48 = quarterB c 0 ∧ partB c 49 = quarterB c 1 ∧ partB c 50 = quarterB c 2 ∧ partB c 51 = quarterB c 3 := by
  simp [partB, quarterB]

def kids (b : Bx) (s : List UInt8) : List (List UInt8) := [s ++ [48], s ++ [49], s ++ [50], s ++ [51]].filter fun t => meetsB (cellB t) b

def level (b : Bx) : Nat → List (List UInt8)
  | 0 => [[]]
  | i + 1 => (level b i).flatMap (kids b)

theorem level_meets {b : Bx} (hb : boxS b.1 b.2.1 b.2.2.1 b.2.2.2 = 0) : ∀ i, ∀ s ∈ level b i, meetsB (cellB s) b = true
  | 0, s, h => by simp [level] at h; subst h; exact meets_whole hb
  | i + 1, s, h => by
    simp only [level, List.mem_flatMap, kids, List.mem_filter] at h
    obtain ⟨t, _, _, h⟩ := h
    exact h

theorem level_len (b : Bx) : ∀ i, ∀ s ∈ level b i, s.length = i
  | 0, s, h => by simp [level] at h; subst h; rfl
  | i + 1, s, h => by
    simp only [level, List.mem_flatMap, kids, List.mem_filter] at h
    obtain ⟨t, ht, h, _⟩ := h
    have := level_len b i t ht
    simp at h
    rcases h with rfl | rfl | rfl | rfl <;> simp [this]

theorem level_wide {b : Bx} : ∀ i, i ≤ 24 → ∀ s ∈ level b i, Wide (24 - i) (cellB s)
  | 0, _, s, h => by simp [level] at h; subst h; exact wide_whole
  | i + 1, hi, s, h => by
    simp only [level, List.mem_flatMap, kids, List.mem_filter] at h
    obtain ⟨t, ht, h, _⟩ := h
    have := level_wide i (by omega) t ht
    rw [show 24 - i = 24 - (i + 1) + 1 from by omega] at this
    obtain ⟨q0, q1, q2, q3⟩ := part_quarter (cellB t)
    simp at h
    rcases h with rfl | rfl | rfl | rfl <;> rw [cell_snoc]
    · rw [q0]; exact wide_quarter this 0
    · rw [q1]; exact wide_quarter this 1
    · rw [q2]; exact wide_quarter this 2
    · rw [q3]; exact wide_quarter this 3

theorem dfs_kids (b : Bx) (k : Nat) (s : List UInt8) (hm : meetsB (cellB s) b = true) : dfs b (k + 1) s (cellB s) = (kids b s).flatMap fun t => dfs b k t (cellB t) := by
  have hz : ∀ t, meetsB (cellB t) b = false → dfs b k t (cellB t) = [] := by
    intro t h
    cases k <;> simp [dfs, h]
  have hf : ∀ l : List (List UInt8), ((l.filter fun t => meetsB (cellB t) b).flatMap fun t => dfs b k t (cellB t)) = l.flatMap fun t => dfs b k t (cellB t) := by
    intro l
    induction l with
    | nil => rfl
    | cons t r ih =>
      rw [List.filter_cons]
      by_cases h : meetsB (cellB t) b = true
      · rw [if_pos h, List.flatMap_cons, List.flatMap_cons, ih]
      · rw [if_neg h, ih, List.flatMap_cons, hz t (by simpa using h)]; rfl
  obtain ⟨q0, q1, q2, q3⟩ := part_quarter (cellB s)
  rw [kids, hf, dfs, if_pos hm]
  simp [cell_snoc, q0, q1, q2, q3]

theorem fm_congr {α β : Type} {f g : α → List β} : ∀ l : List α, (∀ x ∈ l, f x = g x) → l.flatMap f = l.flatMap g
  | [], _ => rfl
  | a :: r, h => by rw [List.flatMap_cons, List.flatMap_cons, h a (by simp), fm_congr r (fun x hx => h x (by simp [hx]))]

theorem dfs_level {b : Bx} (hb : boxS b.1 b.2.1 b.2.2.1 b.2.2.2 = 0) (n : Nat) : ∀ i, i ≤ n → dfs b n [] wholeB = (level b i).flatMap fun s => dfs b (n - i) s (cellB s)
  | 0, _ => by simp [level, cellB]
  | i + 1, hi => by
    rw [dfs_level hb n i (by omega), level, List.flatMap_assoc]
    refine fm_congr _ fun s hs => ?_
    rw [show n - i = n - (i + 1) + 1 from by omega, dfs_kids b _ s (level_meets hb i s hs)]

theorem dfs_all {b : Bx} (hb : boxS b.1 b.2.1 b.2.2.1 b.2.2.2 = 0) (n : Nat) : dfs b n [] wholeB = level b n := by
  rw [dfs_level hb n n (Nat.le_refl _), Nat.sub_self]
  have : ∀ l : List (List UInt8), (∀ s ∈ l, meetsB (cellB s) b = true) → (l.flatMap fun s => dfs b 0 s (cellB s)) = l := by
    intro l
    induction l with
    | nil => simp
    | cons t r ih => intro h; rw [List.flatMap_cons, ih (fun s hs => h s (by simp [hs])), dfs, if_pos (h t (by simp))]; rfl
  exact this _ (level_meets hb n)

theorem level_grows {b : Bx} (hb : boxS b.1 b.2.1 b.2.2.1 b.2.2.2 = 0) (i : Nat) (hi : i + 1 ≤ 24) : (level b i).length ≤ (level b (i + 1)).length := by
  rw [level]
  have : ∀ l : List (List UInt8), (∀ s ∈ l, 1 ≤ (kids b s).length) → l.length ≤ (l.flatMap (kids b)).length := by
    intro l
    induction l with
    | nil => simp
    | cons t r ih =>
      intro h
      have h1 := ih (fun s hs => h s (by simp [hs]))
      have h2 := h t (by simp)
      simp only [List.flatMap_cons, List.length_append, List.length_cons]
      omega
  refine this _ fun s hs => ?_
  have hm := level_meets hb i s hs
  have hw := level_wide i (by omega) s hs
  obtain ⟨q0, q1, q2, q3⟩ := part_quarter (cellB s)
  have hk := meets_quarter hw hb hm
  rw [← q0, ← q1, ← q2, ← q3, ← cell_snoc, ← cell_snoc, ← cell_snoc, ← cell_snoc] at hk
  unfold kids
  rcases hk with h | h | h | h <;> exact List.length_pos_of_mem (List.mem_filter.2 ⟨by simp, h⟩)

theorem level_mono {b : Bx} (hb : boxS b.1 b.2.1 b.2.2.1 b.2.2.2 = 0) (i : Nat) : ∀ j, i + j ≤ 24 → (level b i).length ≤ (level b (i + j)).length
  | 0, _ => Nat.le_refl _
  | j + 1, h => Nat.le_trans (level_mono hb i j (by omega)) (level_grows hb (i + j) (by omega))

/-- What the two answers have to do with each other. -/
theorem cover_same {b : Bx} (hb : boxS b.1 b.2.1 b.2.2.1 b.2.2.2 = 0) {n : Nat} (hn : n ≤ 24) {W : List (List UInt8)} (hW : W = level b n ∨ (4000 < W.length ∧ ∃ i, i ≤ n ∧ W.length ≤ (level b i).length)) :
    (W.length ≤ 1000 → coverG b n [] wholeB [] = W) ∧ (1000 < W.length ↔ 1000 < (coverG b n [] wholeB []).length) := by
  have he := coverG_ends b n [] wholeB []
  rw [dfs_all hb] at he
  unfold Ends at he
  simp only [List.nil_append, List.length_nil, Nat.zero_add] at he
  have hl : 1000 < W.length ↔ 1000 < (level b n).length := by
    rcases hW with rfl | ⟨h, i, hi, hWi⟩
    · rfl
    · have := level_mono hb i (n - i) (by omega)
      rw [show i + (n - i) = n from by omega] at this
      omega
  rcases he with he | ⟨h1, h2⟩
  · rw [he]
    refine ⟨fun h => ?_, hl⟩
    rcases hW with rfl | ⟨h', _⟩
    · rfl
    · omega
  · refine ⟨fun h => ?_, by omega⟩
    omega

/-! ### the reference's walk over the levels, with its end behind 4000 -/

theorem wide_part {k : Nat} {c : Bx} (h : Wide (k + 1) c) (d : UInt8) : Wide k (partB c d) := by
  have e : ∃ q : Int, partB c d = quarterB c q := by
    by_cases h1 : d = 48 ∨ d = 49 <;> by_cases h2 : d = 48 ∨ d = 50
    · exact ⟨0, by simp [partB, quarterB, h1, h2]⟩
    · exact ⟨1, by simp [partB, quarterB, h1, h2]⟩
    · exact ⟨2, by simp [partB, quarterB, h1, h2]⟩
    · exact ⟨3, by simp [partB, quarterB, h1, h2]⟩
  obtain ⟨q, e⟩ := e
  rw [e]; exact wide_quarter h q

theorem foldl_wide : ∀ (s : List UInt8) (k : Nat) (c : Bx), Wide (k + s.length) c → Wide k (s.foldl partB c)
  | [], _, _, h => h
  | d :: r, k, c, h => foldl_wide r k (partB c d) (wide_part (by rw [Nat.add_assoc]; exact h) d)

theorem cell_wide {s : List UInt8} (h : s.length ≤ 24) : Wide (24 - s.length) (cellB s) := foldl_wide s _ _ (by rw [show 24 - s.length + s.length = 24 from by omega]; exact wide_whole)

theorem cell_take {s : List UInt8} {k : Nat} (h : k < s.length) : cellB (s.take (k + 1)) = partB (cellB (s.take k)) (s.getD k 0) := by
  rw [List.take_add_one, List.getElem?_eq_getElem h, List.getD_eq_getElem?_getD, List.getElem?_eq_getElem h]
  exact cell_snoc _ _

def truncW (b : Bx) : List (List UInt8) → List (List UInt8) → List (List UInt8) × Bool
  | [], acc => (acc, false)
  | s :: r, acc => if 4000 < (acc ++ kids b s).length then (acc ++ kids b s, true) else truncW b r (acc ++ kids b s)

def lvW (b : Bx) : Nat → List (List UInt8) → List (List UInt8)
  | 0, cs => cs
  | i + 1, cs => bif (truncW b cs []).2 then (truncW b cs []).1 else lvW b i (truncW b cs []).1

theorem truncW_drop (b : Bx) (cs acc : List (List UInt8)) (j : Nat) (hj : j < cs.length) : truncW b (cs.drop j) acc = if 4000 < (acc ++ kids b cs[j]).length then (acc ++ kids b cs[j], true) else truncW b (cs.drop (j + 1)) (acc ++ kids b cs[j]) := by
  rw [List.drop_eq_getElem_cons hj, truncW]

theorem truncW_no (b : Bx) : ∀ (cs acc : List (List UInt8)), (truncW b cs acc).2 = false → (truncW b cs acc).1 = acc ++ cs.flatMap (kids b)
  | [], acc, _ => by simp [truncW]
  | s :: r, acc, h => by
    unfold truncW at h ⊢
    split at h
    · simp at h
    · rename_i hc
      rw [if_neg hc, truncW_no b r _ h]; simp

theorem truncW_yes (b : Bx) : ∀ (cs acc : List (List UInt8)), (truncW b cs acc).2 = true → 4000 < (truncW b cs acc).1.length ∧ (truncW b cs acc).1.length ≤ (acc ++ cs.flatMap (kids b)).length
  | [], acc, h => by simp [truncW] at h
  | s :: r, acc, h => by
    unfold truncW at h ⊢
    split at h
    · rename_i hc
      rw [if_pos hc]
      refine ⟨hc, ?_⟩
      simp only [List.length_append, List.flatMap_cons]; omega
    · rename_i hc
      rw [if_neg hc]
      have := truncW_yes b r _ h
      simpa using this

theorem lvW_level (b : Bx) : ∀ (k i : Nat), lvW b k (level b i) = level b (i + k) ∨ (4000 < (lvW b k (level b i)).length ∧ ∃ j, j ≤ i + k ∧ (lvW b k (level b i)).length ≤ (level b j).length)
  | 0, i => .inl rfl
  | k + 1, i => by
    rw [lvW]
    cases h : (truncW b (level b i) []).2 with
    | true =>
      rw [cond_true]
      have := truncW_yes b _ _ h
      exact .inr ⟨this.1, i + 1, by omega, by simpa [level] using this.2⟩
    | false =>
      rw [cond_false, truncW_no b _ _ h]
      have := lvW_level b k (i + 1)
      rw [show i + (k + 1) = i + 1 + k from by omega]
      exact this

/-- The reference's answer. -/
def coverW (b : Bx) (n : Nat) : List (List UInt8) := lvW b n [[]]

theorem coverW_fits (b : Bx) (n : Nat) : coverW b n = level b n ∨ (4000 < (coverW b n).length ∧ ∃ i, i ≤ n ∧ (coverW b n).length ≤ (level b i).length) := by
  have := lvW_level b n 0
  rw [Nat.zero_add] at this
  exact this

theorem kids_le (b : Bx) (s : List UInt8) : (kids b s).length ≤ 4 := by
  unfold kids
  exact Nat.le_trans (List.length_filter_le _ _) (by simp)

def fourS (s : List UInt8) : List (List UInt8) := [s ++ [48], s ++ [49], s ++ [50], s ++ [51]]
def digits : List (List UInt8) := [[48], [49], [50], [51]]

theorem fourS_at (s : List UInt8) {q : Nat} (h : q < digits.length) : (fourS s)[q]? = some (s ++ digits[q]) := by
  have h' : q < 4 := h
  rcases q with _ | _ | _ | _ | q <;> first | rfl | omega

def kidsQ (b : Bx) (A : List (List UInt8)) (s : List UInt8) (q : Nat) : List (List UInt8) := A ++ ((fourS s).take q).filter fun t => meetsB (cellB t) b

theorem kidsQ_0 (b : Bx) (A : List (List UInt8)) (s : List UInt8) : A = kidsQ b A s 0 := by simp [kidsQ]
theorem kidsQ_yes {b : Bx} {A : List (List UInt8)} {s : List UInt8} {q : Nat} (h : q < digits.length) (hm : meetsB (cellB (s ++ digits[q])) b = true) : kidsQ b A s q ++ [s ++ digits[q]] = kidsQ b A s (q + 1) := by
  rw [kidsQ, kidsQ, List.take_add_one, fourS_at s h]
  simp [List.filter_append, hm]
theorem kidsQ_no {b : Bx} {A : List (List UInt8)} {s : List UInt8} {q : Nat} (h : q < digits.length) (hm : meetsB (cellB (s ++ digits[q])) b = false) : kidsQ b A s q = kidsQ b A s (q + 1) := by
  rw [kidsQ, kidsQ, List.take_add_one, fourS_at s h]
  simp [List.filter_append, hm]
theorem kidsQ_le (b : Bx) (A : List (List UInt8)) (s : List UInt8) (q : Nat) : (kidsQ b A s q).length ≤ A.length + 4 := by
  have h1 := List.length_filter_le (fun t => meetsB (cellB t) b) ((fourS s).take q)
  have h2 : ((fourS s).take q).length ≤ 4 := by simp [fourS]; omega
  rw [kidsQ, List.length_append]; omega
theorem kidsQ_all {b : Bx} {l : List (List UInt8)} {j q : Nat} (hj : j < l.length) (hq : 4 ≤ q) : kidsQ b ((l.take j).flatMap (kids b)) l[j] q = (l.take (j + 1)).flatMap (kids b) := by
  have e : (fourS l[j]).take q = fourS l[j] := List.take_of_length_le (by simpa [fourS] using hq)
  rw [kidsQ, e, List.take_add_one, List.getElem?_eq_getElem hj, List.flatMap_append]
  simp [kids, fourS]
theorem trunc_more {b : Bx} {l : List (List UInt8)} {j : Nat} {r : List (List UInt8) × Bool} (hj : j < l.length) (h : truncW b (l.drop j) ((l.take j).flatMap (kids b)) = r) (hl : ((l.take (j + 1)).flatMap (kids b)).length ≤ 4000) : truncW b (l.drop (j + 1)) ((l.take (j + 1)).flatMap (kids b)) = r := by
  have e : (l.take (j + 1)).flatMap (kids b) = (l.take j).flatMap (kids b) ++ kids b l[j] := by
    rw [List.take_add_one, List.getElem?_eq_getElem hj, List.flatMap_append]; simp
  rw [e] at hl ⊢
  rw [truncW_drop b l _ j hj, if_neg (by omega)] at h
  exact h
theorem trunc_end {b : Bx} {l : List (List UInt8)} {j : Nat} {r : List (List UInt8) × Bool} (hj : j < l.length) (h : truncW b (l.drop j) ((l.take j).flatMap (kids b)) = r) (hl : 4000 < ((l.take (j + 1)).flatMap (kids b)).length) : r = ((l.take (j + 1)).flatMap (kids b), true) := by
  have e : (l.take (j + 1)).flatMap (kids b) = (l.take j).flatMap (kids b) ++ kids b l[j] := by
    rw [List.take_add_one, List.getElem?_eq_getElem hj, List.flatMap_append]; simp
  rw [e] at hl ⊢
  rw [truncW_drop b l _ j hj, if_pos (by omega)] at h
  exact h.symm
theorem trunc_all {b : Bx} {l : List (List UInt8)} {j : Nat} {r : List (List UInt8) × Bool} (hj : l.length ≤ j) (h : truncW b (l.drop j) ((l.take j).flatMap (kids b)) = r) : r = (l.flatMap (kids b), false) := by
  rw [List.drop_of_length_le hj, List.take_of_length_le hj] at h
  exact h.symm
theorem level_end {b : Bx} {i j : Nat} (hj : (level b i).length ≤ j) : ((level b i).take j).flatMap (kids b) = level b (i + 1) := by
  rw [List.take_of_length_le hj]; rfl
theorem lvW_end {b : Bx} {k : Nat} {cs a c : List (List UInt8)} (hk : 0 < k) (h : lvW b k cs = c) (ht : truncW b cs [] = (a, true)) : c = a := by
  obtain ⟨k, rfl⟩ : ∃ j, k = j + 1 := ⟨k - 1, by omega⟩
  rw [lvW, ht] at h
  exact h.symm
theorem lvW_next {b : Bx} {n i : Nat} {cs a c : List (List UInt8)} (hk : i < n) (h : lvW b (n - i) cs = c) (ht : truncW b cs [] = (a, false)) : lvW b (n - (i + 1)) a = c := by
  rw [show n - i = n - (i + 1) + 1 from by omega, lvW, ht] at h
  exact h
theorem lvW_zero {b : Bx} {k : Nat} {cs c : List (List UInt8)} (hk : k = 0) (h : lvW b k cs = c) : c = cs := by subst hk; exact h.symm

theorem coverR_le (b : Bx) (m : Int) : (coverR b m).length ≤ 1001 := by
  unfold coverR
  split
  · exact coverG_le b _ _ _ _ (by simp)
  · simp

theorem told_cover1 {b : Bx} {m c : Int} {ys : List (List UInt8)} (hc : c = if 0 ≤ m ∧ m ≤ 24 then 0 else 2) (hF : ¬ firstS [boxS b.1 b.2.1 b.2.2.1 b.2.2.2, c] = 0) :
    decide (coverR b m = (if firstS [boxS b.1 b.2.1 b.2.2.1 b.2.2.2, c] = 0 then ys else []) ∧ coverF b m = firstS [boxS b.1 b.2.1 b.2.2.1 b.2.2.2, c]) = true := by
  have e : coverF b m = firstS [boxS b.1 b.2.1 b.2.2.1 b.2.2.2, c] := by
    subst hc
    unfold coverF
    simp only [firstS] at hF ⊢
    split
    · rename_i h
      rw [if_pos h] at hF
      split
      · rename_i h2; rw [if_pos h2] at hF; exact absurd rfl hF
      · rfl
    · rfl
  rw [if_neg hF]
  exact decide_eq_true ⟨by unfold coverR; rw [e, if_neg hF], e⟩

theorem told_cover2 {b : Bx} {m : Int} (hb : boxS b.1 b.2.1 b.2.2.1 b.2.2.2 = 0) (hm : 0 ≤ m ∧ m ≤ 24) :
    decide (coverR b m = (if (if decide (((coverW b m.toNat).length : Int) ≤ 1000) = true then (0 : Int) else 4) = 0 then coverW b m.toNat else []) ∧ coverF b m = (if decide (((coverW b m.toNat).length : Int) ≤ 1000) = true then 0 else 4)) = true := by
  obtain ⟨h1, h2⟩ := cover_same hb (n := m.toNat) (by omega) (coverW_fits b m.toNat)
  have e : coverF b m = (if decide (((coverW b m.toNat).length : Int) ≤ 1000) = true then 0 else 4) := by
    unfold coverF
    simp only [firstS, hb, hm.1, hm.2, and_self, if_true, decide_eq_true_eq]
    by_cases hl : (coverW b m.toNat).length ≤ 1000
    · rw [if_pos (show (coverG b m.toNat [] wholeB []).length ≤ 1000 by omega), if_pos (show ((coverW b m.toNat).length : Int) ≤ 1000 by omega)]; rfl
    · rw [if_neg (show ¬ (coverG b m.toNat [] wholeB []).length ≤ 1000 by omega), if_neg (show ¬ ((coverW b m.toNat).length : Int) ≤ 1000 by omega)]; rfl
  refine decide_eq_true ⟨?_, e⟩
  unfold coverR
  rw [e]
  by_cases hl : (coverW b m.toNat).length ≤ 1000
  · have : (if decide (((coverW b m.toNat).length : Int) ≤ 1000) = true then (0 : Int) else 4) = 0 := by rw [if_pos (by simp; omega)]
    rw [if_pos this, if_pos this]
    exact h1 hl
  · have : ¬ (if decide (((coverW b m.toNat).length : Int) ≤ 1000) = true then (0 : Int) else 4) = 0 := by rw [if_neg (by simp; omega)]; decide
    rw [if_neg this, if_neg this]

theorem cond24 {m : Int} (h : 0 ≤ m) : (if decide (m ≤ 24) = true then (0 : Int) else 2) = if 0 ≤ m ∧ m ≤ 24 then 0 else 2 := by
  by_cases hz : m ≤ 24
  · rw [if_pos (by simpa using hz), if_pos ⟨h, hz⟩]
  · rw [if_neg (by simpa using hz), if_neg (by omega)]

theorem octet_eq (d : UInt8) : (((d.toNat : Nat) : Int) = 48 ↔ d = 48) ∧ (((d.toNat : Nat) : Int) = 49 ↔ d = 49) ∧ (((d.toNat : Nat) : Int) = 50 ↔ d = 50) := by
  simp only [← UInt8.toNat_inj]
  refine ⟨?_, ?_, ?_⟩ <;> (show _ ↔ d.toNat = _; constructor <;> intro h <;> simp at * <;> omega)

end Go.Vc.Where
