/- WhereCoversAll: the law. Conditions: none. -/
import Derived.Test.YtfgehlmdcllclabDoorWChl
namespace Go.M
open Go.Md Go.Pl Go.Vc.Where

/-! ### boxes that meet -/

def CB (b : T_where_Box) : Prop := ((-90000000 ≤ b.South ∧ b.South ≤ 90000000) ∧ (-90000000 ≤ b.North ∧ b.North ≤ 90000000) ∧ b.South ≤ b.North) ∧ (-180000000 ≤ b.West ∧ b.West ≤ 179999999) ∧ -180000000 ≤ b.East ∧ b.East ≤ 179999999

theorem isLat_eq (x : Int) : where_isLat x = some (decide (-90000000 ≤ x ∧ x ≤ 90000000)) := by
  unfold where_isLat; rw [outside_eq, bnd_pure]
  by_cases h : x < -90000000 ∨ 90000000 < x
  · rw [decide_eq_true h, decide_eq_false (by omega)]; rfl
  · rw [decide_eq_false h, decide_eq_true (by omega)]; rfl
theorem isLon_eq (x : Int) : where_isLon x = some (decide (-180000000 ≤ x ∧ x ≤ 179999999)) := by
  unfold where_isLon; rw [outside_eq, bnd_pure]
  by_cases h : x < -180000000 ∨ 179999999 < x
  · rw [decide_eq_true h, decide_eq_false (by omega)]; rfl
  · rw [decide_eq_false h, decide_eq_true (by omega)]; rfl

theorem CheckBox_no (b : T_where_Box) : ∃ e, where_CheckBox b = some e ∧ (e = 0 ↔ CB b) := by
  unfold where_CheckBox
  rw [isLat_eq, isLat_eq, isLon_eq, isLon_eq, bnd_pure, bnd_pure, bnd_pure, bnd_pure]
  unfold CB
  by_cases h1 : -90000000 ≤ b.South ∧ b.South ≤ 90000000
  · rw [decide_eq_true h1]
    by_cases h2 : -90000000 ≤ b.North ∧ b.North ≤ 90000000
    · rw [decide_eq_true h2]
      by_cases h3 : -180000000 ≤ b.West ∧ b.West ≤ 179999999
      · rw [decide_eq_true h3]
        by_cases h4 : -180000000 ≤ b.East ∧ b.East ≤ 179999999
        · rw [decide_eq_true h4]
          show ∃ e, cnd (decide (b.North < b.South)) (some 5) (some 0) = some e ∧ _
          rw [cnd_if]
          by_cases h5 : b.North < b.South
          · rw [if_pos h5]; exact ⟨5, rfl, by constructor <;> intro h <;> omega⟩
          · rw [if_neg h5]; exact ⟨0, rfl, by constructor <;> intro h <;> omega⟩
        · rw [decide_eq_false h4]; exact ⟨2, rfl, by constructor <;> intro h <;> omega⟩
      · rw [decide_eq_false h3]; exact ⟨2, rfl, by constructor <;> intro h <;> omega⟩
    · rw [decide_eq_false h2]; exact ⟨2, rfl, by constructor <;> intro h <;> omega⟩
  · rw [decide_eq_false h1]; exact ⟨2, rfl, by constructor <;> intro h <;> omega⟩
theorem CheckBox_ok {b : T_where_Box} (h : CB b) : where_CheckBox b = some 0 := by
  obtain ⟨e, h1, h2⟩ := CheckBox_no b
  rw [h1, h2.2 h]

def RB (b : T_where_Box) : Prop := (-180000001 ≤ b.West ∧ b.West ≤ 180000001) ∧ -180000001 ≤ b.East ∧ b.East ≤ 180000001
theorem spans_eq {b : T_where_Box} (hb : RB b) {x : Int} (hx : -180000001 ≤ x ∧ x ≤ 180000001) : where_Box_spans b x = some (decide (eastS b.West x ≤ eastS b.West b.East)) := by
  obtain ⟨h1, h2⟩ := hb
  unfold where_Box_spans
  rw [east_eq (by omega) (by omega), bnd_pure, east_eq (by omega) (by omega), bnd_pure]

def meetP (a b : T_where_Box) : Prop := (a.South ≤ b.North ∧ b.South ≤ a.North) ∧ (eastS a.West b.West ≤ eastS a.West a.East ∨ eastS b.West a.West ≤ eastS b.West b.East)
instance (a b : T_where_Box) : Decidable (meetP a b) := by unfold meetP; infer_instance
theorem meetP_comm {a b : T_where_Box} : meetP a b ↔ meetP b a := by
  unfold meetP
  constructor
  · rintro ⟨⟨h1, h2⟩, h3⟩; exact ⟨⟨h2, h1⟩, h3.symm⟩
  · rintro ⟨⟨h1, h2⟩, h3⟩; exact ⟨⟨h2, h1⟩, h3.symm⟩
theorem meets_eq {a b : T_where_Box} (ha : RB a) (hb : RB b) : where_meets a b = some (decide (meetP a b)) := by
  have e1 := spans_eq ha hb.1
  have e2 := spans_eq hb ha.1
  unfold where_meets
  rw [e1, e2, bnd_pure, bnd_pure, cnd_if, cnd_if]
  by_cases h1 : a.South ≤ b.North
  · by_cases h2 : b.South ≤ a.North
    · rw [if_pos h1, if_pos h2]
      by_cases h3 : eastS a.West b.West ≤ eastS a.West a.East
      · rw [decide_eq_true h3, cnd_true, decide_eq_true (show meetP a b from ⟨⟨h1, h2⟩, .inl h3⟩)]
      · rw [decide_eq_false h3, cnd_false]
        congr 1
        by_cases h4 : eastS b.West a.West ≤ eastS b.West b.East
        · rw [decide_eq_true h4, decide_eq_true (show meetP a b from ⟨⟨h1, h2⟩, .inr h4⟩)]
        · rw [decide_eq_false h4, decide_eq_false (fun h : meetP a b => h.2.elim h3 h4)]
    · rw [if_pos h1, if_neg h2, decide_eq_false (fun h : meetP a b => h2 h.1.2)]
  · rw [if_neg h1, decide_eq_false (fun h : meetP a b => h1 h.1.1)]
theorem BB_RB {b : T_where_Box} (h : BB b) : RB b := by
  obtain ⟨_, h4, h5, h6⟩ := h
  unfold RB; omega
theorem CB_RB {b : T_where_Box} (h : CB b) : RB b := by
  obtain ⟨_, h4, h5⟩ := h
  unfold RB; omega

/-! ### cells do not vanish -/

def big (b : T_where_Box) (k : Nat) : Prop := 180000001 / 2 ^ k ≤ b.North - b.South + 1 ∧ (360000000 : Int) / 2 ^ k ≤ b.East - b.West + 1
theorem big_part {b : T_where_Box} {k : Nat} (h : big b k) (hb : BB b) (d : Int) : big (partP b d) (k + 1) := by
  obtain ⟨h1, h2⟩ := h
  obtain ⟨⟨_, _, b3⟩, _, _, b6⟩ := hb
  have hs : midS b = b.South + (b.North - b.South + 1) / 2 := rfl
  have hw : midW b = b.West + (b.East - b.West + 1) / 2 := rfl
  unfold big partP
  rw [← div_pow, ← div_pow]
  generalize (180000001 : Int) / 2 ^ k = H at *
  generalize (360000000 : Int) / 2 ^ k = W at *
  refine ⟨?_, ?_⟩
  · dsimp only; by_cases g : d < 2
    · rw [if_pos g, if_pos g]; omega
    · rw [if_neg g, if_neg g]; omega
  · dsimp only; by_cases g : d % 2 = 0
    · rw [if_pos g, if_pos g]; omega
    · rw [if_neg g, if_neg g]; omega
theorem big_bx (s : List UInt8) (k : Nat) : big (bx s k) k := by
  induction k with
  | zero => show 180000001 / 2 ^ 0 ≤ wholeB.North - wholeB.South + 1 ∧ (360000000 : Int) / 2 ^ 0 ≤ wholeB.East - wholeB.West + 1; exact ⟨by decide, by decide⟩
  | succ k ih => exact big_part ih (BB_bx s k) _
theorem CB_bx (s : List UInt8) {k : Nat} (hk : k ≤ 24) : CB (bx s k) := by
  obtain ⟨h1, h2⟩ := big_bx s k
  obtain ⟨⟨b1, b2, b3⟩, b4, b5, b6⟩ := BB_bx s k
  have hp := pow_le24 hk
  have e1 : (1 : Int) ≤ 180000001 / 2 ^ k := by rw [Int.le_ediv_iff_mul_le (by omega)]; omega
  have e2 : (1 : Int) ≤ 360000000 / 2 ^ k := by rw [Int.le_ediv_iff_mul_le (by omega)]; omega
  unfold CB; omega

/-! ### cover, as a list -/

def dch (d : Nat) : UInt8 := UInt8.ofNat (48 + d)
def covP (b : T_where_Box) : Nat → List UInt8 → T_where_Box → List (List UInt8) → List (List UInt8)
  | 0, c, x, l => if 1000 < l.length then l else if meetP x b then l ++ [c] else l
  | m + 1, c, x, l => if 1000 < l.length then l else if meetP x b then (List.range 4).foldl (fun l d => covP b m (c ++ [dch d]) (partP x (d : Nat)) l) l else l
def full (b : T_where_Box) : Nat → List UInt8 → T_where_Box → List (List UInt8)
  | 0, c, x => if meetP x b then [c] else []
  | m + 1, c, x => if meetP x b then (List.range 4).flatMap (fun d => full b m (c ++ [dch d]) (partP x (d : Nat))) else []

theorem cov_mono (b : T_where_Box) : ∀ (m : Nat) (c : List UInt8) (x : T_where_Box) (l : List (List UInt8)), l.length ≤ (covP b m c x l).length := by
  intro m
  induction m with
  | zero => intro c x l; unfold covP; split
            · exact Nat.le_refl _
            · split
              · simp
              · exact Nat.le_refl _
  | succ m ih =>
    intro c x l
    unfold covP
    split
    · exact Nat.le_refl _
    · split
      · have key : ∀ (ds : List Nat) (l : List (List UInt8)), l.length ≤ (ds.foldl (fun l d => covP b m (c ++ [dch d]) (partP x (d : Nat)) l) l).length := by
          intro ds
          induction ds with
          | nil => intro l; exact Nat.le_refl _
          | cons d ds ih2 => intro l; exact Nat.le_trans (ih _ _ _) (ih2 _)
        exact key _ _
      · exact Nat.le_refl _
theorem fold_mono (b : T_where_Box) (m : Nat) (c : List UInt8) (x : T_where_Box) : ∀ (ds : List Nat) (l : List (List UInt8)), l.length ≤ (ds.foldl (fun l d => covP b m (c ++ [dch d]) (partP x (d : Nat)) l) l).length := by
  intro ds
  induction ds with
  | nil => intro l; exact Nat.le_refl _
  | cons d ds ih2 => intro l; exact Nat.le_trans (cov_mono b _ _ _ _) (ih2 _)
theorem cov_len (b : T_where_Box) : ∀ (m : Nat) (c : List UInt8) (x : T_where_Box) (l : List (List UInt8)), l.length ≤ 1001 → (covP b m c x l).length ≤ 1001 := by
  intro m
  induction m with
  | zero => intro c x l hl; unfold covP; split
            · exact hl
            · split
              · simp; omega
              · exact hl
  | succ m ih =>
    intro c x l hl
    unfold covP
    split
    · exact hl
    · split
      · have key : ∀ (ds : List Nat) (l : List (List UInt8)), l.length ≤ 1001 → (ds.foldl (fun l d => covP b m (c ++ [dch d]) (partP x (d : Nat)) l) l).length ≤ 1001 := by
          intro ds
          induction ds with
          | nil => intro l hl; exact hl
          | cons d ds ih2 => intro l hl; exact ih2 _ (ih _ _ _ hl)
        exact key _ _ hl
      · exact hl
theorem cov_full (b : T_where_Box) : ∀ (m : Nat) (c : List UInt8) (x : T_where_Box) (l : List (List UInt8)), (covP b m c x l).length ≤ 1000 → covP b m c x l = l ++ full b m c x := by
  intro m
  induction m with
  | zero =>
    intro c x l h
    have := cov_mono b 0 c x l
    unfold covP full
    rw [if_neg (by omega)]
    by_cases g : meetP x b
    · rw [if_pos g, if_pos g]
    · rw [if_neg g, if_neg g, List.append_nil]
  | succ m ih =>
    intro c x l h
    have hm := cov_mono b (m + 1) c x l
    have hl : ¬ 1000 < l.length := by omega
    unfold covP at h
    unfold covP full
    rw [if_neg hl] at h ⊢
    by_cases g : meetP x b
    · rw [if_pos g] at h
      rw [if_pos g, if_pos g]
      have key : ∀ (ds : List Nat) (l : List (List UInt8)), (ds.foldl (fun l d => covP b m (c ++ [dch d]) (partP x (d : Nat)) l) l).length ≤ 1000 →
          ds.foldl (fun l d => covP b m (c ++ [dch d]) (partP x (d : Nat)) l) l = l ++ ds.flatMap (fun d => full b m (c ++ [dch d]) (partP x (d : Nat))) := by
        intro ds
        induction ds with
        | nil => intro l _; simp
        | cons d ds ih2 =>
          intro l h
          rw [List.foldl_cons] at h ⊢
          have h1 := fold_mono b m c x ds (covP b m (c ++ [dch d]) (partP x (d : Nat)) l)
          have e := ih _ _ _ (Nat.le_trans h1 h)
          rw [ih2 _ h, e, List.flatMap_cons, List.append_assoc]
      exact key _ _ h
    · rw [if_neg g, if_neg g, List.append_nil]

/-! ### what is in the list -/

theorem dch_dig {d : Nat} (h : d < 4) : dig (dch d) := by
  rcases (by omega : d = 0 ∨ d = 1 ∨ d = 2 ∨ d = 3) with rfl | rfl | rfl | rfl <;> unfold dig dch <;> decide
theorem dg_app_lt {c e : List UInt8} {k : Nat} (h : k < c.length) : dg (c ++ e) k = dg c k := by
  unfold dg; rw [List.getD_eq_getElem?_getD, List.getD_eq_getElem?_getD, List.getElem?_append_left h]
theorem bx_app {c e : List UInt8} : ∀ {k : Nat}, k ≤ c.length → bx (c ++ e) k = bx c k := by
  intro k
  induction k with
  | zero => intro _; rfl
  | succ k ih =>
    intro h
    show partP (bx (c ++ e) k) (dg (c ++ e) k) = partP (bx c k) (dg c k)
    rw [ih (by omega), dg_app_lt (by omega)]
theorem dg_last {c : List UInt8} {d : Nat} (h : d < 4) : dg (c ++ [dch d]) c.length = (d : Nat) := by
  unfold dg
  rw [List.getD_eq_getElem?_getD, List.getElem?_append_right (Nat.le_refl _), Nat.sub_self]
  rcases (by omega : d = 0 ∨ d = 1 ∨ d = 2 ∨ d = 3) with rfl | rfl | rfl | rfl <;> rfl
theorem bx_child {c : List UInt8} {d : Nat} (h : d < 4) : bx (c ++ [dch d]) (c ++ [dch d]).length = partP (bx c c.length) (d : Nat) := by
  rw [List.length_append, List.length_singleton]
  show partP (bx (c ++ [dch d]) c.length) (dg (c ++ [dch d]) c.length) = _
  rw [bx_app (Nat.le_refl _), dg_last h]

theorem mem_full (b : T_where_Box) : ∀ (m : Nat) (c : List UInt8), (∀ ch ∈ c, dig ch) → ∀ s ∈ full b m c (bx c c.length), (∀ ch ∈ s, dig ch) ∧ s.length = c.length + m ∧ meetP (bx s s.length) b ∧ ∃ e, s = c ++ e := by
  intro m
  induction m with
  | zero =>
    intro c hc s hs
    unfold full at hs
    by_cases g : meetP (bx c c.length) b
    · rw [if_pos g] at hs
      rw [List.mem_singleton.1 hs]; exact ⟨hc, rfl, g, [], by simp⟩
    · rw [if_neg g] at hs; cases hs
  | succ m ih =>
    intro c hc s hs
    unfold full at hs
    by_cases g : meetP (bx c c.length) b
    · rw [if_pos g] at hs
      obtain ⟨d, hd, hs⟩ := List.mem_flatMap.1 hs
      have hd := List.mem_range.1 hd
      rw [← bx_child hd] at hs
      obtain ⟨h1, h2, h3, e, h4⟩ := ih (c ++ [dch d]) (by
        intro ch h
        rcases List.mem_append.1 h with h | h
        · exact hc ch h
        · rw [List.mem_singleton.1 h]; exact dch_dig hd) s hs
      refine ⟨h1, by rw [h2, List.length_append, List.length_singleton]; omega, h3, [dch d] ++ e, by rw [h4, List.append_assoc]⟩
    · rw [if_neg g] at hs; cases hs

def inB (p : T_api_Place) (b : T_where_Box) : Prop := (b.South ≤ p.Lat ∧ p.Lat ≤ b.North) ∧ eastS b.West p.Lon ≤ eastS b.West b.East
theorem meet_of {p : T_api_Place} {x b : T_where_Box} (hp : PL p) (hx : BB x) (hb : CB b) (h1 : inP p x) (h2 : inB p b) : meetP x b := by
  obtain ⟨⟨p1, p2⟩, p3, p4⟩ := hp
  obtain ⟨⟨x1, x2, x3⟩, x4, x5, x6⟩ := hx
  obtain ⟨_, ⟨b1, b2⟩, b3, b4⟩ := hb
  obtain ⟨⟨i1, i2⟩, i3, i4⟩ := h1
  obtain ⟨⟨j1, j2⟩, j3⟩ := h2
  refine ⟨⟨by omega, by omega⟩, ?_⟩
  unfold eastS at *
  omega

theorem go_full {p : T_api_Place} {b : T_where_Box} (hp : PL p) (hb : CB b) (hi : inB p b) : ∀ (m k : Nat), toStr (go p (k + m)).1 ∈ full b m (toStr (go p k).1) (go p k).2 := by
  intro m
  induction m with
  | zero =>
    intro k
    unfold full
    rw [if_pos (meet_of hp (go_BB p k) hb (go_in hp k) hi)]
    exact List.mem_singleton.2 rfl
  | succ m ih =>
    intro k
    unfold full
    rw [if_pos (meet_of hp (go_BB p k) hb (go_in hp k) hi)]
    refine List.mem_flatMap.2 ⟨pick p (go p k).2, List.mem_range.2 (by have := pick_le p (go p k).2; omega), ?_⟩
    have e := ih (k + 1)
    have hc : toStr (go p (k + 1)).1 = toStr (go p k).1 ++ [dch (pick p (go p k).2)] := by
      show toStr ((go p k).1 ++ [48 + (pick p (go p k).2 : Int)]) = _
      rw [toStr_app]
      have := pick_le p (go p k).2
      congr 1
    rw [hc, show k + 1 + m = k + (m + 1) from by omega] at e
    exact e

/-! ### the order -/

theorem ltB_app (c x y : List UInt8) : ltB (c ++ x) (c ++ y) = ltB x y := by
  induction c with
  | nil => rfl
  | cons a c ih =>
    show (a < a || (a == a && ltB (c ++ x) (c ++ y))) = _
    rw [ih]; simp
theorem ltB_self (c : List UInt8) : ltB c c = false := by
  have := ltB_app c [] []
  simpa [ltB] using this
theorem sorted_full (b : T_where_Box) : ∀ (m : Nat) (c : List UInt8), (∀ ch ∈ c, dig ch) → (full b m c (bx c c.length)).Pairwise fun s t => ltB t s = false := by
  intro m
  induction m with
  | zero =>
    intro c _
    unfold full
    split
    · exact List.pairwise_singleton _ _
    · exact List.Pairwise.nil
  | succ m ih =>
    intro c hc
    unfold full
    split
    · refine List.pairwise_flatMap.2 ⟨fun d hd => ?_, ?_⟩
      · have hd := List.mem_range.1 hd
        rw [← bx_child hd]
        exact ih _ (by
          intro ch h
          rcases List.mem_append.1 h with h | h
          · exact hc ch h
          · rw [List.mem_singleton.1 h]; exact dch_dig hd)
      · refine List.Pairwise.imp_of_mem ?_ (List.pairwise_lt_range (n := 4))
        intro d e hd he hlt s hs t ht
        have hd := List.mem_range.1 hd
        have he := List.mem_range.1 he
        have dc : ∀ d : Nat, d < 4 → ∀ ch ∈ c ++ [dch d], dig ch := by
          intro d hd ch h
          rcases List.mem_append.1 h with h | h
          · exact hc ch h
          · rw [List.mem_singleton.1 h]; exact dch_dig hd
        rw [← bx_child hd] at hs
        rw [← bx_child he] at ht
        obtain ⟨_, _, _, u, rfl⟩ := mem_full b m _ (dc d hd) s hs
        obtain ⟨_, _, _, v, rfl⟩ := mem_full b m _ (dc e he) t ht
        rw [List.append_assoc, List.append_assoc, ltB_app]
        show (dch e < dch d || (dch e == dch d && ltB v u)) = false
        have h1 : ¬ dch e < dch d := by
          rcases (by omega : d = 0 ∨ d = 1 ∨ d = 2 ∨ d = 3) with rfl | rfl | rfl | rfl <;> rcases (by omega : e = 0 ∨ e = 1 ∨ e = 2 ∨ e = 3) with rfl | rfl | rfl | rfl <;> first | (exfalso; omega) | decide
        have h2 : (dch e == dch d) = false := by
          rcases (by omega : d = 0 ∨ d = 1 ∨ d = 2 ∨ d = 3) with rfl | rfl | rfl | rfl <;> rcases (by omega : e = 0 ∨ e = 1 ∨ e = 2 ∨ e = 3) with rfl | rfl | rfl | rfl <;> first | (exfalso; omega) | decide
        rw [h2]; simp [h1]
    · exact List.Pairwise.nil

/-! ### the models -/

theorem cover_eq {b : T_where_Box} (hb : CB b) {n : Nat} (hn : n ≤ 24) : where_cover b [] wholeB (n : Int) [] = some (covP b n [] wholeB []) := by
  unfold where_cover
  refine fix_of (fun s => some (covP s.1 (n - s.2.1.length) s.2.1 s.2.2.1 s.2.2.2.2)) (fun s => s.1 = b ∧ BB s.2.2.1 ∧ s.2.1.length ≤ n ∧ s.2.2.2.1 = (n : Int) ∧ s.2.2.2.2.length ≤ 1001) (fun s => n - s.2.1.length) ?_ (b, [], wholeB, (n : Int), []) ⟨rfl, BB_whole, Nat.zero_le _, rfl, Nat.zero_le _⟩
  rintro next ⟨b', c, x, n', l⟩ ⟨h1, h2, h3, h4, h5⟩ ih
  simp only at h1 h2 h3 h4 h5
  subst h1 h4
  show where_cover_body next b' c x (n : Int) l = some (covP b' (n - c.length) c x l)
  unfold where_cover_body
  rw [cnd_if]
  by_cases g1 : (1000 : Int) < l.length
  · rw [if_pos g1]
    cases n - c.length with
    | zero => unfold covP; rw [if_pos (by omega)]
    | succ m => unfold covP; rw [if_pos (by omega)]
  · rw [if_neg g1, meets_eq (BB_RB h2) (CB_RB hb), bnd_pure]
    by_cases g2 : meetP x b'
    · rw [decide_eq_true g2, Bool.not_true, cnd_false, cnd_if]
      by_cases g3 : (c.length : Int) = (n : Int)
      · rw [if_pos g3, gApp_ok (by simp only [List.length_singleton]; omega), bnd_pure, show n - c.length = 0 from by omega]
        unfold covP
        rw [if_neg (by omega), if_pos g2]
      · rw [if_neg g3]
        obtain ⟨m, hm⟩ : ∃ m, n - c.length = m + 1 := ⟨n - c.length - 1, by omega⟩
        rw [hm]
        unfold covP
        rw [if_neg (by omega), if_pos g2]
        have hlen : ∀ k, ((List.range k).foldl (fun l d => covP b' m (c ++ [dch d]) (partP x (d : Nat)) l) l).length ≤ 1001 := by
          intro k
          induction k with
          | zero => exact h5
          | succ k ihk => rw [List.range_succ, List.foldl_append]; exact cov_len _ _ _ _ _ ihk
        refine fix_path (fun k => ((k : Int), (List.range k).foldl (fun l d => covP b' m (c ++ [dch d]) (partP x (d : Nat)) l) l)) 4 ?_ ?_
        · intro k hk nx
          show where_cover_l1 b' c x (n : Int) next nx (k : Int) _ = _
          have e := ih (b', c ++ [dch k], partP x (k : Nat), (n : Int), (List.range k).foldl (fun l d => covP b' m (c ++ [dch d]) (partP x (d : Nat)) l) l)
            ⟨rfl, BB_part h2 _, by simp only [List.length_append, List.length_singleton]; omega, rfl, hlen k⟩ (by simp only [List.length_append, List.length_singleton]; omega)
          have er : gRune (wI32 (48 + (k : Int))) = some [dch k] := by
            rcases (by omega : k = 0 ∨ k = 1 ∨ k = 2 ∨ k = 3) with rfl | rfl | rfl | rfl <;> rfl
          unfold where_cover_l1
          rw [cnd_if, if_pos (by omega), gI_ok (by omega), bnd_pure, er, bnd_pure, gCat_ok (by simp only [List.length_singleton]; omega), bnd_pure, quarter_eq h2 (by omega), bnd_pure, e, bnd_pure, gI_ok (by omega), bnd_pure]
          have e2 : n - (c ++ [dch k]).length = m := by rw [List.length_append, List.length_singleton]; omega
          rw [List.range_succ, List.foldl_append]
          show nx (_, covP b' (n - (c ++ [dch k]).length) _ _ _) = _
          rw [e2]; rfl
        · intro nx
          show where_cover_l1 b' c x (n : Int) next nx (4 : Int) _ = _
          unfold where_cover_l1
          rw [cnd_if, if_neg (by omega)]
    · rw [decide_eq_false g2, Bool.not_false, cnd_true]
      cases n - c.length with
      | zero => unfold covP; rw [if_neg (by omega), if_neg g2]
      | succ m => unfold covP; rw [if_neg (by omega), if_neg g2]

theorem Cover_no (b : T_where_Box) (n : Int) : ∃ r, where_Cover b n = some r ∧ (r.2 = 0 → CB b ∧ (0 ≤ n ∧ n ≤ 24) ∧ r.1.length ≤ 1000 ∧ r.1 = full b n.toNat [] wholeB) := by
  unfold where_Cover
  obtain ⟨e, h1, h2⟩ := CheckBox_no b
  rw [h1, bnd_pure, cnd_if]
  by_cases he : e = 0
  · rw [if_neg (by simpa using he), outside_eq, bnd_pure, cnd_if]
    have hb := h2.1 he
    by_cases hn : n < 0 ∨ 24 < n
    · rw [if_pos hn]; exact ⟨_, rfl, fun h => absurd h (by decide)⟩
    · rw [if_neg hn]
      obtain ⟨k, rfl⟩ := Int.eq_ofNat_of_zero_le (show 0 ≤ n by omega)
      show ∃ r, bnd (some wholeB) _ = some r ∧ _
      rw [bnd_pure, cover_eq hb (by omega), bnd_pure, cnd_if, Int.toNat_natCast]
      by_cases hl : (1000 : Int) < (covP b k [] wholeB []).length
      · rw [if_pos hl]; exact ⟨_, rfl, fun h => absurd h (by decide)⟩
      · rw [if_neg hl]
        exact ⟨_, rfl, fun _ => ⟨hb, by omega, by show (covP b k [] wholeB []).length ≤ 1000; omega, by
          show covP b k [] wholeB [] = _
          rw [cov_full b k [] wholeB [] (by omega), List.nil_append]⟩⟩
  · rw [if_pos (by simpa using he)]; exact ⟨_, rfl, fun h => absurd h he⟩

theorem Meets_ok {a b : T_where_Box} (ha : CB a) (hb : CB b) (h : meetP a b) : where_Meets a b = some (true, 0) := by
  unfold where_Meets
  refine fix_path (fun k => (k : Int)) 2 ?_ ?_
  · intro k hk next
    show where_Meets_l2 a b next (k : Int) = _
    unfold where_Meets_l2
    rw [cnd_if, if_pos (by omega)]
    rcases (by omega : k = 0 ∨ k = 1) with rfl | rfl
    · show bnd (some a) _ = _
      rw [bnd_pure, CheckBox_ok ha, bnd_pure]; rfl
    · show bnd (some b) _ = _
      rw [bnd_pure, CheckBox_ok hb, bnd_pure]; rfl
  · intro next
    show where_Meets_l2 a b next (2 : Int) = _
    unfold where_Meets_l2 where_Meets_j1
    rw [cnd_if, if_neg (by omega), meets_eq (CB_RB ha) (CB_RB hb), bnd_pure, decide_eq_true h]

theorem contains_ok {l : List (List UInt8)} (hl : l.length ≤ 1000) {s : List UInt8} (h : s ∈ l) : slices_Contains_string l s = some true := by
  obtain ⟨j, hj, e⟩ := List.getElem_of_mem h
  obtain ⟨r, hr, h0⟩ := fix_run (F := fun next1 q => slices_Index_string_l1 l s next1 q) (fun x => 0 ≤ x ∧ x ≤ j) (fun x => j - x.toNat) (fun r : Int => 0 ≤ r) (by
    rintro x ⟨h0, h1⟩
    obtain ⟨k, rfl⟩ := Int.eq_ofNat_of_zero_le h0
    have hk : k < l.length := by omega
    have step : ∀ next, slices_Index_string_l1 l s next (k : Int) = if s = l[k] then some (k : Int) else next ((k : Int) + 1) := by
      intro next
      unfold slices_Index_string_l1
      rw [cnd_if, if_pos (by omega), gAt_nat (show k < l.length by omega), bnd_pure, cnd_if, gI_ok (by omega), bnd_pure]
    by_cases g : s = l[k]
    · exact .inl ⟨k, h0, fun next => (step next).trans (if_pos g)⟩
    · have hkj : k ≠ j := fun h => by subst h; exact g e.symm
      exact .inr ⟨(k : Int) + 1, ⟨by omega, by omega⟩, by omega, fun next => (step next).trans (if_neg g)⟩) 0 ⟨by omega, by omega⟩
  unfold slices_Contains_string slices_Index_string
  rw [hr, bnd_pure, decide_eq_true h0]

theorem sorted_ok {l : List (List UInt8)} (hl : l.length ≤ 1000) (h : l.Pairwise fun s t => ltB t s = false) : slices_IsSorted_string l = some true := by
  unfold slices_IsSorted_string
  rw [gI_ok (by omega), bnd_pure]
  have hp := List.pairwise_iff_getElem.1 h
  have less : ∀ a b : List UInt8, cmp_Less_string a b = some (ltB a b) := fun a b => by
    unfold cmp_Less_string cmp_isNaN_string
    simp
  cases hlen : l.length with
  | zero =>
    refine fix_done fun next => ?_
    unfold slices_IsSorted_string_l1
    rw [cnd_if, if_neg (by omega)]
  | succ n =>
    have st0 : ((n + 1 : Nat) : Int) - 1 = ((n - 0 : Nat) : Int) := by omega
    rw [st0]
    refine fix_path (F := fun next1 q => slices_IsSorted_string_l1 l next1 q) (fun k => ((n - k : Nat) : Int)) n ?_ ?_
    · intro k hk next
      unfold slices_IsSorted_string_l1
      have e : ((n - k : Nat) : Int) - 1 = ((n - (k + 1) : Nat) : Int) := by omega
      rw [cnd_if, if_pos (by omega), gAt_nat (by omega), bnd_pure, gI_ok (by omega), bnd_pure, bnd_pure, e, gAt_nat (by omega), bnd_pure, less, bnd_pure, hp (n - (k + 1)) (n - k) (by omega) (by omega) (by omega), cnd_false]
    · intro next
      unfold slices_IsSorted_string_l1
      rw [cnd_if, if_neg (by omega)]

theorem In_no {b : T_where_Box} (hb : CB b) (p : T_api_Place) : ∃ r, where_In b p = some r ∧ (r.2 = 0 → r.1 = true → PL p ∧ inB p b) := by
  unfold where_In
  rw [CheckBox_ok hb, bnd_pure, cnd_if, if_neg (by decide), CheckPlace_eq, bnd_pure, cnd_if]
  by_cases h0 : placeS p.Lat p.Lon ≠ 0
  · rw [if_pos h0]; exact ⟨_, rfl, fun h => absurd h h0⟩
  · have hp := PL_iff.1 (show placeS p.Lat p.Lon = 0 by simpa using h0)
    rw [if_neg h0, outside_eq, bnd_pure]
    by_cases h1 : p.Lat < b.South ∨ b.North < p.Lat
    · rw [decide_eq_true h1, Bool.not_true, cnd_false]; exact ⟨_, rfl, fun _ h => by cases h⟩
    · rw [decide_eq_false h1, Bool.not_false, cnd_true, spans_eq (CB_RB hb) (by obtain ⟨_, _, _⟩ := hp; omega), bnd_pure]
      exact ⟨_, rfl, fun _ h => ⟨hp, ⟨by omega, by omega⟩, of_decide_eq_true h⟩⟩

theorem whereCoversAll_law (b : T_where_Box) (n : Int) (p : T_api_Place) : Keep_WhereCoversAll b n p = some true := by
  unfold Keep_WhereCoversAll
  obtain ⟨⟨l, e⟩, h1, h2⟩ := Cover_no b n
  rw [awake_eq, bnd_pure, Bool.not_true, cnd_false, h1, bnd_pure, cnd_if]
  by_cases he : e ≠ 0
  · rw [if_pos he]
  · rw [if_neg he]
    obtain ⟨hb, hn, hlen, hl⟩ := h2 (by simpa using he)
    simp only at hlen hl
    obtain ⟨k, rfl⟩ := Int.eq_ofNat_of_zero_le hn.1
    rw [Int.toNat_natCast] at hl
    have hl' : l = full b k [] (bx [] ([] : List UInt8).length) := hl
    have hmem : ∀ s ∈ l, (∀ ch ∈ s, dig ch) ∧ s.length = k ∧ meetP (bx s s.length) b := by
      intro s hs
      rw [hl'] at hs
      obtain ⟨g1, g2, g3, _⟩ := mem_full b k [] (by simp) s hs
      exact ⟨g1, by simpa using g2, g3⟩
    refine fix_path (fun j => (j : Int)) l.length ?_ ?_
    · intro j hj next
      obtain ⟨g1, g2, g3⟩ := hmem l[j] (List.getElem_mem hj)
      show Keep_WhereCoversAll_l2 b (k : Int) p (l, e) next (j : Int) = _
      unfold Keep_WhereCoversAll_l2
      have hx := BoxOf_eq l[j] (check_all (by omega) g1) (fun _ => ⟨by omega, g1⟩)
      rw [if_pos rfl] at hx
      rw [cnd_if, if_pos (by show (j : Int) < (l.length : Int); omega), gAt_nat hj, bnd_pure, hx, bnd_pure]
      show cnd (decide ((0 : Int) ≠ 0)) _ (bnd (where_Meets b (bx l[j] (l[j]).length)) _) = _
      rw [cnd_if, if_neg (by decide), Meets_ok hb (CB_bx _ (by omega)) (meetP_comm.1 g3), bnd_pure]
      show cnd (decide ((0 : Int) ≠ 0)) _ (cnd (!true) _ (bnd (gI ((j : Int) + 1)) _)) = _
      rw [cnd_if, if_neg (by decide), Bool.not_true, cnd_false, gI_ok (by omega), bnd_pure]
      rfl
    · intro next
      show Keep_WhereCoversAll_l2 b (k : Int) p (l, e) next (l.length : Int) = _
      unfold Keep_WhereCoversAll_l2 Keep_WhereCoversAll_j1
      rw [cnd_if, if_neg (by show ¬ (l.length : Int) < (l.length : Int); omega)]
      obtain ⟨⟨i, e2⟩, i1, i2⟩ := In_no hb p
      rw [i1, bnd_pure, cnd_if]
      by_cases g : e2 ≠ 0
      · rw [if_pos g]
      · rw [if_neg g]
        cases i with
        | false => rfl
        | true =>
          obtain ⟨hp, hi⟩ := i2 (by simpa using g) rfl
          have hc : where_Cell p (k : Int) = some (toStr (go p k).1, 0) := by
            rw [Cell_eq, if_neg (by simpa using PL_iff.2 hp), if_neg (by omega), Int.toNat_natCast]
          show cnd (!true) _ (bnd (where_Cell p (k : Int)) _) = _
          rw [Bool.not_true, cnd_false, hc, bnd_pure]
          have hin : toStr (go p k).1 ∈ l := by
            have := go_full hp hb hi k 0
            rw [Nat.zero_add] at this
            rw [hl]; exact this
          show cnd (decide ((0 : Int) = 0)) (bnd (slices_Contains_string l (toStr (go p k).1)) _) _ = _
          rw [cnd_if, if_pos rfl, contains_ok hlen hin, bnd_pure, cnd_true, sorted_ok hlen (by rw [hl']; exact sorted_full b k [] (by simp)), bnd_pure]

theorem whereCoversAllT (b : T_where_Box) (n : Int) (p : T_api_Place) {φ ψ χ : Prop} (_ : φ) (_ : ψ) (_ : χ) : Keep_WhereCoversAll b n p = some true := whereCoversAll_law b n p

end Go.M
