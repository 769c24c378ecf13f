/- What each rule makes of a recipe, in plain Lean. Conditions: none. -/
import Derived.Test.YtilhbkglchppjaaDoorTsX
namespace Go.M
open Go.Md Go.Pl

/-! ### a measure -/

def rkS (s : T_edit_Step) : Nat := if s.Kind = 1 then 0 else if s.Kind = 2 then 1 else 2
def invS : List T_edit_Step → Nat
  | [] => 0
  | s :: r => r.countP (fun x => decide (rkS x < rkS s)) + invS r
theorem inv_le : ∀ l : List T_edit_Step, invS l ≤ l.length * l.length
  | [] => Nat.le_refl _
  | s :: r => by
    have h1 := inv_le r
    have h2 : r.countP (fun x => decide (rkS x < rkS s)) ≤ r.length := List.countP_le_length
    unfold invS
    rw [List.length_cons, Nat.succ_mul, Nat.mul_succ]; omega
theorem inv_swap {s t : T_edit_Step} (h : rkS t < rkS s) (q : List T_edit_Step) : ∀ p : List T_edit_Step, invS (p ++ t :: s :: q) + 1 = invS (p ++ s :: t :: q)
  | [] => by
    simp only [List.nil_append, invS, List.countP_cons]
    rw [decide_eq_true h, decide_eq_false (by omega)]; simp; omega
  | x :: p => by
    have := inv_swap h q p
    simp only [List.cons_append, invS, List.countP_append, List.countP_cons]
    omega
def meaS (l : List T_edit_Step) : Nat := l.length * 2501 + invS l

/-- A recipe that is nearer to the end, and does the same. -/
def Next (w h : Nat) (P : List Int) (l n : List T_edit_Step) : Prop :=
  Good n w h ∧ runI n ⟨w, h, P⟩ = runI l ⟨w, h, P⟩ ∧ meaS n < meaS l ∧ n.length ≤ l.length ∧ ((∀ x ∈ l, x.Kind ≠ 3) → ∀ x ∈ n, x.Kind ≠ 3)
theorem mea_len {l n : List T_edit_Step} (h : n.length < l.length) (hl : l.length ≤ 50) : meaS n < meaS l := by
  have h1 := inv_le n
  have h2 : n.length * n.length ≤ 50 * 50 := Nat.mul_le_mul (by omega) (by omega)
  unfold meaS
  have : (n.length + 1) * 2501 ≤ l.length * 2501 := Nat.mul_le_mul_right _ h
  omega
theorem mea_swap {p q : List T_edit_Step} {s t : T_edit_Step} (h : rkS t < rkS s) : meaS (p ++ t :: s :: q) < meaS (p ++ s :: t :: q) := by
  have := inv_swap h q p
  unfold meaS
  simp only [List.length_append, List.length_cons]
  omega
theorem inv_rk {x y : T_edit_Step} (h : rkS x = rkS y) (q : List T_edit_Step) : ∀ p : List T_edit_Step, invS (p ++ x :: q) = invS (p ++ y :: q)
  | [] => by simp only [List.nil_append, invS, h]
  | z :: p => by
    have := inv_rk h q p
    simp only [List.cons_append, invS, List.countP_append, List.countP_cons, h]
    omega
theorem mea_rk {x y : T_edit_Step} (h : rkS x = rkS y) (p q : List T_edit_Step) : meaS (p ++ x :: q) = meaS (p ++ y :: q) := by
  have := inv_rk h q p
  unfold meaS
  simp only [List.length_append, List.length_cons]
  omega

/-! ### the program's pieces -/

theorem with_eq (p X q Y : List T_edit_Step) (hl : (p ++ X ++ q).length ≤ 50) (hY : Y.length ≤ 2) {i n : Int} (hi : i = p.length) (hn : n = X.length) : edit_with (p ++ X ++ q) i n Y = some (p ++ Y ++ q) := by
  subst hi hn
  simp only [List.length_append] at hl
  unfold edit_with
  rw [gCut_to (by simp only [List.length_append]; omega), bnd_pure, gI_ok (by omega), bnd_pure, gCut_from (by simp only [List.length_append]; omega), bnd_pure]
  have e1 : (p ++ X ++ q).take ((p.length : Int)).toNat = p := by rw [Int.toNat_natCast, List.append_assoc]; exact List.take_left' rfl
  have e2 : (p ++ X ++ q).drop ((p.length : Int) + (X.length : Int)).toNat = q := by
    rw [show ((p.length : Int) + (X.length : Int)).toNat = (p ++ X).length from by rw [List.length_append]; omega]
    exact List.drop_left' rfl
  rw [e1, e2, Concat3 _ _ _ (by omega), bnd_pure]
theorem at0 (p r : List T_edit_Step) (s : T_edit_Step) : gAt (p ++ s :: r) (p.length : Int) = some s := by
  rw [gAt_nat (by simp)]; simp
theorem at1 (p q : List T_edit_Step) (s t : T_edit_Step) : gAt (p ++ s :: t :: q) ((p.length : Int) + 1) = some t := by
  have := at0 (p ++ [s]) q t
  simpa using this
theorem ap2 (p q : List T_edit_Step) (s t : T_edit_Step) : p ++ [s, t] ++ q = p ++ s :: t :: q := by simp
theorem ap1 (p r : List T_edit_Step) (s : T_edit_Step) : p ++ [s] ++ r = p ++ s :: r := by simp
theorem with1 (p r : List T_edit_Step) (s : T_edit_Step) (Y : List T_edit_Step) (hl : p.length + r.length + 1 ≤ 50) (hY : Y.length ≤ 2) : edit_with (p ++ s :: r) (p.length : Int) 1 Y = some (p ++ Y ++ r) := by
  rw [← ap1]
  exact with_eq p [s] r Y (by simp only [List.length_append, List.length_cons, List.length_nil]; omega) hY rfl rfl
theorem with2 (p q : List T_edit_Step) (s t : T_edit_Step) (Y : List T_edit_Step) (hl : p.length + (q.length + 1) + 1 ≤ 50) (hY : Y.length ≤ 2) : edit_with (p ++ s :: t :: q) (p.length : Int) 2 Y = some (p ++ Y ++ q) := by
  rw [← ap2]
  exact with_eq p [s, t] q Y (by simp only [List.length_append, List.length_cons, List.length_nil]; omega) hY rfl rfl
theorem pair_nil (p : List T_edit_Step) (s : T_edit_Step) (hl : p.length ≤ 50) (x y : Int) : edit_pair (p ++ [s]) (p.length : Int) x y = some false := by
  unfold edit_pair
  rw [gI_ok (by omega), bnd_pure, cnd_if, if_neg (by simp)]
theorem pair_cons (p q : List T_edit_Step) (s t : T_edit_Step) (hl : p.length ≤ 50) (x y : Int) : edit_pair (p ++ s :: t :: q) (p.length : Int) x y = some (decide (s.Kind = x ∧ t.Kind = y)) := by
  unfold edit_pair
  rw [gI_ok (by omega), bnd_pure, cnd_if, if_pos (by simp; omega), at0, bnd_pure, cnd_if, bnd_pure, at1, bnd_pure]
  by_cases h : s.Kind = x <;> simp [h]
theorem shape_eq (s : T_edit_Step) : edit_Shape s = some (decide (1 ≤ s.Kind ∧ s.Kind ≤ 3)) := by
  unfold edit_Shape
  rw [outE_eq, bnd_pure]
  congr 1
  by_cases h1 : s.Kind < 1 <;> by_cases h2 : 3 < s.Kind <;> simp [h1, h2] <;> omega
set_option maxRecDepth 100000 in
theorem neutral_eq {s : T_edit_Step} (hs : stepE s = 0) (a b : Int) : edit_Step_neutral s a b = some (neutralS s a b) := by
  have hk := (stepE_ok hs).1
  unfold edit_Step_neutral neutralS
  simp only [cnd_if]
  by_cases h1 : s.Kind = 1
  · rw [if_pos h1, if_pos h1]
  rw [if_neg h1, if_neg h1]
  by_cases h2 : s.Kind = 2
  · rw [if_pos h2, if_pos h2]
  rw [if_neg h2, if_neg h2]
  by_cases h3 : s.Kind = 3
  · rw [if_pos h3, if_pos h3]
    by_cases h : s.A = a <;> simp [h]
  rw [if_neg h3, if_neg h3]
  by_cases h7 : s.Kind = 7
  · rw [if_pos h7, if_pos h7, if_pos (.inl h7)]
  rw [if_neg h7]
  by_cases h8 : s.Kind = 8
  · rw [if_pos h8, if_pos (.inr h8)]
  rw [if_neg h8, if_neg (by omega)]
  have hby : byteK s := by unfold byteK; omega
  unfold edit_Step_neutral_j1
  rw [straight_eq, bnd_pure, after_eq hs (by intro j hj; simp only [if_pos hj]; omega), bnd_pure, bnd_pure, if_pos hby]
  refine congrArg some ?_
  unfold eq_edit_curve
  refine decide_eq_decide.2 ⟨fun h j => ?_, fun h => ?_⟩
  · have := List.map_inj_left.1 h j.1 (List.mem_range.2 j.2)
    simpa [j.2] using this
  · refine List.map_congr_left fun j hj => ?_
    have hj := List.mem_range.1 hj
    simp only [if_pos hj]
    exact h ⟨j, hj⟩

/-! ### the rules -/

/-- Two kinds that a rule looks for. -/
def badK (k : Nat) (x y : Int) : Prop := (k = 1 ∧ x = 1 ∧ y = 1) ∨ (k = 2 ∧ x = 2 ∧ y = 2) ∨ (k = 3 ∧ x = 2 ∧ y = 1) ∨ (k = 5 ∧ ¬ (1 ≤ x ∧ x ≤ 3) ∧ (y = 1 ∨ y = 2))

def Out (k : Nat) (g : List T_edit_Step → Int → Int → Int → Option (List T_edit_Step × Bool)) (p : List T_edit_Step) (s : T_edit_Step) (r : List T_edit_Step) (w h : Nat) (P : List Int) (a b : Nat) : Prop :=
  (g (p ++ s :: r) (p.length : Int) (a : Int) (b : Int) = some ([], false) ∧ ∀ t q, r = t :: q → ¬ badK k s.Kind t.Kind) ∨ ∃ n, g (p ++ s :: r) (p.length : Int) (a : Int) (b : Int) = some (n, true) ∧ Next w h P (p ++ s :: r) n

structure Cx (p : List T_edit_Step) (s : T_edit_Step) (r : List T_edit_Step) (w h : Nat) (P : List Int) (a b : Nat) (Q : List Int) : Prop where
  m : Im w h P
  g : Good (p ++ s :: r) w h
  mq : Im a b Q
  hr : runI p ⟨w, h, P⟩ = ⟨a, b, Q⟩
  hz : sizeGo p w h = ((a : Int), (b : Int), 0)

theorem Cx.stepS {p r : List T_edit_Step} {s : T_edit_Step} {w h a b : Nat} {P Q : List Int} (c : Cx p s r w h P a b Q) : stepE s = 0 := c.g.1 s (by simp)
theorem Cx.len {p r : List T_edit_Step} {s : T_edit_Step} {w h a b : Nat} {P Q : List Int} (c : Cx p s r w h P a b Q) : p.length + r.length + 1 ≤ 50 := by have := c.g.2.1; simp only [List.length_append, List.length_cons] at this; omega
theorem Cx.sz {p r : List T_edit_Step} {s : T_edit_Step} {w h a b : Nat} {P Q : List Int} (c : Cx p s r w h P a b Q) : (sizeGo (s :: r) a b).2.2 = 0 := by
  have := c.g.2.2
  rwa [sizeGo_append _ _ _ _ (by rw [c.hz]), c.hz] at this
theorem Cx.crop {p r : List T_edit_Step} {s : T_edit_Step} {w h a b : Nat} {P Q : List Int} (c : Cx p s r w h P a b Q) : cropOk s a b := (step_size c.mq c.stepS c.sz).1
theorem Cx.stepT {p q : List T_edit_Step} {s t : T_edit_Step} {w h a b : Nat} {P Q : List Int} (c : Cx p s (t :: q) w h P a b Q) : stepE t = 0 := c.g.1 t (by simp)
theorem Cx.crop2 {p q : List T_edit_Step} {s t : T_edit_Step} {w h a b : Nat} {P Q : List Int} (c : Cx p s (t :: q) w h P a b Q) (k1 : s.Kind = 2) (k2 : t.Kind = 2) : t.A + t.C ≤ s.C ∧ t.B + t.D ≤ s.D := by
  have h := c.sz
  have hc := c.crop k1
  simp only [sizeGo] at h
  rw [if_neg (by omega), if_pos k1, if_pos hc, if_neg (by omega), if_pos k2] at h
  split at h
  · assumption
  · cases h
theorem Cx.cropT {p q : List T_edit_Step} {s t : T_edit_Step} {w h a b : Nat} {P Q : List Int} (c : Cx p s (t :: q) w h P a b Q) (k1 : toneK s) : cropOk t a b := by
  have h := c.sz
  unfold toneK at k1
  have hk := (stepE_ok c.stepS).1
  simp only [sizeGo] at h
  rw [if_neg (by omega), if_neg (by omega), if_neg (by omega)] at h
  intro k2
  rw [if_neg (by omega), if_pos k2] at h
  split at h
  · assumption
  · cases h

/-- Two become what is put in their place. -/
theorem Cx.two {p q : List T_edit_Step} {s t : T_edit_Step} {w h a b : Nat} {P Q : List Int} (c : Cx p s (t :: q) w h P a b Q) {Y : List T_edit_Step} (e : EQ [s, t] Y a b Q) (hl : Y.length ≤ 2) (hm : meaS (p ++ Y ++ q) < meaS (p ++ s :: t :: q)) (h3 : s.Kind ≠ 3 → t.Kind ≠ 3 → ∀ x ∈ Y, x.Kind ≠ 3) : Next w h P (p ++ s :: t :: q) (p ++ Y ++ q) := by
  have g := c.g
  rw [← ap2] at g
  obtain ⟨g1, g2⟩ := good_swap c.m g c.hr c.hz e hl
  rw [ap2] at g2
  refine ⟨g1, g2, hm, by simp only [List.length_append, List.length_cons]; omega, fun hk x hx => ?_⟩
  rcases List.mem_append.1 hx with hx | hx
  · rcases List.mem_append.1 hx with hx | hx
    · exact hk x (by simp [hx])
    · exact h3 (hk s (by simp)) (hk t (by simp)) x hx
  · exact hk x (by simp [hx])

theorem rule0 {p r : List T_edit_Step} {s : T_edit_Step} {w h a b : Nat} {P Q : List Int} (c : Cx p s r w h P a b Q) : Out 0 edit_leaveNeutral p s r w h P a b := by
  have hl := c.len
  unfold Out edit_leaveNeutral
  rw [at0, bnd_pure, neutral_eq c.stepS, bnd_pure]
  cases hn : neutralS s a b with
  | false => exact .inl ⟨rfl, fun t q _ => by unfold badK; omega⟩
  | true =>
    refine .inr ⟨p ++ [] ++ r, ?_, ?_⟩
    · rw [show (!true) = false from rfl, cnd_false, with1 p r s _ hl (by simp), bnd_pure]
    · have g := c.g
      rw [← ap1] at g
      obtain ⟨g1, g2⟩ := good_swap c.m g c.hr c.hz (eq_neutral c.stepS c.mq hn) (by simp)
      rw [ap1] at g2
      refine ⟨g1, g2, mea_len (by simp) c.g.2.1, by simp, fun hk x hx => hk x ?_⟩
      simp only [List.append_nil, List.mem_append] at hx
      rcases hx with hx | hx <;> simp [hx]

theorem pair_no {k : Nat} {x y : Int} {p r : List T_edit_Step} {s : T_edit_Step} (hl : p.length ≤ 50) (h : ∀ t q, r = t :: q → ¬ (s.Kind = x ∧ t.Kind = y)) : edit_pair (p ++ s :: r) (p.length : Int) x y = some false := by
  cases r with
  | nil => exact pair_nil p s hl x y
  | cons t q => rw [pair_cons p q s t hl, decide_eq_false (h t q rfl)]

theorem rule1 {p r : List T_edit_Step} {s : T_edit_Step} {w h a b : Nat} {P Q : List Int} (c : Cx p s r w h P a b Q) : Out 1 edit_joinTurns p s r w h P a b := by
  have hl := c.len
  unfold Out edit_joinTurns
  by_cases hy : ∃ t q, r = t :: q ∧ s.Kind = 1 ∧ t.Kind = 1
  · obtain ⟨t, q, rfl, k1, k2⟩ := hy
    rw [List.length_cons] at hl
    obtain ⟨k, hk, e1, e2⟩ := eq_turns c.stepS c.stepT k1 k2 c.mq
    refine .inr ⟨p ++ [⟨1, k, 0, 0, 0⟩] ++ q, ?_, c.two e2 (by simp) (mea_len (by simp) c.g.2.1) (fun _ _ x hx => by rw [List.mem_singleton.1 hx]; show (1 : Int) ≠ 3; decide)⟩
    rw [pair_cons p q s t (by omega), bnd_pure, decide_eq_true ⟨k1, k2⟩, show (!true) = false from rfl, cnd_false, at0, bnd_pure, gI_ok (by omega), bnd_pure, at1, bnd_pure, e1, bnd_pure, with2 p q s t _ hl (by simp), bnd_pure]
  · refine .inl ⟨?_, fun t q e hb => hy ⟨t, q, e, by unfold badK at hb; omega⟩⟩
    rw [pair_no (k := 1) (by omega) (fun t q e hb => hy ⟨t, q, e, hb⟩), bnd_pure]; rfl

theorem rule2 {p r : List T_edit_Step} {s : T_edit_Step} {w h a b : Nat} {P Q : List Int} (c : Cx p s r w h P a b Q) : Out 2 edit_joinCrops p s r w h P a b := by
  have hl := c.len
  unfold Out edit_joinCrops
  by_cases hy : ∃ t q, r = t :: q ∧ s.Kind = 2 ∧ t.Kind = 2
  · obtain ⟨t, q, rfl, k1, k2⟩ := hy
    rw [List.length_cons] at hl
    have n1 := stepE_nums c.stepS
    have n2 := stepE_nums c.stepT
    refine .inr ⟨p ++ [⟨2, s.A + t.A, s.B + t.B, t.C, t.D⟩] ++ q, ?_, c.two (eq_crops c.stepS c.stepT k1 k2 c.mq (c.crop k1) (c.crop2 k1 k2)) (by simp) (mea_len (by simp) c.g.2.1) (fun _ _ x hx => by rw [List.mem_singleton.1 hx]; show (2 : Int) ≠ 3; decide)⟩
    rw [pair_cons p q s t (by omega), bnd_pure, decide_eq_true ⟨k1, k2⟩, show (!true) = false from rfl, cnd_false, at0, bnd_pure, gI_ok (by omega), bnd_pure, at1, bnd_pure, gI_ok (by omega), bnd_pure, gI_ok (by omega), bnd_pure, with2 p q s t _ hl (by simp), bnd_pure]
  · refine .inl ⟨?_, fun t q e hb => hy ⟨t, q, e, by unfold badK at hb; omega⟩⟩
    rw [pair_no (k := 2) (by omega) (fun t q e hb => hy ⟨t, q, e, hb⟩), bnd_pure]; rfl

theorem rule3 {p r : List T_edit_Step} {s : T_edit_Step} {w h a b : Nat} {P Q : List Int} (c : Cx p s r w h P a b Q) : Out 3 edit_turnFirst p s r w h P a b := by
  have hl := c.len
  unfold Out edit_turnFirst
  by_cases hy : ∃ t q, r = t :: q ∧ s.Kind = 2 ∧ t.Kind = 1
  · obtain ⟨t, q, rfl, k1, k2⟩ := hy
    rw [List.length_cons] at hl
    obtain ⟨d, e1, kd, e2⟩ := eq_turnFirst c.stepS c.stepT k1 k2 c.mq (c.crop k1)
    have hm : meaS (p ++ [t, d] ++ q) < meaS (p ++ s :: t :: q) := by
      have r1 : rkS d = rkS s := by unfold rkS; rw [kd, k1]
      have h1 : meaS (p ++ [t, d] ++ q) = meaS (p ++ t :: s :: q) := by
        have := mea_rk r1 (p ++ [t]) q
        simpa using this
      rw [h1]
      exact mea_swap (by unfold rkS; rw [k1, k2]; decide)
    refine .inr ⟨p ++ [t, d] ++ q, ?_, c.two e2 (by simp) hm (fun _ h3 x hx => ?_)⟩
    · rw [pair_cons p q s t (by omega), bnd_pure, decide_eq_true ⟨k1, k2⟩, show (!true) = false from rfl, cnd_false, gI_ok (by omega), bnd_pure, at1, bnd_pure, at0, bnd_pure, bnd_pure, at1, bnd_pure, e1, bnd_pure, with2 p q s t _ hl (by simp), bnd_pure]
    · rcases List.mem_cons.1 hx with rfl | hx
      · exact h3
      · rw [List.mem_singleton.1 hx, kd]; decide
  · refine .inl ⟨?_, fun t q e hb => hy ⟨t, q, e, by unfold badK at hb; omega⟩⟩
    rw [pair_no (k := 3) (by omega) (fun t q e hb => hy ⟨t, q, e, hb⟩), bnd_pure]; rfl

theorem rule4 {p r : List T_edit_Step} {s : T_edit_Step} {w h a b : Nat} {P Q : List Int} (c : Cx p s r w h P a b Q) : Out 4 edit_leaveInverts p s r w h P a b := by
  have hl := c.len
  unfold Out edit_leaveInverts
  by_cases hy : ∃ t q, r = t :: q ∧ s.Kind = 9 ∧ t.Kind = 9
  · obtain ⟨t, q, rfl, k1, k2⟩ := hy
    rw [List.length_cons] at hl
    refine .inr ⟨p ++ [] ++ q, ?_, c.two (eq_inverts k1 k2 c.mq) (by simp) (mea_len (by simp; omega) c.g.2.1) (fun _ _ x hx => by cases hx)⟩
    rw [pair_cons p q s t (by omega), bnd_pure, decide_eq_true ⟨k1, k2⟩, show (!true) = false from rfl, cnd_false, with2 p q s t _ hl (by simp), bnd_pure]
  · refine .inl ⟨?_, fun t q e hb => by unfold badK at hb; omega⟩
    rw [pair_no (k := 4) (by omega) (fun t q e hb => hy ⟨t, q, e, hb⟩), bnd_pure]; rfl

theorem rule5 {p r : List T_edit_Step} {s : T_edit_Step} {w h a b : Nat} {P Q : List Int} (c : Cx p s r w h P a b Q) : Out 5 edit_shapeFirst p s r w h P a b := by
  have hl := c.len
  unfold Out edit_shapeFirst
  rw [gI_ok (by omega), bnd_pure]
  cases r with
  | nil =>
    refine .inl ⟨?_, fun t q e => by cases e⟩
    rw [cnd_if, if_pos (by simp)]
  | cons t q =>
    rw [List.length_cons] at hl
    have hkt := (stepE_ok c.stepT).1
    rw [cnd_if, if_neg (by simp; omega), at0, bnd_pure, shape_eq, bnd_pure]
    by_cases h1 : 1 ≤ s.Kind ∧ s.Kind ≤ 3
    · rw [decide_eq_true h1, cnd_true]
      exact .inl ⟨rfl, fun t' q' e hb => by unfold badK at hb; omega⟩
    · rw [decide_eq_false h1, cnd_false, bnd_pure, at1, bnd_pure, shape_eq, bnd_pure]
      by_cases h2 : 1 ≤ t.Kind ∧ t.Kind ≤ 3
      · rw [decide_eq_true h2, show (!true) = false from rfl, cnd_false, bnd_pure, at1, bnd_pure, cnd_if]
        by_cases h3 : t.Kind = 3
        · rw [if_pos h3]
          refine .inl ⟨rfl, fun t' q' e hb => ?_⟩
          cases e
          unfold badK at hb; omega
        · rw [if_neg h3, bnd_pure, at1, bnd_pure, bnd_pure]
          refine .inr ⟨p ++ [t, s] ++ q, ?_, c.two (eq_shapeFirst c.stepS c.stepT h1 (by unfold moveK; omega) c.mq (c.cropT h1)) (by simp) ?_ (fun a1 a2 x hx => ?_)⟩
          · rw [with2 p q s t _ hl (by simp), bnd_pure]
          · rw [ap2]
            refine mea_swap ?_
            unfold rkS
            rw [if_neg (show ¬ s.Kind = 1 from by omega), if_neg (show ¬ s.Kind = 2 from by omega)]
            by_cases k1 : t.Kind = 1
            · rw [if_pos k1]; decide
            · rw [if_neg k1, if_pos (by omega)]; decide
          · rcases List.mem_cons.1 hx with rfl | hx
            · exact a2
            · rw [List.mem_singleton.1 hx]; exact a1
      · rw [decide_eq_false h2, show (!false) = true from rfl, cnd_true]
        refine .inl ⟨rfl, fun t' q' e hb => ?_⟩
        cases e
        unfold badK at hb; omega
end Go.M

/- Tidy, and the law EditTidiesSame, in plain Lean. Conditions: none. -/
namespace Go.M
open Go.Md Go.Pl

/-- No two steps that a rule looks for, at a place. -/
def NB (k : Nat) (l : List T_edit_Step) (j : Nat) : Prop := ∀ p s t q, l = p ++ s :: t :: q → p.length = j → ¬ badK k s.Kind t.Kind

theorem split_at {l : List T_edit_Step} {a : Nat} (h : a < l.length) : ∃ p s r, l = p ++ s :: r ∧ p.length = a :=
  ⟨l.take a, l[a], l.drop (a + 1), by rw [← List.drop_eq_getElem_cons, List.take_append_drop], by rw [List.length_take]; omega⟩

theorem rule_k {k : Nat} (hk : k < 6) : ∃ g, gFn (mft174 k) = some g ∧ ∀ {p r : List T_edit_Step} {s : T_edit_Step} {w h a b : Nat} {P Q : List Int}, Cx p s r w h P a b Q → Out k g p s r w h P a b := by
  have : k = 0 ∨ k = 1 ∨ k = 2 ∨ k = 3 ∨ k = 4 ∨ k = 5 := by omega
  rcases this with rfl | rfl | rfl | rfl | rfl | rfl
  · exact ⟨_, rfl, rule0⟩
  · exact ⟨_, rfl, rule1⟩
  · exact ⟨_, rfl, rule2⟩
  · exact ⟨_, rfl, rule3⟩
  · exact ⟨_, rfl, rule4⟩
  · exact ⟨_, rfl, rule5⟩

theorem size_good {p : List T_edit_Step} {w h : Nat} {P : List Int} (m : Im w h P) (ho : okAll p) (hl : p.length ≤ 50) : edit_size p (w : Int) (h : Int) = some (sizeGo p w h) := by
  have h1 := m.w1; have h2 := m.w2; have h3 := m.h1; have h4 := m.h2
  rw [edit_size_eq ho (by omega)]
  unfold sizeS
  rw [if_pos (by omega)]

noncomputable def rowOut (k : Int) (p : Int → Option (List T_edit_Step × Bool)) : Option (List T_edit_Step) → Option (List T_edit_Step × Bool)
  | none => edit_shorter_j2 k p
  | some n => some (n, true)

theorem row_k {l : List T_edit_Step} {w h : Nat} {P : List Int} (m : Im w h P) (g : Good l w h) {k : Nat} (hk : k < 6) :
    ∃ r : Option (List T_edit_Step), (match r with | none => ∀ j, NB k l j | some n => Next w h P l n) ∧ ∀ p : Int → Option (List T_edit_Step × Bool), fix (fun next3 s => edit_shorter_l3 l (w : Int) (h : Int) (k : Int) p k next3 s) (0 : Int) = rowOut (k : Int) p r := by
  obtain ⟨gk, hg, hrule⟩ := rule_k hk
  refine fix_runP (F := fun (p : Int → Option (List T_edit_Step × Bool)) next3 s => edit_shorter_l3 l (w : Int) (h : Int) (k : Int) p k next3 s) (fun p (r : Option (List T_edit_Step)) => rowOut (k : Int) p r) (fun i => ∃ a : Nat, i = a ∧ a ≤ l.length ∧ ∀ j, j < a → NB k l j) (fun i => ((l.length : Int) - i).toNat) (fun r => match r with | none => ∀ j, NB k l j | some n => Next w h P l n) (fun i hi => ?_) 0 ⟨0, rfl, by omega, fun j hj => by omega⟩
  obtain ⟨a, rfl, ha, hp⟩ := hi
  rcases Nat.lt_or_ge a l.length with hlt | hge
  · obtain ⟨p, s, r, rfl, rfl⟩ := split_at hlt
    have hop : okAll p := fun x hx => g.1 x (by simp [hx])
    have hlen := g.2.1
    simp only [List.length_append, List.length_cons] at hlen
    have hz : (sizeGo p w h).2.2 = 0 := sizeGo_pre p (s :: r) w h g.2.2
    obtain ⟨a0, b0, Q, mQ, hr, hs⟩ := run_ctx p m hop hz
    have c : Cx p s r w h P a0 b0 Q := ⟨m, g, mQ, hr, hs⟩
    have base : ∀ (nx : Int → Option (List T_edit_Step × Bool)) next3, edit_shorter_l3 (p ++ s :: r) (w : Int) (h : Int) (k : Int) nx k next3 (p.length : Int) = bnd (gk (p ++ s :: r) (p.length : Int) (a0 : Int) (b0 : Int)) fun t43 => cnd t43.2 (some (t43.1, true)) (next3 ((p.length : Int) + 1)) := by
      intro nx next3
      unfold edit_shorter_l3
      rw [cnd_if, if_pos (by simp only [List.length_append, List.length_cons]; omega), gCut_to (by simp only [List.length_append, List.length_cons]; omega), bnd_pure, Int.toNat_natCast, List.take_left' rfl, size_good m hop (by omega), bnd_pure, hg, bnd_pure, hs, gI_ok (by omega)]
      rfl
    rcases hrule c with ⟨e1, e2⟩ | ⟨n, e1, e2⟩
    · right
      refine ⟨(p.length : Int) + 1, ⟨p.length + 1, by omega, by simp only [List.length_append, List.length_cons]; omega, fun j hj => ?_⟩, by simp only [List.length_append, List.length_cons]; omega, fun nx next => ?_⟩
      · rcases Nat.lt_or_ge j p.length with hj' | hj'
        · exact hp j hj'
        · intro p' s' t' q' e hl'
          obtain ⟨e3, e4⟩ := List.append_inj e (by omega)
          injection e4 with e5 e6
          subst e5
          exact e2 t' q' e6
      · rw [base, e1, bnd_pure]; rfl
    · left
      refine ⟨some n, e2, fun nx next => ?_⟩
      rw [base, e1, bnd_pure]; rfl
  · left
    refine ⟨none, fun j => ?_, fun nx next => ?_⟩
    · rcases Nat.lt_or_ge j a with hj | hj
      · exact hp j hj
      · intro p s t q e hl'
        have := congrArg List.length e
        simp only [List.length_append, List.length_cons] at this
        omega
    · show edit_shorter_l3 l _ _ _ nx k next (a : Int) = _
      unfold edit_shorter_l3
      rw [cnd_if, if_neg (by omega)]
      rfl

/-- No rule applies. -/
def Stop (l : List T_edit_Step) (w h : Nat) : Prop := edit_shorter l (w : Int) (h : Int) = some (l, false) ∧ ∀ k, k < 6 → ∀ j, NB k l j

theorem shorter_eq {l : List T_edit_Step} {w h : Nat} {P : List Int} (m : Im w h P) (g : Good l w h) : Stop l w h ∨ ∃ n, edit_shorter l (w : Int) (h : Int) = some (n, true) ∧ Next w h P l n := by
  have key : ∃ r : List T_edit_Step × Bool, edit_shorter l (w : Int) (h : Int) = some r ∧ ((r = (l, false) ∧ ∀ k, k < 6 → ∀ j, NB k l j) ∨ ∃ n, r = (n, true) ∧ Next w h P l n) := by
    refine fix_run (F := fun next1 s => edit_shorter_l1 l (w : Int) (h : Int) next1 s) (fun i => ∃ k : Nat, i = k ∧ k ≤ 6 ∧ ∀ k', k' < k → ∀ j, NB k' l j) (fun i => (6 - i).toNat) (fun r => (r = (l, false) ∧ ∀ k, k < 6 → ∀ j, NB k l j) ∨ ∃ n, r = (n, true) ∧ Next w h P l n) (fun i hi => ?_) 0 ⟨0, rfl, by omega, fun k hk => by omega⟩
    obtain ⟨k, rfl, hk6, hp⟩ := hi
    rcases Nat.lt_or_ge k 6 with hk | hk
    · obtain ⟨r, h1, h2⟩ := row_k m g hk
      have hat : gAt ([0, 1, 2, 3, 4, 5] : List Nat) (k : Int) = some k := by
        have : k = 0 ∨ k = 1 ∨ k = 2 ∨ k = 3 ∨ k = 4 ∨ k = 5 := by omega
        rcases this with rfl | rfl | rfl | rfl | rfl | rfl <;> decide
      have base : ∀ next, edit_shorter_l1 l (w : Int) (h : Int) next (k : Int) = rowOut (k : Int) next r := by
        intro next
        unfold edit_shorter_l1
        rw [cnd_if, if_pos (by omega), hat, bnd_pure, h2 next]
      cases r with
      | none =>
        right
        refine ⟨(k : Int) + 1, ⟨k + 1, by omega, by omega, fun k' hk' => ?_⟩, by omega, fun next => ?_⟩
        · rcases Nat.lt_or_ge k' k with h | h
          · exact hp k' h
          · have : k' = k := by omega
            subst this; exact h1
        · rw [base]
          show edit_shorter_j2 (k : Int) next = _
          unfold edit_shorter_j2
          rw [gI_ok (by omega), bnd_pure]
      | some n => exact .inl ⟨(n, true), .inr ⟨n, rfl, h1⟩, fun next => base next⟩
    · left
      refine ⟨(l, false), .inl ⟨rfl, fun k' hk' => hp k' (by omega)⟩, fun next => ?_⟩
      unfold edit_shorter_l1
      rw [cnd_if, if_neg (by omega)]
  obtain ⟨r, h1, h2⟩ := key
  rcases h2 with ⟨rfl, h2⟩ | ⟨n, rfl, h2⟩
  · exact .inl ⟨h1, h2⟩
  · exact .inr ⟨n, h1, h2⟩

/-! ### Tidy -/

theorem good_steps {l : List T_edit_Step} {w h : Nat} (g : Good l w h) : stepsE l = 0 := by
  unfold stepsE
  rw [if_neg (by have := g.2.1; omega)]
  exact fstE_all fun x hx => by
    obtain ⟨s, hs, rfl⟩ := List.mem_map.1 hx
    exact g.1 s hs

theorem tidy_start {l : List T_edit_Step} {w h : Nat} {P : List Int} (m : Im w h P) (g : Good l w h) : edit_Tidy l (w : Int) (h : Int) = fix (fun next2 s => edit_Tidy_l2 (w : Int) (h : Int) next2 s.1 s.2) (true, l) := by
  unfold edit_Tidy
  rw [Check_eq, bnd_pure, good_steps g, cnd_if, if_neg (fun h => h rfl), size_good m g.1 g.2.1, bnd_pure, g.2.2, cnd_if, if_neg (fun h => h rfl)]
  unfold slices_Clone_edit_Step
  rw [gApp_ok (by have := g.2.1; simp; omega), bnd_pure, bnd_pure]; rfl

/-- What Tidy yields. -/
structure Tid (l t : List T_edit_Step) (w h : Nat) (P : List Int) : Prop where
  good : Good t w h
  run : runI t ⟨w, h, P⟩ = runI l ⟨w, h, P⟩
  len : t.length ≤ l.length
  noS : (∀ x ∈ l, x.Kind ≠ 3) → ∀ x ∈ t, x.Kind ≠ 3

theorem Tidy_eq {l : List T_edit_Step} {w h : Nat} {P : List Int} (m : Im w h P) (g : Good l w h) : ∃ t, edit_Tidy l (w : Int) (h : Int) = some (t, 0) ∧ Tid l t w h P ∧ Stop t w h := by
  rw [tidy_start m g]
  obtain ⟨r, h1, h2, h3, h4⟩ := fix_run (F := fun next2 (s : Bool × List T_edit_Step) => edit_Tidy_l2 (w : Int) (h : Int) next2 s.1 s.2) (fun s => Tid l s.2 w h P ∧ (s.1 = false → Stop s.2 w h)) (fun s => meaS s.2 * 2 + (if s.1 = true then 1 else 0)) (fun (r : List T_edit_Step × Int) => r.2 = 0 ∧ Tid l r.1 w h P ∧ Stop r.1 w h) (fun s hs => by
    obtain ⟨b, n⟩ := s
    obtain ⟨ht, hb⟩ := hs
    simp only at ht hb
    cases b with
    | false => exact .inl ⟨(n, 0), ⟨rfl, ht, hb rfl⟩, fun next => rfl⟩
    | true =>
      right
      rcases shorter_eq m ht.good with hst | ⟨n2, e1, e2⟩
      · refine ⟨(false, n), ⟨ht, fun _ => hst⟩, by simp, fun next => ?_⟩
        show edit_Tidy_l2 _ _ next true n = _
        unfold edit_Tidy_l2
        rw [cnd_true, hst.1, bnd_pure]
      · refine ⟨(true, n2), ⟨⟨e2.1, e2.2.1.trans ht.run, Nat.le_trans e2.2.2.2.1 ht.len, fun hk => e2.2.2.2.2 (ht.noS hk)⟩, fun h => by cases h⟩, by have := e2.2.2.1; simp only [if_true]; omega, fun next => ?_⟩
        show edit_Tidy_l2 _ _ next true n = _
        unfold edit_Tidy_l2
        rw [cnd_true, e1, bnd_pure]) (true, l) ⟨⟨g, rfl, Nat.le_refl _, fun h => h⟩, fun h => by cases h⟩
  obtain ⟨t, e⟩ := r
  simp only at h2
  subst h2
  exact ⟨t, h1, h3, h4⟩

theorem Tidy_stop {t : List T_edit_Step} {w h : Nat} {P : List Int} (m : Im w h P) (g : Good t w h) (hs : Stop t w h) : edit_Tidy t (w : Int) (h : Int) = some (t, 0) := by
  rw [tidy_start m g]
  refine (fix_goto (F := fun next2 (s : Bool × List T_edit_Step) => edit_Tidy_l2 (w : Int) (h : Int) next2 s.1 s.2) (false, t) fun next => ?_).trans (fix_done fun next => rfl)
  show edit_Tidy_l2 _ _ next true t = _
  unfold edit_Tidy_l2
  rw [cnd_true, hs.1, bnd_pure]

/-! ### the law -/

theorem Same_self (l : List T_edit_Step) (hl : l.length ≤ 1000000) : edit_Same l l = some true := by
  unfold edit_Same slices_Equal_edit_Step
  rw [cnd_if, if_neg (fun h => h rfl)]
  rw [show fix (fun next1 s => slices_Equal_edit_Step_l1 l l next1 s) (0 : Int) = some true from ?_, bnd_pure]
  refine fix_upto 0 l.length (Nat.zero_le _) (fun next k _ hk => ?_) (fun next => ?_)
  · show slices_Equal_edit_Step_l1 l l next (k : Int) = _
    unfold slices_Equal_edit_Step_l1
    rw [cnd_if, if_pos (by omega), gAt_nat hk, bnd_pure, bnd_pure, show eq_edit_Step l[k] l[k] = true from by simp [eq_edit_Step], show (!true) = false from rfl, cnd_false, gI_ok (by omega), bnd_pure]
  · show slices_Equal_edit_Step_l1 l l next _ = _
    unfold slices_Equal_edit_Step_l1
    rw [cnd_if, if_neg (by omega)]

def rankS (k : Int) : Int := if k = 1 then 1 else if k = 2 then 2 else 3
theorem rank_step {x y : Int} (hx : 1 ≤ x ∧ x ≤ 9) (hy : 1 ≤ y ∧ y ≤ 9) (x3 : x ≠ 3) (b1 : ¬ (x = 1 ∧ y = 1)) (b2 : ¬ (x = 2 ∧ y = 2)) (b3 : ¬ (x = 2 ∧ y = 1)) (b5 : ¬ (¬ (1 ≤ x ∧ x ≤ 3) ∧ (y = 1 ∨ y = 2))) : rankS x < rankS y ∨ (rankS x = rankS y ∧ rankS y = 3) := by
  unfold rankS
  by_cases y1 : y = 1
  · rw [if_pos y1]
    by_cases a1 : x = 1
    · omega
    · by_cases a2 : x = 2 <;> omega
  · rw [if_neg y1]
    by_cases y2 : y = 2
    · rw [if_pos y2]
      by_cases a1 : x = 1
      · rw [if_pos a1]; omega
      · by_cases a2 : x = 2 <;> omega
    · rw [if_neg y2]
      by_cases a1 : x = 1
      · rw [if_pos a1]; omega
      · rw [if_neg a1]
        by_cases a2 : x = 2
        · rw [if_pos a2]; omega
        · rw [if_neg a2]; omega
def rankAt (t : List T_edit_Step) (i : Nat) : Int := if i = 0 then 0 else rankS ((t.getD (i - 1) default).Kind)

theorem last_loop {t : List T_edit_Step} (ht : t.length ≤ 50) (hk : ∀ s ∈ t, 1 ≤ s.Kind ∧ s.Kind ≤ 9) (h3 : ∀ s ∈ t, s.Kind ≠ 3) (hn : ∀ k, k < 6 → ∀ j, NB k t j) (e : Int) :
    fix (fun next1 s => Keep_EditTidiesSame_l1 (t, e) next1 s.1 s.2) (0, 0) = some true := by
  refine fix_way (F := fun next1 s => Keep_EditTidiesSame_l1 (t, e) next1 s.1 s.2) (fun i => (rankAt t i, (i : Int))) t.length (fun i hi next => ?_) (fun next => ?_)
  · show Keep_EditTidiesSame_l1 (t, e) next (rankAt t i) (i : Int) = next (rankAt t (i + 1), ((i + 1 : Nat) : Int))
    have hki := hk t[i] (List.getElem_mem hi)
    have h3i := h3 t[i] (List.getElem_mem hi)
    have hr : rankAt t (i + 1) = rankS t[i].Kind := by
      unfold rankAt
      rw [if_neg (by omega), show i + 1 - 1 = i from by omega, List.getD_eq_getElem?_getD, List.getElem?_eq_getElem hi]; rfl
    have hlt : rankAt t i < rankS t[i].Kind ∨ (rankAt t i = rankS t[i].Kind ∧ rankS t[i].Kind = 3) := by
      rcases Nat.eq_zero_or_pos i with h0 | h0
      · subst h0
        left
        show (0 : Int) < _
        unfold rankS
        repeat' split
        all_goals omega
      · obtain ⟨j, rfl⟩ : ∃ j, i = j + 1 := ⟨i - 1, by omega⟩
        have hj : j < t.length := by omega
        have e1 : rankAt t (j + 1) = rankS t[j].Kind := by
          unfold rankAt
          rw [if_neg (by omega), show j + 1 - 1 = j from by omega, List.getD_eq_getElem?_getD, List.getElem?_eq_getElem hj]; rfl
        have hkj := hk t[j] (List.getElem_mem hj)
        have h3j := h3 t[j] (List.getElem_mem hj)
        have hsp : t = t.take j ++ t[j] :: t[j + 1] :: t.drop (j + 1 + 1) := by
          rw [← List.drop_eq_getElem_cons hi, ← List.drop_eq_getElem_cons hj, List.take_append_drop]
        have nb : ∀ k, k < 6 → ¬ badK k t[j].Kind t[j + 1].Kind := fun k hk => hn k hk j _ _ _ _ hsp (by rw [List.length_take]; omega)
        have b1 := nb 1 (by omega)
        have b2 := nb 2 (by omega)
        have b3 := nb 3 (by omega)
        have b5 := nb 5 (by omega)
        rw [e1]
        exact rank_step hkj hki h3j (fun h => b1 (.inl ⟨rfl, h⟩)) (fun h => b2 (.inr (.inl ⟨rfl, h⟩))) (fun h => b3 (.inr (.inr (.inl ⟨rfl, h⟩)))) (fun h => b5 (.inr (.inr (.inr ⟨rfl, h⟩))))
    have j3 : Keep_EditTidiesSame_j3 (rankAt t i) (i : Int) next (rankS t[i].Kind) = next (rankS t[i].Kind, ((i + 1 : Nat) : Int)) := by
      unfold Keep_EditTidiesSame_j3 Keep_EditTidiesSame_j2
      rw [cnd_if, if_neg (by omega), cnd_if, gI_ok (by omega)]
      rcases hlt with h | ⟨h, h'⟩
      · rw [if_neg (by omega)]; rfl
      · rw [if_pos h.symm, cnd_if, if_neg (by omega)]; rfl
    unfold Keep_EditTidiesSame_l1
    simp only
    rw [cnd_if, if_pos (by omega), gAt_nat hi, bnd_pure, cnd_if, cnd_if, hr]
    by_cases y1 : t[i].Kind = 1
    · rw [if_pos y1]
      rw [show rankS t[i].Kind = 1 from by unfold rankS; rw [if_pos y1]] at j3 ⊢
      exact j3
    · rw [if_neg y1]
      by_cases y2 : t[i].Kind = 2
      · rw [if_pos y2]
        rw [show rankS t[i].Kind = 2 from by unfold rankS; rw [if_neg y1, if_pos y2]] at j3 ⊢
        exact j3
      · rw [if_neg y2]
        rw [show rankS t[i].Kind = 3 from by unfold rankS; rw [if_neg y1, if_neg y2]] at j3 ⊢
        exact j3
  · show Keep_EditTidiesSame_l1 (t, e) next _ ((t.length : Nat) : Int) = _
    unfold Keep_EditTidiesSame_l1
    simp only
    rw [cnd_if, if_neg (by omega)]

theorem law_tidies {m : T_api_Image} (hb : ∀ v ∈ m.Pixels, 0 ≤ v ∧ v ≤ 255) (l : List T_edit_Step) : Keep_EditTidiesSame m l = some true := by
  unfold Keep_EditTidiesSame
  rw [awakeE, bnd_pure, show (!true) = false from rfl, cnd_false, Render_eq l hb, bnd_pure, cnd_if]
  by_cases h0 : (renderS m l).2 = 0
  · rw [if_neg (fun h => h h0)]
    obtain ⟨w, h, e, im, _, h50, ho, hz, hr⟩ := renderS_ok h0 hb
    have g : Good l w h := ⟨ho, h50, hz⟩
    obtain ⟨t, e1, tid, hst⟩ := Tidy_eq im g
    have eW : m.W = w := by rw [e]
    have eH : m.H = h := by rw [e]
    have hE : imgE m = 0 := by rw [e]; exact im_imgE im
    have hR2 : renderS m t = (runI t m, 0) := by
      unfold renderS
      rw [if_neg (fun h => h (good_steps tid.good)), if_neg (fun h => h hE), eW, eH, if_neg (fun h => h tid.good.2.2)]
    have hrun : runI t m = (renderS m l).1 := by rw [hr, e]; exact tid.run
    rw [eW, eH, e1, bnd_pure]
    simp only
    rw [cnd_if, if_neg (fun h => h rfl), cnd_if, if_neg (by have := tid.len; omega), Render_eq t hb, bnd_pure, hR2]
    simp only
    rw [Tidy_stop im tid.good hst, bnd_pure]
    simp only
    rw [cnd_if, if_neg (fun h => h rfl), cnd_if, if_neg (fun h => h rfl), hrun, same_self, bnd_pure, show (!true) = false from rfl, cnd_false, Same_self t (by have := tid.good.2.1; omega), bnd_pure, show (!true) = false from rfl, cnd_false,
      ContainsFunc_eq l Keep_EditTidiesSame_1 (fun s => decide (s.Kind = 3)) (by omega) (fun s _ => rfl), bnd_pure]
    cases hc : l.any fun s => decide (s.Kind = 3) with
    | true => rfl
    | false =>
      rw [cnd_false]
      have hns : ∀ x ∈ l, x.Kind ≠ 3 := fun x hx hx3 => by
        have : l.any (fun s => decide (s.Kind = 3)) = true := List.any_eq_true.2 ⟨x, hx, decide_eq_true hx3⟩
        rw [hc] at this; cases this
      exact last_loop tid.good.2.1 (fun s hs => (stepE_ok (tid.good.1 s hs)).1) (tid.noS hns) hst.2 0
  · rw [if_pos h0]

theorem editTidiesSameS (m : T_api_Image) (l : List T_edit_Step) {φ1 φ2 φ3 φ4 : Prop} (hm : φ1 ∧ φ2 ∧ (φ3 ∧ ∀ v ∈ m.Pixels, 0 ≤ v ∧ v ≤ 255)) (_ : φ4) : Keep_EditTidiesSame m l = some true := law_tidies hm.2.2.2 l
end Go.M
