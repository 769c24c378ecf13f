/- What each rule makes of a recipe, in plain Lean. Conditions: none. -/
import Derived.Test.YtllnhnnpmmnomaaTsX
namespace Go.M
open Go.Md Go.Pl

/-! ### a measure -/

def rkS (s : T_edit_Step) : Nat := if s.Kind = 1 then 0 else if s.Kind = 2 then 1 else 2
def invS : List T_edit_Step → Nat
  | [] => 0
  | s :: r => r.countP (fun x => decide (rkS x < rkS s)) + invS r
theorem inv_le : ∀ l : List T_edit_Step, invS l ≤ l.length * l.length
  | [] => Nat.le_refl _
  | s :: r => by
    have h1 := inv_le r
    have h2 : r.countP (fun x => decide (rkS x < rkS s)) ≤ r.length := List.countP_le_length
    unfold invS
    rw [List.length_cons, Nat.succ_mul, Nat.mul_succ]; omega
theorem inv_swap {s t : T_edit_Step} (h : rkS t < rkS s) (q : List T_edit_Step) : ∀ p : List T_edit_Step, invS (p ++ t :: s :: q) + 1 = invS (p ++ s :: t :: q)
  | [] => by
    simp only [List.nil_append, invS, List.countP_cons]
    rw [decide_eq_true h, decide_eq_false (by omega)]; simp; omega
  | x :: p => by
    have := inv_swap h q p
    simp only [List.cons_append, invS, List.countP_append, List.countP_cons]
    omega
def meaS (l : List T_edit_Step) : Nat := l.length * 2501 + invS l

/-- A recipe that is nearer to the end, and does the same. -/
def Next (w h : Nat) (P : List Int) (l n : List T_edit_Step) : Prop :=
  Good n w h ∧ runI n ⟨w, h, P⟩ = runI l ⟨w, h, P⟩ ∧ meaS n < meaS l ∧ n.length ≤ l.length ∧ ((∀ x ∈ l, x.Kind ≠ 3) → ∀ x ∈ n, x.Kind ≠ 3)
theorem mea_len {l n : List T_edit_Step} (h : n.length < l.length) (hl : l.length ≤ 50) : meaS n < meaS l := by
  have h1 := inv_le n
  have h2 : n.length * n.length ≤ 50 * 50 := Nat.mul_le_mul (by omega) (by omega)
  unfold meaS
  have : (n.length + 1) * 2501 ≤ l.length * 2501 := Nat.mul_le_mul_right _ h
  omega
theorem mea_swap {p q : List T_edit_Step} {s t : T_edit_Step} (h : rkS t < rkS s) : meaS (p ++ t :: s :: q) < meaS (p ++ s :: t :: q) := by
  have := inv_swap h q p
  unfold meaS
  simp only [List.length_append, List.length_cons]
  omega
theorem inv_rk {x y : T_edit_Step} (h : rkS x = rkS y) (q : List T_edit_Step) : ∀ p : List T_edit_Step, invS (p ++ x :: q) = invS (p ++ y :: q)
  | [] => by simp only [List.nil_append, invS, h]
  | z :: p => by
    have := inv_rk h q p
    simp only [List.cons_append, invS, List.countP_append, List.countP_cons, h]
    omega
theorem mea_rk {x y : T_edit_Step} (h : rkS x = rkS y) (p q : List T_edit_Step) : meaS (p ++ x :: q) = meaS (p ++ y :: q) := by
  have := inv_rk h q p
  unfold meaS
  simp only [List.length_append, List.length_cons]
  omega

/-! ### the program's pieces -/

theorem with_eq (p X q Y : List T_edit_Step) (hl : (p ++ X ++ q).length ≤ 50) (hY : Y.length ≤ 2) {i n : Int} (hi : i = p.length) (hn : n = X.length) : edit_with (p ++ X ++ q) i n Y = some (p ++ Y ++ q) := by
  subst hi hn
  simp only [List.length_append] at hl
  unfold edit_with
  rw [gCut_to (by simp only [List.length_append]; omega), bnd_pure, gI_ok (by omega), bnd_pure, gCut_from (by simp only [List.length_append]; omega), bnd_pure]
  have e1 : (p ++ X ++ q).take ((p.length : Int)).toNat = p := by rw [Int.toNat_natCast, List.append_assoc]; exact List.take_left' rfl
  have e2 : (p ++ X ++ q).drop ((p.length : Int) + (X.length : Int)).toNat = q := by
    rw [show ((p.length : Int) + (X.length : Int)).toNat = (p ++ X).length from by rw [List.length_append]; omega]
    exact List.drop_left' rfl
  rw [e1, e2, Concat3 _ _ _ (by omega), bnd_pure]
theorem at0 (p r : List T_edit_Step) (s : T_edit_Step) : gAt (p ++ s :: r) (p.length : Int) = some s := by
  rw [gAt_nat (by simp)]; simp
theorem at1 (p q : List T_edit_Step) (s t : T_edit_Step) : gAt (p ++ s :: t :: q) ((p.length : Int) + 1) = some t := by
  have := at0 (p ++ [s]) q t
  simpa using this
theorem ap2 (p q : List T_edit_Step) (s t : T_edit_Step) : p ++ [s, t] ++ q = p ++ s :: t :: q := by simp
theorem ap1 (p r : List T_edit_Step) (s : T_edit_Step) : p ++ [s] ++ r = p ++ s :: r := by simp
theorem with1 (p r : List T_edit_Step) (s : T_edit_Step) (Y : List T_edit_Step) (hl : p.length + r.length + 1 ≤ 50) (hY : Y.length ≤ 2) : edit_with (p ++ s :: r) (p.length : Int) 1 Y = some (p ++ Y ++ r) := by
  rw [← ap1]
  exact with_eq p [s] r Y (by simp only [List.length_append, List.length_cons, List.length_nil]; omega) hY rfl rfl
theorem with2 (p q : List T_edit_Step) (s t : T_edit_Step) (Y : List T_edit_Step) (hl : p.length + (q.length + 1) + 1 ≤ 50) (hY : Y.length ≤ 2) : edit_with (p ++ s :: t :: q) (p.length : Int) 2 Y = some (p ++ Y ++ q) := by
  rw [← ap2]
  exact with_eq p [s, t] q Y (by simp only [List.length_append, List.length_cons, List.length_nil]; omega) hY rfl rfl
theorem pair_nil (p : List T_edit_Step) (s : T_edit_Step) (hl : p.length ≤ 50) (x y : Int) : edit_pair (p ++ [s]) (p.length : Int) x y = some false := by
  unfold edit_pair
  rw [gI_ok (by omega), bnd_pure, cnd_if, if_neg (by simp)]
theorem pair_cons (p q : List T_edit_Step) (s t : T_edit_Step) (hl : p.length ≤ 50) (x y : Int) : edit_pair (p ++ s :: t :: q) (p.length : Int) x y = some (decide (s.Kind = x ∧ t.Kind = y)) := by
  unfold edit_pair
  rw [gI_ok (by omega), bnd_pure, cnd_if, if_pos (by simp; omega), at0, bnd_pure, cnd_if, bnd_pure, at1, bnd_pure]
  by_cases h : s.Kind = x <;> simp [h]
theorem shape_eq (s : T_edit_Step) : edit_Shape s = some (decide (1 ≤ s.Kind ∧ s.Kind ≤ 3)) := by
  unfold edit_Shape
  rw [outE_eq, bnd_pure]
  congr 1
  by_cases h1 : s.Kind < 1 <;> by_cases h2 : 3 < s.Kind <;> simp [h1, h2] <;> omega
set_option maxRecDepth 100000 in
theorem neutral_eq {s : T_edit_Step} (hs : stepE s = 0) (a b : Int) : edit_Step_neutral s a b = some (neutralS s a b) := by
  have hk := (stepE_ok hs).1
  unfold edit_Step_neutral neutralS
  simp only [cnd_if]
  by_cases h1 : s.Kind = 1
  · rw [if_pos h1, if_pos h1]
  rw [if_neg h1, if_neg h1]
  by_cases h2 : s.Kind = 2
  · rw [if_pos h2, if_pos h2]
  rw [if_neg h2, if_neg h2]
  by_cases h3 : s.Kind = 3
  · rw [if_pos h3, if_pos h3]
    by_cases h : s.A = a <;> simp [h]
  rw [if_neg h3, if_neg h3]
  by_cases h7 : s.Kind = 7
  · rw [if_pos h7, if_pos h7, if_pos (.inl h7)]
  rw [if_neg h7]
  by_cases h8 : s.Kind = 8
  · rw [if_pos h8, if_pos (.inr h8)]
  rw [if_neg h8, if_neg (by omega)]
  have hby : byteK s := by unfold byteK; omega
  unfold edit_Step_neutral_j1
  rw [straight_eq, bnd_pure, after_eq hs (by intro j hj; simp only [if_pos hj]; omega), bnd_pure, bnd_pure, if_pos hby]
  refine congrArg some ?_
  unfold eq_edit_curve
  refine decide_eq_decide.2 ⟨fun h j => ?_, fun h => ?_⟩
  · have := List.map_inj_left.1 h j.1 (List.mem_range.2 j.2)
    simpa [j.2] using this
  · refine List.map_congr_left fun j hj => ?_
    have hj := List.mem_range.1 hj
    simp only [if_pos hj]
    exact h ⟨j, hj⟩

/-! ### the rules -/

/-- Two kinds that a rule looks for. -/
def badK (k : Nat) (x y : Int) : Prop := (k = 1 ∧ x = 1 ∧ y = 1) ∨ (k = 2 ∧ x = 2 ∧ y = 2) ∨ (k = 3 ∧ x = 2 ∧ y = 1) ∨ (k = 5 ∧ ¬ (1 ≤ x ∧ x ≤ 3) ∧ (y = 1 ∨ y = 2))

def Out (k : Nat) (g : List T_edit_Step → Int → Int → Int → Option (List T_edit_Step × Bool)) (p : List T_edit_Step) (s : T_edit_Step) (r : List T_edit_Step) (w h : Nat) (P : List Int) (a b : Nat) : Prop :=
  (g (p ++ s :: r) (p.length : Int) (a : Int) (b : Int) = some ([], false) ∧ ∀ t q, r = t :: q → ¬ badK k s.Kind t.Kind) ∨ ∃ n, g (p ++ s :: r) (p.length : Int) (a : Int) (b : Int) = some (n, true) ∧ Next w h P (p ++ s :: r) n

structure Cx (p : List T_edit_Step) (s : T_edit_Step) (r : List T_edit_Step) (w h : Nat) (P : List Int) (a b : Nat) (Q : List Int) : Prop where
  m : Im w h P
  g : Good (p ++ s :: r) w h
  mq : Im a b Q
  hr : runI p ⟨w, h, P⟩ = ⟨a, b, Q⟩
  hz : sizeGo p w h = ((a : Int), (b : Int), 0)

theorem Cx.stepS {p r : List T_edit_Step} {s : T_edit_Step} {w h a b : Nat} {P Q : List Int} (c : Cx p s r w h P a b Q) : stepE s = 0 := c.g.1 s (by simp)
theorem Cx.len {p r : List T_edit_Step} {s : T_edit_Step} {w h a b : Nat} {P Q : List Int} (c : Cx p s r w h P a b Q) : p.length + r.length + 1 ≤ 50 := by have := c.g.2.1; simp only [List.length_append, List.length_cons] at this; omega
theorem Cx.sz {p r : List T_edit_Step} {s : T_edit_Step} {w h a b : Nat} {P Q : List Int} (c : Cx p s r w h P a b Q) : (sizeGo (s :: r) a b).2.2 = 0 := by
  have := c.g.2.2
  rwa [sizeGo_append _ _ _ _ (by rw [c.hz]), c.hz] at this
theorem Cx.crop {p r : List T_edit_Step} {s : T_edit_Step} {w h a b : Nat} {P Q : List Int} (c : Cx p s r w h P a b Q) : cropOk s a b := (step_size c.mq c.stepS c.sz).1
theorem Cx.stepT {p q : List T_edit_Step} {s t : T_edit_Step} {w h a b : Nat} {P Q : List Int} (c : Cx p s (t :: q) w h P a b Q) : stepE t = 0 := c.g.1 t (by simp)
theorem Cx.crop2 {p q : List T_edit_Step} {s t : T_edit_Step} {w h a b : Nat} {P Q : List Int} (c : Cx p s (t :: q) w h P a b Q) (k1 : s.Kind = 2) (k2 : t.Kind = 2) : t.A + t.C ≤ s.C ∧ t.B + t.D ≤ s.D := by
  have h := c.sz
  have hc := c.crop k1
  simp only [sizeGo] at h
  rw [if_neg (by omega), if_pos k1, if_pos hc, if_neg (by omega), if_pos k2] at h
  split at h
  · assumption
  · cases h
theorem Cx.cropT {p q : List T_edit_Step} {s t : T_edit_Step} {w h a b : Nat} {P Q : List Int} (c : Cx p s (t :: q) w h P a b Q) (k1 : toneK s) : cropOk t a b := by
  have h := c.sz
  unfold toneK at k1
  have hk := (stepE_ok c.stepS).1
  simp only [sizeGo] at h
  rw [if_neg (by omega), if_neg (by omega), if_neg (by omega)] at h
  intro k2
  rw [if_neg (by omega), if_pos k2] at h
  split at h
  · assumption
  · cases h

/-- Two become what is put in their place. -/
theorem Cx.two {p q : List T_edit_Step} {s t : T_edit_Step} {w h a b : Nat} {P Q : List Int} (c : Cx p s (t :: q) w h P a b Q) {Y : List T_edit_Step} (e : EQ [s, t] Y a b Q) (hl : Y.length ≤ 2) (hm : meaS (p ++ Y ++ q) < meaS (p ++ s :: t :: q)) (h3 : s.Kind ≠ 3 → t.Kind ≠ 3 → ∀ x ∈ Y, x.Kind ≠ 3) : Next w h P (p ++ s :: t :: q) (p ++ Y ++ q) := by
  have g := c.g
  rw [← ap2] at g
  obtain ⟨g1, g2⟩ := good_swap c.m g c.hr c.hz e hl
  rw [ap2] at g2
  refine ⟨g1, g2, hm, by simp only [List.length_append, List.length_cons]; omega, fun hk x hx => ?_⟩
  rcases List.mem_append.1 hx with hx | hx
  · rcases List.mem_append.1 hx with hx | hx
    · exact hk x (by simp [hx])
    · exact h3 (hk s (by simp)) (hk t (by simp)) x hx
  · exact hk x (by simp [hx])

theorem rule0 {p r : List T_edit_Step} {s : T_edit_Step} {w h a b : Nat} {P Q : List Int} (c : Cx p s r w h P a b Q) : Out 0 edit_leaveNeutral p s r w h P a b := by
  have hl := c.len
  unfold Out edit_leaveNeutral
  rw [at0, bnd_pure, neutral_eq c.stepS, bnd_pure]
  cases hn : neutralS s a b with
  | false => exact .inl ⟨rfl, fun t q _ => by unfold badK; omega⟩
  | true =>
    refine .inr ⟨p ++ [] ++ r, ?_, ?_⟩
    · rw [show (!true) = false from rfl, cnd_false, with1 p r s _ hl (by simp), bnd_pure]
    · have g := c.g
      rw [← ap1] at g
      obtain ⟨g1, g2⟩ := good_swap c.m g c.hr c.hz (eq_neutral c.stepS c.mq hn) (by simp)
      rw [ap1] at g2
      refine ⟨g1, g2, mea_len (by simp) c.g.2.1, by simp, fun hk x hx => hk x ?_⟩
      simp only [List.append_nil, List.mem_append] at hx
      rcases hx with hx | hx <;> simp [hx]

theorem pair_no {k : Nat} {x y : Int} {p r : List T_edit_Step} {s : T_edit_Step} (hl : p.length ≤ 50) (h : ∀ t q, r = t :: q → ¬ (s.Kind = x ∧ t.Kind = y)) : edit_pair (p ++ s :: r) (p.length : Int) x y = some false := by
  cases r with
  | nil => exact pair_nil p s hl x y
  | cons t q => rw [pair_cons p q s t hl, decide_eq_false (h t q rfl)]

theorem rule1 {p r : List T_edit_Step} {s : T_edit_Step} {w h a b : Nat} {P Q : List Int} (c : Cx p s r w h P a b Q) : Out 1 edit_joinTurns p s r w h P a b := by
  have hl := c.len
  unfold Out edit_joinTurns
  by_cases hy : ∃ t q, r = t :: q ∧ s.Kind = 1 ∧ t.Kind = 1
  · obtain ⟨t, q, rfl, k1, k2⟩ := hy
    rw [List.length_cons] at hl
    obtain ⟨k, hk, e1, e2⟩ := eq_turns c.stepS c.stepT k1 k2 c.mq
    refine .inr ⟨p ++ [⟨1, k, 0, 0, 0⟩] ++ q, ?_, c.two e2 (by simp) (mea_len (by simp) c.g.2.1) (fun _ _ x hx => by rw [List.mem_singleton.1 hx]; show (1 : Int) ≠ 3; decide)⟩
    rw [pair_cons p q s t (by omega), bnd_pure, decide_eq_true ⟨k1, k2⟩, show (!true) = false from rfl, cnd_false, at0, bnd_pure, gI_ok (by omega), bnd_pure, at1, bnd_pure, e1, bnd_pure, with2 p q s t _ hl (by simp), bnd_pure]
  · refine .inl ⟨?_, fun t q e hb => hy ⟨t, q, e, by unfold badK at hb; omega⟩⟩
    rw [pair_no (k := 1) (by omega) (fun t q e hb => hy ⟨t, q, e, hb⟩), bnd_pure]; rfl

theorem rule2 {p r : List T_edit_Step} {s : T_edit_Step} {w h a b : Nat} {P Q : List Int} (c : Cx p s r w h P a b Q) : Out 2 edit_joinCrops p s r w h P a b := by
  have hl := c.len
  unfold Out edit_joinCrops
  by_cases hy : ∃ t q, r = t :: q ∧ s.Kind = 2 ∧ t.Kind = 2
  · obtain ⟨t, q, rfl, k1, k2⟩ := hy
    rw [List.length_cons] at hl
    have n1 := stepE_nums c.stepS
    have n2 := stepE_nums c.stepT
    refine .inr ⟨p ++ [⟨2, s.A + t.A, s.B + t.B, t.C, t.D⟩] ++ q, ?_, c.two (eq_crops c.stepS c.stepT k1 k2 c.mq (c.crop k1) (c.crop2 k1 k2)) (by simp) (mea_len (by simp) c.g.2.1) (fun _ _ x hx => by rw [List.mem_singleton.1 hx]; show (2 : Int) ≠ 3; decide)⟩
    rw [pair_cons p q s t (by omega), bnd_pure, decide_eq_true ⟨k1, k2⟩, show (!true) = false from rfl, cnd_false, at0, bnd_pure, gI_ok (by omega), bnd_pure, at1, bnd_pure, gI_ok (by omega), bnd_pure, gI_ok (by omega), bnd_pure, with2 p q s t _ hl (by simp), bnd_pure]
  · refine .inl ⟨?_, fun t q e hb => hy ⟨t, q, e, by unfold badK at hb; omega⟩⟩
    rw [pair_no (k := 2) (by omega) (fun t q e hb => hy ⟨t, q, e, hb⟩), bnd_pure]; rfl

theorem rule3 {p r : List T_edit_Step} {s : T_edit_Step} {w h a b : Nat} {P Q : List Int} (c : Cx p s r w h P a b Q) : Out 3 edit_turnFirst p s r w h P a b := by
  have hl := c.len
  unfold Out edit_turnFirst
  by_cases hy : ∃ t q, r = t :: q ∧ s.Kind = 2 ∧ t.Kind = 1
  · obtain ⟨t, q, rfl, k1, k2⟩ := hy
    rw [List.length_cons] at hl
    obtain ⟨d, e1, kd, e2⟩ := eq_turnFirst c.stepS c.stepT k1 k2 c.mq (c.crop k1)
    have hm : meaS (p ++ [t, d] ++ q) < meaS (p ++ s :: t :: q) := by
      have r1 : rkS d = rkS s := by unfold rkS; rw [kd, k1]
      have h1 : meaS (p ++ [t, d] ++ q) = meaS (p ++ t :: s :: q) := by
        have := mea_rk r1 (p ++ [t]) q
        simpa using this
      rw [h1]
      exact mea_swap (by unfold rkS; rw [k1, k2]; decide)
    refine .inr ⟨p ++ [t, d] ++ q, ?_, c.two e2 (by simp) hm (fun _ h3 x hx => ?_)⟩
    · rw [pair_cons p q s t (by omega), bnd_pure, decide_eq_true ⟨k1, k2⟩, show (!true) = false from rfl, cnd_false, gI_ok (by omega), bnd_pure, at1, bnd_pure, at0, bnd_pure, bnd_pure, at1, bnd_pure, e1, bnd_pure, with2 p q s t _ hl (by simp), bnd_pure]
    · rcases List.mem_cons.1 hx with rfl | hx
      · exact h3
      · rw [List.mem_singleton.1 hx, kd]; decide
  · refine .inl ⟨?_, fun t q e hb => hy ⟨t, q, e, by unfold badK at hb; omega⟩⟩
    rw [pair_no (k := 3) (by omega) (fun t q e hb => hy ⟨t, q, e, hb⟩), bnd_pure]; rfl

theorem rule4 {p r : List T_edit_Step} {s : T_edit_Step} {w h a b : Nat} {P Q : List Int} (c : Cx p s r w h P a b Q) : Out 4 edit_leaveInverts p s r w h P a b := by
  have hl := c.len
  unfold Out edit_leaveInverts
  by_cases hy : ∃ t q, r = t :: q ∧ s.Kind = 9 ∧ t.Kind = 9
  · obtain ⟨t, q, rfl, k1, k2⟩ := hy
    rw [List.length_cons] at hl
    refine .inr ⟨p ++ [] ++ q, ?_, c.two (eq_inverts k1 k2 c.mq) (by simp) (mea_len (by simp; omega) c.g.2.1) (fun _ _ x hx => by cases hx)⟩
    rw [pair_cons p q s t (by omega), bnd_pure, decide_eq_true ⟨k1, k2⟩, show (!true) = false from rfl, cnd_false, with2 p q s t _ hl (by simp), bnd_pure]
  · refine .inl ⟨?_, fun t q e hb => by unfold badK at hb; omega⟩
    rw [pair_no (k := 4) (by omega) (fun t q e hb => hy ⟨t, q, e, hb⟩), bnd_pure]; rfl

theorem rule5 {p r : List T_edit_Step} {s : T_edit_Step} {w h a b : Nat} {P Q : List Int} (c : Cx p s r w h P a b Q) : Out 5 edit_shapeFirst p s r w h P a b := by
  have hl := c.len
  unfold Out edit_shapeFirst
  rw [gI_ok (by omega), bnd_pure]
  cases r with
  | nil =>
    refine .inl ⟨?_, fun t q e => by cases e⟩
    rw [cnd_if, if_pos (by simp)]
  | cons t q =>
    rw [List.length_cons] at hl
    have hkt := (stepE_ok c.stepT).1
    rw [cnd_if, if_neg (by simp; omega), at0, bnd_pure, shape_eq, bnd_pure]
    by_cases h1 : 1 ≤ s.Kind ∧ s.Kind ≤ 3
    · rw [decide_eq_true h1, cnd_true]
      exact .inl ⟨rfl, fun t' q' e hb => by unfold badK at hb; omega⟩
    · rw [decide_eq_false h1, cnd_false, bnd_pure, at1, bnd_pure, shape_eq, bnd_pure]
      by_cases h2 : 1 ≤ t.Kind ∧ t.Kind ≤ 3
      · rw [decide_eq_true h2, show (!true) = false from rfl, cnd_false, bnd_pure, at1, bnd_pure, cnd_if]
        by_cases h3 : t.Kind = 3
        · rw [if_pos h3]
          refine .inl ⟨rfl, fun t' q' e hb => ?_⟩
          cases e
          unfold badK at hb; omega
        · rw [if_neg h3, bnd_pure, at1, bnd_pure, bnd_pure]
          refine .inr ⟨p ++ [t, s] ++ q, ?_, c.two (eq_shapeFirst c.stepS c.stepT h1 (by unfold moveK; omega) c.mq (c.cropT h1)) (by simp) ?_ (fun a1 a2 x hx => ?_)⟩
          · rw [with2 p q s t _ hl (by simp), bnd_pure]
          · rw [ap2]
            refine mea_swap ?_
            unfold rkS
            rw [if_neg (show ¬ s.Kind = 1 from by omega), if_neg (show ¬ s.Kind = 2 from by omega)]
            by_cases k1 : t.Kind = 1
            · rw [if_pos k1]; decide
            · rw [if_neg k1, if_pos (by omega)]; decide
          · rcases List.mem_cons.1 hx with rfl | hx
            · exact a2
            · rw [List.mem_singleton.1 hx]; exact a1
      · rw [decide_eq_false h2, show (!false) = true from rfl, cnd_true]
        refine .inl ⟨rfl, fun t' q' e hb => ?_⟩
        cases e
        unfold badK at hb; omega
end Go.M

/- Tidy, in plain Lean. Conditions: none. -/
namespace Go.M
open Go.Md Go.Pl

/-- No two steps that a rule looks for, at a place. -/
def NB (k : Nat) (l : List T_edit_Step) (j : Nat) : Prop := ∀ p s t q, l = p ++ s :: t :: q → p.length = j → ¬ badK k s.Kind t.Kind

theorem split_at {l : List T_edit_Step} {a : Nat} (h : a < l.length) : ∃ p s r, l = p ++ s :: r ∧ p.length = a :=
  ⟨l.take a, l[a], l.drop (a + 1), by rw [← List.drop_eq_getElem_cons, List.take_append_drop], by rw [List.length_take]; omega⟩

theorem rule_k {k : Nat} (hk : k < 6) : ∃ g, gFn (mft175 k) = some g ∧ ∀ {p r : List T_edit_Step} {s : T_edit_Step} {w h a b : Nat} {P Q : List Int}, Cx p s r w h P a b Q → Out k g p s r w h P a b := by
  have : k = 0 ∨ k = 1 ∨ k = 2 ∨ k = 3 ∨ k = 4 ∨ k = 5 := by omega
  rcases this with rfl | rfl | rfl | rfl | rfl | rfl
  · exact ⟨_, rfl, rule0⟩
  · exact ⟨_, rfl, rule1⟩
  · exact ⟨_, rfl, rule2⟩
  · exact ⟨_, rfl, rule3⟩
  · exact ⟨_, rfl, rule4⟩
  · exact ⟨_, rfl, rule5⟩

theorem size_good {p : List T_edit_Step} {w h : Nat} {P : List Int} (m : Im w h P) (ho : okAll p) (hl : p.length ≤ 50) : edit_size p (w : Int) (h : Int) = some (sizeGo p w h) := by
  have h1 := m.w1; have h2 := m.w2; have h3 := m.h1; have h4 := m.h2
  rw [edit_size_eq ho (by omega)]
  unfold sizeS
  rw [if_pos (by omega)]

noncomputable def rowOut (k : Int) (p : Int → Option (List T_edit_Step × Bool)) : Option (List T_edit_Step) → Option (List T_edit_Step × Bool)
  | none => edit_shorter_j2 k p
  | some n => some (n, true)

theorem row_k {l : List T_edit_Step} {w h : Nat} {P : List Int} (m : Im w h P) (g : Good l w h) {k : Nat} (hk : k < 6) :
    ∃ r : Option (List T_edit_Step), (match r with | none => ∀ j, NB k l j | some n => Next w h P l n) ∧ ∀ p : Int → Option (List T_edit_Step × Bool), fix (fun next3 s => edit_shorter_l3 l (w : Int) (h : Int) (k : Int) p k next3 s) (0 : Int) = rowOut (k : Int) p r := by
  obtain ⟨gk, hg, hrule⟩ := rule_k hk
  refine fix_runP (F := fun (p : Int → Option (List T_edit_Step × Bool)) next3 s => edit_shorter_l3 l (w : Int) (h : Int) (k : Int) p k next3 s) (fun p (r : Option (List T_edit_Step)) => rowOut (k : Int) p r) (fun i => ∃ a : Nat, i = a ∧ a ≤ l.length ∧ ∀ j, j < a → NB k l j) (fun i => ((l.length : Int) - i).toNat) (fun r => match r with | none => ∀ j, NB k l j | some n => Next w h P l n) (fun i hi => ?_) 0 ⟨0, rfl, by omega, fun j hj => by omega⟩
  obtain ⟨a, rfl, ha, hp⟩ := hi
  rcases Nat.lt_or_ge a l.length with hlt | hge
  · obtain ⟨p, s, r, rfl, rfl⟩ := split_at hlt
    have hop : okAll p := fun x hx => g.1 x (by simp [hx])
    have hlen := g.2.1
    simp only [List.length_append, List.length_cons] at hlen
    have hz : (sizeGo p w h).2.2 = 0 := sizeGo_pre p (s :: r) w h g.2.2
    obtain ⟨a0, b0, Q, mQ, hr, hs⟩ := run_ctx p m hop hz
    have c : Cx p s r w h P a0 b0 Q := ⟨m, g, mQ, hr, hs⟩
    have base : ∀ (nx : Int → Option (List T_edit_Step × Bool)) next3, edit_shorter_l3 (p ++ s :: r) (w : Int) (h : Int) (k : Int) nx k next3 (p.length : Int) = bnd (gk (p ++ s :: r) (p.length : Int) (a0 : Int) (b0 : Int)) fun t43 => cnd t43.2 (some (t43.1, true)) (next3 ((p.length : Int) + 1)) := by
      intro nx next3
      unfold edit_shorter_l3
      rw [cnd_if, if_pos (by simp only [List.length_append, List.length_cons]; omega), gCut_to (by simp only [List.length_append, List.length_cons]; omega), bnd_pure, Int.toNat_natCast, List.take_left' rfl, size_good m hop (by omega), bnd_pure, hg, bnd_pure, hs, gI_ok (by omega)]
      rfl
    rcases hrule c with ⟨e1, e2⟩ | ⟨n, e1, e2⟩
    · right
      refine ⟨(p.length : Int) + 1, ⟨p.length + 1, by omega, by simp only [List.length_append, List.length_cons]; omega, fun j hj => ?_⟩, by simp only [List.length_append, List.length_cons]; omega, fun nx next => ?_⟩
      · rcases Nat.lt_or_ge j p.length with hj' | hj'
        · exact hp j hj'
        · intro p' s' t' q' e hl'
          obtain ⟨e3, e4⟩ := List.append_inj e (by omega)
          injection e4 with e5 e6
          subst e5
          exact e2 t' q' e6
      · rw [base, e1, bnd_pure]; rfl
    · left
      refine ⟨some n, e2, fun nx next => ?_⟩
      rw [base, e1, bnd_pure]; rfl
  · left
    refine ⟨none, fun j => ?_, fun nx next => ?_⟩
    · rcases Nat.lt_or_ge j a with hj | hj
      · exact hp j hj
      · intro p s t q e hl'
        have := congrArg List.length e
        simp only [List.length_append, List.length_cons] at this
        omega
    · show edit_shorter_l3 l _ _ _ nx k next (a : Int) = _
      unfold edit_shorter_l3
      rw [cnd_if, if_neg (by omega)]
      rfl

/-- No rule applies. -/
def Stop (l : List T_edit_Step) (w h : Nat) : Prop := edit_shorter l (w : Int) (h : Int) = some (l, false) ∧ ∀ k, k < 6 → ∀ j, NB k l j

theorem shorter_eq {l : List T_edit_Step} {w h : Nat} {P : List Int} (m : Im w h P) (g : Good l w h) : Stop l w h ∨ ∃ n, edit_shorter l (w : Int) (h : Int) = some (n, true) ∧ Next w h P l n := by
  have key : ∃ r : List T_edit_Step × Bool, edit_shorter l (w : Int) (h : Int) = some r ∧ ((r = (l, false) ∧ ∀ k, k < 6 → ∀ j, NB k l j) ∨ ∃ n, r = (n, true) ∧ Next w h P l n) := by
    refine fix_run (F := fun next1 s => edit_shorter_l1 l (w : Int) (h : Int) next1 s) (fun i => ∃ k : Nat, i = k ∧ k ≤ 6 ∧ ∀ k', k' < k → ∀ j, NB k' l j) (fun i => (6 - i).toNat) (fun r => (r = (l, false) ∧ ∀ k, k < 6 → ∀ j, NB k l j) ∨ ∃ n, r = (n, true) ∧ Next w h P l n) (fun i hi => ?_) 0 ⟨0, rfl, by omega, fun k hk => by omega⟩
    obtain ⟨k, rfl, hk6, hp⟩ := hi
    rcases Nat.lt_or_ge k 6 with hk | hk
    · obtain ⟨r, h1, h2⟩ := row_k m g hk
      have hat : gAt ([0, 1, 2, 3, 4, 5] : List Nat) (k : Int) = some k := by
        have : k = 0 ∨ k = 1 ∨ k = 2 ∨ k = 3 ∨ k = 4 ∨ k = 5 := by omega
        rcases this with rfl | rfl | rfl | rfl | rfl | rfl <;> decide
      have base : ∀ next, edit_shorter_l1 l (w : Int) (h : Int) next (k : Int) = rowOut (k : Int) next r := by
        intro next
        unfold edit_shorter_l1
        rw [cnd_if, if_pos (by omega), hat, bnd_pure, h2 next]
      cases r with
      | none =>
        right
        refine ⟨(k : Int) + 1, ⟨k + 1, by omega, by omega, fun k' hk' => ?_⟩, by omega, fun next => ?_⟩
        · rcases Nat.lt_or_ge k' k with h | h
          · exact hp k' h
          · have : k' = k := by omega
            subst this; exact h1
        · rw [base]
          show edit_shorter_j2 (k : Int) next = _
          unfold edit_shorter_j2
          rw [gI_ok (by omega), bnd_pure]
      | some n => exact .inl ⟨(n, true), .inr ⟨n, rfl, h1⟩, fun next => base next⟩
    · left
      refine ⟨(l, false), .inl ⟨rfl, fun k' hk' => hp k' (by omega)⟩, fun next => ?_⟩
      unfold edit_shorter_l1
      rw [cnd_if, if_neg (by omega)]
  obtain ⟨r, h1, h2⟩ := key
  rcases h2 with ⟨rfl, h2⟩ | ⟨n, rfl, h2⟩
  · exact .inl ⟨h1, h2⟩
  · exact .inr ⟨n, h1, h2⟩

/-! ### Tidy -/

theorem good_steps {l : List T_edit_Step} {w h : Nat} (g : Good l w h) : stepsE l = 0 := by
  unfold stepsE
  rw [if_neg (by have := g.2.1; omega)]
  exact fstE_all fun x hx => by
    obtain ⟨s, hs, rfl⟩ := List.mem_map.1 hx
    exact g.1 s hs

theorem tidy_start {l : List T_edit_Step} {w h : Nat} {P : List Int} (m : Im w h P) (g : Good l w h) : edit_Tidy l (w : Int) (h : Int) = fix (fun next2 s => edit_Tidy_l2 (w : Int) (h : Int) next2 s.1 s.2) (true, l) := by
  unfold edit_Tidy
  rw [Check_eq, bnd_pure, good_steps g, cnd_if, if_neg (fun h => h rfl), size_good m g.1 g.2.1, bnd_pure, g.2.2, cnd_if, if_neg (fun h => h rfl)]
  unfold slices_Clone_edit_Step
  rw [gApp_ok (by have := g.2.1; simp; omega), bnd_pure, bnd_pure]; rfl

/-- What Tidy yields. -/
structure Tid (l t : List T_edit_Step) (w h : Nat) (P : List Int) : Prop where
  good : Good t w h
  run : runI t ⟨w, h, P⟩ = runI l ⟨w, h, P⟩
  len : t.length ≤ l.length
  noS : (∀ x ∈ l, x.Kind ≠ 3) → ∀ x ∈ t, x.Kind ≠ 3

theorem Tidy_eq {l : List T_edit_Step} {w h : Nat} {P : List Int} (m : Im w h P) (g : Good l w h) : ∃ t, edit_Tidy l (w : Int) (h : Int) = some (t, 0) ∧ Tid l t w h P ∧ Stop t w h := by
  rw [tidy_start m g]
  obtain ⟨r, h1, h2, h3, h4⟩ := fix_run (F := fun next2 (s : Bool × List T_edit_Step) => edit_Tidy_l2 (w : Int) (h : Int) next2 s.1 s.2) (fun s => Tid l s.2 w h P ∧ (s.1 = false → Stop s.2 w h)) (fun s => meaS s.2 * 2 + (if s.1 = true then 1 else 0)) (fun (r : List T_edit_Step × Int) => r.2 = 0 ∧ Tid l r.1 w h P ∧ Stop r.1 w h) (fun s hs => by
    obtain ⟨b, n⟩ := s
    obtain ⟨ht, hb⟩ := hs
    simp only at ht hb
    cases b with
    | false => exact .inl ⟨(n, 0), ⟨rfl, ht, hb rfl⟩, fun next => rfl⟩
    | true =>
      right
      rcases shorter_eq m ht.good with hst | ⟨n2, e1, e2⟩
      · refine ⟨(false, n), ⟨ht, fun _ => hst⟩, by simp, fun next => ?_⟩
        show edit_Tidy_l2 _ _ next true n = _
        unfold edit_Tidy_l2
        rw [cnd_true, hst.1, bnd_pure]
      · refine ⟨(true, n2), ⟨⟨e2.1, e2.2.1.trans ht.run, Nat.le_trans e2.2.2.2.1 ht.len, fun hk => e2.2.2.2.2 (ht.noS hk)⟩, fun h => by cases h⟩, by have := e2.2.2.1; simp only [if_true]; omega, fun next => ?_⟩
        show edit_Tidy_l2 _ _ next true n = _
        unfold edit_Tidy_l2
        rw [cnd_true, e1, bnd_pure]) (true, l) ⟨⟨g, rfl, Nat.le_refl _, fun h => h⟩, fun h => by cases h⟩
  obtain ⟨t, e⟩ := r
  simp only at h2
  subst h2
  exact ⟨t, h1, h3, h4⟩

theorem Tidy_stop {t : List T_edit_Step} {w h : Nat} {P : List Int} (m : Im w h P) (g : Good t w h) (hs : Stop t w h) : edit_Tidy t (w : Int) (h : Int) = some (t, 0) := by
  rw [tidy_start m g]
  refine (fix_goto (F := fun next2 (s : Bool × List T_edit_Step) => edit_Tidy_l2 (w : Int) (h : Int) next2 s.1 s.2) (false, t) fun next => ?_).trans (fix_done fun next => rfl)
  show edit_Tidy_l2 _ _ next true t = _
  unfold edit_Tidy_l2
  rw [cnd_true, hs.1, bnd_pure]

end Go.M

/- Idle, turned crops and joined turns of the reference, in plain Lean. Conditions: none. -/
namespace Go.M
open Go.Md Go.Pl

/-! ### Idle -/

theorem idle_eq {s : T_edit_Step} (hs : stepE s = 0) (a b : Int) : R_Idle s a b = some (neutralS s a b) := by
  obtain ⟨hk, hb, _, h6⟩ := stepE_ok hs
  unfold R_Idle neutralS R_Idle_j1
  simp only [cnd_if]
  by_cases h1 : s.Kind = 1
  · rw [if_pos h1, if_pos h1]
  rw [if_neg h1, if_neg h1]
  by_cases h2 : s.Kind = 2
  · rw [if_pos h2, if_pos h2]
  rw [if_neg h2, if_neg h2]
  by_cases h3 : s.Kind = 3
  · rw [if_pos h3, if_pos h3]
    by_cases hA : s.A = a
    · rw [if_pos hA]; congr 1; exact decide_eq_decide.2 ⟨fun h => ⟨hA, h⟩, fun h => h.2⟩
    · rw [if_neg hA, decide_eq_false (fun h => hA h.1)]
  rw [if_neg h3, if_neg h3]
  have kinds : s.Kind = 4 ∨ s.Kind = 5 ∨ s.Kind = 6 ∨ s.Kind = 7 ∨ s.Kind = 8 ∨ s.Kind = 9 := by omega
  have at' : (∀ j : Fin 256, toneB s ((j : Nat) : Int) = ((j : Nat) : Int)) → ∀ j : Int, 0 ≤ j → j ≤ 255 → toneB s j = j := fun h j h0 h1 => by
    have := h ⟨j.toNat, by omega⟩
    simp only [Int.toNat_of_nonneg h0] at this
    exact this
  rcases kinds with h | h | h | h | h | h
  · simp only [h]
    simp only [if_true, reduceIte, decide_true, cnd_true]
    rw [if_neg (by omega)]
    refine congrArg some (decide_eq_decide.2 ⟨fun e j => ?_, fun e => ?_⟩)
    · have := j.isLt; unfold toneB clampS; rw [if_pos h]; omega
    · have n := stepE_nums hs
      have e0 := at' e 0 (by omega) (by omega)
      have e1 := at' e 255 (by omega) (by omega)
      unfold badS at hb
      unfold toneB clampS at e0 e1
      rw [if_pos h] at e0 e1
      omega
  · simp only [h]
    simp only [if_true, reduceIte, decide_true, decide_false, cnd_true, cnd_false]
    simp
    constructor
    · intro e j
      have := j.isLt
      unfold toneB clampS
      rw [if_neg (by omega), if_pos h, e]
      omega
    · intro e
      have e0 := at' e 228 (by omega) (by omega)
      unfold toneB clampS at e0
      rw [if_neg (by omega), if_pos h] at e0
      omega
  · have hlt := h6 h
    have n := stepE_nums hs
    have bA : 0 ≤ s.A := by
      unfold badS at hb
      omega
    simp only [h]
    simp
    by_cases hA : s.A = 0
    · rw [if_pos hA]
      refine congrArg some (decide_eq_decide.2 ⟨fun e j => ?_, fun e => ?_⟩)
      · have := j.isLt
        unfold toneB clampS
        rw [if_neg (by omega), if_neg (by omega), if_pos h, hA, e]
        have : (((j : Nat) : Int) - 0) * 255 / (255 - 0) = ((j : Nat) : Int) := by rw [Int.sub_zero, Int.sub_zero, Int.mul_ediv_cancel _ (by decide)]
        rw [this]; omega
      · have e0 := at' e s.B (by omega) (by omega)
        unfold toneB clampS at e0
        rw [if_neg (by omega), if_neg (by omega), if_pos h, hA, Int.sub_zero, Int.mul_comm, Int.mul_ediv_cancel _ (by omega)] at e0
        omega
    · rw [if_neg hA]
      refine congrArg some (decide_eq_false fun e => ?_).symm
      have e0 := at' e s.A (by omega) (by omega)
      unfold toneB clampS at e0
      rw [if_neg (by omega), if_neg (by omega), if_pos h, Int.sub_self, Int.zero_mul, Int.zero_ediv] at e0
      omega
  · simp [h]
  · simp [h]
  · simp only [h]
    simp
    have e : ¬ ∀ j : Fin 256, toneB s ((j : Nat) : Int) = ((j : Nat) : Int) := fun e => by
      have e0 := at' e 0 (by omega) (by omega)
      unfold toneB at e0
      rw [if_neg (by omega), if_neg (by omega), if_neg (by omega)] at e0
      omega
    simpa using e

/-! ### the least and the greatest -/

theorem Min_eq {l : List Int} {m : Int} (hm : m ∈ l) (hle : ∀ x ∈ l, m ≤ x) (hl : l.length ≤ 1000000) : slices_Min_int l = some m := by
  have h0 : 0 < l.length := List.length_pos_of_mem hm
  unfold slices_Min_int
  rw [cnd_if, if_neg (by omega), gAt_ok (i := 0) (by omega) h0, bnd_pure]
  obtain ⟨r, h1, h2⟩ := fix_run (F := fun next1 (s : Int × Int) => slices_Min_int_l1 l next1 s.1 s.2) (fun s => ∃ k : Nat, s.2 = k ∧ 1 ≤ k ∧ k ≤ l.length ∧ m ≤ s.1 ∧ (m ∈ l.take k → s.1 = m)) (fun s => ((l.length : Int) - s.2).toNat) (fun r => r = m) (fun s hs => by
    obtain ⟨c, i⟩ := s
    obtain ⟨k, rfl, hk1, hk2, hc, ht⟩ := hs
    simp only at hc ht
    rcases Nat.lt_or_ge k l.length with h | h
    · right
      have hx := hle l[k] (List.getElem_mem h)
      refine ⟨(min c l[k], (k : Int) + 1), ⟨k + 1, by simp, by omega, by omega, by simp only; omega, fun hmt => ?_⟩, by simp only; omega, fun next => ?_⟩
      · rw [List.take_succ_eq_append_getElem h] at hmt
        rcases List.mem_append.1 hmt with h' | h'
        · have := ht h'; simp only; omega
        · have := List.mem_singleton.1 h'; simp only; omega
      · show slices_Min_int_l1 l next c (k : Int) = _
        unfold slices_Min_int_l1
        rw [cnd_if, if_pos (by omega), gAt_nat h, bnd_pure, gI_ok (by omega), bnd_pure]
    · left
      refine ⟨c, ht (by rw [List.take_of_length_le h]; exact hm), fun next => ?_⟩
      show slices_Min_int_l1 l next c (k : Int) = _
      unfold slices_Min_int_l1
      rw [cnd_if, if_neg (by omega)]) (l[(0 : Int).toNat], 1) ⟨1, rfl, by omega, by omega, hle _ (List.getElem_mem h0), fun hmt => by
        obtain ⟨x, xs, rfl⟩ := List.exists_cons_of_length_pos h0
        have h3 : m = x := by simpa using hmt
        exact h3.symm⟩
  subst h2
  exact h1

theorem Max_eq {l : List Int} {m : Int} (hm : m ∈ l) (hle : ∀ x ∈ l, x ≤ m) (hl : l.length ≤ 1000000) : slices_Max_int l = some m := by
  have h0 : 0 < l.length := List.length_pos_of_mem hm
  unfold slices_Max_int
  rw [cnd_if, if_neg (by omega), gAt_ok (i := 0) (by omega) h0, bnd_pure]
  obtain ⟨r, h1, h2⟩ := fix_run (F := fun next1 (s : Int × Int) => slices_Max_int_l1 l next1 s.1 s.2) (fun s => ∃ k : Nat, s.2 = k ∧ 1 ≤ k ∧ k ≤ l.length ∧ s.1 ≤ m ∧ (m ∈ l.take k → s.1 = m)) (fun s => ((l.length : Int) - s.2).toNat) (fun r => r = m) (fun s hs => by
    obtain ⟨c, i⟩ := s
    obtain ⟨k, rfl, hk1, hk2, hc, ht⟩ := hs
    simp only at hc ht
    rcases Nat.lt_or_ge k l.length with h | h
    · right
      have hx := hle l[k] (List.getElem_mem h)
      refine ⟨(max c l[k], (k : Int) + 1), ⟨k + 1, by simp, by omega, by omega, by simp only; omega, fun hmt => ?_⟩, by simp only; omega, fun next => ?_⟩
      · rw [List.take_succ_eq_append_getElem h] at hmt
        rcases List.mem_append.1 hmt with h' | h'
        · have := ht h'; simp only; omega
        · have := List.mem_singleton.1 h'; simp only; omega
      · show slices_Max_int_l1 l next c (k : Int) = _
        unfold slices_Max_int_l1
        rw [cnd_if, if_pos (by omega), gAt_nat h, bnd_pure, gI_ok (by omega), bnd_pure]
    · left
      refine ⟨c, ht (by rw [List.take_of_length_le h]; exact hm), fun next => ?_⟩
      show slices_Max_int_l1 l next c (k : Int) = _
      unfold slices_Max_int_l1
      rw [cnd_if, if_neg (by omega)]) (l[(0 : Int).toNat], 1) ⟨1, rfl, by omega, by omega, hle _ (List.getElem_mem h0), fun hmt => by
        obtain ⟨x, xs, rfl⟩ := List.exists_cons_of_length_pos h0
        have h3 : m = x := by simpa using hmt
        exact h3.symm⟩
  subst h2
  exact h1

/-! ### the crop in a turned image -/

/-- What has been found of a crop after so many pixels. -/
structure HitI (W X Y p q k : Nat) (xs ys : List Int) : Prop where
  xin : ∀ x ∈ xs, (X : Int) ≤ x ∧ x ≤ (X : Int) + p - 1
  yin : ∀ y ∈ ys, (Y : Int) ≤ y ∧ y ≤ (Y : Int) + q - 1
  xl : xs.length ≤ k
  yl : ys.length ≤ k
  fst : Y * W + X < k → (X : Int) ∈ xs ∧ (Y : Int) ∈ ys
  lst : (Y + q - 1) * W + (X + p - 1) < k → (X : Int) + p - 1 ∈ xs ∧ (Y : Int) + q - 1 ∈ ys

theorem place_inj {W u v X Y : Nat} (hu : u < W) (hX : X < W) (h : v * W + u = Y * W + X) : u = X ∧ v = Y := by
  have e1 : (v * W + u) / W = v := by rw [Nat.mul_comm, Nat.mul_add_div (by omega), Nat.div_eq_of_lt hu, Nat.add_zero]
  have e2 : (Y * W + X) / W = Y := by rw [Nat.mul_comm, Nat.mul_add_div (by omega), Nat.div_eq_of_lt hX, Nat.add_zero]
  rw [h, e2] at e1
  subst e1
  exact ⟨by omega, rfl⟩

theorem HitI.hit {W X Y p q u v : Nat} {xs ys : List Int} (h : HitI W X Y p q (v * W + u) xs ys) (hu : u < W) (hX : X + p ≤ W) (hp : 1 ≤ p) (hq : 1 ≤ q) (a : X ≤ u ∧ u < X + p) (b : Y ≤ v ∧ v < Y + q) : HitI W X Y p q (v * W + u + 1) (xs ++ [(u : Int)]) (ys ++ [(v : Int)]) := by
  refine ⟨fun x hx => ?_, fun y hy => ?_, by have := h.xl; simp; omega, by have := h.yl; simp; omega, fun hk => ?_, fun hk => ?_⟩
  · rcases List.mem_append.1 hx with hx | hx
    · exact h.xin x hx
    · rw [List.mem_singleton.1 hx]; omega
  · rcases List.mem_append.1 hy with hy | hy
    · exact h.yin y hy
    · rw [List.mem_singleton.1 hy]; omega
  · by_cases e : v * W + u = Y * W + X
    · obtain ⟨rfl, rfl⟩ := place_inj hu (by omega) e
      simp
    · obtain ⟨h1, h2⟩ := h.fst (by omega)
      simp [h1, h2]
  · by_cases e : v * W + u = (Y + q - 1) * W + (X + p - 1)
    · obtain ⟨e1, e2⟩ := place_inj hu (by omega) e
      have e3 : (X : Int) + p - 1 = (u : Int) := by omega
      have e4 : (Y : Int) + q - 1 = (v : Int) := by omega
      rw [e3, e4]; simp
    · obtain ⟨h1, h2⟩ := h.lst (by omega)
      simp [h1, h2]

theorem HitI.miss {W X Y p q u v : Nat} {xs ys : List Int} (h : HitI W X Y p q (v * W + u) xs ys) (hu : u < W) (hX : X + p ≤ W) (hp : 1 ≤ p) (hq : 1 ≤ q) (n : ¬ ((X ≤ u ∧ u < X + p) ∧ Y ≤ v ∧ v < Y + q)) : HitI W X Y p q (v * W + u + 1) xs ys := by
  refine ⟨h.xin, h.yin, by have := h.xl; omega, by have := h.yl; omega, fun hk => ?_, fun hk => ?_⟩
  · by_cases e : v * W + u = Y * W + X
    · obtain ⟨rfl, rfl⟩ := place_inj hu (by omega) e
      exact absurd ⟨⟨by omega, by omega⟩, by omega, by omega⟩ n
    · exact h.fst (by omega)
  · by_cases e : v * W + u = (Y + q - 1) * W + (X + p - 1)
    · obtain ⟨rfl, rfl⟩ := place_inj hu (by omega) e
      exact absurd ⟨⟨by omega, by omega⟩, by omega, by omega⟩ n
    · exact h.lst (by omega)

theorem cropTurned_eq {t w h a b c d : Nat} (ht : 1 ≤ t ∧ t ≤ 8) (hw : w ≤ 64) (hh : h ≤ 64) (hc : 1 ≤ c ∧ a + c ≤ w) (hd : 1 ≤ d ∧ b + d ≤ h) :
    R_cropTurned ⟨2, a, b, c, d⟩ (t : Int) (w : Int) (h : Int) = some ⟨2, (cropX t w h a b c d : Nat), (cropY t w h a b c d : Nat), (turnW t c d : Nat), (turnH t c d : Nat)⟩ := by
  obtain ⟨i1, i2, i3, i4⟩ := crop_in ht hc hd
  have hW : turnW t w h ≤ 64 := by unfold turnW; split <;> omega
  have hH : turnH t w h ≤ 64 := by unfold turnH; split <;> omega
  have hit := @crop_hit t w h a b c d
  generalize hX : cropX t w h a b c d = X at i1 hit
  generalize hY : cropY t w h a b c d = Y at i2 hit
  have e0 : R_cropTurned ⟨2, a, b, c, d⟩ (t : Int) (w : Int) (h : Int) = R_cropTurned_j1 ⟨2, a, b, c, d⟩ (t : Int) (w : Int) (h : Int) ((turnW t w h : Nat) : Int) ((turnH t w h : Nat) : Int) := by
    unfold R_cropTurned turnW turnH
    by_cases h5 : 5 ≤ t
    · rw [cnd_if, if_pos (by omega), if_pos h5, if_pos h5]
    · rw [cnd_if, if_neg (by omega), if_neg h5, if_neg h5]
  rw [e0]
  generalize hWn : turnW t w h = W at *
  generalize hHn : turnH t w h = H at *
  generalize hpn : turnW t c d = p at *
  generalize hqn : turnH t c d = q at *
  have inner : ∀ (v : Nat), v < H → ∀ xs ys, HitI W X Y p q (v * W) xs ys → ∃ r : List Int × List Int, HitI W X Y p q ((v + 1) * W) r.1 r.2 ∧ ∀ next3 : (Int × List Int × List Int) → Option T_edit_Step,
      fix (fun next5 s => R_cropTurned_l5 ⟨2, a, b, c, d⟩ (t : Int) (w : Int) (h : Int) (W : Int) (v : Int) next3 next5 s.1 s.2.1 s.2.2) ((0 : Int), xs, ys) = next3 ((v : Int) + 1, r.1, r.2) := by
    intro v hv xs ys h0
    have key := fix_runP (F := fun (p : (Int × List Int × List Int) → Option T_edit_Step) next5 (s : Int × List Int × List Int) => R_cropTurned_l5 ⟨2, a, b, c, d⟩ (t : Int) (w : Int) (h : Int) (W : Int) (v : Int) p next5 s.1 s.2.1 s.2.2) (fun p (r : List Int × List Int) => p ((v : Int) + 1, r.1, r.2)) (fun s => ∃ u : Nat, s.1 = u ∧ u ≤ W ∧ HitI W X Y p q (v * W + u) s.2.1 s.2.2) (fun s => ((W : Int) - s.1).toNat) (fun r => HitI W X Y p q ((v + 1) * W) r.1 r.2) (fun s hs => ?_) ((0 : Int), xs, ys) ⟨0, rfl, by omega, by simpa using h0⟩
    · exact key
    · obtain ⟨x, l1, l2⟩ := s
      obtain ⟨u, rfl, hu, hi⟩ := hs
      simp only at hi
      have hvW : v * W + u ≤ 64 * 64 := by
        have : v * W + W ≤ H * W := by rw [← Nat.succ_mul]; exact Nat.mul_le_mul_right _ hv
        have h2 : H * W ≤ 64 * 64 := Nat.mul_le_mul hH hW
        omega
      rcases Nat.lt_or_ge u W with hlt | hge
      · right
        have hit' := hit ht hc hd hlt hv
        have hsrc := source_eq (t := (t : Int)) (w := (w : Int)) (h := (h : Int)) (x := (u : Int)) (y := (v : Int)) (by omega) (by omega)
        have l1b := hi.xl
        have l2b := hi.yl
        by_cases hh' : (X ≤ u ∧ u < X + p) ∧ Y ≤ v ∧ v < Y + q
        · obtain ⟨g1, g2⟩ := hit'.2 hh'
          refine ⟨((u : Int) + 1, l1 ++ [(u : Int)], l2 ++ [(v : Int)]), ⟨u + 1, by simp, by omega, hi.hit hlt (by omega) (by omega) (by omega) hh'.1 hh'.2⟩, by simp only; omega, fun nx next => ?_⟩
          show R_cropTurned_l5 _ _ _ _ _ _ nx next (u : Int) l1 l2 = _
          unfold R_cropTurned_l5 R_cropTurned_j6
          simp only
          rw [cnd_if, if_pos (by omega), hsrc, bnd_pure, cnd_if, if_pos g1.1, gI_ok (by omega), bnd_pure, cnd_if, if_pos (by omega), cnd_if, if_pos g2.1, gI_ok (by omega), bnd_pure, cnd_if, if_pos (by omega), gApp_ok (by simp; omega), bnd_pure, gApp_ok (by simp; omega), bnd_pure, gI_ok (by omega), bnd_pure]
        · refine ⟨((u : Int) + 1, l1, l2), ⟨u + 1, by simp, by omega, hi.miss hlt (by omega) (by omega) (by omega) hh'⟩, by simp only; omega, fun nx next => ?_⟩
          show R_cropTurned_l5 _ _ _ _ _ _ nx next (u : Int) l1 l2 = _
          unfold R_cropTurned_l5 R_cropTurned_j6
          simp only
          have hn : ¬ (((a : Int) ≤ (srcS t w h u v).1 ∧ (srcS t w h u v).1 ≤ (a : Int) + c - 1) ∧ (b : Int) ≤ (srcS t w h u v).2 ∧ (srcS t w h u v).2 ≤ (b : Int) + d - 1) := fun g => hh' (hit'.1 g)
          rw [cnd_if, if_pos (by omega), hsrc, bnd_pure, gI_ok (x := (u : Int) + 1) (by omega), bnd_pure, cnd_if]
          by_cases c1 : (a : Int) ≤ (srcS t w h u v).1
          · rw [if_pos c1, gI_ok (by omega), bnd_pure, cnd_if]
            by_cases c2 : (srcS t w h u v).1 < (a : Int) + c
            · rw [if_pos c2, cnd_if]
              by_cases c3 : (b : Int) ≤ (srcS t w h u v).2
              · rw [if_pos c3, gI_ok (by omega), bnd_pure, cnd_if, if_neg (fun c4 => hn ⟨⟨c1, by omega⟩, c3, by omega⟩)]
              · rw [if_neg c3]
            · rw [if_neg c2]
          · rw [if_neg c1]
      · left
        have : u = W := by omega
        subst this
        refine ⟨(l1, l2), by rw [Nat.succ_mul]; exact hi, fun nx next => ?_⟩
        show R_cropTurned_l5 _ _ _ _ _ _ nx next (u : Int) l1 l2 = _
        unfold R_cropTurned_l5 R_cropTurned_j4
        rw [cnd_if, if_neg (by omega), gI_ok (by omega), bnd_pure]
  unfold R_cropTurned_j1
  obtain ⟨r, h1, h2⟩ := fix_run (F := fun next3 (s : Int × List Int × List Int) => R_cropTurned_l3 ⟨2, a, b, c, d⟩ (t : Int) (w : Int) (h : Int) (W : Int) (H : Int) next3 s.1 s.2.1 s.2.2) (fun s => ∃ v : Nat, s.1 = v ∧ v ≤ H ∧ HitI W X Y p q (v * W) s.2.1 s.2.2) (fun s => ((H : Int) - s.1).toNat) (fun r => r = (⟨2, (X : Nat), (Y : Nat), (p : Nat), (q : Nat)⟩ : T_edit_Step)) (fun s hs => by
    obtain ⟨y, l1, l2⟩ := s
    obtain ⟨v, rfl, hv, hi⟩ := hs
    simp only at hi
    rcases Nat.lt_or_ge v H with hlt | hge
    · right
      obtain ⟨r, g1, g2⟩ := inner v hlt l1 l2 hi
      refine ⟨((v : Int) + 1, r.1, r.2), ⟨v + 1, by simp, by omega, g1⟩, by simp only; omega, fun next => ?_⟩
      show R_cropTurned_l3 _ _ _ _ _ _ next (v : Int) l1 l2 = _
      unfold R_cropTurned_l3
      rw [cnd_if, if_pos (by omega), g2]
    · left
      have hvH : v = H := by omega
      subst hvH
      refine ⟨_, rfl, fun next => ?_⟩
      show R_cropTurned_l3 _ _ _ _ _ _ next (v : Int) l1 l2 = _
      have b1 : Y * W + X < v * W := by
        have : Y * W + W ≤ v * W := by rw [← Nat.succ_mul]; exact Nat.mul_le_mul_right _ (by omega)
        omega
      have b2 : (Y + q - 1) * W + (X + p - 1) < v * W := by
        have : (Y + q - 1) * W + W ≤ v * W := by rw [← Nat.succ_mul]; exact Nat.mul_le_mul_right _ (by omega)
        omega
      have h2 : v * W ≤ 64 * 64 := Nat.mul_le_mul hH hW
      obtain ⟨f1, f2⟩ := hi.fst b1
      obtain ⟨f3, f4⟩ := hi.lst b2
      have l1b := hi.xl
      have l2b := hi.yl
      unfold R_cropTurned_l3 R_cropTurned_j2
      rw [cnd_if, if_neg (by omega), Min_eq f1 (fun x hx => (hi.xin x hx).1) (by omega), bnd_pure, Min_eq f2 (fun x hx => (hi.yin x hx).1) (by omega), bnd_pure, Max_eq f3 (fun x hx => (hi.xin x hx).2) (by omega), bnd_pure, gI_ok (by omega), bnd_pure, gI_ok (by omega), bnd_pure,
        Max_eq f4 (fun x hx => (hi.yin x hx).2) (by omega), bnd_pure, gI_ok (by omega), bnd_pure, gI_ok (by omega), bnd_pure]
      congr 2 <;> omega) ((0 : Int), [], []) ⟨0, rfl, by omega, ⟨by simp, by simp, by simp, by simp, fun h => by omega, fun h => by omega⟩⟩
  rw [h1, h2]

/-! ### two turns as one -/

def smqL : List Int := [0, 0, 0, 1, 1, 1, 2, 2, 2, 3, 3, 3, 4, 4, 4, 5, 5, 5]
theorem smq_im : Im 3 2 smqL := ⟨by decide, by decide, by decide, by decide, by decide, by decide⟩
theorem smq_eq : R1_sample = some ⟨(3 : Nat), (2 : Nat), smqL⟩ := by
  unfold R1_sample
  refine fix_way (F := fun next2 s => R1_sample_l2 next2 s.1 s.2) (fun k => ((k : Int), smqL.take (3 * k))) 6 (fun k hk next => ?_) (fun next => ?_)
  · have : k = 0 ∨ k = 1 ∨ k = 2 ∨ k = 3 ∨ k = 4 ∨ k = 5 := by omega
    rcases this with rfl | rfl | rfl | rfl | rfl | rfl <;> rfl
  · rfl

def sameQ (i k : Nat) : Bool := decide (turnW i 3 2 = turnW k 3 2 ∧ turnH i 3 2 = turnH k 3 2 ∧ imgL (turnW i 3 2) (turnH i 3 2) (turnPx i 3 2 smqL) = imgL (turnW k 3 2) (turnH k 3 2) (turnPx k 3 2 smqL))
theorem smq_apart : ((List.range 9).all fun i => (List.range 9).all fun k => decide (i = 0) || decide (k = 0) || decide (i = k) || !sameQ i k) = true := by decide +kernel
theorem smq_ne {i k : Nat} (hi : 1 ≤ i ∧ i ≤ 8) (hk : 1 ≤ k ∧ k ≤ 8) (h : i ≠ k) : sameQ i k = false := by
  have h1 := List.all_eq_true.1 smq_apart i (List.mem_range.2 (by omega))
  have h2 := List.all_eq_true.1 h1 k (List.mem_range.2 (by omega))
  simpa [h, show i ≠ 0 from by omega, show k ≠ 0 from by omega] using h2

theorem Same_turnQ (i k : Nat) : R1_SameImage (turnI i 3 2 smqL) (turnI k 3 2 smqL) = some (sameQ i k) := by
  unfold R1_SameImage turnI sameQ
  simp only
  have hl : (imgL (turnW i 3 2) (turnH i 3 2) (turnPx i 3 2 smqL)).length ≤ 1000000 := by
    unfold imgL pre3
    rw [List.length_flatMap]
    have : (turnW i 3 2 * turnH i 3 2) = 6 := by rw [turn_area]
    rw [this]
    have hp : ∀ a b, (turnPx i 3 2 smqL a b).length ≤ 3 := fun a b => by unfold turnPx pxN; rw [List.length_take]; omega
    simp only [List.range, List.range.loop, List.map_cons, List.map_nil, List.sum_cons, List.sum_nil]
    have h0 := hp (0 % turnW i 3 2) (0 / turnW i 3 2); have h1 := hp (1 % turnW i 3 2) (1 / turnW i 3 2); have h2 := hp (2 % turnW i 3 2) (2 / turnW i 3 2)
    have h3 := hp (3 % turnW i 3 2) (3 / turnW i 3 2); have h4 := hp (4 % turnW i 3 2) (4 / turnW i 3 2); have h5 := hp (5 % turnW i 3 2) (5 / turnW i 3 2)
    omega
  rw [eqB_ex _ _ hl, bnd_pure, cnd_if, cnd_if]
  by_cases h1 : turnW i 3 2 = turnW k 3 2
  · rw [if_pos (by rw [h1])]
    by_cases h2 : turnH i 3 2 = turnH k 3 2
    · rw [if_pos (by rw [h2])]; congr 1; exact decide_eq_decide.2 ⟨fun h => ⟨h1, h2, h⟩, fun h => h.2.2⟩
    · rw [if_neg (by omega), decide_eq_false (fun h => h2 h.2.1)]
  · rw [if_neg (by omega), decide_eq_false (fun h => h1 h.1)]

theorem Both_eq {t u k : Nat} (ht : 1 ≤ t ∧ t ≤ 8) (hu : 1 ≤ u ∧ u ≤ 8) (hk : 1 ≤ k ∧ k ≤ 8) (hc : turnW u (turnW t 3 2) (turnH t 3 2) = turnW k 3 2 ∧ turnH u (turnW t 3 2) (turnH t 3 2) = turnH k 3 2 ∧
    ∀ x y : Int, srcS t (3 : Nat) (2 : Nat) (srcS u (turnW t 3 2 : Nat) (turnH t 3 2 : Nat) x y).1 (srcS u (turnW t 3 2 : Nat) (turnH t 3 2 : Nat) x y).2 = srcS k (3 : Nat) (2 : Nat) x y) : R1_Both (t : Int) (u : Int) = some (k : Int) := by
  unfold R1_Both
  rw [smq_eq, bnd_pure, R1_Turned_eq smq_im ht, bnd_pure, R1_Turned_eq (turn_im smq_im ht) hu, bnd_pure]
  have e := comp_img ht hu hc smq_im
  unfold turnI at e
  rw [e]
  refine fix_upto 1 k hk.1 (fun next i h1 h2 => ?_) (fun next => ?_)
  · show R1_Both_l1 (turnI k 3 2 smqL) next (i : Int) = _
    unfold R1_Both_l1
    rw [cnd_if, if_pos (by omega), smq_eq, bnd_pure, R1_Turned_eq smq_im (t := i) (by omega), bnd_pure]
    show bnd (R1_SameImage (turnI i 3 2 smqL) (turnI k 3 2 smqL)) _ = _
    rw [Same_turnQ, bnd_pure, smq_ne (by omega) hk (by omega), cnd_false, gI_ok (by omega), bnd_pure]
  · show R1_Both_l1 (turnI k 3 2 smqL) next (k : Int) = _
    unfold R1_Both_l1
    rw [cnd_if, if_pos (by omega), smq_eq, bnd_pure, R1_Turned_eq smq_im hk, bnd_pure]
    show bnd (R1_SameImage (turnI k 3 2 smqL) (turnI k 3 2 smqL)) _ = _
    rw [Same_turnQ, bnd_pure, show sameQ k k = true from by unfold sameQ; simp, cnd_true]
end Go.M

/- Tidy and Tidied apply the same rules; the law EditTidies, in plain Lean. Conditions: none. -/
namespace Go.M
open Go.Md Go.Pl

/-! ### elements that are taken out -/

theorem del_eq (p X q : List T_edit_Step) (hl : (p ++ X ++ q).length ≤ 50) {i j : Int} (hi : i = p.length) (hj : j = (p.length : Int) + X.length) : slices_Delete_edit_Step (p ++ X ++ q) i j = some (p ++ q) := by
  subst hi hj
  simp only [List.length_append] at hl
  unfold slices_Delete_edit_Step
  rw [gCut_ok (by simp only [List.length_append]; omega), bnd_pure, cnd_if]
  by_cases h : (p.length : Int) = (p.length : Int) + X.length
  · rw [if_pos h]
    have : X = [] := List.eq_nil_of_length_eq_zero (by omega)
    subst this; simp
  · rw [if_neg h, gCut_to (by simp only [List.length_append]; omega), bnd_pure, Int.toNat_natCast, List.append_assoc, List.take_left' rfl, gCut_from (by simp only [List.length_append]; omega), bnd_pure]
    have e : (p ++ (X ++ q)).drop ((p.length : Int) + X.length).toNat = q := by
      rw [← List.append_assoc, show ((p.length : Int) + X.length).toNat = (p ++ X).length from by rw [List.length_append]; omega]
      exact List.drop_left' rfl
    rw [e, gApR_ok (by simp only [List.length_append]; omega), bnd_pure, gIf_ok (by simp only [List.length_append]; omega), bnd_pure]
theorem del1 (p r : List T_edit_Step) (s : T_edit_Step) (hl : p.length + r.length + 1 ≤ 50) : slices_Delete_edit_Step (p ++ s :: r) (p.length : Int) ((p.length : Int) + 1) = some (p ++ r) := by
  have := del_eq p [s] r (by simp; omega) rfl (j := (p.length : Int) + 1) (by simp)
  rwa [ap1] at this
theorem del2 (p q : List T_edit_Step) (s t : T_edit_Step) (hl : p.length + (q.length + 1) + 1 ≤ 50) : slices_Delete_edit_Step (p ++ s :: t :: q) (p.length : Int) ((p.length : Int) + 2) = some (p ++ q) := by
  have := del_eq p [s, t] q (by simp; omega) rfl (j := (p.length : Int) + 2) (by simp)
  rwa [ap2] at this
theorem delS (p q : List T_edit_Step) (s t : T_edit_Step) (hl : p.length + (q.length + 1) + 1 ≤ 50) : slices_Delete_edit_Step (p ++ s :: t :: q) ((p.length : Int) + 1) ((p.length : Int) + 2) = some (p ++ s :: q) := by
  have := del_eq (p ++ [s]) [t] q (by simp; omega) (i := (p.length : Int) + 1) (j := (p.length : Int) + 2) (by simp) (by simp; omega)
  rw [ap1, ap1] at this
  rw [this]; simp
theorem set0 (p r : List T_edit_Step) (s x : T_edit_Step) : gSet (p ++ s :: r) (p.length : Int) x = some (p ++ x :: r) := by
  rw [gSet_ok (by omega) (by simp), Int.toNat_natCast, List.set_append_right _ _ (by omega), Nat.sub_self]; rfl
theorem set1 (p q : List T_edit_Step) (s t x : T_edit_Step) : gSet (p ++ s :: t :: q) ((p.length : Int) + 1) x = some (p ++ s :: x :: q) := by
  have := set0 (p ++ [s]) q t x
  rw [ap1, ap1, List.length_append] at this
  simpa using this

/-! ### one rule at one place, on both sides -/

def Both2 (k : Nat) (g : List T_edit_Step → Int → Int → Int → Option (List T_edit_Step × Bool)) (p : List T_edit_Step) (s : T_edit_Step) (r : List T_edit_Step) (w h a b : Nat) : Prop :=
  (g (p ++ s :: r) (p.length : Int) (a : Int) (b : Int) = some ([], false) ∧ ∀ next, R_ruled_l1 (p ++ s :: r) ((k : Int) + 1) (w : Int) (h : Int) next (p.length : Int) = next ((p.length : Int) + 1)) ∨
  ∃ n, g (p ++ s :: r) (p.length : Int) (a : Int) (b : Int) = some (n, true) ∧ ∀ next, R_ruled_l1 (p ++ s :: r) ((k : Int) + 1) (w : Int) (h : Int) next (p.length : Int) = some (n, true)

theorem rsize {p : List T_edit_Step} {w h : Nat} {P : List Int} (m : Im w h P) (ho : okAll p) (hl : p.length ≤ 50) : R_SizeOf p (w : Int) (h : Int) = some (sizeGo p w h) := by
  have h1 := m.w1; have h2 := m.w2; have h3 := m.h1; have h4 := m.h2
  rw [R_SizeOf_eq ho (by omega)]
  unfold sizeS
  rw [if_pos (by omega)]

theorem j2_next {a : Nat} (ha : a ≤ 50) (next : Int → Option (List T_edit_Step × Bool)) : R_ruled_j2 (a : Int) next = next ((a : Int) + 1) := by
  unfold R_ruled_j2
  rw [gI_ok (by omega), bnd_pure]

/-- The head of a round. -/
theorem head_eq {p r : List T_edit_Step} {s : T_edit_Step} {w h a b : Nat} {P Q : List Int} (c : Cx p s r w h P a b Q) (k : Int) (next : Int → Option (List T_edit_Step × Bool)) :
    R_ruled_l1 (p ++ s :: r) k (w : Int) (h : Int) next (p.length : Int) = cnd (decide (k = 1)) (bnd (R_Idle s (a : Int) (b : Int)) fun t38 => cnd t38 (bnd (slices_Delete_edit_Step (p ++ s :: r) (p.length : Int) ((p.length : Int) + 1)) fun t43 => some (t43, true)) (next ((p.length : Int) + 1)))
      (match r with
      | [] => next ((p.length : Int) + 1)
      | t :: q => cnd (decide (k = 2)) (cnd (decide (s.Kind = 1)) (R_ruled_j3 (p ++ s :: t :: q) k (p.length : Int) next s ((a : Int), (b : Int), 0) t (decide (t.Kind = 1))) (R_ruled_j3 (p ++ s :: t :: q) k (p.length : Int) next s ((a : Int), (b : Int), 0) t false)) (R_ruled_j3 (p ++ s :: t :: q) k (p.length : Int) next s ((a : Int), (b : Int), 0) t false)) := by
  have hl := c.len
  have hop : okAll p := fun x hx => c.g.1 x (by simp [hx])
  unfold R_ruled_l1
  rw [cnd_if, if_pos (by simp only [List.length_append, List.length_cons]; omega), at0, bnd_pure, gCut_to (by simp only [List.length_append, List.length_cons]; omega), bnd_pure, Int.toNat_natCast, List.take_left' rfl, rsize c.m hop (by omega), bnd_pure, c.hz, gI_ok (x := (p.length : Int) + 1) (by omega), j2_next (by omega)]
  simp only [bnd_pure]
  congr 1
  cases r with
  | nil => rw [cnd_if, if_pos (by simp)]
  | cons t q => rw [cnd_if, if_neg (by simp only [List.length_append, List.length_cons]; omega), at1, bnd_pure]

section passes
variable {p q : List T_edit_Step} {s t : T_edit_Step} {k : Int} {a b : Int} {l : List T_edit_Step} (hp : p.length ≤ 50) (next : Int → Option (List T_edit_Step × Bool))
include hp
theorem pass7 : R_ruled_j7 l (p.length : Int) next s t false = next ((p.length : Int) + 1) := by
  unfold R_ruled_j7
  rw [cnd_false, j2_next hp]
theorem pass6 (h : ¬ k = 6) : R_ruled_j6 l k (p.length : Int) next s t false = next ((p.length : Int) + 1) := by
  unfold R_ruled_j6
  rw [cnd_false, cnd_if, if_neg h, pass7 hp]
theorem pass5 (h : ¬ k = 5) (h6 : ¬ k = 6) : R_ruled_j5 l k (p.length : Int) next s (a, b, 0) t false = next ((p.length : Int) + 1) := by
  unfold R_ruled_j5
  rw [cnd_false, cnd_if, if_neg h, pass6 hp _ h6]
theorem pass4 (h : ¬ k = 4) (h5 : ¬ k = 5) (h6 : ¬ k = 6) : R_ruled_j4 l k (p.length : Int) next s (a, b, 0) t false = next ((p.length : Int) + 1) := by
  unfold R_ruled_j4
  rw [cnd_false, cnd_if, if_neg h, pass5 hp _ h5 h6]
theorem pass3 (h : ¬ k = 3) (h4 : ¬ k = 4) (h5 : ¬ k = 5) (h6 : ¬ k = 6) : R_ruled_j3 l k (p.length : Int) next s (a, b, 0) t false = next ((p.length : Int) + 1) := by
  unfold R_ruled_j3
  rw [cnd_false, cnd_if, if_neg h, pass4 hp _ h4 h5 h6]
end passes

theorem both0 {p r : List T_edit_Step} {s : T_edit_Step} {w h a b : Nat} {P Q : List Int} (c : Cx p s r w h P a b Q) : Both2 0 edit_leaveNeutral p s r w h a b := by
  have hl := c.len
  unfold Both2 edit_leaveNeutral
  rw [at0, bnd_pure, neutral_eq c.stepS, bnd_pure]
  cases hn : neutralS s a b with
  | false =>
    refine .inl ⟨rfl, fun next => ?_⟩
    rw [head_eq c, cnd_if, if_pos (by decide), idle_eq c.stepS, bnd_pure, hn, cnd_false]
  | true =>
    refine .inr ⟨p ++ [] ++ r, ?_, fun next => ?_⟩
    · rw [show (!true) = false from rfl, cnd_false, with1 p r s _ hl (by simp), bnd_pure]
    · rw [head_eq c, cnd_if, if_pos (by decide), idle_eq c.stepS, bnd_pure, hn, cnd_true, del1 p r s hl, bnd_pure]; simp

theorem both1 {p r : List T_edit_Step} {s : T_edit_Step} {w h a b : Nat} {P Q : List Int} (c : Cx p s r w h P a b Q) : Both2 1 edit_joinTurns p s r w h a b := by
  have hl := c.len
  unfold Both2 edit_joinTurns
  by_cases hy : ∃ t q, r = t :: q ∧ s.Kind = 1 ∧ t.Kind = 1
  · obtain ⟨t, q, rfl, k1, k2⟩ := hy
    rw [List.length_cons] at hl
    have n1 := nums1 c.stepS k1
    have n2 := nums1 c.stepT k2
    obtain ⟨k, hk, hc⟩ := comp_all (t := s.A.toNat) (u := t.A.toNat) (by omega) (by omega)
    have e1 := Then_eq (t := s.A.toNat) (u := t.A.toNat) (by omega) (by omega) hk (hc 2 3)
    have e2 := Both_eq (t := s.A.toNat) (u := t.A.toNat) (by omega) (by omega) hk (hc 3 2)
    rw [nat_of (by omega), nat_of (by omega)] at e1 e2
    refine .inr ⟨p ++ [⟨1, k, 0, 0, 0⟩] ++ q, ?_, fun next => ?_⟩
    · rw [pair_cons p q s t (by omega), bnd_pure, decide_eq_true ⟨k1, k2⟩, show (!true) = false from rfl, cnd_false, at0, bnd_pure, gI_ok (by omega), bnd_pure, at1, bnd_pure, e1, bnd_pure, with2 p q s t _ hl (by simp), bnd_pure]
    · rw [head_eq c, cnd_if, if_neg (by decide)]
      simp only
      rw [cnd_if, if_pos (by decide), cnd_if, if_pos k1, decide_eq_true k2]
      unfold R_ruled_j3
      rw [cnd_true, e2, bnd_pure, at0, bnd_pure, set0, bnd_pure, gI_ok (by omega), bnd_pure, gI_ok (by omega), bnd_pure, delS _ _ _ _ hl, bnd_pure]
      have : (⟨s.Kind, (k : Int), s.B, s.C, s.D⟩ : T_edit_Step) = ⟨1, (k : Int), 0, 0, 0⟩ := by
        obtain ⟨_, _, hf, _⟩ := stepE_ok c.stepS
        have u : usedS s.Kind = 1 := by rw [k1]; rfl
        unfold formS at hf
        rw [u] at hf
        rw [k1, show s.B = 0 from by omega, show s.C = 0 from by omega, show s.D = 0 from by omega]
      rw [this]; simp
  · refine .inl ⟨?_, fun next => ?_⟩
    · rw [pair_no (k := 1) (by omega) (fun t q e hb => hy ⟨t, q, e, hb⟩), bnd_pure]; rfl
    · rw [head_eq c, cnd_if, if_neg (by decide)]
      cases r with
      | nil => rfl
      | cons t q =>
        simp only
        rw [cnd_if, if_pos (by decide), cnd_if]
        by_cases k1 : s.Kind = 1
        · rw [if_pos k1, decide_eq_false (fun k2 => hy ⟨t, q, rfl, k1, k2⟩), pass3 (by omega) _ (by decide) (by decide) (by decide) (by decide)]
        · rw [if_neg k1, pass3 (by omega) _ (by decide) (by decide) (by decide) (by decide)]

theorem both2 {p r : List T_edit_Step} {s : T_edit_Step} {w h a b : Nat} {P Q : List Int} (c : Cx p s r w h P a b Q) : Both2 2 edit_joinCrops p s r w h a b := by
  have hl := c.len
  unfold Both2 edit_joinCrops
  by_cases hy : ∃ t q, r = t :: q ∧ s.Kind = 2 ∧ t.Kind = 2
  · obtain ⟨t, q, rfl, k1, k2⟩ := hy
    rw [List.length_cons] at hl
    have n1 := stepE_nums c.stepS
    have n2 := stepE_nums c.stepT
    refine .inr ⟨p ++ [⟨2, s.A + t.A, s.B + t.B, t.C, t.D⟩] ++ q, ?_, fun next => ?_⟩
    · rw [pair_cons p q s t (by omega), bnd_pure, decide_eq_true ⟨k1, k2⟩, show (!true) = false from rfl, cnd_false, at0, bnd_pure, gI_ok (by omega), bnd_pure, at1, bnd_pure, gI_ok (by omega), bnd_pure, gI_ok (by omega), bnd_pure, with2 p q s t _ hl (by simp), bnd_pure]
    · rw [head_eq c, cnd_if, if_neg (by decide)]
      simp only
      rw [cnd_if, if_neg (by decide)]
      unfold R_ruled_j3
      rw [cnd_false, cnd_if, if_pos (by decide), cnd_if, if_pos k1, decide_eq_true k2]
      unfold R_ruled_j4
      rw [cnd_true, gI_ok (by omega), bnd_pure, gI_ok (by omega), bnd_pure, at0, bnd_pure, set0, bnd_pure, gI_ok (by omega), bnd_pure, gI_ok (by omega), bnd_pure, delS _ _ _ _ hl, bnd_pure]
      simp
  · refine .inl ⟨?_, fun next => ?_⟩
    · rw [pair_no (k := 2) (by omega) (fun t q e hb => hy ⟨t, q, e, hb⟩), bnd_pure]; rfl
    · rw [head_eq c, cnd_if, if_neg (by decide)]
      cases r with
      | nil => rfl
      | cons t q =>
        simp only
        rw [cnd_if, if_neg (by decide)]
        unfold R_ruled_j3
        rw [cnd_false, cnd_if, if_pos (by decide), cnd_if]
        by_cases k1 : s.Kind = 2
        · rw [if_pos k1, decide_eq_false (fun k2 => hy ⟨t, q, rfl, k1, k2⟩), pass4 (by omega) _ (by decide) (by decide) (by decide)]
        · rw [if_neg k1, pass4 (by omega) _ (by decide) (by decide) (by decide)]

theorem both3 {p r : List T_edit_Step} {s : T_edit_Step} {w h a b : Nat} {P Q : List Int} (c : Cx p s r w h P a b Q) : Both2 3 edit_turnFirst p s r w h a b := by
  have hl := c.len
  unfold Both2 edit_turnFirst
  by_cases hy : ∃ t q, r = t :: q ∧ s.Kind = 2 ∧ t.Kind = 1
  · obtain ⟨t, q, rfl, k1, k2⟩ := hy
    rw [List.length_cons] at hl
    have hcr := c.crop k1
    have n1 := nums2 c.stepS k1
    have n2 := nums1 c.stepT k2
    have hw := c.mq.w2
    have hh := c.mq.h2
    have hd : ∃ d, edit_turnedCrop s t.A (a : Int) (b : Int) = some d ∧ R_cropTurned s t.A (a : Int) (b : Int) = some d := by
      obtain ⟨sk, sA, sB, sC, sD⟩ := s
      simp only at k1 n1 hcr
      subst k1
      obtain ⟨x, rfl⟩ := Int.eq_ofNat_of_zero_le n1.1
      obtain ⟨y, rfl⟩ := Int.eq_ofNat_of_zero_le n1.2.1
      obtain ⟨u, rfl⟩ := Int.eq_ofNat_of_zero_le (show 0 ≤ sC from by omega)
      obtain ⟨v, rfl⟩ := Int.eq_ofNat_of_zero_le (show 0 ≤ sD from by omega)
      have e1 := turnedCrop_eq (t := t.A.toNat) (w := a) (h := b) (a := x) (b := y) (c := u) (d := v) (by omega) hw hh (by omega) (by omega)
      have e2 := cropTurned_eq (t := t.A.toNat) (w := a) (h := b) (a := x) (b := y) (c := u) (d := v) (by omega) hw hh (by omega) (by omega)
      rw [nat_of (by omega)] at e1 e2
      exact ⟨_, e1, e2⟩
    obtain ⟨d, e1, e2⟩ := hd
    refine .inr ⟨p ++ [t, d] ++ q, ?_, fun next => ?_⟩
    · rw [pair_cons p q s t (by omega), bnd_pure, decide_eq_true ⟨k1, k2⟩, show (!true) = false from rfl, cnd_false, gI_ok (by omega), bnd_pure, at1, bnd_pure, at0, bnd_pure, bnd_pure, at1, bnd_pure, e1, bnd_pure, with2 p q s t _ hl (by simp), bnd_pure]
    · rw [head_eq c, cnd_if, if_neg (by decide)]
      simp only
      rw [cnd_if, if_neg (by decide)]
      unfold R_ruled_j3
      rw [cnd_false, cnd_if, if_neg (by decide)]
      unfold R_ruled_j4
      rw [cnd_false, cnd_if, if_pos (by decide), cnd_if, if_pos k1, decide_eq_true k2]
      unfold R_ruled_j5
      rw [cnd_true, gI_ok (by omega), bnd_pure]
      simp only
      rw [e2, bnd_pure, at0, bnd_pure, set0, bnd_pure, at1, bnd_pure, set1, bnd_pure]
      simp
  · refine .inl ⟨?_, fun next => ?_⟩
    · rw [pair_no (k := 3) (by omega) (fun t q e hb => hy ⟨t, q, e, hb⟩), bnd_pure]; rfl
    · rw [head_eq c, cnd_if, if_neg (by decide)]
      cases r with
      | nil => rfl
      | cons t q =>
        simp only
        rw [cnd_if, if_neg (by decide)]
        unfold R_ruled_j3
        rw [cnd_false, cnd_if, if_neg (by decide)]
        unfold R_ruled_j4
        rw [cnd_false, cnd_if, if_pos (by decide), cnd_if]
        by_cases k1 : s.Kind = 2
        · rw [if_pos k1, decide_eq_false (fun k2 => hy ⟨t, q, rfl, k1, k2⟩), pass5 (by omega) _ (by decide) (by decide)]
        · rw [if_neg k1, pass5 (by omega) _ (by decide) (by decide)]

theorem both4 {p r : List T_edit_Step} {s : T_edit_Step} {w h a b : Nat} {P Q : List Int} (c : Cx p s r w h P a b Q) : Both2 4 edit_leaveInverts p s r w h a b := by
  have hl := c.len
  unfold Both2 edit_leaveInverts
  by_cases hy : ∃ t q, r = t :: q ∧ s.Kind = 9 ∧ t.Kind = 9
  · obtain ⟨t, q, rfl, k1, k2⟩ := hy
    rw [List.length_cons] at hl
    refine .inr ⟨p ++ [] ++ q, ?_, fun next => ?_⟩
    · rw [pair_cons p q s t (by omega), bnd_pure, decide_eq_true ⟨k1, k2⟩, show (!true) = false from rfl, cnd_false, with2 p q s t _ hl (by simp), bnd_pure]
    · rw [head_eq c, cnd_if, if_neg (by decide)]
      simp only
      rw [cnd_if, if_neg (by decide)]
      unfold R_ruled_j3
      rw [cnd_false, cnd_if, if_neg (by decide)]
      unfold R_ruled_j4
      rw [cnd_false, cnd_if, if_neg (by decide)]
      unfold R_ruled_j5
      rw [cnd_false, cnd_if, if_pos (by decide), cnd_if, if_pos k1, decide_eq_true k2]
      unfold R_ruled_j6
      rw [cnd_true, gI_ok (by omega), bnd_pure, del2 _ _ _ _ hl, bnd_pure]
      simp
  · refine .inl ⟨?_, fun next => ?_⟩
    · rw [pair_no (k := 4) (by omega) (fun t q e hb => hy ⟨t, q, e, hb⟩), bnd_pure]; rfl
    · rw [head_eq c, cnd_if, if_neg (by decide)]
      cases r with
      | nil => rfl
      | cons t q =>
        simp only
        rw [cnd_if, if_neg (by decide)]
        unfold R_ruled_j3
        rw [cnd_false, cnd_if, if_neg (by decide)]
        unfold R_ruled_j4
        rw [cnd_false, cnd_if, if_neg (by decide)]
        unfold R_ruled_j5
        rw [cnd_false, cnd_if, if_pos (by decide), cnd_if]
        by_cases k1 : s.Kind = 9
        · rw [if_pos k1, decide_eq_false (fun k2 => hy ⟨t, q, rfl, k1, k2⟩), pass6 (by omega) _ (by decide)]
        · rw [if_neg k1, pass6 (by omega) _ (by decide)]

theorem shapedR (s : T_edit_Step) : R_Shaped s = some (decide (1 ≤ s.Kind ∧ s.Kind ≤ 3)) := by
  unfold R_Shaped
  simp only [cnd_if]
  by_cases h : 1 ≤ s.Kind
  · rw [if_pos h]; simp [h]
  · rw [if_neg h]; simp [h]

theorem both5 {p r : List T_edit_Step} {s : T_edit_Step} {w h a b : Nat} {P Q : List Int} (c : Cx p s r w h P a b Q) : Both2 5 edit_shapeFirst p s r w h a b := by
  have hl := c.len
  unfold Both2 edit_shapeFirst
  rw [gI_ok (by omega), bnd_pure]
  have rest : ∀ t q, r = t :: q → ∀ next, R_ruled_l1 (p ++ s :: r) (((5 : Nat) : Int) + 1) (w : Int) (h : Int) next (p.length : Int) = cnd (!decide (1 ≤ s.Kind ∧ s.Kind ≤ 3)) (cnd (decide (t.Kind = 1)) (R_ruled_j7 (p ++ s :: t :: q) (p.length : Int) next s t true) (R_ruled_j7 (p ++ s :: t :: q) (p.length : Int) next s t (decide (t.Kind = 2)))) (R_ruled_j7 (p ++ s :: t :: q) (p.length : Int) next s t false) := by
    rintro t q rfl next
    rw [head_eq c, cnd_if, if_neg (by decide)]
    simp only
    rw [cnd_if, if_neg (by decide)]
    unfold R_ruled_j3
    rw [cnd_false, cnd_if, if_neg (by decide)]
    unfold R_ruled_j4
    rw [cnd_false, cnd_if, if_neg (by decide)]
    unfold R_ruled_j5
    rw [cnd_false, cnd_if, if_neg (by decide)]
    unfold R_ruled_j6
    rw [cnd_false, cnd_if, if_pos (by decide), shapedR, bnd_pure]
  cases r with
  | nil =>
    refine .inl ⟨?_, fun next => ?_⟩
    · rw [cnd_if, if_pos (by simp)]
    · rw [head_eq c, cnd_if, if_neg (by decide)]
  | cons t q =>
    rw [List.length_cons] at hl
    have hkt := (stepE_ok c.stepT).1
    have rest := rest t q rfl
    rw [cnd_if, if_neg (by simp; omega), at0, bnd_pure, shape_eq, bnd_pure]
    by_cases h1 : 1 ≤ s.Kind ∧ s.Kind ≤ 3
    · rw [decide_eq_true h1, cnd_true]
      refine .inl ⟨rfl, fun next => ?_⟩
      rw [rest, decide_eq_true h1, show (!true) = false from rfl, cnd_false, pass7 (by omega)]
    · rw [decide_eq_false h1, cnd_false, bnd_pure, at1, bnd_pure, shape_eq, bnd_pure]
      have rest2 : ∀ next, R_ruled_l1 (p ++ s :: t :: q) (((5 : Nat) : Int) + 1) (w : Int) (h : Int) next (p.length : Int) = R_ruled_j7 (p ++ s :: t :: q) (p.length : Int) next s t (decide (t.Kind = 1 ∨ t.Kind = 2)) := by
        intro next
        rw [rest, decide_eq_false h1, show (!false) = true from rfl, cnd_true, cnd_if]
        by_cases e : t.Kind = 1
        · rw [if_pos e, decide_eq_true (.inl e)]
        · rw [if_neg e]; congr 1; exact decide_eq_decide.2 ⟨.inr, fun h => h.resolve_left e⟩
      by_cases h2 : 1 ≤ t.Kind ∧ t.Kind ≤ 3
      · rw [decide_eq_true h2, show (!true) = false from rfl, cnd_false, bnd_pure, at1, bnd_pure, cnd_if]
        by_cases h3 : t.Kind = 3
        · rw [if_pos h3]
          refine .inl ⟨rfl, fun next => ?_⟩
          rw [rest2, decide_eq_false (by omega), pass7 (by omega)]
        · rw [if_neg h3, bnd_pure, at1, bnd_pure, bnd_pure]
          refine .inr ⟨p ++ [t, s] ++ q, ?_, fun next => ?_⟩
          · rw [with2 p q s t _ hl (by simp), bnd_pure]
          · rw [rest2, decide_eq_true (by omega)]
            unfold R_ruled_j7
            rw [cnd_true, gI_ok (by omega), bnd_pure, at0, bnd_pure, set0, bnd_pure, at1, bnd_pure, set1, bnd_pure]
            simp
      · rw [decide_eq_false h2, show (!false) = true from rfl, cnd_true]
        refine .inl ⟨rfl, fun next => ?_⟩
        rw [rest2, decide_eq_false (by omega), pass7 (by omega)]

theorem both_k {k : Nat} (hk : k < 6) : ∃ g, gFn (mft175 k) = some g ∧ ∀ {p r : List T_edit_Step} {s : T_edit_Step} {w h a b : Nat} {P Q : List Int}, Cx p s r w h P a b Q → Both2 k g p s r w h a b := by
  have : k = 0 ∨ k = 1 ∨ k = 2 ∨ k = 3 ∨ k = 4 ∨ k = 5 := by omega
  rcases this with rfl | rfl | rfl | rfl | rfl | rfl
  · exact ⟨_, rfl, both0⟩
  · exact ⟨_, rfl, both1⟩
  · exact ⟨_, rfl, both2⟩
  · exact ⟨_, rfl, both3⟩
  · exact ⟨_, rfl, both4⟩
  · exact ⟨_, rfl, both5⟩

/-! ### one rule at all places -/

def ruledOut (l : List T_edit_Step) : Option (List T_edit_Step) → List T_edit_Step × Bool
  | none => (l, false)
  | some n => (n, true)

theorem row_both {l : List T_edit_Step} {w h : Nat} {P : List Int} (m : Im w h P) (g : Good l w h) {k : Nat} (hk : k < 6) : ∀ n a, a + n = l.length →
    ∃ r : Option (List T_edit_Step), (∀ nx : Int → Option (List T_edit_Step × Bool), fix (fun next3 s => edit_shorter_l3 l (w : Int) (h : Int) (k : Int) nx k next3 s) (a : Int) = rowOut (k : Int) nx r) ∧ fix (fun next1 s => R_ruled_l1 l ((k : Int) + 1) (w : Int) (h : Int) next1 s) (a : Int) = some (ruledOut l r) := by
  obtain ⟨gk, hg, hrule⟩ := both_k hk
  intro n
  induction n with
  | zero =>
    intro a ha
    refine ⟨none, fun nx => fix_done fun next => ?_, fix_done fun next => ?_⟩
    · unfold edit_shorter_l3
      rw [cnd_if, if_neg (by omega)]; rfl
    · unfold R_ruled_l1
      rw [cnd_if, if_neg (by omega)]; rfl
  | succ n ih =>
    intro a ha
    obtain ⟨p, s, r, rfl, rfl⟩ := split_at (l := l) (a := a) (by omega)
    have hop : okAll p := fun x hx => g.1 x (by simp [hx])
    have hlen := g.2.1
    simp only [List.length_append, List.length_cons] at hlen
    have hz : (sizeGo p w h).2.2 = 0 := sizeGo_pre p (s :: r) w h g.2.2
    obtain ⟨a0, b0, Q, mQ, hr, hs⟩ := run_ctx p m hop hz
    have c : Cx p s r w h P a0 b0 Q := ⟨m, g, mQ, hr, hs⟩
    have base : ∀ (nx : Int → Option (List T_edit_Step × Bool)) next3, edit_shorter_l3 (p ++ s :: r) (w : Int) (h : Int) (k : Int) nx k next3 (p.length : Int) = bnd (gk (p ++ s :: r) (p.length : Int) (a0 : Int) (b0 : Int)) fun t43 => cnd t43.2 (some (t43.1, true)) (next3 ((p.length : Int) + 1)) := by
      intro nx next3
      unfold edit_shorter_l3
      rw [cnd_if, if_pos (by simp only [List.length_append, List.length_cons]; omega), gCut_to (by simp only [List.length_append, List.length_cons]; omega), bnd_pure, Int.toNat_natCast, List.take_left' rfl, size_good m hop (by omega), bnd_pure, hg, bnd_pure, hs, gI_ok (by omega)]
      rfl
    rcases hrule c with ⟨e1, e2⟩ | ⟨x, e1, e2⟩
    · obtain ⟨o, h1, h2⟩ := ih (p.length + 1) (by omega)
      refine ⟨o, fun nx => ?_, ?_⟩
      · rw [← h1 nx]
        exact fix_goto _ fun next => by rw [base, e1, bnd_pure]; rfl
      · rw [← h2]
        exact fix_goto _ fun next => e2 next
    · exact ⟨some x, fun nx => fix_done fun next => by rw [base, e1, bnd_pure]; rfl, fix_done fun next => e2 next⟩

/-! ### all rules -/

theorem rules_both {l : List T_edit_Step} {w h : Nat} {P : List Int} (m : Im w h P) (g : Good l w h) : ∀ (n k : Nat), k + n = 6 → ∃ (b : Bool) (t : List T_edit_Step), fix (fun next1 s => edit_shorter_l1 l (w : Int) (h : Int) next1 s) (k : Int) = some (t, b) ∧
    ∀ next1, fix (fun next2 s => R_Tidied_l2 (w : Int) (h : Int) next1 next2 s.1 s.2.1 s.2.2) (false, (k : Int) + 1, l) = next1 (b, t) := by
  intro n
  induction n with
  | zero =>
    intro k hk
    refine ⟨false, l, fix_done fun next => ?_, fun next1 => fix_done fun next => ?_⟩
    · unfold edit_shorter_l1
      rw [cnd_if, if_neg (by omega)]
    · show R_Tidied_l2 _ _ next1 next false ((k : Int) + 1) l = _
      unfold R_Tidied_l2
      rw [cnd_if, if_neg (by omega)]
  | succ n ih =>
    intro k hk
    obtain ⟨o, h1, h2⟩ := row_both m g (k := k) (by omega) l.length 0 (by omega)
    have hat : gAt ([0, 1, 2, 3, 4, 5] : List Nat) (k : Int) = some k := by
      have : k = 0 ∨ k = 1 ∨ k = 2 ∨ k = 3 ∨ k = 4 ∨ k = 5 := by omega
      rcases this with rfl | rfl | rfl | rfl | rfl | rfl <;> decide
    have base : ∀ next, edit_shorter_l1 l (w : Int) (h : Int) next (k : Int) = rowOut (k : Int) next o := by
      intro next
      unfold edit_shorter_l1
      rw [cnd_if, if_pos (by omega), hat, bnd_pure]
      exact h1 next
    have baseR : ∀ next1 next, R_Tidied_l2 (w : Int) (h : Int) next1 next false ((k : Int) + 1) l = next ((ruledOut l o).2, (k : Int) + 1 + 1, (ruledOut l o).1) := by
      intro next1 next
      unfold R_Tidied_l2
      rw [cnd_if, if_pos (by omega), show (!false) = true from rfl, cnd_true]
      unfold R_ruled
      rw [show (0 : Int) = ((0 : Nat) : Int) from rfl, h2, bnd_pure, gI_ok (by omega), bnd_pure]
    cases o with
    | none =>
      obtain ⟨b, t, i1, i2⟩ := ih (k + 1) (by omega)
      refine ⟨b, t, ?_, fun next1 => ?_⟩
      · rw [← i1]
        refine fix_goto _ fun next => ?_
        rw [base]
        show edit_shorter_j2 (k : Int) next = _
        unfold edit_shorter_j2
        rw [gI_ok (by omega), bnd_pure]; rfl
      · rw [← i2 next1]
        exact fix_goto _ fun next => baseR next1 next
    | some x =>
      refine ⟨true, x, fix_done fun next => base next, fun next1 => ?_⟩
      refine (fix_goto (true, (k : Int) + 1 + 1, x) fun next => baseR next1 next).trans (fix_done fun next => ?_)
      show R_Tidied_l2 _ _ next1 next true ((k : Int) + 1 + 1) x = _
      unfold R_Tidied_l2
      rw [cnd_if]
      split <;> rfl

/-! ### until none applies -/

theorem tidy_both {w h : Nat} : ∀ (n : Nat) (l : List T_edit_Step) {P : List Int}, Im w h P → Good l w h → meaS l < n → ∃ t, fix (fun next2 s => edit_Tidy_l2 (w : Int) (h : Int) next2 s.1 s.2) (true, l) = some (t, 0) ∧ fix (fun next1 s => R_Tidied_l1 (w : Int) (h : Int) next1 s.1 s.2) (true, l) = some t ∧ t.length ≤ 50 := by
  intro n
  induction n with
  | zero => intro l P _ _ h; omega
  | succ n ih =>
    intro l P m g hm
    obtain ⟨b, t, h1, h2⟩ := rules_both m g 6 0 rfl
    have hs : edit_shorter l (w : Int) (h : Int) = some (t, b) := h1
    have e1 : ∀ next, edit_Tidy_l2 (w : Int) (h : Int) next true l = next (b, t) := fun next => by
      unfold edit_Tidy_l2
      rw [cnd_true, hs, bnd_pure]
    have e2 : ∀ next, R_Tidied_l1 (w : Int) (h : Int) next true l = next (b, t) := fun next => by
      unfold R_Tidied_l1
      rw [cnd_true]
      exact h2 next
    rcases shorter_eq m g with hst | ⟨x, i1, i2⟩
    · have := hs.symm.trans hst.1
      cases this
      exact ⟨l, (fix_goto (false, l) fun next => e1 next).trans (fix_done fun next => rfl), (fix_goto (false, l) fun next => e2 next).trans (fix_done fun next => rfl), g.2.1⟩
    · have := hs.symm.trans i1
      cases this
      obtain ⟨u, j1, j2, j3⟩ := ih t m i2.1 (by have := i2.2.2.1; omega)
      exact ⟨u, (fix_goto (true, t) fun next => e1 next).trans j1, (fix_goto (true, t) fun next => e2 next).trans j2, j3⟩

theorem clone_eq {l : List T_edit_Step} (hl : l.length ≤ 50) : slices_Clone_edit_Step l = some l := by
  unfold slices_Clone_edit_Step
  rw [gApp_ok (by simp; omega), bnd_pure]; rfl

theorem blank_im {w h : Nat} (hw : 1 ≤ w ∧ w ≤ 64) (hh : 1 ≤ h ∧ h ≤ 64) : Im w h (List.replicate (3 * (w * h)) 0) := by
  refine ⟨hw.1, hw.2, hh.1, hh.2, ?_, fun v hv => ?_⟩
  · simp
  · rw [(List.mem_replicate.1 hv).2]; omega

theorem Tidied_eq {l : List T_edit_Step} {w h : Int} (hs : stepsE l = 0) (hz : (sizeS l w h).2.2 = 0) : ∃ t, edit_Tidy l w h = some (t, 0) ∧ R_Tidied l w h = some t ∧ t.length ≤ 50 := by
  obtain ⟨hl, ho⟩ := stepsE_ok hs
  unfold sizeS at hz
  split at hz
  · rename_i hwh
    obtain ⟨w', rfl⟩ := Int.eq_ofNat_of_zero_le (show 0 ≤ w from by omega)
    obtain ⟨h', rfl⟩ := Int.eq_ofNat_of_zero_le (show 0 ≤ h from by omega)
    have m := blank_im (w := w') (h := h') (by omega) (by omega)
    have g : Good l w' h' := ⟨ho, hl, hz⟩
    obtain ⟨t, h1, h2, h3⟩ := tidy_both _ l m g (Nat.lt_succ_self _)
    refine ⟨t, ?_, ?_, h3⟩
    · rw [tidy_start m g]; exact h1
    · unfold R_Tidied
      rw [clone_eq hl, bnd_pure]; exact h2
  · cases hz

/-! ### the law -/

theorem eqS_self (l : List T_edit_Step) (hl : l.length ≤ 9223372036854775806) : slices_Equal_edit_Step l l = some true := by
  unfold slices_Equal_edit_Step
  rw [cnd_if, if_neg (by omega)]
  refine fix_upto (F := fun next1 s => slices_Equal_edit_Step_l1 l l next1 s) 0 l.length (by omega) (fun next k _ hk => ?_) (fun next => ?_)
  · unfold slices_Equal_edit_Step_l1
    rw [cnd_if, if_pos (by omega), gAt_nat hk, bnd_pure, bnd_pure, show eq_edit_Step l[k] l[k] = true from by unfold eq_edit_Step; simp]
    first
      | rw [show (!true) = false from rfl, cnd_false, gI_ok (by omega), bnd_pure]
      | rw [cnd_false, gI_ok (by omega), bnd_pure]
  · unfold slices_Equal_edit_Step_l1
    rw [cnd_if, if_neg (by omega)]

theorem listed_ok (t : List T_edit_Step) (e : Int) (ht : t.length ≤ 9223372036854775806) (h : e ≠ 0 → t = []) : Law_listed_edit_Step t e t e = some true := by
  unfold Law_listed_edit_Step Law_listed_edit_Step_j1
  rw [cnd_if]
  by_cases he : e ≠ 0
  · rw [if_pos he, h he, eqS_self _ (by simp), bnd_pure, cnd_true]; simp
  · rw [if_neg he, eqS_self _ ht, bnd_pure, cnd_true]; simp

theorem listed_no (t : List T_edit_Step) {e : Int} (h : e ≠ 0) : Law_listed_edit_Step [] e t e = some true := by
  unfold Law_listed_edit_Step Law_listed_edit_Step_j1
  rw [cnd_if, if_pos h, eqS_self _ (by simp), bnd_pure, cnd_true]; simp

theorem told_ok (b : Bool) (e : Int) (h : e ≠ 0 → b = false) : Law_told_bool b e b e = some true := by
  unfold Law_told_bool Law_told_bool_j1
  rw [cnd_if]
  by_cases he : e ≠ 0
  · rw [if_pos he, h he]; simp
  · rw [if_neg he]; simp

theorem told_no (b : Bool) {e : Int} (h : e ≠ 0) : Law_told_bool false e b e = some true := by
  unfold Law_told_bool Law_told_bool_j1
  rw [cnd_if, if_pos h]; simp

theorem parted_eq (l : List T_edit_Step) (hl : l.length ≤ 3518437208780) : R_Parted l = some (shapes l, tones l) := by
  rw [← apart_eq l hl]
  unfold R_Parted edit_apart
  refine congrFun (fix_congr fun next s => ?_) _
  show R_Parted_l2 l next s.1 s.2.1 s.2.2 = edit_apart_l2 l next s.1 s.2.1 s.2.2
  unfold R_Parted_l2 edit_apart_l2
  congr 1
  congr 1
  funext t
  rw [shapedR, shape_eq, bnd_pure, bnd_pure]
  rfl

theorem Tidy_err {l : List T_edit_Step} {w h : Int} (h0 : stepsE l ≠ 0) : edit_Tidy l w h = some ([], stepsE l) := by
  unfold edit_Tidy
  rw [Check_eq, bnd_pure, cnd_if, if_pos h0]
theorem Tidy_err2 {l : List T_edit_Step} {w h : Int} (h0 : stepsE l = 0) (hz : (sizeS l w h).2.2 ≠ 0) : edit_Tidy l w h = some ([], (sizeS l w h).2.2) := by
  obtain ⟨hl, ho⟩ := stepsE_ok h0
  unfold edit_Tidy
  rw [Check_eq, bnd_pure, cnd_if, if_neg (fun h => h h0), edit_size_eq ho (by omega), bnd_pure, cnd_if, if_pos hz]

theorem Apart_err {l : List T_edit_Step} (h0 : stepsE l ≠ 0) : edit_Apart l = some ([], [], stepsE l) := by
  unfold edit_Apart
  rw [Check_eq, bnd_pure, cnd_if, if_pos h0]

theorem last_part (l : List T_edit_Step) (w h : Int) (hl : l.length ≤ 3518437208780) : Law_EditTidies_j1 l w h = some true := by
  unfold Law_EditTidies_j1
  rw [StepsFault_eq, bnd_pure, parted_eq l hl]
  have pl := parts_len l
  by_cases h0 : stepsE l = 0
  · obtain ⟨hl5, ho⟩ := stepsE_ok h0
    rw [Apart_eq h0, bnd_pure, bnd_pure, h0]
    simp only
    rw [listed_ok _ _ (by omega) (fun h => absurd rfl h), bnd_pure, show (!true) = false from rfl, cnd_false, listed_ok _ _ (by omega) (fun h => absurd rfl h), bnd_pure, show (!true) = false from rfl, cnd_false, cnd_if, if_pos trivial, R_SizeOf_eq ho (by omega), bnd_pure]
    unfold Law_EditTidies_j2 Law_EditTidies_j3
    rw [cnd_if]
    by_cases hz : (sizeS l w h).2.2 = 0
    · obtain ⟨t, h1, h2, h3⟩ := Tidied_eq h0 hz
      rw [if_pos hz, h1, h2, bnd_pure, bnd_pure, hz]
      simp only
      rw [listed_ok _ _ (by omega) (fun h => absurd rfl h), bnd_pure]
    · rw [if_neg hz, Tidy_err2 h0 hz, bnd_pure]
      simp only
      rw [listed_no _ hz, bnd_pure]
  · rw [Apart_err h0, bnd_pure, bnd_pure]
    simp only
    rw [listed_no _ h0, bnd_pure, show (!true) = false from rfl, cnd_false, listed_no _ h0, bnd_pure, show (!true) = false from rfl, cnd_false, cnd_if, if_neg h0]
    unfold Law_EditTidies_j2 Law_EditTidies_j3
    rw [cnd_if, if_neg h0, Tidy_err h0, bnd_pure]
    simp only
    rw [listed_no _ h0, bnd_pure]

theorem law_tidied (l : List T_edit_Step) (w h : Int) (hl : l.length ≤ 3518437208780) : Law_EditTidies l w h = some true := by
  unfold Law_EditTidies
  refine fix_upto (F := fun next4 s => Law_EditTidies_l4 l w h next4 s) 0 l.length (by omega) (fun next k _ hk => ?_) (fun next => ?_)
  · have fin : Law_EditTidies_j5 (k : Int) next = next ((k : Int) + 1) := by
      unfold Law_EditTidies_j5
      rw [gI_ok (by omega), bnd_pure]
    unfold Law_EditTidies_l4
    rw [cnd_if, if_pos (by omega), gAt_nat hk, bnd_pure]
    generalize l[k] = s
    unfold edit_Neutral
    rw [CheckStep_eq, bnd_pure, StepFault_eq]
    by_cases h0 : stepE s = 0
    · have ho : okAll [s] := fun x hx => by rw [List.mem_singleton.1 hx]; exact h0
      rw [h0]
      rw [cnd_if, if_neg (fun h => h rfl), edit_size_eq ho (by simp), bnd_pure, cnd_if]
      by_cases hz : (sizeS [s] w h).2.2 = 0
      · rw [if_neg (fun h => h hz), neutral_eq h0, bnd_pure, bnd_pure, bnd_pure, cnd_if, if_pos rfl, R_SizeOf_eq ho (by simp), bnd_pure]
        unfold Law_EditTidies_j6
        rw [hz, cnd_if, if_pos rfl, idle_eq h0, bnd_pure]
        simp only
        rw [told_ok _ _ (fun h => absurd rfl h), bnd_pure, show (!true) = false from rfl, cnd_false, fin]
      · rw [if_pos hz, bnd_pure, bnd_pure, cnd_if, if_pos rfl, R_SizeOf_eq ho (by simp), bnd_pure]
        unfold Law_EditTidies_j6
        rw [cnd_if, if_neg hz]
        simp only
        rw [told_no _ hz, bnd_pure, show (!true) = false from rfl, cnd_false, fin]
    · rw [cnd_if, if_pos h0, bnd_pure, bnd_pure, cnd_if, if_neg h0]
      unfold Law_EditTidies_j6
      rw [cnd_if, if_neg h0]
      simp only
      rw [told_no _ h0, bnd_pure, show (!true) = false from rfl, cnd_false, fin]
  · unfold Law_EditTidies_l4
    rw [cnd_if, if_neg (by omega)]
    exact last_part l w h hl

theorem editTidiesS (l : List T_edit_Step) (w h : Int) {φ : T_edit_Step → Prop} {ψ1 ψ2 : Prop} (hl : (l.length ≤ 9223372036854775807 ∧ l.length * 40 ≤ 140737488351232) ∧ ∀ x ∈ l, φ x) (_ : ψ1) (_ : ψ2) : Law_EditTidies l w h = some true := law_tidied l w h (by have := hl.1.2; omega)
end Go.M
