/- slices.SortStableFunc of models, first part: swaps, rotations, insertion. Conditions: few elements. -/
import Derived.Test.YthhaabhnlndnoaaGreatMFh
import Derived.Test.YthhaabhnlndnoaaGreatPl
namespace Go.StP
open Go.Md Go.Pl Go.M
set_option linter.unusedVariables false
theorem at_app {α : Type} (U : List α) (x : α) (V : List α) {i : Int} (h : i = U.length) : Jk (U ++ x :: V) i = some x := by
 subst h; rw [J6 (by simp)]; simp
theorem set_app {α : Type} (U : List α) (x y : α) (V : List α) {i : Int} (h : i = U.length) : Q6 (U ++ x :: V) i y = some (U ++ y :: V) := by
 subst h; rw [Un (by omega) (by simp)]; simp
theorem at_eq {α : Type} {l : List α} (U : List α) (x : α) (V : List α) (hl : l = U ++ x :: V) {i : Int} (h : i = U.length) : Jk l i = some x := by subst hl; exact at_app U x V h
theorem set_eq {α : Type} {l : List α} (U : List α) (x y : α) (V : List α) (hl : l = U ++ x :: V) {l' : List α} (hl' : l' = U ++ y :: V) {i : Int} (h : i = U.length) : Q6 l i y = some l' := by subst hl hl'; exact set_app U x y V h
theorem fix_get {α ρ : Type} {F : (α → Option ρ) → α → Option ρ} {a : α} {r : ρ} (h : Zx F a = some r) : ∃ k, ∀ n, k ≤ n → it F n a = some r := by
 unfold Zx at h
 split at h
 ·rename_i hh
  cases h
  exact Classical.choose_spec hh
 ·cases h
theorem fix_two {α ρ : Type} {F : (α → Option ρ) → α → Option ρ} {a : α} {r : ρ} {c1 c2 : Prop} {b1 b2 : α} {r1 r2 : ρ} (h1 : c1 → Zx F b1 = some r1) (h2 : c2 → Zx F b2 = some r2)
  (h : ∀ next, (c1 → next b1 = some r1) → (c2 → next b2 = some r2) → F next a = some r) : Zx F a = some r := by
 have g1 : ∃ k, ∀ n, k ≤ n → c1 → it F n b1 = some r1 := by
  by_cases hc : c1
  ·obtain ⟨k, hk⟩ := fix_get (h1 hc); exact ⟨k, fun n hn _ => hk n hn⟩
  ·exact ⟨0, fun n _ h => absurd h hc⟩
 have g2 : ∃ k, ∀ n, k ≤ n → c2 → it F n b2 = some r2 := by
  by_cases hc : c2
  ·obtain ⟨k, hk⟩ := fix_get (h2 hc); exact ⟨k, fun n hn _ => hk n hn⟩
  ·exact ⟨0, fun n _ h => absurd h hc⟩
 obtain ⟨k1, hk1⟩ := g1
 obtain ⟨k2, hk2⟩ := g2
 refine fix_ev (k := max k1 k2 + 1) fun n hn => ?_
 cases n with
 | zero => omega
 | succ n => exact h _ (hk1 n (by omega)) (hk2 n (by omega))
theorem half {x : Int} (h : 0 ≤ x ∧ x ≤ 4611686018427387904) : gShr 64 (wU64 x) 1 = some (x / 2) ∧ Xm (x / 2) = x / 2 := by
 refine ⟨?_, wI64_in (by omega)⟩
 rw [wU64_in (by omega)]
 unfold gShr
 rw [if_pos (by omega)]
 rfl
theorem Qd {p : Prop} [Decidable p] (h : p) : decide p = true := decide_eq_true h
theorem Qh {p : Prop} [Decidable p] (h : ¬ p) : decide p = false := decide_eq_false h
abbrev T := T_face_Match
section
variable {cmp : T → T → Option Int}
theorem swapRange_ok (P X Q Y S : List T) (hXY : X.length = Y.length) {a b n : Int} (ha : a = P.length) (hb : b = P.length + X.length + Q.length) (hn : n = X.length) (hN : (P ++ (X ++ (Q ++ (Y ++ S)))).length ≤ 1000000000) :
  Yd (P ++ (X ++ (Q ++ (Y ++ S)))) a b n cmp = some (P ++ (Y ++ (Q ++ (X ++ S)))) := by
 simp only [List.length_append] at hN
 have key := Jaj (F := fun next1 s => X3 a b n next1 s.1 s.2)
  (fun s : Int × List T => ∃ X1 X2 Y1 Y2, X = X1 ++ X2 ∧ Y = Y1 ++ Y2 ∧ X1.length = Y1.length ∧ s.1 = X1.length ∧ s.2 = P ++ (Y1 ++ (X2 ++ (Q ++ (X1 ++ (Y2 ++ S))))))
  (fun s => (n - s.1).toNat) (fun r => r = P ++ (Y ++ (Q ++ (X ++ S))))
  (by
   rintro ⟨i, l⟩ ⟨X1, X2, Y1, Y2, rfl, rfl, h1, rfl, rfl⟩
   simp only [List.length_append] at hXY hn hN hb
   simp only [X3]
   match X2, Y2 with
   | [], [] =>
    refine .inl ⟨_, ?_, fun next => by rw [Qh (by simp only [List.length_nil] at hn; omega)]; rfl⟩
    simp
   | [], y :: Y2 => simp at hXY; omega
   | x :: X2, [] => simp at hXY; omega
   | x :: X2, y :: Y2 =>
    simp only [List.length_cons] at hXY hn hN hb
    refine .inr ⟨((X1.length : Int) + 1, P ++ ((Y1 ++ [y]) ++ (X2 ++ (Q ++ ((X1 ++ [x]) ++ (Y2 ++ S)))))), ⟨X1 ++ [x], X2, Y1 ++ [y], Y2, by simp, by simp, by simp [h1], by simp, rfl⟩, by simp only; omega, fun next => ?_⟩
    have e1 : Jk (P ++ (Y1 ++ (x :: X2 ++ (Q ++ (X1 ++ (y :: Y2 ++ S)))))) (a + X1.length) = some x := at_eq (P ++ Y1) x (X2 ++ (Q ++ (X1 ++ (y :: Y2 ++ S)))) (by simp) (by simp; omega)
    have e2 : Jk (P ++ (Y1 ++ (x :: X2 ++ (Q ++ (X1 ++ (y :: Y2 ++ S)))))) (b + X1.length) = some y := at_eq (P ++ (Y1 ++ (x :: X2 ++ (Q ++ X1)))) y (Y2 ++ S) (by simp) (by simp; omega)
    have e3 : Q6 (P ++ (Y1 ++ (x :: X2 ++ (Q ++ (X1 ++ (y :: Y2 ++ S)))))) (a + X1.length) y = some (P ++ (Y1 ++ (y :: X2 ++ (Q ++ (X1 ++ (y :: Y2 ++ S)))))) := set_eq (P ++ Y1) x y (X2 ++ (Q ++ (X1 ++ (y :: Y2 ++ S)))) (by simp) (by simp) (by simp; omega)
    have e4 : Jk (P ++ (Y1 ++ (y :: X2 ++ (Q ++ (X1 ++ (y :: Y2 ++ S)))))) (b + X1.length) = some y := at_eq (P ++ (Y1 ++ (y :: X2 ++ (Q ++ X1)))) y (Y2 ++ S) (by simp) (by simp; omega)
    have e5 : Q6 (P ++ (Y1 ++ (y :: X2 ++ (Q ++ (X1 ++ (y :: Y2 ++ S)))))) (b + X1.length) x = some (P ++ ((Y1 ++ [y]) ++ (X2 ++ (Q ++ ((X1 ++ [x]) ++ (Y2 ++ S)))))) := set_eq (P ++ (Y1 ++ (y :: X2 ++ (Q ++ X1)))) y x (Y2 ++ S) (by simp) (by simp) (by simp; omega)
    have g1 : gI (a + X1.length) = some (a + X1.length) := Qi (by omega)
    have g2 : gI (b + X1.length) = some (b + X1.length) := Qi (by omega)
    have g3 : gI ((X1.length : Int) + 1) = some ((X1.length : Int) + 1) := Qi (by omega)
    rw [Qd (by omega)]
    simp only [Jj, g1, g2, g3, Jb, e1, e2, e3, e4, e5])
  (0, P ++ (X ++ (Q ++ (Y ++ S)))) ⟨[], X, [], Y, rfl, rfl, rfl, rfl, rfl⟩
 obtain ⟨r, h1, rfl⟩ := key
 exact h1
theorem rotate_ok (P X Y S : List T) {a m b : Int} (ha : a = P.length) (hm : m = P.length + X.length) (hb : b = P.length + X.length + Y.length) (hX : 0 < X.length) (hY : 0 < Y.length) (hN : (P ++ (X ++ (Y ++ S))).length ≤ 1000000000) :
  Zp (P ++ (X ++ (Y ++ S))) a m b cmp = some (P ++ (Y ++ (X ++ S))) := by
 simp only [List.length_append] at hN
 have key := Jaj (F := fun next2 s => Yh m cmp next2 s.1 s.2.1 s.2.2)
  (fun s : Int × Int × List T => ∃ P' X' Y' S', s.1 = (X'.length : Int) ∧ s.2.1 = (Y'.length : Int) ∧ s.2.2 = P' ++ (X' ++ (Y' ++ S')) ∧ 0 < X'.length ∧ 0 < Y'.length ∧ m = P'.length + X'.length ∧ P' ++ (Y' ++ (X' ++ S')) = P ++ (Y ++ (X ++ S)))
  (fun s => (s.1 + s.2.1).toNat) (fun r => r = P ++ (Y ++ (X ++ S)))
  (by
   rintro ⟨i, j, l⟩ ⟨P', X', Y', S', rfl, rfl, rfl, h1, h2, h3, h4⟩
   have hL := congrArg List.length h4
   simp only [List.length_append] at hL
   simp only [Yh, Ve]
   rcases Nat.lt_trichotomy X'.length Y'.length with h | h | h
   ·refine .inr ⟨((X'.length : Int), (Y'.length : Int) - X'.length, P' ++ (Y'.drop (Y'.length - X'.length) ++ (Y'.take (Y'.length - X'.length) ++ (X' ++ S')))), ⟨P', Y'.drop (Y'.length - X'.length), Y'.take (Y'.length - X'.length), X' ++ S', by simp; omega, by simp; omega, rfl, by simp; omega, by simp; omega, by simp; omega, ?_⟩, by simp only; omega, fun next => ?_⟩
    ·rw [← h4, ← List.append_assoc (Y'.take _), List.take_append_drop]
    ·have e := swapRange_ok (cmp := cmp) P' X' (Y'.take (Y'.length - X'.length)) (Y'.drop (Y'.length - X'.length)) S' (by simp; omega) (a := m - X'.length) (b := m + Y'.length - X'.length) (n := X'.length) (by omega) (by simp; omega) rfl (by simp; omega)
     rw [← List.append_assoc (Y'.take _), List.take_append_drop] at e
     have g1 : gI (m - X'.length) = some (m - X'.length) := Qi (by omega)
     have g2 : gI (m + Y'.length) = some (m + Y'.length) := Qi (by omega)
     have g3 : gI (m + Y'.length - X'.length) = some (m + Y'.length - X'.length) := Qi (by omega)
     have g4 : gI ((Y'.length : Int) - X'.length) = some ((Y'.length : Int) - X'.length) := Qi (by omega)
     rw [Qd (by omega), Qh (by omega)]
     simp only [Jj, Ji, Jb, e, g1, g2, g3, g4]
   ·refine .inl ⟨_, rfl, fun next => ?_⟩
    have e := swapRange_ok (cmp := cmp) P' X' [] Y' S' h (a := m - X'.length) (b := m) (n := X'.length) (by omega) (by simp; omega) rfl (by simp; omega)
    simp only [List.nil_append] at e
    rw [Qh (by omega), Qi (by omega)]
    simp only [Ji, Jb, e, h4]
   ·refine .inr ⟨((X'.length : Int) - Y'.length, (Y'.length : Int), (P' ++ Y') ++ (X'.drop Y'.length ++ (X'.take Y'.length ++ S'))), ⟨P' ++ Y', X'.drop Y'.length, X'.take Y'.length, S', by simp; omega, by simp; omega, rfl, by simp; omega, by simp; omega, by simp; omega, ?_⟩, by simp only; omega, fun next => ?_⟩
    ·rw [← h4, List.append_assoc, ← List.append_assoc (X'.take _), List.take_append_drop]
    ·have e := swapRange_ok (cmp := cmp) P' (X'.take Y'.length) (X'.drop Y'.length) Y' S' (by simp; omega) (a := m - X'.length) (b := m) (n := Y'.length) (by omega) (by simp; omega) (by simp; omega) (by simp; omega)
     rw [← List.append_assoc (X'.take _), List.take_append_drop] at e
     rw [Qd (by omega), Qd (by omega), Qi (by omega), Qi (x := (X'.length : Int) - Y'.length) (by omega)]
     simp only [Jj, Jb, e, List.append_assoc])
  ((X.length : Int), (Y.length : Int), P ++ (X ++ (Y ++ S))) ⟨P, X, Y, S, rfl, rfl, rfl, hX, hY, hm, rfl⟩
 obtain ⟨r, h1, rfl⟩ := key
 unfold Zp
 rw [Qi (by omega), Qi (x := b - m) (by omega), Jb, Jb, show m - a = (X.length : Int) by omega, show b - m = (Y.length : Int) by omega]
 exact h1
end
section
variable (key tie : T → Int)
def lt3 (x y : T) : Prop := key x < key y ∨ key x = key y ∧ tie x < tie y
def stb (x y : T) : Prop := key x = key y → tie x < tie y
def Cf (cmp : T → T → Option Int) : Prop := ∀ x y, ∃ v, cmp x y = some v ∧ (v < 0 ↔ key x < key y)
end
section
variable {key tie : T → Int} {cmp : T → T → Option Int}
theorem lt3.le {x y : T} (h : lt3 key tie x y) : key x ≤ key y := by unfold lt3 at h; omega
theorem lt3.stb {x y : T} (h : lt3 key tie x y) : stb key tie x y := by unfold lt3 at h; unfold Go.StP.stb; omega
theorem lt3_of {x y : T} (h : key x ≤ key y) (h2 : stb key tie x y) : lt3 key tie x y := by unfold Go.StP.stb at h2; unfold lt3; omega
theorem lt3_lt {x y : T} (h : key x < key y) : lt3 key tie x y := .inl h
theorem ins_in (hc : Cf key cmp) (P R : List T) (x : T) (E S : List T) (hs : R.Pairwise (lt3 key tie)) {a i : Int} (ha : a = P.length) (hi : i = P.length + R.length) (hN : (P ++ (R ++ (x :: E ++ S))).length ≤ 1000000000) :
  ∃ r : List T, (∃ U V, R = U ++ V ∧ r = P ++ (U ++ (x :: V) ++ (E ++ S)) ∧ (∀ v ∈ V, key x < key v) ∧ ∀ u ∈ U, key u ≤ key x) ∧
   ∀ next, Zx (fun next3 s => Xb a cmp i next next3 s.1 s.2) (i, P ++ (R ++ (x :: E ++ S))) = Xa i next r := by
 simp only [List.length_append, List.length_cons] at hN
 refine fix_runP (F := fun next next3 s => Xb a cmp i next next3 s.1 s.2) (fun next r => Xa i next r)
  (fun s : Int × List T => ∃ U V, R = U ++ V ∧ s.1 = P.length + U.length ∧ s.2 = P ++ (U ++ (x :: V) ++ (E ++ S)) ∧ ∀ v ∈ V, key x < key v) (fun s => s.1.toNat) _ ?_ (i, P ++ (R ++ (x :: E ++ S))) ⟨R, [], by simp, hi, by simp, by simp⟩
 rintro ⟨j, l⟩ ⟨U, V, rfl, rfl, rfl, hV⟩
 simp only [List.length_append] at hN hi
 simp only [Xb]
 rcases List.eq_nil_or_concat U with rfl | ⟨U, u, rfl⟩
 ·exact .inl ⟨_, ⟨[], V, rfl, rfl, hV, by simp⟩, fun next next3 => by rw [Qh (by simp; omega)]; rfl⟩
 ·simp only [List.concat_eq_append, List.length_append, List.length_singleton, Int.natCast_add, Int.natCast_one] at *
  have e1 : Jk (P ++ (U ++ [u] ++ (x :: V) ++ (E ++ S))) ((P.length : Int) + (U.length + 1)) = some x := at_eq (P ++ (U ++ [u])) x (V ++ (E ++ S)) (by simp) (by simp)
  have e2 : Jk (P ++ (U ++ [u] ++ (x :: V) ++ (E ++ S))) ((P.length : Int) + (U.length + 1) - 1) = some u := at_eq (P ++ U) u (x :: V ++ (E ++ S)) (by simp) (by simp; omega)
  obtain ⟨v, hv, hlt⟩ := hc x u
  have g1 : gI ((P.length : Int) + (U.length + 1) - 1) = some ((P.length : Int) + (U.length + 1) - 1) := Qi (by omega)
  have hU := List.pairwise_append.1 (List.append_assoc U [u] V ▸ hs)
  by_cases hux : key x < key u
  ·refine .inr ⟨((P.length : Int) + (U.length + 1) - 1, P ++ (U ++ (x :: u :: V) ++ (E ++ S))), ⟨U, u :: V, by simp, by simp only; omega, rfl, ?_⟩, by simp only; omega, fun next next3 => ?_⟩
   ·intro z hz
    rcases List.mem_cons.1 hz with rfl | hz
    ·exact hux
    ·exact hV z hz
   ·have e3 : Q6 (P ++ (U ++ [u] ++ (x :: V) ++ (E ++ S))) ((P.length : Int) + (U.length + 1)) u = some (P ++ (U ++ [u] ++ (u :: V) ++ (E ++ S))) := set_eq (P ++ (U ++ [u])) x u (V ++ (E ++ S)) (by simp) (by simp) (by simp)
    have e4 : Jk (P ++ (U ++ [u] ++ (u :: V) ++ (E ++ S))) ((P.length : Int) + (U.length + 1) - 1) = some u := at_eq (P ++ U) u (u :: V ++ (E ++ S)) (by simp) (by simp; omega)
    have e5 : Q6 (P ++ (U ++ [u] ++ (u :: V) ++ (E ++ S))) ((P.length : Int) + (U.length + 1) - 1) x = some (P ++ (U ++ (x :: u :: V) ++ (E ++ S))) := set_eq (P ++ U) u x (u :: V ++ (E ++ S)) (by simp) (by simp) (by simp; omega)
    rw [Qd (show a < (P.length : Int) + (U.length + 1) by omega)]
    simp only [Jj, e1, g1, e2, Jb, hv, Qd (hlt.2 hux), e3, e4, e5]
  ·refine .inl ⟨_, ⟨U ++ [u], V, rfl, rfl, hV, ?_⟩, fun next next3 => ?_⟩
   ·intro z hz
    rcases List.mem_append.1 hz with hz | hz
    ·have := (hU.2.2 z hz u (by simp)).le
     omega
    ·simp at hz; subst hz; omega
   ·rw [Qd (show a < (P.length : Int) + (U.length + 1) by omega)]
    simp only [Jj, e1, g1, e2, Jb, hv, Qh (fun h => hux (hlt.1 h)), Ji]
theorem insertion_ok (hc : Cf key cmp) (P A S : List T) (hs : A.Pairwise (stb key tie)) {a b : Int} (ha : a = P.length) (hb : b = P.length + A.length) (hN : (P ++ (A ++ S)).length ≤ 1000000000) :
  ∃ R, Xz (P ++ (A ++ S)) a b cmp = some (P ++ (R ++ S)) ∧ R.Perm A ∧ R.Pairwise (lt3 key tie) := by
 simp only [List.length_append] at hN
 unfold Xz
 rw [Qi (by omega), Jb]
 match A with
 | [] => exact ⟨[], Q8 fun next => by simp only [Xd]; rw [Qh (by simp at hb; omega)]; rfl, List.Perm.refl _, List.Pairwise.nil⟩
 | x0 :: A0 =>
  simp only [List.length_cons] at hb hN
  have key := Jaj (F := fun next1 s => Xd a b cmp next1 s.1 s.2)
   (fun s : Int × List T => ∃ D E R, x0 :: A0 = D ++ E ∧ R.Perm D ∧ R.Pairwise (lt3 key tie) ∧ s.1 = P.length + D.length ∧ s.2 = P ++ (R ++ (E ++ S))) (fun s => (b - s.1).toNat)
   (fun r => ∃ R, r = P ++ (R ++ S) ∧ R.Perm (x0 :: A0) ∧ R.Pairwise (lt3 key tie))
   (by
    rintro ⟨i, l⟩ ⟨D, E, R, hA, hp, hR, rfl, rfl⟩
    have hl := congrArg List.length hA
    have hl2 := hp.length_eq
    simp only [List.length_append, List.length_cons] at hl
    simp only [Xd]
    match E with
    | [] =>
     rw [List.append_nil] at hA; subst hA; refine .inl ⟨P ++ (R ++ S), ⟨R, rfl, hp, hR⟩, fun next => ?_⟩
     rw [Qh (by simp only [List.length_cons]; omega)]; rfl
    | x :: E =>
     simp only [List.length_cons] at hl
     obtain ⟨r, ⟨U, V, rfl, rfl, h1, h2⟩, h3⟩ := ins_in hc P R x E S hR ha (i := (P.length : Int) + D.length) (by omega) (by simp; omega)
     refine .inr ⟨((P.length : Int) + D.length + 1, P ++ (U ++ (x :: V) ++ (E ++ S))), ⟨D ++ [x], E, U ++ x :: V, by simp [hA], ?_, ?_, by simp; omega, rfl⟩, by simp only; omega, fun next => ?_⟩
     ·refine List.perm_middle.trans ?_
      exact ((hp.cons x)).trans (List.perm_append_singleton x D).symm
     ·have hx := List.pairwise_append.1 (hA ▸ hs)
      have hUV := List.pairwise_append.1 hR
      refine List.pairwise_append.2 ⟨hUV.1, List.pairwise_cons.2 ⟨fun v hv => lt3_lt (h1 v hv), hUV.2.1⟩, fun u hu z hz => ?_⟩
      rcases List.mem_cons.1 hz with rfl | hz
      ·exact lt3_of (h2 u hu) (hx.2.2 u (hp.mem_iff.1 (List.mem_append_left _ hu)) z (by simp))
      ·exact hUV.2.2 u hu z hz
     ·rw [Qd (by omega)]
      simp only [Jj]
      rw [h3 next]
      simp only [Xa]
      rw [Qi (by omega)]; rfl)
   (a + 1, P ++ (x0 :: A0 ++ S)) ⟨[x0], A0, [x0], rfl, List.Perm.refl _, by simp, by simp only [List.length_singleton]; omega, by simp⟩
  obtain ⟨r, h1, R, rfl, h2, h3⟩ := key
  exact ⟨R, h1, h2, h3⟩
end
end Go.StP

/- slices.SortStableFunc of models, second part: merging in place. Conditions: few elements. -/
namespace Go.StP
open Go.Md Go.Pl Go.M
set_option linter.unusedVariables false
theorem at_mid {α : Type} (U X V : List α) (k : Nat) (h : k < X.length) {i : Int} (hi : i = U.length + k) : Jk (U ++ (X ++ V)) i = some X[k] := by
 subst hi
 unfold Jk
 rw [if_pos (by omega), show ((U.length : Int) + k).toNat = U.length + k by omega, List.getElem?_append_right (by omega), Nat.add_sub_cancel_left, List.getElem?_append_left h, List.getElem?_eq_getElem h]
theorem at_mid2 {α : Type} (U X Y V : List α) (k : Nat) (h : k < Y.length) {i : Int} (hi : i = U.length + X.length + k) : Jk (U ++ (X ++ (Y ++ V))) i = some Y[k] := by
 rw [← List.append_assoc]; exact at_mid (U ++ X) Y V k h (by simp; omega)
section
variable {key tie : T → Int} {cmp : T → T → Option Int}
theorem one_in (hc : Cf key cmp) (P : List T) (x : T) (B S : List T) (hB : B.Pairwise (lt3 key tie)) {a m b : Int} (ha : a = P.length) (hm : m = P.length + 1) (hb : b = P.length + 1 + B.length) (hN : (P ++ ([x] ++ (B ++ S))).length ≤ 1000000000) :
  ∃ U V, B = U ++ V ∧ (∀ u ∈ U, key u < key x) ∧ (∀ v ∈ V, key x ≤ key v) ∧
   Zx (fun next13 s => Xk (P ++ ([x] ++ (B ++ S))) a cmp next13 s.1 s.2) (m, b) = some (P ++ ((U ++ [x] ++ V) ++ S)) := by
 simp only [List.length_append, List.length_singleton] at hN
 have kx : ∀ (i : Nat) (h : i < B.length), Jk (P ++ ([x] ++ (B ++ S))) ((P.length : Int) + 1 + i) = some B[i] := fun i h => at_mid2 P [x] B S i h (by simp)
 have k0 : Jk (P ++ ([x] ++ (B ++ S))) a = some x := at_eq P x (B ++ S) (by simp) ha
 have sorted := List.pairwise_iff_getElem.1 hB
 have key1 := Jaj (F := fun next13 s => Xk (P ++ ([x] ++ (B ++ S))) a cmp next13 s.1 s.2)
  (fun s : Int × Int => ∃ i j : Nat, s.1 = P.length + 1 + i ∧ s.2 = P.length + 1 + j ∧ i ≤ j ∧ j ≤ B.length ∧ (∀ k (h : k < B.length), k < i → key B[k] < key x) ∧ ∀ k (h : k < B.length), j ≤ k → key x ≤ key B[k])
  (fun s => (s.2 - s.1).toNat) (fun r => ∃ U V, B = U ++ V ∧ (∀ u ∈ U, key u < key x) ∧ (∀ v ∈ V, key x ≤ key v) ∧ r = P ++ ((U ++ [x] ++ V) ++ S))
  (by
   rintro ⟨_, _⟩ ⟨i, j, rfl, rfl, hij, hj, h1, h2⟩
   simp only [Xk]
   by_cases hlt : i < j
   ·obtain ⟨f1, f2⟩ := half (x := (P.length : Int) + 1 + i + (P.length + 1 + j)) (by omega)
    have hh : ((P.length : Int) + 1 + i + (P.length + 1 + j)) / 2 = P.length + 1 + ((i + j) / 2 : Nat) := by omega
    rw [hh] at f1 f2
    have hk := kx ((i + j) / 2) (by omega)
    obtain ⟨v, hv, hv2⟩ := hc B[(i + j) / 2] x
    have g1 : gI ((P.length : Int) + 1 + i + (P.length + 1 + j)) = some ((P.length : Int) + 1 + i + (P.length + 1 + j)) := Qi (by omega)
    have g2 : gI ((P.length : Int) + 1 + ((i + j) / 2 : Nat) + 1) = some ((P.length : Int) + 1 + ((i + j) / 2 : Nat) + 1) := Qi (by omega)
    by_cases hk2 : key B[(i + j) / 2] < key x
    ·refine .inr ⟨((P.length : Int) + 1 + ((i + j) / 2 : Nat) + 1, (P.length : Int) + 1 + j), ⟨(i + j) / 2 + 1, j, by simp only; omega, rfl, by omega, hj, fun k h hk3 => ?_, h2⟩, by simp only; omega, fun next => ?_⟩
     ·rcases Nat.lt_or_ge k ((i + j) / 2) with h4 | h4
      ·have := (sorted k _ h (by omega) h4).le; omega
      ·have : k = (i + j) / 2 := by omega
       subst this; exact hk2
     ·rw [Qd (by omega)]
      simp only [Jj, g1, Jb, f1, f2, hk, k0, hv, Qd (hv2.2 hk2), g2]
    ·refine .inr ⟨((P.length : Int) + 1 + i, (P.length : Int) + 1 + ((i + j) / 2 : Nat)), ⟨i, (i + j) / 2, rfl, rfl, by omega, by omega, h1, fun k h hk3 => ?_⟩, by simp only; omega, fun next => ?_⟩
     ·rcases Nat.lt_or_ge ((i + j) / 2) k with h4 | h4
      ·have := (sorted _ k (by omega) h h4).le; omega
      ·have : k = (i + j) / 2 := by omega
       subst this; omega
     ·rw [Qd (by omega)]
      simp only [Jj, g1, Jb, f1, f2, hk, k0, hv, Qh (fun h => hk2 (hv2.1 h)), Ji]
   ·have : i = j := by omega
    subst this
    refine .inl ⟨P ++ ((B.take i ++ [x] ++ B.drop i) ++ S), ⟨B.take i, B.drop i, (List.take_append_drop i B).symm, ?_, ?_, rfl⟩, fun next => ?_⟩
    ·intro u hu
     obtain ⟨k, hk, rfl⟩ := List.getElem_of_mem hu
     rw [List.getElem_take]
     simp only [List.length_take] at hk
     exact h1 k (by omega) (by omega)
    ·intro u hu
     obtain ⟨k, hk, rfl⟩ := List.getElem_of_mem hu
     rw [List.getElem_drop]
     simp only [List.length_drop] at hk
     exact h2 (i + k) (by omega) (by omega)
    ·rw [Qh (by omega)]
     simp only [Ji, Zz]
     have key2 := Jaj (F := fun next12 s => X4 ((P.length : Int) + 1 + i) next12 s.1 s.2)
      (fun s : Int × List T => ∃ V1 V2, B.take i = V1 ++ V2 ∧ s.1 = P.length + V1.length ∧ s.2 = P ++ (V1 ++ (x :: V2 ++ (B.drop i ++ S)))) (fun s => ((P.length : Int) + 1 + i - s.1).toNat)
      (fun r => r = P ++ ((B.take i ++ [x] ++ B.drop i) ++ S))
      (by
       rintro ⟨_, _⟩ ⟨V1, V2, hV, rfl, rfl⟩
       have hl := congrArg List.length hV
       simp only [List.length_append, List.length_take] at hl
       simp only [X4]
       have g0 : gI ((P.length : Int) + 1 + i - 1) = some ((P.length : Int) + 1 + i - 1) := Qi (by omega)
       match V2 with
       | [] =>
        refine .inl ⟨P ++ ((B.take i ++ [x] ++ B.drop i) ++ S), rfl, fun next => ?_⟩
        simp only [List.length_nil] at hl
        simp only [g0, Jb]
        rw [Qh (by omega), Ji, hV]
        simp
       | v :: V2 =>
        simp only [List.length_cons] at hl
        refine .inr ⟨((P.length : Int) + V1.length + 1, P ++ ((V1 ++ [v]) ++ (x :: V2 ++ (B.drop i ++ S)))), ⟨V1 ++ [v], V2, by simp [hV], by simp only [List.length_append, List.length_singleton]; omega, rfl⟩, by simp only; omega, fun next => ?_⟩
        generalize B.drop i = B2
        have e1 : Jk (P ++ (V1 ++ (x :: v :: V2 ++ (B2 ++ S)))) ((P.length : Int) + V1.length + 1) = some v := at_eq (P ++ (V1 ++ [x])) v (V2 ++ (B2 ++ S)) (by simp) (by simp; omega)
        have e2 : Jk (P ++ (V1 ++ (x :: v :: V2 ++ (B2 ++ S)))) ((P.length : Int) + V1.length) = some x := at_eq (P ++ V1) x (v :: V2 ++ (B2 ++ S)) (by simp) (by simp)
        have e3 : Q6 (P ++ (V1 ++ (x :: v :: V2 ++ (B2 ++ S)))) ((P.length : Int) + V1.length) v = some (P ++ (V1 ++ (v :: v :: V2 ++ (B2 ++ S)))) := set_eq (P ++ V1) x v (v :: V2 ++ (B2 ++ S)) (by simp) (by simp) (by simp)
        have e4 : Jk (P ++ (V1 ++ (v :: v :: V2 ++ (B2 ++ S)))) ((P.length : Int) + V1.length + 1) = some v := at_eq (P ++ (V1 ++ [v])) v (V2 ++ (B2 ++ S)) (by simp) (by simp; omega)
        have e5 : Q6 (P ++ (V1 ++ (v :: v :: V2 ++ (B2 ++ S)))) ((P.length : Int) + V1.length + 1) x = some (P ++ ((V1 ++ [v]) ++ (x :: V2 ++ (B2 ++ S)))) := set_eq (P ++ (V1 ++ [v])) v x (V2 ++ (B2 ++ S)) (by simp) (by simp) (by simp; omega)
        have g1 : gI ((P.length : Int) + V1.length + 1) = some ((P.length : Int) + V1.length + 1) := Qi (by omega)
        simp only [g0, Jb]
        rw [Qd (by omega)]
        simp only [Jj, g1, Jb, e1, e2, e3, e4, e5])
      (a, P ++ ([x] ++ (B ++ S))) ⟨[], B.take i, rfl, by simp only [List.length_nil]; omega, by simp only [List.nil_append, List.singleton_append, List.cons_append]; rw [← List.append_assoc (B.take i), List.take_append_drop]⟩
     obtain ⟨r, h3, rfl⟩ := key2
     exact h3)
  (m, b) ⟨0, B.length, by simp only; omega, by simp only; omega, by omega, by omega, fun k h h' => by omega, fun k h h' => by omega⟩
 obtain ⟨r, h1, U, V, hU, h2, h3, rfl⟩ := key1
 exact ⟨U, V, hU, h2, h3, h1⟩
theorem one_out (hc : Cf key cmp) (P : List T) (A : List T) (y : T) (S : List T) (hA : A.Pairwise (lt3 key tie)) {a m : Int} (ha : a = P.length) (hm : m = P.length + A.length) (hN : (P ++ (A ++ ([y] ++ S))).length ≤ 1000000000) :
  ∃ U V, A = U ++ V ∧ (∀ u ∈ U, key u ≤ key y) ∧ (∀ v ∈ V, key y < key v) ∧
   Zx (fun next10 s => Xl (P ++ (A ++ ([y] ++ S))) m cmp next10 s.1 s.2) (a, m) = some (P ++ ((U ++ [y] ++ V) ++ S)) := by
 simp only [List.length_append, List.length_singleton] at hN
 have kx : ∀ (i : Nat) (h : i < A.length), Jk (P ++ (A ++ ([y] ++ S))) ((P.length : Int) + i) = some A[i] := fun i h => at_mid P A _ i h rfl
 have k0 : Jk (P ++ (A ++ ([y] ++ S))) m = some y := at_eq (P ++ A) y S (by simp) (by simp [hm])
 have sorted := List.pairwise_iff_getElem.1 hA
 have key1 := Jaj (F := fun next10 s => Xl (P ++ (A ++ ([y] ++ S))) m cmp next10 s.1 s.2)
  (fun s : Int × Int => ∃ i j : Nat, s.1 = P.length + i ∧ s.2 = P.length + j ∧ i ≤ j ∧ j ≤ A.length ∧ (∀ k (h : k < A.length), k < i → key A[k] ≤ key y) ∧ ∀ k (h : k < A.length), j ≤ k → key y < key A[k])
  (fun s => (s.2 - s.1).toNat) (fun r => ∃ U V, A = U ++ V ∧ (∀ u ∈ U, key u ≤ key y) ∧ (∀ v ∈ V, key y < key v) ∧ r = P ++ ((U ++ [y] ++ V) ++ S))
  (by
   rintro ⟨_, _⟩ ⟨i, j, rfl, rfl, hij, hj, h1, h2⟩
   simp only [Xl]
   by_cases hlt : i < j
   ·obtain ⟨f1, f2⟩ := half (x := (P.length : Int) + i + (P.length + j)) (by omega)
    have hh : ((P.length : Int) + i + (P.length + j)) / 2 = P.length + ((i + j) / 2 : Nat) := by omega
    rw [hh] at f1 f2
    have hk := kx ((i + j) / 2) (by omega)
    obtain ⟨v, hv, hv2⟩ := hc y A[(i + j) / 2]
    have g1 : gI ((P.length : Int) + i + (P.length + j)) = some ((P.length : Int) + i + (P.length + j)) := Qi (by omega)
    have g2 : gI ((P.length : Int) + ((i + j) / 2 : Nat) + 1) = some ((P.length : Int) + ((i + j) / 2 : Nat) + 1) := Qi (by omega)
    by_cases hk2 : key y < key A[(i + j) / 2]
    ·refine .inr ⟨((P.length : Int) + i, (P.length : Int) + ((i + j) / 2 : Nat)), ⟨i, (i + j) / 2, rfl, rfl, by omega, by omega, h1, fun k h hk3 => ?_⟩, by simp only; omega, fun next => ?_⟩
     ·rcases Nat.lt_or_ge ((i + j) / 2) k with h4 | h4
      ·have := (sorted _ k (by omega) h h4).le; omega
      ·have : k = (i + j) / 2 := by omega
       subst this; omega
     ·rw [Qd (by omega)]
      simp only [Jj, g1, Jb, f1, f2, hk, k0, hv, Qd (hv2.2 hk2), Bool.not_true, Ji]
    ·refine .inr ⟨((P.length : Int) + ((i + j) / 2 : Nat) + 1, (P.length : Int) + j), ⟨(i + j) / 2 + 1, j, by simp only; omega, rfl, by omega, hj, fun k h hk3 => ?_, h2⟩, by simp only; omega, fun next => ?_⟩
     ·rcases Nat.lt_or_ge k ((i + j) / 2) with h4 | h4
      ·have := (sorted k _ h (by omega) h4).le; omega
      ·have : k = (i + j) / 2 := by omega
       subst this; omega
     ·rw [Qd (by omega)]
      simp only [Jj, g1, Jb, f1, f2, hk, k0, hv, Qh (fun h => hk2 (hv2.1 h)), Bool.not_false, g2]
   ·have : i = j := by omega
    subst this
    refine .inl ⟨P ++ ((A.take i ++ [y] ++ A.drop i) ++ S), ⟨A.take i, A.drop i, (List.take_append_drop i A).symm, ?_, ?_, rfl⟩, fun next => ?_⟩
    ·intro u hu
     obtain ⟨k, hk, rfl⟩ := List.getElem_of_mem hu
     rw [List.getElem_take]
     simp only [List.length_take] at hk
     exact h1 k (by omega) (by omega)
    ·intro u hu
     obtain ⟨k, hk, rfl⟩ := List.getElem_of_mem hu
     rw [List.getElem_drop]
     simp only [List.length_drop] at hk
     exact h2 (i + k) (by omega) (by omega)
    ·rw [Qh (by omega)]
     simp only [Ji, Z2]
     have key2 := Jaj (F := fun next9 s => X8 ((P.length : Int) + i) next9 s.1 s.2)
      (fun s : Int × List T => ∃ V1 V2, A.drop i = V1 ++ V2 ∧ s.1 = P.length + i + V1.length ∧ s.2 = P ++ (A.take i ++ (V1 ++ (y :: V2 ++ S)))) (fun s => (s.1 - ((P.length : Int) + i)).toNat)
      (fun r => r = P ++ ((A.take i ++ [y] ++ A.drop i) ++ S))
      (by
       rintro ⟨_, _⟩ ⟨V1, V2, hV, rfl, rfl⟩
       have hl := congrArg List.length hV
       simp only [List.length_append, List.length_drop] at hl
       simp only [X8]
       rcases List.eq_nil_or_concat V1 with rfl | ⟨V1, v, rfl⟩
       ·refine .inl ⟨P ++ ((A.take i ++ [y] ++ A.drop i) ++ S), rfl, fun next => ?_⟩
        rw [Qh (by simp only [List.length_nil]; omega), Ji, hV]
        simp
       ·simp only [List.concat_eq_append, List.length_append, List.length_singleton, Int.natCast_add, Int.natCast_one] at *
        refine .inr ⟨((P.length : Int) + i + (V1.length + 1) - 1, P ++ (A.take i ++ (V1 ++ (y :: v :: V2 ++ S)))), ⟨V1, v :: V2, by simp [hV], by simp only; omega, by simp⟩, by simp only; omega, fun next => ?_⟩
        have hl1 : (A.take i).length = i := by simp; omega
        generalize A.take i = A1 at hl1
        have e1 : Jk (P ++ (A1 ++ (V1 ++ [v] ++ (y :: V2 ++ S)))) ((P.length : Int) + i + (V1.length + 1) - 1) = some v := at_eq (P ++ (A1 ++ V1)) v (y :: V2 ++ S) (by simp) (by simp; omega)
        have e2 : Jk (P ++ (A1 ++ (V1 ++ [v] ++ (y :: V2 ++ S)))) ((P.length : Int) + i + (V1.length + 1)) = some y := at_eq (P ++ (A1 ++ (V1 ++ [v]))) y (V2 ++ S) (by simp) (by simp; omega)
        have e3 : Q6 (P ++ (A1 ++ (V1 ++ [v] ++ (y :: V2 ++ S)))) ((P.length : Int) + i + (V1.length + 1)) v = some (P ++ (A1 ++ (V1 ++ [v] ++ (v :: V2 ++ S)))) := set_eq (P ++ (A1 ++ (V1 ++ [v]))) y v (V2 ++ S) (by simp) (by simp) (by simp; omega)
        have e4 : Jk (P ++ (A1 ++ (V1 ++ [v] ++ (v :: V2 ++ S)))) ((P.length : Int) + i + (V1.length + 1) - 1) = some v := at_eq (P ++ (A1 ++ V1)) v (v :: V2 ++ S) (by simp) (by simp; omega)
        have e5 : Q6 (P ++ (A1 ++ (V1 ++ [v] ++ (v :: V2 ++ S)))) ((P.length : Int) + i + (V1.length + 1) - 1) y = some (P ++ (A1 ++ (V1 ++ (y :: v :: V2 ++ S)))) := set_eq (P ++ (A1 ++ V1)) v y (v :: V2 ++ S) (by simp) (by simp) (by simp; omega)
        have g1 : gI ((P.length : Int) + i + (V1.length + 1) - 1) = some ((P.length : Int) + i + (V1.length + 1) - 1) := Qi (by omega)
        rw [Qd (by omega)]
        simp only [Jj, g1, Jb, e1, e2, e3, e4, e5])
      (m, P ++ (A ++ ([y] ++ S))) ⟨A.drop i, [], by simp, by simp only [List.length_drop]; omega, by simp only [List.singleton_append]; rw [← List.append_assoc (A.take i), List.take_append_drop]⟩
     obtain ⟨r, h3, rfl⟩ := key2
     exact h3)
  (a, m) ⟨0, A.length, by simp only; omega, by simp only; omega, by omega, by omega, fun k h h' => by omega, fun k h h' => by omega⟩
 obtain ⟨r, h1, U, V, hU, h2, h3, rfl⟩ := key1
 exact ⟨U, V, hU, h2, h3, h1⟩
end
end Go.StP

/- slices.SortStableFunc of models, third part: it sorts by key and tie where ties rise. Conditions: few elements. -/
namespace Go.StP
open Go.Md Go.Pl Go.M
set_option linter.unusedVariables false
section
variable {key tie : T → Int} {cmp : T → T → Option Int}
theorem take_drop_mem {α : Type} {l : List α} {k : Nat} {x : α} (h : x ∈ l.drop k) : ∃ (i : Nat) (hi : i < l.length), k ≤ i ∧ l[i] = x := by
 obtain ⟨j, hj, rfl⟩ := List.getElem_of_mem h
 simp only [List.length_drop] at hj
 exact ⟨k + j, by omega, by omega, by rw [List.getElem_drop]⟩
theorem take_mem {α : Type} {l : List α} {k : Nat} {x : α} (h : x ∈ l.take k) : ∃ (i : Nat) (hi : i < l.length), i < k ∧ l[i] = x := by
 obtain ⟨j, hj, rfl⟩ := List.getElem_of_mem h
 simp only [List.length_take] at hj
 exact ⟨j, by omega, by omega, by rw [List.getElem_take]⟩
noncomputable abbrev smF (cmp : T → T → Option Int) := fun (self : ((List T) × Int × Int × Int × (T → T → Option (Int))) → Option ((List T))) (s : (List T) × Int × Int × Int × (T → T → Option (Int))) => Ql self s.1 s.2.1 s.2.2.1 s.2.2.2.1 s.2.2.2.2
def cutL (key : T → Int) (A B : List T) (mid i : Nat) : Prop := ∃ (h1 : i - 1 < A.length) (h2 : mid - i < B.length), key A[i - 1] ≤ key B[mid - i]
def cutR (key : T → Int) (A B : List T) (mid j : Nat) : Prop := ∃ (h1 : j < A.length) (h2 : mid - 1 - j < B.length), key B[mid - 1 - j] < key A[j]
theorem cut_at (hc : Cf key cmp) (P A B S : List T) (hA : A.Pairwise (lt3 key tie)) (hB : B.Pairwise (lt3 key tie)) (hA1 : 0 < A.length) (hB1 : 0 < B.length) {a m b p : Int} (mid s0 r0 : Nat) (hmid : 2 * mid ≤ A.length + B.length ∧ A.length + B.length ≤ 2 * mid + 1)
  (hs0 : s0 = mid - B.length) (hr0 : r0 = min mid A.length) (ha : a = P.length) (hm : m = P.length + A.length) (hp : p = P.length + mid + m - 1) (hN : (P ++ (A ++ (B ++ S))).length ≤ 1000000000) (t133 t137 : Int) :
  ∃ c : Nat, (s0 ≤ c ∧ c ≤ r0 ∧ (∀ x ∈ A.take c, ∀ y ∈ B.drop (mid - c), key x ≤ key y) ∧ (∀ y ∈ B.take (mid - c), ∀ x ∈ A.drop c, key y < key x)) ∧
   ∀ self, Zx (fun next7 s => Xq (P ++ (A ++ (B ++ S))) a m b cmp self t133 t137 p next7 s.1 s.2) ((P.length : Int) + s0, (P.length : Int) + r0)
    = Xo (P ++ (A ++ (B ++ S))) a m b cmp self t133 t137 ((P.length : Int) + c) := by
 simp only [List.length_append] at hN
 have sA := List.pairwise_iff_getElem.1 hA
 have sB := List.pairwise_iff_getElem.1 hB
 have key1 := fix_runP (F := fun self next7 s => Xq (P ++ (A ++ (B ++ S))) a m b cmp self t133 t137 p next7 s.1 s.2) (fun self c => Xo (P ++ (A ++ (B ++ S))) a m b cmp self t133 t137 c)
  (fun s : Int × Int => ∃ i j : Nat, s.1 = P.length + i ∧ s.2 = P.length + j ∧ s0 ≤ i ∧ i ≤ j ∧ j ≤ r0 ∧ (s0 < i → cutL key A B mid i) ∧ (j < r0 → cutR key A B mid j))
  (fun s => (s.2 - s.1).toNat) (fun q => ∃ c : Nat, q = (P.length : Int) + c ∧ s0 ≤ c ∧ c ≤ r0 ∧ (s0 < c → cutL key A B mid c) ∧ (c < r0 → cutR key A B mid c))
  (by
   rintro ⟨_, _⟩ ⟨i, j, rfl, rfl, h1, h2, h3, h4, h5⟩
   simp only [Xq]
   by_cases hlt : i < j
   ·have hb1 : (i + j) / 2 < A.length := by omega
    have hb2 : mid - 1 - (i + j) / 2 < B.length := by omega
    obtain ⟨f1, f2⟩ := half (x := (P.length : Int) + i + (P.length + j)) (by omega)
    have hh : ((P.length : Int) + i + (P.length + j)) / 2 = P.length + ((i + j) / 2 : Nat) := by omega
    rw [hh] at f1 f2
    have k1 : Jk (P ++ (A ++ (B ++ S))) (p - ((P.length : Int) + ((i + j) / 2 : Nat))) = some B[mid - 1 - (i + j) / 2] := at_mid2 P A B S _ hb2 (by omega)
    have k2 : Jk (P ++ (A ++ (B ++ S))) ((P.length : Int) + ((i + j) / 2 : Nat)) = some A[(i + j) / 2] := at_mid P A _ _ hb1 rfl
    obtain ⟨v, hv, hv2⟩ := hc B[mid - 1 - (i + j) / 2] A[(i + j) / 2]
    have g1 : gI ((P.length : Int) + i + (P.length + j)) = some ((P.length : Int) + i + (P.length + j)) := Qi (by omega)
    have g2 : gI ((P.length : Int) + ((i + j) / 2 : Nat) + 1) = some ((P.length : Int) + ((i + j) / 2 : Nat) + 1) := Qi (by omega)
    have g3 : gI (p - ((P.length : Int) + ((i + j) / 2 : Nat))) = some (p - ((P.length : Int) + ((i + j) / 2 : Nat))) := Qi (by omega)
    by_cases hk2 : key B[mid - 1 - (i + j) / 2] < key A[(i + j) / 2]
    ·refine .inr ⟨((P.length : Int) + i, (P.length : Int) + ((i + j) / 2 : Nat)), ⟨i, (i + j) / 2, rfl, rfl, h1, by omega, by omega, h4, fun _ => ⟨hb1, hb2, hk2⟩⟩, by simp only; omega, fun self next => ?_⟩
     rw [Qd (by omega)]
     simp only [Jj, g1, Jb, f1, f2, g3, k1, k2, hv, Qd (hv2.2 hk2), Bool.not_true, Ji]
    ·refine .inr ⟨((P.length : Int) + ((i + j) / 2 : Nat) + 1, (P.length : Int) + j), ⟨(i + j) / 2 + 1, j, by simp only; omega, rfl, by omega, by omega, h3, fun _ => ⟨hb1, by omega, ?_⟩, h5⟩, by simp only; omega, fun self next => ?_⟩
     ·have e : mid - ((i + j) / 2 + 1) = mid - 1 - (i + j) / 2 := by omega
      simp only [Nat.add_sub_cancel, e]; omega
     ·rw [Qd (by omega)]
      simp only [Jj, g1, Jb, f1, f2, g3, k1, k2, hv, Qh (fun h => hk2 (hv2.1 h)), Bool.not_false, g2]
   ·have : i = j := by omega
    subst this
    exact .inl ⟨(P.length : Int) + i, ⟨i, rfl, h1, h3, h4, h5⟩, fun self next => by rw [Qh (by omega)]; rfl⟩)
  ((P.length : Int) + s0, (P.length : Int) + r0) ⟨s0, r0, rfl, rfl, Nat.le_refl _, by omega, Nat.le_refl _, fun h => by omega, fun h => by omega⟩
 obtain ⟨_, ⟨c, rfl, h1, h2, h3, h4⟩, h5⟩ := key1
 refine ⟨c, ⟨h1, h2, fun x hx y hy => ?_, fun y hy x hx => ?_⟩, h5⟩
 ·obtain ⟨i, hi, hi2, rfl⟩ := take_mem hx
  obtain ⟨j, hj, hj2, rfl⟩ := take_drop_mem hy
  obtain ⟨q1, q2, q3⟩ := h3 (by omega)
  have u1 : key A[i] ≤ key A[c - 1] := by
   rcases Nat.lt_or_ge i (c - 1) with h | h
   ·exact (sA i (c - 1) hi q1 h).le
   ·have : i = c - 1 := by omega
    subst this; exact Int.le_refl _
  have u2 : key B[mid - c] ≤ key B[j] := by
   rcases Nat.lt_or_ge (mid - c) j with h | h
   ·exact (sB (mid - c) j q2 hj h).le
   ·have : j = mid - c := by omega
    subst this; exact Int.le_refl _
  omega
 ·obtain ⟨i, hi, hi2, rfl⟩ := take_drop_mem hx
  obtain ⟨j, hj, hj2, rfl⟩ := take_mem hy
  obtain ⟨q1, q2, q3⟩ := h4 (by omega)
  have u1 : key A[c] ≤ key A[i] := by
   rcases Nat.lt_or_ge c i with h | h
   ·exact (sA c i q1 hi h).le
   ·have : i = c := by omega
    subst this; exact Int.le_refl _
  have u2 : key B[j] ≤ key B[mid - 1 - c] := by
   rcases Nat.lt_or_ge j (mid - 1 - c) with h | h
   ·exact (sB j (mid - 1 - c) hj q2 h).le
   ·have : j = mid - 1 - c := by omega
    subst this; exact Int.le_refl _
  omega
set_option maxHeartbeats 4000000 in
theorem symMerge_ok (hc : Cf key cmp) : ∀ (n : Nat) (P A B S : List T), A.length + B.length ≤ n → 0 < A.length → 0 < B.length → A.Pairwise (lt3 key tie) → B.Pairwise (lt3 key tie) → (∀ x ∈ A, ∀ y ∈ B, stb key tie x y) → (P ++ (A ++ (B ++ S))).length ≤ 1000000000 →
  ∀ {a m b : Int}, a = P.length → m = P.length + A.length → b = P.length + A.length + B.length →
  ∃ R, Zx (smF cmp) (P ++ (A ++ (B ++ S)), a, m, b, cmp) = some (P ++ (R ++ S)) ∧ R.Perm (A ++ B) ∧ R.Pairwise (lt3 key tie) := by
 intro n
 induction n with
 | zero => intro P A B S h h1; omega
 | succ n ih =>
 intro P A B S hn hA1 hB1 hA hB hAB hN a m b ha hm hb
 have hN2 := hN
 simp only [List.length_append] at hN2
 by_cases hx : A.length = 1
 ·obtain ⟨x, rfl⟩ := List.length_eq_one_iff.1 hx
  simp only [List.length_singleton] at hm hb
  obtain ⟨U, V, rfl, h1, h2, h3⟩ := one_in hc P x B S hB ha (m := m) (b := b) (by omega) (by omega) hN
  refine ⟨U ++ [x] ++ V, Q8 fun self => ?_, ?_, ?_⟩
  ·simp only [Ql]
   rw [Qi (by omega), Jb, Qd (by omega), Jj]
   exact h3
  ·rw [List.append_assoc]; exact List.perm_middle
  ·have hU := List.pairwise_append.1 hB
   rw [List.append_assoc]
   refine List.pairwise_append.2 ⟨hU.1, List.pairwise_cons.2 ⟨fun v hv => lt3_of (h2 v hv) (hAB x (by simp) v (List.mem_append_right _ hv)), hU.2.1⟩, fun u hu z hz => ?_⟩
   rcases List.mem_cons.1 hz with rfl | hz
   ·exact lt3_lt (h1 u hu)
   ·exact hU.2.2 u hu z hz
 by_cases hy : B.length = 1
 ·obtain ⟨y, rfl⟩ := List.length_eq_one_iff.1 hy
  simp only [List.length_singleton] at hb
  obtain ⟨U, V, rfl, h1, h2, h3⟩ := one_out hc P A y S hA ha (m := m) hm hN
  refine ⟨U ++ [y] ++ V, Q8 fun self => ?_, ?_, ?_⟩
  ·simp only [Ql, Yu]
   rw [Qi (by omega), Jb, Qh (by omega), Ji, Qi (by omega), Jb, Qd (by omega), Jj]
   exact h3
  ·rw [List.append_assoc, List.append_assoc]; exact List.Perm.append_left U (List.perm_append_singleton y V).symm
  ·have hU := List.pairwise_append.1 hA
   rw [List.append_assoc]
   refine List.pairwise_append.2 ⟨hU.1, List.pairwise_cons.2 ⟨fun v hv => lt3_lt (h2 v hv), hU.2.1⟩, fun u hu z hz => ?_⟩
   rcases List.mem_cons.1 hz with rfl | hz
   ·exact lt3_of (h1 u hu) (hAB u (by simp [hu]) _ (by simp))
   ·exact hU.2.2 u hu z hz
 obtain ⟨mid, hmid⟩ : ∃ mid : Nat, mid = (A.length + B.length) / 2 := ⟨_, rfl⟩
 obtain ⟨c, ⟨c1, c2, c3, c4⟩, c5⟩ := cut_at hc P A B S hA hB hA1 hB1 (a := a) (m := m) (b := b) (p := P.length + ((A.length + B.length) / 2 : Nat) + m - 1) mid (mid - B.length) (min mid A.length) (by omega) rfl rfl ha hm (by rw [hmid]) hN ((P.length : Int) + mid + (P.length : Int) - P.length) ((P.length : Int) + mid + m)
 have eA := List.take_append_drop c A
 have eB := List.take_append_drop (mid - c) B
 generalize hA1' : A.take c = A1 at *
 generalize hA2' : A.drop c = A2 at *
 generalize hB1' : B.take (mid - c) = B1 at *
 generalize hB2' : B.drop (mid - c) = B2 at *
 have lA1 : A1.length = c := by rw [← hA1', List.length_take]; omega
 have d1 : mid ≤ c + B.length := by clear ih; omega
 have d2 : c ≤ mid := by clear ih; omega
 have d3 : c ≤ A.length := by clear ih; omega
 have d4 : 2 * mid ≤ A.length + B.length := by clear ih; omega
 have d5 : A.length + B.length ≤ 2 * mid + 1 := by clear ih; omega
 have d6 : 2 ≤ A.length := by clear ih; omega
 have d7 : 2 ≤ B.length := by clear ih; omega
 have lA2 : A2.length + c = A.length := by rw [← hA2', List.length_drop]; clear ih; omega
 have lB1 : B1.length + c = mid := by rw [← hB1', List.length_take]; clear ih; omega
 have lB2 : B2.length + mid = B.length + c := by rw [← hB2', List.length_drop]; clear ih; omega
 have d8 : mid < A.length → ((mid - B.length : Nat) : Int) = mid - B.length := by clear ih; omega
 have d9 : A.length ≤ mid → ((mid - B.length : Nat) : Int) = 0 := by clear ih; omega
 have d10 : mid < A.length → ((min mid A.length : Nat) : Int) = mid := by clear ih; omega
 have d11 : A.length ≤ mid → ((min mid A.length : Nat) : Int) = A.length := by clear ih; omega
 have d12 : (((A.length + B.length) / 2 : Nat) : Int) = mid := by rw [hmid]
 clear c1 c2 hmid hx hy hA1 hB1
 have pA := List.pairwise_append.1 (eA.symm ▸ hA)
 have pB := List.pairwise_append.1 (eB.symm ▸ hB)
 have q1 : ∃ R1, ((a < (P.length : Int) + c ∧ (P.length : Int) + c < P.length + mid) → Zx (smF cmp) (P ++ (A1 ++ (B1 ++ (A2 ++ (B2 ++ S)))), a, (P.length : Int) + c, (P.length : Int) + mid, cmp) = some (P ++ (R1 ++ (A2 ++ (B2 ++ S))))) ∧ (¬ (a < (P.length : Int) + c ∧ (P.length : Int) + c < P.length + mid) → R1 = A1 ++ B1) ∧ R1.Perm (A1 ++ B1) ∧ R1.Pairwise (lt3 key tie) := by
  by_cases h : a < (P.length : Int) + c ∧ (P.length : Int) + c < P.length + mid
  ·obtain ⟨R1, g1, g2, g3⟩ := ih P A1 B1 (A2 ++ (B2 ++ S)) (by omega) (by omega) (by omega) pA.1 pB.1 (fun x hx y hy => hAB x (eA ▸ List.mem_append_left _ hx) y (eB ▸ List.mem_append_left _ hy)) (by simp only [List.length_append]; omega) (a := a) (m := (P.length : Int) + c) (b := (P.length : Int) + mid) ha (by omega) (by omega)
   exact ⟨R1, fun _ => g1, fun h' => absurd h h', g2, g3⟩
  ·refine ⟨A1 ++ B1, fun h' => absurd h' h, fun _ => rfl, List.Perm.refl _, ?_⟩
   rcases Nat.eq_zero_or_pos c with h0 | h0
   ·have : A1 = [] := List.length_eq_zero_iff.1 (by omega)
    subst this; exact pB.1
   ·have : B1 = [] := List.length_eq_zero_iff.1 (by omega)
    subst this; rw [List.append_nil]; exact pA.1
 obtain ⟨R1, a1, a2, a3, a4⟩ := q1
 have lR1 := a3.length_eq
 simp only [List.length_append] at lR1
 have q2 : ∃ R2, (((P.length : Int) + mid < P.length + mid + m - (P.length + c) ∧ (P.length : Int) + mid + m - (P.length + c) < b) → Zx (smF cmp) (P ++ (R1 ++ (A2 ++ (B2 ++ S))), (P.length : Int) + mid, (P.length : Int) + mid + m - (P.length + c), b, cmp) = some (P ++ (R1 ++ (R2 ++ S)))) ∧ (¬ ((P.length : Int) + mid < P.length + mid + m - (P.length + c) ∧ (P.length : Int) + mid + m - (P.length + c) < b) → R2 = A2 ++ B2) ∧ R2.Perm (A2 ++ B2) ∧ R2.Pairwise (lt3 key tie) := by
  by_cases h : (P.length : Int) + mid < P.length + mid + m - (P.length + c) ∧ (P.length : Int) + mid + m - (P.length + c) < b
  ·obtain ⟨R2, g1, g2, g3⟩ := ih (P ++ R1) A2 B2 S (by omega) (by omega) (by omega) pA.2.1 pB.2.1 (fun x hx y hy => hAB x (eA ▸ List.mem_append_right _ hx) y (eB ▸ List.mem_append_right _ hy)) (by simp only [List.length_append]; omega) (a := (P.length : Int) + mid) (m := (P.length : Int) + mid + m - (P.length + c)) (b := b) (by simp only [List.length_append]; omega) (by simp only [List.length_append]; omega) (by simp only [List.length_append]; omega)
   rw [List.append_assoc, List.append_assoc] at g1
   exact ⟨R2, fun _ => g1, fun h' => absurd h h', g2, g3⟩
  ·refine ⟨A2 ++ B2, fun h' => absurd h' h, fun _ => rfl, List.Perm.refl _, ?_⟩
   rcases Nat.eq_zero_or_pos A2.length with h0 | h0
   ·have : A2 = [] := List.length_eq_zero_iff.1 h0
    subst this; exact pB.2.1
   ·have : B2 = [] := List.length_eq_zero_iff.1 (by omega)
    subst this; rw [List.append_nil]; exact pA.2.1
 obtain ⟨R2, b1, b2, b3, b4⟩ := q2
 refine ⟨R1 ++ R2, ?_, ?_, ?_⟩
 ·refine fix_two a1 b1 fun self k1 k2 => ?_
  simp only [Ql, Yu]
  rw [Qi (by omega), Jb, Qh (by omega), Ji, Qi (by omega), Jb, Qh (by omega), Ji]
  simp only [Z4]
  obtain ⟨f1, f2⟩ := half (x := a + b) (by omega)
  have hh : (a + b) / 2 = P.length + mid := by omega
  rw [hh] at f1 f2
  have g1 : gI (a + b) = some (a + b) := Qi (by omega)
  have g2 : gI ((P.length : Int) + mid + m) = some ((P.length : Int) + mid + m) := Qi (by omega)
  have g3 : gI ((P.length : Int) + mid + m - b) = some ((P.length : Int) + mid + m - b) := Qi (by omega)
  have g4 : gI ((P.length : Int) + mid + m - 1) = some ((P.length : Int) + mid + m - 1) := Qi (by omega)
  have g5 : gI ((P.length : Int) + mid + m - (P.length + c)) = some ((P.length : Int) + mid + m - (P.length + c)) := Qi (by omega)
  have c6 := c5 self
  rw [show (P.length : Int) + mid + (P.length : Int) - P.length = P.length + mid by omega, d12] at c6
  have Yz : Xo (P ++ (A ++ (B ++ S))) a m b cmp self ((P.length : Int) + mid) ((P.length : Int) + mid + m) ((P.length : Int) + c) = some (P ++ (R1 ++ R2 ++ S)) := by
   have r6 : Xr b cmp self ((P.length : Int) + mid) ((P.length : Int) + mid + m - (P.length + c)) (P ++ (R1 ++ (A2 ++ (B2 ++ S)))) = some (P ++ (R1 ++ R2 ++ S)) := by
    simp only [Xr, f2]
    by_cases h1 : (P.length : Int) + mid < P.length + mid + m - (P.length + c)
    ·by_cases h2 : (P.length : Int) + mid + m - (P.length + c) < b
     ·rw [Qd h1, Qd h2]
      simp only [Jj]
      rw [k2 ⟨h1, h2⟩, Jb, List.append_assoc]
     ·rw [Qd h1, Qh h2]
      simp only [Jj, Ji]
      rw [b2 fun h => h2 h.2]; simp
    ·rw [Qh h1]
     simp only [Ji]
     rw [b2 fun h => h1 h.1]; simp
   have r5 : Xp a b cmp self ((P.length : Int) + mid) ((P.length : Int) + c) ((P.length : Int) + mid + m - (P.length + c)) (P ++ (A1 ++ (B1 ++ (A2 ++ (B2 ++ S))))) = some (P ++ (R1 ++ R2 ++ S)) := by
    simp only [Xp, f2]
    by_cases h1 : a < (P.length : Int) + c
    ·by_cases h2 : (P.length : Int) + c < P.length + mid
     ·rw [Qd h1, Qd h2]
      simp only [Jj]
      rw [k1 ⟨h1, h2⟩, Jb]; exact r6
     ·rw [Qd h1, Qh h2]
      simp only [Jj, Ji]
      rw [a2 fun h => h2 h.2] at r6 ⊢; simpa using r6
    ·rw [Qh h1]
     simp only [Ji]
     rw [a2 fun h => h1 h.1] at r6 ⊢; simpa using r6
   simp only [Xo]
   rw [g5, Jb]
   have same : P ++ (A ++ (B ++ S)) = (P ++ A1) ++ (A2 ++ (B1 ++ (B2 ++ S))) := by rw [← eA, ← eB]; simp
   by_cases h1 : (P.length : Int) + c < m
   ·by_cases h2 : m < (P.length : Int) + mid + m - (P.length + c)
    ·rw [Qd h1, Qd h2]
     simp only [Jj]
     rw [same, rotate_ok (P ++ A1) A2 B1 (B2 ++ S) (by simp only [List.length_append]; omega) (by simp only [List.length_append]; omega) (by simp only [List.length_append]; omega) (by omega) (by omega) (by simp only [List.length_append]; omega), Jb, List.append_assoc]
     exact r5
    ·have hz : B1 = [] := List.length_eq_zero_iff.1 (by omega)
     rw [Qd h1, Qh h2]
     simp only [Jj, Ji]
     rw [same, hz]; rw [hz] at r5; simpa using r5
   ·have hz : A2 = [] := List.length_eq_zero_iff.1 (by omega)
    rw [Qh h1]
    simp only [Ji]
    rw [same, hz]; rw [hz] at r5; simpa using r5
  simp only [g1, Jb, f1, f2, g2, Yt]
  by_cases h : (P.length : Int) + mid < m
  ·rw [Qd h, Jj, g3, Jb, g4, Jb]
   rw [d8 (by omega), d10 (by omega), show (P.length : Int) + (mid - B.length) = P.length + mid + m - b by omega] at c6
   rw [c6]; exact Yz
  ·rw [Qh h, Ji, g4, Jb]
   rw [d9 (by omega), d11 (by omega), show (P.length : Int) + 0 = a by omega, ← hm] at c6
   rw [c6]; exact Yz
 ·refine (a3.append b3).trans ?_
  rw [← eA, ← eB, List.append_assoc, List.append_assoc]
  refine List.Perm.append_left A1 ?_
  rw [← List.append_assoc, ← List.append_assoc]
  exact List.Perm.append_right B2 List.perm_append_comm
 ·refine List.pairwise_append.2 ⟨a4, b4, fun x hx y hy => ?_⟩
  rcases List.mem_append.1 (a3.mem_iff.1 hx) with h1 | h1 <;> rcases List.mem_append.1 (b3.mem_iff.1 hy) with h2 | h2
  ·exact pA.2.2 x h1 y h2
  ·exact lt3_of (c3 x h1 y h2) (hAB x (eA ▸ List.mem_append_left _ h1) y (eB ▸ List.mem_append_right _ h2))
  ·exact lt3_lt (c4 x h1 y h2)
  ·exact pB.2.2 x h1 y h2
end
end Go.StP

/- slices.SortStableFunc of models, last part: blocks, and the whole. Conditions: few elements. -/
namespace Go.StP
open Go.Md Go.Pl Go.M
set_option linter.unusedVariables false
section
variable {key tie : T → Int} {cmp : T → T → Option Int}
theorem merge_ok (hc : Cf key cmp) (P A B S : List T) (hA1 : 0 < A.length) (hB1 : 0 < B.length) (hA : A.Pairwise (lt3 key tie)) (hB : B.Pairwise (lt3 key tie)) (hs : (P ++ (A ++ (B ++ S))).Pairwise (stb key tie)) (hN : (P ++ (A ++ (B ++ S))).length ≤ 1000000000)
  {a m b : Int} (ha : a = P.length) (hm : m = P.length + A.length) (hb : b = P.length + A.length + B.length) :
  ∃ R, Zf (P ++ (A ++ (B ++ S))) a m b cmp = some (P ++ (R ++ S)) ∧ R.Perm (A ++ B) ∧ R.Pairwise (lt3 key tie) :=
 symMerge_ok hc _ P A B S (Nat.le_refl _) hA1 hB1 hA hB (fun x hx y hy => (List.pairwise_append.1 (List.pairwise_append.1 hs).2.1).2.2 x hx y (List.mem_append_left _ hy)) hN ha hm hb
theorem stb_repl {P A S R : List T} (h : (P ++ (A ++ S)).Pairwise (stb key tie)) (hp : R.Perm A) (hR : R.Pairwise (lt3 key tie)) : (P ++ (R ++ S)).Pairwise (stb key tie) := by
 have h1 := List.pairwise_append.1 h
 have h2 := List.pairwise_append.1 h1.2.1
 refine List.pairwise_append.2 ⟨h1.1, List.pairwise_append.2 ⟨hR.imp fun h => h.stb, h2.2.1, fun x hx y hy => h2.2.2 x (hp.mem_iff.1 hx) y hy⟩, fun x hx y hy => ?_⟩
 rcases List.mem_append.1 hy with hy | hy
 ·exact h1.2.2 x hx y (List.mem_append_left _ (hp.mem_iff.1 hy))
 ·exact h1.2.2 x hx y (List.mem_append_right _ hy)
theorem perm_repl {P A S R L : List T} (h : (P ++ (A ++ S)).Perm L) (hp : R.Perm A) : (P ++ (R ++ S)).Perm L := (List.Perm.append_left P (hp.append_right S)).trans h
inductive Full (r : T → T → Prop) (bs : Nat) : List T → Prop where
 | nil : Full r bs []
 | snoc (l c : List T) : Full r bs l → c.length = bs → c.Pairwise r → Full r bs (l ++ c)
inductive Ch (r : T → T → Prop) (bs : Nat) : List T → Prop where
 | last (l : List T) : l.length ≤ bs → l.Pairwise r → Ch r bs l
 | cons (c l : List T) : c.length = bs → c.Pairwise r → Ch r bs l → Ch r bs (c ++ l)
theorem Full.ch {r : T → T → Prop} {bs : Nat} {l : List T} (h : Full r bs l) : ∀ {l' : List T}, Ch r bs l' → Ch r bs (l ++ l') := by
 induction h with
 | nil => intro l' h; exact h
 | snoc l c _ hc hr ih => intro l' h; rw [List.append_assoc]; exact ih (.cons c l' hc hr h)
theorem Ch.first {r : T → T → Prop} {bs : Nat} {l : List T} (h : Ch r bs l) (hl : bs < l.length) : ∃ c l', l = c ++ l' ∧ c.length = bs ∧ c.Pairwise r ∧ Ch r bs l' := by
 cases h with
 | last _ h => omega
 | cons c l' h1 h2 h3 => exact ⟨c, l', rfl, h1, h2, h3⟩
theorem Ch.short {r : T → T → Prop} {bs : Nat} (hb : 0 < bs) {l : List T} (h : Ch r bs l) (hl : l.length ≤ bs) : l.Pairwise r := by
 cases h with
 | last _ _ h => exact h
 | cons c l' h1 h2 h3 =>
  have : l' = [] := List.length_eq_zero_iff.1 (by simp at hl; omega)
  subst this; simpa using h2
theorem stable_ok (hc : Cf key cmp) (l0 : List T) (hs : l0.Pairwise (stb key tie)) (hN : l0.length ≤ 100000000) :
  ∃ r, Ys l0 cmp = some r ∧ r.Perm l0 ∧ r.Pairwise (lt3 key tie) := by
 have blocks : ∀ (l : List T), Ch (lt3 key tie) 20 l → l.Perm l0 → l.Pairwise (stb key tie) →
   ∃ r, Zx (fun next2 s => Xu (l0.length : Int) cmp next2 s.1 s.2) (20, l) = some r ∧ r.Perm l0 ∧ r.Pairwise (lt3 key tie) := fun l hl hp hst => by
  refine Jaj (F := fun next2 s => Xu (l0.length : Int) cmp next2 s.1 s.2)
   (fun s : Int × List T => ∃ bs : Nat, s.1 = bs ∧ 0 < bs ∧ (bs ≤ 20 ∨ bs < 2 * l0.length) ∧ Ch (lt3 key tie) bs s.2 ∧ s.2.Perm l0 ∧ s.2.Pairwise (stb key tie))
   (fun s => ((l0.length : Int) - s.1).toNat) _ ?_ (20, l) ⟨20, rfl, by omega, by omega, hl, hp, hst⟩
  rintro ⟨_, l⟩ ⟨bs, rfl, hb0, hb1, hch, hp, hst⟩
  simp only at hch hp hst
  have hlen := hp.length_eq
  simp only [Xu]
  by_cases hlt : bs < l0.length
  ·have key1 := fix_runP (F := fun next2 next5 s => Yf (l0.length : Int) cmp (bs : Int) next2 next5 s.1 s.2.1 s.2.2) (fun next2 r => Yc (bs : Int) next2 r)
    (fun s : Int × Int × List T => ∃ L1 L2, s.1 = (L1.length : Int) ∧ s.2.1 = (L1.length : Int) + 2 * bs ∧ s.2.2 = L1 ++ L2 ∧ Full (lt3 key tie) (2 * bs) L1 ∧ Ch (lt3 key tie) bs L2 ∧ (L1 ++ L2).Perm l0 ∧ (L1 ++ L2).Pairwise (stb key tie))
    (fun s => ((l0.length : Int) - s.1).toNat) (fun r => Ch (lt3 key tie) (2 * bs) r ∧ r.Perm l0 ∧ r.Pairwise (stb key tie))
    (by
     rintro ⟨_, _, _⟩ ⟨L1, L2, rfl, rfl, rfl, hf, hc2, hp2, hs2⟩
     have hl2 := hp2.length_eq
     simp only [List.length_append] at hl2
     simp only [Yf]
     have g1 : gI ((L1.length : Int) + bs) = some ((L1.length : Int) + bs) := Qi (by omega)
     by_cases hfull : 2 * bs ≤ L2.length
     ·obtain ⟨A, r, rfl, hA1, hA2, hr⟩ := hc2.first (by omega)
      have hAr : ∃ B S, r = B ++ S ∧ B.length = bs ∧ B.Pairwise (lt3 key tie) ∧ Ch (lt3 key tie) bs S := by
       simp only [List.length_append] at hfull
       rcases Nat.lt_or_ge bs r.length with h | h
       ·exact hr.first h
       ·exact ⟨r, [], by simp, by omega, hr.short hb0 h, .last [] (by simp) List.Pairwise.nil⟩
      obtain ⟨B, S, rfl, hB1, hB2, hS⟩ := hAr
      simp only [List.length_append] at hl2 hfull
      obtain ⟨R, e1, e2, e3⟩ := merge_ok hc L1 A B S (by omega) (by omega) hA2 hB2 hs2 (by simp only [List.length_append]; omega) (a := L1.length) (m := (L1.length : Int) + bs) (b := (L1.length : Int) + 2 * bs) rfl (by omega) (by omega)
      have hR := e2.length_eq
      simp only [List.length_append] at hR
      have as : L1 ++ (A ++ (B ++ S)) = L1 ++ ((A ++ B) ++ S) := by simp
      refine .inr ⟨((L1.length : Int) + 2 * bs, (L1.length : Int) + 2 * bs + 2 * bs, (L1 ++ R) ++ S), ⟨L1 ++ R, S, by simp only [List.length_append]; omega, by simp only [List.length_append]; omega, rfl, .snoc L1 R hf (by omega) e3, hS, ?_, ?_⟩, by simp only; omega, fun next2 next5 => ?_⟩
      ·rw [List.append_assoc]; exact perm_repl (as ▸ hp2) e2
      ·rw [List.append_assoc]; exact stb_repl (as ▸ hs2) e2 e3
      ·rw [Qd (by omega), Jj, g1, Jb, e1, Jb, Qi (by omega), Jb, Qi (by omega), Jb, List.append_assoc]
     ·by_cases hone : bs < L2.length
      ·obtain ⟨A, B, rfl, hA1, hA2, hr⟩ := hc2.first hone
       simp only [List.length_append] at hl2 hfull hone
       obtain ⟨R, e1, e2, e3⟩ := merge_ok hc L1 A B [] (by omega) (by omega) hA2 (hr.short hb0 (by omega)) (by simpa using hs2) (by simp only [List.length_append, List.length_nil]; omega) (a := L1.length) (m := (L1.length : Int) + bs) (b := (l0.length : Int)) rfl (by omega) (by omega)
       have hR := e2.length_eq
       simp only [List.length_append] at hR
       simp only [List.append_nil] at e1
       refine .inl ⟨L1 ++ R, ⟨hf.ch (.last R (by omega) e3), ?_, ?_⟩, fun next2 next5 => ?_⟩
       ·have := perm_repl (P := L1) (A := A ++ B) (S := []) (by simpa using hp2) e2; simpa using this
       ·have := stb_repl (P := L1) (A := A ++ B) (S := []) (by simpa using hs2) e2 e3; simpa using this
       ·rw [Qh (by omega), Ji]
        simp only [Y6]
        rw [g1, Jb, Qd (by omega), Jj, e1, Jb]
      ·refine .inl ⟨L1 ++ L2, ⟨hf.ch (.last L2 (by omega) (hc2.short hb0 (by omega))), hp2, hs2⟩, fun next2 next5 => ?_⟩
       rw [Qh (by omega), Ji]
       simp only [Y6]
       rw [g1, Jb, Qh (by omega), Ji])
    (0, 2 * (bs : Int), l) ⟨[], l, rfl, by simp only [List.length_nil]; omega, rfl, .nil, hch, hp, hst⟩
   obtain ⟨r, ⟨h1, h2, h3⟩, h4⟩ := key1
   refine .inr ⟨((bs : Int) * 2, r), ⟨2 * bs, by simp only; omega, by omega, by omega, h1, h2, h3⟩, by simp only; omega, fun next => ?_⟩
   rw [Qd (by omega), Jj, Qi (by omega), Jb, h4 next]
   simp only [Yc]
   rw [Qi (by omega), Jb]
  ·exact .inl ⟨l, ⟨hp, hch.short hb0 (by omega)⟩, fun next => by rw [Qh (by omega)]; rfl⟩
 have key2 := Jaj (F := fun next6 s => Yi (l0.length : Int) cmp next6 s.1 s.2.1 s.2.2)
  (fun s : Int × Int × List T => ∃ L1 L2, s.1 = (L1.length : Int) ∧ s.2.1 = (L1.length : Int) + 20 ∧ s.2.2 = L1 ++ L2 ∧ Full (lt3 key tie) 20 L1 ∧ (L1 ++ L2).Perm l0 ∧ (L1 ++ L2).Pairwise (stb key tie))
  (fun s => ((l0.length : Int) - s.1).toNat) (fun r => r.Perm l0 ∧ r.Pairwise (lt3 key tie))
  (by
   rintro ⟨_, _, _⟩ ⟨L1, L2, rfl, rfl, rfl, hf, hp2, hs2⟩
   have hl2 := hp2.length_eq
   simp only [List.length_append] at hl2
   simp only [Yi]
   by_cases hfull : 20 ≤ L2.length
   ·have as : L1 ++ L2 = L1 ++ (L2.take 20 ++ L2.drop 20) := by rw [List.take_append_drop]
    have hst := (List.pairwise_append.1 (List.pairwise_append.1 (as ▸ hs2)).2.1).1
    obtain ⟨R, e1, e2, e3⟩ := insertion_ok hc L1 (L2.take 20) (L2.drop 20) hst (a := L1.length) (b := (L1.length : Int) + 20) rfl (by simp; omega) (by rw [← as]; simp only [List.length_append]; omega)
    have hR := e2.length_eq
    simp only [List.length_take] at hR
    refine .inr ⟨((L1.length : Int) + 20, (L1.length : Int) + 20 + 20, (L1 ++ R) ++ L2.drop 20), ⟨L1 ++ R, L2.drop 20, by simp only [List.length_append]; omega, by simp only [List.length_append]; omega, rfl, .snoc L1 R hf (by omega) e3, ?_, ?_⟩, by simp only; omega, fun next => ?_⟩
    ·rw [List.append_assoc]; exact perm_repl (as ▸ hp2) e2
    ·rw [List.append_assoc]; exact stb_repl (as ▸ hs2) e2 e3
    ·rw [Qd (by omega), Jj, as, e1, Jb, Qi (by omega), Jb, List.append_assoc]
   ·have as : L1 ++ L2 = L1 ++ (L2 ++ []) := by simp
    obtain ⟨R, e1, e2, e3⟩ := insertion_ok hc L1 L2 [] (List.pairwise_append.1 hs2).2.1 (a := L1.length) (b := (l0.length : Int)) rfl (by omega) (by rw [← as]; simp only [List.length_append]; omega)
    have hR := e2.length_eq
    simp only [List.append_nil] at e1
    obtain ⟨r, h1, h2, h3⟩ := blocks (L1 ++ R) (hf.ch (.last R (by omega) e3)) (by have := perm_repl (P := L1) (A := L2) (S := []) (by simpa using hp2) e2; simpa using this) (by have := stb_repl (P := L1) (A := L2) (S := []) (by simpa using hs2) e2 e3; simpa using this)
    refine .inl ⟨r, ⟨h2, h3⟩, fun next => ?_⟩
    rw [Qh (by omega), Ji]
    simp only [Vf]
    rw [e1, Jb]; exact h1)
  (0, 20, l0) ⟨[], l0, rfl, rfl, rfl, .nil, List.Perm.refl _, hs⟩
 obtain ⟨r, h1, h2, h3⟩ := key2
 refine ⟨r, ?_, h2, h3⟩
 unfold Ys Vv
 rw [h1]; rfl
end
end Go.StP
