/- Reading whatever octets, in plain Lean: it answers, and its parts lie inside. Conditions: none. -/
import Derived.Test.YtgjpnjncfilgnaaGreatDoorKMd
import Derived.Test.YtgjpnjncfilgnaaGreatDoorMd
import Derived.Test.YtgjpnjncfilgnaaGreatDoorLx2
import Derived.Lib.LaidTab
import Derived.MakeChecks
import Derived.ProofKit
import Derived.OpenShut
import Derived.ChangeArms
import Derived.DataReads
import Derived.JoinedCond
import Derived.LaidLaws
import Derived.SizedLaws
namespace Go.M
open Go.Md Go.Pl
set_option linter.unusedVariables false
def okS (n : Nat) (x : Td) : Prop := 8 ≤ x.From ∧ x.From < x.To ∧ x.To ≤ (n : Int)
def Jc0 (l : List Td) : Int := (l.map fun x => x.To - x.From).sum
theorem Jjd (a b : List Td) : Jc0 (a ++ b) = Jc0 a + Jc0 b := by unfold Jc0; rw [List.map_append, List.sum_append]
theorem lenS_nil : Jc0 [] = 0 := rfl
theorem lenS_one (x : Td) : Jc0 [x] = x.To - x.From := by unfold Jc0; simp
def Adds (r r' : Tb) (K : Nat) (z : Int) : Prop :=
 r'.s_ = r.s_ ∧ r'.big_ = r.big_ ∧ r'.dirs_ = r.dirs_ ∧ r'.found_ = r.found_ ∧ ∃ new, r'.parts_ = r.parts_ ++ new ∧ (∀ x ∈ new, okS r.s_.length x) ∧ new.length ≤ K ∧ z ≤ Jc0 new
theorem Adds.same (r : Tb) {K : Nat} {z : Int} (hz : z ≤ 0) : Adds r r K z := ⟨rfl, rfl, rfl, rfl, [], by simp, by simp, Nat.zero_le _, hz⟩
theorem Adds.fail (r : Tb) (e : Int) {K : Nat} {z : Int} (hz : z ≤ 0) : Adds r (fl r e) K z := by
 unfold fl; split
 ·exact ⟨rfl, rfl, rfl, rfl, [], by simp, by simp, Nat.zero_le _, hz⟩
 ·exact Adds.same r hz
theorem Adds.trans {a b c : Tb} {K L : Nat} {y z : Int} (h : Adds a b K y) (g : Adds b c L z) : Adds a c (K + L) (y + z) := by
 obtain ⟨h1, h2, h3, h4, n, h5, h6, h7, h8⟩ := h
 obtain ⟨g1, g2, g3, g4, m, g5, g6, g7, g8⟩ := g
 refine ⟨g1.trans h1, g2.trans h2, g3.trans h3, g4.trans h4, n ++ m, by rw [g5, h5, List.append_assoc], ?_, by rw [List.length_append]; omega, by rw [Jjd]; omega⟩
 intro x hx
 rcases List.mem_append.1 hx with hx | hx
 ·exact h6 x hx
 ·rw [← h1]; exact g6 x hx
theorem Adds.mono {a b : Tb} {K L : Nat} {y z : Int} (h : Adds a b K y) (hK : K ≤ L) (hz : z ≤ y) : Adds a b L z := by
 obtain ⟨h1, h2, h3, h4, n, h5, h6, h7, h8⟩ := h
 exact ⟨h1, h2, h3, h4, n, h5, h6, by omega, by omega⟩
theorem Adds.part (r : Tb) (x : Td) (seen : List (Int × Bool)) (h : okS r.s_.length x) : Adds r ⟨r.s_, r.big_, r.parts_ ++ [x], seen, r.dirs_, r.found_, r.no_⟩ 1 (x.To - x.From) :=
 ⟨rfl, rfl, rfl, rfl, [x], rfl, fun y hy => by rw [List.mem_singleton.1 hy]; exact h, by simp, by rw [lenS_one]; omega⟩
theorem Adds.parts {r r' : Tb} {K : Nat} {z : Int} (h : Adds r r' K z) : r'.parts_.length ≤ r.parts_.length + K := by
 obtain ⟨_, _, _, _, n, h5, _, h7, _⟩ := h
 rw [h5, List.length_append]; omega
theorem Adds.len {r r' : Tb} {K : Nat} {z : Int} (h : Adds r r' K z) : r'.s_.length = r.s_.length := by rw [h.1]
def szV (v : Tg) : Nat := v.Text.length + v.Ints.length + v.Ratios.length
theorem valT_adds (r : Tb) {k : Int} {c : Nat} {b : List UInt8} (hw : J5 k ≠ 0) (hb : b.length ≤ c * J5 k) : Adds r (valT r k c b).2 0 0 ∧ szV (valT r k c b).1 ≤ c * J5 k ∧ (valT r k c b).1.Entries = [] := by
 have hcw : c ≤ c * J5 k := Nat.le_mul_of_pos_right _ (by omega)
 unfold valT
 by_cases h2 : k = 2
 ·rw [if_pos h2]
  split
  ·exact ⟨Adds.fail _ _ (by omega), by simp [szV], rfl⟩
  ·refine ⟨?_, by simp [szV]; omega, rfl⟩
   simp only
   split
   ·exact Adds.fail _ _ (by omega)
   ·exact Adds.same _ (by omega)
 rw [if_neg h2]
 by_cases h7 : k = 7
 ·rw [if_pos h7]; exact ⟨Adds.same _ (by omega), by simp [szV]; omega, rfl⟩
 rw [if_neg h7]
 by_cases h5 : k = 5
 ·rw [if_pos h5]; exact ⟨Adds.same _ (by omega), by simp [szV]; omega, rfl⟩
 rw [if_neg h5]; exact ⟨Adds.same _ (by omega), by simp [szV]; omega, rfl⟩
theorem valR_adds (r : Tb) {k : Int} {c a : Nat} (hw : J5 k ≠ 0) : Adds r (valR r k c a).2 1 ((szV (valR r k c a).1 : Int) - 4) ∧ (valR r k c a).1.Entries = [] := by
 unfold valR
 by_cases h4 : 4 < c * J5 k
 ·rw [if_pos h4]
  simp only
  split
  ·rename_i h
   obtain ⟨a1, a2, a3⟩ := valT_adds ⟨r.s_, r.big_, r.parts_ ++ [⟨(Ja6 r.big_ ((r.s_.drop a).take 4) : Nat), ((Ja6 r.big_ ((r.s_.drop a).take 4) + c * J5 k : Nat) : Int)⟩], r.seen_, r.dirs_, r.found_, r.no_⟩ (k := k) (c := c) (b := (r.s_.drop (Ja6 r.big_ ((r.s_.drop a).take 4))).take (c * J5 k)) hw (by rw [List.length_take]; omega)
   refine ⟨((Adds.part r ⟨(Ja6 r.big_ ((r.s_.drop a).take 4) : Nat), ((Ja6 r.big_ ((r.s_.drop a).take 4) + c * J5 k : Nat) : Int)⟩ r.seen_ ⟨by simp only; omega, by simp only; omega, by simp only; omega⟩).trans a1).mono (by omega) ?_, a3⟩
   simp only; omega
  ·exact ⟨Adds.fail _ _ (by simp [szV]), rfl⟩
 ·rw [if_neg h4]
  obtain ⟨a1, a2, a3⟩ := valT_adds r (k := k) (c := c) (b := (r.s_.drop a).take (c * J5 k)) hw (by rw [List.length_take]; omega)
  exact ⟨a1.mono (by omega) (by omega), a3⟩
def cap : Nat → Nat
 | 0 => 0
 | d + 1 => 1 + 200 * (1 + cap d)
def DirOk (d : Nat) (self : Uw) : Prop := ∀ (r : Tb) (pl : Nat) (path : List Int), path.length + d = 6 → pl ≤ 4294967295 → r.s_.length ≤ 65000 → r.parts_.length + cap d ≤ 7999999999999 → r.found_ ≤ 1 →
 ∃ (l : List Ta) (nx : Nat) (r' : Tb), self (r, (pl : Int), path) = some (l, (nx : Int), r') ∧ nx ≤ 4294967295 ∧ Adds r r' (cap d) (szD d l : Nat) ∧ (20 < r.dirs_ → r'.no_ ≠ 0)
theorem entR_adds {d : Nat} {self : Uw} (H : DirOk d self) (r : Tb) {a : Nat} {path : List Int} (hpl : path.length + d + 1 = 6) (hs : r.s_.length ≤ 65000) (hp : r.parts_.length + (1 + cap d) ≤ 7999999999999) (hf : r.found_ ≤ 1) :
  ∃ e r', entR self r a path = some (e, r') ∧ Adds r r' (1 + cap d) ((szE d e : Nat) - 5 : Int) := by
 unfold entR
 split
 ·split
  ·obtain ⟨l, nx, r', h1, h2, h3, _⟩ := H r (J0 r (a + 8) 4) (path ++ [(J0 r a 2 : Int)]) (by simp; omega) (v4 _ _) hs (by omega) hf
   rw [h1, Jb]
   exact ⟨_, _, rfl, h3.mono (by omega) (by simp only [szE, List.length_nil]; omega)⟩
  ·refine ⟨_, _, rfl, Adds.fail _ _ ?_⟩
   have : szD d [] = 0 := by cases d <;> rfl
   simp only [szE, List.length_nil, this]; omega
 ·split
  ·refine ⟨_, _, rfl, Adds.fail _ _ ?_⟩
   have : szD d [] = 0 := by cases d <;> rfl
   simp only [szE, List.length_nil, this]; omega
  ·rename_i h13 h0
   obtain ⟨a1, a2⟩ := valR_adds r (k := (J0 r (a + 2) 2 : Int)) (c := J0 r (a + 4) 4) (a := a + 8) h0
   refine ⟨_, _, rfl, a1.mono (by omega) ?_⟩
   have : szD d [] = 0 := by cases d <;> rfl
   simp only [szE, a2, this, szV]; omega
theorem Ji5 (d : Nat) (e : Ta) : ∀ l : List Ta, szD (d + 1) (l ++ [e]) = szD (d + 1) l + szE d e
 | [] => by rw [List.nil_append, Jem, Jd1]; omega
 | x :: l => by rw [List.cons_append, Jem, Jem, Ji5 d e l]; omega
theorem loop_adds {d : Nat} {self : Uw} (H : DirOk d self) {path : List Int} (hpl : path.length + d + 1 = 6) (r : Tb) {pl nxt cnt : Nat} (hs : r.s_.length ≤ 65000) (hcnt : cnt ≤ 200) (hin : pl + 2 + 12 * cnt ≤ r.s_.length) (hp : r.parts_.length + cap (d + 1) ≤ 7999999999999) (hf : r.found_ ≤ 1) :
  ∀ (m i : Nat) (rc : Tb) (l : List Ta), i + m = cnt → l.length = i → Adds r rc (1 + i * (1 + cap d)) ((szD (d + 1) l : Nat) + 12 * m : Int) →
   ∃ l' r', Jd2 self path pl nxt cnt i rc l = some (l', (nxt : Int), r') ∧ Adds r r' (cap (d + 1)) (szD (d + 1) l' : Nat) := by
 intro m
 have hcap : ∀ i, i ≤ 200 → 1 + i * (1 + cap d) ≤ cap (d + 1) := fun i hi => by
  show _ ≤ 1 + 200 * (1 + cap d)
  have := Nat.mul_le_mul_right (1 + cap d) hi; omega
 induction m with
 | zero =>
  intro i rc l him hl hA
  exact ⟨l, rc, Jfm _ _ _ _ _ _ _ _ (.inl (by omega)), hA.mono (hcap i (by omega)) (by omega)⟩
 | succ m ih =>
  intro i rc l him hl hA
  have hend : Adds r rc (cap (d + 1)) (szD (d + 1) l : Nat) := hA.mono (hcap i (by omega)) (by omega)
  have hsl := hA.len
  by_cases hno : rc.no_ = 0
  ·have hin' : pl + 2 + 12 * cnt ≤ rc.s_.length := by omega
   by_cases hlow : ∃ h : 0 < i, (J0 rc (pl + 2 + 12 * i) 2 : Int) ≤ (l[i - 1]'(by omega)).Tag
   ·obtain ⟨h0, hlow⟩ := hlow
    exact ⟨l, fl rc 5, loop_low _ _ _ _ _ _ _ _ (by omega) hno h0 (by omega) hin' (by omega) hlow, (hend.trans (Adds.fail rc 5 (K := 0) (z := 0) (by omega))).mono (by omega) (by omega)⟩
   ·have hi1 := hcap (i + 1) (by omega)
    rw [Nat.add_mul, Nat.one_mul] at hi1
    have hpr := hA.parts
    obtain ⟨e, r', he, hA'⟩ := entR_adds H rc (a := pl + 2 + 12 * i) hpl (by omega) (by omega) (by rw [hA.2.2.2.1]; exact hf)
    rw [loop_next self path pl nxt cnt i rc l (by omega) hno hl (by omega) hin' (by omega) (fun h hh => hlow ⟨h, hh⟩) (by omega) (by rw [hA.2.2.2.1]; exact hf) (by omega) he]
    refine ih (i + 1) r' (l ++ [e]) (by omega) (by simp; omega) ((hA.trans hA').mono (by rw [Nat.add_mul, Nat.one_mul]; omega) ?_)
    rw [Ji5]; omega
  ·exact ⟨l, rc, Jfm _ _ _ _ _ _ _ _ (.inr hno), hend⟩
theorem dirR_ok {d : Nat} {self : Uw} (H : DirOk d self) (r : Tb) (pl : Nat) (path : List Int) (hpl : path.length + d + 1 = 6) (hs : r.s_.length ≤ 65000) (hp : r.parts_.length + cap (d + 1) ≤ 7999999999999) (hf : r.found_ ≤ 1) :
  ∃ (l : List Ta) (nx : Nat) (r' : Tb), dirR self r pl path = some (l, (nx : Int), r') ∧ nx ≤ 4294967295 ∧ Adds r r' (cap (d + 1)) (szD (d + 1) l : Nat) ∧ (20 < r.dirs_ → r'.no_ ≠ 0) := by
 unfold dirR
 split
 ·exact ⟨[], 0, _, rfl, by omega, Adds.fail _ _ (by rw [Jd1]; omega), fun _ => Jb3 _ (by decide)⟩
 rename_i h8
 split
 ·exact ⟨[], 0, _, rfl, by omega, Adds.fail _ _ (by rw [Jd1]; omega), fun _ => Jb3 _ (by decide)⟩
 split
 ·exact ⟨[], 0, _, rfl, by omega, Adds.fail _ _ (by rw [Jd1]; omega), fun _ => Jb3 _ (by decide)⟩
 rename_i hlim
 split
 ·exact ⟨[], 0, _, rfl, by omega, Adds.fail _ _ (by rw [Jd1]; omega), fun _ => Jb3 _ (by decide)⟩
 rename_i hin
 split
 ·rename_i hno
  exact ⟨[], 0, _, rfl, by omega, Adds.same _ (by rw [Jd1]; omega), fun _ => hno⟩
 have hpart := Adds.part r ⟨(pl : Int), ((pl + (2 + 12 * J0 r pl 2 + 4) : Nat) : Int)⟩ (Z5 r.seen_ (pl : Int) true) ⟨by simp only; omega, by simp only; omega, by simp only; omega⟩
 have run : ∀ r2 : Tb, Adds r r2 1 ((2 + 12 * J0 r pl 2 + 4 : Nat) : Int) → ∃ (l : List Ta) (nx : Nat) (r' : Tb), Jd2 self path pl (J0 r (pl + 2 + 12 * J0 r pl 2) 4) (J0 r pl 2) 0 r2 [] = some (l, (nx : Int), r') ∧ nx ≤ 4294967295 ∧ Adds r r' (cap (d + 1)) (szD (d + 1) l : Nat) ∧ (20 < r.dirs_ → r'.no_ ≠ 0) := by
  intro r2 h2
  obtain ⟨l, r', h3, h4⟩ := loop_adds (nxt := J0 r (pl + 2 + 12 * J0 r pl 2) 4) H hpl r hs (show J0 r pl 2 ≤ 200 by omega) (show pl + 2 + 12 * J0 r pl 2 ≤ r.s_.length by omega) hp hf (J0 r pl 2) 0 r2 [] (by omega) rfl (h2.mono (by omega) (by rw [Jd1]; omega))
  exact ⟨l, _, r', h3, v4 _ _, h4, fun h => absurd h (by omega)⟩
 split
 ·exact run _ ((hpart.trans (Adds.fail _ 1 (K := 0) (z := 0) (by omega))).mono (by omega) (by simp only; omega))
 ·exact run _ (hpart.mono (by omega) (by simp only; omega))
theorem dirR_zero {self : Uw} (r : Tb) (pl : Nat) (path : List Int) (hpl : path.length = 6) : ∃ r', dirR self r pl path = some ([], 0, r') ∧ Adds r r' 0 0 ∧ r'.no_ ≠ 0 := by
 unfold dirR
 split
 ·exact ⟨_, rfl, Adds.fail _ _ (by omega), Jb3 _ (by decide)⟩
 split
 ·exact ⟨_, rfl, Adds.fail _ _ (by omega), Jb3 _ (by decide)⟩
 rw [if_pos (.inr (.inl (by omega)))]
 exact ⟨_, rfl, Adds.fail _ _ (by omega), Jb3 _ (by decide)⟩
theorem it_ok : ∀ (d n : Nat), d < n → DirOk d (it (fun (self : Uw) (s : Tb × Int × List Int) => J7 self s.1 s.2.1 s.2.2) n) := by
 intro d
 induction d with
 | zero =>
  intro n hn r pl path h6 hpl hs hp hf
  obtain ⟨n, rfl⟩ : ∃ m, n = m + 1 := ⟨n - 1, by omega⟩
  obtain ⟨r', h1, h2, h3⟩ := dirR_zero (self := it (fun (self : Uw) (s : Tb × Int × List Int) => J7 self s.1 s.2.1 s.2.2) n) r pl path (by omega)
  refine ⟨[], 0, r', ?_, by omega, h2, fun _ => h3⟩
  show J7 _ r (pl : Int) path = _
  rw [Jgw _ r hpl hs (by omega), h1]; rfl
 | succ d ih =>
  intro n hn r pl path h6 hpl hs hp hf
  obtain ⟨n, rfl⟩ : ∃ m, n = m + 1 := ⟨n - 1, by omega⟩
  obtain ⟨l, nx, r', h1, h2⟩ := dirR_ok (ih n (by omega)) r pl path (by omega) hs hp hf
  refine ⟨l, nx, r', ?_, h2⟩
  show J7 _ r (pl : Int) path = _
  rw [Jgw _ r hpl hs (by omega), h1]
theorem entry_congr {self self' : Uw} {path : List Int} (h : ∀ r pl p, p.length = path.length + 1 → self (r, pl, p) = self' (r, pl, p)) (r : Tb) (a : Int) : Xq self r a path = Xq self' r a path := by
 unfold Xq
 refine Xt fun t13 _ => Xt fun _ _ => Xt fun _ _ => Xt fun _ _ => Xt fun _ _ => Xt fun t23 h23 => Xt fun l26 h26 => ?_
 have hl : l26.length = path.length + 1 := by
  unfold Ul at h23
  cases hg : X3 8 ([] : List Int) path with
  | none => rw [hg] at h23; cases h23
  | some u => rw [hg, Jb] at h23; cases h23; rw [(Jdd h26).1, (Jdd hg).1]; simp
 have e : ∀ x y, self (x, y, l26) = self' (x, y, l26) := fun x y => h x y l26 hl
 unfold Zz
 simp only [e]
theorem loop_congr {self self' : Uw} {path : List Int} (h : ∀ r pl p, p.length = path.length + 1 → self (r, pl, p) = self' (r, pl, p)) (r : Tb) (pl : Int) : J7 self r pl path = J7 self' r pl path := by
 have e : ∀ r a, Xq self r a path = Xq self' r a path := entry_congr h
 have e4 : Xe path self = Xe path self' := by
  funext next x1 x7 x9 x10 m1 m2 m3 m4 m5 l1 mp l2
  unfold Xe Vm
  simp only [e]
 have e1 : ∀ a1 t m m2 m3 m4 m5 l mp, Xb a1 path self t m m2 m3 m4 m5 l mp = Xb a1 path self' t m m2 m3 m4 m5 l mp := by
  intro a1 t m m2 m3 m4 m5 l mp
  unfold Xb W6
  rw [e4]
 unfold J7
 simp only [e1]
theorem deep_congr {self self' : Uw} {path : List Int} (h : 5 < path.length) (r : Tb) (pl : Int) : J7 self r pl path = J7 self' r pl path := by
 unfold J7
 refine Xt fun t _ => Jab (fun _ => rfl) fun _ => Xt fun c _ => Jab (fun _ => ?_) fun _ => Jab (fun _ => ?_) fun _ => ?_
 ·rw [W7, Jb, Jb, Jbi _ _ _ _ _ (Jb3 _ (by decide)), Jbi _ _ _ _ _ (Jb3 _ (by decide))]
 ·rw [W7, Jb, Jb, Jbi _ _ _ _ _ (Jb3 _ (by decide)), Jbi _ _ _ _ _ (Jb3 _ (by decide))]
 ·rw [cI, if_pos (by omega), cI, if_pos (by omega), W7, Jb, Jb, Jbi _ _ _ _ _ (Jb3 _ (by decide)), Jbi _ _ _ _ _ (Jb3 _ (by decide))]
noncomputable abbrev dirF : Uw → Uw := fun self s => J7 self s.1 s.2.1 s.2.2
theorem it_same : ∀ (d n m : Nat), d < n → d < m → ∀ (r : Tb) (pl : Int) (path : List Int), path.length + d = 6 → it dirF n (r, pl, path) = it dirF m (r, pl, path) := by
 intro d
 induction d with
 | zero =>
  intro n m hn hm r pl path h6
  obtain ⟨n, rfl⟩ : ∃ k, n = k + 1 := ⟨n - 1, by omega⟩
  obtain ⟨m, rfl⟩ : ∃ k, m = k + 1 := ⟨m - 1, by omega⟩
  exact deep_congr (path := path) (by omega) r pl
 | succ d ih =>
  intro n m hn hm r pl path h6
  obtain ⟨n, rfl⟩ : ∃ k, n = k + 1 := ⟨n - 1, by omega⟩
  obtain ⟨m, rfl⟩ : ∃ k, m = k + 1 := ⟨m - 1, by omega⟩
  exact loop_congr (path := path) (fun r pl p hp => ih n m (by omega) (by omega) r pl p (by omega)) r pl
theorem dir_it (r : Tb) (pl : Int) (path : List Int) (h1 : path.length = 1) : Wh r pl path = it dirF 6 (r, pl, path) := by
 unfold Wh
 exact Jez (k := 6) fun n hn => it_same 5 n 6 (by omega) (by omega) r pl path (by omega)
theorem dir_ok (r : Tb) (pl : Nat) (path : List Int) (h6 : path.length = 1) (hpl : pl ≤ 4294967295) (hs : r.s_.length ≤ 65000) (hp : r.parts_.length + cap 5 ≤ 7999999999999) (hf : r.found_ ≤ 1) :
  ∃ (l : List Ta) (nx : Nat) (r' : Tb), Wh r (pl : Int) path = some (l, (nx : Int), r') ∧ nx ≤ 4294967295 ∧ Adds r r' (cap 5) (szD 5 l : Nat) ∧ (20 < r.dirs_ → r'.no_ ≠ 0) := by
 rw [dir_it _ _ _ h6]
 exact it_ok 5 6 (by omega) r pl path (by omega) hpl hs hp hf
end Go.M

/- A file's parts, the used spans and the holes, in plain Lean. Conditions: none. -/
namespace Go.M
open Go.Md Go.Pl
set_option linter.unusedVariables false
def cmpI (a b : Int) : Int := if a < b then -1 else if b < a then 1 else 0
theorem Jge (a b : Int) : cmp_Compare_int a b = some (cmpI a b) := by
 unfold cmp_Compare_int Jcj cmpI
 rw [Jb, Jb, decide_eq_false (by simp), decide_eq_false (by simp), Jx, Jx, cI, cI]
 split
 ·rfl
 split <;> rfl
theorem or2_eq (a b : Int) : Jdo [a, b] = some (if a ≠ 0 then a else b) := by
 unfold Jdo
 by_cases ha : a = 0
 ·rw [if_neg (by simp [ha])]
  rw [Q2 (1 : Int) fun next => by
   unfold Zd
   rw [cI, if_pos (by simp), show Zu [a, b] 0 = some a from rfl, Jb, cI, if_neg (by simp [ha]), Jr (by omega), Jb]; rfl]
  by_cases hb : b = 0
  ·rw [Q2 (2 : Int) fun next => by
    unfold Zd
    rw [cI, if_pos (by simp), show Zu [a, b] 1 = some b from rfl, Jb, cI, if_neg (by simp [hb]), Jr (by omega), Jb]; rfl]
   exact Jz fun next => by
    unfold Zd
    rw [cI, if_neg (by simp), hb]
  ·exact Jz fun next => by
    unfold Zd
    rw [cI, if_pos (by simp), show Zu [a, b] 1 = some b from rfl, Jb, cI, if_pos hb]
 ·rw [if_pos ha]
  exact Jz fun next => by
   unfold Zd
   rw [cI, if_pos (by simp), show Zu [a, b] 0 = some a from rfl, Jb, cI, if_pos ha]
theorem Jil (x y : Td) : Qf x y = some (if cmpI x.From y.From ≠ 0 then cmpI x.From y.From else cmpI x.To y.To) := by
 unfold Qf
 rw [Jge, Jb, Jge, Jb, or2_eq, Jb]
theorem Jeb (x y : Td) : (Qf x y).getD 0 ≤ 0 ↔ x.From < y.From ∨ (x.From = y.From ∧ x.To ≤ y.To) := by
 rw [Jil, Option.getD_some]; unfold cmpI
 (repeat' split) <;> omega
theorem spans_lt (x y : Td) : (Qf x y).getD 0 < 0 ↔ x.From < y.From ∨ (x.From = y.From ∧ x.To < y.To) := by
 rw [Jil, Option.getD_some]; unfold cmpI
 (repeat' split) <;> omega
theorem spans_ok : CmpOk Qf where
 tot x y := ⟨_, Jil x y⟩
 flip x y := by
  have h1 := spans_lt x y
  have h2 := Jeb y x
  omega
 trans x y z := by
  rw [Jeb, Jeb, Jeb]; omega
 anti x y h := by
  have h1 := Jeb x y
  have h2 := spans_lt x y
  have h3 : x.From = y.From ∧ x.To = y.To := by omega
  cases x; cases y; simp only at h3; rw [h3.1, h3.2]
theorem lenS_perm {a b : List Td} (h : a.Perm b) : Jc0 a = Jc0 b := by
 unfold Jc0
 induction h with
 | nil => rfl
 | cons x _ ih => simp only [List.map_cons, List.sum_cons, ih]
 | swap x y l => simp only [List.map_cons, List.sum_cons]; omega
 | trans _ _ h1 h2 => exact h1.trans h2
def sepS (n : Int) : Int → List Td → Prop
 | a, [] => a ≤ n
 | a, x :: l => a ≤ x.From ∧ x.From < x.To ∧ sepS n x.To l
theorem Jij {n : Int} : ∀ {l : List Td} {a : Int}, sepS n a l → a ≤ n ∧ (l.length : Int) ≤ n - a ∧ Jc0 l ≤ n - a
 | [], a, h => ⟨h, by simp; exact h, by rw [lenS_nil]; have : a ≤ n := h; omega⟩
 | x :: l, a, h => by
  obtain ⟨h1, h2, h3⟩ := Jij h.2.2
  have h4 := h.1
  have h5 := h.2.1
  refine ⟨by omega, by rw [List.length_cons]; omega, ?_⟩
  have : Jc0 (x :: l) = x.To - x.From + Jc0 l := by unfold Jc0; simp
  rw [this]; omega
def lapP (l : List Td) : Prop := ∃ i : Nat, ∃ h : i + 1 < l.length, (l[i + 1]'h).From < (l[i]'(by omega)).To
open Classical in
theorem Jii (l : List Td) (hl : l.length ≤ 1099511627776000) : Jd6 l = some (decide (lapP l)) := by
 have key : ∀ m i : Nat, i + m = l.length → 1 ≤ i → Zs (fun next1 s => Vh l next1 s) (i : Int) = some (decide (∃ j : Nat, i ≤ j + 1 ∧ ∃ h : j + 1 < l.length, (l[j + 1]'h).From < (l[j]'(by omega)).To)) := by
  intro m
  induction m with
  | zero =>
   intro i hi h1
   refine Jz fun next => ?_
   unfold Vh
   rw [cI, if_neg (by omega)]
   congr 1; symm
   rw [decide_eq_false_iff_not]
   rintro ⟨j, h2, h3, _⟩; omega
  | succ m ih =>
   intro i hi h1
   have hh : ∀ next : Int → Option Bool, Vh l next (i : Int) = if (l[i]'(by omega)).From < (l[i - 1]'(by omega)).To then some true else next ((i + 1 : Nat) : Int) := by
    intro next
    unfold Vh
    rw [cI, if_pos (by omega), Xk (by omega), Jb, Jr (by omega), Jb, show (i : Int) - 1 = ((i - 1 : Nat) : Int) by omega, Xk (by omega), Jb, cI]
    split
    ·rfl
    ·rw [Jr (by omega), Jb]; rfl
   by_cases hlap : (l[i]'(by omega)).From < (l[i - 1]'(by omega)).To
   ·rw [Jz (o := some true) fun next => by rw [hh, if_pos hlap]]
    congr 1; symm
    rw [decide_eq_true_iff]
    obtain ⟨k, rfl⟩ : ∃ k, i = k + 1 := ⟨i - 1, by omega⟩
    exact ⟨k, by omega, by omega, hlap⟩
   ·rw [Q2 (((i + 1 : Nat) : Int)) fun next => by rw [hh, if_neg hlap], ih (i + 1) (by omega) (by omega)]
    congr 1
    rw [decide_eq_decide]
    constructor
    ·rintro ⟨j, h2, h3⟩; exact ⟨j, by omega, h3⟩
    ·rintro ⟨j, h2, h3, h4⟩
     rcases Nat.lt_or_ge i (j + 1) with h5 | h5
     ·exact ⟨j, by omega, h3, h4⟩
     ·exfalso
      have : i = j + 1 := by omega
      subst this
      exact hlap h4
 unfold Jd6
 rcases Nat.lt_or_ge l.length 1 with h0 | h0
 ·rw [Jz (o := some false) fun next => by unfold Vh; rw [cI, if_neg (by omega)]]
  congr 1; symm
  rw [decide_eq_false_iff_not]
  rintro ⟨j, h3, _⟩; omega
 ·rw [show (1 : Int) = ((1 : Nat) : Int) from rfl, key (l.length - 1) 1 (by omega) (by omega)]
  congr 1
  rw [decide_eq_decide]
  constructor
  ·rintro ⟨j, _, h3⟩; exact ⟨j, h3⟩
  ·rintro ⟨j, h3⟩; exact ⟨j, by omega, h3⟩
theorem sep_of {n : Nat} : ∀ {l : List Td} {a : Int}, (∀ x ∈ l, okS n x) → ¬ lapP l → (∀ x ∈ l.head?, a ≤ x.From) → a ≤ n → sepS n a l
 | [], a, _, _, _, ha => ha
 | x :: l, a, h, hl, hh, ha => by
  have hx := h x (by simp)
  refine ⟨hh x (by simp), hx.2.1, sep_of (fun y hy => h y (by simp [hy])) ?_ ?_ hx.2.2⟩
  ·rintro ⟨i, hi, hlt⟩
   exact hl ⟨i + 1, by simp at hi ⊢; omega, by simpa using hlt⟩
  ·intro y hy
   cases l with
   | nil => simp at hy
   | cons z l =>
    simp at hy; subst hy
    by_cases hz : x.To ≤ z.From
    ·exact hz
    ·exfalso
     exact hl ⟨0, by simp, by simp; omega⟩
theorem begins_eq (s : List UInt8) : ∃ b, Jaq s = some b ∧ (b = true → 8 ≤ s.length) := by
 unfold Jaq
 rw [cI]
 by_cases h : (s.length : Int) < 8
 ·rw [if_pos h]; exact ⟨_, rfl, by simp⟩
 ·rw [if_neg h, Uz (by omega), Jb, cI, Jb]
  split <;> exact ⟨_, rfl, fun _ => by omega⟩
noncomputable def rdLoop (t : Int) (nx : Nat) (r : Tb) (ls : List (List Ta)) : Option (Tf × List Td × Int) :=
 Zs (fun next4 s => Ur t next4 s.1 s.2.1 s.2.2.1 s.2.2.2.1 s.2.2.2.2.1 s.2.2.2.2.2.1 s.2.2.2.2.2.2.1 s.2.2.2.2.2.2.2.1 s.2.2.2.2.2.2.2.2) ((nx : Int), r.s_, r.big_, r.dirs_, r.found_, r.no_, r.parts_, ls, r.seen_)
theorem rd_end (t : Int) (nx : Nat) (r : Tb) (ls : List (List Ta)) (h : nx = 0 ∨ r.no_ ≠ 0) : rdLoop t nx r ls = W1 t r.s_ r.big_ r.dirs_ r.found_ r.no_ r.parts_ ls r.seen_ := by
 refine Jz fun next => ?_
 show Ur t next (nx : Int) r.s_ r.big_ r.dirs_ r.found_ r.no_ r.parts_ ls r.seen_ = _
 unfold Ur
 rw [cI]
 by_cases h0 : nx = 0
 ·rw [if_neg (by simp [h0])]
 ·rw [if_pos (by simpa using h0), cI, if_neg (h.resolve_left h0)]
theorem rd_next (t : Int) (nx : Nat) (r : Tb) (ls : List (List Ta)) (h0 : nx ≠ 0) (hno : r.no_ = 0) (hd : 0 ≤ r.dirs_ ∧ r.dirs_ ≤ 1000) (hl : ls.length ≤ 1000) {l : List Ta} {nx' : Nat} {r' : Tb}
  (h : Wh ⟨r.s_, r.big_, r.parts_, r.seen_, r.dirs_ + 1, r.found_, r.no_⟩ (nx : Int) [(ls.length : Int)] = some (l, (nx' : Int), r')) : rdLoop t nx r ls = rdLoop t nx' r' (ls ++ [l]) := by
 refine Q2 _ fun next => ?_
 show Ur t next (nx : Int) r.s_ r.big_ r.dirs_ r.found_ r.no_ r.parts_ ls r.seen_ = _
 unfold Ur
 rw [cI, if_pos (by simpa using h0), cI, if_pos hno, Jr (by omega), Jb, h, Jb, Ya (by simp; omega), Jb]
open Classical in
theorem read_j1 (t : Int) (r : Tb) (ls : List (List Ta)) (hs : 8 ≤ r.s_.length ∧ r.s_.length ≤ 65000) (hp : r.parts_.length ≤ 8000000000000) (hok : ∀ x ∈ r.parts_, okS r.s_.length x) (hsz : (((ls.map (szD 5)).sum : Nat) : Int) ≤ Jc0 r.parts_) (hl : ls.length ≤ 1000) :
  ∃ f ps e, W1 t r.s_ r.big_ r.dirs_ r.found_ r.no_ r.parts_ ls r.seen_ = some (f, ps, e) ∧ (e = 0 → sepS r.s_.length 8 ps) := by
 unfold W1
 have hperm := List.mergeSort_perm r.parts_ (leC Qf)
 have hS : Jgb r.parts_ Qf = some (r.parts_.mergeSort (leC Qf)) := if_pos ⟨by omega, spans_ok⟩
 rw [hS, Jb, cI]
 generalize r.parts_.mergeSort (leC Qf) = ps at hperm
 have hlen : Jc0 ps = Jc0 r.parts_ := lenS_perm hperm
 have hfail : ∀ e : Int, e ≠ 0 → Wc t ls ps e = some (⟨false, []⟩, [], e) := fun e he => by unfold Wc; rw [cI, if_pos he]
 by_cases hno : r.no_ = 0
 ·rw [if_pos hno, Jii _ (by rw [hperm.length_eq]; omega), Jb, cI]
  by_cases hlap : lapP ps
  ·rw [if_pos hlap]
   unfold V7
   rw [cI, if_neg (by decide), hfail 6 (by decide)]
   exact ⟨_, _, _, rfl, by simp⟩
  ·rw [if_neg hlap]
   have hsep : sepS r.s_.length 8 ps := by
    refine sep_of (fun x hx => hok x (hperm.mem_iff.1 hx)) hlap (fun x hx => ?_) (by omega)
    exact (hok x (hperm.mem_iff.1 (List.mem_of_mem_head? hx))).1
   have hsum := (Jij hsep).2.2
   have hB : Je8 (⟨decide (t = 77), ls⟩ : Tf) := Jir (by show ls.length ≤ _; omega) (by show (ls.map (szD 5)).sum ≤ _; omega)
   unfold V7
   rw [cI, if_pos hno, Jiz hB, Jb]
   by_cases he : Jfa (⟨decide (t = 77), ls⟩ : Tf) = 0
   ·unfold Wc
    rw [cI, if_neg (by simp [he])]
    exact ⟨_, _, _, rfl, fun _ => hsep⟩
   ·rw [hfail _ he]
    exact ⟨_, _, _, rfl, fun h => absurd h he⟩
 ·rw [if_neg hno]
  unfold V7
  rw [cI, if_neg hno, hfail _ hno]
  exact ⟨_, _, _, rfl, fun h => absurd h hno⟩
theorem rd_ok (t : Int) : ∀ (m D nx : Nat) (r : Tb) (ls : List (List Ta)), D + m = 21 → nx ≤ 4294967295 → r.dirs_ = D → ls.length = D → (D ≤ 20 ∨ r.no_ ≠ 0) → (8 ≤ r.s_.length ∧ r.s_.length ≤ 65000) → r.parts_.length ≤ D * 323216080401 → (∀ x ∈ r.parts_, okS r.s_.length x) → (((ls.map (szD 5)).sum : Nat) : Int) ≤ Jc0 r.parts_ → r.found_ ≤ 1 →
  ∃ f ps e, rdLoop t nx r ls = some (f, ps, e) ∧ (e = 0 → sepS r.s_.length 8 ps) := by
 have hcap : cap 5 = 323216080401 := by rfl
 intro m
 induction m with
 | zero =>
  intro D nx r ls hD hnx hd hl h20 hs hp hok hsz hf
  rw [rd_end _ _ _ _ (.inr (h20.resolve_left (by omega)))]
  exact read_j1 t r ls hs (by omega) hok hsz (by omega)
 | succ m ih =>
  intro D nx r ls hD hnx hd hl h20 hs hp hok hsz hf
  by_cases hend : nx = 0 ∨ r.no_ ≠ 0
  ·rw [rd_end _ _ _ _ hend]
   exact read_j1 t r ls hs (by omega) hok hsz (by omega)
  ·have h0 : nx ≠ 0 := fun h => hend (.inl h)
   have hno : r.no_ = 0 := Classical.byContradiction fun h => hend (.inr h)
   obtain ⟨l, nx', r', h1, h2, h3, h4⟩ := dir_ok ⟨r.s_, r.big_, r.parts_, r.seen_, r.dirs_ + 1, r.found_, r.no_⟩ nx [(ls.length : Int)] rfl hnx hs.2 (by show r.parts_.length + cap 5 ≤ _; rw [hcap]; omega) hf
   rw [rd_next t nx r ls h0 hno (by omega) (by omega) h1]
   have hlen' := h3.len
   have hsl : r'.s_.length = r.s_.length := hlen'
   have hpa := h3.parts
   rw [hcap] at hpa
   have hpa' : r'.parts_.length ≤ r.parts_.length + 323216080401 := hpa
   obtain ⟨g1, g2, g3, g4, new, g5, g6, g7, g8⟩ := h3
   have g5' : r'.parts_ = r.parts_ ++ new := g5
   have := ih (D + 1) nx' r' (ls ++ [l]) (by omega) h2 (by have : r'.dirs_ = r.dirs_ + 1 := g3; omega) (by simp; omega) (by
    by_cases hh : D + 1 ≤ 20
    ·exact .inl hh
    ·exact .inr (h4 (by show 20 < r.dirs_ + 1; omega))) (by omega) (by omega) (by
    intro x hx
    rw [g5'] at hx
    rw [hsl]
    rcases List.mem_append.1 hx with hx | hx
    ·exact hok x hx
    ·exact g6 x hx) (by
    rw [g5', Jjd, List.map_append, List.sum_append]
    simp only [List.map_cons, List.map_nil, List.sum_cons, List.sum_nil]
    omega) (by have : r'.found_ = r.found_ := g4; omega)
   rw [hsl] at this
   exact this
theorem read_ok (s : List UInt8) {fd : Nat} (hfd : fd ≤ 1) : ∃ f ps e, Jcu s fd = some (f, ps, e) ∧ (e = 0 → s.length ≤ 65000 ∧ sepS s.length 8 ps) := by
 unfold Jcu
 rw [cI]
 by_cases hl : (65000 : Int) < s.length
 ·rw [if_pos hl]; exact ⟨_, _, _, rfl, by simp⟩
 ·obtain ⟨b, hb, hb8⟩ := begins_eq s
  rw [if_neg hl, hb, Jb]
  cases b with
  | false => rw [Bool.not_false, J9]; exact ⟨_, _, _, rfl, by simp⟩
  | true =>
   have h8 := hb8 rfl
   rw [Bool.not_true, Jx, show (0 : Int) = ((0 : Nat) : Int) from rfl, U3 (by omega), Jb, show (4 : Int) = ((4 : Nat) : Int) from rfl, Jeh (a := 4) (k := 4) _ (by show 4 + 4 ≤ s.length; omega) (by omega) (by show s.length ≤ 65000; omega), Jb]
   obtain ⟨f, ps, e, h1, h2⟩ := rd_ok ((s[0]'(by omega)).toNat : Int) 21 0 (Ja6 (decide (((s[0]'(by omega)).toNat : Int) = 77)) ((s.drop 4).take 4)) ⟨s, decide (((s[0]'(by omega)).toNat : Int) = 77), [], [], 0, fd, 0⟩ [] (by omega) (valB4 _ (by rw [List.length_take]; omega)) rfl rfl (.inl (by omega)) ⟨h8, by show s.length ≤ 65000; omega⟩ (by simp) (by simp) (by simp [Jc0]) hfd
   exact ⟨f, ps, e, h1, fun h => ⟨by omega, h2 h⟩⟩
end Go.M

/- TagSpans: the used spans and the holes of whatever octets share them out, in plain Lean. Conditions: none. -/
namespace Go.M
open Go.Md Go.Pl
set_option linter.unusedVariables false
end Go.M

/- The reference reads octets, beside the program, in plain Lean: numbers, values. Conditions: none. -/
namespace Go.M
open Go.Md Go.Pl
set_option linter.unusedVariables false
theorem Jid (big : Bool) (s : List UInt8) (hs : s.length ≤ 4) : Qq big s = some (Ja6 big s : Int) := by
 let L := if big then s else s.reverse
 have hL : L.length = s.length := by
  show (if big then s else s.reverse).length = s.length
  cases big <;> simp
 have hi : ∀ i (hik : i < s.length), ∃ q : Nat, ∃ hq : q < s.length, q = (if big then i else s.length - 1 - i) ∧ s[q]'hq = L[i]'(by omega) := by
  intro i hik
  cases big
  ·refine ⟨s.length - 1 - i, by omega, rfl, ?_⟩
   show _ = (s.reverse)[i]'_
   rw [List.getElem_reverse]
  ·exact ⟨i, by omega, rfl, rfl⟩
 have key : ∀ m i v : Nat, i + m = s.length → v < 256 ^ i → Zs (fun next1 s' => Wa big s next1 s'.1 s'.2) ((v : Int), (i : Int)) = some (((L.drop i).foldl (fun v b => v * 256 + b.toNat) v : Nat) : Int) := by
  intro m
  induction m with
  | zero =>
   intro i v him hv
   rw [List.drop_eq_nil_of_le (by omega)]
   refine Jz fun next => ?_
   show Wa big s next (v : Int) (i : Int) = _
   unfold Wa
   rw [cI, if_neg (by omega)]; rfl
  | succ m ih =>
   intro i v him hv
   obtain ⟨q, hq, hqe, hsq⟩ := hi i (by omega)
   have hv4 : v < 16777216 := Nat.lt_of_lt_of_le hv (Nat.le_trans (Nat.pow_le_pow_right (by omega) (show i ≤ 3 by omega)) (by decide))
   have hb := (s[q]'(by omega)).toNat_lt
   rw [List.drop_eq_getElem_cons (show i < L.length by omega), List.foldl_cons]
   have hlt : v * 256 + (L[i]'(by omega)).toNat < 256 ^ (i + 1) := by
    rw [← hsq, Nat.pow_succ]; omega
   refine Eq.trans (Q2 _ fun next => ?_) (ih (i + 1) (v * 256 + (L[i]'(by omega)).toNat) (by omega) hlt)
   show Wa big s next (v : Int) (i : Int) = _
   unfold Wa
   rw [cI, if_pos (by omega), Jr (by omega), Jb, Jr (by omega), Jb]
   have go : ∀ x : Int, x = (q : Int) → Ja9 s v i next x = next (((v * 256 + (L[i]'(by omega)).toNat : Nat) : Int), ((i + 1 : Nat) : Int)) := by
    intro x hx
    subst hx
    unfold Ja9
    have e8 : (2 : Int) ^ (8 : Int).toNat = 256 := by decide
    have hsh : Jbt (v : Int) 8 = some ((v : Int) * 256) := by
     unfold Jbt
     rw [if_pos ⟨by decide, by decide⟩, e8]
     exact Jr (by omega)
    rw [hsh, Jb, U3 (by omega), Jb]
    unfold gK
    rw [if_pos (by omega), Jb, Jr (by omega), Jb, Jg0 (by omega) hb, hsq]
    rfl
   cases big
   ·rw [Jx]; exact go _ (by rw [hqe]; simp; omega)
   ·rw [J9]; exact go _ (by rw [hqe]; simp)
 unfold Qq
 have := key s.length 0 0 (by omega) (by simp)
 rw [List.drop_zero] at this
 exact this
theorem Rat_eq (q : Te) {a k : Nat} (h : a + k ≤ q.s_.length) (hk : k ≤ 4) (hs : q.s_.length ≤ 65000) : Qw q (a : Int) (k : Int) = some (Ja6 q.big_ ((q.s_.drop a).take k) : Int) := by
 unfold Qw
 rw [Jr (by omega), Jb, Ja2 (by omega), Jb, show ((a : Int) + (k : Int)).toNat - (a : Int).toNat = k by omega, Int.toNat_natCast, Jid _ _ (by rw [List.length_take]; omega), Jb]
theorem Rat2 (q : Te) {a : Nat} (h : a + 2 ≤ q.s_.length) (hs : q.s_.length ≤ 65000) : Qw q (a : Int) 2 = some (Ja6 q.big_ ((q.s_.drop a).take 2) : Int) := Rat_eq (k := 2) q h (by omega) hs
theorem Rat4 (q : Te) {a : Nat} (h : a + 4 ≤ q.s_.length) (hs : q.s_.length ≤ 65000) : Qw q (a : Int) 4 = some (Ja6 q.big_ ((q.s_.drop a).take 4) : Int) := Rat_eq (k := 4) q h (by omega) hs
theorem Rin_eq (q : Te) {p n : Nat} (hs : q.s_.length ≤ 65000) : Ww q (p : Int) (n : Int) = some (decide (8 ≤ p ∧ p + n ≤ q.s_.length)) := by
 unfold Ww
 rw [cI, cI]
 by_cases h8 : 8 ≤ p
 ·rw [if_pos (by omega)]
  by_cases hl : p ≤ q.s_.length
  ·rw [if_pos (by omega), Jr (by omega), Jb]
   congr 1
   rw [decide_eq_decide]; omega
  ·rw [if_neg (by omega), decide_eq_false (by omega)]
 ·rw [if_neg (by omega), decide_eq_false (by omega)]
def hdP : Td := ⟨0, 8⟩
structure Same (r : Tb) (q : Te) : Prop where
 s : q.s_ = r.s_
 big : q.big_ = r.big_
 seen : q.starts_ = r.seen_
 parts : q.parts_ = hdP :: r.parts_
theorem ratR_succ (big : Bool) (b : List UInt8) (i : Nat) : ratR big (b.drop 8) i = ratR big b (i + 1) := by
 unfold ratR
 rw [List.drop_drop, List.drop_drop, show 8 + 8 * i = 8 * (i + 1) by omega, show 8 + (8 * i + 4) = 8 * (i + 1) + 4 by omega]
theorem intR_succ (big : Bool) (k : Int) (b : List UInt8) (i : Nat) : intR big k (b.drop (J5 k)) i = intR big k b (i + 1) := by
 unfold intR
 rw [List.drop_drop, show J5 k + i * J5 k = (i + 1) * J5 k by rw [Nat.add_mul]; omega]
theorem Jft {β : Type} (f : Nat → β) (m : Nat) : (List.range (m + 1)).map f = f 0 :: (List.range m).map fun i => f (i + 1) := by
 rw [List.range_succ_eq_map, List.map_cons, List.map_map]; rfl
theorem Rrat_loop (q : Te) (a1 : Int) (key : List UInt8) (k : Int) (l : List Td) (m1 m2 : Int) : ∀ (m : Nat) (b : List UInt8) (acc : List Th), b.length = 8 * m → b.length ≤ 65000 → acc.length + m ≤ 100000 →
  Zs (fun next3 s => Zc q a1 key k l m1 m2 next3 s.1 s.2) (b, acc) = Zv q a1 key k l m1 m2 [] [] (acc ++ (List.range m).map (ratR q.big_ b)) := by
 intro m
 induction m with
 | zero =>
  intro b acc hb hs ha
  have : b = [] := List.eq_nil_of_length_eq_zero (by omega)
  subst this
  refine Jz fun next => ?_
  show Zc q a1 key k l m1 m2 next [] acc = _
  unfold Zc
  rw [cI, if_neg (by simp)]; simp
 | succ m ih =>
  intro b acc hb hs ha
  have hne : b ≠ [] := fun h => by subst h; simp at hb
  refine Eq.trans (Q2 (b.drop 8, acc ++ [ratR q.big_ b 0]) fun next => ?_) ?_
  ·show Zc q a1 key k l m1 m2 next b acc = _
   unfold Zc
   rw [cI, if_pos hne, Uz (by omega), Jb, Jid _ _ (by rw [List.length_take]; omega), Jb, Ja2 (by omega), Jb, Jid _ _ (by rw [List.length_take]; omega), Jb, Ya (by simp; omega), Jb, Y3 (by omega), Jb]
   rfl
  ·rw [ih (b.drop 8) (acc ++ [ratR q.big_ b 0]) (by rw [List.length_drop]; omega) (by rw [List.length_drop]; omega) (by simp; omega), Jft, List.append_assoc]
   rw [List.singleton_append, List.map_congr_left fun i _ => ratR_succ q.big_ b i]
theorem Rint_loop (q : Te) (a1 : Int) (key : List UInt8) (k : Int) (l : List Td) (m1 m2 : Int) (hw : 1 ≤ J5 k ∧ J5 k ≤ 4) : ∀ (m : Nat) (b : List UInt8) (acc : List Int), b.length = m * J5 k → b.length ≤ 65000 → acc.length + m ≤ 100000 →
  Zs (fun next4 s => Y7 q a1 key k (J5 k : Int) l m1 m2 next4 s.1 s.2) (b, acc) = Zv q a1 key k l m1 m2 [] (acc ++ (List.range m).map (intR q.big_ k b)) [] := by
 intro m
 induction m with
 | zero =>
  intro b acc hb hs ha
  have : b = [] := List.eq_nil_of_length_eq_zero (by omega)
  subst this
  refine Jz fun next => ?_
  show Y7 q a1 key k _ l m1 m2 next [] acc = _
  unfold Y7
  rw [cI, if_neg (by simp)]; simp
 | succ m ih =>
  intro b acc hb hs ha
  rw [Nat.add_mul, Nat.one_mul] at hb
  have hne : b ≠ [] := fun h => by subst h; simp at hb; omega
  refine Eq.trans (Q2 (b.drop (J5 k), acc ++ [intR q.big_ k b 0]) fun next => ?_) ?_
  ·show Y7 q a1 key k _ l m1 m2 next b acc = _
   unfold Y7
   have hv := valB4 q.big_ (bs := b.take (J5 k)) (by rw [List.length_take]; omega)
   have go : ∀ x : Int, x = intR q.big_ k b 0 → Vl (J5 k : Int) b acc next x = next (b.drop (J5 k), acc ++ [intR q.big_ k b 0]) := by
    intro x hx
    unfold Vl
    rw [Ya (by simp; omega), Jb, Y3 (by omega), Jb, hx, Int.toNat_natCast]
   have hi : intR q.big_ k b 0 = if k = 9 then Ud (wI32 (Ja6 q.big_ (b.take (J5 k)))) else Ja6 q.big_ (b.take (J5 k)) := by
    unfold intR; rw [Nat.zero_mul, List.drop_zero]
   rw [cI, if_pos hne, Uz (by omega), Jb, Int.toNat_natCast, Jid _ _ (by rw [List.length_take]; omega), Jb, cI, cI]
   by_cases h9 : k = 9
   ·rw [if_pos h9]
    rw [if_pos h9] at hi
    by_cases hb31 : (2147483648 : Int) ≤ (Ja6 q.big_ (b.take (J5 k)) : Int)
    ·rw [if_pos hb31, Jr (by omega), Jb]
     refine go _ ?_
     rw [hi]; unfold wI32
     rw [if_pos (by omega), wI64_in (by omega)]; omega
    ·rw [if_neg hb31]
     refine go _ ?_
     rw [hi]; unfold wI32
     rw [if_neg (by omega), wI64_in (by omega)]; omega
   ·rw [if_neg h9]
    rw [if_neg h9] at hi
    exact go _ hi.symm
  ·rw [ih (b.drop (J5 k)) (acc ++ [intR q.big_ k b 0]) (by rw [List.length_drop]; omega) (by rw [List.length_drop]; omega) (by simp; omega), Jft, List.append_assoc]
   rw [List.singleton_append, List.map_congr_left fun i _ => intR_succ q.big_ k b i]
theorem Rval_j1 (r : Tb) (q : Te) (hq : Same r q) (hno : r.no_ = 0) {k : Int} {c p : Nat} (a1 : Int) (key : List UInt8) (parts : List Td) (m1 m2 : Int) (hw : J5 k ≠ 0) (h13 : k ≠ 13) (hp : p + c * J5 k ≤ r.s_.length) (hs : r.s_.length ≤ 65000) :
  ∃ v e q', W9 q a1 key k (J5 k : Int) ((c * J5 k : Nat) : Int) (p : Int) (hdP :: parts) m1 m2 = some (v, e, q') ∧
   e = (valT ⟨r.s_, r.big_, parts, r.seen_, r.dirs_, r.found_, r.no_⟩ k c ((r.s_.drop p).take (c * J5 k))).2.no_ ∧
   (e = 0 → v = (valT ⟨r.s_, r.big_, parts, r.seen_, r.dirs_, r.found_, r.no_⟩ k c ((r.s_.drop p).take (c * J5 k))).1 ∧ Same (valT ⟨r.s_, r.big_, parts, r.seen_, r.dirs_, r.found_, r.no_⟩ k c ((r.s_.drop p).take (c * J5 k))).2 q') := by
 have hcw : c ≤ c * J5 k := Nat.le_mul_of_pos_right _ (by omega)
 have e1 := hq.s
 have e2 := hq.big
 have e3 := hq.seen
 have hbl : ((r.s_.drop p).take (c * J5 k)).length = c * J5 k := by rw [List.length_take, List.length_drop]; omega
 have hfl : ∀ e : Int, (fl ⟨r.s_, r.big_, parts, r.seen_, r.dirs_, r.found_, r.no_⟩ e).no_ = e := fun e => by unfold fl; rw [if_pos hno]
 unfold W9 valT
 rw [Jr (by omega), Jb, Ja2 (by rw [e1]; omega), Jb, show ((p : Int) + ((c * J5 k : Nat) : Int)).toNat - (p : Int).toNat = c * J5 k by omega, Int.toNat_natCast, e1, cI, cI, cI, cI]
 generalize hb : (r.s_.drop p).take (c * J5 k) = b at hbl ⊢
 by_cases h2 : k = 2
 ·subst h2
  rw [if_pos rfl, if_pos rfl]
  by_cases h0 : b = []
  ·rw [if_pos h0, if_pos (.inl h0)]
   exact ⟨_, _, _, rfl, (hfl 1).symm, fun h => absurd h (by decide)⟩
  rw [if_neg h0, Jr (by omega), Jb, show (b.length : Int) - 1 = ((b.length - 1 : Nat) : Int) by have := List.length_pos_iff.2 h0; omega, U3 (by have := List.length_pos_iff.2 h0; omega), Jb, cI]
  have hlast : b.getLast? = some (b[b.length - 1]'(by have := List.length_pos_iff.2 h0; omega)) := by
   rw [List.getLast?_eq_getElem?, List.getElem?_eq_getElem]
  by_cases hz : b[b.length - 1]'(by have := List.length_pos_iff.2 h0; omega) = 0
  ·rw [if_neg (by rw [hz]; decide), Jb, Uz (by omega), Jb]
   have ht : b.take ((b.length - 1 : Nat) : Int).toNat = b.dropLast := by
    rw [Int.toNat_natCast, List.dropLast_eq_take]
   rw [ht]
   unfold W8 Y2 gIxB
   rw [Jb, Jb, Jb, cI]
   have hm := (ixB_mem 0 b.dropLast).2
   have hcond : ¬ (b = [] ∨ b.getLast? ≠ some 0) := by
    rintro (h | h)
    ·exact h0 h
    ·exact h (by rw [hlast, hz])
   rw [if_neg hcond]
   by_cases hm0 : (0 : UInt8) ∈ b.dropLast
   ·rw [if_pos (show 0 ≤ ixB b.dropLast (Int.toNat 0).toUInt8 from hm.2 hm0)]
    simp only [if_pos hm0]
    exact ⟨_, _, _, rfl, (hfl 9).symm, fun h => absurd h (by decide)⟩
   ·rw [if_neg (show ¬ 0 ≤ ixB b.dropLast (Int.toNat 0).toUInt8 from fun h => hm0 (hm.1 h))]
    simp only [if_neg hm0]
    exact ⟨_, _, _, rfl, hno.symm, fun _ => ⟨rfl, ⟨e1, e2, e3, rfl⟩⟩⟩
  ·have hnz : ((b[b.length - 1]'(by have := List.length_pos_iff.2 h0; omega)).toNat : Int) ≠ 0 := fun h => hz (UInt8.toNat_inj.1 (by show _ = 0; omega))
   rw [if_pos hnz, if_pos (.inr (by rw [hlast]; simpa using hz))]
   exact ⟨_, _, _, rfl, (hfl 1).symm, fun h => absurd h (by decide)⟩
 rw [if_neg h2, if_neg h2]
 by_cases h7 : k = 7
 ·subst h7
  rw [if_pos rfl, if_pos rfl]
  exact ⟨_, _, _, rfl, hno.symm, fun _ => ⟨rfl, ⟨e1, e2, e3, rfl⟩⟩⟩
 rw [if_neg h7, if_neg h7]
 by_cases h5 : k = 5
 ·subst h5
  have hw8 : J5 5 = 8 := rfl
  rw [hw8] at hbl hp
  rw [if_pos rfl, if_pos rfl, Rrat_loop q a1 key 5 _ m1 m2 c b [] (by omega) (by omega) (by simp; omega), List.nil_append]
  exact ⟨_, _, _, rfl, hno.symm, fun _ => ⟨by rw [e2], ⟨e1, e2, e3, rfl⟩⟩⟩
 ·obtain ⟨w4, w1⟩ := wide_pos hw h2 h7 h5
  rw [if_neg h5, if_neg h5, Rint_loop q a1 key k _ m1 m2 ⟨w1, w4⟩ c b [] hbl (by omega) (by simp; omega), List.nil_append]
  exact ⟨_, _, _, rfl, hno.symm, fun _ => ⟨by rw [e2], ⟨e1, e2, e3, rfl⟩⟩⟩
abbrev Je6 := (Te × Int × Int × Int × Bool × List UInt8) → Option (List Ta × Int × Int × Te)
theorem Jbj {r : Tb} (h : r.no_ = 0) (e : Int) : (fl r e).no_ = e := by unfold fl; rw [if_pos h]
theorem valR_far {r : Tb} {k : Int} {c a : Nat} (h : 4 < c * J5 k) : valR r k c a = if 8 ≤ J0 r a 4 ∧ J0 r a 4 + c * J5 k ≤ r.s_.length then valT ⟨r.s_, r.big_, r.parts_ ++ [⟨(J0 r a 4 : Int), ((J0 r a 4 + c * J5 k : Nat) : Int)⟩], r.seen_, r.dirs_, r.found_, r.no_⟩ k c ((r.s_.drop (J0 r a 4)).take (c * J5 k)) else (⟨0, [], [], [], []⟩, fl r 2) := by
 unfold valR; rw [if_pos h]
theorem valR_near {r : Tb} {k : Int} {c a : Nat} (h : ¬ 4 < c * J5 k) : valR r k c a = valT r k c ((r.s_.drop a).take (c * J5 k)) := by
 unfold valR; rw [if_neg h]
theorem Rval_eq (self : Je6) (r : Tb) (q : Te) (hq : Same r q) (hno : r.no_ = 0) {a : Nat} (deep : Int) (key : List UInt8) (ha : a + 12 ≤ r.s_.length) (hs : r.s_.length ≤ 65000) (hp : r.parts_.length ≤ 7999999999999)
  (h13 : (J0 r (a + 2) 2 : Int) ≠ 13) (h0 : J5 (J0 r (a + 2) 2 : Int) ≠ 0) :
  ∃ v e q', Xl self q (a : Int) deep key = some (v, e, q') ∧ e = (valR r (J0 r (a + 2) 2 : Int) (J0 r (a + 4) 4) (a + 8)).2.no_ ∧
   (e = 0 → v = (valR r (J0 r (a + 2) 2 : Int) (J0 r (a + 4) 4) (a + 8)).1 ∧ Same (valR r (J0 r (a + 2) 2 : Int) (J0 r (a + 4) 4) (a + 8)).2 q') := by
 have e1 := hq.s
 have e2 := hq.big
 have hc4 := v4 r (a + 4)
 have hk2 := v2 r (a + 2)
 have hf4 := v4 r (a + 8)
 have r2 : Qw q ((a + 2 : Nat) : Int) 2 = some (J0 r (a + 2) 2 : Int) := by rw [Rat2 q (by rw [e1]; omega) (by rw [e1]; omega), e1, e2]
 have r4 : Qw q ((a + 4 : Nat) : Int) 4 = some (J0 r (a + 4) 4 : Int) := by rw [Rat4 q (by rw [e1]; omega) (by rw [e1]; omega), e1, e2]
 have r8 : Qw q ((a + 8 : Nat) : Int) 4 = some (J0 r (a + 8) 4 : Int) := by rw [Rat4 q (by rw [e1]; omega) (by rw [e1]; omega), e1, e2]
 unfold Xl
 rw [Jr (by omega), Jb, show (a : Int) + 2 = ((a + 2 : Nat) : Int) by omega, r2, Jb, Jr (by omega), Jb, show (a : Int) + 4 = ((a + 4 : Nat) : Int) by omega, r4, Jb, Jr (by omega), Jb, show (a : Int) + 8 = ((a + 8 : Nat) : Int) by omega, r8, Jb, Jfx, Jb, if_neg h13, cI, if_neg (by omega), cI, if_neg h13, Jb]
 have hw8 := Jal (J0 r (a + 2) 2 : Int)
 have hcw : J0 r (a + 4) 4 * J5 (J0 r (a + 2) 2 : Int) ≤ 4294967295 * 8 := Nat.mul_le_mul hc4 hw8
 rw [show ((J0 r (a + 4) 4 : Nat) : Int) * ((J5 (J0 r (a + 2) 2 : Int) : Nat) : Int) = ((J0 r (a + 4) 4 * J5 (J0 r (a + 2) 2 : Int) : Nat) : Int) by rw [Int.natCast_mul], Jr (by omega), Jb, cI, hq.parts]
 by_cases h4 : 4 < J0 r (a + 4) 4 * J5 (J0 r (a + 2) 2 : Int)
 ·rw [if_pos (by omega), valR_far h4, Rin_eq q (by rw [e1]; omega), e1, Jb]
  by_cases ht : 8 ≤ J0 r (a + 8) 4 ∧ J0 r (a + 8) 4 + J0 r (a + 4) 4 * J5 (J0 r (a + 2) 2 : Int) ≤ r.s_.length
  ·rw [decide_eq_true ht, Bool.not_true, Jx, Jr (by omega), Jb, Ya (by simp; omega), Jb, Jb, if_pos ht]
   exact Rval_j1 r q hq hno (a : Int) key (r.parts_ ++ [⟨(J0 r (a + 8) 4 : Int), ((J0 r (a + 8) 4 + J0 r (a + 4) 4 * J5 (J0 r (a + 2) 2 : Int) : Nat) : Int)⟩]) (J0 r (a + 8) 4 : Int) ((J0 r (a + 8) 4 : Int) + ((J0 r (a + 4) 4 * J5 (J0 r (a + 2) 2 : Int) : Nat) : Int)) h0 h13 ht.2 hs
  ·rw [decide_eq_false ht, Bool.not_false, J9, if_neg ht]
   exact ⟨_, _, _, rfl, (Jbj hno 2).symm, fun h => absurd h (by decide)⟩
 ·rw [if_neg (by omega), valR_near h4]
  exact Rval_j1 r q hq hno (a : Int) key r.parts_ 0 0 h0 h13 (by omega) hs
end Go.M

/- The reference reads octets, beside the program, in plain Lean: directories. Conditions: none. -/
namespace Go.M
open Go.Md Go.Pl
set_option linter.unusedVariables false
theorem decD_len (u : Nat) (k : Nat) (h : u < 10 ^ (k + 1)) : (decD u).length ≤ k + 1 := by
 induction k generalizing u with
 | zero => unfold decD; rw [if_pos (by omega)]; simp
 | succ k ih =>
  unfold decD
  split
  ·simp
  ·rw [List.length_append]
   have := ih (u / 10) (by rw [Nat.pow_succ] at h; omega)
   simp; omega
theorem Ji7 {n : Int} (h : 0 ≤ n ∧ n ≤ 99999) : gItoa n = some (itoaL n) ∧ (itoaL n).length ≤ 5 := by
 refine ⟨if_pos (by omega), ?_⟩
 unfold itoaL
 rw [if_neg (by omega)]
 exact decD_len _ 4 (by omega)
def SimD (d : Nat) (self : Uw) (selfQ : Je6) : Prop := ∀ (r : Tb) (q : Te) (pl : Nat) (path : List Int) (number : Int) (inner : Bool) (key : List UInt8), Same r q → r.no_ = 0 → 0 < path.length → path.length + d = 6 → pl ≤ 4294967295 → r.s_.length ≤ 65000 → r.parts_.length + cap d ≤ 7999999999999 → r.found_ ≤ 1 →
 (20 ≤ number ↔ 20 < r.dirs_) → inner = decide (1 < path.length) → key.length + 100 * d ≤ 10000 → ∀ (l : List Ta) (nx : Int) (r' : Tb), self (r, (pl : Int), path) = some (l, nx, r') →
  ∃ l2 nx2 e q', selfQ (q, (pl : Int), (path.length : Int), number, inner, key) = some (l2, nx2, e, q') ∧ e = r'.no_ ∧ (e = 0 → l2 = l ∧ nx2 = nx ∧ Same r' q')
theorem ent_sim {d : Nat} {self : Uw} {selfQ : Je6} (G : SimD d self selfQ) (r : Tb) (q : Te) {a : Nat} {path : List Int} (hq : Same r q) (hno : r.no_ = 0) (hpl : path.length + d + 1 = 6) (ha : a + 12 ≤ r.s_.length) (hs : r.s_.length ≤ 65000) (hp : r.parts_.length + (1 + cap d) ≤ 7999999999999) (hf : r.found_ ≤ 1)
  (h20 : r.dirs_ ≤ 20) (key : List UInt8) (hk : key.length + 100 * d ≤ 10000) (hpos : 0 < path.length) {en : Ta} {r' : Tb} (he : entR self r a path = some (en, r')) :
  en.Tag = (J0 r a 2 : Int) ∧ ∃ v e q', Xl selfQ q (a : Int) (path.length : Int) key = some (v, e, q') ∧ e = r'.no_ ∧ (e = 0 → v = en.Value ∧ Same r' q') := by
 unfold entR at he
 by_cases h13 : (J0 r (a + 2) 2 : Int) = 13
 ·rw [if_pos h13] at he
  have e1 := hq.s
  have e2 := hq.big
  have r2 : Qw q ((a + 2 : Nat) : Int) 2 = some (J0 r (a + 2) 2 : Int) := by rw [Rat2 q (by rw [e1]; omega) (by rw [e1]; omega), e1, e2]
  have r4 : Qw q ((a + 4 : Nat) : Int) 4 = some (J0 r (a + 4) 4 : Int) := by rw [Rat4 q (by rw [e1]; omega) (by rw [e1]; omega), e1, e2]
  have r8 : Qw q ((a + 8 : Nat) : Int) 4 = some (J0 r (a + 8) 4 : Int) := by rw [Rat4 q (by rw [e1]; omega) (by rw [e1]; omega), e1, e2]
  unfold Xl
  rw [Jr (by omega), Jb, show (a : Int) + 2 = ((a + 2 : Nat) : Int) by omega, r2, Jb, Jr (by omega), Jb, show (a : Int) + 4 = ((a + 4 : Nat) : Int) by omega, r4, Jb, Jr (by omega), Jb, show (a : Int) + 8 = ((a + 8 : Nat) : Int) by omega, r8, Jb, Jfx, Jb, if_pos h13, cI, if_neg (by decide), cI, if_pos h13, cI]
  by_cases h1 : J0 r (a + 4) 4 = 1
  ·rw [if_pos h1] at he
   rw [if_neg (by omega), Jr (by omega), Jb]
   obtain ⟨⟨l, nx, rr⟩, h2, h3⟩ := Je he
   cases h3
   refine ⟨rfl, ?_⟩
   have hsame : Same r ⟨q.s_, q.big_, q.starts_, q.parts_, Z5 q.places_ key (⟨(a : Int), 0, 0⟩ : Ti)⟩ := ⟨hq.s, hq.big, hq.seen, hq.parts⟩
   obtain ⟨l2, nx2, e, q', g1, g2, g3⟩ := G r _ (J0 r (a + 8) 4) (path ++ [(J0 r a 2 : Int)]) 0 true key hsame hno (by simp) (by simp; omega) (v4 _ _) hs (by omega) hf (by omega) (by simp; omega) hk l nx _ h2
   rw [show (path.length : Int) + 1 = ((path ++ [(J0 r a 2 : Int)]).length : Int) by simp, g1, Jb]
   refine ⟨_, _, _, rfl, g2, fun h => ?_⟩
   obtain ⟨a1, _, a3⟩ := g3 h
   exact ⟨by rw [a1, h13], a3⟩
  ·rw [if_neg h1] at he
   cases he
   rw [if_pos (by omega)]
   exact ⟨rfl, _, _, _, rfl, (Jbj hno 1).symm, fun h => absurd h (by decide)⟩
 ·rw [if_neg h13] at he
  by_cases h0 : J5 (J0 r (a + 2) 2 : Int) = 0
  ·rw [if_pos h0] at he
   cases he
   have e1 := hq.s
   have e2 := hq.big
   have r2 : Qw q ((a + 2 : Nat) : Int) 2 = some (J0 r (a + 2) 2 : Int) := by rw [Rat2 q (by rw [e1]; omega) (by rw [e1]; omega), e1, e2]
   have r4 : Qw q ((a + 4 : Nat) : Int) 4 = some (J0 r (a + 4) 4 : Int) := by rw [Rat4 q (by rw [e1]; omega) (by rw [e1]; omega), e1, e2]
   have r8 : Qw q ((a + 8 : Nat) : Int) 4 = some (J0 r (a + 8) 4 : Int) := by rw [Rat4 q (by rw [e1]; omega) (by rw [e1]; omega), e1, e2]
   unfold Xl
   rw [Jr (by omega), Jb, show (a : Int) + 2 = ((a + 2 : Nat) : Int) by omega, r2, Jb, Jr (by omega), Jb, show (a : Int) + 4 = ((a + 4 : Nat) : Int) by omega, r4, Jb, Jr (by omega), Jb, show (a : Int) + 8 = ((a + 8 : Nat) : Int) by omega, r8, Jb, Jfx, Jb, if_neg h13, cI, if_pos (by omega)]
   exact ⟨rfl, _, _, _, rfl, (Jbj hno 10).symm, fun h => absurd h (by decide)⟩
  ·rw [if_neg h0] at he
   cases he
   refine ⟨rfl, ?_⟩
   exact Rval_eq selfQ r q hq hno (path.length : Int) key ha hs (by omega) h13 h0
noncomputable def loopQ (self : Je6) (pl deep : Int) (key : List UInt8) (nxt cnt i : Int) (q : Te) (l : List Ta) : Option (List Ta × Int × Int × Te) :=
 Zs (fun next3 s => Xh self next3 s.1 s.2.1 s.2.2.1 s.2.2.2.1 s.2.2.2.2.1 s.2.2.2.2.2.1 s.2.2.2.2.2.2.1 s.2.2.2.2.2.2.2.1 s.2.2.2.2.2.2.2.2.1 s.2.2.2.2.2.2.2.2.2.1 s.2.2.2.2.2.2.2.2.2.2.1 s.2.2.2.2.2.2.2.2.2.2.2) (pl, deep, key, nxt, cnt, i, q.s_, q.big_, q.starts_, q.parts_, q.places_, l)
theorem loop_sim {d : Nat} {self : Uw} {selfQ : Je6} (H : DirOk d self) (G : SimD d self selfQ) {path : List Int} (hpl : path.length + d + 1 = 6) (hpos : 0 < path.length) (r : Tb) {pl nxt cnt : Nat} (hs : r.s_.length ≤ 65000) (hcnt : cnt ≤ 200) (hin : pl + 2 + 12 * cnt ≤ r.s_.length) (hp : r.parts_.length + cap (d + 1) ≤ 7999999999999) (hf : r.found_ ≤ 1) (h20 : r.dirs_ ≤ 20)
  (key : List UInt8) (hk : key.length + 100 * (d + 1) ≤ 10000) :
  ∀ (m i : Nat) (rc : Tb) (q : Te) (l : List Ta), i + m = cnt → l.length = i → Adds r rc (1 + i * (1 + cap d)) ((szD (d + 1) l : Nat) + 12 * m : Int) → rc.no_ = 0 → Same rc q →
   ∀ l' nx r', Jd2 self path pl nxt cnt i rc l = some (l', nx, r') → ∃ l2 nx2 e q', loopQ selfQ (pl : Int) (path.length : Int) key (nxt : Int) (cnt : Int) (i : Int) q l = some (l2, nx2, e, q') ∧ e = r'.no_ ∧ (e = 0 → l2 = l' ∧ nx2 = nx ∧ Same r' q') := by
 intro m
 have hcap : ∀ i, i ≤ 200 → 1 + i * (1 + cap d) ≤ cap (d + 1) := fun i hi => by
  show _ ≤ 1 + 200 * (1 + cap d)
  have := Nat.mul_le_mul_right (1 + cap d) hi; omega
 induction m with
 | zero =>
  intro i rc q l him hl hA hno hq l' nx r' hd
  rw [Jfm _ _ _ _ _ _ _ _ (.inl (by omega))] at hd
  cases hd
  refine ⟨l, (nxt : Int), 0, q, ?_, hno.symm, fun _ => ⟨rfl, rfl, hq⟩⟩
  refine Jz fun next => ?_
  show Xh selfQ next (pl : Int) (path.length : Int) key (nxt : Int) (cnt : Int) (i : Int) q.s_ q.big_ q.starts_ q.parts_ q.places_ l = _
  unfold Xh Jcz
  rw [cI, if_neg (by omega)]
 | succ m ih =>
  intro i rc q l him hl hA hno hq l' nx r' hd
  have hsl := hA.len
  have e1 := hq.s
  have e2 := hq.big
  have hin' : pl + 2 + 12 * cnt ≤ rc.s_.length := by omega
  have r2 : Qw q ((pl + 2 + 12 * i : Nat) : Int) 2 = some (J0 rc (pl + 2 + 12 * i) 2 : Int) := by rw [Rat2 q (by rw [e1]; omega) (by rw [e1]; omega), e1, e2]
  have hv2 := v2 rc (pl + 2 + 12 * i)
  by_cases hlow : ∃ h : 0 < i, (J0 rc (pl + 2 + 12 * i) 2 : Int) ≤ (l[i - 1]'(by omega)).Tag
  ·obtain ⟨h0, hlow⟩ := hlow
   rw [loop_low _ _ _ _ _ _ _ _ (by omega) hno h0 (by omega) hin' (by omega) hlow] at hd
   cases hd
   refine ⟨[], 0, 5, q, ?_, (Jbj hno 5).symm, fun h => absurd h (by decide)⟩
   refine Jz fun next => ?_
   show Xh selfQ next (pl : Int) (path.length : Int) key (nxt : Int) (cnt : Int) (i : Int) q.s_ q.big_ q.starts_ q.parts_ q.places_ l = _
   unfold Xh
   rw [cI, if_pos (by omega), Jr (by omega), Jb, Jr (by omega), Jb, Jr (by omega), Jb, show (pl : Int) + 2 + 12 * (i : Int) = ((pl + 2 + 12 * i : Nat) : Int) by omega]
   show Js (Qw q _ _) _ = _
   rw [r2, Jb, cI, if_pos (by omega), Jr (by omega), Jb, show (i : Int) - 1 = ((i - 1 : Nat) : Int) by omega, Xk (by omega), Jb, cI, if_pos hlow]
  ·have hi1 := hcap (i + 1) (by omega)
   rw [Nat.add_mul, Nat.one_mul] at hi1
   have hpr := hA.parts
   have hd20 : rc.dirs_ ≤ 20 := by rw [hA.2.2.1]; exact h20
   have hff : rc.found_ ≤ 1 := by rw [hA.2.2.2.1]; exact hf
   obtain ⟨en, r2', he, hA'⟩ := entR_adds H rc (a := pl + 2 + 12 * i) hpl (by omega) (by omega) hff
   rw [loop_next self path pl nxt cnt i rc l (by omega) hno hl (by omega) hin' (by omega) (fun h hh => hlow ⟨h, hh⟩) (by omega) hff (by omega) he] at hd
   obtain ⟨hit, hil⟩ := Ji7 (n := (J0 rc (pl + 2 + 12 * i) 2 : Int)) (by omega)
   obtain ⟨hT, v, e, q', g1, g2, g3⟩ := ent_sim G rc q (a := pl + 2 + 12 * i) hq hno hpl (by omega) (by omega) (by omega) hff hd20 (key ++ [32] ++ itoaL (J0 rc (pl + 2 + 12 * i) 2 : Int)) (by simp only [List.length_append, List.length_cons, List.length_nil]; omega) hpos he
   have step : ∀ next, Xh selfQ next (pl : Int) (path.length : Int) key (nxt : Int) (cnt : Int) (i : Int) q.s_ q.big_ q.starts_ q.parts_ q.places_ l =
     if e ≠ 0 then some ([], 0, e, q') else next ((pl : Int), (path.length : Int), key, (nxt : Int), (cnt : Int), ((i + 1 : Nat) : Int), q'.s_, q'.big_, q'.starts_, q'.parts_, q'.places_, l ++ [⟨(J0 rc (pl + 2 + 12 * i) 2 : Int), v⟩]) := by
    intro next
    have hj4 : Z1 selfQ (pl : Int) (path.length : Int) key (nxt : Int) (cnt : Int) (i : Int) q.s_ q.big_ q.starts_ q.parts_ q.places_ l next ((pl + 2 + 12 * i : Nat) : Int) (J0 rc (pl + 2 + 12 * i) 2 : Int) =
      if e ≠ 0 then some ([], 0, e, q') else next ((pl : Int), (path.length : Int), key, (nxt : Int), (cnt : Int), ((i + 1 : Nat) : Int), q'.s_, q'.big_, q'.starts_, q'.parts_, q'.places_, l ++ [⟨(J0 rc (pl + 2 + 12 * i) 2 : Int), v⟩]) := by
     unfold Z1
     rw [Vb (by simp; omega), Jb, hit, Jb, Vb (by simp only [List.length_append, List.length_cons, List.length_nil]; omega), Jb]
     show Js (Xl selfQ q _ _ _) _ = _
     rw [g1, Jb, cI]
     split
     ·rfl
     ·rw [Ya (by rw [hl]; simp; omega), Jb, Jr (by omega), Jb]; rfl
    unfold Xh
    rw [cI, if_pos (by omega), Jr (by omega), Jb, Jr (by omega), Jb, Jr (by omega), Jb, show (pl : Int) + 2 + 12 * (i : Int) = ((pl + 2 + 12 * i : Nat) : Int) by omega]
    show Js (Qw q _ _) _ = _
    rw [r2, Jb, cI]
    by_cases h0 : 0 < i
    ·rw [if_pos (by omega), Jr (by omega), Jb, show (i : Int) - 1 = ((i - 1 : Nat) : Int) by omega, Xk (by omega), Jb, cI, if_neg (fun h => hlow ⟨h0, h⟩), hj4]
    ·rw [if_neg (by omega), hj4]
   by_cases hz : e = 0
   ·obtain ⟨hv, hsame⟩ := g3 hz
    have hen : (⟨(J0 rc (pl + 2 + 12 * i) 2 : Int), v⟩ : Ta) = en := by
     rw [hv, ← hT]
     cases en; rfl
    have hno' : r2'.no_ = 0 := by rw [← g2, hz]
    obtain ⟨l2, nx2, e', q2, k1, k2, k3⟩ := ih (i + 1) r2' q' (l ++ [en]) (by omega) (by simp; omega) ((hA.trans hA').mono (by rw [Nat.add_mul, Nat.one_mul]; omega) (by rw [Ji5]; omega)) hno' hsame l' nx r' hd
    refine ⟨l2, nx2, e', q2, ?_, k2, k3⟩
    rw [← k1]
    refine Q2 _ fun next => ?_
    show Xh selfQ next (pl : Int) (path.length : Int) key (nxt : Int) (cnt : Int) (i : Int) q.s_ q.big_ q.starts_ q.parts_ q.places_ l = _
    rw [step, if_neg (by simp [hz]), hen]
   ·rw [Jfm _ _ _ _ _ _ _ _ (.inr (by rw [← g2]; exact hz))] at hd
    cases hd
    refine ⟨[], 0, e, q', ?_, g2, fun h => absurd h hz⟩
    refine Jz fun next => ?_
    show Xh selfQ next (pl : Int) (path.length : Int) key (nxt : Int) (cnt : Int) (i : Int) q.s_ q.big_ q.starts_ q.parts_ q.places_ l = _
    rw [step, if_pos hz]
theorem dir_sim {d : Nat} {self : Uw} {selfQ : Je6} (H : DirOk d self) (G : SimD d self selfQ) (r : Tb) (q : Te) (pl : Nat) (path : List Int) (number : Int) (inner : Bool) (key : List UInt8) (hq : Same r q) (hno : r.no_ = 0) (hpl : path.length + d + 1 = 6) (hpos : 0 < path.length) (hb : pl ≤ 4294967295) (hs : r.s_.length ≤ 65000) (hp : r.parts_.length + cap (d + 1) ≤ 7999999999999) (hf : r.found_ ≤ 1)
  (h20 : 20 ≤ number ↔ 20 < r.dirs_) (hin : inner = decide (1 < path.length)) (hk : key.length + 100 * (d + 1) ≤ 10000) {l : List Ta} {nx : Int} {r' : Tb} (hd : dirR self r pl path = some (l, nx, r')) :
  ∃ l2 nx2 e q', Qs selfQ q (pl : Int) (path.length : Int) number inner key = some (l2, nx2, e, q') ∧ e = r'.no_ ∧ (e = 0 → l2 = l ∧ nx2 = nx ∧ Same r' q') := by
 have e1 := hq.s
 have e2 := hq.big
 have e3 := hq.seen
 unfold dirR at hd
 unfold Qs
 rw [show (2 : Int) = ((2 : Nat) : Int) from rfl, Rin_eq q (by rw [e1]; omega), e1, Jb, show ((2 : Nat) : Int) = 2 from rfl]
 by_cases ht : 8 ≤ pl ∧ pl + 2 ≤ r.s_.length
 rotate_left
 ·rw [if_pos ht] at hd
  cases hd
  rw [decide_eq_false ht, Bool.not_false, J9]
  exact ⟨_, _, _, _, rfl, (Jbj hno 2).symm, fun h => absurd h (by decide)⟩
 rw [if_neg (by simp [ht])] at hd
 rw [decide_eq_true ht, Bool.not_true, Jx, e3]
 by_cases hsn : (mGet r.seen_ (pl : Int)).getD false = true
 ·rw [if_pos hsn] at hd
  cases hd
  rw [hsn, J9]
  exact ⟨_, _, _, _, rfl, (Jbj hno 13).symm, fun h => absurd h (by decide)⟩
 rw [if_neg hsn] at hd
 rw [Bool.not_eq_true _ |>.mp hsn, Jx]
 have hv := v2 r pl
 have r2 : ∀ (st : List (Int × Bool)), Qw ⟨q.s_, q.big_, st, q.parts_, q.places_⟩ (pl : Int) 2 = some (J0 r pl 2 : Int) := fun st => by
  rw [Rat2 _ (by show _ ≤ q.s_.length; rw [e1]; omega) (by show q.s_.length ≤ _; rw [e1]; omega)]
  show some ((Ja6 q.big_ ((q.s_.drop pl).take 2) : Nat) : Int) = _
  rw [e1, e2]
 rw [show Qw (⟨r.s_, q.big_, Z5 r.seen_ (pl : Int) true, q.parts_, q.places_⟩ : Te) (pl : Int) 2 = some (J0 r pl 2 : Int) by rw [← e1]; exact r2 _, Jb, cI, cI, cI]
 by_cases hl : 20 < r.dirs_ ∨ 5 < path.length ∨ 200 < J0 r pl 2
 ·rw [if_pos hl] at hd
  cases hd
  have hans : ∀ x : Te, ∃ l2 nx2 e q', (some (([] : List Ta), (0 : Int), (4 : Int), x)) = some (l2, nx2, e, q') ∧ e = (fl r 4).no_ ∧ (e = 0 → l2 = [] ∧ nx2 = 0 ∧ Same (fl r 4) q') := fun x => ⟨_, _, _, _, rfl, (Jbj hno 4).symm, fun h => absurd h (by decide)⟩
  by_cases h1 : 20 < r.dirs_
  ·rw [if_pos (h20.2 h1)]; exact hans _
  ·rw [if_neg (fun h => h1 (h20.1 h))]
   by_cases h2 : 5 < path.length
   ·rw [if_pos (by omega)]; exact hans _
   ·rw [if_neg (by omega), if_pos (by omega)]; exact hans _
 rw [if_neg hl] at hd
 rw [if_neg (fun h => hl (.inl (h20.1 h))), if_neg (by omega), if_neg (by omega), Jr (by omega), Jb, Jr (by omega), Jb, Jr (by omega), Jb,
  show (2 : Int) + 12 * (J0 r pl 2 : Int) + 4 = ((2 + 12 * J0 r pl 2 + 4 : Nat) : Int) by omega, Rin_eq _ hs, Jb]
 by_cases hb2 : pl + (2 + 12 * J0 r pl 2 + 4) ≤ r.s_.length
 rotate_left
 ·rw [if_pos hb2] at hd
  cases hd
  rw [decide_eq_false (by show ¬ (8 ≤ pl ∧ pl + (2 + 12 * J0 r pl 2 + 4) ≤ r.s_.length); omega), Bool.not_false, J9]
  exact ⟨_, _, _, _, rfl, (Jbj hno 2).symm, fun h => absurd h (by decide)⟩
 rw [if_neg (by omega), if_neg (by simp [hno])] at hd
 rw [decide_eq_true (show 8 ≤ pl ∧ pl + (2 + 12 * J0 r pl 2 + 4) ≤ r.s_.length by omega), Bool.not_true, Jx, Jr (by omega), Jb, Jb, Jr (by omega), Jb, Jr (by omega), Jb,
  Ya (by rw [hq.parts]; simp; omega), Jb, Jb, Jb, Jr (by omega), Jb, show (pl : Int) + 2 + 12 * (J0 r pl 2 : Int) = ((pl + 2 + 12 * J0 r pl 2 : Nat) : Int) by omega,
  show ((pl + 2 + 12 * J0 r pl 2 : Nat) : Int) + 4 = ((pl + (2 + 12 * J0 r pl 2 + 4) : Nat) : Int) by omega]
 have r4 : ∀ (st : List (Int × Bool)) (ps : List Td), Qw ⟨r.s_, q.big_, st, ps, q.places_⟩ ((pl + 2 + 12 * J0 r pl 2 : Nat) : Int) 4 = some (J0 r (pl + 2 + 12 * J0 r pl 2) 4 : Int) := fun st ps => by
  rw [Rat4 _ (by show _ ≤ r.s_.length; omega) (by show r.s_.length ≤ _; omega)]
  show some ((Ja6 q.big_ ((r.s_.drop _).take 4) : Nat) : Int) = _
  rw [e2]
 rw [r4, Jb]
 have hpart := Adds.part r ⟨(pl : Int), ((pl + (2 + 12 * J0 r pl 2 + 4) : Nat) : Int)⟩ (Z5 r.seen_ (pl : Int) true) ⟨by simp only; omega, by simp only; omega, by simp only; omega⟩
 generalize hnx : J0 r (pl + 2 + 12 * J0 r pl 2) 4 = nxt at hd ⊢
 by_cases hform : 1 < path.length ∧ nxt ≠ 0
 ·rw [if_pos hform, Jfm _ _ _ _ _ _ _ _ (.inr (Jb3 _ (by decide)))] at hd
  cases hd
  rw [hin, decide_eq_true hform.1, J9, cI, if_pos (by omega)]
  exact ⟨_, _, _, _, rfl, by unfold fl; rw [if_pos hno], fun h => absurd h (by decide)⟩
 ·rw [if_neg hform] at hd
  have hj1 : Y0 q (pl : Int) (path.length : Int) key selfQ (J0 r pl 2 : Int) (q.parts_ ++ [⟨(pl : Int), ((pl + (2 + 12 * J0 r pl 2 + 4) : Nat) : Int)⟩]) (nxt : Int) =
    loopQ selfQ (pl : Int) (path.length : Int) key (nxt : Int) (J0 r pl 2 : Int) ((0 : Nat) : Int) ⟨q.s_, q.big_, Z5 q.starts_ (pl : Int) true, q.parts_ ++ [⟨(pl : Int), ((pl + (2 + 12 * J0 r pl 2 + 4) : Nat) : Int)⟩], q.places_⟩ [] := rfl
  have run := loop_sim H G hpl hpos r (pl := pl) (nxt := nxt) (cnt := J0 r pl 2) hs (by omega) (by omega) hp hf (by omega) key hk (J0 r pl 2) 0 _ ⟨q.s_, q.big_, Z5 q.starts_ (pl : Int) true, q.parts_ ++ [⟨(pl : Int), ((pl + (2 + 12 * J0 r pl 2 + 4) : Nat) : Int)⟩], q.places_⟩ [] (by omega) rfl
   (hpart.mono (by omega) (by rw [Jd1]; simp only; omega)) hno ⟨hq.s, hq.big, by show Z5 q.starts_ _ _ = Z5 r.seen_ _ _; rw [e3], by show q.parts_ ++ _ = hdP :: (r.parts_ ++ _); rw [hq.parts]; rfl⟩ l nx r' hd
  rw [← hj1] at run
  have go : Qa inner (Qa (decide ((nxt : Int) ≠ 0)) (some (([] : List Ta), (0 : Int), (1 : Int), (⟨r.s_, q.big_, Z5 r.seen_ (pl : Int) true, q.parts_ ++ [⟨(pl : Int), ((pl + (2 + 12 * J0 r pl 2 + 4) : Nat) : Int)⟩], q.places_⟩ : Te))) (Y0 q (pl : Int) (path.length : Int) key selfQ (J0 r pl 2 : Int) (q.parts_ ++ [⟨(pl : Int), ((pl + (2 + 12 * J0 r pl 2 + 4) : Nat) : Int)⟩]) (nxt : Int)))
    (Y0 q (pl : Int) (path.length : Int) key selfQ (J0 r pl 2 : Int) (q.parts_ ++ [⟨(pl : Int), ((pl + (2 + 12 * J0 r pl 2 + 4) : Nat) : Int)⟩]) (nxt : Int)) =
    Y0 q (pl : Int) (path.length : Int) key selfQ (J0 r pl 2 : Int) (q.parts_ ++ [⟨(pl : Int), ((pl + (2 + 12 * J0 r pl 2 + 4) : Nat) : Int)⟩]) (nxt : Int) := by
   cases inner with
   | false => rfl
   | true =>
    have h1 : 1 < path.length := of_decide_eq_true hin.symm
    rw [J9, cI, if_neg (by have := hform; omega)]
  rw [go]
  exact run
theorem dirQ_zero {selfQ : Je6} (self : Uw) (r : Tb) (q : Te) (pl : Nat) (path : List Int) (number : Int) (inner : Bool) (key : List UInt8) (hq : Same r q) (hno : r.no_ = 0) (hpl : path.length = 6) (hb : pl ≤ 4294967295) (hs : r.s_.length ≤ 65000)
  (h20 : 20 ≤ number ↔ 20 < r.dirs_) {l : List Ta} {nx : Int} {r' : Tb} (hd : dirR self r pl path = some (l, nx, r')) :
  ∃ l2 nx2 e q', Qs selfQ q (pl : Int) (path.length : Int) number inner key = some (l2, nx2, e, q') ∧ e = r'.no_ ∧ (e = 0 → l2 = l ∧ nx2 = nx ∧ Same r' q') := by
 have e1 := hq.s
 have e2 := hq.big
 have e3 := hq.seen
 unfold dirR at hd
 unfold Qs
 rw [show (2 : Int) = ((2 : Nat) : Int) from rfl, Rin_eq q (by rw [e1]; omega), e1, Jb, show ((2 : Nat) : Int) = 2 from rfl]
 by_cases ht : 8 ≤ pl ∧ pl + 2 ≤ r.s_.length
 rotate_left
 ·rw [if_pos ht] at hd
  cases hd
  rw [decide_eq_false ht, Bool.not_false, J9]
  exact ⟨_, _, _, _, rfl, (Jbj hno 2).symm, fun h => absurd h (by decide)⟩
 rw [if_neg (by simp [ht])] at hd
 rw [decide_eq_true ht, Bool.not_true, Jx, e3]
 by_cases hsn : (mGet r.seen_ (pl : Int)).getD false = true
 ·rw [if_pos hsn] at hd
  cases hd
  rw [hsn, J9]
  exact ⟨_, _, _, _, rfl, (Jbj hno 13).symm, fun h => absurd h (by decide)⟩
 rw [if_neg hsn, if_pos (.inr (.inl (by omega)))] at hd
 cases hd
 rw [Bool.not_eq_true _ |>.mp hsn, Jx]
 have r2 : Qw ⟨r.s_, q.big_, Z5 r.seen_ (pl : Int) true, q.parts_, q.places_⟩ (pl : Int) 2 = some (J0 r pl 2 : Int) := by
  rw [Rat2 _ (by show _ ≤ r.s_.length; omega) (by show r.s_.length ≤ _; omega)]
  show some ((Ja6 q.big_ ((r.s_.drop pl).take 2) : Nat) : Int) = _
  rw [e2]
 rw [r2, Jb, cI, cI]
 split
 ·exact ⟨_, _, _, _, rfl, (Jbj hno 4).symm, fun h => absurd h (by decide)⟩
 ·rw [if_pos (by omega)]
  exact ⟨_, _, _, _, rfl, (Jbj hno 4).symm, fun h => absurd h (by decide)⟩
noncomputable abbrev dirFQ : Je6 → Je6 := fun self s => Qs self s.1 s.2.1 s.2.2.1 s.2.2.2.1 s.2.2.2.2.1 s.2.2.2.2.2
theorem it_sim : ∀ (d n m : Nat), d < n → d < m → SimD d (it dirF n) (it dirFQ m) := by
 intro d
 induction d with
 | zero =>
  intro n m hn hm r q pl path number inner key hq hno hp0 h6 hpl hs hp hf h20 hin hk l nx r' hd
  obtain ⟨n, rfl⟩ : ∃ k, n = k + 1 := ⟨n - 1, by omega⟩
  obtain ⟨m, rfl⟩ : ∃ k, m = k + 1 := ⟨m - 1, by omega⟩
  have hd : J7 (it dirF n) r (pl : Int) path = some (l, nx, r') := hd
  rw [Jgw _ r hpl hs (by omega)] at hd
  exact dirQ_zero _ r q pl path number inner key hq hno (by omega) hpl hs h20 hd
 | succ d ih =>
  intro n m hn hm r q pl path number inner key hq hno hp0 h6 hpl hs hp hf h20 hin hk l nx r' hd
  obtain ⟨n, rfl⟩ : ∃ k, n = k + 1 := ⟨n - 1, by omega⟩
  obtain ⟨m, rfl⟩ : ∃ k, m = k + 1 := ⟨m - 1, by omega⟩
  have hd : J7 (it dirF n) r (pl : Int) path = some (l, nx, r') := hd
  rw [Jgw _ r hpl hs (by omega)] at hd
  exact dir_sim (it_ok d n (by omega)) (ih n m (by omega) (by omega)) r q pl path number inner key hq hno (by omega) hp0 hpl hs hp hf h20 hin hk hd
theorem fix_cong {α ρ : Type} {F G : (α → Option ρ) → α → Option ρ} (I : α → Prop) (h : ∀ next next' a, I a → (∀ b, I b → next b = next' b) → F next a = G next' a) (a : α) (ha : I a) : Zs F a = Zs G a := by
 have key : ∀ n a, I a → it F n a = it G n a := by
  intro n
  induction n with
  | zero => intro a _; rfl
  | succ n ih => intro a ha; exact h _ _ a ha fun b hb => ih b hb
 by_cases hb : ∃ r k, ∀ n, k ≤ n → it F n a = some r
 ·obtain ⟨r, k, hk⟩ := hb
  rw [Jez (o := some r) (k := k) hk, Jez (o := some r) (k := k) fun n hn => by rw [← key n a ha]; exact hk n hn]
 ·have hg : ¬ ∃ r k, ∀ n, k ≤ n → it G n a = some r := by
   rintro ⟨r, k, hk⟩
   exact hb ⟨r, k, fun n hn => by rw [key n a ha]; exact hk n hn⟩
  unfold Zs
  rw [dif_neg hb, dif_neg hg]
theorem valueQ_congr {self self' : Je6} {deep : Int} (h : ∀ q f key, self (q, f, deep + 1, 0, true, key) = self' (q, f, deep + 1, 0, true, key)) (q : Te) (a : Int) (key : List UInt8) : Xl self q a deep key = Xl self' q a deep key := by
 unfold Xl
 refine Xt fun _ _ => Xt fun _ _ => Xt fun _ _ => Xt fun _ _ => Xt fun _ _ => Xt fun _ _ => Xt fun _ _ => Jab (fun _ => rfl) fun _ => Jab (fun _ => Jab (fun _ => rfl) fun _ => Xt fun t ht => ?_) fun _ => rfl
 obtain ⟨rfl, _⟩ := Jfw ht
 rw [h]
theorem dirQ_congr {self self' : Je6} {deep : Int} (h : ∀ q f key, self (q, f, deep + 1, 0, true, key) = self' (q, f, deep + 1, 0, true, key)) (q : Te) (pl : Int) (number : Int) (inner : Bool) (key : List UInt8) :
  Qs self q pl deep number inner key = Qs self' q pl deep number inner key := by
 have hv := valueQ_congr h
 have hj : ∀ a0 a1 a5 t36 l69 t78, Y0 a0 a1 deep a5 self t36 l69 t78 = Y0 a0 a1 deep a5 self' t36 l69 t78 := by
  intro a0 a1 a5 t36 l69 t78
  unfold Y0
  refine fix_cong (fun s => s.2.1 = deep) (fun next next' s hs hn => ?_) _ rfl
  obtain ⟨x1, x2, x3, x4, x5, x6, x7, x8, x9, x10, x11, x12⟩ := s
  have hs : x2 = deep := hs
  subst hs
  show Xh self next x1 x2 x3 x4 x5 x6 x7 x8 x9 x10 x11 x12 = Xh self' next' x1 x2 x3 x4 x5 x6 x7 x8 x9 x10 x11 x12
  have h4 : ∀ a b, Z1 self x1 x2 x3 x4 x5 x6 x7 x8 x9 x10 x11 x12 next a b = Z1 self' x1 x2 x3 x4 x5 x6 x7 x8 x9 x10 x11 x12 next' a b := by
   intro a b
   unfold Z1
   simp only [hv]
   exact Xt fun _ _ => Xt fun _ _ => Xt fun _ _ => Xt fun _ _ => Jab (fun _ => rfl) fun _ => Xt fun _ _ => Xt fun _ _ => hn _ rfl
  unfold Xh
  simp only [h4]
 unfold Qs
 simp only [hj]
theorem deepQ_congr {self self' : Je6} {deep : Int} (h : 5 < deep) (q : Te) (pl : Int) (number : Int) (inner : Bool) (key : List UInt8) : Qs self q pl deep number inner key = Qs self' q pl deep number inner key := by
 unfold Qs
 refine Xt fun t _ => Jab (fun _ => rfl) fun _ => Jab (fun _ => rfl) fun _ => Xt fun c _ => Jab (fun _ => rfl) fun _ => ?_
 rw [cI, if_pos h, cI, if_pos h]
theorem it_sameQ : ∀ (d n m : Nat), d < n → d < m → ∀ (q : Te) (pl deep number : Int) (inner : Bool) (key : List UInt8), deep + d = 6 → it dirFQ n (q, pl, deep, number, inner, key) = it dirFQ m (q, pl, deep, number, inner, key) := by
 intro d
 induction d with
 | zero =>
  intro n m hn hm q pl deep number inner key h6
  obtain ⟨n, rfl⟩ : ∃ k, n = k + 1 := ⟨n - 1, by omega⟩
  obtain ⟨m, rfl⟩ : ∃ k, m = k + 1 := ⟨m - 1, by omega⟩
  exact deepQ_congr (show 5 < deep by omega) q pl number inner key
 | succ d ih =>
  intro n m hn hm q pl deep number inner key h6
  obtain ⟨n, rfl⟩ : ∃ k, n = k + 1 := ⟨n - 1, by omega⟩
  obtain ⟨m, rfl⟩ : ∃ k, m = k + 1 := ⟨m - 1, by omega⟩
  exact dirQ_congr (fun q f key => ih n m (by omega) (by omega) q f (deep + 1) 0 true key (by omega)) q pl number inner key
theorem dirQ_it (q : Te) (pl number : Int) (inner : Bool) (key : List UInt8) : Jau q pl 1 number inner key = it dirFQ 6 (q, pl, 1, number, inner, key) := by
 unfold Jau
 exact Jez (k := 6) fun n hn => it_sameQ 5 n 6 (by omega) (by omega) q pl 1 number inner key (by omega)
theorem top_sim (r : Tb) (q : Te) (pl : Nat) (path : List Int) (h1 : path.length = 1) (number : Int) (key : List UInt8) (hq : Same r q) (hno : r.no_ = 0) (hb : pl ≤ 4294967295) (hs : r.s_.length ≤ 65000) (hp : r.parts_.length + cap 5 ≤ 7999999999999) (hf : r.found_ ≤ 1)
  (h20 : 20 ≤ number ↔ 20 < r.dirs_) (hk : key.length ≤ 5) {l : List Ta} {nx : Int} {r' : Tb} (hd : Wh r (pl : Int) path = some (l, nx, r')) :
  ∃ l2 nx2 e q', Jau q (pl : Int) 1 number false key = some (l2, nx2, e, q') ∧ e = r'.no_ ∧ (e = 0 → l2 = l ∧ nx2 = nx ∧ Same r' q') := by
 rw [dir_it _ _ _ h1] at hd
 rw [dirQ_it]
 have := it_sim 5 6 6 (by omega) (by omega) r q pl path number false key hq hno (by omega) (by omega) hb hs hp hf h20 (by rw [h1]; rfl) (by omega) l nx r' hd
 rw [h1] at this
 exact this
end Go.M

/- The reference reads octets, beside the program, in plain Lean: parts in order, the whole file. Conditions: none. -/
namespace Go.M
open Go.Md Go.Pl
set_option linter.unusedVariables false
abbrev fromLe (x y : Td) : Prop := x.From ≤ y.From
def apartP (x y : Td) : Prop := x.To ≤ y.From ∨ y.To ≤ x.From
theorem apartP.symm {x y : Td} (h : apartP x y) : apartP y x := h.elim .inr .inl
theorem Jip {l : List Td} (hs : l.Pairwise fromLe) (hne : ∀ x ∈ l, x.From < x.To) : ¬ lapP l ↔ l.Pairwise apartP := by
 rw [List.pairwise_iff_getElem] at hs ⊢
 constructor
 ·intro h i j hi hj hij
  refine .inl ?_
  have h1 : ¬ (l[i + 1]'(by omega)).From < l[i].To := fun hh => h ⟨i, by omega, hh⟩
  rcases Nat.lt_or_ge (i + 1) j with h2 | h2
  ·have := hs (i + 1) j (by omega) hj h2
   unfold fromLe at this; omega
  ·have : j = i + 1 := by omega
   subst this; omega
 ·rintro h ⟨i, hi, hlt⟩
  have a1 := hs i (i + 1) (by omega) hi (by omega)
  have a2 := hne _ (List.getElem_mem (show i < l.length by omega))
  have a3 := hne _ (List.getElem_mem hi)
  unfold fromLe at a1
  rcases h i (i + 1) (by omega) hi (by omega) with h | h <;> omega
theorem lap_perm {a b : List Td} (p : a.Perm b) (ha : a.Pairwise fromLe) (hb : b.Pairwise fromLe) (hne : ∀ x ∈ a, x.From < x.To) : lapP a ↔ lapP b := by
 have h1 := Jip ha hne
 have h2 := Jip hb (fun x hx => hne x (p.mem_iff.2 hx))
 have h3 := p.pairwise_iff (R := apartP) (fun h => h.symm)
 have h4 : ¬ lapP a ↔ ¬ lapP b := by rw [h1, h2, h3]
 exact ⟨fun h => Classical.byContradiction fun hb => h4.2 hb h, fun h => Classical.byContradiction fun ha => h4.1 ha h⟩
theorem pw_ne {P : Td → Td → Prop} : ∀ {l : List Td}, l.Pairwise P → ∀ {x y}, x ∈ l → y ∈ l → x ≠ y → P x y ∨ P y x
 | [], _, x, y, hx, _, _ => by simp at hx
 | z :: l, h, x, y, hx, hy, hne => by
  obtain ⟨h1, h2⟩ := List.pairwise_cons.1 h
  rcases List.mem_cons.1 hx with ex | ex <;> rcases List.mem_cons.1 hy with ey | ey
  ·exact absurd (ex.trans ey.symm) hne
  ·subst ex; exact .inl (h1 y ey)
  ·subst ey; exact .inr (h1 x ex)
  ·exact pw_ne h2 ex ey hne
theorem sorts_same {a b : List Td} (p : a.Perm b) (ha : a.Pairwise fromLe) (hb : b.Pairwise fromLe) (hne : ∀ x ∈ a, x.From < x.To) (hl : ¬ lapP a) : a = b := by
 have hp := (Jip ha hne).1 hl
 refine List.Perm.eq_of_pairwise (le := fromLe) (fun x y hx hy h1 h2 => ?_) ha hb p
 refine Classical.byContradiction fun hxy => ?_
 have hy' := p.mem_iff.2 hy
 have n1 := hne x hx
 have n2 := hne y hy'
 unfold fromLe at h1 h2
 rcases pw_ne hp hx hy' hxy with h | h <;> rcases h with h | h <;> omega
theorem Jgo (x y : Td) : Ze x y = some (cmpI x.From y.From) := by
 unfold Ze
 rw [Jge, Jb]
theorem Jgp (x y : Td) : (Ze x y).getD 0 ≤ 0 ↔ x.From ≤ y.From := by
 rw [Jgo, Option.getD_some]; unfold cmpI
 (repeat' split) <;> omega
theorem froms_pre : CmpPre Ze where
 tot x y := ⟨_, Jgo x y⟩
 flip x y := by
  rw [Jgo, Jgo, Option.getD_some, Option.getD_some]; unfold cmpI
  (repeat' split) <;> omega
 trans x y z := by
  rw [Jgp, Jgp, Jgp]; omega
theorem order_of {n : Nat} {l d : List Td} (hok : ∀ x ∈ l, okS n x) (h : SortOf Ze (hdP :: l) d) : ∃ d', d = hdP :: d' ∧ d'.Perm l ∧ d'.Pairwise fromLe := by
 have hs : d.Pairwise fromLe := h.sorted.imp fun {x y} hxy => by
  unfold leC at hxy
  exact (Jgp x y).1 (of_decide_eq_true hxy)
 have hm : hdP ∈ d := h.perm.mem_iff.2 (by simp)
 cases d with
 | nil => simp at hm
 | cons z t =>
  have hz : z = hdP := by
   have hzm : z ∈ hdP :: l := h.perm.mem_iff.1 (by simp)
   rcases List.mem_cons.1 hzm with e | e
   ·exact e
   ·have h8 := (hok z e).1
    rcases List.mem_cons.1 hm with e2 | e2
    ·exact e2.symm
    ·have := (List.pairwise_cons.1 hs).1 hdP e2
     unfold fromLe hdP at this
     simp only at this; omega
  subst hz
  exact ⟨t, rfl, (List.perm_cons _).1 h.perm, (List.pairwise_cons.1 hs).2⟩
theorem lap_head {n : Nat} {t : List Td} (hok : ∀ x ∈ t, okS n x) : lapP (hdP :: t) ↔ lapP t := by
 constructor
 ·rintro ⟨i, hi, hlt⟩
  cases i with
  | zero =>
   have := (hok _ (List.getElem_mem (show 0 < t.length by simpa using hi))).1
   simp only [List.getElem_cons_succ, List.getElem_cons_zero] at hlt
   unfold hdP at hlt
   simp only at hlt; omega
  | succ i => exact ⟨i, by simpa using hi, by simpa using hlt⟩
 ·rintro ⟨i, hi, hlt⟩
  exact ⟨i + 1, by simpa using hi, by simpa using hlt⟩
abbrev AllR := Tf × Int × Te
open Classical in
theorem laps_loop {ρ : Type} (κ : AllR → Option ρ) (t : Int) (m : List UInt8) (m2 : Bool) (mp : List (Int × Bool)) (mp2 : List (List UInt8 × Ti)) (ls : List (List Ta)) (d : List Td) (hl : d.length ≤ 1099511627776000) :
  Zs (fun next4 s => Zj κ t m m2 mp mp2 ls d next4 s) 1 = if lapP d then κ (⟨false, []⟩, 6, ⟨m, m2, mp, d, mp2⟩) else Vo κ t m m2 mp mp2 ls d := by
 have key : ∀ k i : Nat, i + k = d.length → 1 ≤ i → Zs (fun next4 s => Zj κ t m m2 mp mp2 ls d next4 s) (i : Int) = if (∃ j : Nat, i ≤ j + 1 ∧ ∃ h : j + 1 < d.length, (d[j + 1]'h).From < (d[j]'(by omega)).To) then κ (⟨false, []⟩, 6, ⟨m, m2, mp, d, mp2⟩) else Vo κ t m m2 mp mp2 ls d := by
  intro k
  induction k with
  | zero =>
   intro i hi h1
   rw [if_neg (by rintro ⟨j, h2, h3, _⟩; omega)]
   refine Jz fun next => ?_
   unfold Zj
   rw [cI, if_neg (by omega)]
  | succ k ih =>
   intro i hi h1
   have hh : ∀ next : Int → Option ρ, Zj κ t m m2 mp mp2 ls d next (i : Int) = if (d[i]'(by omega)).From < (d[i - 1]'(by omega)).To then κ (⟨false, []⟩, 6, ⟨m, m2, mp, d, mp2⟩) else next ((i + 1 : Nat) : Int) := by
    intro next
    unfold Zj
    rw [cI, if_pos (by omega), Xk (by omega), Jb, Jr (by omega), Jb, show (i : Int) - 1 = ((i - 1 : Nat) : Int) by omega, Xk (by omega), Jb, cI]
    split
    ·rfl
    ·rw [Jr (by omega), Jb]; rfl
   by_cases hlap : (d[i]'(by omega)).From < (d[i - 1]'(by omega)).To
   ·rw [Jz (o := κ (⟨false, []⟩, 6, ⟨m, m2, mp, d, mp2⟩)) fun next => by rw [hh, if_pos hlap], if_pos]
    obtain ⟨k, rfl⟩ : ∃ k, i = k + 1 := ⟨i - 1, by omega⟩
    exact ⟨k, by omega, by omega, hlap⟩
   ·rw [Q2 (((i + 1 : Nat) : Int)) fun next => by rw [hh, if_neg hlap], ih (i + 1) (by omega) (by omega)]
    congr 1
    rw [eq_iff_iff]
    constructor
    ·rintro ⟨j, h2, h3⟩; exact ⟨j, by omega, h3⟩
    ·rintro ⟨j, h2, h3, h4⟩
     rcases Nat.lt_or_ge i (j + 1) with h5 | h5
     ·exact ⟨j, by omega, h3, h4⟩
     ·exfalso
      have : i = j + 1 := by omega
      subst this
      exact hlap h4
 rcases Nat.lt_or_ge d.length 1 with h0 | h0
 ·rw [if_neg (by rintro ⟨j, h3, _⟩; omega)]
  refine Jz fun next => ?_
  unfold Zj
  rw [cI, if_neg (by omega)]
 ·rw [show (1 : Int) = ((1 : Nat) : Int) from rfl, key (d.length - 1) 1 (by omega) (by omega)]
  congr 1
  rw [eq_iff_iff]
  constructor
  ·rintro ⟨j, _, h3⟩; exact ⟨j, h3⟩
  ·rintro ⟨j, h3⟩; exact ⟨j, by omega, h3⟩
def Goes (X : (ρ : Type) → (AllR → Option ρ) → Option ρ) (f : Tf) (ps : List Td) (e : Int) : Prop :=
 (e = 0 ∧ Je8 f ∧ Jfa f = 0 ∧ ∀ (ρ : Type) (κ : AllR → Option ρ) (o : ρ), (∀ q, q.parts_ = hdP :: ps → κ (f, 0, q) = some o) → X ρ κ = some o) ∨
 (e ≠ 0 ∧ f = ⟨false, []⟩ ∧ ps = [] ∧ ∀ (ρ : Type) (κ : AllR → Option ρ) (o : ρ), (∀ q, κ (⟨false, []⟩, e, q) = some o) → X ρ κ = some o)
theorem Goes.of_eq {X Y : (ρ : Type) → (AllR → Option ρ) → Option ρ} {f : Tf} {ps : List Td} {e : Int} (h : Goes Y f ps e) (hxy : ∀ ρ κ, X ρ κ = Y ρ κ) : Goes X f ps e := by
 have : X = Y := by funext ρ κ; exact hxy ρ κ
 rw [this]; exact h
open Classical in
theorem end_sim (t : Int) (r : Tb) (q : Te) (ls : List (List Ta)) (hq : Same r q) (hno : r.no_ = 0) (hs : 8 ≤ r.s_.length ∧ r.s_.length ≤ 65000) (hp : r.parts_.length ≤ 8000000000000) (hok : ∀ x ∈ r.parts_, okS r.s_.length x) (hsz : (((ls.map (szD 5)).sum : Nat) : Int) ≤ Jc0 r.parts_) (hl : ls.length ≤ 1000)
  {f : Tf} {ps : List Td} {e : Int} (h : W1 t r.s_ r.big_ r.dirs_ r.found_ r.no_ r.parts_ ls r.seen_ = some (f, ps, e)) :
  Goes (fun ρ κ => U8 κ t q.s_ q.big_ q.starts_ q.places_ q.parts_ ls) f ps e := by
 unfold W1 at h
 have hperm := List.mergeSort_perm r.parts_ (leC Qf)
 have hS : Jgb r.parts_ Qf = some (r.parts_.mergeSort (leC Qf)) := if_pos ⟨by omega, spans_ok⟩
 have hsort : (r.parts_.mergeSort (leC Qf)).Pairwise fromLe := (List.pairwise_mergeSort (le := leC Qf) spans_ok.letrans spans_ok.total r.parts_).imp fun {x y} hxy => by
  unfold leC at hxy
  have := (Jeb x y).1 (of_decide_eq_true hxy)
  unfold fromLe; omega
 rw [hS, Jb, cI] at h
 generalize r.parts_.mergeSort (leC Qf) = ps' at hperm hsort h
 have hlen : Jc0 ps' = Jc0 r.parts_ := lenS_perm hperm
 have hne : ∀ x ∈ ps', x.From < x.To := fun x hx => (hok x (hperm.mem_iff.1 hx)).2.1
 have hfail : ∀ e : Int, e ≠ 0 → Wc t ls ps' e = some (⟨false, []⟩, [], e) := fun e he => by unfold Wc; rw [cI, if_pos he]
 have way : ∀ (ρ : Type) (κ : AllR → Option ρ) (o : ρ), (∀ d', d'.Perm r.parts_ → d'.Pairwise fromLe → (if lapP d' then κ (⟨false, []⟩, 6, ⟨q.s_, q.big_, q.starts_, hdP :: d', q.places_⟩) else Vo κ t q.s_ q.big_ q.starts_ q.places_ ls (hdP :: d')) = some o) →
   U8 κ t q.s_ q.big_ q.starts_ q.places_ q.parts_ ls = some o := by
  intro ρ κ o hd
  unfold U8
  rw [hq.parts]
  refine gSortA_ok (by simp; omega) froms_pre fun d hsd => ?_
  obtain ⟨d', rfl, h1, h2⟩ := order_of hok hsd
  rw [laps_loop _ _ _ _ _ _ _ _ (by rw [List.length_cons, h1.length_eq]; omega)]
  rw [← hd d' h1 h2]
  congr 1
  exact propext (lap_head fun x hx => hok x (h1.mem_iff.1 hx))
 rw [if_pos hno, Jii _ (by rw [hperm.length_eq]; omega), Jb, cI] at h
 have hsame : ∀ d', d'.Perm r.parts_ → d'.Pairwise fromLe → (lapP d' ↔ lapP ps') := fun d' h1 h2 => (lap_perm (hperm.trans h1.symm) hsort h2 hne).symm
 by_cases hlap : lapP ps'
 ·rw [if_pos hlap] at h
  unfold V7 at h
  rw [cI, if_neg (by decide), hfail 6 (by decide)] at h
  cases h
  refine .inr ⟨by decide, rfl, rfl, fun ρ κ o ho => way ρ κ o fun d' h1 h2 => ?_⟩
  rw [if_pos ((hsame d' h1 h2).2 hlap)]
  exact ho _
 ·rw [if_neg hlap] at h
  have hsep : sepS r.s_.length 8 ps' := by
   refine sep_of (fun x hx => hok x (hperm.mem_iff.1 hx)) hlap (fun x hx => ?_) (by omega)
   exact (hok x (hperm.mem_iff.1 (List.mem_of_mem_head? hx))).1
  have hsum := (Jij hsep).2.2
  have hB : Je8 (⟨decide (t = 77), ls⟩ : Tf) := Jir (by show ls.length ≤ _; omega) (by show (ls.map (szD 5)).sum ≤ _; omega)
  have hd' : ∀ d', d'.Perm r.parts_ → d'.Pairwise fromLe → d' = ps' := fun d' h1 h2 => (sorts_same (hperm.trans h1.symm) hsort h2 hne hlap).symm
  unfold V7 at h
  rw [cI, if_pos hno, Jiz hB, Jb] at h
  by_cases he : Jfa (⟨decide (t = 77), ls⟩ : Tf) = 0
  ·unfold Wc at h
   rw [cI, if_neg (by simp [he])] at h
   cases h
   refine .inl ⟨rfl, hB, he, fun ρ κ o ho => way ρ κ o fun d' h1 h2 => ?_⟩
   rw [hd' d' h1 h2, if_neg hlap]
   unfold Vo
   rw [Jes hB, Jb, cI, if_neg (by simp [he])]
   exact ho _ rfl
  ·rw [hfail _ he] at h
   cases h
   refine .inr ⟨he, rfl, rfl, fun ρ κ o ho => way ρ κ o fun d' h1 h2 => ?_⟩
   rw [hd' d' h1 h2, if_neg hlap]
   unfold Vo
   rw [Jes hB, Jb, cI, if_pos he]
   exact ho _
noncomputable def rdLoopQ (ρ : Type) (κ : AllR → Option ρ) (t : Int) (nx : Int) (q : Te) (ls : List (List Ta)) : Option ρ :=
 Zs (fun next5 s => Y1 κ t next5 s.1 s.2.1 s.2.2.1 s.2.2.2.1 s.2.2.2.2.1 s.2.2.2.2.2.1 s.2.2.2.2.2.2) (nx, q.s_, q.big_, q.starts_, q.places_, q.parts_, ls)
theorem rd_sim (t : Int) : ∀ (m D nx : Nat) (r : Tb) (q : Te) (ls : List (List Ta)), D + m = 21 → nx ≤ 4294967295 → r.dirs_ = D → ls.length = D → D ≤ 20 → (8 ≤ r.s_.length ∧ r.s_.length ≤ 65000) → r.parts_.length ≤ D * 323216080401 → (∀ x ∈ r.parts_, okS r.s_.length x) → (((ls.map (szD 5)).sum : Nat) : Int) ≤ Jc0 r.parts_ → r.found_ ≤ 1 → Same r q → r.no_ = 0 →
  ∀ f ps e, rdLoop t nx r ls = some (f, ps, e) → Goes (fun ρ κ => rdLoopQ ρ κ t (nx : Int) q ls) f ps e := by
 have hcap : cap 5 = 323216080401 := by rfl
 intro m
 induction m with
 | zero => intro D nx r q ls hD _ _ _ h20; omega
 | succ m ih =>
  intro D nx r q ls hD hnx hd hl h20 hs hp hok hsz hf hq hno f ps e h
  by_cases h0 : nx = 0
  ·rw [rd_end _ _ _ _ (.inl h0)] at h
   refine (end_sim t r q ls hq hno hs (by omega) hok hsz (by omega) h).of_eq fun ρ κ => ?_
   refine Jz fun next => ?_
   show Y1 κ t next (nx : Int) q.s_ q.big_ q.starts_ q.places_ q.parts_ ls = _
   unfold Y1
   rw [cI, if_neg (by simp [h0])]
  ·obtain ⟨l, nx', r', h1, h2, h3, h4⟩ := dir_ok ⟨r.s_, r.big_, r.parts_, r.seen_, r.dirs_ + 1, r.found_, r.no_⟩ nx [(ls.length : Int)] rfl hnx hs.2 (by show r.parts_.length + cap 5 ≤ _; rw [hcap]; omega) hf
   rw [rd_next t nx r ls h0 hno (by omega) (by omega) h1] at h
   obtain ⟨hit, hil⟩ := Ji7 (n := (ls.length : Int)) (by omega)
   obtain ⟨l2, nx2, e', q', g1, g2, g3⟩ := top_sim ⟨r.s_, r.big_, r.parts_, r.seen_, r.dirs_ + 1, r.found_, r.no_⟩ q nx [(ls.length : Int)] rfl (ls.length : Int) (itoaL (ls.length : Int)) ⟨hq.s, hq.big, hq.seen, hq.parts⟩ hno hnx hs.2 (by show r.parts_.length + cap 5 ≤ _; rw [hcap]; omega) hf (by show _ ↔ 20 < r.dirs_ + 1; omega) hil h1
   have step : ∀ (ρ : Type) (κ : AllR → Option ρ) next, Y1 κ t next (nx : Int) q.s_ q.big_ q.starts_ q.places_ q.parts_ ls = if e' ≠ 0 then κ (⟨false, []⟩, e', q') else next (nx2, q'.s_, q'.big_, q'.starts_, q'.places_, q'.parts_, ls ++ [l2]) := by
    intro ρ κ next
    unfold Y1
    rw [cI, if_pos (by simpa using h0), hit, Jb]
    show Js (Jau q _ _ _ _ _) _ = _
    rw [g1, Jb, cI]
    split
    ·rfl
    ·rw [Ya (by simp; omega), Jb]
   by_cases hz : e' = 0
   ·obtain ⟨rfl, rfl, hsame⟩ := g3 hz
    have hlen' := h3.len
    have hsl : r'.s_.length = r.s_.length := hlen'
    have hpa := h3.parts
    rw [hcap] at hpa
    have hpa' : r'.parts_.length ≤ r.parts_.length + 323216080401 := hpa
    obtain ⟨k1, k2, k3, k4, new, k5, k6, k7, k8⟩ := h3
    have k5' : r'.parts_ = r.parts_ ++ new := k5
    have hno' : r'.no_ = 0 := by rw [← g2, hz]
    have h20' : D + 1 ≤ 20 := by
     refine Classical.byContradiction fun hh => ?_
     exact h4 (by show 20 < r.dirs_ + 1; omega) hno'
    have := ih (D + 1) nx' r' q' (ls ++ [l2]) (by omega) h2 (by have : r'.dirs_ = r.dirs_ + 1 := k3; omega) (by simp; omega) h20' (by omega) (by omega) (by
     intro x hx
     rw [k5'] at hx
     rw [hsl]
     rcases List.mem_append.1 hx with hx | hx
     ·exact hok x hx
     ·exact k6 x hx) (by
     rw [k5', Jjd, List.map_append, List.sum_append]
     simp only [List.map_cons, List.map_nil, List.sum_cons, List.sum_nil]
     omega) (by have : r'.found_ = r.found_ := k4; omega) hsame hno' f ps e h
    refine this.of_eq fun ρ κ => ?_
    refine Q2 _ fun next => ?_
    show Y1 κ t next (nx : Int) q.s_ q.big_ q.starts_ q.places_ q.parts_ ls = _
    rw [step, if_neg (by simp [hz])]
   ·have hno' : r'.no_ ≠ 0 := by rw [← g2]; exact hz
    have hX : ∀ (ρ : Type) (κ : AllR → Option ρ), rdLoopQ ρ κ t (nx : Int) q ls = κ (⟨false, []⟩, e', q') := fun ρ κ => by
     refine Jz fun next => ?_
     show Y1 κ t next (nx : Int) q.s_ q.big_ q.starts_ q.places_ q.parts_ ls = _
     rw [step, if_pos hz]
    rw [rd_end _ _ _ _ (.inr hno')] at h
    have hpa := h3.parts
    rw [hcap] at hpa
    have hpa' : r'.parts_.length ≤ r.parts_.length + 323216080401 := hpa
    unfold W1 at h
    rw [show Jgb r'.parts_ Qf = some (r'.parts_.mergeSort (leC Qf)) from if_pos ⟨by omega, spans_ok⟩, Jb, cI, if_neg hno'] at h
    unfold V7 Wc at h
    rw [cI, if_neg hno', cI, if_pos hno'] at h
    cases h
    refine .inr ⟨hno', rfl, rfl, fun ρ κ o ho => ?_⟩
    show rdLoopQ ρ κ t (nx : Int) q ls = _
    rw [hX, g2]; exact ho q'
theorem all_sim (s : List UInt8) {fd : Nat} (hfd : fd ≤ 1) {f : Tf} {ps : List Td} {e : Int} (h : Jcu s fd = some (f, ps, e)) (pl : List (List UInt8 × Ti)) : Goes (fun ρ κ => Zg (Rq := ρ) ⟨s, false, [], [], pl⟩ κ) f ps e := by
 unfold Jcu at h
 rw [cI] at h
 by_cases hl : (65000 : Int) < s.length
 ·rw [if_pos hl] at h
  cases h
  refine .inr ⟨by decide, rfl, rfl, fun ρ κ o ho => ?_⟩
  show Zg _ κ = _
  unfold Zg
  rw [cI, if_pos hl]
  exact ho _
 rw [if_neg hl] at h
 have hbad : ∀ (ρ : Type) (κ : AllR → Option ρ), Jaq s = some false → ∃ q, Zg ⟨s, false, [], [], pl⟩ κ = κ (⟨false, []⟩, 8, q) := by
  intro ρ κ hb
  unfold Jaq at hb
  unfold Zg
  dsimp only
  rw [cI] at hb
  rw [cI, if_neg hl, cI]
  by_cases h8 : (s.length : Int) < 8
  ·rw [if_pos h8]; exact ⟨_, rfl⟩
  ·rw [if_neg h8] at hb ⊢
   rw [Uz (by omega), Jb, cI] at hb ⊢
   split at hb
   ·cases hb
   ·rename_i h1
    rw [if_pos h1, Jb, cI]
    rw [Jb] at hb
    have h2 := of_decide_eq_false (Option.some.inj hb)
    rw [if_pos h2]
    exact ⟨_, rfl⟩
 have hgood : ∀ (ρ : Type) (κ : AllR → Option ρ), Jaq s = some true → Zg ⟨s, false, [], [], pl⟩ κ = U2 ⟨s, false, [], [], pl⟩ κ := by
  intro ρ κ hb
  unfold Jaq at hb
  unfold Zg
  dsimp only
  rw [cI] at hb
  rw [cI, if_neg hl, cI]
  by_cases h8 : (s.length : Int) < 8
  ·rw [if_pos h8] at hb; cases hb
  ·rw [if_neg h8] at hb ⊢
   rw [Uz (by omega), Jb, cI] at hb ⊢
   split at hb
   ·rename_i h1
    rw [if_neg (fun h => h h1)]
   ·rename_i h1
    rw [if_pos h1, Jb, cI]
    rw [Jb] at hb
    have h2 := of_decide_eq_true (Option.some.inj hb)
    rw [if_neg (fun h => h h2)]
 obtain ⟨b, hb, hb8⟩ := begins_eq s
 rw [hb, Jb] at h
 cases b with
 | false =>
  rw [Bool.not_false, J9] at h
  cases h
  refine .inr ⟨by decide, rfl, rfl, fun ρ κ o ho => ?_⟩
  obtain ⟨q, hq⟩ := hbad ρ κ hb
  show Zg _ κ = _
  rw [hq]; exact ho q
 | true =>
  have h8 := hb8 rfl
  rw [Bool.not_true, Jx, show (0 : Int) = ((0 : Nat) : Int) from rfl, U3 (by omega), Jb, show (4 : Int) = ((4 : Nat) : Int) from rfl, Jeh (a := 4) (k := 4) _ (by show 4 + 4 ≤ s.length; omega) (by omega) (by show s.length ≤ 65000; omega), Jb] at h
  have key := rd_sim ((s[0]'(by omega)).toNat : Int) 21 0 (Ja6 (decide (((s[0]'(by omega)).toNat : Int) = 77)) ((s.drop 4).take 4)) ⟨s, decide (((s[0]'(by omega)).toNat : Int) = 77), [], [], 0, fd, 0⟩ ⟨s, decide (((s[0]'(by omega)).toNat : Int) = 77), [], [hdP], []⟩ [] (by omega) (valB4 _ (by rw [List.length_take]; omega)) rfl rfl (by omega) ⟨h8, by show s.length ≤ 65000; omega⟩ (by simp) (by simp) (by simp [Jc0]) hfd ⟨rfl, rfl, rfl, rfl⟩ rfl f ps e h
  refine key.of_eq fun ρ κ => ?_
  rw [hgood ρ κ hb]
  unfold U2
  dsimp only
  rw [show (0 : Int) = ((0 : Nat) : Int) from rfl, U3 (by omega), Jb, show (4 : Int) = ((4 : Nat) : Int) from rfl, Rat_eq (a := 4) (k := 4) _ (by show 4 + 4 ≤ s.length; omega) (by omega) (by show s.length ≤ 65000; omega), Jb]
  rfl
end Go.M

/- TagReads, in plain Lean: the law. Conditions: none. -/
namespace Go.M
open Go.Md Go.Pl
set_option linter.unusedVariables false
theorem sameInts {l : List Int} (hl : l.length ≤ 2000000) : Ja3 l l = some true := by
 unfold Ja3
 rw [cI, if_neg (by simp)]
 refine Jhg 0 l.length (by omega) (fun next k _ hk => ?_) (fun next => ?_)
 ·show Y5 _ _ next (k : Int) = _
  unfold Y5
  rw [cI, if_pos (by omega), Xk hk, Jb, Jb, cI, if_neg (by simp), Jr (by omega), Jb]
 ·show Y5 _ _ next (l.length : Int) = _
  unfold Y5
  rw [cI, if_neg (by omega)]
theorem sameRats {l : List Th} (hl : l.length ≤ 2000000) : V1 l l = some true := by
 unfold V1
 rw [cI, if_neg (by simp)]
 refine Jhg 0 l.length (by omega) (fun next k _ hk => ?_) (fun next => ?_)
 ·show Xw _ _ next (k : Int) = _
  unfold Xw
  rw [cI, if_pos (by omega), Xk hk, Jb, Jb, show Jbx l[k] l[k] = true from by unfold Jbx; simp]
  show Qa false _ _ = _
  rw [Jx, Jr (by omega), Jb]
 ·show Xw _ _ next (l.length : Int) = _
  unfold Xw
  rw [cI, if_neg (by omega)]
theorem sameL {l : List Ta} {g : Ta → Ta → Option Bool} (hl : l.length ≤ 2000000) (h : ∀ e ∈ l, g e e = some true) : Q8 l l g = some true := by
 unfold Q8
 rw [cI, if_neg (by simp)]
 refine Jhg 0 l.length (by omega) (fun next k _ hk => ?_) (fun next => ?_)
 ·show J6 l l g next (k : Int) = _
  unfold J6
  rw [cI, if_pos (by omega), Xk hk, Jb, Jb, h _ (List.getElem_mem hk), Jb]
  show Qa false _ _ = _
  rw [Jx, Jr (by omega), Jb]
 ·show J6 l l g next (l.length : Int) = _
  unfold J6
  rw [cI, if_neg (by omega)]
abbrev SameS := (List Ta × List Ta) → Option Bool
theorem sameDir_it : ∀ (d n : Nat) (l : List Ta), d < n → okD d l ∨ l = [] → szD d l ≤ 2000000 → it (fun (self : SameS) (s : List Ta × List Ta) => X5 self s.1 s.2) n (l, l) = some true := by
 intro d
 induction d with
 | zero =>
  intro n l hn h hz
  obtain ⟨n, rfl⟩ : ∃ k, n = k + 1 := ⟨n - 1, by omega⟩
  rcases h with h | rfl
  ·exact h.elim
  ·show X5 _ [] [] = _
   unfold X5
   rw [sameL (by simp) (fun e he => by simp at he), Jb]
 | succ d ih =>
  intro n l hn h hz
  obtain ⟨n, rfl⟩ : ∃ k, n = k + 1 := ⟨n - 1, by omega⟩
  show X5 (it _ n) l l = _
  have hall : ∀ e ∈ l, it (fun (self : SameS) (s : List Ta × List Ta) => X5 self s.1 s.2) n (e.Value.Entries, e.Value.Entries) = some true ∧ vB e.Value := by
   intro e he
   obtain ⟨hv, hz'⟩ := Jf2 hz he
   rcases h with h | h
   ·obtain ⟨hok, h13⟩ := h.2 e he
    refine ⟨ih n e.Value.Entries (by omega) ?_ hz', hv⟩
    by_cases hk : e.Value.Kind = 13
    ·exact .inl (h13 hk)
    ·exact .inr (Classical.byContradiction fun hne => hok.2 (.inr (.inr (.inr ⟨hk, hne⟩))))
   ·rw [h] at he; simp at he
  generalize it (fun (self : SameS) (s : List Ta × List Ta) => X5 self s.1 s.2) n = self at hall ⊢
  unfold X5
  rw [sameL (Nat.le_trans (szD_len l) hz) (fun e he => ?_), Jb]
  obtain ⟨hself, hv⟩ := hall e he
  unfold Jcc Jce
  rw [cI, if_pos rfl, cI, if_pos rfl, cI, if_pos rfl, sameInts hv.2.1, Jb, J9, sameRats hv.2.2, Jb, J9, hself, Jb, Jb]
theorem sameDir_self {l : List Ta} (h : okD 5 l) (hz : szD 5 l ≤ 2000000) : Jdc l l = some true := by
 unfold Jdc
 exact Jez (k := 6) fun n hn => sameDir_it 5 n l (by omega) (.inl h) hz
theorem Jf0 {f : Tf} (h : ∀ l ∈ f.Dirs, Jdc l l = some true) (hl : f.Dirs.length ≤ 2000000) : Ux f f = some true := by
 unfold Ux Q9
 rw [cI, if_pos rfl, cI, if_neg (by simp)]
 have key : Zs (fun next1 s => Jv f.Dirs f.Dirs Jdc next1 s) 0 = some true := by
  refine Jhg 0 f.Dirs.length (by omega) (fun next k _ hk => ?_) (fun next => ?_)
  ·show Jv _ _ _ next (k : Int) = _
   unfold Jv
   rw [cI, if_pos (by omega), Xk hk, Jb, Jb, h _ (List.getElem_mem hk), Jb]
   show Qa false _ _ = _
   rw [Jx, Jr (by omega), Jb]
  ·show Jv _ _ _ next (f.Dirs.length : Int) = _
   unfold Jv
   rw [cI, if_neg (by omega)]
 rw [key, Jb]
theorem sameFile_ok {f : Tf} (hb : Je8 f) (he : Jfa f = 0) : Ux f f = some true := by
 obtain ⟨h1, h2⟩ := Jim hb he
 exact Jf0 (fun l hl => sameDir_self (h1 l hl).1 (h1 l hl).2) (by omega)
theorem Jco : Ux ⟨false, []⟩ ⟨false, []⟩ = some true := Jf0 (fun l hl => by simp at hl) (by simp)
theorem file_self {f : Tf} {e : Int} (h : Ux f f = some true) (h0 : e ≠ 0 → f = ⟨false, []⟩) : Jg5 f e f e = some true := by
 unfold Jg5
 rw [cI]
 by_cases he : e = 0
 ·rw [if_neg (by simp [he])]
  unfold Jcr
  rw [h, Jb, J9, decide_eq_true rfl]
 ·rw [if_pos he]
  unfold Jcr
  rw [h0 he, Jco, Jb, J9, decide_eq_true rfl]
theorem read_two (s : List UInt8) : ∃ f ps e, Jcu s 0 = some (f, ps, e) ∧ Jcu s 1 = some (f, ps, e) ∧ (e = 0 → s.length ≤ 65000 ∧ sepS s.length 8 ps) := by
 obtain ⟨f, ps, e, h1, h2⟩ := read_ok s (fd := 0) (by omega)
 obtain ⟨f', ps', e', g1, g2⟩ := read_ok s (fd := 1) (by omega)
 have k1 := all_sim s (by omega) h1 []
 have k2 := all_sim s (by omega) g1 []
 have key : f = f' ∧ ps = ps' ∧ e = e' := by
  let κ : AllR → Option (Tf × Int × List Td) := fun t => some (t.1, t.2.1, if t.2.1 = 0 then t.2.2.parts_ else [])
  have a1 : Zg ⟨s, false, [], [], []⟩ κ = some (f, e, if e = 0 then hdP :: ps else []) := by
   rcases k1 with ⟨he, _, _, h⟩ | ⟨he, hf, _, h⟩
   ·refine h _ κ _ fun q hq => ?_
    show some (f, (0 : Int), if (0 : Int) = 0 then q.parts_ else []) = _
    rw [hq, he]
   ·refine h _ κ _ fun q => ?_
    show some ((⟨false, []⟩ : Tf), e, if e = 0 then q.parts_ else []) = _
    rw [if_neg he, if_neg he, hf]
  have a2 : Zg ⟨s, false, [], [], []⟩ κ = some (f', e', if e' = 0 then hdP :: ps' else []) := by
   rcases k2 with ⟨he, _, _, h⟩ | ⟨he, hf, _, h⟩
   ·refine h _ κ _ fun q hq => ?_
    show some (f', (0 : Int), if (0 : Int) = 0 then q.parts_ else []) = _
    rw [hq, he]
   ·refine h _ κ _ fun q => ?_
    show some ((⟨false, []⟩ : Tf), e', if e' = 0 then q.parts_ else []) = _
    rw [if_neg he, if_neg he, hf]
  rw [a1] at a2
  simp only [Option.some.injEq, Prod.mk.injEq] at a2
  obtain ⟨b1, b2, b3⟩ := a2
  subst b1 b2
  by_cases he : e = 0
  ·rw [if_pos he, if_pos he] at b3
   exact ⟨rfl, (List.cons.inj b3).2, rfl⟩
  ·rcases k1 with ⟨he', _⟩ | ⟨_, _, c1, _⟩
   ·exact absurd he' he
   ·rcases k2 with ⟨he', _⟩ | ⟨_, _, c2, _⟩
    ·exact absurd he' he
    ·exact ⟨rfl, by rw [c1, c2], rfl⟩
 obtain ⟨rfl, rfl, rfl⟩ := key
 exact ⟨f, ps, e, h1, g1, h2⟩
end Go.M

/- What was written is read back: numbers, values, entries, in plain Lean. Conditions: none. -/
namespace Go.M
open Go.Md Go.Pl
set_option linter.unusedVariables false
def digs (n : Int) (k : Nat) : List Int := (List.range k).map fun i => wU8 (n / 2 ^ (8 * i))
theorem Ji8 (n : Int) (k : Nat) : (digs n k).length = k := by simp [digs]
theorem digs_succ (n : Int) (k : Nat) : digs n (k + 1) = digs n k ++ [wU8 (n / 2 ^ (8 * k))] := by
 unfold digs; rw [List.range_succ, List.map_append]; rfl
def Jej (big : Bool) (n : Int) (k i : Nat) : List Int := if big then List.replicate (k - i) 0 ++ (digs n i).reverse else digs n i ++ List.replicate (k - i) 0
theorem partN_set {n : Int} {k i : Nat} (h : i < k) (big : Bool) : (Jej big n k i).set (if big then k - 1 - i else i) (wU8 (n / 2 ^ (8 * i))) = Jej big n k (i + 1) := by
 obtain ⟨m, hm⟩ : ∃ m, k - i = m + 1 := ⟨k - i - 1, by omega⟩
 have hm2 : k - (i + 1) = m := by omega
 unfold Jej
 rw [hm, hm2, digs_succ]
 cases big
 ·simp only [Bool.false_eq_true, if_false]
  rw [List.set_append_right _ _ (by rw [Ji8]; exact Nat.le_refl _), Ji8, Nat.sub_self, List.replicate_succ, List.set_cons_zero, List.append_assoc]; rfl
 ·simp only [if_true]
  rw [List.reverse_append, List.replicate_succ', List.append_assoc, show k - 1 - i = m by omega, List.set_append_right _ _ (by simp), List.length_replicate, Nat.sub_self]
  rfl
theorem num_dig (big : Bool) (n : Int) (k : Nat) (hk : k ≤ 8) : Ji big n k = some (Jej big n k k) := by
 have key : ∀ m i : Nat, i + m = k → Zs (fun next1 s => Xg big n k (List.replicate k 0) next1 s.1 s.2) ((i : Int), Jej big n k i) = some (Jej big n k k) := by
  intro m
  induction m with
  | zero =>
   intro i hi
   have : i = k := by omega
   subst this
   refine Jz fun next => ?_
   show Xg big n i _ next (i : Int) _ = _
   unfold Xg
   rw [cI, if_neg (by rw [List.length_replicate]; omega)]
  | succ m ih =>
   intro i hi
   have hl : (Jej big n k i).length = k := by unfold Jej; cases big <;> simp [Ji8] <;> omega
   have hsh : gShr 64 n (8 * (i : Int)) = some (n / 2 ^ (8 * i)) := by
    unfold gShr
    rw [if_pos (by omega), show min (8 * (i : Int)).toNat 64 = 8 * i by omega]
   refine Eq.trans (Q2 ((i : Int) + 1, (Jej big n k i).set (if big then k - 1 - i else i) (wU8 (n / 2 ^ (8 * i)))) fun next => ?_) ?_
   ·show Xg big n k (List.replicate k 0) next (i : Int) (Jej big n k i) = _
    unfold Xg
    rw [cI, if_pos (by rw [List.length_replicate]; omega)]
    cases big
    ·rw [Jx]
     unfold V6
     rw [Jr (by omega), Jb, hsh, Jb, Xk (by omega), Jb, Jd3 (by omega) (by omega), Jb, Jr (by omega), Jb, Int.toNat_natCast]; rfl
    ·rw [J9, Jr (by omega), Jb, Jr (by omega), Jb]
     unfold V6
     rw [Jr (by omega), Jb, hsh, Jb, Jhj (by omega) (by omega), Jb, Jd3 (by omega) (by omega), Jb, Jr (by omega), Jb, show ((k : Int) - 1 - (i : Int)).toNat = k - 1 - i from by omega]; rfl
   ·rw [partN_set (by omega)]
    exact ih (i + 1) (by omega)
 unfold Ji
 rw [Jfs (by omega), Jb, Int.toNat_natCast]
 have h0 : Jej big n k 0 = List.replicate k 0 := by unfold Jej digs; cases big <;> simp
 have := key k 0 (by omega)
 rw [h0] at this
 exact this
theorem numS_dig (big : Bool) (n : Int) (k : Nat) (hk : k ≤ 8) : Y4 big n k = Yp (if big then (digs n k).reverse else digs n k) := by
 unfold Y4
 rw [num_dig big n k hk, Option.getD_some]
 unfold Jej
 cases big <;> simp
end Go.M

/- What was written is read back: directories, in plain Lean. Conditions: none. -/
namespace Go.M
open Go.Md Go.Pl
set_option linter.unusedVariables false
def fresh (sn : List (Int × Bool)) (p : Nat) : Prop := ∀ k : Nat, p ≤ k → (mGet sn (k : Int)).getD false = false
structure Back (r r' : Tb) (new : List Td) (p : Nat) : Prop where
 s : r'.s_ = r.s_
 big : r'.big_ = r.big_
 dirs : r'.dirs_ = r.dirs_
 found : r'.found_ = r.found_
 no : r'.no_ = 0
 parts : r'.parts_ = r.parts_ ++ new
 seen : fresh r'.seen_ p
theorem Back.trans {a b c : Tb} {x y : List Td} {p q : Nat} (h : Back a b x p) (g : Back b c y q) : Back a c (x ++ y) q :=
 ⟨g.s.trans h.s, g.big.trans h.big, g.dirs.trans h.dirs, g.found.trans h.found, g.no, by rw [g.parts, h.parts, List.append_assoc], g.seen⟩
end Go.M

/- What was written is read back: files; TagSpans. Conditions: the file's bulk. -/
namespace Go.M
open Go.Md Go.Pl
set_option linter.unusedVariables false
end Go.M

/- What was written is read back; TagSpans, in plain Lean. Conditions: the file's bulk. -/
namespace Go.M
open Go.Md Go.Pl
set_option linter.unusedVariables false
end Go.M

/- Segments of a picture file: taken apart and joined again, in plain Lean. Conditions: none. -/
namespace Go.M
open Go.Md Go.Pl
set_option linter.unusedVariables false
def isK (k : Int) : Bool := decide (192 ≤ k ∧ k ≤ 254 ∧ k ≠ 216 ∧ k ≠ 217)
theorem Z4 (k : Int) : Jbq k = some (isK k) := by
 unfold Jbq isK
 rw [Jgt, Jb]
 by_cases h1 : k < 192 ∨ 254 < k
 ·rw [decide_eq_true h1, Bool.not_true, Jx]
  congr 1; symm; rw [decide_eq_false_iff_not]; omega
 ·rw [decide_eq_false h1, Bool.not_false, J9, cI]
  by_cases h3 : k = 216
  ·rw [if_neg (by omega)]
   congr 1; symm; rw [decide_eq_false_iff_not]; omega
  ·rw [if_pos h3]; congr 1; rw [decide_eq_decide]; omega
def okG (g : Tc) : Prop := isK g.Kind = true ∧ g.Kind ≠ 218 ∧ g.Text.length ≤ 65533
noncomputable def encG (g : Tc) : List UInt8 := [255, UInt8.ofNat g.Kind.toNat] ++ Y4 true (g.Text.length + 2 : Nat) 2 ++ g.Text
def encS (t : List UInt8) : List UInt8 := [255, 218] ++ t ++ [255, 217]
noncomputable def bodG (gs : List Tc) (t : List UInt8) : List UInt8 := gs.flatMap encG ++ encS t
noncomputable def picG (gs : List Tc) (t : List UInt8) : List UInt8 := [255, 216] ++ bodG gs t
def allG (gs : List Tc) (t : List UInt8) : List Tc := gs ++ [⟨218, t⟩]
theorem encS_len (t : List UInt8) : (encS t).length = 4 + t.length := by unfold encS; simp; omega
theorem num2 (n : Int) : Y4 true n 2 = [UInt8.ofNat (wU8 (n / 256)).toNat, UInt8.ofNat (wU8 n).toNat] := by
 rw [numS_dig _ _ _ (by omega)]
 simp [digs, List.range_succ, Yp]
theorem u8_of (c : UInt8) : UInt8.ofNat c.toNat = c := UInt8.ofNat_toNat
theorem num_two (c d : UInt8) : Y4 true ((c.toNat * 256 + d.toNat : Nat) : Int) 2 = [c, d] := by
 have hc := c.toNat_lt
 have hd := d.toNat_lt
 rw [num2]
 have e1 : (wU8 (((c.toNat * 256 + d.toNat : Nat) : Int) / 256)).toNat = c.toNat := by unfold wU8; omega
 have e2 : (wU8 ((c.toNat * 256 + d.toNat : Nat) : Int)).toNat = d.toNat := by unfold wU8; omega
 rw [e1, e2, u8_of, u8_of]
theorem Ji4 (c : UInt8) : Jbt (c.toNat : Int) 8 = some ((c.toNat : Int) * 256) := by
 have hc := c.toNat_lt
 have e8 : (2 : Int) ^ (8 : Int).toNat = 256 := by decide
 unfold Jbt
 rw [if_pos ⟨by decide, by decide⟩, e8]
 exact Jr (by omega)
theorem V0 (c : UInt8) : gK (-9223372036854775808) 9223372036854775807 (c.toNat : Int) = some (c.toNat : Int) := by
 have hc := c.toNat_lt
 unfold gK; rw [if_pos (by omega)]
theorem oct_0 (a : UInt8) (x : List UInt8) : Zt (a :: x) 0 = some (a.toNat : Int) := rfl
theorem oct_1 (a b : UInt8) (x : List UInt8) : Zt (a :: b :: x) 1 = some (b.toNat : Int) := rfl
theorem oct_2 (a b c : UInt8) (x : List UInt8) : Zt (a :: b :: c :: x) 2 = some (c.toNat : Int) := rfl
theorem oct_3 (a b c d : UInt8) (x : List UInt8) : Zt (a :: b :: c :: d :: x) 3 = some (d.toNat : Int) := rfl
theorem u8_inj {a : UInt8} {n : Nat} (h : (a.toNat : Int) = (n : Int)) (hn : n < 256) : a = UInt8.ofNat n := by
 have : a.toNat = n := by omega
 rw [← this, u8_of]
noncomputable def segF (x : List UInt8) (l : List Tc) : Option (List Tc × Int) := Zs (fun next2 s => J2 next2 s.1 s.2) (x, l)
theorem seg_step (k c2 c3 : UInt8) (z : List UInt8) (l : List Tc) (hk : isK (k.toNat : Int) = true) (h218 : (k.toNat : Int) ≠ 218) (hN : 2 ≤ c2.toNat * 256 + c3.toNat) (hz : c2.toNat * 256 + c3.toNat ≤ z.length + 2) (hl : l.length ≤ 1000000) (hzl : z.length ≤ 1000000) :
  segF (255 :: k :: c2 :: c3 :: z) l = segF (z.drop (c2.toNat * 256 + c3.toNat - 2)) (l ++ [⟨(k.toNat : Int), z.take (c2.toNat * 256 + c3.toNat - 2)⟩]) := by
 have hc2 := c2.toNat_lt
 have hc3 := c3.toNat_lt
 refine Q2 _ fun next => ?_
 show J2 next (255 :: k :: c2 :: c3 :: z) l = _
 unfold J2
 rw [cI, if_neg (by simp; omega), oct_0, Jb, cI, if_neg (by decide), oct_1, Jb, V0, Jb, Z4, hk, Jb, Bool.not_true, Jx, Jb, V0, Jb, cI, if_neg h218, cI, if_neg (by simp; omega), oct_2, Jb, V0, Jb, Ji4, Jb, oct_3, Jb, V0, Jb, Jg0 (by omega) hc3]
 rw [cI, if_neg (by omega), Jr (by simp; omega), Jb, cI, if_neg (by simp; omega), Jr (by omega), Jb, Ja2 (by simp; omega), Jb, Ya (by simp; omega), Jb, Jb, Y3 (by simp; omega), Jb]
 have e1 : (2 + ((c2.toNat * 256 + c3.toNat : Nat) : Int)).toNat = (c2.toNat * 256 + c3.toNat - 2) + 4 := by omega
 rw [e1, show (4 : Int).toNat = 4 from rfl, Nat.add_sub_cancel]
 rfl
theorem seg_scan (y : List UInt8) (l : List Tc) (hy : y.length ≤ 1000000) (hl : l.length ≤ 1000000) :
  segF (255 :: 218 :: y) l = if y.length < 2 then some ([], 8) else if y.drop (y.length - 2) ≠ [255, 217] then some ([], 8) else if 200 < l.length + 1 then some ([], 4) else some (l ++ [⟨218, y.take (y.length - 2)⟩], 0) := by
 refine Jz fun next => ?_
 show J2 next (255 :: 218 :: y) l = _
 unfold J2
 rw [cI, if_neg (by simp; omega), oct_0, Jb, cI, if_neg (by decide), oct_1, Jb, V0, Jb, Z4, Jb, show (!isK (((218 : UInt8).toNat : Nat) : Int)) = false from rfl, Jx, Jb, V0, Jb, cI, if_pos (by rfl)]
 unfold Vp
 rw [cI]
 by_cases h2 : y.length < 2
 ·rw [if_pos (by simp; omega), if_pos h2]
 ·rw [if_neg (by simp; omega), if_neg h2, Jr (by simp; omega), Jb, Y3 (by simp; omega), Jb, cI]
  have e1 : (((255 :: 218 :: y).length : Int) - 2).toNat = (y.length - 2) + 2 := by simp; omega
  rw [e1, show (255 :: 218 :: y).drop (y.length - 2 + 2) = y.drop (y.length - 2) from rfl]
  by_cases h3 : y.drop (y.length - 2) = [255, 217]
  ·rw [if_neg (by simp [h3]), if_neg (by simp [h3]), Jb, Ja2 (by simp; omega), Jb, Ya (by simp; omega), Jb, cI, e1, show (2 : Int).toNat = 2 from rfl, Nat.add_sub_cancel]
   by_cases h4 : 200 < l.length + 1
   ·rw [if_pos (by simp; omega), if_pos h4]
   ·rw [if_neg (by simp; omega), if_neg h4]; rfl
  ·rw [if_pos h3, if_pos h3]
theorem seg_sound : ∀ (n : Nat) (x : List UInt8) (l : List Tc), x.length ≤ n → x.length ≤ 1000000 → l.length + x.length ≤ 1000000 →
  ∃ r, segF x l = some r ∧ (r.2 ≠ 0 → r.1 = []) ∧ (r.2 = 0 → ∃ gs t, (∀ g ∈ gs, okG g) ∧ x = bodG gs t ∧ r.1 = l ++ allG gs t ∧ r.1.length ≤ 200) := by
 intro n
 induction n with
 | zero =>
  intro x l hn hx hl
  have : x = [] := List.length_eq_zero_iff.1 (by omega)
  subst this
  exact ⟨([], 8), Jz fun next => by show J2 next [] l = _; unfold J2; rw [cI, if_pos (by decide)], fun _ => rfl, fun h => absurd h (by simp)⟩
 | succ n ih =>
  intro x l hn hx hl
  have bad : ∀ r : List Tc × Int, r.1 = [] → r.2 ≠ 0 → (∀ next, J2 next x l = some r) → ∃ r, segF x l = some r ∧ (r.2 ≠ 0 → r.1 = []) ∧ (r.2 = 0 → ∃ gs t, (∀ g ∈ gs, okG g) ∧ x = bodG gs t ∧ r.1 = l ++ allG gs t ∧ r.1.length ≤ 200) :=
   fun r h1 h2 h3 => ⟨r, Jz h3, fun _ => h1, fun h => absurd h h2⟩
  match x, hn, hx, hl, bad with
  | [], _, _, _, bad => exact bad ([], 8) rfl (by simp) fun next => by unfold J2; rw [cI, if_pos (by simp)]
  | [_], _, _, _, bad => exact bad ([], 8) rfl (by simp) fun next => by unfold J2; rw [cI, if_pos (by simp)]
  | c0 :: k :: y, hn, hx, hl, bad =>
   simp only [List.length_cons] at hn hx hl
   by_cases h255 : (c0.toNat : Int) ≠ 255
   ·exact bad ([], 8) rfl (by simp) fun next => by unfold J2; rw [cI, if_neg (by simp; omega), oct_0, Jb, cI, if_pos h255]
   have hc0 : c0 = 255 := u8_inj (n := 255) (by omega) (by omega)
   subst hc0
   cases hk : isK (k.toNat : Int) with
   | false => exact bad ([], 8) rfl (by simp) fun next => by unfold J2; rw [cI, if_neg (by simp; omega), oct_0, Jb, cI, if_neg (by decide), oct_1, Jb, V0, Jb, Z4, hk, Jb, Bool.not_false, J9]
   | true =>
   by_cases h218 : (k.toNat : Int) = 218
   ·have hk218 : k = 218 := u8_inj (n := 218) h218 (by omega)
    subst hk218
    rw [seg_scan y l (by omega) (by omega)]
    split
    ·exact ⟨_, rfl, fun _ => rfl, fun h => absurd h (by simp)⟩
    split
    ·exact ⟨_, rfl, fun _ => rfl, fun h => absurd h (by simp)⟩
    split
    ·exact ⟨_, rfl, fun _ => rfl, fun h => absurd h (by simp)⟩
    rename_i h2 h3 h4
    refine ⟨_, rfl, fun h => absurd rfl h, fun _ => ⟨[], y.take (y.length - 2), by simp, ?_, rfl, by simp; omega⟩⟩
    have h3' : y.drop (y.length - 2) = [255, 217] := Classical.byContradiction fun h => h3 h
    unfold bodG encS
    rw [List.flatMap_nil, List.nil_append, List.append_assoc, ← h3', List.take_append_drop]; rfl
   ·match y, hn, hx, hl, bad with
    | [], _, _, _, bad => exact bad ([], 8) rfl (by simp) fun next => by unfold J2; rw [cI, if_neg (by simp), oct_0, Jb, cI, if_neg (by decide), oct_1, Jb, V0, Jb, Z4, hk, Jb, Bool.not_true, Jx, Jb, V0, Jb, cI, if_neg h218, cI, if_pos (by simp)]
    | [_], _, _, _, bad => exact bad ([], 8) rfl (by simp) fun next => by unfold J2; rw [cI, if_neg (by simp), oct_0, Jb, cI, if_neg (by decide), oct_1, Jb, V0, Jb, Z4, hk, Jb, Bool.not_true, Jx, Jb, V0, Jb, cI, if_neg h218, cI, if_pos (by simp)]
    | c2 :: c3 :: z, hn, hx, hl, bad =>
     simp only [List.length_cons] at hn hx hl
     have hc2 := c2.toNat_lt
     have hc3 := c3.toNat_lt
     by_cases hN : c2.toNat * 256 + c3.toNat < 2
     ·exact bad ([], 8) rfl (by simp) fun next => by
       unfold J2
       rw [cI, if_neg (by simp; omega), oct_0, Jb, cI, if_neg (by decide), oct_1, Jb, V0, Jb, Z4, hk, Jb, Bool.not_true, Jx, Jb, V0, Jb, cI, if_neg h218, cI, if_neg (by simp; omega), oct_2, Jb, V0, Jb, Ji4, Jb, oct_3, Jb, V0, Jb, Jg0 (by omega) hc3, cI, if_pos (by omega)]
     by_cases hz : z.length + 2 < c2.toNat * 256 + c3.toNat
     ·exact bad ([], 8) rfl (by simp) fun next => by
       unfold J2
       rw [cI, if_neg (by simp; omega), oct_0, Jb, cI, if_neg (by decide), oct_1, Jb, V0, Jb, Z4, hk, Jb, Bool.not_true, Jx, Jb, V0, Jb, cI, if_neg h218, cI, if_neg (by simp; omega), oct_2, Jb, V0, Jb, Ji4, Jb, oct_3, Jb, V0, Jb, Jg0 (by omega) hc3, cI, if_neg (by omega), Jr (by simp; omega), Jb, cI, if_pos (by simp; omega)]
     rw [seg_step k c2 c3 z l hk h218 (by omega) (by omega) (by omega) (by omega)]
     obtain ⟨r, h1, h2, h3⟩ := ih (z.drop (c2.toNat * 256 + c3.toNat - 2)) (l ++ [⟨(k.toNat : Int), z.take (c2.toNat * 256 + c3.toNat - 2)⟩]) (by simp; omega) (by simp; omega) (by simp; omega)
     refine ⟨r, h1, h2, fun h0 => ?_⟩
     obtain ⟨gs, t, g1, g2, g3, g4⟩ := h3 h0
     refine ⟨⟨(k.toNat : Int), z.take (c2.toNat * 256 + c3.toNat - 2)⟩ :: gs, t, ?_, ?_, ?_, g4⟩
     ·intro g hg
      rcases List.mem_cons.1 hg with hg | hg
      ·rw [hg]; exact ⟨hk, h218, by simp; omega⟩
      ·exact g1 g hg
     ·unfold bodG
      rw [List.flatMap_cons, List.append_assoc]
      show _ = encG _ ++ bodG gs t
      rw [← g2]
      unfold encG
      have hlen : (z.take (c2.toNat * 256 + c3.toNat - 2)).length + 2 = c2.toNat * 256 + c3.toNat := by rw [List.length_take]; omega
      simp only [hlen]
      rw [num_two, Int.toNat_natCast, u8_of, List.append_assoc, List.append_assoc, List.take_append_drop]; rfl
     ·rw [g3]; unfold allG; simp
theorem Jik (a : List UInt8) : ∃ l e, Zw a = some (l, e) ∧ (e ≠ 0 → l = []) ∧ (e = 0 → a.length ≤ 200000 ∧ ∃ gs t, (∀ g ∈ gs, okG g) ∧ a = picG gs t ∧ l = allG gs t ∧ l.length ≤ 200) := by
 unfold Zw
 rw [cI]
 by_cases hL : (200000 : Int) < a.length
 ·rw [if_pos hL]; exact ⟨_, _, rfl, fun _ => rfl, by simp⟩
 rw [if_neg hL, cI]
 by_cases h2 : (a.length : Int) < 2
 ·rw [if_pos h2]; exact ⟨_, _, rfl, fun _ => rfl, by simp⟩
 rw [if_neg h2, Uz (by omega), Jb, cI, show (2 : Int).toNat = 2 from rfl]
 by_cases h3 : a.take 2 = [255, 216]
 ·rw [if_neg (by simp [h3]), Y3 (by omega), Jb, show (2 : Int).toNat = 2 from rfl]
  obtain ⟨r, g1, g2, g3⟩ := seg_sound (a.drop 2).length (a.drop 2) [] (Nat.le_refl _) (by simp; omega) (by simp; omega)
  refine ⟨r.1, r.2, g1, g2, fun h0 => ⟨by omega, ?_⟩⟩
  obtain ⟨gs, t, q1, q2, q3, q4⟩ := g3 h0
  exact ⟨gs, t, q1, by unfold picG; rw [← q2, ← h3, List.take_append_drop], by simpa using q3, q4⟩
 ·rw [if_pos h3]; exact ⟨_, _, rfl, fun _ => rfl, by simp⟩
end Go.M

/- TagPictures in plain Lean: parts joined, the metadata's part, the law. Conditions: the file's bulk. -/
namespace Go.M
open Go.Md Go.Pl
set_option linter.unusedVariables false
end Go.M

/- TagPictures, the law, in plain Lean. Conditions: the file's bulk. -/
namespace Go.M
open Go.Md Go.Pl
set_option linter.unusedVariables false
def isM (g : Tc) : Bool := decide (g.Kind = 225 ∧ 6 ≤ g.Text.length ∧ g.Text.take 6 = [69, 120, 105, 102, 0, 0])
theorem isM_eq (g : Tc) : tag_metadata_1 g = some (isM g) := by
 unfold tag_metadata_1 isM
 rw [cI]
 by_cases h1 : g.Kind = 225
 ·rw [if_pos h1, cI]
  by_cases h2 : 6 ≤ g.Text.length
  ·rw [if_pos (by omega), Uz (by omega), Jb, show (6 : Int).toNat = 6 from rfl]
   congr 1; rw [decide_eq_decide]; simp [h1, h2]
  ·rw [if_neg (by omega)]
   congr 1; symm; rw [decide_eq_false_iff_not]; exact fun h => h2 h.2.1
 ·rw [if_neg h1]
  congr 1; symm; rw [decide_eq_false_iff_not]; exact fun h => h1 h.1
theorem ix_step {l : List Tc} {i : Nat} (hi : i < l.length) (hl : l.length ≤ 1000) (h : isM (l[i]'hi) = false) (next : Int → Option Int) : Qm l tag_metadata_1 next (i : Int) = next ((i + 1 : Nat) : Int) := by
 unfold Qm
 rw [cI, if_pos (by omega), Xk hi, Jb, isM_eq, Jb, h, Jx, Jr (by omega), Jb]; rfl
theorem md_from {l : List Tc} (hl : l.length ≤ 1000) {k : Nat} (hk : k ≤ l.length) (h : ∀ j (hj : j < l.length), j < k → isM (l[j]'hj) = false) (o : Option Int) (he : ∀ next, Qm l tag_metadata_1 next (k : Int) = o) : Va l = Js o fun t => some t := by
 have key : ∀ m i : Nat, i + m = k → Zs (fun next1 s => Qm l tag_metadata_1 next1 s) (i : Int) = o := by
  intro m
  induction m with
  | zero => intro i hi; rw [show i = k by omega]; exact Jz he
  | succ m ih => intro i hi; exact (Q2 _ fun next => ix_step (show i < l.length by omega) hl (h i (by omega) (by omega)) next).trans (ih (i + 1) (by omega))
 unfold Va Zh
 rw [show (0 : Int) = ((0 : Nat) : Int) from rfl, key k 0 (by omega)]
theorem md_at {l : List Tc} (hl : l.length ≤ 1000) {k : Nat} (hk : k < l.length) (hp : isM (l[k]'hk) = true) (h : ∀ j (hj : j < l.length), j < k → isM (l[j]'hj) = false) : Va l = some (k : Int) := by
 rw [md_from hl (by omega) h (some (k : Int)) fun next => by
  unfold Qm
  rw [cI, if_pos (by omega), Xk hk, Jb, isM_eq, Jb, hp, J9], Jb]
theorem md_none {l : List Tc} (hl : l.length ≤ 1000) (h : ∀ j (hj : j < l.length), isM (l[j]'hj) = false) : Va l = some (-1) := by
 rw [md_from hl (Nat.le_refl _) (fun j hj _ => h j hj) (some (-1)) fun next => by
  unfold Qm
  rw [cI, if_neg (by omega)], Jb]
theorem md_cases (l : List Tc) : (∀ j (hj : j < l.length), isM (l[j]'hj) = false) ∨ ∃ k, ∃ hk : k < l.length, isM (l[k]'hk) = true ∧ ∀ j (hj : j < l.length), j < k → isM (l[j]'hj) = false := by
 have key : ∀ n, n ≤ l.length → (∀ j (hj : j < l.length), j < n → isM (l[j]'hj) = false) ∨ ∃ k, ∃ hk : k < l.length, isM (l[k]'hk) = true ∧ ∀ j (hj : j < l.length), j < k → isM (l[j]'hj) = false := by
  intro n
  induction n with
  | zero => intro _; exact .inl fun j hj h => absurd h (by omega)
  | succ n ih =>
   intro hn
   rcases ih (by omega) with h | h
   ·cases hm : isM (l[n]'(by omega)) with
    | true => exact .inr ⟨n, by omega, hm, h⟩
    | false =>
     refine .inl fun j hj hjn => ?_
     rcases Nat.lt_or_ge j n with h1 | h1
     ·exact h j hj h1
     ·have : j = n := by omega
      subst this; exact hm
   ·exact .inr h
 rcases key l.length (Nat.le_refl _) with h | h
 ·exact .inl fun j hj => h j hj hj
 ·exact .inr h
theorem gs_texts {gs : List Tc} {t : List UInt8} (hok : ∀ g ∈ gs, okG g) (ht : t.length ≤ 200000) : ∀ g ∈ allG gs t, g.Text.length ≤ 200000 := by
 intro g hg
 unfold allG at hg
 rcases List.mem_append.1 hg with h | h
 ·have := (hok g h).2.2; omega
 ·rw [List.mem_singleton.1 h]; exact ht
theorem pic_t (gs : List Tc) (t : List UInt8) : t.length ≤ (picG gs t).length := by
 unfold picG bodG
 rw [List.length_append, List.length_append, encS_len]; omega
end Go.M

/- Segments of a picture file: what the models of package tag and of its reference compute. Conditions: none. -/
namespace Go.M.Sg
open Go.Md Go.Pl
set_option maxHeartbeats 4000000
def isK (k : Int) : Bool := decide (192 ≤ k ∧ k ≤ 254 ∧ k ≠ 216 ∧ k ≠ 217)
theorem Z4 (k : Int) : Jbq k = some (isK k) := by
 unfold Jbq W0 isK
 simp only [Qy]
 by_cases h1 : k < 192
 ·rw [if_pos h1, Jb]; simp; omega
 ·rw [if_neg h1, Jb]
  by_cases h2 : 254 < k
  ·simp [h2]; omega
  ·simp only [h2, decide_false, Bool.not_false, J9]
   by_cases h3 : k = 216
   ·subst h3; rfl
   ·rw [if_pos h3]; congr 1; simp only [decide_eq_decide]; omega
theorem Jax (k : Int) : Jbe k = some (isK k) := by
 unfold Jbe isK
 simp only [Qy]
 by_cases h1 : 192 ≤ k
 ·rw [if_pos h1]
  by_cases h2 : k ≤ 254
  ·rw [if_pos h2]
   by_cases h3 : k = 216
   ·subst h3; rfl
   ·rw [if_pos h3]; congr 1; simp only [decide_eq_decide]; omega
  ·rw [if_neg h2]; simp; omega
 ·rw [if_neg h1]; simp; omega
theorem oct2 {a : List UInt8} {at_ i : Nat} {x y : Int} (h : at_ + i < a.length) (hx : x = i) (hy : y = at_ + i) : ∃ b : Int, Zt (a.drop at_) x = some b ∧ Zt a y = some b ∧ 0 ≤ b ∧ b ≤ 255 := by
 subst hx hy
 refine ⟨(a[at_ + i].toNat : Int), ?_, ?_, by omega, ?_⟩
 ·rw [U3 (by rw [List.length_drop]; omega), List.getElem_drop]
 ·rw [show (at_ : Int) + (i : Int) = ((at_ + i : Nat) : Int) by omega, U3 h]
 ·have := a[at_ + i].toNat_lt; omega
theorem cut2 {a : List UInt8} {at_ i j : Nat} {x y u v : Int} (hij : i ≤ j) (h : at_ + j ≤ a.length) (hx : x = i) (hy : y = j) (hu : u = at_ + i) (hv : v = at_ + j) : ∃ t, Q7 (a.drop at_) x y = some t ∧ Q7 a u v = some t := by
 subst hx hy hu hv
 refine ⟨(a.drop (at_ + i)).take (j - i), ?_, ?_⟩
 ·rw [Ja2 ⟨by omega, by omega, by rw [List.length_drop]; omega⟩, Int.toNat_natCast, Int.toNat_natCast, List.drop_drop]
 ·rw [Ja2 ⟨by omega, by omega, by omega⟩]
  rw [show ((at_ : Int) + (i : Int)).toNat = at_ + i by omega, show ((at_ : Int) + (j : Int)).toNat - (at_ + i) = j - i by omega]
theorem rest2 {a : List UInt8} {at_ i : Nat} {x : Int} (h : at_ + i ≤ a.length) (hx : x = i) : Q7 (a.drop at_) x ((a.drop at_).length : Nat) = some (a.drop (at_ + i)) := by
 subst hx
 rw [Y3 ⟨by omega, by rw [List.length_drop]; omega⟩, Int.toNat_natCast, List.drop_drop]
theorem shl8 {b : Int} (h : 0 ≤ b ∧ b ≤ 255) : ∃ t, Jbt b 8 = some t := by
 have e : (2 : Int) ^ (8 : Int).toNat = 256 := by decide
 unfold Jbt
 rw [if_pos ⟨by decide, by decide⟩, e]
 exact ⟨_, Jr (by omega)⟩
theorem app1 {l : List Tc} (x : Tc) (h : l.length ≤ 200000) : X3 24 l [x] = some (l ++ [x]) := Ya ⟨by simp; omega, by simp; omega⟩
theorem seg_loop (a : List UInt8) (ha : a.length ≤ 200000) : ∀ (m at_ : Nat) (l : List Tc), a.length - at_ = m → at_ ≤ a.length → l.length ≤ at_ →
  ∃ r, Zs (fun next s => J2 next s.1 s.2) (a.drop at_, l) = some r ∧ Zs (fun next s => Xj next s.1 s.2.1 s.2.2) (a, (at_ : Int), l) = some r ∧ (r.2 ≠ 0 → r.1 = []) ∧ r.1.length ≤ 200001 := by
 intro m
 induction m using Nat.strongRecOn with
 | _ m ih =>
 intro at_ l hm hle hl
 have hx : (a.drop at_).length = a.length - at_ := List.length_drop
 by_cases h2 : a.length - at_ < 2
 ·refine ⟨([], 8), Jz fun next => ?_, Jz fun next => ?_, fun _ => rfl, by simp⟩
  ·simp (disch := first | assumption | omega) only [J2, Qy, if_pos]
  ·simp (disch := first | assumption | omega) only [Xj, Jr, Jb, Qy, if_pos]
 obtain ⟨b0, e0, f0, r0⟩ := oct2 (a := a) (at_ := at_) (i := 0) (x := 0) (y := at_) (by omega) rfl (by omega)
 obtain ⟨b1, e1, f1, r1⟩ := oct2 (a := a) (at_ := at_) (i := 1) (x := 1) (y := at_ + 1) (by omega) rfl (by omega)
 by_cases h3 : b0 ≠ 255
 ·refine ⟨([], 8), Jz fun next => ?_, Jz fun next => ?_, fun _ => rfl, by simp⟩
  ·simp (disch := first | assumption | omega) only [J2, Qy, if_pos, if_neg, e0, Jb]
  ·simp (disch := first | assumption | omega) only [Xj, Jr, Jb, Qy, if_pos, if_neg, f0]
 cases hk : isK b1 with
 | false =>
  refine ⟨([], 8), Jz fun next => ?_, Jz fun next => ?_, fun _ => rfl, by simp⟩
  ·simp (disch := first | assumption | omega) only [J2, Qy, if_pos, if_neg, e0, e1, Jb, Jb9, Z4, hk, Bool.not_false, J9]
  ·simp (disch := first | assumption | omega) only [Xj, Jr, Jb, Qy, if_pos, if_neg, f0, f1, Jb9, Jax, hk, Bool.not_false, J9]
 | true =>
 by_cases h4 : b1 = 218
 ·by_cases h5 : a.length - at_ < 4
  ·refine ⟨([], 8), Jz fun next => ?_, Jz fun next => ?_, fun _ => rfl, by simp⟩
   ·simp (disch := first | assumption | omega) only [J2, Vp, Qy, if_pos, if_neg, e0, e1, Jb, Jb9, Z4, hk, Bool.not_true, Jx]
   ·simp (disch := first | assumption | omega) only [Xj, Jr, Jb, Qy, if_pos, if_neg, f0, f1, Jb9, Jax, hk, Bool.not_true, Jx]
  ·obtain ⟨t, c1, c2⟩ := cut2 (a := a) (at_ := at_) (i := a.length - at_ - 2) (j := a.length - at_) (x := ((a.drop at_).length : Int) - 2) (y := ((a.drop at_).length : Int)) (u := (a.length : Int) - 2) (v := (a.length : Int)) (by omega) (by omega) (by omega) (by omega) (by omega) (by omega)
   obtain ⟨u, c3, c4⟩ := cut2 (a := a) (at_ := at_) (i := 2) (j := a.length - at_ - 2) (x := 2) (y := ((a.drop at_).length : Int) - 2) (u := (at_ : Int) + 2) (v := (a.length : Int) - 2) (by omega) (by omega) (by omega) (by omega) (by omega) (by omega)
   have ha1 := app1 (l := l) ⟨218, u⟩ (by omega)
   have ha2 : X3 24 l [(⟨b1, u⟩ : Tc)] = some (l ++ [⟨218, u⟩]) := by rw [h4]; exact ha1
   by_cases h6 : t = [255, 217]
   ·have hd : ¬ (t ≠ [255, 217]) := by simp [h6]
    by_cases h7 : 200 < ((l ++ [(⟨218, u⟩ : Tc)]).length : Int)
    ·refine ⟨([], 4), Jz fun next => ?_, Jz fun next => ?_, fun _ => rfl, by simp⟩
     ·simp (disch := first | assumption | omega) only [J2, Vp, Jr, c1, c3, ha1, Qy, if_pos, if_neg, e0, e1, Jb, Jb9, Z4, hk, Bool.not_true, Jx]
     ·simp (disch := first | assumption | omega) only [Xj, Jbh, c2, c4, ha2, Jr, Jb, Qy, if_pos, if_neg, f0, f1, Jb9, Jax, hk, Bool.not_true, Jx]
    ·refine ⟨(l ++ [(⟨218, u⟩ : Tc)], 0), Jz fun next => ?_, Jz fun next => ?_, fun h => absurd rfl h, by simp; omega⟩
     ·simp (disch := first | assumption | omega) only [J2, Vp, Jr, c1, c3, ha1, Qy, if_pos, if_neg, e0, e1, Jb, Jb9, Z4, hk, Bool.not_true, Jx]
     ·simp (disch := first | assumption | omega) only [Xj, Jbh, c2, c4, ha2, Jr, Jb, Qy, if_pos, if_neg, f0, f1, Jb9, Jax, hk, Bool.not_true, Jx]
   ·have hd : t ≠ [255, 217] := h6
    refine ⟨([], 8), Jz fun next => ?_, Jz fun next => ?_, fun _ => rfl, by simp⟩
    ·simp (disch := first | assumption | omega) only [J2, Vp, Jr, c1, Qy, if_pos, if_neg, e0, e1, Jb, Jb9, Z4, hk, Bool.not_true, Jx]
    ·simp (disch := first | assumption | omega) only [Xj, c2, Jr, Jb, Qy, if_pos, if_neg, f0, f1, Jb9, Jax, hk, Bool.not_true, Jx]
 ·by_cases h5 : a.length - at_ < 4
  ·refine ⟨([], 8), Jz fun next => ?_, Jz fun next => ?_, fun _ => rfl, by simp⟩
   ·simp (disch := first | assumption | omega) only [J2, Qy, if_pos, if_neg, e0, e1, Jb, Jb9, Z4, hk, Bool.not_true, Jx]
   ·simp (disch := first | assumption | omega) only [Xj, Jr, Jb, Qy, if_pos, if_neg, f0, f1, Jb9, Jax, hk, Bool.not_true, Jx]
  obtain ⟨b2, e2, f2, r2⟩ := oct2 (a := a) (at_ := at_) (i := 2) (x := 2) (y := at_ + 2) (by omega) rfl (by omega)
  obtain ⟨b3, e3, f3, r3⟩ := oct2 (a := a) (at_ := at_) (i := 3) (x := 3) (y := at_ + 2 + 1) (by omega) rfl (by omega)
  obtain ⟨t, es⟩ := shl8 r2
  generalize hN : Ud (bOr 64 t b3) = N
  by_cases h6 : N < 2
  ·refine ⟨([], 8), Jz fun next => ?_, Jz fun next => ?_, fun _ => rfl, by simp⟩
   ·simp (disch := first | assumption | omega) only [J2, Qy, if_pos, if_neg, e0, e1, e2, e3, es, hN, Jb, Jb9, Z4, hk, Bool.not_true, Jx]
   ·simp (disch := first | assumption | omega) only [Xj, Jr, Jb, Qy, if_pos, if_neg, f0, f1, f2, f3, es, hN, Jb9, Jax, hk, Bool.not_true, Jx]
  by_cases h7 : (a.length : Int) - at_ - 2 < N
  ·refine ⟨([], 8), Jz fun next => ?_, Jz fun next => ?_, fun _ => rfl, by simp⟩
   ·simp (disch := first | assumption | omega) only [J2, Qy, if_pos, if_neg, e0, e1, e2, e3, es, hN, Jb, Jr, Jb9, Z4, hk, Bool.not_true, Jx]
   ·simp (disch := first | assumption | omega) only [Xj, Jr, Jb, Qy, if_pos, if_neg, f0, f1, f2, f3, es, hN, Jb9, Jax, hk, Bool.not_true, Jx]
  obtain ⟨u, c1, c2⟩ := cut2 (a := a) (at_ := at_) (i := 4) (j := 2 + N.toNat) (x := 4) (y := 2 + N) (u := (at_ : Int) + 2 + 2) (v := (at_ : Int) + 2 + N) (by omega) (by omega) (by omega) (by omega) (by omega) (by omega)
  have c3 := rest2 (a := a) (at_ := at_) (i := 2 + N.toNat) (x := 2 + N) (by omega) (by omega)
  have ha1 := app1 (l := l) ⟨b1, u⟩ (by omega)
  obtain ⟨r, g1, g2, g3⟩ := ih (a.length - (at_ + (2 + N.toNat))) (by omega) (at_ + (2 + N.toNat)) (l ++ [⟨b1, u⟩]) rfl (by omega) (by simp; omega)
  refine ⟨r, ?_, ?_, g3⟩
  ·rw [← g1]
   refine Q2 _ fun next => ?_
   simp (disch := first | assumption | omega) only [J2, Qy, if_pos, if_neg, e0, e1, e2, e3, es, hN, c1, c3, ha1, Jb, Jr, Jb9, Z4, hk, Bool.not_true, Jx]
  ·rw [← g2]
   refine Q2 _ fun next => ?_
   simp (disch := first | assumption | omega) only [Xj, Jr, Jb, Qy, if_pos, if_neg, f0, f1, f2, f3, es, hN, c2, ha1, Jb9, Jax, hk, Bool.not_true, Jx]
   congr 3
   omega
theorem seg_eq (a : List UInt8) : ∃ r, Zw a = some r ∧ Vz a = some r ∧ (r.2 ≠ 0 → r.1 = []) ∧ r.1.length ≤ 200001 := by
 by_cases h0 : 200000 < a.length
 ·refine ⟨([], 4), ?_, ?_, fun _ => rfl, by simp⟩
  ·simp (disch := first | assumption | omega) only [Zw, Qy, if_pos]
  ·simp (disch := first | assumption | omega) only [Vz, Qy, if_pos]
 by_cases h2 : a.length < 2
 ·refine ⟨([], 8), ?_, ?_, fun _ => rfl, by simp⟩
  ·simp (disch := first | assumption | omega) only [Zw, Qy, if_pos, if_neg]
  ·have e1 : Y9 a [255, 216] = some false := by
    unfold Y9 X6
    simp only [List.length_cons, List.length_nil, Qy]
    rw [if_neg (by omega)]; rfl
   simp (disch := first | assumption | omega) only [Vz, Qy, if_neg, e1, Jb, Bool.not_false, J9]
 have c1 : Q7 a 0 2 = some (a.take 2) := Uz (by omega)
 have c2 : Q7 a 2 a.length = some (a.drop 2) := Y3 (by omega)
 have e1 : Y9 a [255, 216] = some (decide (a.take 2 = [255, 216])) := by
  unfold Y9 X6
  simp only [List.length_cons, List.length_nil, Qy]
  rw [if_pos (by omega)]
  rw [show ((0 + 1 + 1 : Nat) : Int) = 2 from rfl, c1]
  rfl
 by_cases h3 : a.take 2 = [255, 216]
 ·obtain ⟨r, g1, g2, g3⟩ := seg_loop a (by omega) (a.length - 2) 2 [] rfl (by omega) (by simp)
  have hd : ¬ (a.take 2 ≠ [255, 216]) := by simp [h3]
  have hd2 : decide (a.take 2 = [255, 216]) = true := by simp [h3]
  refine ⟨r, ?_, ?_, g3⟩
  ·simp (disch := first | assumption | omega) only [Zw, Qy, if_neg, c1, c2, Jb]
   exact g1
  ·simp (disch := first | assumption | omega) only [Vz, Qy, if_neg, e1, hd2, Jb, Bool.not_true, Jx]
   exact g2
 ·have hd : a.take 2 ≠ [255, 216] := h3
  have hd2 : decide (a.take 2 = [255, 216]) = false := by simp [h3]
  refine ⟨([], 8), ?_, ?_, fun _ => rfl, by simp⟩
  ·simp (disch := first | assumption | omega) only [Zw, Qy, if_pos, if_neg, c1, c2, Jb]
  ·simp (disch := first | assumption | omega) only [Vz, Qy, if_neg, e1, hd2, Jb, Bool.not_false, J9]
end Go.M.Sg

/- Segments of a picture file: joining; and the law, where the texts are not longer than any machine bears. Conditions: none. -/
namespace Go.M.Sg
open Go.Md Go.Pl
set_option maxHeartbeats 4000000
set_option maxRecDepth 100000
theorem shr0 (n : Int) : gShr 64 n 0 = some n := by
 unfold gShr
 rw [if_pos (by decide)]
 have : (2 : Int) ^ (min (0 : Int).toNat 64) = 1 := by decide
 simp [this]
theorem shr8 (n : Int) : gShr 64 n 8 = some (n / 256) := by
 unfold gShr
 rw [if_pos (by decide)]
 rfl
theorem Jgv (n : Int) : Ji true n 2 = some [wU8 (n / 256), wU8 n] := by
 unfold Ji
 rw [Jfs (by decide), Jb]
 have step : ∀ (k : Nat) (x y : Int), k < 2 → Zs (fun next1 s => Xg true n 2 (List.replicate (Int.toNat 2) 0) next1 s.1 s.2) ((k : Int), [x, y]) = Zs (fun next1 s => Xg true n 2 (List.replicate (Int.toNat 2) 0) next1 s.1 s.2) (((k + 1 : Nat) : Int), if k = 0 then [x, wU8 n] else [wU8 (n / 256), y]) := by
  intro k x y hk
  refine Q2 _ fun next => ?_
  have hl : (List.replicate (Int.toNat 2) (0 : Int)).length = 2 := rfl
  simp (disch := first | assumption | omega) only [Xg, V6, hl, Qy, if_pos, J9, Jr, Jb]
  match k, hk with
  | 0, _ =>
   rw [show (8 : Int) * ((0 : Nat) : Int) = 0 from rfl, shr0]
   rfl
  | 1, _ =>
   rw [show (8 : Int) * ((1 : Nat) : Int) = 8 from rfl, shr8]
   rfl
 have h0 := step 0 0 0 (by omega)
 have h1 := step 1 0 (wU8 n) (by omega)
 simp only [if_pos] at h0
 rw [if_neg (by omega)] at h1
 refine (h0.trans h1).trans (Jz fun next => ?_)
 have hl : (List.replicate (Int.toNat 2) (0 : Int)).length = 2 := rfl
 simp (disch := first | assumption | omega) only [Xg, hl, Qy, if_neg]
theorem num_ref (n : Int) : X2 true n 2 = some (Yp [wU8 (n / 256), wU8 n]) := by
 unfold X2
 rw [Jfs (by decide), Jb]
 have step : ∀ (k : Nat) (x y : Int), k < 2 → Zs (fun next2 s => Zr true n 2 (List.replicate (Int.toNat 2) 0) next2 s.1 s.2) ((k : Int), [x, y]) = Zs (fun next2 s => Zr true n 2 (List.replicate (Int.toNat 2) 0) next2 s.1 s.2) (((k + 1 : Nat) : Int), if k = 0 then [x, wU8 n] else [wU8 (n / 256), y]) := by
  intro k x y hk
  refine Q2 _ fun next => ?_
  have hl : (List.replicate (Int.toNat 2) (0 : Int)).length = 2 := rfl
  simp (disch := first | assumption | omega) only [Zr, Jbu, hl, Qy, if_pos, J9, Jr, Jb]
  match k, hk with
  | 0, _ =>
   rw [show (8 : Int) * ((0 : Nat) : Int) = 0 from rfl, shr0]
   rfl
  | 1, _ =>
   rw [show (8 : Int) * ((1 : Nat) : Int) = 8 from rfl, shr8]
   rfl
 have h0 := step 0 0 0 (by omega)
 have h1 := step 1 0 (wU8 n) (by omega)
 simp only [if_pos] at h0
 rw [if_neg (by omega)] at h1
 refine (h0.trans h1).trans (Jz fun next => ?_)
 have hl : (List.replicate (Int.toNat 2) (0 : Int)).length = 2 := rfl
 simp (disch := first | assumption | omega) only [Zr, Jfd, hl, Qy, if_neg]
theorem wU8_bd (x : Int) : 0 ≤ wU8 x ∧ wU8 x ≤ 255 := by unfold wU8; omega
theorem of_to {xs : List Int} (h : ∀ x ∈ xs, 0 ≤ x ∧ x ≤ 255) : Qk (Yp xs) = xs := by
 unfold Qk Yp
 rw [List.map_map]
 conv => rhs; rw [← List.map_id xs]
 refine List.map_congr_left fun x hx => ?_
 have := h x hx
 have e : (UInt8.ofNat x.toNat).toNat = x.toNat % 256 := UInt8.toNat_ofNat'
 show ((UInt8.ofNat x.toNat).toNat : Int) = x
 rw [e]; omega
theorem to_of (s : List UInt8) : Yp (Qk s) = s := by
 unfold Qk Yp
 rw [List.map_map]
 conv => rhs; rw [← List.map_id s]
 refine List.map_congr_left fun x hx => ?_
 show UInt8.ofNat ((x.toNat : Int)).toNat = x
 simp
theorem Zq (a b : List UInt8) : Qk (a ++ b) = Qk a ++ Qk b := List.map_append
theorem Qu (a : List UInt8) : (Qk a).length = a.length := List.length_map _
theorem toStr_len (a : List Int) : (Yp a).length = a.length := List.length_map _
theorem Jg6 {α : Type} (b : Bool) (x y : Option α) : Qa (!b) x y = Qa b y x := by cases b <;> rfl
def Alike (out : List Int) (s : List UInt8) : Prop := out = Qk s ∨ (200000 < out.length ∧ 200000 < s.length)
theorem Alike.add {out : List Int} {s : List UInt8} (h : Alike out s) (xs : List Int) (hx : ∀ x ∈ xs, 0 ≤ x ∧ x ≤ 255) : Alike (out ++ xs) (s ++ Yp xs) := by
 rcases h with rfl | ⟨h1, h2⟩
 ·left; rw [Zq, of_to hx]
 ·right; simp only [List.length_append]; omega
theorem Alike.text {out : List Int} {s : List UInt8} (h : Alike out s) (t : List UInt8) : Alike (if (out.length : Int) ≤ 200000 then out ++ Qk t else out) (s ++ t) := by
 rcases h with rfl | ⟨h1, h2⟩
 ·rw [Qu]
  split
  ·left; rw [Zq]
  ·right; rw [Qu, List.length_append]; omega
 ·right
  rw [if_neg (by omega), List.length_append]; omega
theorem join_end {out : List Int} {s : List UInt8} (h : Alike out s) (h1 : out.length ≤ 401000) (h2 : s.length ≤ 100000000000000000) :
  ∃ r, Jcm out = some r ∧ Jcq s = some r ∧ (r.2 ≠ 0 → r.1 = []) := by
 have e1 : gApN 1 out [255, 217] = some (out ++ [255, 217]) := gApN_ok ⟨by simp, by simp; omega, by simp; omega⟩
 have e2 : Vd s [255, 217] = some (s ++ [255, 217]) := Vb (by simp; omega)
 unfold Jcm Jcq
 rw [e1, e2, Jb, Jb]
 have h3 : Alike (out ++ [255, 217]) (s ++ [255, 217]) := h.add [255, 217] (by decide)
 simp only [Qy]
 rcases h3 with h3 | ⟨h3, h4⟩
 ·rw [h3, Qu, to_of]
  by_cases h5 : 200000 < ((s ++ [255, 217]).length : Int)
  ·exact ⟨([], 4), by rw [if_pos h5], by rw [if_pos h5], fun _ => rfl⟩
  ·exact ⟨(s ++ [255, 217], 0), by rw [if_neg h5], by rw [if_neg h5], fun h => absurd rfl h⟩
 ·exact ⟨([], 4), by rw [if_pos (by omega)], by rw [if_pos (by omega)], fun _ => rfl⟩
theorem ref_head {l : List Tc} {next : (List UInt8) × Int → Option ((List UInt8) × Int)} {s : List UInt8} {k : Nat} {x : Tc} (hkl : k < l.length) (hn : l.length ≤ 200) (eat : Zu l (k : Int) = some x) (hK : isK x.Kind = true)
  (hlast : ¬ (decide (x.Kind = 218)) ≠ (decide ((k : Int) = (l.length : Int) - 1))) (hlong : x.Kind ≠ 218 → ¬ 65533 < (x.Text.length : Int)) : Yf l next s (k : Int) = Wb s (k : Int) next x := by
 have h1 : (k : Int) < (l.length : Int) := by omega
 unfold Yf
 rw [Qy, if_pos h1, eat, Jb, Jax, hK, Jb, Jg6, J9, Jr (by omega), Jb, Qy, if_neg hlast, Jg6, Qy]
 split
 ·rfl
 ·rename_i h; rw [Qy, if_neg (hlong h)]
theorem ref_last {next : (List UInt8) × Int → Option ((List UInt8) × Int)} {s c u : List UInt8} {k : Nat} {x : Tc} (h218 : x.Kind = 218) (ec1 : Vd [255] (Yp [wU8 x.Kind]) = some c) (ec2 : Vd s c = some u) : Wb s (k : Int) next x = Ub (k : Int) next x u := by
 unfold Wb
 rw [ec1, Jb, ec2, Jb, Jg6, Qy, if_pos h218]
theorem ref_mid {next : (List UInt8) × Int → Option ((List UInt8) × Int)} {s c u v w : List UInt8} {k : Nat} {x : Tc} (h218 : ¬ x.Kind = 218) (ec1 : Vd [255] (Yp [wU8 x.Kind]) = some c) (ec2 : Vd s c = some u) (ht : x.Text.length ≤ 200000) (er : X2 true ((x.Text.length : Int) + 2) 2 = some v) (ec3 : Vd u v = some w) : Wb s (k : Int) next x = Ub (k : Int) next x w := by
 unfold Wb
 rw [ec1, Jb, ec2, Jb, Jg6, Qy, if_neg h218, Jr (by omega), Jb, er, Jb, ec3, Jb]
theorem join_loop (l : List Tc) (hn : l.length ≤ 200) (ht : ∀ x ∈ l, x.Text.length ≤ 200000) : ∀ (d k B : Nat) (out : List Int) (s : List UInt8), k + d = l.length → Alike out s → out.length ≤ 400100 + k * 4 → s.length ≤ B → B + d * 140737488351240 ≤ 100000000000000000 →
  ∃ r, Zs (fun next s => Yi l next s.1 s.2) ((k : Int), out) = some r ∧ Zs (fun next s => Yf l next s.1 s.2) (s, (k : Int)) = some r ∧ (r.2 ≠ 0 → r.1 = []) := by
 intro d
 induction d with
 | zero =>
  intro k B out s hk hA h1 h2 hB
  obtain ⟨r, g1, g2, g3⟩ := join_end hA (by omega) (by omega)
  refine ⟨r, Jz fun next => ?_, Jz fun next => ?_, g3⟩
  ·simp (disch := first | assumption | omega) only [Yi, Qy, if_neg]; exact g1
  ·simp (disch := first | assumption | omega) only [Yf, Qy, if_neg]; exact g2
 | succ d ih =>
  intro k B out s hk hA h1 h2 hB
  have hkl : k < l.length := by omega
  have hB1 : B ≤ 99859262511648760 := by omega
  have hB2 : B + 140737488351240 + d * 140737488351240 ≤ 100000000000000000 := by omega
  clear hB
  have eat := Xk hkl
  generalize hx : l[k] = x at eat
  have hxt : x.Text.length ≤ 200000 := ht x (by rw [← hx]; exact List.getElem_mem hkl)
  have hi : gI ((l.length : Int) - 1) = some ((l.length : Int) - 1) := Jr (by omega)
  cases hK : isK x.Kind with
  | false =>
   refine ⟨([], 10), Jz fun next => ?_, Jz fun next => ?_, fun _ => rfl⟩
   ·simp (disch := first | assumption | omega) only [Yi, Z9, Z4, hK, Qy, if_pos, eat, hi, Jb, Bool.not_false, J9]
   ·simp (disch := first | assumption | omega) only [Yf, Jax, hK, Qy, if_pos, eat, Jb, Bool.not_false, J9]
  | true =>
  have hkb : 192 ≤ x.Kind ∧ x.Kind ≤ 254 := by unfold isK at hK; simp at hK; omega
  by_cases hlast : (decide (x.Kind = 218)) ≠ (decide ((k : Int) = (l.length : Int) - 1))
  ·refine ⟨([], 5), Jz fun next => ?_, Jz fun next => ?_, fun _ => rfl⟩
   ·simp (disch := first | assumption | omega) only [Yi, Z9, Z4, hK, Qy, if_pos, eat, hi, Jb, Bool.not_true, Jx]
   ·simp (disch := first | assumption | omega) only [Yf, Jax, hK, Qy, if_pos, eat, hi, Jb, Bool.not_true, Jx]
  have hA1 : Alike (out ++ [255, wU8 x.Kind]) (s ++ Yp [255, wU8 x.Kind]) := hA.add _ (by
   intro y hy
   rcases List.mem_cons.1 hy with rfl | hy
   ·omega
   ·rcases List.mem_cons.1 hy with rfl | hy
    ·exact wU8_bd _
    ·cases hy)
  have ea1 : gApN 1 out [255, wU8 x.Kind] = some (out ++ [255, wU8 x.Kind]) := gApN_ok ⟨by simp, by simp; omega, by simp; omega⟩
  have ec1 : Vd [255] (Yp [wU8 x.Kind]) = some (Yp [255, wU8 x.Kind]) := Vb (by simp [Yp])
  have hl1 : (Yp [255, wU8 x.Kind]).length = 2 := rfl
  have ec2 : Vd s (Yp [255, wU8 x.Kind]) = some (s ++ Yp [255, wU8 x.Kind]) := Vb (by omega)
  have fin : ∀ (o : List Int) (u : List UInt8), Alike o u → o.length ≤ 400100 + k * 4 + 4 → u.length ≤ B + 4 →
    (∀ next, Yi l next (k : Int) out = Jbd (k : Int) next x o) → (∀ next, Yf l next s (k : Int) = Ub (k : Int) next x u) →
    ∃ r, Zs (fun next s => Yi l next s.1 s.2) ((k : Int), out) = some r ∧ Zs (fun next s => Yf l next s.1 s.2) (s, (k : Int)) = some r ∧ (r.2 ≠ 0 → r.1 = []) := by
   intro o u hA2 ho hu e1 e2
   have hA3 := hA2.text x.Text
   have hol : (if (o.length : Int) ≤ 200000 then o ++ Qk x.Text else o).length ≤ 400100 + (k + 1) * 4 := by
    split
    ·rw [List.length_append, Qu]; omega
    ·omega
   obtain ⟨r, g1, g2, g3⟩ := ih (k + 1) (B + 140737488351240) _ (u ++ x.Text) (by omega) hA3 hol (by rw [List.length_append]; omega) hB2
   refine ⟨r, ?_, ?_, g3⟩
   ·rw [← g1]
    refine Q2 _ fun next => ?_
    show Yi l next (k : Int) out = _
    rw [e1]
    have hi1 : gI ((k : Int) + 1) = some ((k + 1 : Nat) : Int) := Jr (by omega)
    simp only [Jbd, Jcl, Qy, hi1, Jb]
    split
    ·rw [gApL_ok ⟨by rw [Qu]; omega, by rw [Qu]; omega⟩, Jb]
    ·rfl
   ·rw [← g2]
    refine Q2 _ fun next => ?_
    show Yf l next s (k : Int) = _
    rw [e2]
    have hi1 : gI ((k : Int) + 1) = some ((k + 1 : Nat) : Int) := Jr (by omega)
    simp only [Ub, hi1, Jb]
    rw [Vb (by omega), Jb]
  by_cases h218 : x.Kind = 218
  ·refine fin _ _ hA1 (by simp; omega) (by rw [List.length_append]; omega) (fun next => ?_) (fun next => ?_)
   ·have hne : ¬ x.Kind ≠ 218 := fun h => h h218
    have h00 : ¬ (0 : Int) ≠ 0 := by omega
    simp (disch := first | assumption | omega) only [Yi, Z9, Z4, hK, Qy, if_pos, if_neg, eat, hi, ea1, Jb, Bool.not_true, Jx]
   ·exact (ref_head hkl hn eat hK hlast (fun h => absurd h218 h)).trans (ref_last h218 ec1 ec2)
  ·by_cases hlong : 65533 < (x.Text.length : Int)
   ·have h218' : x.Kind ≠ 218 := h218
    have h40 : (4 : Int) ≠ 0 := by omega
    refine ⟨([], 4), Jz fun next => ?_, Jz fun next => ?_, fun _ => rfl⟩
    ·simp (disch := first | assumption | omega) only [Yi, Z9, Z4, hK, Qy, if_pos, if_neg, eat, hi, Jb, Bool.not_true, Jx]
    ·simp (disch := first | assumption | omega) only [Yf, Jax, hK, Jg6, Qy, if_pos, if_neg, eat, hi, Jb, J9]
   ·generalize hv : ([wU8 (((x.Text.length : Int) + 2) / 256), wU8 ((x.Text.length : Int) + 2)] : List Int) = v
    have hvl : v.length = 2 := by rw [← hv]; rfl
    have hA2 : Alike (out ++ [255, wU8 x.Kind] ++ v) (s ++ Yp [255, wU8 x.Kind] ++ Yp v) := hA1.add v (by
     intro y hy
     rw [← hv] at hy
     rcases List.mem_cons.1 hy with rfl | hy
     ·exact wU8_bd _
     ·rcases List.mem_cons.1 hy with rfl | hy
      ·exact wU8_bd _
      ·cases hy)
    have ea2 : X3 1 (out ++ [255, wU8 x.Kind]) v = some (out ++ [255, wU8 x.Kind] ++ v) := Ya ⟨by simp; omega, by simp; omega⟩
    have ec3 : Vd (s ++ Yp [255, wU8 x.Kind]) (Yp v) = some (s ++ Yp [255, wU8 x.Kind] ++ Yp v) := Vb (by rw [List.length_append, toStr_len v]; omega)
    have ei : gI ((x.Text.length : Int) + 2) = some ((x.Text.length : Int) + 2) := Jr (by omega)
    have et := Jgv ((x.Text.length : Int) + 2)
    have er := num_ref ((x.Text.length : Int) + 2)
    rw [hv] at et er
    have h218' : x.Kind ≠ 218 := h218
    refine fin _ _ hA2 (by simp; omega) (by rw [List.length_append, List.length_append, toStr_len v]; omega) (fun next => ?_) (fun next => ?_)
    ·have h00 : ¬ (0 : Int) ≠ 0 := by omega
     simp (disch := first | assumption | omega) only [Yi, Z9, Z4, hK, Qy, if_pos, if_neg, eat, hi, ea1, ea2, ei, et, Jb, Bool.not_true, Jx]
    ·exact (ref_head hkl hn eat hK hlast (fun _ => hlong)).trans (ref_mid h218 ec1 ec2 hxt er ec3)
theorem join_eq (l : List Tc) (ht : ∀ x ∈ l, x.Text.length ≤ 200000) : ∃ r, Jcb l = some r ∧ Jcg l = some r ∧ (r.2 ≠ 0 → r.1 = []) := by
 by_cases h1 : 200 < (l.length : Int)
 ·refine ⟨([], 4), ?_, ?_, fun _ => rfl⟩
  ·simp (disch := first | assumption | omega) only [Jcb, Qy, if_pos]
  ·simp (disch := first | assumption | omega) only [Jcg, Qy, if_pos]
 by_cases h2 : (l.length : Int) = 0
 ·refine ⟨([], 5), ?_, ?_, fun _ => rfl⟩
  ·simp (disch := first | assumption | omega) only [Jcb, Qy, if_pos, if_neg]
  ·simp (disch := first | assumption | omega) only [Jcg, Qy, if_pos, if_neg]
 obtain ⟨r, g1, g2, g3⟩ := join_loop l (by omega) ht l.length 0 2 [255, 216] [255, 216] (by omega) (.inl rfl) (by simp) (by decide) (by omega)
 refine ⟨r, ?_, ?_, g3⟩
 ·simp (disch := first | assumption | omega) only [Jcb, Qy, if_neg]; exact g1
 ·simp (disch := first | assumption | omega) only [Jcg, Qy, if_neg]; exact g2
end Go.M.Sg

/- TagMetadata, in plain Lean: the law. Conditions: none. -/
namespace Go.M
open Go.Md Go.Pl
set_option linter.unusedVariables false
theorem exif_eq (g : Tc) : Jdn g = tag_metadata_1 g := by
 unfold Jdn tag_metadata_1 Y9 X6
 rw [cI, cI, cI, cI]
 split
 ·by_cases h : (6 : Int) ≤ (g.Text.length : Int)
  ·rw [if_pos h, if_pos (show (([69, 120, 105, 102, 0, 0] : List UInt8).length : Int) ≤ (g.Text.length : Int) from h), show ((([69, 120, 105, 102, 0, 0] : List UInt8).length : Nat) : Int) = 6 from rfl, Uz (by omega), Jb, Jb, Jb]
  ·rw [if_neg h, if_neg (show ¬ (([69, 120, 105, 102, 0, 0] : List UInt8).length : Int) ≤ (g.Text.length : Int) from h), Jb, Jb]
 ·rfl
theorem exifAt_eq (l : List Tc) : Jfj l = Va l := by
 have : Jdn = tag_metadata_1 := by funext g; exact exif_eq g
 unfold Jfj Va
 rw [this]
theorem md_ex {l : List Tc} (hl : l.length ≤ 1000) : ∃ n : Int, Va l = some n ∧ (n = -1 ∨ ∃ k : Nat, n = (k : Int) ∧ ∃ hk : k < l.length, isM (l[k]'hk) = true) := by
 rcases md_cases l with h | ⟨k, hk, h1, h2⟩
 ·exact ⟨-1, md_none hl h, .inl rfl⟩
 ·exact ⟨(k : Int), md_at hl hk h1 h2, .inr ⟨k, rfl, hk, h1⟩⟩
theorem read_all (s : List UInt8) : ∃ f e, Jhb s = some (f, e) ∧ Jet s = some (f, e) ∧ Ux f f = some true ∧ (e ≠ 0 → f = ⟨false, []⟩) := by
 obtain ⟨f, ps, e, h0, _, _⟩ := read_two s
 have hgo := all_sim s (by omega) h0 []
 refine ⟨f, e, by unfold Jhb; rw [h0, Jb], ?_, ?_, ?_⟩
 ·unfold Jet
  rcases hgo with ⟨he, _, _, h⟩ | ⟨he, hf, _, h⟩
  ·rw [he]; exact h _ _ _ fun q hq => rfl
  ·rw [hf]; exact h _ _ _ fun q => rfl
 ·rcases hgo with ⟨he, hb, hz, _⟩ | ⟨he, hf, _, _⟩
  ·exact sameFile_ok hb hz
  ·rw [hf]; exact Jco
 ·intro he
  rcases hgo with ⟨h, _⟩ | ⟨_, hf, _⟩
  ·exact absurd h he
  ·exact hf
theorem segs_two (s : List UInt8) : ∃ l e, Zw s = some (l, e) ∧ Vz s = some (l, e) ∧ (e = 0 → l.length ≤ 200 ∧ ∀ g ∈ l, g.Text.length ≤ 200000) := by
 obtain ⟨l, e, h1, _, h3⟩ := Jik s
 obtain ⟨r, g1, g2, _⟩ := Sg.seg_eq s
 rw [h1] at g1
 cases g1
 refine ⟨l, e, h1, g2, fun he => ?_⟩
 obtain ⟨a1, gs, t, a2, a3, a4, a5⟩ := h3 he
 refine ⟨a5, ?_⟩
 rw [a4]
 exact gs_texts a2 (Nat.le_trans (pic_t gs t) (by rw [← a3]; exact a1))
theorem meta_two (s : List UInt8) : ∃ f e, Jc4 s = some (f, e) ∧ Jc5 s = some (f, e) ∧ Ux f f = some true ∧ (e ≠ 0 → f = ⟨false, []⟩) := by
 obtain ⟨l, e, h1, h2, h3⟩ := segs_two s
 unfold Jc4 Jc5
 rw [h1, Jb, h2, Jb, cI, cI]
 by_cases he : e = 0
 ·rw [if_neg (by simp [he]), if_neg (by simp [he])]
  obtain ⟨k1, k2⟩ := h3 he
  obtain ⟨n, hn, hc⟩ := md_ex (l := l) (by omega)
  rw [exifAt_eq, hn, Jb, Jb, cI, cI]
  rcases hc with rfl | ⟨k, rfl, hk, hm⟩
  ·rw [if_pos (by omega), if_pos (by omega)]
   exact ⟨_, _, rfl, rfl, Jco, fun _ => rfl⟩
  ·rw [if_neg (by omega), if_neg (by omega), Xk hk, Jb, Jb]
   have h6 : 6 ≤ (l[k]'hk).Text.length := by
    unfold isM at hm
    exact (of_decide_eq_true hm).2.1
   rw [Y3 (by omega), Jb, Jb]
   obtain ⟨f, e', r1, r2, r3, r4⟩ := read_all ((l[k]'hk).Text.drop (6 : Int).toNat)
   rw [r1, r2, Jb]
   exact ⟨f, e', rfl, rfl, r3, r4⟩
 ·rw [if_pos he, if_pos he]
  exact ⟨_, _, rfl, rfl, Jco, fun _ => rfl⟩
theorem with_two {f : Tf} (hb : Je8 f) (s : List UInt8) : ∃ a e, Jat s f = some (a, e) ∧ Jaw s f = some (a, e) ∧ (e ≠ 0 → a = []) := by
 obtain ⟨l, e, h1, h2, h3⟩ := segs_two s
 unfold Jat Jaw
 rw [Jiz hb, Jb, Jes hb, Jb, cI, cI]
 by_cases hf : Jfa f = 0
 ·rw [if_neg (by simp [hf]), if_neg (by simp [hf]), h1, Jb, h2, Jb, cI, cI]
  dsimp only
  by_cases he : e = 0
  ·rw [if_neg (by simp [he]), if_neg (by simp [he])]
   obtain ⟨k1, k2⟩ := h3 he
   obtain ⟨o1, o2⟩ := Jim hb hf
   have o3 : (octF f).length ≤ 65000 := by
    have := hf
    unfold Jfa at this
    split at this
    ·omega
    split at this
    ·rename_i h; exact absurd this h
    split at this
    ·omega
    ·omega
   rw [written_eq o1 o2 hb.2, Octets_eq o1 o2 hb.2, Jb, Jb, Vb (by simp; omega), Jb, Jb]
   obtain ⟨n, hn, hc⟩ := md_ex (l := l) (by omega)
   rw [exifAt_eq, hn, Jb, Jb, cI, cI]
   have join : ∀ m : List Tc, (∀ g ∈ m, g.Text.length ≤ 200000) → ∃ a e, Vw m = some (a, e) ∧ Vt m = some (a, e) ∧ (e ≠ 0 → a = []) := by
    intro m hm
    obtain ⟨r, j1, j2, j3⟩ := Sg.join_eq m fun x hx => Nat.le_trans (hm x hx) (by decide)
    unfold Vw Vt
    rw [j1, j2, Jb]
    exact ⟨_, _, rfl, rfl, j3⟩
   have hx : ([69, 120, 105, 102, 0, 0] ++ octF f).length ≤ 200000 := by simp; omega
   rcases hc with rfl | ⟨k, rfl, hk, hm⟩
   ·rw [if_neg (by omega), if_neg (by omega), gInsN_ok ⟨by omega, by omega, by omega, by omega⟩, Jb, Jb]
    refine join _ fun g hg => ?_
    unfold Jcx at hg
    simp only [Int.toNat_zero, List.take_zero, List.nil_append, List.drop_zero, List.mem_append, List.mem_singleton] at hg
    rcases hg with rfl | hg
    ·exact hx
    ·exact k2 g hg
   ·rw [if_pos (by omega), if_pos (by omega), Xk hk, Jb, Jb, Jd3 (by omega) (by omega), Jb, Jb]
    refine join _ fun g hg => ?_
    rcases List.mem_or_eq_of_mem_set hg with hg | rfl
    ·exact k2 g hg
    ·exact hx
  ·rw [if_pos he, if_pos he]
   exact ⟨_, _, rfl, rfl, fun _ => rfl⟩
 ·rw [if_pos hf, if_pos hf]
  exact ⟨_, _, rfl, rfl, fun _ => rfl⟩
theorem tagMetadata (s : List UInt8) {f : Tf} (hb : Je8 f) : Jbo s f = some true := by
 obtain ⟨g, e, a1, a2, a3, a4⟩ := meta_two s
 obtain ⟨t, e', b1, b2, b3⟩ := with_two hb s
 unfold Jbo
 rw [a1, Jb, a2, Jb, b1, Jb, b2, Jb]
 dsimp only
 rw [file_self a3 a4, Jb, J9, told_str (fun _ => rfl) b3 rfl, Jb]
theorem tagMetadataS (s : List UInt8) (f : Tf) {P : Prop} (_ : P) (hb : Je8 f) : Jbo s f = some true := tagMetadata s hb
end Go.M

/- Tables among the package's variables, out of a card's condition. Conditions: none. -/
namespace Go.Lx
open Go Go.Vc Go.Md
theorem tab_vars {P : Program} {W : World} {name : String} {k : IntKind} {zs : List Int} {g : Nat} {t e : TypeId} {n : Nat}
  (hg : P.globalNamed name = some g) (hty : (P.globals[g]?).map (·.type) = some t) (ht : P.underlying t = some (.array n e)) (he : P.underlying e = some (.int k)) (hce : P.cellsOf e = 1) (hct : P.cellsOf t = n) :
  ∀ (l : List (String × DataW Unit)) (ps : List MemPlace) (i : Nat), DataW.LaidVars P W l ps → l[i]? = some (name, Lib.tabData k zs) → Lib.TabIs P W name k zs
 | [], _, i, _, h => by simp at h
 | (n', d) :: r, ps, 0, hv, h => by
  simp only [List.getElem?_cons_zero, Option.some.injEq, Prod.mk.injEq] at h
  obtain ⟨rfl, rfl⟩ := h
  obtain ⟨g', t', cs, fuel, p, q, hg', ht', hvar, hd, _, _⟩ := hv
  obtain rfl := Option.some.inj (hg.symm.trans hg')
  obtain rfl := Option.some.inj (hty.symm.trans ht')
  unfold Lib.TabIs
  rw [hvar, ← Lib.cells_of_tab ht he hce hct hd]
 | _ :: r, ps, i + 1, hv, h => by
  obtain ⟨_, _, _, _, _, q, _, _, _, _, h2, _⟩ := hv
  exact tab_vars hg hty ht he hce hct r q i h2 (by simpa using h)
theorem tab_at {P : Program} {W : World} {name : String} {k : IntKind} {zs : List Int} {g : Nat} {t e : TypeId} {n : Nat} {l : List (String × DataW Unit)} (i : Nat)
  (hg : P.globalNamed name = some g) (hty : (P.globals[g]?).map (·.type) = some t) (ht : P.underlying t = some (.array n e)) (he : P.underlying e = some (.int k)) (hce : P.cellsOf e = 1) (hct : P.cellsOf t = n)
  (hL : laidMetH P l W) (hp : (l.all fun x => x.2.handleName?.isNone) = true) (hi : l[i]? = some (name, Lib.tabData k zs)) : TabH P (fun b => W.heap[b]?) name k zs := by
 rw [MakeChecks.laidMetH_plain _ _ _ hp] at hL
 obtain ⟨ps, hv, _⟩ := hL
 exact tabH_of (tab_vars hg hty ht he hce hct l ps i hv hi)
end Go.Lx

/- What a claim says of a call's arguments, as rows: slices, arrays, structs, strings. Conditions: none. -/
namespace Go.Vc
open Go
variable {H : Type} {enc : TypeId × Value → H} {P : Program} {w : World} {base : Nat} {spare : Nat → Bool} {held : Bool}
theorem Uy {w : World} {base k : Nat} {a : Addr} {cs : List Value} (h : w.cells? base a k = some cs) : cs.length = k ∧ ∀ i, i < k → w.cell? (a.add i) = cs[i]? :=
 (World.cells?_some h).2
theorem cell_spot {w : World} {a : Addr} {v : Value} (h : w.cell? a = some v) : a.spot = none := by
 unfold World.cell? at h
 split at h
 ·split at h
  ·cases h
  ·rename_i hs; simpa using hs
 ·cases h
theorem op_int {t fuel : Nat} {k : IntKind} {cs : List Value} {x : DataW H × List MemPlace} (ht : P.underlying t = some (.int k)) (h : DataW.trod enc P w base spare held fuel t cs = some x) : ∃ n : Int, cs = [.int k n] ∧ (Lit.int k n).wf = true := by
 obtain ⟨n, h1, _, h2⟩ := DataW.trod_int ht h
 exact ⟨n, h1, h2⟩
theorem op_bool {t fuel : Nat} {cs : List Value} {x : DataW H × List MemPlace} (ht : P.underlying t = some .bool) (h : DataW.trod enc P w base spare held fuel t cs = some x) : ∃ b : Bool, cs = [.bool b] := by
 obtain ⟨n, h1, _⟩ := DataW.trod_bool ht h
 exact ⟨n, h1⟩
end Go.Vc

/- What a claim says of a call's arguments, as values of plain types: parts of structs, arrays, slices. Conditions: none. -/
namespace Go.Lx
open Go Go.Vc Go.Md
variable {H : Type} {enc : TypeId × Value → H} {P : Program} {w : World} {base : Nat} {spare : Nat → Bool} {held : Bool}
theorem piece {cs l : List Value} {o s : Nat} (h : (cs.drop o).take s = l) (hl : l.length = s) : cs.drop o = l ++ cs.drop (o + s) := by
 have := List.take_append_drop s (cs.drop o)
 rw [h, List.drop_drop] at this
 exact this.symm
theorem Row.snap {w : World} {a : Option Addr} {sz : Nat} {xs : List (List Value)} (h : Row w a sz xs) (hsz : 0 < sz) : RowH (fun b => w.heap[b]?) a sz xs := by
 rcases h with h | ⟨b, off, ha, h⟩
 ·exact .inl h
 ·cases xs with
  | nil => exact .inl rfl
  | cons x r =>
   have h0 := h 0 x rfl
   have hv := h0.2 0 x[0] (by simp [h0.1, hsz])
   unfold World.cell? at hv
   split at hv
   ·rename_i c T m hb
    refine .inr ⟨b, off, c, T, m, ha, hb, fun i y hy => ⟨(h i y hy).1, fun j v hj => ?_⟩⟩
    have := (h i y hy).2 j v hj
    unfold World.cell? at this
    rw [hb] at this
    simpa using this
   ·cases hv
theorem val_struct {r : Reach} {b0 t : Nat} {v : Value} {fs : Array Field} (ht : P.underlying t = some (.struct fs)) (hval : Value.okWide P w r b0 t v) : ∃ cs : List Value, v = .agg cs.toArray ∧ v.cells.toList = cs ∧ cs.length = P.cellsOf t := by
 unfold Value.okWide at hval
 rw [ht] at hval
 obtain ⟨cs, rfl, h, _⟩ := hval; exact ⟨cs.toList, by simp, rfl, by simpa using h⟩
theorem val_cell {r : Reach} {b0 t : Nat} {v : Value} (ht : (match P.underlying t with | some (.int _) | some (.slice _) | some .string | some .bool => true | _ => false) = true) (hval : Value.okWide P w r b0 t v) : v.cells.toList = [v] := by
 unfold Value.okWide at hval
 split at hval
 ·rename_i h; rw [h] at ht; cases ht
 ·rename_i h; rw [h] at ht; cases ht
 ·cases v with
  | agg cs =>
   exfalso
   unfold Cell.okWide at hval
   split at ht <;> simp_all [Cell.ok]
  | _ => rfl
end Go.Lx

/- What a claim says of a call's arguments, where their bulk is bounded. Conditions: none. -/
namespace Go.Vc
open Go Go.Lx
variable {H : Type} {enc : TypeId × Value → H} {P : Program} {w : World} {base : Nat} {spare : Nat → Bool} {held : Bool}
structure BK (bk : DataW H → Nat) : Prop where
 slice : ∀ (es rs : List (DataW H)) (d : DataW H), d ∈ es → bk d ≤ bk (.slice es rs)
 agg : ∀ (es : List (DataW H)) (d : DataW H), d ∈ es → bk d ≤ bk (.agg es)
 str : ∀ bs : List UInt8, bs.length ≤ bk (.lit (.string bs))
theorem Ji1 {bk : DataW H → Nat} (K : BK bk) {t fuel : Nat} {cs : List Value} {x : DataW H × List MemPlace} (ht : P.underlying t = some .string) (h : DataW.trod enc P w base spare held fuel t cs = some x) : ∃ s : List UInt8, cs = [str s] ∧ s.length ≤ 9223372036854775807 ∧ s.length ≤ bk x.1 := by
 obtain ⟨s, h1, h3, h2⟩ := DataW.trod_string ht h
 refine ⟨s.data.toList, by rw [h1], ?_, ?_⟩
 ·have e : s.data.toList.length = s.size := by rw [Array.length_toList]; rfl
  rw [e]
  unfold maxLen at h2
  omega
 ·rw [h3]; exact K.str _
theorem op_fieldB {bk : DataW H → Nat} (K : BK bk) {t fuel i ft fo sz bo : Nat} {nm tg pk : String} {em : Bool} {fs : Array Field} {cs : List Value} {x : DataW H × List MemPlace} (ht : P.underlying t = some (.struct fs)) (hf : fs[i]? = some ⟨nm, ft, fo, em, tg, pk, bo⟩) (hc : P.cellsOf ft = sz) (h : DataW.trod enc P w base spare held fuel t cs = some x) :
  ∃ n y, DataW.trod enc P w base spare held n ft ((cs.drop fo).take sz) = some y ∧ bk y.1 ≤ bk x.1 := by
 subst hc
 obtain ⟨xs, n, _, hx, _, hl, hp⟩ := DataW.trod_struct ht h
 have h1 := hp i _ hf
 have hi : i < fs.size := by
  rcases Nat.lt_or_ge i fs.size with h | h
  ·exact h
  ·rw [Array.getElem?_eq_none h] at hf; cases hf
 rw [List.getElem?_eq_getElem (by omega)] at h1
 refine ⟨n, _, h1, ?_⟩
 rw [hx]
 exact K.agg _ _ (List.mem_map.2 ⟨_, List.getElem_mem _, rfl⟩)
theorem op_sliceB {bk : DataW H → Nat} (K : BK bk) {B : Nat} {α : Type} {f : α → List Value} {good : α → Prop} {t e sz fuel : Nat} {cs : List Value} {x : DataW H × List MemPlace} (hB : bk x.1 ≤ B) (ht : P.underlying t = some (.slice e)) (hc : P.cellsOf e = sz) (hsz : Nat.blt 0 sz = true)
  (hD : ∀ n cs x, bk x.1 ≤ B → cs.length = sz → DataW.trod enc P w base spare held n e cs = some x → ∃ a, cs = f a ∧ good a) (h : DataW.trod enc P w base spare held fuel t cs = some x) :
  ∃ (v : Value) (xs : List α), cs = [v] ∧ FrS (fun b => w.heap[b]?) sz v (xs.map f) ∧ xs.length ≤ 9223372036854775807 ∧ ∀ x ∈ xs, good x := by
 have h' := h
 rcases DataW.trod_slice ht h with ⟨rfl, _⟩ | ⟨a, len, cap, elems, rest, n, _, rfl, hx, _, hl, hm, hlen, hel, _⟩
 ·exact ⟨_, [], rfl, FrS.nil _ _, by simp, by simp⟩
 ·-- the elements, and no others
  have each : ∀ i : Fin len, ∃ a' : α, w.cells? base (a.add (i * sz)) sz = some (f a') ∧ good a' := by
   intro i
   have hi := hel i i.2
   rw [hc] at hi
   have hlt : (i : Nat) < elems.length := by rw [hlen]; exact i.2
   rw [List.getElem?_eq_getElem hlt, Option.bind_eq_some_iff] at hi
   obtain ⟨cs', h1, h2⟩ := hi
   have hb : bk (elems[(i : Nat)]).1 ≤ B := by
    refine Nat.le_trans ?_ hB
    rw [hx]
    exact K.slice _ _ _ (List.mem_map.2 ⟨_, List.getElem_mem _, rfl⟩)
   obtain ⟨a', rfl, hg⟩ := hD _ _ _ hb (Uy h1).1 h2
   exact ⟨a', h1, hg⟩
  have hsz' : 0 < sz := by simpa using hsz
  have hch : ∃ g : Fin len → α, ∀ i : Fin len, w.cells? base (a.add (i * sz)) sz = some (f (g i)) ∧ good (g i) := ⟨fun i => (each i).choose, fun i => (each i).choose_spec⟩
  obtain ⟨g, hg⟩ := hch
  have hrow : Row w (some a) sz ((List.ofFn g).map f) := by
   cases len with
   | zero => left; simp
   | succ k =>
    have h0 := hg 0
    have hsp : a.spot = none := by
     have := (Uy h0.1).2 0 hsz'
     have hln := (Uy h0.1).1
     rw [List.getElem?_eq_getElem (by omega)] at this
     have hs := cell_spot this
     simpa [Addr.add] using hs
    obtain ⟨b, off, spot⟩ := a
    simp only at hsp
    subst hsp
    refine .inr ⟨b, off, rfl, fun i x hx => ?_⟩
    have hi : i < k + 1 := by
     rcases Nat.lt_or_ge i (k + 1) with h | h
     ·exact h
     ·rw [List.getElem?_eq_none (by simpa using h)] at hx; cases hx
    have hx' : x = f (g ⟨i, hi⟩) := by
     rw [List.getElem?_map, List.getElem?_ofFn, dif_pos hi] at hx
     exact (Option.some.inj hx).symm
    subst hx'
    obtain ⟨c1, c2⟩ := Uy (hg ⟨i, hi⟩).1
    refine ⟨c1, fun j v hv => ?_⟩
    have hj : j < sz := by
     rcases Nat.lt_or_ge j sz with h | h
     ·exact h
     ·rw [List.getElem?_eq_none (by omega)] at hv; cases hv
    have := c2 j hj
    rw [hv, Addr.add_lit, Addr.add_lit] at this
    exact this
  have hm' : cap ≤ 9223372036854775807 := by simpa [maxLen] using hm
  refine ⟨_, List.ofFn g, rfl, ⟨⟨some a, cap, by simp, by simpa using hl, hm', Row.snap hrow hsz'⟩⟩, by simp; omega, ?_⟩
  intro x hx
  rw [List.mem_ofFn] at hx
  obtain ⟨i, rfl⟩ := hx
  exact (hg i).2
end Go.Vc

/- What a claim says of a call's arguments, where their bulk is bounded and package variables are laid. Conditions: none. -/
namespace Go.Vc
open Go Go.Lx
section
variable {H : Type} {enc : TypeId × Value → H} {P : Program} {w : World} {base : Nat} {spare : Nat → Bool} {held : Bool}
structure BKL (bk : DataW H → Nat) : Prop extends BK bk where
 len : ∀ es rs : List (DataW H), es.length ≤ bk (.slice es rs)
theorem op_sliceL {bk : DataW H → Nat} (K : BKL bk) {B : Nat} {α : Type} {f : α → List Value} {good : α → Prop} {t e sz fuel : Nat} {cs : List Value} {x : DataW H × List MemPlace} (hB : bk x.1 ≤ B) (ht : P.underlying t = some (.slice e)) (hc : P.cellsOf e = sz) (hsz : Nat.blt 0 sz = true)
  (hD : ∀ n cs x, bk x.1 ≤ B → cs.length = sz → DataW.trod enc P w base spare held n e cs = some x → ∃ a, cs = f a ∧ good a) (h : DataW.trod enc P w base spare held fuel t cs = some x) :
  ∃ (v : Value) (xs : List α), cs = [v] ∧ FrS (fun b => w.heap[b]?) sz v (xs.map f) ∧ (xs.length ≤ 9223372036854775807 ∧ xs.length ≤ B) ∧ ∀ x ∈ xs, good x := by
 obtain ⟨v, xs, e1, fr, hn, hg⟩ := op_sliceB K.toBK hB ht hc hsz hD h
 refine ⟨v, xs, e1, fr, ⟨hn, ?_⟩, hg⟩
 obtain ⟨a, c, rfl, _⟩ := fr.out
 rcases DataW.trod_slice ht h with ⟨e2, _⟩ | ⟨a', len, cap, elems, rest, n, _, e2, hx, _, _, _, hlen, _⟩
 ·rw [e1] at e2
  injection e2 with e2 _
  injection e2 with _ e2 _
  rw [List.length_map] at e2; omega
 ·rw [e1] at e2
  injection e2 with e2 _
  injection e2 with _ e2 _
  rw [List.length_map] at e2
  rw [hx] at hB
  have := K.len (elems.map (·.1)) (rest.map (·.1))
  rw [List.length_map] at this
  simp only at hB
  omega
end
section
variable {H : Type} {enc : TypeId × Value → H}
theorem Jhl {a : Assume} {C : Checked} {os : Os} {f : FuncId} {fn : Func} {s : OpenSpec} {k : (H : Type) → List (DataW H) → Bool} (hk : s.cond = some k) {F : Stop.Interp} {conds : List PathCond} {apart fresh handsOn again : Bool} {X : World → Prop}
  (hX : ∀ w w' : World, w.heap = w'.heap → X w → X w')
  (own : ownKnob C.prog.godebug = none) (started : os.Started) (noInit : C.prog.inits.idxOf? f = none) (hfn : C.prog.funcs[f]? = some fn)
  (witness : ∃ (w : World) (tape : Tape) (i : Input), w.os = os ∧ (w.forCall tape i).Shaped C.prog ∧ i.vars = [] ∧ Input.okWide C.prog (w.forCall tape i) .any w.heap.size f i ∧
   ((s.pre enc C.prog fn conds apart (w.forCall tape i).memory i.args ∧ X (w.forCall tape i).memory) ∧ sizedMet enc C.prog fn s apart (w.forCall tape i).memory i.args) ∧ a.holds C.prog (lone (Frame.enter C.prog f i.args .normal) [] (w.forCall tape i)))
  (contract : ∀ (W : World) (base : Nat) (args : Array Value) (ds gs : List (DataW H)) (before : List MemPlace),
   (∀ (j : Nat) t v, fn.params[j]? = some t → args[j]? = some v → Value.okWide C.prog W .any base t v) →
   DataW.Whole enc C.prog fn.params.toList s.vars apart W args.toList ds gs before →
   conds.all (PathCond.test C.prog ⟨fn.params.toList, ds, s.bare.plain.varTypes C.prog, gs⟩) = true → k H (ds ++ gs) = true → X W →
   a.holds C.prog (lone (Frame.enter C.prog f args .normal) [] W) →
   Calls C.prog f args W fun e W' => ∃ v, e = .returned v ∧ (s.at F).post enc C.prog fn apart fresh handsOn again W args v W') :
  ReturnsInHanded a C os f .any (fun w args => (s.pre enc C.prog fn conds apart w args ∧ X w) ∧ sizedMet enc C.prog fn s apart w args) ((s.at F).post enc C.prog fn apart fresh handsOn again) := by
 refine returnsInHanded_of_calls own started noInit witness ?_
 intro w tape i _ _ _ hok hpre hholds
 obtain ⟨_, _, _, fn', hfn', _, _, _, _, hval⟩ := hok
 obtain rfl : fn' = fn := Option.some.inj (hfn'.symm.trans hfn)
 obtain ⟨⟨hp, hx⟩, _⟩ := hpre
 obtain ⟨ds, gs, before, hw, hc, hkk⟩ := (OpenSpec.pre_some hk conds apart _ _).1 hp
 have hw' := DataW.Whole.of_heap (w' := w.forCall tape i) (by rfl) hw
 refine (contract (w.forCall tape i) w.heap.size i.args ds gs before hval hw' hc hkk (hX _ _ (by rfl) hx) hholds).mono fun e W' ⟨v, he, hp⟩ => ?_
 subst he
 exact ChangeSpec.post_blind hp
theorem Jgr {C : Checked} {os : Os} {f : FuncId} {fn : Func} {s : OpenSpec} {k : (H : Type) → List (DataW H) → Bool} (hk : s.cond = some k) {conds : List PathCond} {apart : Bool} {X : World → Prop} (modest : Bool) (w0 : World) (args : Array Value) (fuel : Nat) (hos : w0.os = os)
  (hsh : (w0.forCall (fun _ _ => 0) ⟨#[], args, []⟩).Shaped C.prog)
  (hok : Input.okWideB C.prog (w0.forCall (fun _ _ => 0) ⟨#[], args, []⟩) f ⟨#[], args, []⟩ = true)
  {x : List (DataW H) × List (DataW H) × List MemPlace} (hx : DataW.whole enc C.prog (w0.forCall (fun _ _ => 0) ⟨#[], args, []⟩).memory fn.params.toList s.vars apart args.toList fuel = some x)
  (hconds : conds.all (PathCond.test C.prog ⟨fn.params.toList, x.1, s.bare.plain.varTypes C.prog, x.2.1⟩) = true) (hkk : k H (x.1 ++ x.2.1) = true)
  (hsz : s.bare.sizedB enc C.prog fn apart (w0.forCall (fun _ _ => 0) ⟨#[], args, []⟩).memory args fuel = true)
  (hX : X (w0.forCall (fun _ _ => 0) ⟨#[], args, []⟩).memory) :
  ∃ (w : World) (tape : Tape) (i : Input), w.os = os ∧ (w.forCall tape i).Shaped C.prog ∧ i.vars = [] ∧ Input.okWide C.prog (w.forCall tape i) .any w.heap.size f i ∧
   ((s.pre enc C.prog fn conds apart (w.forCall tape i).memory i.args ∧ X (w.forCall tape i).memory) ∧ sizedMet enc C.prog fn s apart (w.forCall tape i).memory i.args) ∧ ({ modest := modest } : Assume).holds C.prog (lone (Frame.enter C.prog f i.args .normal) [] (w.forCall tape i)) :=
 ⟨w0, fun _ _ => 0, ⟨#[], args, []⟩, hos, hsh, (Input.okWide_of_okWideB (base := 0) hok).1, (Input.okWide_of_okWideB hok).2,
  ⟨⟨(OpenSpec.pre_some hk conds apart _ _).2 ⟨x.1, x.2.1, x.2.2, DataW.Whole_of_whole hx, hconds, hkk⟩, hX⟩, sizedMet_of_sizedB hsz⟩, by
  simp only [Assume.holds]
  exact ⟨by simp, by simp, fun _ => Modest.zero, by simp, by simp⟩⟩
end
end Go.Vc

/- What a claim says of a call's arguments, with the reach of the claim's form: no string and no slice is larger than it. Conditions: none. -/
namespace Go.Vc
open Go Go.Lx
variable {H : Type} {enc : TypeId × Value → H} {P : Program} {w : World} {base : Nat} {spare : Nat → Bool} {held : Bool}
end Go.Vc

/- Opening arguments whose elements hold slices. Conditions: none. -/
namespace Go.Lx
open Go Go.Vc Go.Md Go.ChangeShapes Go.WideShapes Go.ChangeAt
theorem Jci {cs l : List Value} {o s q : Nat} (h : (cs.drop o).take s = l) (hq : q < l.length) : cs.getD (o + q) undef = l.getD q undef := by
 subst h
 have hs : q < s := by rw [List.length_take] at hq; omega
 simp only [List.getD_eq_getElem?_getD, List.getElem?_take, List.getElem?_drop, if_pos hs]
section
variable {P : Program} {H : Type} {enc : TypeId × Value → H} {w : World} {base : Nat} {spare : Nat → Bool} {held : Bool}
end
end Go.Lx

/- Opening arguments whose bulk is bounded: sums over the parts, for types that hold themselves. Conditions: none. -/
namespace Go.Lx
open Go Go.Vc Go.Md Go.ChangeShapes Go.WideShapes Go.ChangeAt
theorem Jgk {a : Nat} : ∀ {l : List Nat}, a ∈ l → a ≤ l.sum
 | [], h => by cases h
 | x :: l, h => by
  rw [List.sum_cons]
  rcases List.mem_cons.1 h with h | h
  ·omega
  ·have := Jgk h; omega
theorem Jio {α β : Type} {f : α → Nat} {g : β → Nat} : ∀ {xs : List α} {ys : List β}, xs.length = ys.length → (∀ (i : Nat) x y, xs[i]? = some x → ys[i]? = some y → f x ≤ g y) → (xs.map f).sum ≤ (ys.map g).sum
 | [], [], _, _ => Nat.le_refl _
 | [], _ :: _, h, _ => by simp at h
 | _ :: _, [], h, _ => by simp at h
 | x :: xs, y :: ys, h, k => by
  rw [List.map_cons, List.map_cons, List.sum_cons, List.sum_cons]
  have h1 := k 0 x y rfl rfl
  have h2 := Jio (f := f) (g := g) (xs := xs) (ys := ys) (by simpa using h) (fun i a b ha hb => k (i + 1) a b (by simpa using ha) (by simpa using hb))
  omega
theorem Jgn {α : Type} {f : α → Nat} (h : ∀ x, 1 ≤ f x) : ∀ xs : List α, xs.length ≤ (xs.map f).sum
 | [] => Nat.zero_le _
 | x :: xs => by rw [List.map_cons, List.sum_cons, List.length_cons]; have := h x; have := Jgn h xs; omega
section
variable {H : Type} {enc : TypeId × Value → H} {P : Program} {w : World} {base : Nat} {spare : Nat → Bool} {held : Bool}
structure BKS (bk : DataW H → Nat) : Prop where
 slice : ∀ es rs : List (DataW H), (es.map bk).sum ≤ bk (.slice es rs)
 agg : ∀ es : List (DataW H), (es.map bk).sum ≤ bk (.agg es)
 str : ∀ bs : List UInt8, bs.length ≤ bk (.lit (.string bs))
 one : ∀ d : DataW H, 1 ≤ bk d
theorem BKS.toBK {bk : DataW H → Nat} (K : BKS bk) : BK bk :=
 ⟨fun es rs d h => Nat.le_trans (Jgk (List.mem_map.2 ⟨d, h, rfl⟩)) (K.slice es rs), fun es d h => Nat.le_trans (Jgk (List.mem_map.2 ⟨d, h, rfl⟩)) (K.agg es), K.str⟩
theorem BKS.toBKL {bk : DataW H → Nat} (K : BKS bk) : BKL bk := { toBK := K.toBK, len := fun es rs => Nat.le_trans (Jgn K.one es) (K.slice es rs) }
theorem Jga {bk : DataW H → Nat} (K : BKS bk) {t fuel : Nat} {fs : Array Field} {cs : List Value} {x : DataW H × List MemPlace} (ht : P.underlying t = some (.struct fs)) (h : DataW.trod enc P w base spare held fuel t cs = some x) :
  ∃ (n : Nat) (xs : List (DataW H × List MemPlace)), n < fuel ∧ xs.length = fs.size ∧ (xs.map fun y => bk y.1).sum ≤ bk x.1 ∧ ∀ (i : Nat) (f : Field) (sz : Nat), fs[i]? = some f → P.cellsOf f.type = sz → DataW.trod enc P w base spare held n f.type ((cs.drop f.offset).take sz) = xs[i]? := by
 obtain ⟨xs, n, hn, hx, _, hl, hp⟩ := DataW.trod_struct ht h
 refine ⟨n, xs, by omega, hl, ?_, fun i f sz hf hc => by subst hc; exact hp i f hf⟩
 rw [hx]
 have := K.agg (xs.map (·.1))
 rw [List.map_map] at this
 exact this
theorem Jhv {bk : DataW H → Nat} (K : BKS bk) {α δ : Type} {G : J3 → (Nat → Value) → α → Prop} {m : δ → α → Nat} {t e sz fuel : Nat} {cs : List Value} {x : DataW H × List MemPlace} (ht : P.underlying t = some (.slice e)) (hc : P.cellsOf e = sz) (hsz : Nat.blt 0 sz = true)
  (hD : ∀ n cs x, n < fuel → cs.length = sz → DataW.trod enc P w base spare held n e cs = some x → ∃ a : α, G (fun b => w.heap[b]?) (fun j => cs.getD j undef) a ∧ ∀ d, m d a ≤ bk x.1) (h : DataW.trod enc P w base spare held fuel t cs = some x) :
  ∃ (v : Value) (xs : List α), cs = [v] ∧ FrN (fun b => w.heap[b]?) sz v G xs ∧ xs.length ≤ bk x.1 ∧ ∀ d, (xs.map (m d)).sum ≤ bk x.1 := by
 rcases DataW.trod_slice ht h with ⟨rfl, _⟩ | ⟨a, len, cap, elems, rest, n, hn, rfl, hx, _, hl, hm, hlen, hel, _⟩
 ·exact ⟨_, [], rfl, FrN.nil _ _ _, by simp, by simp⟩
 ·have each : ∀ i : Fin len, ∃ p : List Value × α, w.cells? base (a.add (i * sz)) sz = some p.1 ∧ p.1.length = sz ∧ G (fun b => w.heap[b]?) (fun j => p.1.getD j undef) p.2 ∧ ∀ d y, elems[(i : Nat)]? = some y → m d p.2 ≤ bk y.1 := by
   intro i
   have hi := hel i i.2
   rw [hc] at hi
   have hlt : (i : Nat) < elems.length := by rw [hlen]; exact i.2
   rw [List.getElem?_eq_getElem hlt, Option.bind_eq_some_iff] at hi
   obtain ⟨cs', h1, h2⟩ := hi
   obtain ⟨a', hg, hmm⟩ := hD _ _ _ (by omega) (Uy h1).1 h2
   refine ⟨(cs', a'), h1, (Uy h1).1, hg, fun d y hy => ?_⟩
   rw [List.getElem?_eq_getElem hlt] at hy
   cases hy
   exact hmm d
  have hsz' : 0 < sz := by simpa using hsz
  have hch : ∃ g : Fin len → List Value × α, ∀ i : Fin len, w.cells? base (a.add (i * sz)) sz = some (g i).1 ∧ (g i).1.length = sz ∧ G (fun b => w.heap[b]?) (fun j => (g i).1.getD j undef) (g i).2 ∧ ∀ d y, elems[(i : Nat)]? = some y → m d (g i).2 ≤ bk y.1 := ⟨fun i => (each i).choose, fun i => (each i).choose_spec⟩
  obtain ⟨g, hg⟩ := hch
  have hrow : Row w (some a) sz ((List.ofFn g).map fun p => p.1) := by
   cases len with
   | zero => left; simp
   | succ k =>
    have h0 := hg 0
    have hsp : a.spot = none := by
     have := (Uy h0.1).2 0 hsz'
     have hln := (Uy h0.1).1
     rw [List.getElem?_eq_getElem (by omega)] at this
     have hs := cell_spot this
     simpa [Addr.add] using hs
    obtain ⟨b, off, spot⟩ := a
    simp only at hsp
    subst hsp
    refine .inr ⟨b, off, rfl, fun i x hx => ?_⟩
    have hi : i < k + 1 := by
     rcases Nat.lt_or_ge i (k + 1) with h | h
     ·exact h
     ·rw [List.getElem?_eq_none (by simpa using h)] at hx; cases hx
    have hx' : x = (g ⟨i, hi⟩).1 := by
     rw [List.getElem?_map, List.getElem?_ofFn, dif_pos hi] at hx
     exact (Option.some.inj hx).symm
    subst hx'
    obtain ⟨c1, c2⟩ := Uy (hg ⟨i, hi⟩).1
    refine ⟨c1, fun j v hv => ?_⟩
    have hj : j < sz := by
     rcases Nat.lt_or_ge j sz with h | h
     ·exact h
     ·rw [List.getElem?_eq_none (by omega)] at hv; cases hv
    have := c2 j hj
    rw [hv, Addr.add_lit, Addr.add_lit] at this
    exact this
  have hm' : cap ≤ 9223372036854775807 := by simpa [maxLen] using hm
  have hfr : FrS (fun b => w.heap[b]?) sz (.slice (some a) len cap) ((List.ofFn g).map fun p => p.1) := ⟨⟨some a, cap, by simp, by simpa using hl, hm', Row.snap hrow hsz'⟩⟩
  refine ⟨_, (List.ofFn g).map Prod.snd, rfl, ?_, ?_, fun d => ?_⟩
  ·refine Jag (css := (List.ofFn g).map Prod.fst) ?_ ⟨by simp, fun i c y hc hy => ?_⟩
   ·have : ((List.ofFn g).map Prod.fst).map idC = (List.ofFn g).map fun p => p.1 := by rw [List.map_map]; rfl
    rw [this]; exact hfr
   ·simp only [List.getElem?_map, Option.map_eq_some_iff] at hc hy
    obtain ⟨p, hp, rfl⟩ := hc
    obtain ⟨q, hq, rfl⟩ := hy
    rw [hp] at hq
    cases hq
    have hpm := List.mem_of_getElem? hp
    rw [List.mem_ofFn] at hpm
    obtain ⟨j, rfl⟩ := hpm
    exact ⟨(hg j).2.1, (hg j).2.2.1⟩
  ·have h1 := Jgn K.one (elems.map (·.1))
   have h2 := K.slice (elems.map (·.1)) (rest.map (·.1))
   rw [hx]
   simp only [List.length_map, List.length_ofFn] at h1 ⊢
   omega
  ·have h2 := K.slice (elems.map (·.1)) (rest.map (·.1))
   rw [hx]
   refine Nat.le_trans (Jio (by simp [hlen]) fun i a y ha hy => ?_) h2
   rw [List.getElem?_map, Option.map_eq_some_iff] at ha hy
   obtain ⟨p, hp, rfl⟩ := ha
   obtain ⟨y, hy, rfl⟩ := hy
   have hi : i < len := by
    rcases Nat.lt_or_ge i len with h | h
    ·exact h
    ·rw [List.getElem?_eq_none (by simpa using h)] at hp; cases hp
   rw [List.getElem?_ofFn, dif_pos hi] at hp
   cases hp
   exact (hg ⟨i, hi⟩).2.2.2 d y hy
end
end Go.Lx
