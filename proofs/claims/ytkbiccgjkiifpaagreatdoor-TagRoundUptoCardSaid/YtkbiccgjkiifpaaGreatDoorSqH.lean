/- What was written is read back: files; TagSpans. Conditions: the file's bulk. -/
import Derived.Test.YtkbiccgjkiifpaaGreatDoorTxB
import Derived.Test.YtkbiccgjkiifpaaGreatDoorMd
import Derived.Test.YtkbiccgjkiifpaaGreatDoorLx2
import Derived.Lib.LaidTab
import Derived.MakeChecks
import Derived.ProofKit
import Derived.OpenShut
import Derived.ChangeArms
import Derived.DataReads
import Derived.JoinedCond
import Derived.LaidLaws
import Derived.SizedLaws
set_option linter.unusedVariables false
namespace Go.M
open Go.Md Go.Pl
theorem put_win {s : List UInt8} {k a : Nat} {b x : List UInt8} (hk : k + b.length ≤ s.length) (hd : a + x.length ≤ k ∨ k + b.length ≤ a) (h : win s a x) : win (put s k b) a x := by
 unfold win at *
 rcases hd with hd | hd
 ·unfold put
  rw [List.append_assoc, List.drop_append_of_le_length (by rw [List.length_take]; omega), List.take_append_of_le_length (by rw [List.length_drop, List.length_take]; omega), List.drop_take, List.take_take, Nat.min_eq_left (by omega)]
  exact h
 ·have e : (put s k b).drop a = s.drop a := by
   unfold put
   have hlen : (s.take k ++ b).length = k + b.length := by rw [List.length_append, List.length_take]; omega
   rw [List.drop_append, hlen, List.drop_eq_nil_of_le (by omega), List.nil_append, List.drop_drop]
   congr 1; omega
  rw [e]; exact h
theorem put_at_win {s : List UInt8} {k : Nat} {b : List UInt8} (hk : k + b.length ≤ s.length) : win (put s k b) k b := by
 unfold win put
 rw [List.append_assoc, List.drop_append, List.length_take, Nat.min_eq_left (by omega), Nat.sub_self, List.drop_zero, List.drop_eq_nil_of_le (by rw [List.length_take]; omega), List.nil_append, List.take_left' rfl]
theorem win_self (s t : List UInt8) : win (s ++ t) s.length t := by
 unfold win; rw [List.drop_left' rfl, List.take_length]
theorem win_left {s t x : List UInt8} {a : Nat} (h : win s a x) (ha : a + x.length ≤ s.length) : win (s ++ t) a x := by
 unfold win at *
 rw [List.drop_append_of_le_length (by omega), List.take_append_of_le_length (by rw [List.length_drop]; omega)]
 exact h
def Jf1 : List (List Ta) → Nat → Nat
 | [], _ => 0
 | _ :: _, p => ev p
noncomputable def filP (big : Bool) : List (List Ta) → Nat → List Te
 | [], _ => []
 | l :: ls, p => dirP 5 big l p ++ filP big ls (p + (Q4 5 big l p).length)
theorem Ji7 (big : Bool) (l : List Ta) (p : Nat) : ev p + 2 + 12 * l.length + 4 ≤ p + (Q4 5 big l p).length := Jj2
theorem Jgg (big : Bool) : ∀ (ls : List (List Ta)) (s : List UInt8) (k a : Nat) (x : List UInt8), k + 4 ≤ s.length → (a + x.length ≤ k ∨ k + 4 ≤ a) → a + x.length ≤ s.length → win s a x → win (filS big ls s k) a x
 | [], s, k, a, x, _, _, _, h => h
 | l :: ls, s, k, a, x, hk, hd, ha, h => by
  unfold filS
  have h4 : (Xx big ((ev s.length : Nat) : Int) 4).length = 4 := Qp _ _ (by omega)
  have hn := Ji7 big l s.length
  have hev : s.length ≤ ev s.length := by unfold ev; omega
  have hp : (put (s ++ Q4 5 big l s.length) k (Xx big ((ev s.length : Nat) : Int) 4)).length = s.length + (Q4 5 big l s.length).length := by
   rw [Jfr (by rw [h4, List.length_append]; omega), List.length_append]
  refine Jgg big ls _ _ a x (by rw [hp]; omega) (.inl (by omega)) (by rw [hp]; omega) ?_
  exact put_win (by rw [h4, List.length_append]; omega) (by rw [h4]; exact hd) (win_left h ha)
theorem fil_link (big : Bool) (ls : List (List Ta)) (s : List UInt8) (k : Nat) (hk : k + 4 ≤ s.length) (h0 : win s k (zer 4)) : win (filS big ls s k) k (Xx big ((Jf1 ls s.length : Nat) : Int) 4) := by
 cases ls with
 | nil => rw [show Xx big ((Jf1 [] s.length : Nat) : Int) 4 = zer 4 from Jjl big (by omega)]; exact h0
 | cons l ls =>
  unfold filS
  have h4 : (Xx big ((ev s.length : Nat) : Int) 4).length = 4 := Qp _ _ (by omega)
  have hn := Ji7 big l s.length
  have hev : s.length ≤ ev s.length := by unfold ev; omega
  have hp : (put (s ++ Q4 5 big l s.length) k (Xx big ((ev s.length : Nat) : Int) 4)).length = s.length + (Q4 5 big l s.length).length := by
   rw [Jfr (by rw [h4, List.length_append]; omega), List.length_append]
  refine Jgg big ls _ _ k _ (by rw [hp]; omega) (.inl (by show k + (Xx big ((ev s.length : Nat) : Int) 4).length ≤ _; omega)) (by rw [hp]; show k + (Xx big ((ev s.length : Nat) : Int) 4).length ≤ _; omega) ?_
  exact put_at_win (s := s ++ Q4 5 big l s.length) (b := Xx big ((ev s.length : Nat) : Int) 4) (by rw [h4, List.length_append]; omega)
theorem dwin_len {s : List UInt8} {d : Nat} {big : Bool} {l : List Ta} {p n : Nat} (h : dwin s d big l p n) : ev p + 2 + 12 * l.length + 4 ≤ s.length := by
 have := Jh1 h.2.2.1 (fun h => by have := Qp big (n : Int) (k := 4) (by omega); rw [h] at this; simp at this)
 rw [Qp _ _ (by omega)] at this
 exact this
theorem fil_dir (big : Bool) (l : List Ta) (ls : List (List Ta)) (s : List UInt8) (k : Nat) (hk : k + 4 ≤ s.length) (S : List UInt8) (hS : S = filS big (l :: ls) s k) :
  dwin S 4 big l s.length (Jf1 ls (s.length + (Q4 5 big l s.length).length)) ∧ S = filS big ls (put (s ++ Q4 5 big l s.length) k (Xx big ((ev s.length : Nat) : Int) 4)) (ev s.length + 2 + 12 * l.length) := by
 have h4 : (Xx big ((ev s.length : Nat) : Int) 4).length = 4 := Qp _ _ (by omega)
 have hn := Ji7 big l s.length
 have hev : s.length ≤ ev s.length := by unfold ev; omega
 have hp : (put (s ++ Q4 5 big l s.length) k (Xx big ((ev s.length : Nat) : Int) 4)).length = s.length + (Q4 5 big l s.length).length := by
  rw [Jfr (by rw [h4, List.length_append]; omega), List.length_append]
 have hS' : S = filS big ls (put (s ++ Q4 5 big l s.length) k (Xx big ((ev s.length : Nat) : Int) 4)) (ev s.length + 2 + 12 * l.length) := by rw [hS]; rfl
 refine ⟨?_, hS'⟩
 have hw : win (put (s ++ Q4 5 big l s.length) k (Xx big ((ev s.length : Nat) : Int) 4)) s.length (Q4 5 big l s.length) := put_win (by rw [h4, List.length_append]; omega) (.inr (by rw [h4]; exact hk)) (win_self s _)
 have hd := dwin_of (d := 4) hw
 have hdl := dwin_len hd
 obtain ⟨w1, w2, w3, w4⟩ := hd
 have l2 := Qp big (l.length : Int) (k := 2) (by omega)
 have lb := Jhp (Q4 4 big) big l (ev s.length + 2 + 12 * l.length + 4)
 have l4 := Qp big ((0 : Nat) : Int) (k := 4) (by omega)
 have keep : ∀ a x, (a + x.length ≤ ev s.length + 2 + 12 * l.length ∨ ev s.length + 2 + 12 * l.length + 4 ≤ a) → a + x.length ≤ s.length + (Q4 5 big l s.length).length → win (put (s ++ Q4 5 big l s.length) k (Xx big ((ev s.length : Nat) : Int) 4)) a x → win S a x := fun a x h1 h2 h3 => by
  rw [hS']; exact Jgg big ls _ _ a x (by rw [hp]; omega) h1 (by rw [hp]; exact h2) h3
 refine ⟨keep _ _ (.inl (by omega)) (by omega) w1, keep _ _ (.inl (by omega)) (by omega) w2, ?_, ?_⟩
 ·rw [hS']
  have := fil_link big ls (put (s ++ Q4 5 big l s.length) k (Xx big ((ev s.length : Nat) : Int) 4)) (ev s.length + 2 + 12 * l.length) (by rw [hp]; omega) (by
   rw [show Xx big ((0 : Nat) : Int) 4 = zer 4 from Jjl big (by omega)] at w3; exact w3)
  rw [hp] at this
  exact this
 ·have hlen : s.length + (Q4 5 big l s.length).length = ev s.length + 2 + 12 * l.length + 4 + (Jb5 (Q4 4 big) big l (ev s.length + 2 + 12 * l.length + 4)).2.length := Jd7 (Q4 4 big) big l s.length
  exact keep _ _ (.inr (Nat.le_refl _)) (by omega) w4
theorem rd_back (t : Int) (big : Bool) (S : List UInt8) (hS65 : S.length ≤ 65000) : ∀ (ls : List (List Ta)) (s : List UInt8) (k D : Nat) (r : Tb) (acc : List (List Ta)), S = filS big ls s k → k + 4 ≤ s.length → 8 ≤ s.length → (∀ l ∈ ls, dE 5 l = 0) → acc.length = D → D + ls.length ≤ 20 → r.s_ = S → r.kab = big → r.kad = D → r.kac ≤ 0 → r.no_ = 0 → Jd3 r.kae s.length → r.kaa.length ≤ D * 323216080401 →
  ∃ r' : Tb, Jij t (Jf1 ls s.length) r acc = Ur t r'.s_ r'.kab r'.kad r'.kac r'.no_ r'.kaa (acc ++ ls) r'.kae ∧ r'.s_ = S ∧ r'.no_ = 0 ∧ r'.kaa = r.kaa ++ filP big ls s.length ∧ r'.kaa.length ≤ (D + ls.length) * 323216080401 := by
 have hcap : cap 5 = 323216080401 := by rfl
 intro ls
 induction ls with
 | nil =>
  intro s k D r acc hS hk h8 hE hacc hD hs hb hd hf hno hfr hp
  exact ⟨r, by rw [rd_end t (Jf1 [] s.length) r acc (.inl rfl), List.append_nil], hs, hno, by unfold filP; simp, by simpa using hp⟩
 | cons l ls ih =>
  intro s k D r acc hS hk h8 hE hacc hD hs hb hd hf hno hfr hp
  rw [List.length_cons] at hD
  obtain ⟨hw, hS'⟩ := fil_dir big l ls s k hk S hS
  have hdl := dwin_len hw
  have h4 : (Xx big ((ev s.length : Nat) : Int) 4).length = 4 := Qp _ _ (by omega)
  have hn := Ji7 big l s.length
  have hev : s.length ≤ ev s.length := by unfold ev; omega
  have hp' : (put (s ++ Q4 5 big l s.length) k (Xx big ((ev s.length : Nat) : Int) 4)).length = s.length + (Q4 5 big l s.length).length := by
   rw [Jfr (by rw [h4, List.length_append]; omega), List.length_append]
  have hSlen : s.length + (Q4 5 big l s.length).length ≤ S.length := by
   rw [hS', Jko _ _ _ _ (by rw [hp']; omega), hp']
   have : ∀ (ls : List (List Ta)) (p : Nat), p ≤ lenF big ls p := by
    intro ls
    induction ls with
    | nil => intro p; exact Nat.le_refl _
    | cons x ls ih => intro p; unfold lenF; exact Nat.le_trans (Nat.le_add_right _ _) (ih _)
   exact this _ _
  have hlink : Jf1 ls (s.length + (Q4 5 big l s.length).length) ≤ 4294967295 := by
   cases ls with
   | nil => exact Nat.zero_le _
   | cons x xs => show ev _ ≤ _; unfold ev; omega
  obtain ⟨r', q1, q2⟩ := dir_back ⟨r.s_, r.kab, r.kaa, r.kae, r.kad + 1, r.kac, r.no_⟩ s.length l (acc.length : Int) (Jf1 ls (s.length + (Q4 5 big l s.length).length)) (hE l (by simp)) h8 (by rw [hs]; exact hS65) hno hf (by show r.kad + 1 ≤ 20; omega) (by show r.kaa.length + cap 5 ≤ _; rw [hcap]; omega) hfr (by rw [hs, hb]; exact hw) hlink
  have hpn := dirP_len 5 big l s.length (hE l (by simp))
  rw [hcap] at hpn
  have qp : r'.kaa = r.kaa ++ dirP 5 big l s.length := by have := q2.parts; rw [hb] at this; exact this
  have qs : Jd3 r'.kae (s.length + (Q4 5 big l s.length).length) := by have := q2.seen; rw [hb] at this; exact this
  obtain ⟨r'', z1, z2, z3, z4, z5⟩ := ih (put (s ++ Q4 5 big l s.length) k (Xx big ((ev s.length : Nat) : Int) 4)) (ev s.length + 2 + 12 * l.length) (D + 1) r' (acc ++ [l]) hS' (by rw [hp']; omega) (by rw [hp']; omega) (fun x hx => hE x (by simp [hx])) (by simp [hacc]) (by omega) (by have := q2.s; exact this.trans hs) (by have := q2.big; exact this.trans hb) (by have : r'.kad = r.kad + 1 := q2.dirs; omega) (by have : r'.kac = r.kac := q2.found; omega) q2.no (by rw [hp']; exact qs) (by rw [qp, List.length_append]; omega)
  rw [hp'] at z1 z4
  refine ⟨r'', ?_, z2, z3, ?_, ?_⟩
  ·show Jij t (ev s.length) r acc = _
   rw [rd_next t (ev s.length) r acc (by omega) hno (by omega) (by omega) q1, z1, List.append_assoc]; rfl
  ·rw [z4, qp, List.append_assoc]; rfl
  ·rw [List.length_cons]; rw [show D + (ls.length + 1) = D + 1 + ls.length by omega]; exact z5
end Go.M

namespace Go.M
open Go.Md Go.Pl
def padC : Nat → List Te → Nat → Prop
 | a, [], b => a = b
 | a, x :: l, b => x.From = (ev a : Int) ∧ ∃ c : Nat, x.To = (c : Int) ∧ ev a < c ∧ padC c l b
theorem Jjz {m : List Te} {b c : Nat} : ∀ {l : List Te} {a : Nat}, padC a l b → padC b m c → padC a (l ++ m) c
 | [], a, h, g => by have : a = b := h; subst this; exact g
 | x :: l, a, ⟨h1, d, h2, h3, h4⟩, g => ⟨h1, d, h2, h3, Jjz h4 g⟩
theorem padC_sep {n : Nat} : ∀ {l : List Te} {a : Nat}, padC a l n → sepS n a l
 | [], a, h => by have : a = n := h; show (a : Int) ≤ n; omega
 | x :: l, a, ⟨h1, d, h2, h3, h4⟩ => ⟨by rw [h1]; unfold ev; omega, by omega, by rw [h2]; exact padC_sep h4⟩
theorem ent_pad {d : Nat} {big : Bool} (ih : ∀ l p, padC p (dirP d big l p) (p + (Q4 d big l p).length)) (e : Ta) (q : Nat) : padC q (entP (dirP d big) (Jax big e.Value).length e q) (q + (Jce (Q4 d big) big e q).2.length) := by
 unfold entP Jce
 by_cases h13 : e.Value.kah = 13
 ·rw [if_pos h13, if_pos h13]; exact ih e.Value.kaf q
 rw [if_neg h13, if_neg h13]
 by_cases h4 : (Jax big e.Value).length ≤ 4
 ·rw [if_pos h4, if_pos h4]; exact rfl
 ·rw [if_neg h4, if_neg h4]
  refine ⟨rfl, _, rfl, by omega, ?_⟩
  show ev q + _ = q + _
  simp only [List.length_append, Jdr]; unfold ev; omega
theorem bod_pad {d : Nat} {big : Bool} (ih : ∀ l p, padC p (dirP d big l p) (p + (Q4 d big l p).length)) : ∀ (l : List Ta) (q : Nat), padC q (bodP (Q4 d big) (dirP d big) big l q) (q + (Jb5 (Q4 d big) big l q).2.length)
 | [], q => rfl
 | e :: l, q => by
  unfold bodP Jb5
  simp only [List.length_append]
  rw [← Nat.add_assoc]
  exact Jjz (ent_pad ih e q) (bod_pad ih l _)
theorem dir_pad (big : Bool) : ∀ (d : Nat) (l : List Ta) (p : Nat), padC p (dirP d big l p) (p + (Q4 d big l p).length) := by
 intro d
 induction d with
 | zero => intro l p; rfl
 | succ d ih =>
  intro l p
  have hlen : p + (Q4 (d + 1) big l p).length = ev p + 2 + 12 * l.length + 4 + (Jb5 (Q4 d big) big l (ev p + 2 + 12 * l.length + 4)).2.length := Jd7 (Q4 d big) big l p
  rw [hlen]
  refine ⟨rfl, _, rfl, by omega, ?_⟩
  rw [show ev p + (2 + 12 * l.length + 4) = ev p + 2 + 12 * l.length + 4 by omega]
  exact bod_pad ih l _
theorem fil_pad (big : Bool) : ∀ (ls : List (List Ta)) (p : Nat), padC p (filP big ls p) (lenF big ls p)
 | [], p => rfl
 | l :: ls, p => Jjz (dir_pad big 5 l p) (fil_pad big ls _)
theorem sep_from {n : Int} : ∀ {l : List Te} {a : Int}, sepS n a l → (∀ x ∈ l, a ≤ x.From) ∧ l.Pairwise fun x y => x.From < y.From
 | [], a, h => ⟨by simp, List.Pairwise.nil⟩
 | x :: l, a, h => by
  obtain ⟨h1, h2, h3⟩ := h
  obtain ⟨g1, g2⟩ := sep_from h3
  refine ⟨fun y hy => ?_, List.pairwise_cons.2 ⟨fun y hy => by have := g1 y hy; omega, g2⟩⟩
  rcases List.mem_cons.1 hy with h | h
  ·rw [h]; exact h1
  ·have := g1 y h; omega
theorem sep_lap {n : Int} : ∀ {l : List Te} {a : Int}, sepS n a l → ¬ lapP l
 | [], a, h => by rintro ⟨i, hi, _⟩; simp at hi
 | x :: l, a, h => by
  obtain ⟨h1, h2, h3⟩ := h
  rintro ⟨i, hi, hlt⟩
  cases i with
  | zero =>
   cases l with
   | nil => simp at hi
   | cons y l =>
    have := h3.1
    simp at hlt; omega
  | succ i => exact sep_lap h3 ⟨i, by simpa using hi, by simpa using hlt⟩
theorem num42 (big : Bool) : Xx big 42 2 = if big then [0, 42] else [42, 0] := by
 rw [numS_dig _ _ _ (by omega)]
 cases big <;> rfl
theorem head_at (f : Tg) {a : Nat} {x : List UInt8} (ha : a + x.length ≤ 4) (h : win (Jey f.Big) a x) : win (Jar f) a x :=
 Jgg f.Big f.kal (Jey f.Big) 4 a x (by rw [Ue]; omega) (.inl ha) (by rw [Ue]; omega) h
theorem octF_ge (f : Tg) : 8 ≤ (Jar f).length := by
 rw [Jkd]
 have : ∀ (ls : List (List Ta)) (p : Nat), p ≤ lenF f.Big ls p := by
  intro ls
  induction ls with
  | nil => intro p; exact Nat.le_refl _
  | cons x ls ih => intro p; unfold lenF; exact Nat.le_trans (Nat.le_add_right _ _) (ih _)
 exact this _ _
theorem Jg0 {f : Tg} (h : Jbc f = 0) : f.kal.length ≤ 20 ∧ (∀ l ∈ f.kal, dE 5 l = 0) ∧ (Jar f).length ≤ 65000 := by
 unfold Jbc at h
 split at h
 ·exact absurd h (by decide)
 split at h
 ·rename_i h2; exact absurd h h2
 split at h
 ·exact absurd h (by decide)
 rename_i h1 h2 h3
 exact ⟨by omega, Jio (Classical.byContradiction fun hc => h2 hc), by omega⟩
open Classical in
theorem read_written {f : Tg} (hb : Jdd f) (he : Jbc f = 0) {fd : Nat} (hfd : fd ≤ 0) : Je2 (Jar f) fd = some (f, filP f.Big f.kal 8, 0) := by
 obtain ⟨hn, hE, h65⟩ := Jg0 he
 have h8 := octF_ge f
 have hh2 : win (Jey f.Big) 0 ((if f.Big then [77, 77] else [73, 73]) ++ Xx f.Big 42 2) := by
  have : Jey f.Big = ((if f.Big then [77, 77] else [73, 73]) ++ Xx f.Big 42 2) ++ zer 4 := rfl
  unfold win
  rw [List.drop_zero, this, List.take_left' rfl]
 have hw4 : win (Jar f) 0 ((if f.Big then [77, 77] else [73, 73]) ++ Xx f.Big 42 2) := head_at f (by rw [List.length_append, Qp _ _ (by omega)]; cases f.Big <;> simp) hh2
 have h4t : (Jar f).take 4 = if f.Big then [77, 77, 0, 42] else [73, 73, 42, 0] := by
  unfold win at hw4
  rw [num42] at hw4
  cases hB : f.Big <;> rw [hB] at hw4 <;> simpa using hw4
 have hbeg : Jcw (Jar f) = some true := by
  unfold Jcw
  rw [cI, if_neg (by omega), Jch (by omega), Jb, cI, Jb, show (4 : Int).toNat = 4 from rfl, h4t]
  cases f.Big <;> rfl
 have h0 : (Jar f)[0]'(by omega) = if f.Big then 77 else 73 := by
  have := congrArg (fun l => l[0]?) h4t
  simp only [List.getElem?_take] at this
  rw [if_pos (by omega), List.getElem?_eq_getElem (by omega)] at this
  cases hB : f.Big <;> rw [hB] at this <;> simpa using this
 have hbig : decide ((((Jar f)[0]'(by omega)).toNat : Int) = 77) = f.Big := by
  rw [h0]; cases f.Big <;> rfl
 have hz : win (Jey f.Big) 4 (zer 4) := by
  unfold win Jey
  rw [W7, List.drop_left' (by rw [List.length_append, Qp _ _ (by omega)]; cases f.Big <;> rfl), List.take_of_length_le (by rw [W7]; omega)]
 have hlink : win (Jar f) 4 (Xx f.Big ((Jf1 f.kal 8 : Nat) : Int) 4) := by
  have := fil_link f.Big f.kal (Jey f.Big) 4 (by rw [Ue]; omega) hz
  rw [Ue] at this
  exact this
 have hlk : Jf1 f.kal 8 ≤ 8 := by
  cases f.kal with
  | nil => exact Nat.zero_le _
  | cons x xs => exact Nat.le_refl _
 have hval : Jb3 f.Big (((Jar f).drop 4).take 4) = Jf1 f.kal 8 := by
  rw [win_val hlink (Qp _ _ (by omega))]
  have := Jcj f.Big (n := ((Jf1 f.kal 8 : Nat) : Int)) (by omega)
  omega
 unfold Je2
 rw [cI, if_neg (by omega), hbeg, Jb, Bool.not_true, Qf, show (0 : Int) = ((0 : Nat) : Int) from rfl, Ua (by omega), Jb, show (4 : Int) = ((4 : Nat) : Int) from rfl, Je8 (a := 4) (k := 4) _ (by show 4 + 4 ≤ (Jar f).length; omega) (by omega) (by show (Jar f).length ≤ 65000; omega), Jb]
 simp only [hbig, hval]
 obtain ⟨r', q1, q2, q3, q4, q5⟩ := rd_back (((Jar f)[0]'(by omega)).toNat : Int) f.Big (Jar f) h65 f.kal (Jey f.Big) 4 0 ⟨Jar f, f.Big, [], [], 0, fd, 0⟩ [] rfl (by rw [Ue]; omega) (by rw [Ue]; omega) hE rfl (by omega) rfl rfl rfl hfd rfl (fun k _ => rfl) (by simp)
 rw [Ue] at q1 q4
 refine q1.trans ?_
 have hpad := fil_pad f.Big f.kal 8
 rw [← Jkd] at hpad
 have hsep := padC_sep hpad
 have hparts : r'.kaa = filP f.Big f.kal 8 := by rw [q4]; rfl
 have hsort : Jg8 r'.kaa Qu = some (filP f.Big f.kal 8) := by
  rw [hparts]
  have hp := (sep_from hsep).2
  have hl := (Jhg hsep).2.1
  have := sortF_is Jjn (List.Perm.refl (filP f.Big f.kal 8)) (hp.imp fun {x y} h => by
   unfold leC
   rw [decide_eq_true_iff, Jeu]; exact .inl h)
  unfold Jg8
  rw [if_pos ⟨by omega, Jjn⟩, ← this]
 have hl := (Jhg hsep).2.1
 unfold Ur
 rw [hsort, Jb, cI, if_pos q3, Jjp _ (by omega), Jb, decide_eq_false (sep_lap hsep), Qf]
 unfold Ul
 have hf : (⟨decide ((((Jar f)[0]'(by omega)).toNat : Int) = 77), [] ++ f.kal⟩ : Tg) = f := by
  rw [hbig, List.nil_append]
 rw [cI, if_pos q3, hf, Jdu hb, he, Jb]
 unfold Jam
 rw [cI, if_neg (by simp), hf]
 rfl
theorem Write_eq {f : Tg} (hb : Jdd f) : Z4 f = some (if Jbc f = 0 then (Jar f, 0) else ([], Jbc f)) := by
 unfold Z4
 rw [Jdu hb, Jb, cI]
 by_cases he : Jbc f = 0
 ·obtain ⟨hok, hn⟩ := Jjk hb he
  rw [if_neg (by simp [he]), if_pos he, written_eq hok hn hb.2, Jb]
 ·rw [if_pos he, if_neg he]
end Go.M

namespace Go.M
open Go.Md Go.Pl
noncomputable def valE (v : Tc) : Int := open Classical in if v.kah ≠ 13 then Ja9 v else if Y1 v ≠ 0 then Y1 v else dE 5 v.kaf
theorem CV_eq {v : Tc} (hb : vB v) (hz : szD 5 v.kaf ≤ 2000000) : Jcd v = some (valE v) := by
 unfold Jcd valE
 rw [cI]
 by_cases h13 : v.kah = 13
 ·rw [if_neg (show ¬ v.kah ≠ 13 from fun h => h h13), if_neg (show ¬ v.kah ≠ 13 from fun h => h h13), Jd9, Jb, cI]
  by_cases hf : Y1 v ≠ 0
  ·rw [if_pos hf, if_pos hf]
  ·rw [if_neg hf, if_neg hf, Jix 5 _ 1 (by omega) (by omega) hz, Jb]
 ·rw [if_pos h13, if_pos h13, Jgu hb, Jb]
end Go.M

namespace Go.M
open Go.Md Go.Pl
theorem fix_way {α ρ : Type} {F : (α → Option ρ) → α → Option ρ} {o : Option ρ} (st : Nat → α) (n : Nat) (more : ∀ k, k < n → ∀ next, F next (st k) = next (st (k + 1))) (stop : ∀ next, F next (st n) = o) : Z8 F (st 0) = o := by
 have key : ∀ m, m ≤ n → Z8 F (st (n - m)) = o := by
  intro m
  induction m with
  | zero => intro _; exact Qs stop
  | succ m ih =>
   intro h
   rw [Xi (b := st (n - (m + 1) + 1)) (more _ (by omega)), show n - (m + 1) + 1 = n - m from by omega]
   exact ih (by omega)
 simpa using key n (Nat.le_refl _)
def Jbp (cs : List UInt8) : Nat → Bool := cs.foldl (fun m c => setA m c.toNat true) (fun _ => false)
theorem setC_iff (cs : List UInt8) (c : UInt8) : Jbp cs c.toNat = true ↔ c ∈ cs := by
 have key : ∀ (cs : List UInt8) (m : Nat → Bool), cs.foldl (fun m c => setA m c.toNat true) m c.toNat = true ↔ m c.toNat = true ∨ c ∈ cs := by
  intro cs
  induction cs with
  | nil => intro m; simp
  | cons d cs ih =>
   intro m
   rw [List.foldl_cons, ih, List.mem_cons]
   unfold setA
   by_cases h : c.toNat = d.toNat
   ·have : c = d := UInt8.toNat_inj.1 h
    simp [this]
   ·have : c ≠ d := fun e => h (by rw [e])
    simp [h, this]
 unfold Jbp
 rw [key]; simp
theorem set_step {cs : List UInt8} (hcs : ∀ c ∈ cs, c.toNat < 128) (hl : cs.length ≤ 1000) {k : Nat} (hk : k < cs.length) (next : Int × (Nat → Bool) → Option ((Nat → Bool) × Bool)) (m : Nat → Bool) :
  Xb cs next (k : Int) m = next ((k + 1 : Nat), setA m cs[k].toNat true) := by
 have hc := hcs _ (List.getElem_mem hk)
 unfold Xb
 rw [Zn, if_pos (by omega), Ua hk, Jb, Zn, if_neg (by omega), gIx_nat (by omega), Jb, J5 (by omega), Jb]
 rfl
theorem set_eq {cs : List UInt8} (hcs : ∀ c ∈ cs, c.toNat < 128) (hl : cs.length ≤ 1000) : Wt cs = some (Jbp cs, true) := by
 unfold Wt
 refine fix_way (fun k => ((k : Int), Jbp (cs.take k))) cs.length (fun k hk next => ?_) (fun _ => ?_)
 ·show Xb cs next (k : Int) (Jbp (cs.take k)) = _
  rw [set_step hcs hl hk]
  congr 2
  unfold Jbp
  rw [List.take_add_one, List.getElem?_eq_getElem hk, List.foldl_append]; rfl
 ·show Xb cs _ (cs.length : Int) (Jbp (cs.take cs.length)) = _
  unfold Xb
  rw [Zn, if_neg (by omega), List.take_length]; rfl
theorem has_eq (cs : List UInt8) (c : UInt8) : Yr (Jbp cs) (c.toNat : Int) = some (decide (c ∈ cs), Jbp cs) := by
 have hc := c.toNat_lt
 unfold Yr
 rw [gIx_nat (by omega), Jb]
 congr 2
 rw [Bool.eq_iff_iff, setC_iff]; simp
theorem trimR {cs : List UInt8} (s : List UInt8) (hs : s.length ≤ 1000) : ∃ r : List UInt8 × (Nat → Bool), Vi s (Jbp cs) = some r ∧ (∃ suf, s = r.1 ++ suf ∧ ∀ c ∈ suf, c ∈ cs) ∧ r.2 = Jbp cs ∧ (∀ c, r.1.getLast? = some c → c ∉ cs) := by
 unfold Vi
 refine fix_run (fun a => (∃ suf, s = a.1 ++ suf ∧ ∀ c ∈ suf, c ∈ cs) ∧ a.2 = Jbp cs) (fun a => a.1.length) (fun (r : List UInt8 × (Nat → Bool)) => (∃ suf, s = r.1 ++ suf ∧ ∀ c ∈ suf, c ∈ cs) ∧ r.2 = Jbp cs ∧ (∀ c, r.1.getLast? = some c → c ∉ cs)) ?_ (s, Jbp cs) ⟨⟨[], by simp, by simp⟩, rfl⟩
 rintro ⟨x, m⟩ ⟨⟨suf, h1, h2⟩, h3⟩
 simp only at h1 h3
 subst h3
 have hl : x.length ≤ 1000 := by have := congrArg List.length h1; rw [List.length_append] at this; omega
 rcases List.eq_nil_or_concat x with rfl | ⟨ini, c, rfl⟩
 ·exact .inl ⟨([], Jbp cs), ⟨⟨suf, h1, h2⟩, rfl, by simp⟩, fun _ => rfl⟩
 ·simp only [List.concat_eq_append, List.length_append, List.length_singleton] at *
  have e1 : gI (((ini.length + 1 : Nat) : Int) - 1) = some (ini.length : Int) := by rw [J5 (by omega)]; congr 1; omega
  have e2 : Zp (ini ++ [c]) (ini.length : Int) = some (c.toNat : Int) := by rw [Ua (by simp)]; simp
  have e3 : Yw (ini ++ [c]) 0 (ini.length : Int) = some ini := by rw [Jch (by simp; omega)]; simp
  have key : ∀ next, Yp next (ini ++ [c]) (Jbp cs) = if c ∈ cs then next (ini, Jbp cs) else some (ini ++ [c], Jbp cs) := by
   intro next
   unfold Yp
   rw [List.length_append, List.length_singleton, Zn, if_pos (by omega), e1, Jb, e2, Jb, has_eq, Jb, Jb, e3, Jb]
   by_cases hd : c ∈ cs
   ·rw [if_pos hd]; simp [hd]
   ·rw [if_neg hd]; simp [hd]
  by_cases hd : c ∈ cs
  ·refine .inr ⟨(ini, Jbp cs), ⟨⟨c :: suf, by rw [h1]; simp, fun d hd' => ?_⟩, rfl⟩, by simp, fun next => (key next).trans (if_pos hd)⟩
   rcases List.mem_cons.1 hd' with rfl | h
   ·exact hd
   ·exact h2 d h
  ·exact .inl ⟨(ini ++ [c], Jbp cs), ⟨⟨suf, h1, h2⟩, rfl, fun d hd' => by simp at hd'; subst hd'; exact hd⟩, fun next => (key next).trans (if_neg hd)⟩
theorem trimL {cs : List UInt8} (s : List UInt8) (hs : s.length ≤ 1000) : ∃ r : List UInt8 × (Nat → Bool), V8 s (Jbp cs) = some r ∧ (∃ pre, s = pre ++ r.1 ∧ ∀ c ∈ pre, c ∈ cs) ∧ r.2 = Jbp cs ∧ (∀ c, r.1.head? = some c → c ∉ cs) := by
 unfold V8
 refine fix_run (fun a => (∃ pre, s = pre ++ a.1 ∧ ∀ c ∈ pre, c ∈ cs) ∧ a.2 = Jbp cs) (fun a => a.1.length) (fun (r : List UInt8 × (Nat → Bool)) => (∃ pre, s = pre ++ r.1 ∧ ∀ c ∈ pre, c ∈ cs) ∧ r.2 = Jbp cs ∧ (∀ c, r.1.head? = some c → c ∉ cs)) ?_ (s, Jbp cs) ⟨⟨[], by simp, by simp⟩, rfl⟩
 rintro ⟨x, m⟩ ⟨⟨pre, h1, h2⟩, h3⟩
 simp only at h1 h3
 subst h3
 cases x with
 | nil => exact .inl ⟨([], Jbp cs), ⟨⟨pre, h1, h2⟩, rfl, by simp⟩, fun _ => rfl⟩
 | cons c x =>
  have e2 : Zp (c :: x) 0 = some (c.toNat : Int) := by rw [gOct_ok (by omega) (by simp)]; rfl
  have e3 : Yw (c :: x) 1 ((c :: x).length : Nat) = some x := by rw [Ja2 (by rw [List.length_cons]; omega)]; rfl
  have key : ∀ next, Yy next (c :: x) (Jbp cs) = if c ∈ cs then next (x, Jbp cs) else some (c :: x, Jbp cs) := by
   intro next
   unfold Yy
   rw [Zn, if_pos (by rw [List.length_cons]; omega), e2, Jb, has_eq, Jb, e3, Jb]
   by_cases hd : c ∈ cs
   ·rw [if_pos hd]; simp [hd]
   ·rw [if_neg hd]; simp [hd]
  by_cases hd : c ∈ cs
  ·refine .inr ⟨(x, Jbp cs), ⟨⟨pre ++ [c], by rw [h1]; simp, fun d hd' => ?_⟩, rfl⟩, by simp, fun next => (key next).trans (if_pos hd)⟩
   rcases List.mem_append.1 hd' with h | h
   ·exact h2 d h
   ·rw [List.mem_singleton.1 h]; exact hd
  ·exact .inl ⟨(c :: x, Jbp cs), ⟨⟨pre, h1, h2⟩, rfl, fun d hd' => by simp at hd'; subst hd'; exact hd⟩, fun next => (key next).trans (if_neg hd)⟩
theorem trim_ok {cs : List UInt8} (hcs : ∀ c ∈ cs, c.toNat < 128) (h2 : 2 ≤ cs.length) (hcl : cs.length ≤ 1000) (s : List UInt8) (hs : s.length ≤ 1000) : ∃ r, Jcc s cs = some r ∧ (r = [] ↔ ∀ c ∈ s, c ∈ cs) := by
 unfold Jcc
 by_cases h0 : s = []
 ·subst h0; exact ⟨[], rfl, by simp⟩
 ·have hc0 : ¬ cs = [] := fun h => by rw [h] at h2; simp at h2
  rw [Zn, if_neg h0, Zn, if_neg hc0, Zn, if_neg (by omega)]
  obtain ⟨r, hr, ⟨suf, h1, h2⟩, h3, h4⟩ := trimR (cs := cs) s hs
  have hl : r.1.length ≤ 1000 := by have := congrArg List.length h1; rw [List.length_append] at this; omega
  obtain ⟨q, hq, ⟨pre, k1, k2⟩, _, k4⟩ := trimL (cs := cs) r.1 hl
  refine ⟨q.1, ?_, fun h c hc => ?_, fun h => ?_⟩
  ·unfold Jbj
   rw [set_eq hcs hcl, Jb, X8, hr, Jb, h3, hq, Jb]
  ·rw [h1, k1, h] at hc
   simp only [List.append_nil, List.mem_append] at hc
   rcases hc with h | h
   ·exact k2 c h
   ·exact h2 c h
  ·cases hq1 : q.1 with
   | nil => rfl
   | cons c x =>
    exact absurd (h c (by rw [h1, k1, hq1]; simp)) (k4 c (by rw [hq1]; rfl))
end Go.M

namespace Go.M
open Go.Md Go.Pl
theorem gIxB_nat (s : List UInt8) (c : UInt8) : gIxB s (c.toNat : Int) = some (ixB s c) := by
 unfold gIxB
 rw [Int.toNat_natCast, show c.toNat.toUInt8 = c from by simp]
def Yl (c : UInt8) : List UInt8 → List UInt8 × List UInt8 × Bool
 | [] => ([], [], false)
 | b :: l => if b = c then ([], l, true) else (b :: (Yl c l).1, (Yl c l).2.1, (Yl c l).2.2)
theorem cutS_no {c : UInt8} {s : List UInt8} : (Yl c s).2.2 = false → Yl c s = (s, [], false) := by
 induction s with
 | nil => intro _; rfl
 | cons b l ih =>
  intro h
  unfold Yl at h ⊢
  by_cases hb : b = c
  ·rw [if_pos hb] at h; cases h
  ·rw [if_neg hb] at h ⊢; rw [ih h]
theorem Je6 {c : UInt8} {s : List UInt8} : (Yl c s).2.2 = true → s = (Yl c s).1 ++ c :: (Yl c s).2.1 := by
 induction s with
 | nil => intro h; cases h
 | cons b l ih =>
  intro h
  unfold Yl at h ⊢
  by_cases hb : b = c
  ·rw [if_pos hb]; rw [hb]; rfl
  ·rw [if_neg hb] at h ⊢
   show b :: l = b :: ((Yl c l).1 ++ c :: (Yl c l).2.1)
   rw [← ih h]
theorem cutS_ix (c : UInt8) (s : List UInt8) : ixB s c = if (Yl c s).2.2 = true then ((Yl c s).1.length : Int) else -1 := by
 induction s with
 | nil => rfl
 | cons b l ih =>
  unfold ixB Yl
  by_cases hb : b = c
  ·rw [if_pos hb, if_pos hb]; rfl
  ·rw [if_neg hb, if_neg hb, ih]
   by_cases h : (Yl c l).2.2 = true
   ·simp only [if_pos h, List.length_cons]
    rw [if_neg (by omega)]; omega
   ·simp only [if_neg h, if_true]
theorem Ji6 {c : UInt8} {a b : List UInt8} (h : ∀ x ∈ a, x ≠ c) : Yl c (a ++ c :: b) = (a, b, true) := by
 induction a with
 | nil => simp [Yl]
 | cons x a ih =>
  show Yl c (x :: (a ++ c :: b)) = _
  unfold Yl
  rw [if_neg (h x (by simp)), ih fun y hy => h y (by simp [hy])]
theorem Index1_eq (s : List UInt8) (c : UInt8) : Yd s [c] = some (ixB s c) := by
 unfold Yd
 rw [Zn, if_neg (by simp), Zn]
 by_cases h : [c] = s
 ·rw [if_pos h, ← h]; simp [ixB]
 ·rw [if_neg h, Zn, if_pos (show (([c] : List UInt8).length : Int) = 1 from rfl)]
  show Jo (some (c.toNat : Int)) _ = _
  rw [Jb]
  unfold Xm
  rw [gIxB_nat]; rfl
theorem Cut_eq {s : List UInt8} (hs : s.length ≤ 9223372036854775000) (c : UInt8) : Zx s [c] = some (Yl c s) := by
 unfold Zx Wx
 rw [Index1_eq, Jb, cutS_ix]
 by_cases h : (Yl c s).2.2 = true
 ·have hl := congrArg List.length (Je6 h)
  rw [List.length_append, List.length_cons] at hl
  have e1 : s.take (Yl c s).1.length = (Yl c s).1 := by
   have := List.take_left' (l₁ := (Yl c s).1) (l₂ := c :: (Yl c s).2.1) rfl
   rwa [← Je6 h] at this
  have e2 : s.drop ((Yl c s).1.length + 1) = (Yl c s).2.1 := by
   have := List.drop_left' (l₁ := (Yl c s).1 ++ [c]) (l₂ := (Yl c s).2.1) rfl
   rw [List.append_assoc, List.singleton_append, ← Je6 h] at this
   simpa using this
  have e4 : (([c] : List UInt8).length : Int) = 1 := rfl
  rw [if_pos h, Zn, if_pos (by omega), Jch (by omega), Jb, J5 (by rw [e4]; omega), Jb, Ja2 (by rw [e4]; omega), Jb, Jb]
  have e3 : (((Yl c s).1.length : Int) + (([c] : List UInt8).length : Int)).toNat = (Yl c s).1.length + 1 := by rw [e4]; omega
  rw [e3, e2, Int.toNat_natCast, e1, ← h]
 ·rw [if_neg h, Zn, if_neg (by omega), Jb, cutS_no (by simpa using h)]
theorem Pre_eq (s : List UInt8) (c : UInt8) : Q6 s [c] = some (decide (s.head? = some c)) := by
 unfold Q6
 rw [Zn]
 cases s with
 | nil => simp
 | cons b l =>
  have e4 : (([c] : List UInt8).length : Int) = 1 := rfl
  rw [if_pos (by rw [e4, List.length_cons]; omega), Jch (by rw [e4, List.length_cons]; omega), Jb]
  simp
theorem TrimP_eq (s : List UInt8) (c : UInt8) : U0 s [c] = some (if s.head? = some c then s.tail else s) := by
 unfold U0 Zo
 rw [Pre_eq, Jb]
 by_cases h : s.head? = some c
 ·have h1 : 1 ≤ s.length := by cases s with | nil => cases h | cons => simp
  rw [decide_eq_true h, X8, Ja2 (by rw [show (([c] : List UInt8).length : Int) = 1 from rfl]; omega), Jb, Jb, if_pos h]
  simp [List.drop_one]
 ·rw [decide_eq_false h, Qf, Jb, if_neg h]
def dg (c : UInt8) : Bool := decide (48 ≤ c.toNat ∧ c.toNat ≤ 57)
def Jag (a : Nat) (l : List UInt8) : Nat := l.foldl (fun n c => n * 10 + (c.toNat - 48)) a
def D10 : List UInt8 := [48, 49, 50, 51, 52, 53, 54, 55, 56, 57]
theorem dg_mem (c : UInt8) : c ∈ D10 ↔ dg c = true := by
 unfold dg
 rw [decide_eq_true_iff]
 constructor
 ·intro h
  simp only [D10, List.mem_cons, List.not_mem_nil, or_false] at h
  rcases h with h | h | h | h | h | h | h | h | h | h <;> subst h <;> decide
 ·intro h
  have e : c = UInt8.ofNat c.toNat := by simp
  have : c.toNat = 48 ∨ c.toNat = 49 ∨ c.toNat = 50 ∨ c.toNat = 51 ∨ c.toNat = 52 ∨ c.toNat = 53 ∨ c.toNat = 54 ∨ c.toNat = 55 ∨ c.toNat = 56 ∨ c.toNat = 57 := by omega
  rcases this with h | h | h | h | h | h | h | h | h | h <;> rw [h] at e <;> rw [e] <;> decide
theorem TrimD (s : List UInt8) (hs : s.length ≤ 1000) : ∃ r, Jcc s [48, 49, 50, 51, 52, 53, 54, 55, 56, 57] = some r ∧ (r = [] ↔ s.all dg = true) := by
 obtain ⟨r, h1, h2⟩ := trim_ok (cs := D10) (by decide) (by decide) (by decide) s hs
 refine ⟨r, h1, h2.trans ?_⟩
 rw [List.all_eq_true]
 exact ⟨fun h c hc => (dg_mem c).1 (h c hc), fun h c hc => (dg_mem c).2 (h c hc)⟩
theorem decF_val {l : List UInt8} : ∀ {a : Nat}, l.all dg = true → decF a l = some (Jag a l) := by
 induction l with
 | nil => intro a _; rfl
 | cons c l ih =>
  intro a h
  rw [List.all_cons, Bool.and_eq_true] at h
  unfold decF digV
  have := h.1
  unfold dg at this
  rw [decide_eq_true_iff] at this
  rw [if_pos this]
  exact ih h.2
theorem atoi_val {l : List UInt8} (hl : l ≠ []) (hn : l.length ≤ 18) (h : l.all dg = true) : gAtoi l = some ((Jag 0 l : Nat) : Int) := by
 unfold gAtoi
 rw [if_pos hn]
 cases l with
 | nil => exact absurd rfl hl
 | cons c l =>
  have hc : dg c = true := by rw [List.all_cons, Bool.and_eq_true] at h; exact h.1
  have h45 : ¬ (c == 45) = true := by intro e; rw [beq_iff_eq] at e; subst e; revert hc; decide
  have h43 : ¬ (c == 43) = true := by intro e; rw [beq_iff_eq] at e; subst e; revert hc; decide
  show (if (c == 45) = true then _ else if (c == 43) = true then _ else (decN (c :: l)).map fun (m : Nat) => (m : Int)) = _
  rw [if_neg h45, if_neg h43]
  unfold decN
  rw [if_neg (by simp), decF_val h]; rfl
theorem valS_app (a : Nat) (l m : List UInt8) : Jag a (l ++ m) = Jag (Jag a l) m := List.foldl_append
theorem valS_acc (l : List UInt8) : ∀ a : Nat, Jag a l = a * 10 ^ l.length + Jag 0 l := by
 induction l with
 | nil => intro a; simp [Jag]
 | cons c l ih =>
  intro a
  show Jag (a * 10 + (c.toNat - 48)) l = _ + Jag (0 * 10 + (c.toNat - 48)) l
  rw [ih (a * 10 + (c.toNat - 48)), ih (0 * 10 + (c.toNat - 48)), List.length_cons, Nat.pow_succ, Nat.zero_mul, Nat.zero_add, Nat.add_mul, Nat.add_assoc, Nat.mul_assoc, Nat.mul_comm 10]
theorem valS_lt {l : List UInt8} (h : l.all dg = true) : Jag 0 l < 10 ^ l.length := by
 induction l with
 | nil => simp [Jag]
 | cons c l ih =>
  rw [List.all_cons, Bool.and_eq_true] at h
  have h1 := ih h.2
  have h2 := h.1
  unfold dg at h2
  rw [decide_eq_true_iff] at h2
  show Jag (0 * 10 + (c.toNat - 48)) l < _
  rw [valS_acc, List.length_cons, Nat.pow_succ, Nat.zero_mul, Nat.zero_add]
  have h3 : (c.toNat - 48) * 10 ^ l.length ≤ 9 * 10 ^ l.length := Nat.mul_le_mul_right _ (by omega)
  omega
theorem Jjd {d : Nat} (h : d < 10) : dg (UInt8.ofNat (48 + d)) = true ∧ (UInt8.ofNat (48 + d)).toNat - 48 = d := by
 have e : (UInt8.ofNat (48 + d)).toNat = 48 + d := by rw [UInt8.toNat_ofNat']; omega
 unfold dg
 rw [e, decide_eq_true_iff]
 omega
theorem Jiv : ∀ (k u : Nat), u < 10 ^ (k + 1) → (U1 u).all dg = true ∧ Jag 0 (U1 u) = u ∧ U1 u ≠ [] ∧ (U1 u).length ≤ k + 1 ∧ ((U1 u).head? = some 48 → u = 0) ∧ (u = 0 → U1 u = [48]) := by
 intro k
 induction k with
 | zero =>
  intro u hu
  have hu : u < 10 := by simpa using hu
  unfold U1
  rw [if_pos hu]
  obtain ⟨h1, h2⟩ := Jjd hu
  refine ⟨by rw [List.all_cons, h1]; rfl, ?_, by simp, by simp, fun h => ?_, fun h => by subst h; rfl⟩
  ·show 0 * 10 + ((UInt8.ofNat (48 + u)).toNat - 48) = u
   omega
  ·simp only [List.head?_cons, Option.some.injEq] at h
   rw [h] at h2
   simpa using h2.symm
 | succ k ih =>
  intro u hu
  unfold U1
  by_cases h10 : u < 10
  ·rw [if_pos h10]
   obtain ⟨h1, h2⟩ := Jjd h10
   refine ⟨by rw [List.all_cons, h1]; rfl, ?_, by simp, by simp, fun h => ?_, fun h => by subst h; rfl⟩
   ·show 0 * 10 + ((UInt8.ofNat (48 + u)).toNat - 48) = u
    omega
   ·simp only [List.head?_cons, Option.some.injEq] at h
    rw [h] at h2
    simpa using h2.symm
  ·rw [if_neg h10]
   obtain ⟨h1, h2⟩ := Jjd (d := u % 10) (by omega)
   obtain ⟨i1, i2, i3, i4, i5, i6⟩ := ih (u / 10) (by rw [Nat.pow_succ] at hu; omega)
   refine ⟨by rw [List.all_append, i1, List.all_cons, h1]; rfl, ?_, by simp, by simp; omega, fun h => ?_, fun h => by omega⟩
   ·rw [valS_app, i2]
    show u / 10 * 10 + ((UInt8.ofNat (48 + u % 10)).toNat - 48) = u
    omega
   ·exfalso
    have : (U1 (u / 10)).head? = some 48 := by
     cases hd : U1 (u / 10) with
     | nil => exact absurd hd i3
     | cons c l => rw [hd] at h; simpa using h
    have := i5 this
    omega
end Go.M

namespace Go.M
open Go.Md
theorem valS_pos {l : List UInt8} (h : l.all dg = true) (h0 : l ≠ []) (hh : l.head? ≠ some 48) : 1 ≤ Jag 0 l := by
 cases l with
 | nil => exact absurd rfl h0
 | cons c l =>
  rw [List.all_cons, Bool.and_eq_true] at h
  have h2 := h.1
  unfold dg at h2
  rw [decide_eq_true_iff] at h2
  have h3 : c ≠ 48 := fun e => hh (by rw [e]; rfl)
  have h4 : c.toNat ≠ 48 := fun e => h3 (by rw [← UInt8.ofNat_toNat (x := c), e]; rfl)
  show 1 ≤ Jag (0 * 10 + (c.toNat - 48)) l
  rw [valS_acc]
  have : 1 * 10 ^ l.length ≤ (0 * 10 + (c.toNat - 48)) * 10 ^ l.length := Nat.mul_le_mul_right _ (by omega)
  have := Nat.one_le_two_pow (n := 0)
  have h10 : 1 ≤ 10 ^ l.length := Nat.one_le_pow _ _ (by omega)
  omega
theorem dg_back {c : UInt8} (h : dg c = true) : UInt8.ofNat (48 + (c.toNat - 48)) = c := by
 unfold dg at h
 rw [decide_eq_true_iff] at h
 rw [show 48 + (c.toNat - 48) = c.toNat from by omega, UInt8.ofNat_toNat]
theorem decD_back : ∀ (k : Nat) (l : List UInt8), l.length ≤ k → l.all dg = true → l ≠ [] → (l.head? = some 48 → l = [48]) → U1 (Jag 0 l) = l := by
 intro k
 induction k with
 | zero => intro l hk _ h0; exact absurd (List.length_eq_zero_iff.1 (by omega)) h0
 | succ k ih =>
  intro l hk h h0 hh
  have e := List.dropLast_concat_getLast h0
  generalize hm : l.dropLast = m at e
  generalize hc : l.getLast h0 = c at e
  have hd : m.all dg = true ∧ dg c = true := by
   rw [← e, List.all_append, Bool.and_eq_true] at h
   exact ⟨h.1, by simpa using h.2⟩
  have hcd := hd.2
  unfold dg at hcd
  rw [decide_eq_true_iff] at hcd
  have hv : Jag 0 l = Jag 0 m * 10 + (c.toNat - 48) := by rw [← e, valS_app]; rfl
  have hl : m.length + 1 = l.length := by rw [← e]; simp
  by_cases m0 : m = []
  ·subst m0
   rw [hv, show Jag 0 [] = 0 from rfl, Nat.zero_mul, Nat.zero_add]
   unfold U1
   rw [if_pos (by omega), dg_back hd.2]
   exact e
  ·have mh : m.head? ≠ some 48 := fun e1 => by
    have : l.head? = some 48 := by rw [← e, List.head?_append, e1]; rfl
    have := hh this
    rw [this] at hl
    have : m.length = 0 := by simpa using hl
    exact m0 (List.length_eq_zero_iff.1 this)
   have p1 := valS_pos hd.1 m0 mh
   have i1 := ih m (by omega) hd.1 m0 (fun e1 => absurd e1 mh)
   unfold U1
   rw [hv, if_neg (by omega), show (Jag 0 m * 10 + (c.toNat - 48)) / 10 = Jag 0 m from by omega, show (Jag 0 m * 10 + (c.toNat - 48)) % 10 = c.toNat - 48 from by omega, i1, dg_back hd.2]
   exact e
def Jdi (s : List UInt8) : List UInt8 := if s.head? = some 45 then s.tail else s
def numV (s : List UInt8) : Int := if s.head? = some 45 then -((Jag 0 s.tail : Nat) : Int) else ((Jag 0 s : Nat) : Int)
def Jht (n : Nat) (s : List UInt8) : Prop := Jdi s ≠ [] ∧ (Jdi s).length ≤ n ∧ (Jdi s).all dg = true ∧ ((Jdi s).head? = some 48 → s = [48])
theorem numV_lt {s : List UInt8} {n : Nat} (hd : (Jdi s).all dg = true) (hn : (Jdi s).length ≤ n) : -((10 ^ n : Nat) : Int) < numV s ∧ numV s < ((10 ^ n : Nat) : Int) := by
 have h1 := valS_lt hd
 have h2 : 10 ^ (Jdi s).length ≤ 10 ^ n := Nat.pow_le_pow_right (by omega) hn
 unfold numV
 unfold Jdi at h1 h2
 split
 ·rename_i h; rw [if_pos h] at h1 h2; omega
 ·rename_i h; rw [if_neg h] at h1 h2; omega
theorem atoi_num {s : List UInt8} (h0 : Jdi s ≠ []) (hn : (Jdi s).length ≤ 17) (hd : (Jdi s).all dg = true) : gAtoi s = some (numV s) := by
 unfold Jdi at h0 hn hd
 unfold numV
 by_cases h : s.head? = some 45
 ·rw [if_pos h] at h0 hn hd ⊢
  cases s with
  | nil => cases h
  | cons c l =>
   have hc : c = 45 := by simpa using h
   subst hc
   rw [List.tail_cons] at h0 hn hd ⊢
   unfold gAtoi
   rw [if_pos (by simp; omega)]
   show (if ((45 : UInt8) == 45) = true then (decN l).map fun (m : Nat) => -(m : Int) else if ((45 : UInt8) == 43) = true then (decN l).map fun (m : Nat) => (m : Int) else (decN (45 :: l)).map fun (m : Nat) => (m : Int)) = _
   rw [if_pos (by decide)]
   unfold decN
   rw [if_neg (by simpa using h0), decF_val hd]; rfl
 ·rw [if_neg h] at h0 hn hd ⊢
  exact atoi_val h0 (by omega) hd
theorem decD_zero : U1 0 = [48] := by unfold U1; rw [if_pos (by omega)]; rfl
theorem itoa_num {s : List UInt8} (h0 : Jdi s ≠ []) (hd : (Jdi s).all dg = true) : X2 (numV s) = s ↔ ((Jdi s).head? = some 48 → s = [48]) := by
 unfold Jdi at h0 hd ⊢
 unfold numV
 by_cases h : s.head? = some 45
 ·rw [if_pos h] at h0 hd ⊢
  rw [if_pos h]
  cases s with
  | nil => cases h
  | cons c l =>
   have hc : c = 45 := by simpa using h
   subst hc
   rw [List.tail_cons] at h0 hd ⊢
   by_cases hh : l.head? = some 48
   ·refine ⟨fun e => ?_, fun e => ?_⟩
    ·exfalso
     unfold X2 at e
     split at e
     ·rename_i hneg
      have e1 : U1 (Jag 0 l) = l := by
       have : (-((Jag 0 l : Nat) : Int)).natAbs = Jag 0 l := by omega
       rw [this] at e
       simpa using e
      obtain ⟨k, hk⟩ : ∃ k, Jag 0 l < 10 ^ (k + 1) := ⟨l.length, Nat.lt_of_lt_of_le (valS_lt hd) (Nat.pow_le_pow_right (by omega) (by omega))⟩
      have := (Jiv k _ hk).2.2.2.2.1 (by rw [e1]; exact hh)
      omega
     ·rename_i hneg
      have hv : Jag 0 l = 0 := by omega
      rw [hv] at e
      rw [show (-((0 : Nat) : Int)).toNat = 0 from rfl, decD_zero] at e
      simp at e
    ·have := e hh
     simp at this
   ·refine ⟨fun _ e => absurd e hh, fun _ => ?_⟩
    have p1 := valS_pos hd h0 hh
    unfold X2
    rw [if_pos (by omega), show (-((Jag 0 l : Nat) : Int)).natAbs = Jag 0 l from by omega, decD_back l.length l (Nat.le_refl _) hd h0 (fun e => absurd e hh)]
 ·rw [if_neg h] at h0 hd ⊢
  rw [if_neg h]
  have e1 : X2 ((Jag 0 s : Nat) : Int) = U1 (Jag 0 s) := by unfold X2; rw [if_neg (by omega), Int.toNat_natCast]
  rw [e1]
  refine ⟨fun e hh => ?_, fun e => decD_back s.length s (Nat.le_refl _) hd h0 e⟩
  obtain ⟨k, hk⟩ : ∃ k, Jag 0 s < 10 ^ (k + 1) := ⟨s.length, Nat.lt_of_lt_of_le (valS_lt hd) (Nat.pow_le_pow_right (by omega) (by omega))⟩
  obtain ⟨_, _, _, _, a5, a6⟩ := Jiv k _ hk
  have := a5 (by rw [e]; exact hh)
  rw [a6 this] at e
  exact e.symm
end Go.M

namespace Go.M
open Go.Md Go.Pl
end Go.M

namespace Go.M
open Go.Md Go.Pl
theorem decD_len (u : Nat) (k : Nat) (h : u < 10 ^ (k + 1)) : (U1 u).length ≤ k + 1 := by
 induction k generalizing u with
 | zero => rw [U1, if_pos (by omega)]; simp
 | succ k ih =>
  rw [U1]
  split
  ·simp
  ·have := ih (u / 10) (by rw [Nat.pow_succ] at h; omega)
   rw [List.length_append, List.length_singleton]; omega
end Go.M

namespace Go.M
open Go.Md Go.Pl
instance (n : Nat) (s : List UInt8) : Decidable (Jht n s) := by unfold Jht; infer_instance
theorem pn_j1 (s : List UInt8) : ∃ v, Y5 s (Jdi s) = some (v, decide (Jht 10 s)) ∧ (Jht 10 s → v = numV s) := by
 unfold Y5
 rw [Zn, Zn]
 by_cases h0 : Jdi s = []
 ·rw [if_pos h0]
  have : ¬ Jht 10 s := fun h => h.1 h0
  exact ⟨0, by simp [this], fun h => absurd h this⟩
 by_cases h4 : (Jdi s).length ≤ 10
 ·obtain ⟨r, hr, hr2⟩ := TrimD (Jdi s) (by omega)
  rw [if_neg h0, if_neg (by omega), hr, Jb, Zn]
  by_cases hd : (Jdi s).all dg = true
  ·have hb := numV_lt hd h4
   rw [if_neg (fun h => h (hr2.2 hd)), atoi_num h0 (by omega) hd, Jb, show Uq (numV s) = some (X2 (numV s)) from if_pos (by omega), Jb]
   refine ⟨numV s, ?_, fun _ => rfl⟩
   congr 2
   rw [decide_eq_decide, itoa_num h0 hd]
   exact ⟨fun h => ⟨h0, h4, hd, h⟩, fun h => h.2.2.2⟩
  ·have : ¬ Jht 10 s := fun h => hd h.2.2.1
   rw [if_pos (fun h => hd (hr2.1 h))]
   exact ⟨0, by simp [this], fun h => absurd h this⟩
 ·rw [if_neg h0, if_pos (by omega)]
  have : ¬ Jht 10 s := fun h => h4 h.2.1
  exact ⟨0, by simp [this], fun h => absurd h this⟩
def nOk (sg : Bool) (s : List UInt8) : Prop := Jht 10 s ∧ (sg = false → s.head? ≠ some 45)
instance (sg : Bool) (s : List UInt8) : Decidable (nOk sg s) := by unfold nOk; infer_instance
theorem bad_all {s : List UInt8} (h : s.head? = some 45) : ¬ s.all dg = true := by
 cases s with
 | nil => cases h
 | cons c l =>
  have : c = 45 := by simpa using h
  subst this
  rw [List.all_cons]
  intro e
  rw [Bool.and_eq_true] at e
  exact absurd e.1 (by decide)
theorem pn_bad {s : List UInt8} (h : s.head? = some 45) : Y5 s s = some (0, false) := by
 unfold Y5
 have h0 : s ≠ [] := fun e => by rw [e] at h; cases h
 rw [Zn, if_neg h0, Zn]
 by_cases hl : 10 < (s.length : Int)
 ·rw [if_pos hl]
 ·obtain ⟨r, hr, hr2⟩ := TrimD s (by omega)
  rw [if_neg hl, hr, Jb, Zn, if_pos (fun e => bad_all h (hr2.1 e))]
theorem pn_eq (s : List UInt8) (sg : Bool) : ∃ v, Xy s sg = some (v, decide (nOk sg s)) ∧ (nOk sg s → v = numV s) := by
 unfold Xy
 cases sg
 ·rw [Qf]
  by_cases h : s.head? = some 45
  ·have : ¬ nOk false s := fun e => e.2 rfl h
   exact ⟨0, by rw [pn_bad h]; simp [this], fun e => absurd e this⟩
  ·obtain ⟨v, h1, h2⟩ := pn_j1 s
   rw [show Jdi s = s from if_neg h] at h1
   refine ⟨v, ?_, fun e => h2 e.1⟩
   rw [h1]
   congr 2
   rw [decide_eq_decide]
   exact ⟨fun e => ⟨e, fun _ => h⟩, fun e => e.1⟩
 ·rw [X8, TrimP_eq, Jb, show (if s.head? = some 45 then s.tail else s) = Jdi s from rfl]
  obtain ⟨v, h1, h2⟩ := pn_j1 s
  refine ⟨v, ?_, fun e => h2 e.1⟩
  rw [h1]
  congr 2
  rw [decide_eq_decide]
  exact ⟨fun e => ⟨e, fun h => by cases h⟩, fun e => e.1⟩
def hxD : List UInt8 := [48, 49, 50, 51, 52, 53, 54, 55, 56, 57, 97, 98, 99, 100, 101, 102]
theorem and15 : ∀ n : Nat, n < 256 → wU8 (bAnd 8 (n : Int) 15) = ((n % 16 : Nat) : Int) := by decide +kernel
theorem or16 : ∀ a : Nat, a < 16 → ∀ b : Nat, b < 16 → wI64 (bOr 64 ((a : Int) * 16) (b : Int)) = 16 * (a : Int) + (b : Int) := by decide +kernel
theorem shr4 (n : Nat) : gShr 8 (n : Int) 4 = some ((n / 16 : Nat) : Int) := by
 unfold gShr
 rw [if_pos (by omega)]
 rfl
def hx2 (c : UInt8) : List UInt8 := [hxD.getD (c.toNat / 16) 0, hxD.getD (c.toNat % 16) 0]
def Jci (s : List UInt8) : List UInt8 := s.flatMap hx2
theorem hx_at {k : Nat} (h : k < 16) : Zp hxD (k : Int) = some ((hxD.getD k 0).toNat : Int) := by
 rw [Ua (show k < hxD.length from h)]
 congr 2
 rw [List.getD_eq_getElem?_getD, List.getElem?_eq_getElem (show k < hxD.length from h)]; rfl
theorem hex_eq {s : List UInt8} (hs : s.length ≤ 2000000) : Ji4 s = some (Jci s) := by
 unfold Ji4
 have key := fix_way (F := fun next2 (s_1 : Int × List UInt8) => Jaq s next2 s_1.1 s_1.2) (o := some (Jci s)) (fun k => ((k : Int), Jci (s.take k))) s.length (fun k hk next => ?_) (fun next => ?_)
 ·exact key
 ·show Jaq s next (k : Int) (Jci (s.take k)) = next (((k + 1 : Nat) : Int), Jci (s.take (k + 1)))
  have hc := s[k].toNat_lt
  have hlen : (Jci (s.take k)).length = 2 * k := by
   unfold Jci
   rw [List.length_flatMap, show (fun a => (hx2 a).length) = (fun _ => 2) from rfl]
   rw [List.map_const', List.sum_replicate_nat, List.length_take]; omega
  unfold Jaq
  rw [Zn, if_pos (by omega), Ua hk, Jb, shr4, Jb]
  rw [show Zp ([48, 49, 50, 51, 52, 53, 54, 55, 56, 57, 97, 98, 99, 100, 101, 102] : List UInt8) ((s[k].toNat / 16 : Nat) : Int) = _ from hx_at (by omega), Jb]
  have b1 := (hxD.getD (s[k].toNat / 16) 0).toNat_lt
  have b2 := (hxD.getD (s[k].toNat % 16) 0).toNat_lt
  rw [gBldB_ok ⟨by omega, by omega, by omega⟩, Jb, Jb, and15 _ (by omega)]
  rw [show Zp ([48, 49, 50, 51, 52, 53, 54, 55, 56, 57, 97, 98, 99, 100, 101, 102] : List UInt8) ((s[k].toNat % 16 : Nat) : Int) = _ from hx_at (by omega), Jb]
  rw [gBldB_ok ⟨by omega, by omega, by rw [List.length_append, List.length_singleton]; omega⟩, Jb, J5 (by omega), Jb]
  congr 2
  unfold Jci
  rw [List.take_add_one, List.getElem?_eq_getElem hk, List.flatMap_append]
  simp [hx2]
 ·show Jaq s next (s.length : Int) (Jci (s.take s.length)) = _
  unfold Jaq Jhc
  rw [Zn, if_neg (by omega), List.take_length]
end Go.M

namespace Go.M
open Go.Md Go.Pl
def W1 (k : Int) : List UInt8 := if k = 1 then [98, 121, 116, 101] else if k = 2 then [97, 115, 99, 105, 105] else if k = 3 then [115, 104, 111, 114, 116] else if k = 4 then [108, 111, 110, 103] else if k = 5 then [114, 97, 116, 105, 111] else if k = 7 then [111, 112, 97, 113, 117, 101] else [115, 105, 103, 110, 101, 100]
theorem word_eq (k : Int) : Jf6 k = some (W1 k) := by
 unfold Jf6 W1
 rw [cI, cI, cI, cI, cI, cI]
 (repeat' split) <;> rfl
theorem word_len (k : Int) : (W1 k).length ≤ 6 := by
 unfold W1
 (repeat' split) <;> simp
theorem Jdg {n : Int} (h : -10000000000 < n ∧ n < 10000000000) : (X2 n).length ≤ 11 := by
 unfold X2
 split
 ·have := decD_len n.natAbs 9 (by show _ < 10 ^ 10; omega)
  rw [List.length_cons]; omega
 ·have := decD_len n.toNat 9 (by show _ < 10 ^ 10; omega)
  omega
theorem Jhq {n : Int} (h : -10000000000 < n ∧ n < 10000000000) : Uq n = some (X2 n) := if_pos (by omega)
def ratW (r : Td) : List UInt8 := (X2 r.Num ++ [47]) ++ X2 r.Den
def sm (n : Int) : Prop := -10000000000 < n ∧ n < 10000000000
structure okT (v : Tc) : Prop where
 b : vB v
 ints : ∀ n ∈ v.kaj, sm n
 rats : ∀ r ∈ v.kag, sm r.Num ∧ sm r.Den
theorem vt5 {v : Tc} (h : okT v) {l0 : List (List UInt8)} (hl : l0.length ≤ 10) : Z8 (fun next5 (s : Int × List (List UInt8)) => Ym v next5 s.1 s.2) (0, l0) = Vv v (l0 ++ v.kaj.map X2) := by
 have hb := h.b.2.1
 rw [← Jex]
 refine Jb9 (F := fun next5 (s : Int × List (List UInt8)) => Ym v next5 s.1 s.2) v.kaj (fun l n => l ++ [X2 n]) (fun l => Vv v l) (fun k l => l.length ≤ 10 + k) (fun next k s hk hI => ?_) (fun next s hI => ?_) l0 hl
 ·refine ⟨?_, by show (s ++ [_]).length ≤ _; rw [List.length_append, List.length_singleton]; omega⟩
  show Ym v next (k : Int) s = _
  unfold Ym
  rw [cI, if_pos (by omega), Xg hk, Jb, Jhq (h.ints _ (List.getElem_mem hk)), Jb, Xa (by rw [List.length_singleton]; omega), Jb, J5 (by omega), Jb]
 ·show Ym v next (v.kaj.length : Int) s = _
  unfold Ym
  rw [cI, if_neg (by omega)]
theorem vt4 {v : Tc} (h : okT v) {l0 : List (List UInt8)} (hl : l0.length ≤ 2000010) : Vv v l0 = W8 v (l0 ++ v.kag.map ratW) := by
 have hb := h.b.2.2
 unfold Vv
 rw [← Jex]
 refine Jb9 (F := fun next4 (s : Int × List (List UInt8)) => Y8 v next4 s.1 s.2) v.kag (fun l n => l ++ [ratW n]) (fun l => W8 v l) (fun k l => l.length ≤ 2000010 + k) (fun next k s hk hI => ?_) (fun next s hI => ?_) l0 hl
 ·refine ⟨?_, by show (s ++ [_]).length ≤ _; rw [List.length_append, List.length_singleton]; omega⟩
  show Y8 v next (k : Int) s = _
  obtain ⟨h1, h2⟩ := h.rats _ (List.getElem_mem hk)
  have l1 := Jdg h1
  have l2 := Jdg h2
  unfold Y8
  rw [cI, if_pos (by omega), Xg hk, Jb, Jhq h1, Jb, Jdn (by rw [List.length_singleton]; omega), Jb, Jhq h2, Jb, Jdn (by rw [List.length_append, List.length_singleton]; omega), Jb, Xa (by rw [List.length_singleton]; omega), Jb, J5 (by omega), Jb]
  rfl
 ·show Y8 v next (v.kag.length : Int) s = _
  unfold Y8
  rw [cI, if_neg (by omega)]
theorem inter_len {B : Nat} : ∀ l : List (List UInt8), (∀ x ∈ l, x.length ≤ B) → (([32] : List UInt8).intercalate l).length ≤ l.length * (B + 1)
 | [], _ => by simp [List.intercalate]
 | [x], h => by
  have := h x (by simp)
  simp [List.intercalate]; omega
 | x :: y :: l, h => by
  have h1 := h x (by simp)
  have h2 := inter_len (y :: l) (fun z hz => h z (List.mem_cons_of_mem _ hz))
  have e : ([32] : List UInt8).intercalate (x :: y :: l) = x ++ ([32] ++ ([32] : List UInt8).intercalate (y :: l)) := by
   simp [List.intercalate, List.intersperse]
  rw [e, List.length_append, List.length_append, List.length_singleton, List.length_cons, Nat.succ_mul]
  omega
theorem join_ok {l : List (List UInt8)} (h1 : l.length ≤ 6000000) (h2 : ∀ x ∈ l, x.length ≤ 4000000) : ∃ s, Jgq l [32] = some s := by
 have := inter_len l h2
 have h3 : l.length * (4000000 + 1) ≤ 6000000 * (4000000 + 1) := Nat.mul_le_mul_right _ h1
 exact ⟨_, if_pos ⟨by omega, by omega⟩⟩
theorem Jgb (s : List UInt8) : (Jci s).length = 2 * s.length := by
 unfold Jci
 rw [List.length_flatMap, show (fun a => (hx2 a).length) = (fun _ => 2) from rfl]
 rw [List.map_const', List.sum_replicate_nat]; omega
end Go.M

namespace Go.M
open Go.Md Go.Pl
def kindW (w : List UInt8) : Int := if W1 1 = w then 1 else if W1 2 = w then 2 else if W1 3 = w then 3 else if W1 4 = w then 4 else if W1 5 = w then 5 else if W1 7 = w then 7 else if W1 9 = w then 9 else 0
theorem kind_step (w : List UInt8) (next : Int → Option Int) {i : Nat} {k : Int} (hi : i < 7) (hk : ([1, 2, 3, 4, 5, 7, 9] : List Int)[i]? = some k) : Zc w next (i : Int) = if W1 k = w then some k else next ((i : Int) + 1) := by
 unfold Zc
 have : Vh ([1, 2, 3, 4, 5, 7, 9] : List Int) (i : Int) = some k := by unfold Vh; rw [if_pos (by omega), Int.toNat_natCast]; exact hk
 rw [cI, if_pos (by omega), this, Jb, word_eq, Jb, cI, J5 (by omega), Jb]
theorem kindOf_eq (w : List UInt8) : Jfb w = some (kindW w) := by
 unfold Jfb kindW
 have st : ∀ (i : Nat) (k : Int) (o : Option Int), i < 7 → ([1, 2, 3, 4, 5, 7, 9] : List Int)[i]? = some k → (W1 k ≠ w → Z8 (fun next1 s => Zc w next1 s) ((i : Int) + 1) = o) → Z8 (fun next1 s => Zc w next1 s) (i : Int) = if W1 k = w then some k else o := by
  intro i k o hi hk ho
  by_cases h : W1 k = w
  ·rw [if_pos h]
   exact Qs fun next => (kind_step w next hi hk).trans (if_pos h)
  ·rw [if_neg h, ← ho h]
   exact Xi _ fun next => (kind_step w next hi hk).trans (if_neg h)
 have e7 : Z8 (fun next1 s => Zc w next1 s) (7 : Int) = some 0 := Qs fun next => by
  show Zc w next 7 = _
  unfold Zc
  rw [cI, if_neg (by omega)]
 refine (st 0 1 _ (by omega) rfl fun _ => (st 1 2 _ (by omega) rfl fun _ => (st 2 3 _ (by omega) rfl fun _ => (st 3 4 _ (by omega) rfl fun _ => (st 4 5 _ (by omega) rfl fun _ => (st 5 7 _ (by omega) rfl fun _ => (st 6 9 _ (by omega) rfl fun _ => e7))))))).trans ?_
 (repeat' split) <;> rfl
def v0 : Tc := ⟨0, [], [], [], []⟩
theorem copy_v (v : Tc) (hb : vB v) (he : v.kaf = []) : Jac v = some v := by
 have h1 := hb.2.1
 have h2 := hb.2.2
 unfold Jac Yk Ze U5
 rw [Xa (by simp; omega), Jb, Jb, Xa (by simp; omega), Jb, Jb, he, cI, if_pos (by simp), Jb]
 obtain ⟨k, t, i, r, e⟩ := v
 simp only at he
 subst he
 rfl
theorem text_kind (K : Int) : Jbr K = some (decide (Ja7 K)) := by
 unfold Jbr Ja7
 rw [cI]
 by_cases h : K = 2
 ·simp [h]
 ·simp [h]
end Go.M

namespace Go.M
open Go.Md Go.Pl
theorem decT {p : Prop} [Decidable p] (h : p) : decide p = true := decide_eq_true h
theorem decF {p : Prop} [Decidable p] (h : ¬ p) : decide p = false := decide_eq_false h
def Jcr (c : UInt8) : List UInt8 → List (List UInt8)
 | [] => [[]]
 | b :: l => if b = c then [] :: Jcr c l else (b :: (Jcr c l).headD []) :: (Jcr c l).tail
theorem splitL_cons (c b : UInt8) (l : List UInt8) : Jcr c (b :: l) = if b = c then [] :: Jcr c l else (b :: (Jcr c l).headD []) :: (Jcr c l).tail := rfl
theorem Jh8 (c b : UInt8) (l : List UInt8) : Yl c (b :: l) = if b = c then ([], l, true) else (b :: (Yl c l).1, (Yl c l).2.1, (Yl c l).2.2) := rfl
theorem Jfl (c : UInt8) : ∀ s, Jcr c s = (Yl c s).1 :: (if (Yl c s).2.2 = true then Jcr c (Yl c s).2.1 else [])
 | [] => rfl
 | b :: l => by
  have ih := Jfl c l
  rw [splitL_cons, Jh8]
  by_cases hb : b = c
  ·rw [if_pos hb, if_pos hb]; rfl
  ·rw [if_neg hb, if_neg hb, ih]; rfl
theorem cutS_count (c : UInt8) (s : List UInt8) : s.count c = if (Yl c s).2.2 = true then (Yl c s).2.1.count c + 1 else 0 := by
 induction s with
 | nil => rfl
 | cons b l ih =>
  rw [Jh8]
  by_cases hb : b = c
  ·rw [if_pos hb, hb, List.count_cons_self]; rfl
  ·rw [if_neg hb, List.count_cons_of_ne (by simpa using hb), ih]
theorem Jkr {α : Type} {l : List α} {k : Nat} {x : α} (h : k < l.length) : (l.set k x).take (k + 1) = l.take k ++ [x] := by
 rw [List.take_succ_eq_append_getElem (by rw [List.length_set]; exact h), List.take_set_of_le (Nat.le_refl _), List.getElem_set_self]
theorem gen_loop (c : UInt8) (a2 : Nat) (ha : a2 ≤ 1) (n : Nat) (hn : n ≤ 2000000) (P : List UInt8 → List (List UInt8))
  (hP : ∀ x, P x = if (Yl c x).2.2 = true then x.take ((Yl c x).1.length + a2) :: P (Yl c x).2.1 else [x]) :
  ∀ (m k : Nat) (x : List UInt8) (l : List (List UInt8)), x.length ≤ m → x.length ≤ 2000000 → l.length = n + 1 → k + x.count c = n →
   Z8 (fun next3 s => Xe [c] (a2 : Int) (n : Int) next3 s.1 s.2.1 s.2.2) (x, (k : Int), l) = some (l.take k ++ P x) := by
 intro m
 induction m with
 | zero =>
  intro k x l hx _ hl hk
  have : x = [] := List.length_eq_zero_iff.1 (by omega)
  subst this
  rw [hP, if_neg (fun h => by cases h)]
  have hkn : k = n := by simpa using hk
  subst hkn
  refine Qs fun next => ?_
  show Xe [c] (a2 : Int) (k : Int) next [] (k : Int) l = _
  unfold Xe Vf
  rw [decF (by omega), Qf, Xg (by omega), Jb, Jbo (by omega) (by omega), Jb, J5 (by omega), Jb, Jch (by rw [List.length_set]; omega), Jb, Int.toNat_natCast, show ((k : Int) + 1).toNat = k + 1 from by omega, Jkr (by omega)]
 | succ m ih =>
  intro k x l hx hx2 hl hk
  have hi : Jbf x [c] = some (ixB x c) := by unfold Jbf; rw [Index1_eq, Jb]
  have hix := cutS_ix c x
  have hct := cutS_count c x
  by_cases h : (Yl c x).2.2 = true
  ·rw [if_pos h] at hix hct
   have hln := congrArg List.length (Je6 h)
   rw [List.length_append, List.length_cons] at hln
   have e2 : x.drop ((Yl c x).1.length + 1) = (Yl c x).2.1 := by
    have := List.drop_left' (l₁ := (Yl c x).1 ++ [c]) (l₂ := (Yl c x).2.1) rfl
    rw [List.append_assoc, List.singleton_append, ← Je6 h] at this
    simpa using this
   rw [Xi ((Yl c x).2.1, ((k + 1 : Nat) : Int), l.set k (x.take ((Yl c x).1.length + a2))) fun next => by
    show Xe [c] (a2 : Int) (n : Int) next x (k : Int) l = _
    unfold Xe
    have e1 : (([c] : List UInt8).length : Int) = 1 := rfl
    rw [decT (by omega), X8, hi, Jb, hix, decF (by omega), Qf, J5 (by omega), Jb, Jch (by omega), Jb, Xg (by omega), Jb, Jbo (by omega) (by omega), Jb, e1, J5 (by omega), Jb, Ja2 (by omega), Jb, J5 (by omega), Jb]
    rw [show (((Yl c x).1.length : Int) + (a2 : Int)).toNat = (Yl c x).1.length + a2 from by omega, show (((Yl c x).1.length : Int) + 1).toNat = (Yl c x).1.length + 1 from by omega, Int.toNat_natCast, e2]
    rfl]
   rw [ih (k + 1) _ _ (by omega) (by omega) (by rw [List.length_set]; exact hl) (by omega), hP x, if_pos h, Jkr (by omega), List.append_assoc]
   rfl
  ·rw [if_neg h] at hix hct
   have hkn : k = n := by omega
   subst hkn
   rw [hP, if_neg h]
   refine Qs fun next => ?_
   show Xe [c] (a2 : Int) (k : Int) next x (k : Int) l = _
   unfold Xe Vf
   rw [decF (by omega), Qf, Xg (by omega), Jb, Jbo (by omega) (by omega), Jb, J5 (by omega), Jb, Jch (by rw [List.length_set]; omega), Jb, Int.toNat_natCast, show ((k : Int) + 1).toNat = k + 1 from by omega, Jkr (by omega)]
theorem Count_eq (c : UInt8) (s : List UInt8) : Jc0 s [c] = some ((s.count c : Nat) : Int) := by
 unfold Jc0
 rw [Zn, if_neg (by simp), Zn, if_pos (by rfl), show Zp [c] 0 = some (c.toNat : Int) from rfl, Jb, show gCnB s (c.toNat : Int) = some ((s.count c : Nat) : Int) from by unfold gCnB; rw [Int.toNat_natCast]; simp, Jb]
theorem gen_eq (c : UInt8) (a2 : Nat) (ha : a2 ≤ 1) (s : List UInt8) (hs : s.length ≤ 1000000) (P : List UInt8 → List (List UInt8))
  (hP : ∀ x, P x = if (Yl c x).2.2 = true then x.take ((Yl c x).1.length + a2) :: P (Yl c x).2.1 else [x]) : Ja3 s [c] (a2 : Int) (-1) = some (P s) := by
 have hc := List.count_le_length (a := c) (l := s)
 unfold Ja3
 rw [Zn, if_neg (by omega), Zn, if_neg (by simp), Zn, if_pos (by omega), Count_eq, Jb, J5 (by omega), Jb]
 unfold W6
 rw [J5 (by omega), Jb, show min ((s.count c : Int) + 1) ((s.length : Int) + 1) = ((s.count c + 1 : Nat) : Int) from by omega, Jjh (by omega), Jb, J5 (by omega), Jb, Int.toNat_natCast, show (((s.count c + 1 : Nat) : Int) - 1) = ((s.count c : Nat) : Int) from by omega]
 have := gen_loop c a2 ha (s.count c) (by omega) P hP s.length 0 s (List.replicate (s.count c + 1) []) (Nat.le_refl _) (by omega) (by simp) (by omega)
 rw [show ((0 : Nat) : Int) = 0 from rfl] at this
 rw [this]; simp
theorem take_cut {c : UInt8} {x : List UInt8} (h : (Yl c x).2.2 = true) : x.take ((Yl c x).1.length + 0) = (Yl c x).1 ∧ x.take ((Yl c x).1.length + 1) = (Yl c x).1 ++ [c] := by
 have e := Je6 h
 constructor
 ·have := List.take_left' (l₁ := (Yl c x).1) (l₂ := c :: (Yl c x).2.1) rfl
  rwa [← e] at this
 ·have := List.take_left' (l₁ := (Yl c x).1 ++ [c]) (l₂ := (Yl c x).2.1) rfl
  rw [List.append_assoc, List.singleton_append, ← e] at this
  simpa using this
theorem Split_eq (c : UInt8) (s : List UInt8) (hs : s.length ≤ 1000000) : Jc2 s [c] = some (Jcr c s) := by
 unfold Jc2
 rw [show (0 : Int) = ((0 : Nat) : Int) from rfl, gen_eq c 0 (by omega) s hs (Jcr c) (fun x => by
  rw [Jfl]
  by_cases h : (Yl c x).2.2 = true
  ·rw [if_pos h, if_pos h, (take_cut h).1]
  ·rw [if_neg h, if_neg h, cutS_no (by simpa using h)]), Jb]
end Go.M

namespace Go.M
open Go.Md Go.Pl
theorem dg_not {c : UInt8} (h : dg c = true) : c ≠ 45 ∧ c ≠ 32 ∧ c ≠ 47 ∧ c ≠ 10 ∧ c ≠ 123 := by
 unfold dg at h
 rw [decide_eq_true_iff] at h
 refine ⟨?_, ?_, ?_, ?_, ?_⟩ <;> rintro rfl <;> revert h <;> decide
theorem dec_ok {n : Nat} (h : n < 10000000000) : (U1 n).all dg = true ∧ Jag 0 (U1 n) = n ∧ U1 n ≠ [] ∧ (U1 n).length ≤ 10 ∧ ((U1 n).head? = some 48 → U1 n = [48]) := by
 obtain ⟨a1, a2, a3, a4, a5, a6⟩ := Jiv 9 n (by show n < 10 ^ 10; omega)
 exact ⟨a1, a2, a3, a4, fun e => a6 (a5 e)⟩
theorem dec_head {n : Nat} (h : n < 10000000000) : (U1 n).head? ≠ some 45 := by
 obtain ⟨a1, _, a3, _⟩ := dec_ok h
 cases hd : U1 n with
 | nil => exact absurd hd a3
 | cons c l =>
  rw [hd, List.all_cons, Bool.and_eq_true] at a1
  intro e
  exact (dg_not a1.1).1 (by simpa using e)
theorem itoa_pos {n : Int} (h0 : 0 ≤ n) : X2 n = U1 n.toNat := by unfold X2; rw [if_neg (by omega)]
theorem Ji2 {n : Int} (h : sm n) (sg : Bool) (hs : sg = false → 0 ≤ n) : Xy (X2 n) sg = some (n, true) := by
 unfold sm at h
 obtain ⟨v, h1, h2⟩ := pn_eq (X2 n) sg
 have ok : nOk sg (X2 n) ∧ numV (X2 n) = n := by
  by_cases h0 : 0 ≤ n
  ·obtain ⟨a1, a2, a3, a4, a5⟩ := dec_ok (n := n.toNat) (by omega)
   have hh := dec_head (n := n.toNat) (by omega)
   rw [itoa_pos h0]
   refine ⟨⟨?_, fun _ => hh⟩, ?_⟩
   ·unfold Jht Jdi
    rw [if_neg hh]
    exact ⟨a3, a4, a1, a5⟩
   ·unfold numV
    rw [if_neg hh, a2]; omega
  ·obtain ⟨a1, a2, a3, a4, a5⟩ := dec_ok (n := n.natAbs) (by omega)
   have e : X2 n = 45 :: U1 n.natAbs := by unfold X2; rw [if_pos (by omega)]
   rw [e]
   have hd : Jdi (45 :: U1 n.natAbs) = U1 n.natAbs := rfl
   refine ⟨⟨⟨by rw [hd]; exact a3, by rw [hd]; exact a4, by rw [hd]; exact a1, fun e1 => ?_⟩, fun e1 => absurd (hs e1) h0⟩, ?_⟩
   ·rw [hd] at e1
    have := a5 e1
    rw [this] at a2
    have : n.natAbs = 0 := a2.symm
    omega
   ·show -((Jag 0 (U1 n.natAbs) : Nat) : Int) = n
    rw [a2]; omega
 rw [h1, h2 ok.1, ok.2]
 simp [ok.1]
theorem Je0 {n : Int} (h : sm n) : ∀ c ∈ X2 n, c ≠ 32 ∧ c ≠ 47 ∧ c ≠ 10 ∧ c ≠ 123 := by
 have key : ∀ m : Nat, m < 10000000000 → ∀ c ∈ U1 m, c ≠ 32 ∧ c ≠ 47 ∧ c ≠ 10 ∧ c ≠ 123 := fun m hm c hc => by
  have := dg_not (List.all_eq_true.1 (dec_ok hm).1 c hc)
  exact ⟨this.2.1, this.2.2.1, this.2.2.2.1, this.2.2.2.2⟩
 unfold sm at h
 unfold X2
 split
 ·intro c hc
  rcases List.mem_cons.1 hc with e | e
  ·subst e; decide
  ·exact key _ (by omega) c e
 ·exact key _ (by omega)
theorem hxD_mem : ∀ k, k < 16 → hxD.getD k 0 ≠ 32 ∧ hxD.getD k 0 ≠ 10 ∧ hxD.getD k 0 ≠ 123 := by decide
theorem hxD_ix : ∀ k, k < 16 → ixB hxD (hxD.getD k 0) = (k : Int) := by decide
theorem hex_mem (s : List UInt8) : ∀ c ∈ Jci s, c ≠ 32 ∧ c ≠ 10 ∧ c ≠ 123 := by
 intro c hc
 unfold Jci at hc
 obtain ⟨b, _, hb⟩ := List.mem_flatMap.1 hc
 have := b.toNat_lt
 unfold hx2 at hb
 simp only [List.mem_cons, List.not_mem_nil, or_false] at hb
 rcases hb with e | e
 ·rw [e]; exact hxD_mem _ (by omega)
 ·rw [e]; exact hxD_mem _ (by omega)
theorem ix_hx {k : Nat} (h : k < 16) : Qd [48, 49, 50, 51, 52, 53, 54, 55, 56, 57, 97, 98, 99, 100, 101, 102] ((hxD.getD k 0).toNat : Int) = some (k : Int) := by
 unfold Qd Xm
 rw [show ([48, 49, 50, 51, 52, 53, 54, 55, 56, 57, 97, 98, 99, 100, 101, 102] : List UInt8) = hxD from rfl, gIxB_nat, Jb, Jb, hxD_ix k h]
theorem wU8_byte : ∀ a : Nat, a < 16 → ∀ b : Nat, b < 16 → wU8 (16 * (a : Int) + (b : Int)) = ((16 * a + b : Nat) : Int) := fun a ha b hb => by unfold wU8; omega
theorem unhex_hex {s : List UInt8} (hs : s.length ≤ 2000000) : Jgo (Jci s) = some (s, true) := by
 unfold Jgo
 have key : ∀ m i : Nat, i + m = s.length → Z8 (fun next2 (s : List UInt8 × List Int) => Wi next2 s.1 s.2) (Jci (s.drop i), Jv (s.take i)) = some (s, true) := by
  intro m
  induction m with
  | zero =>
   intro i hi
   have : i = s.length := by omega
   subst this
   rw [List.drop_length, List.take_length]
   refine Qs fun next => ?_
   show Wi next [] (Jv s) = _
   unfold Wi Jfj
   rw [cI, if_neg (by simp)]
   congr 2
   unfold W2 Jv
   rw [List.map_map]
   conv => rhs; rw [← List.map_id s]
   refine List.map_congr_left fun c _ => ?_
   show UInt8.ofNat (c.toNat : Int).toNat = c
   rw [Int.toNat_natCast, UInt8.ofNat_toNat]
  | succ m ih =>
   intro i hi
   have hlt : i < s.length := by omega
   have hc := s[i].toNat_lt
   rw [← ih (i + 1) (by omega)]
   refine Xi _ fun next => ?_
   have e : Jci (s.drop i) = hxD.getD (s[i].toNat / 16) 0 :: hxD.getD (s[i].toNat % 16) 0 :: Jci (s.drop (i + 1)) := by
    rw [List.drop_eq_getElem_cons hlt]; rfl
   show Wi next (Jci (s.drop i)) (Jv (s.take i)) = next (Jci (s.drop (i + 1)), Jv (s.take (i + 1)))
   rw [e]
   unfold Wi
   generalize hy : Jci (s.drop (i + 1)) = y
   have hylen : y.length ≤ 4000000 := by rw [← hy, Jgb, List.length_drop]; omega
   have e0 : Zp (hxD.getD (s[i].toNat / 16) 0 :: hxD.getD (s[i].toNat % 16) 0 :: y) 0 = some ((hxD.getD (s[i].toNat / 16) 0).toNat : Int) := Ua (k := 0) (by simp)
   have e1 : Zp (hxD.getD (s[i].toNat / 16) 0 :: hxD.getD (s[i].toNat % 16) 0 :: y) 1 = some ((hxD.getD (s[i].toNat % 16) 0).toNat : Int) := Ua (k := 1) (by simp)
   have s4 : gShl ((s[i].toNat / 16 : Nat) : Int) 4 = some (((s[i].toNat / 16 : Nat) : Int) * 16) := by
    unfold gShl
    rw [if_pos (by omega), show (2 : Int) ^ (4 : Int).toNat = 16 from rfl]
    exact J5 (by omega)
   have hl : (Jv (s.take i)).length = i := by unfold Jv; rw [List.length_map, List.length_take]; omega
   rw [cI, if_pos (by simp only [List.length_cons]; omega), e0, Jb, ix_hx (by omega), Jb, e1, Jb, ix_hx (by omega), Jb, cI, if_neg (by omega), cI, if_neg (by omega), s4, Jb, or16 _ (by omega) _ (by omega), wU8_byte _ (by omega) _ (by omega), Xa (by rw [hl, List.length_singleton]; omega), Jb, Ja2 (by simp only [List.length_cons]; omega), Jb]
   congr 2
   unfold Jv
   rw [List.take_add_one, List.getElem?_eq_getElem hlt, List.map_append]
   show _ = _ ++ [(s[i].toNat : Int)]
   rw [show 16 * (s[i].toNat / 16) + s[i].toNat % 16 = s[i].toNat from by omega]
 exact key s.length 0 (by omega)
def Wv (v : Tc) : List (List UInt8) := W1 v.kah :: (v.kaj.map X2 ++ (v.kag.map ratW ++ if v.kai = [] then [] else [Jci v.kai]))
def vtS (v : Tc) : List UInt8 := ([32] : List UInt8).intercalate (Wv v)
structure okW (v : Tc) : Prop where
 b : vB v
 t : okT v
 kind : v.kah = 1 ∨ v.kah = 2 ∨ v.kah = 3 ∨ v.kah = 4 ∨ v.kah = 5 ∨ v.kah = 7 ∨ v.kah = 9
 pos : v.kah ≠ 9 → ∀ n ∈ v.kaj, 0 ≤ n
 rat : ∀ r ∈ v.kag, 0 ≤ r.Num ∧ 0 ≤ r.Den
 form : ¬ Jhx v
 ents : v.kaf = []
theorem form_no {v : Tc} (h : Y1 v = 0) : Jd8 v.kah ∧ ¬ Jhx v := by
 unfold Y1 at h
 by_cases h1 : Jd8 v.kah
 ·rw [if_neg (show ¬ ¬ Jd8 v.kah from fun h => h h1)] at h
  refine ⟨h1, fun h2 => ?_⟩
  rw [if_pos h2] at h; omega
 ·rw [if_pos h1] at h; omega
theorem okW_of {v : Tc} (hb : vB v) (hv : Ja9 v = 0) (h13 : v.kah ≠ 13) : okW v := by
 unfold Ja9 at hv
 have hf : Y1 v = 0 := by
  by_cases h : Y1 v = 0
  ·exact h
  ·rw [if_pos h] at hv; exact hv
 rw [if_neg (show ¬ Y1 v ≠ 0 from fun h => h hf)] at hv
 have hi : ∀ n ∈ v.kaj, ¬ (n < (limS v.kah).1 ∨ (limS v.kah).2 < n) := by
  intro n hn hx
  rw [if_pos ⟨n, hn, hx⟩] at hv; omega
 rw [if_neg (fun ⟨n, hn, hx⟩ => hi n hn hx)] at hv
 have hr : ∀ r ∈ v.kag, ¬ ratP r := by
  intro r hr hx
  rw [if_pos ⟨r, hr, hx⟩] at hv; omega
 have hk := form_no hf
 have hw : v.kah = 1 ∨ v.kah = 2 ∨ v.kah = 3 ∨ v.kah = 4 ∨ v.kah = 5 ∨ v.kah = 7 ∨ v.kah = 9 := by
  have := hk.1; unfold Jd8 Jal Ja7 at this; omega
 refine ⟨hb, ⟨hb, fun n hn => ?_, fun r hm => ?_⟩, hw, fun h9 n hn => ?_, fun r hm => ?_, hk.2, ?_⟩
 ·have := hi n hn
  unfold limS at this
  unfold sm
  (repeat' split at this) <;> omega
 ·have := hr r hm
  unfold ratP at this
  unfold sm; omega
 ·have := hi n hn
  unfold limS at this
  (repeat' split at this) <;> omega
 ·have := hr r hm
  unfold ratP at this
  omega
 ·by_cases h : v.kaf = []
  ·exact h
  ·exact absurd (.inr (.inr (.inr ⟨h13, h⟩))) hk.2
theorem okW.noInts {v : Tc} (h : okW v) (hk : ¬ Jal v.kah) : v.kaj = [] := Classical.byContradiction fun e => h.form (.inl ⟨hk, e⟩)
theorem okW.noText {v : Tc} (h : okW v) (hk : ¬ Ja7 v.kah) : v.kai = [] := Classical.byContradiction fun e => h.form (.inr (.inl ⟨hk, e⟩))
theorem okW.noRats {v : Tc} (h : okW v) (hk : v.kah ≠ 5) : v.kag = [] := Classical.byContradiction fun e => h.form (.inr (.inr (.inl ⟨hk, e⟩)))
theorem words_len {v : Tc} (h : okW v) : ∀ x ∈ Wv v, x.length ≤ 4000000 := by
 have hwl := word_len v.kah
 intro x hx
 unfold Wv at hx
 rcases List.mem_cons.1 hx with e | hx
 ·rw [e]; omega
 rcases List.mem_append.1 hx with e | hx
 ·obtain ⟨n, hn, rfl⟩ := List.mem_map.1 e
  have := Jdg (h.t.ints n hn); omega
 rcases List.mem_append.1 hx with e | hx
 ·obtain ⟨r, hn, rfl⟩ := List.mem_map.1 e
  have h1 := Jdg (h.t.rats r hn).1
  have h2 := Jdg (h.t.rats r hn).2
  unfold ratW
  rw [List.length_append, List.length_append, List.length_singleton]; omega
 ·split at hx
  ·cases hx
  ·rw [List.mem_singleton.1 hx, Jgb]; have := h.b.1; omega
theorem word_mem : ∀ k : Int, ∀ c ∈ W1 k, c ≠ 32 ∧ c ≠ 10 ∧ c ≠ 123 := by
 intro k
 unfold W1
 (repeat' split) <;> decide
theorem Jif {v : Tc} (h : okW v) : ∀ x ∈ Wv v, ∀ c ∈ x, c ≠ 32 ∧ c ≠ 10 ∧ c ≠ 123 := by
 intro x hx
 unfold Wv at hx
 rcases List.mem_cons.1 hx with e | hx
 ·rw [e]; exact word_mem _
 rcases List.mem_append.1 hx with e | hx
 ·obtain ⟨n, hn, rfl⟩ := List.mem_map.1 e
  intro c hc
  have := Je0 (h.t.ints n hn) c hc
  exact ⟨this.1, this.2.2.1, this.2.2.2⟩
 rcases List.mem_append.1 hx with e | hx
 ·obtain ⟨r, hn, rfl⟩ := List.mem_map.1 e
  intro c hc
  unfold ratW at hc
  rcases List.mem_append.1 hc with hc | hc
  ·rcases List.mem_append.1 hc with hc | hc
   ·have := Je0 (h.t.rats r hn).1 c hc
    exact ⟨this.1, this.2.2.1, this.2.2.2⟩
   ·rw [List.mem_singleton.1 hc]; decide
  ·have := Je0 (h.t.rats r hn).2 c hc
   exact ⟨this.1, this.2.2.1, this.2.2.2⟩
 ·split at hx
  ·cases hx
  ·rw [List.mem_singleton.1 hx]; exact hex_mem _
theorem text_eq {v : Tc} (h : okW v) : Jc1 v = some (vtS v) := by
 have hbi := h.b.2.1
 have hbr := h.b.2.2
 have hj : Jgq (Wv v) [32] = some (vtS v) := by
  obtain ⟨s, hs⟩ := join_ok (l := Wv v) (by unfold Wv; simp only [List.length_cons, List.length_append, List.length_map]; split <;> simp <;> omega) (words_len h)
  rw [hs]
  have hs2 := hs
  unfold Jgq at hs2
  split at hs2
  ·exact hs2.symm ▸ rfl
  ·cases hs2
 unfold Jc1
 rw [word_eq, Jb, vt5 h.t (by simp), vt4 h.t (by simp; omega)]
 unfold W8 Ja5
 unfold Wv at hj
 by_cases ht : v.kai = []
 ·rw [cI, if_neg (by simpa using ht)]
  rw [if_pos ht, List.append_nil] at hj
  rw [show [W1 v.kah] ++ v.kaj.map X2 ++ v.kag.map ratW = W1 v.kah :: (v.kaj.map X2 ++ v.kag.map ratW) from by simp, hj, Jb]
 ·rw [cI, if_pos ht, hex_eq h.b.1, Jb, Xa (by simp; omega), Jb]
  rw [if_neg ht] at hj
  rw [show [W1 v.kah] ++ v.kaj.map X2 ++ v.kag.map ratW ++ [Jci v.kai] = W1 v.kah :: (v.kaj.map X2 ++ (v.kag.map ratW ++ [Jci v.kai])) from by simp, hj, Jb]
theorem cutS_none {c : UInt8} {s : List UInt8} (h : ∀ x ∈ s, x ≠ c) : Yl c s = (s, [], false) := by
 induction s with
 | nil => rfl
 | cons b l ih => rw [Jh8, if_neg (h b (by simp)), ih fun x hx => h x (List.mem_cons_of_mem _ hx)]
theorem Jft {c : UInt8} {x y : List UInt8} {l : List (List UInt8)} : ([c] : List UInt8).intercalate (x :: y :: l) = x ++ c :: ([c] : List UInt8).intercalate (y :: l) := by
 simp [List.intercalate, List.intersperse]
theorem Jiz {c : UInt8} : ∀ {l : List (List UInt8)}, l ≠ [] → (∀ x ∈ l, ∀ b ∈ x, b ≠ c) → Jcr c (([c] : List UInt8).intercalate l) = l
 | [], h, _ => absurd rfl h
 | [x], _, h => by
  rw [show ([c] : List UInt8).intercalate [x] = x from by simp [List.intercalate], Jfl, cutS_none (h x (by simp))]; rfl
 | x :: y :: l, _, h => by
  rw [Jft, Jfl, Ji6 (h x (by simp))]
  show x :: (if true = true then _ else _) = _
  rw [if_pos rfl, Jiz (by simp) fun z hz => h z (List.mem_cons_of_mem _ hz)]
theorem kindW_word {k : Int} (h : k = 1 ∨ k = 2 ∨ k = 3 ∨ k = 4 ∨ k = 5 ∨ k = 7 ∨ k = 9) : kindW (W1 k) = k := by
 rcases h with h | h | h | h | h | h | h <;> subst h <;> decide
theorem ratio_back {r : Td} (h1 : sm r.Num) (h2 : sm r.Den) (p1 : 0 ≤ r.Num) (p2 : 0 ≤ r.Den) : Jc6 (ratW r) = some (r, true) := by
 have l1 := Jdg h1
 have l2 := Jdg h2
 have e : ratW r = X2 r.Num ++ 47 :: X2 r.Den := by unfold ratW; simp
 unfold Jc6
 rw [e, Cut_eq (by rw [List.length_append, List.length_cons]; omega), Jb, Ji6 fun x hx => (Je0 h1 x hx).2.1]
 show (Jo (Xy (X2 r.Num) false) fun t19 => Jo (Xy (X2 r.Den) false) fun t24 => _) = _
 rw [Ji2 h1 false (fun _ => p1), Jb, Ji2 h2 false (fun _ => p2), Jb]
 rfl
theorem Jjx {K : Int} {ws : List (List UInt8)} {is : List Int} {rs : List Td} (hl : ws.length ≤ 2000000) (f : Nat → List Int × List Td) (h0 : f 0 = ([], [])) (hn : f ws.length = (is, rs))
  (step : ∀ (next : Int × List Int × List Td → Option (Tc × Bool)) (k : Nat), k < ws.length → Xz K ws next (k : Int) (f k).1 (f k).2 = next ((k : Int) + 1, f (k + 1))) :
  Z8 (fun next3 (s : Int × List Int × List Td) => Xz K ws next3 s.1 s.2.1 s.2.2) (0, ([] : List Int), ([] : List Td)) = some ((⟨K, [], is, rs, []⟩ : Tc), true) := by
 have := fix_way (F := fun next3 (s : Int × List Int × List Td) => Xz K ws next3 s.1 s.2.1 s.2.2) (o := some ((⟨K, [], is, rs, []⟩ : Tc), true)) (fun k => ((k : Int), f k)) ws.length (fun k hk next => step next k hk) (fun next => ?_)
 ·rw [show ((0 : Int), ([] : List Int), ([] : List Td)) = (((0 : Nat) : Int), f 0) from by rw [h0]; rfl]
  exact this
 ·show Xz K ws next (ws.length : Int) (f ws.length).1 (f ws.length).2 = _
  unfold Xz Jcq
  rw [cI, if_neg (by omega), hn]
theorem read_back {v : Tc} (hv : Ja9 v = 0) (h13 : v.kah ≠ 13) (h : okW v) (hl : (vtS v).length ≤ 1000000) : Jaa (vtS v) = some (v, 0) := by
 have hbi := h.b.2.1
 have hbr := h.b.2.2
 have hbt := h.b.1
 have hw : Wv v ≠ [] := by unfold Wv; simp
 unfold Jaa
 rw [cI, if_neg (by omega), Split_eq 32 _ hl, Jb, show Jcr 32 (vtS v) = Wv v from Jiz hw fun x hx b hb => (Jif h x hx b hb).1]
 rw [show Vh (Wv v) 0 = some (W1 v.kah) from rfl, Jb, kindOf_eq, Jb, kindW_word h.kind, cI, if_neg (by rcases h.kind with e | e | e | e | e | e | e <;> omega)]
 generalize hT : (v.kaj.map X2 ++ (v.kag.map ratW ++ if v.kai = [] then [] else [Jci v.kai])) = ws
 have hcut : Yw (Wv v) 1 (Wv v).length = some ws := by
  have : Wv v = W1 v.kah :: ws := by unfold Wv; rw [hT]
  rw [this, Ja2 (by rw [List.length_cons]; omega)]; rfl
 rw [hcut, Jb]
 have key : Jc5 v.kah ws = some (v, true) := by
  have hent := h.ents
  unfold Jc5
  rw [text_kind, Jb, cI]
  by_cases htk : Ja7 v.kah
  ·rw [if_pos htk]
   have hin : v.kaj = [] := h.noInts (by unfold Ja7 at htk; unfold Jal; omega)
   have hrn : v.kag = [] := h.noRats (by unfold Ja7 at htk; omega)
   rw [hin, hrn, List.map_nil, List.map_nil, List.nil_append, List.nil_append] at hT
   have fin : Uc v.kah ws = some (v, true) := by
    unfold Uc
    have hj : Jgq ws [] = some (Jci v.kai) := by
     rw [← hT]
     by_cases ht : v.kai = []
     ·rw [if_pos ht, ht]; rfl
     ·rw [if_neg ht]
      unfold Jgq
      have e : ([] : List UInt8).intercalate [Jci v.kai] = Jci v.kai := by simp [List.intercalate]
      rw [e, if_pos (by rw [Jgb]; simp; omega)]
    rw [hj, Jb, unhex_hex h.b.1, Jb]
    rcases v with ⟨k, t, i, r, e⟩
    simp only at hin hrn hent
    subst hin hrn hent
    rfl
   have hlw : ws.length ≤ 1 := by rw [← hT]; split <;> simp
   rw [cI, if_neg (by omega), cI]
   split
   ·rename_i h1
    have : ∃ x, ws = [x] ∧ x ≠ [] := by
     rw [← hT] at h1 ⊢
     by_cases ht : v.kai = []
     ·rw [if_pos ht] at h1; simp at h1
     ·rw [if_neg ht]
      refine ⟨_, rfl, fun e => ?_⟩
      have := Jgb v.kai
      rw [e] at this
      have h2 : 0 < v.kai.length := List.length_pos_iff.2 ht
      simp at this; omega
    obtain ⟨x, rfl, hx⟩ := this
    rw [show Vh [x] 0 = some x from rfl, Jb, cI, if_neg hx, fin]
   ·exact fin
  ·rw [if_neg htk]
   have htx : v.kai = [] := h.noText htk
   rw [if_pos htx, List.append_nil] at hT
   by_cases h5 : v.kah = 5
   ·have hin : v.kaj = [] := h.noInts (by unfold Jal; omega)
    rw [hin, List.map_nil, List.nil_append] at hT
    have hlen : ws.length = v.kag.length := by rw [← hT, List.length_map]
    rw [Jjx (is := []) (rs := v.kag) (by omega) (fun k => ([], v.kag.take k)) rfl (by rw [hlen, List.take_length]) (fun next k hk => ?_)]
    ·rcases v with ⟨k, t, i, r, e⟩
     simp only at hin htx hent
     subst hin htx hent
     rfl
    ·have hk2 : k < v.kag.length := by omega
     have hm := List.getElem_mem hk2
     have hlt : (v.kag.take k).length = k := by rw [List.length_take]; omega
     unfold Xz Ug
     have hat : Vh ws (k : Int) = some (ratW v.kag[k]) := by rw [Xg hk]; congr 1; subst hT; rw [List.getElem_map]
     rw [cI, if_pos (by omega), hat, Jb, cI, if_pos h5, ratio_back (h.t.rats _ hm).1 (h.t.rats _ hm).2 (h.rat _ hm).1 (h.rat _ hm).2, Jb, Xa (by rw [hlt, List.length_singleton]; omega), Jb]
     show J6 false _ _ = _
     rw [Qf, J5 (by omega), Jb]
     show next ((k : Int) + 1, [], v.kag.take k ++ [v.kag[k]]) = next ((k : Int) + 1, [], v.kag.take (k + 1))
     rw [List.take_add_one, List.getElem?_eq_getElem hk2]; rfl
   ·have hrn : v.kag = [] := h.noRats h5
    rw [hrn, List.map_nil, List.append_nil] at hT
    have hlen : ws.length = v.kaj.length := by rw [← hT, List.length_map]
    rw [Jjx (is := v.kaj) (rs := []) (by omega) (fun k => (v.kaj.take k, [])) rfl (by rw [hlen, List.take_length]) (fun next k hk => ?_)]
    ·rcases v with ⟨k, t, i, r, e⟩
     simp only at hrn htx hent
     subst hrn htx hent
     rfl
    ·have hk2 : k < v.kaj.length := by omega
     have hm := List.getElem_mem hk2
     have hlt : (v.kaj.take k).length = k := by rw [List.length_take]; omega
     unfold Xz Ug
     have hat : Vh ws (k : Int) = some (X2 v.kaj[k]) := by rw [Xg hk]; congr 1; subst hT; rw [List.getElem_map]
     rw [cI, if_pos (by omega), hat, Jb, cI, if_neg h5, Ji2 (h.t.ints _ hm) _ (fun e => h.pos (of_decide_eq_false e) _ hm), Jb, Xa (by rw [hlt, List.length_singleton]; omega), Jb]
     show J6 false _ _ = _
     rw [Qf, J5 (by omega), Jb]
     show next ((k : Int) + 1, v.kaj.take k ++ [v.kaj[k]], []) = next ((k : Int) + 1, v.kaj.take (k + 1), [])
     rw [List.take_add_one, List.getElem?_eq_getElem hk2]; rfl
 have hz : szD 5 v.kaf ≤ 2000000 := by rw [h.ents]; simp [szD]
 have hval : valE v = 0 := by unfold valE; rw [if_pos h13, hv]
 rw [key, Jb]
 show J6 false _ _ = _
 rw [Qf, CV_eq h.b hz, Jb, hval]
 show J6 (decide ((0 : Int) ≠ 0)) _ _ = _
 rw [cI, if_neg (by omega), copy_v v h.b h.ents, Jb]
end Go.M

namespace Go.M
open Go.Md Go.Pl
def sp2 (n : Nat) : List UInt8 := (List.replicate n ([32, 32] : List UInt8)).flatten
def unl (ls : List (List UInt8)) : List UInt8 := ls.flatMap (· ++ [10])
theorem Jh5 : unl [] = [] := rfl
theorem V6 (x : List UInt8) (l : List (List UInt8)) : unl (x :: l) = x ++ 10 :: unl l := by unfold unl; simp
theorem Jen (a b : List (List UInt8)) : unl (a ++ b) = unl a ++ unl b := by unfold unl; simp
theorem Jh4 (n : Nat) : (sp2 n).length = 2 * n := by unfold sp2; rw [List.length_flatten, List.map_replicate, List.sum_replicate_nat]; simp; omega
theorem sp2_succ (n : Nat) : sp2 (n + 1) = sp2 n ++ [32, 32] := by unfold sp2; rw [List.replicate_succ', List.flatten_append]; simp
theorem sp2_mem (n : Nat) : ∀ c ∈ sp2 n, c = 32 := by
 intro c hc
 unfold sp2 at hc
 obtain ⟨l, hl, hc⟩ := List.mem_flatten.1 hc
 rw [(List.mem_replicate.1 hl).2] at hc
 simpa using hc
def entG (f : List Ta → List (List UInt8)) (n : Nat) (e : Ta) : List (List UInt8) :=
 if e.Value.kah ≠ 13 then [sp2 n ++ (X2 e.Tag ++ 32 :: vtS e.Value)] else (sp2 n ++ (X2 e.Tag ++ [32, 123])) :: (f e.Value.kaf ++ [sp2 n ++ [125]])
def Za : Nat → Nat → List Ta → List (List UInt8)
 | 0, _, _ => []
 | d + 1, n, l => l.flatMap (entG (Za d (n + 1)) n)
theorem Jeg (d n : Nat) (e : Ta) (l : List Ta) : Za (d + 1) n (e :: l) = entG (Za d (n + 1)) n e ++ Za (d + 1) n l := rfl
def okQ : Nat → List Ta → Prop
 | 0, _ => False
 | d + 1, l => l.length ≤ 200 ∧ ∀ e ∈ l, (0 ≤ e.Tag ∧ e.Tag ≤ 65535) ∧ (e.Value.kah ≠ 13 → Ja9 e.Value = 0) ∧ (e.Value.kah = 13 → (e.Value.kai = [] ∧ e.Value.kaj = [] ∧ e.Value.kag = []) ∧ okQ d e.Value.kaf)
theorem form13 {v : Tc} (h : v.kah = 13) (hf : Y1 v = 0) : v.kai = [] ∧ v.kaj = [] ∧ v.kag = [] := by
 obtain ⟨_, h2⟩ := form_no hf
 refine ⟨Classical.byContradiction fun e => h2 (.inr (.inl ⟨by unfold Ja7; omega, e⟩)), Classical.byContradiction fun e => h2 (.inl ⟨by unfold Jal; omega, e⟩), Classical.byContradiction fun e => h2 (.inr (.inr (.inl ⟨by omega, e⟩)))⟩
theorem Jki {f : Ta → Int} : ∀ {l : List Ta} {pr : Option Int}, Jel f pr l = 0 → ∀ e ∈ l, 0 ≤ e.Tag ∧ e.Tag ≤ 65535
 | [], _, _, e, he => by cases he
 | x :: l, pr, h, e, he => by
  obtain ⟨h1, _, _, h4⟩ := Jgy h
  rcases List.mem_cons.1 he with e1 | e1
  ·rw [e1]; exact h1
  ·exact Jki h4 e e1
theorem dE_okQ : ∀ {d : Nat} {l : List Ta}, dE d l = 0 → okQ d l := by
 intro d
 induction d with
 | zero => intro l h; unfold dE at h; omega
 | succ d ih =>
  intro l h
  unfold dE at h
  split at h
  ·omega
  rename_i hl
  refine ⟨by omega, fun e he => ⟨Jki h e he, fun h13 => ?_, fun h13 => ?_⟩⟩
  ·have := Jff h e he
   rwa [if_pos h13] at this
  ·have := Jff h e he
   rw [if_neg (fun hh => hh h13)] at this
   by_cases hf : Y1 e.Value ≠ 0
   ·rw [if_pos hf] at this; exact absurd this hf
   ·rw [if_neg hf] at this
    exact ⟨form13 h13 (Classical.not_not.1 hf), ih this⟩
theorem inter_sum : ∀ l : List (List UInt8), (([32] : List UInt8).intercalate l).length ≤ (l.map fun x => x.length + 1).sum
 | [] => by simp [List.intercalate]
 | [x] => by simp [List.intercalate]
 | x :: y :: l => by
  have h2 := inter_sum (y :: l)
  rw [Jft, List.length_append, List.length_cons, List.map_cons, List.sum_cons]
  omega
theorem sum_le {α : Type} {B : Nat} {f : α → Nat} : ∀ {l : List α}, (∀ x ∈ l, f x ≤ B) → (l.map f).sum ≤ B * l.length
 | [], _ => by simp
 | x :: l, h => by
  have h1 := h x (by simp)
  have h2 := sum_le (l := l) fun y hy => h y (List.mem_cons_of_mem _ hy)
  rw [List.map_cons, List.sum_cons, List.length_cons, Nat.mul_succ]; omega
theorem vt_len {v : Tc} (h : okW v) : (vtS v).length ≤ 8 + 24 * (v.kai.length + v.kaj.length + v.kag.length) := by
 have h0 := inter_sum (Wv v)
 have hw := word_len v.kah
 have h1 : ((v.kaj.map X2).map fun x => x.length + 1).sum ≤ 12 * v.kaj.length := by
  rw [List.map_map]
  exact sum_le fun n hn => by have := Jdg (h.t.ints n hn); show (X2 n).length + 1 ≤ 12; omega
 have h2 : ((v.kag.map ratW).map fun x => x.length + 1).sum ≤ 24 * v.kag.length := by
  rw [List.map_map]
  exact sum_le fun r hr => by
   have h1 := Jdg (h.t.rats r hr).1
   have h2 := Jdg (h.t.rats r hr).2
   show (ratW r).length + 1 ≤ 24
   unfold ratW
   rw [List.length_append, List.length_append, List.length_singleton]; omega
 have h3 : ((if v.kai = [] then [] else [Jci v.kai] : List (List UInt8)).map fun x => x.length + 1).sum ≤ 2 * v.kai.length + 1 := by
  split
  ·simp
  ·simp [Jgb]
 unfold vtS
 unfold Wv at h0 ⊢
 rw [List.map_cons, List.sum_cons, List.map_append, List.sum_append, List.map_append, List.sum_append] at h0
 omega
theorem tag11 {e : Ta} (h : 0 ≤ e.Tag ∧ e.Tag ≤ 65535) : sm e.Tag ∧ (X2 e.Tag).length ≤ 11 := ⟨by unfold sm; omega, Jdg (by omega)⟩
theorem szE_vB {d : Nat} {e : Ta} (h : szE d e ≤ 2000000) : vB e.Value := by unfold szE at h; exact ⟨by omega, by omega, by omega⟩
theorem ent_len {f : List Ta → List (List UInt8)} {d n : Nat} (hn : n ≤ 10) {e : Ta} (ht : 0 ≤ e.Tag ∧ e.Tag ≤ 65535) (hp : e.Value.kah ≠ 13 → Ja9 e.Value = 0) (hz : szE d e ≤ 2000000) (hf : e.Value.kah = 13 → (unl (f e.Value.kaf)).length ≤ 100 * szD d e.Value.kaf) :
  (unl (entG f n e)).length ≤ 100 * szE d e := by
 have h1 := (tag11 ht).2
 have hs := Jh4 n
 unfold entG
 by_cases h13 : e.Value.kah = 13
 ·have := hf h13
  rw [if_neg (fun h => h h13), V6, Jen, V6, Jh5]
  simp only [List.length_append, List.length_cons, List.length_nil]
  unfold szE; omega
 ·have := vt_len (okW_of (szE_vB hz) (hp h13) h13)
  rw [if_pos h13, V6, Jh5]
  simp only [List.length_append, List.length_cons, List.length_nil]
  unfold szE; omega
theorem Jib : ∀ (d n : Nat) (l : List Ta), n + d ≤ 10 → okQ d l → szD d l ≤ 2000000 → (unl (Za d n l)).length ≤ 100 * szD d l := by
 intro d
 induction d with
 | zero => intro n l _ h; exact h.elim
 | succ d ih =>
  intro n l hn hq hz
  replace hq := hq.2
  induction l with
  | nil => simp [Za, unl]
  | cons e l ihl =>
   rw [Jc9] at hz ⊢
   rw [Jeg, Jen, List.length_append]
   obtain ⟨h1, h2, h3⟩ := hq e (by simp)
   have h4 := ihl (by omega) fun x hx => hq x (List.mem_cons_of_mem _ hx)
   have hzd : szD d e.Value.kaf ≤ szE d e := by unfold szE; omega
   have h5 := ent_len (f := Za d (n + 1)) (d := d) (n := n) (by omega) h1 h2 (by omega) fun h13 => ih (n + 1) _ (by omega) (h3 h13).2 (by omega)
   omega
theorem szD_drop {d : Nat} {l : List Ta} {k : Nat} (hk : k < l.length) : szD (d + 1) (l.drop k) = szE d l[k] + szD (d + 1) (l.drop (k + 1)) := by
 rw [List.drop_eq_getElem_cons hk, Jc9]
noncomputable abbrev dirTF : (List UInt8 × List Ta × List UInt8 → Option (List UInt8)) → List UInt8 × List Ta × List UInt8 → Option (List UInt8) := fun self s => Yn self s.1 s.2.1 s.2.2
theorem dir_text : ∀ (d k : Nat), d < k → ∀ (n : Nat) (l : List Ta) (m : List UInt8), n + d ≤ 10 → okQ d l → szD d l ≤ 2000000 → m.length + 100 * szD d l ≤ 100000000000 → it dirTF k (m, l, sp2 n) = some (m ++ unl (Za d n l)) := by
 intro d
 induction d with
 | zero => intro k _ n l m _ h; exact h.elim
 | succ d ih =>
  intro k hk n l m hn hq hz hm
  cases k with
  | zero => omega
  | succ k =>
  show Yn (it dirTF k) m l (sp2 n) = _
  have hsp := Jh4 n
  obtain ⟨hl, hq⟩ := hq
  unfold Yn
  have key := Jb9 (F := fun next1 (s : Int × List UInt8) => Zy l (sp2 n) (it dirTF k) next1 s.1 s.2) l (fun m e => m ++ unl (entG (Za d (n + 1)) n e)) (fun m => some m) (fun k s => s.length + 100 * szD (d + 1) (l.drop k) ≤ 100000000000) (fun next i s hi hI => ?_) (fun next s hI => ?_) m hm
  ·rw [key]
   have fold : ∀ (l : List Ta) (m : List UInt8), l.foldl (fun m e => m ++ unl (entG (Za d (n + 1)) n e)) m = m ++ unl (Za (d + 1) n l) := by
    intro l
    induction l with
    | nil => intro m; simp [Za, unl]
    | cons e l ihl => intro m; rw [List.foldl_cons, ihl, Jeg, Jen, List.append_assoc]
   rw [fold]
  ·obtain ⟨h1, h2, h3⟩ := hq _ (List.getElem_mem hi)
   obtain ⟨t1, t2⟩ := tag11 h1
   have hze := Jhr (d := d) (List.getElem_mem hi)
   have hel := ent_len (f := Za d (n + 1)) (d := d) (n := n) (by omega) h1 h2 (by omega) fun h13 => Jib d (n + 1) _ (by omega) (h3 h13).2 (by unfold szE at hze; omega)
   rw [szD_drop hi] at hI
   refine ⟨?_, by show (s ++ _).length + _ ≤ _; rw [List.length_append]; omega⟩
   show Zy l (sp2 n) (it dirTF k) next (i : Int) s = _
   unfold Zy
   rw [cI, if_pos (by omega), Xg hi, Jb, Jhq t1, Jb, Jdn (by omega), Jb, Jdn (by rw [List.length_append, List.length_singleton]; omega), Jb, Jfw ⟨by simp, by simp only [List.length_append, List.length_singleton]; omega⟩, Jb, cI]
   by_cases h13 : l[i].Value.kah = 13
   ·rw [if_neg (fun h => h h13), Jfw ⟨by simp, by simp only [List.length_append, List.length_singleton, List.length_cons, List.length_nil]; omega⟩, Jb, Jdn (by simp only [List.length_cons, List.length_nil]; omega), Jb, ← sp2_succ]
    have hzd : szD d l[i].Value.kaf ≤ szE d l[i] := by unfold szE; omega
    have hin := Jib d (n + 1) _ (by omega) (h3 h13).2 (by omega)
    rw [ih k (by omega) (n + 1) _ _ (by omega) (h3 h13).2 (by omega) (by
     simp only [List.length_append, List.length_singleton, List.length_cons, List.length_nil]
     unfold szE at hI
     have : 100 * (1 + l[i].Value.kai.length + l[i].Value.kaj.length + l[i].Value.kag.length + szD d l[i].Value.kaf) = 100 + 100 * (l[i].Value.kai.length + l[i].Value.kaj.length + l[i].Value.kag.length) + 100 * szD d l[i].Value.kaf := by omega
     omega), Jb, Jdn (by simp only [List.length_cons, List.length_nil]; omega), Jb, Jfw ⟨by simp, by
     simp only [List.length_append, List.length_singleton, List.length_cons, List.length_nil]; omega⟩, Jb]
    unfold Jay
    rw [J5 (by omega), Jb]
    congr 2
    unfold entG
    rw [if_neg (fun h => h h13), V6, Jen, V6, Jh5]
    simp
   ·have hv := okW_of (szE_vB (d := d) (by omega)) (h2 h13) h13
    have hvl := vt_len hv
    have hsz : 24 * (l[i].Value.kai.length + l[i].Value.kaj.length + l[i].Value.kag.length) ≤ 24 * 2000000 := by unfold szE at hze; omega
    rw [if_pos h13, text_eq hv, Jb, Jdn (by rw [List.length_singleton]; omega), Jb, Jfw ⟨by simp, by
     simp only [List.length_append, List.length_singleton, List.length_cons, List.length_nil]; omega⟩, Jb]
    unfold Jay
    rw [J5 (by omega), Jb]
    congr 2
    unfold entG
    rw [if_pos h13, V6, Jh5]
    simp
  ·show Zy l (sp2 n) (it dirTF k) next (l.length : Int) s = _
   unfold Zy
   rw [cI, if_neg (by omega)]
def hdL (big : Bool) : List UInt8 := if big then [98, 105, 103] else [108, 105, 116, 116, 108, 101]
def linesF (f : Tg) : List (List UInt8) := hdL f.Big :: f.kal.flatMap fun l => [100, 105, 114] :: Za 5 1 l
noncomputable def Jc8 (f : Tg) : List UInt8 := unl (linesF f)
theorem Text_eq {f : Tg} (hb : Jdd f) (he : Jbc f = 0) : Je1 f = some (if 1000000 < (Jc8 f).length then ([], 4) else (Jc8 f, 0)) := by
 obtain ⟨h20, hdirs, _⟩ := Jg0 he
 have j1 : ∀ m : List UInt8, m.length ≤ 10 → Jda f m = Jb2 (m ++ unl (f.kal.flatMap fun l => [100, 105, 114] :: Za 5 1 l)) := by
  intro m hm
  unfold Jda
  have key := Jb9 (F := fun next3 (s : Int × List UInt8) => Up f next3 s.1 s.2) f.kal (fun m l => m ++ unl ([100, 105, 114] :: Za 5 1 l)) (fun m => Jb2 m) (fun k s => s.length ≤ 10 + 300000000 * k) (fun next i s hi hI => ?_) (fun next s hI => ?_) m (by show m.length ≤ 10 + 300000000 * 0; omega)
  ·rw [key]
   have fold : ∀ (ls : List (List Ta)) (m : List UInt8), ls.foldl (fun m l => m ++ unl ([100, 105, 114] :: Za 5 1 l)) m = m ++ unl (ls.flatMap fun l => [100, 105, 114] :: Za 5 1 l) := by
    intro ls
    induction ls with
    | nil => intro m; simp [unl]
    | cons l ls ih => intro m; rw [List.foldl_cons, ih, List.flatMap_cons, Jen, List.append_assoc]
   rw [fold]
  ·have hm2 := List.getElem_mem hi
   have hq := dE_okQ (hdirs _ hm2)
   have hz := hb.1 _ hm2
   have hlen := Jib 5 1 _ (by omega) hq hz
   have hI' : s.length ≤ 10 + 300000000 * i := hI
   refine ⟨?_, by show (s ++ unl _).length ≤ _; rw [List.length_append, V6, List.length_append, List.length_cons]; simp only [List.length_cons, List.length_nil]; omega⟩
   show Up f next (i : Int) s = _
   unfold Up
   have hd : Jf5 (s ++ [100, 105, 114, 10]) f.kal[i] [32, 32] = some (s ++ [100, 105, 114, 10] ++ unl (Za 5 1 f.kal[i])) :=
    Jg1 (k := 6) fun k hk => dir_text 5 k (by omega) 1 _ _ (by omega) hq hz (by simp only [List.length_append, List.length_cons, List.length_nil]; omega)
   rw [cI, if_pos (by omega), Xg hi, Jb, Jfw ⟨by simp, by simp only [List.length_cons, List.length_nil]; omega⟩, Jb, hd, Jb, J5 (by omega), Jb]
   congr 2
   rw [V6]; simp
  ·show Up f next (f.kal.length : Int) s = _
   unfold Up
   rw [cI, if_neg (by omega)]
 unfold Je1
 rw [Jdu hb, Jb, he]
 show J6 (decide ((0 : Int) ≠ 0)) _ _ = _
 rw [cI, if_neg (by omega)]
 have fin : ∀ m : List UInt8, m = hdL f.Big ++ [10] → Jb2 (m ++ unl (f.kal.flatMap fun l => [100, 105, 114] :: Za 5 1 l)) = some (if 1000000 < (Jc8 f).length then ([], 4) else (Jc8 f, 0)) := by
  intro m hm
  have e : m ++ unl (f.kal.flatMap fun l => [100, 105, 114] :: Za 5 1 l) = Jc8 f := by
   unfold Jc8 linesF; rw [V6, hm]; simp
  rw [e]
  unfold Jb2
  rw [cI]
  by_cases h : 1000000 < (Jc8 f).length
  ·rw [if_pos h, if_pos (by omega)]
  ·rw [if_neg h, if_neg (by omega)]
 cases hbig : f.Big with
 | true =>
  rw [X8, Jfw ⟨by simp, by simp⟩, Jb, List.nil_append, j1 _ (by simp)]
  exact fin _ (by rw [hbig]; rfl)
 | false =>
  rw [Qf, Jfw ⟨by simp, by simp⟩, Jb, List.nil_append, j1 _ (by simp)]
  exact fin _ (by rw [hbig]; rfl)
end Go.M

namespace Go.M
open Go.Md Go.Pl
theorem gRep_sp {n : Nat} (h : n ≤ 100) : gRep [32, 32] (n : Int) = some (sp2 n) := by
 unfold gRep
 rw [if_pos ⟨by omega, by omega, by simp; omega⟩, Int.toNat_natCast]; rfl
theorem CutPre_eq {p t : List UInt8} (h : (p ++ t).length ≤ 9223372036854775807) : Jak (p ++ t) p = some (t, true) := by
 unfold Jak Zs Q6
 rw [List.length_append] at h
 rw [cI, if_pos (by rw [List.length_append]; omega), Jch (by rw [List.length_append]; omega), Jb, Int.toNat_natCast, List.take_left' rfl, decide_eq_true rfl, Jb]
 show Jo (J6 (!true) _ _) _ = _
 rw [Bool.not_true, Qf, Ja2 (by rw [List.length_append]; omega), Jb, Int.toNat_natCast, List.drop_left' rfl]
 rfl
structure Ctx (K : List Ta → TxR) (n : Nat) : Prop where
 put : ∀ (xs : List Ta) (e : Ta), xs.length ≤ 1000 → Jhe (K xs) e = some (K (xs ++ [e]))
 op : ∀ xs, (K xs).op.length = n
 dirs : ∀ xs, (K xs).dirs ≠ []
theorem ctx0 (big : Bool) (ds : List (List Ta)) (hd : ds.length ≤ 1000) : Ctx (fun xs => ⟨big, ds ++ [xs], []⟩) 0 where
 put xs e hx := by
  unfold Jhe
  rw [cI, if_neg (by simp)]
  show Jo (gI (((ds ++ [xs]).length : Int) - 1)) _ = _
  rw [J5 (by simp; omega), Jb]
  show Jo (Vh (ds ++ [xs]) (((ds ++ [xs]).length : Int) - 1)) _ = _
  have e1 : (((ds ++ [xs]).length : Int) - 1) = ((ds.length : Nat) : Int) := by simp
  rw [e1, Xg (by simp), Jb]
  have e2 : (ds ++ [xs])[ds.length]'(by simp) = xs := by simp
  rw [e2, Xa (by simp; omega), Jb, Jbo (by omega) (by simp), Jb, Int.toNat_natCast]
  congr 1
  simp
 op xs := rfl
 dirs xs := by simp
theorem ctx_in {K : List Ta → TxR} {n : Nat} (h : Ctx K n) (hn : n ≤ 100) (xs : List Ta) (x : Ta) : Ctx (fun ys => ⟨(K xs).big, (K xs).dirs, (K xs).op ++ [Wp x ys]⟩) (n + 1) where
 put ys e hy := by
  have ho := h.op xs
  unfold Jhe
  rw [cI, if_pos (by simp)]
  show Jo (gI ((((K xs).op ++ [Wp x ys]).length : Int) - 1)) _ = _
  have e1 : ((((K xs).op ++ [Wp x ys]).length : Int) - 1) = (((K xs).op.length : Nat) : Int) := by simp
  rw [e1, J5 (by omega), Jb]
  show Jo (Vh ((K xs).op ++ [Wp x ys]) ((K xs).op.length : Int)) _ = _
  rw [Xg (by simp), Jb]
  have e2 : ((K xs).op ++ [Wp x ys])[(K xs).op.length]'(by simp) = Wp x ys := by simp
  rw [e2, show (Wp x ys).Value.kaf = ys from rfl, Xa (by simp; omega), Jb, Jbo (by omega) (by simp), Jb, Int.toNat_natCast]
  congr 1
  simp [Wp]
 op ys := by simp [h.op xs]
 dirs ys := h.dirs xs
inductive Reads : TxR → List (List UInt8) → TxR → Prop
 | nil (r : TxR) : Reads r [] r
 | cons {r r1 r2 : TxR} {s : List UInt8} {ls : List (List UInt8)} : Us r s = some (0, r1) → Reads r1 ls r2 → Reads r (s :: ls) r2
theorem Reads.app {r1 r2 r3 : TxR} {a b : List (List UInt8)} (h : Reads r1 a r2) (g : Reads r2 b r3) : Reads r1 (a ++ b) r3 := by
 induction h with
 | nil => exact g
 | cons h1 _ ih => exact .cons h1 (ih g)
theorem Reads.one {r1 r2 : TxR} {s : List UInt8} (h : Us r1 s = some (0, r2)) : Reads r1 [s] r2 := .cons h (.nil _)
theorem not_dir {n : Nat} {t : List UInt8} (h : 0 < n) : sp2 n ++ t ≠ [100, 105, 114] := by
 obtain ⟨m, rfl⟩ : ∃ m, n = m + 1 := ⟨n - 1, by omega⟩
 unfold sp2
 rw [List.replicate_succ]
 simp
theorem line_entry {K : List Ta → TxR} {n : Nat} (h : Ctx K n) (hn : n ≤ 50) (xs : List Ta) (t : List UInt8) : Us (K xs) (sp2 (n + 1) ++ t) = Jet (K xs) (sp2 (n + 1) ++ t) := by
 have ho := h.op xs
 unfold Us
 rw [decide_eq_false (not_dir (by omega)), Bool.false_and, Qf]
 unfold Jhv
 rw [cI, ho]
 by_cases h0 : 0 < n
 ·rw [if_pos (by omega), gRep_sp (by omega), Jb, Jdn (by rw [Jh4]; simp; omega), Jb, Jb]
  have : ¬ sp2 (n + 1) ++ t = sp2 n ++ [125] := by
   rw [sp2_succ, List.append_assoc]
   intro e
   have := List.append_cancel_left e
   simp at this
  rw [decide_eq_false this, Qf]
 ·rw [if_neg (by omega), Jb, Qf]
theorem Jkn {K : List Ta → TxR} {n : Nat} (h : Ctx K n) (hn : n ≤ 50) (xs : List Ta) {tag : Int} (ht : 0 ≤ tag ∧ tag ≤ 65535) (u : List UInt8) (hu : u.length ≤ 2000000) :
  Us (K xs) (sp2 (n + 1) ++ (X2 tag ++ 32 :: u)) = J6 (decide (u = [123])) (Jo (Xk 104 (K xs).op [⟨tag, ⟨13, [], [], [], []⟩⟩]) fun op => some (0, ⟨(K xs).big, (K xs).dirs, op⟩)) (Jhz (K xs) tag u) := by
 have ho := h.op xs
 have hs : sm tag := by unfold sm; omega
 have hl := Jdg (n := tag) (by omega)
 have hlen := Jh4 (n + 1)
 rw [line_entry h hn]
 unfold Jet
 rw [ho, J5 (by omega), Jb, show ((n : Int) + 1) = ((n + 1 : Nat) : Int) from by omega, gRep_sp (by omega), Jb, CutPre_eq (by rw [List.length_append, List.length_append, List.length_cons]; omega), Jb]
 show (Jo (Zx (X2 tag ++ 32 :: u) [32]) fun c => _) = _
 rw [Cut_eq (by rw [List.length_append, List.length_cons]; omega), Jb, Ji6 fun x hx => (Je0 hs x hx).1]
 show (Jo (Xy (X2 tag) false) fun p => _) = _
 rw [Ji2 hs false (fun _ => ht.1), Jb]
 have hd : decide (((K xs).dirs.length : Int) = 0) = false := decide_eq_false (by have := List.length_pos_iff.2 (h.dirs xs); omega)
 rw [hd]
 rfl
theorem vt_brace {v : Tc} (h : okW v) : vtS v ≠ [123] := by
 have hw := Jif h (W1 v.kah) (by unfold Wv; simp)
 have hne : W1 v.kah ≠ [] := by rcases h.kind with e | e | e | e | e | e | e <;> rw [e] <;> decide
 intro e
 unfold vtS Wv at e
 cases hk : W1 v.kah with
 | nil => exact hne hk
 | cons c l =>
  have hc := (hw c (by rw [hk]; simp)).2.2
  rw [hk] at e
  cases hr : (v.kaj.map X2 ++ (v.kag.map ratW ++ if v.kai = [] then [] else [Jci v.kai])) with
  | nil => rw [hr] at e; simp [List.intercalate] at e; exact hc e.1
  | cons y l2 => rw [hr, Jft] at e; simp at e
theorem line_plain {K : List Ta → TxR} {n : Nat} (h : Ctx K n) (hn : n ≤ 50) (xs : List Ta) (hx : xs.length ≤ 1000) {e : Ta} (ht : 0 ≤ e.Tag ∧ e.Tag ≤ 65535) (hb : vB e.Value) (hv : Ja9 e.Value = 0) (h13 : e.Value.kah ≠ 13) (hl : (vtS e.Value).length ≤ 1000000) :
  Us (K xs) (sp2 (n + 1) ++ (X2 e.Tag ++ 32 :: vtS e.Value)) = some (0, K (xs ++ [e])) := by
 have hw := okW_of hb hv h13
 rw [Jkn h hn xs ht _ (by omega), cI, if_neg (vt_brace hw)]
 unfold Jhz
 rw [read_back hv h13 hw hl, Jb]
 show J6 (decide ((0 : Int) = 0)) _ _ = _
 rw [cI, if_pos rfl, show (⟨e.Tag, (e.Value, (0 : Int)).1⟩ : Ta) = e from by cases e; rfl, h.put xs _ hx, Jb]
theorem line_open {K : List Ta → TxR} {n : Nat} (h : Ctx K n) (hn : n ≤ 50) (xs : List Ta) {tag : Int} (ht : 0 ≤ tag ∧ tag ≤ 65535) :
  Us (K xs) (sp2 (n + 1) ++ (X2 tag ++ [32, 123])) = some (0, ⟨(K xs).big, (K xs).dirs, (K xs).op ++ [Wp ⟨tag, ⟨13, [], [], [], []⟩⟩ []]⟩) := by
 have ho := h.op xs
 rw [Jkn h hn xs ht [123] (by simp), cI, if_pos rfl, Xa (by rw [List.length_singleton]; omega), Jb]
 rfl
theorem line_shut {K : List Ta → TxR} {n : Nat} (h : Ctx K n) (hn : n ≤ 50) (xs : List Ta) (hx : xs.length ≤ 1000) (x : Ta) (ys : List Ta) :
  Us ⟨(K xs).big, (K xs).dirs, (K xs).op ++ [Wp x ys]⟩ (sp2 (n + 1) ++ [125]) = some (0, K (xs ++ [Wp x ys])) := by
 have ho := h.op xs
 have hol : ((K xs).op ++ [Wp x ys]).length = n + 1 := by simp [ho]
 unfold Us
 rw [decide_eq_false (not_dir (by omega)), Bool.false_and, Qf]
 unfold Jhv
 rw [show (⟨(K xs).big, (K xs).dirs, (K xs).op ++ [Wp x ys]⟩ : TxR).op.length = n + 1 from hol, cI, if_pos (by omega), gRep_sp (by omega), Jb, Jdn (by rw [Jh4]; simp; omega), Jb, decide_eq_true rfl, Jb, X8]
 unfold tx_shut
 rw [show (⟨(K xs).big, (K xs).dirs, (K xs).op ++ [Wp x ys]⟩ : TxR).op.length = n + 1 from hol, J5 (by omega), Jb, show (((n + 1 : Nat) : Int) - 1) = (n : Int) from by omega]
 show (Jo (Vh ((K xs).op ++ [Wp x ys]) (n : Int)) fun e => Jo (Yw ((K xs).op ++ [Wp x ys]) 0 (n : Int)) fun op => _) = _
 have e2 : ((K xs).op ++ [Wp x ys])[n]'(by omega) = Wp x ys := by
  subst ho
  simp
 rw [Xg (by omega), Jb, e2, Jch (by omega), Jb, Int.toNat_natCast, List.take_left' ho]
 rw [show (⟨(K xs).big, (K xs).dirs, (K xs).op⟩ : TxR) = K xs from rfl, h.put xs _ hx, Jb]
theorem read_dir : ∀ (d : Nat) (l : List Ta) (K : List Ta → TxR) (n : Nat) (xs : List Ta), Ctx K n → n + d ≤ 40 → okQ d l → szD d l ≤ 2000000 → xs.length + l.length ≤ 200 → (unl (Za d (n + 1) l)).length ≤ 1000000 → Reads (K xs) (Za d (n + 1) l) (K (xs ++ l)) := by
 intro d
 induction d with
 | zero => intro l K n xs _ _ h; exact h.elim
 | succ d ih =>
  intro l K n xs hK hn hq hz hx hl
  replace hq := hq.2
  induction l generalizing xs with
  | nil => rw [List.append_nil]; exact .nil _
  | cons e l ihl =>
   rw [Jc9] at hz
   rw [Jeg, Jen, List.length_append] at hl
   rw [List.length_cons] at hx
   obtain ⟨h1, h2, h3⟩ := hq e (by simp)
   rw [Jeg, show xs ++ e :: l = (xs ++ [e]) ++ l from by simp]
   refine Reads.app (r2 := K (xs ++ [e])) ?_ (ihl (xs ++ [e]) (by omega) (by rw [List.length_append, List.length_singleton]; omega) (by omega) fun y hy => hq y (List.mem_cons_of_mem _ hy))
   unfold entG at hl ⊢
   by_cases h13 : e.Value.kah = 13
   ·rw [if_neg (fun h => h h13)] at hl ⊢
    rw [V6, Jen, @List.length_append UInt8 (sp2 (n + 1) ++ (X2 e.Tag ++ [32, 123])), List.length_cons, @List.length_append UInt8 (unl (Za d (n + 1 + 1) e.Value.kaf))] at hl
    obtain ⟨⟨g1, g2, g3⟩, g4⟩ := h3 h13
    have hzd : szD d e.Value.kaf ≤ szE d e := by unfold szE; omega
    have ee : Wp (⟨e.Tag, ⟨13, [], [], [], []⟩⟩ : Ta) e.Value.kaf = e := by
     obtain ⟨t, ⟨k, tx, is, rs, es⟩⟩ := e
     simp only at h13 g1 g2 g3
     subst h13 g1 g2 g3
     rfl
    have hlen200 : e.Value.kaf.length ≤ 200 := by
     cases d with
     | zero => exact g4.elim
     | succ d => exact g4.1
    have hin := ih e.Value.kaf _ (n + 1) [] (ctx_in hK (by omega) xs ⟨e.Tag, ⟨13, [], [], [], []⟩⟩) (by omega) g4 (by omega) (by simpa using hlen200) (by omega)
    have hsh := line_shut hK (by omega) xs (by omega) ⟨e.Tag, ⟨13, [], [], [], []⟩⟩ e.Value.kaf
    rw [ee] at hsh
    refine .cons (line_open hK (by omega) xs h1) (Reads.app hin ?_)
    rw [List.nil_append, ee]
    exact .one hsh
   ·rw [if_pos h13] at hl ⊢
    rw [V6, Jh5, List.length_append, List.length_append, List.length_append, List.length_cons] at hl
    exact .one (line_plain hK (by omega) xs (by omega) h1 (szE_vB (d := d) (by omega)) (h2 h13) h13 (by omega))
theorem line_dir (big : Bool) (ds : List (List Ta)) (hd : ds.length ≤ 1000) : Us ⟨big, ds, []⟩ [100, 105, 114] = some (0, ⟨big, ds ++ [[]], []⟩) := by
 unfold Us
 rw [decide_eq_true rfl, Bool.true_and]
 show J6 (decide ((([] : List Ta).length : Int) = 0)) _ _ = _
 rw [cI, if_pos (by simp)]
 show Jo (Xk 24 ds [[]]) _ = _
 rw [Xa (by simp; omega), Jb]
theorem read_dirs (big : Bool) : ∀ (ls ds : List (List Ta)), ds.length + ls.length ≤ 100 → (∀ l ∈ ls, okQ 5 l ∧ szD 5 l ≤ 2000000) → (unl (ls.flatMap fun l => [100, 105, 114] :: Za 5 1 l)).length ≤ 1000000 → Reads ⟨big, ds, []⟩ (ls.flatMap fun l => [100, 105, 114] :: Za 5 1 l) ⟨big, ds ++ ls, []⟩
 | [], ds, _, _, _ => by rw [List.append_nil]; exact .nil _
 | l :: ls, ds, hd, hq, hl => by
  rw [List.length_cons] at hd
  rw [List.flatMap_cons, Jen, V6, List.length_append, List.length_append, List.length_cons (a := (10 : UInt8))] at hl
  rw [List.flatMap_cons, show ds ++ l :: ls = (ds ++ [l]) ++ ls from by simp]
  obtain ⟨h1, h2⟩ := hq l (by simp)
  refine Reads.app (r2 := ⟨big, ds ++ [l], []⟩) (.cons (line_dir big ds (by omega)) ?_) (read_dirs big ls (ds ++ [l]) (by rw [List.length_append, List.length_singleton]; omega) (fun x hx => hq x (List.mem_cons_of_mem _ hx)) (by omega))
  have := read_dir 5 l _ 0 [] (ctx0 big ds (by omega)) (by omega) h1 h2 (by have := h1.1; simpa using this) (show (unl (Za 5 1 l)).length ≤ 1000000 by omega)
  rw [List.nil_append] at this
  exact this
theorem take_line {x : List UInt8} {rest : List UInt8} (hx : ∀ c ∈ x, c ≠ 10) (hl : (x ++ 10 :: rest).length ≤ 2000000) : Zx (x ++ 10 :: rest) [10] = some (x, rest, true) := by
 rw [Cut_eq (by omega), Ji6 hx]
theorem run_lines {ls : List (List UInt8)} {r r' : TxR} (h : Reads r ls r') : ∀ (n : Nat), 0 < n → n + ls.length ≤ 2000000 → (∀ x ∈ ls, ∀ c ∈ x, c ≠ 10) → (unl ls).length ≤ 2000000 →
  Z8 Jav (unl ls, (n : Int), r) = Z8 Jav ([], ((n + ls.length : Nat) : Int), r') := by
 induction h with
 | nil r => intro n _ _ _ _; rfl
 | @cons r r1 r2 s ls h1 h2 ih =>
  intro n h0 hn hc hl
  rw [V6] at hl ⊢
  rw [List.length_cons] at hn
  have hl2 := hl
  rw [List.length_append, List.length_cons] at hl2
  rw [show n + (s :: ls).length = (n + 1) + ls.length from by rw [List.length_cons]; omega, ← ih (n + 1) (by omega) (by omega) (fun x hx => hc x (List.mem_cons_of_mem _ hx)) (by omega)]
  refine Xi _ fun next => ?_
  unfold Jav
  show J6 (decide (s ++ 10 :: unl ls ≠ [])) (Jo (Zx (s ++ 10 :: unl ls) [10]) fun c => Jo (gI ((n : Int) + 1)) fun n => _) _ = _
  rw [cI, if_pos (by simp), take_line (hc s (by simp)) hl, Jb, J5 (by omega), Jb]
  show (Jo (J6 (!true || (decide ((n : Int) + 1 = 1) && _)) _ (J6 (decide ((n : Int) + 1 = 1)) _ (Us r s))) fun q => _) = _
  rw [decide_eq_false (show ¬ (n : Int) + 1 = 1 by omega), Bool.false_and, Bool.not_true, Bool.false_or, Qf, Qf, h1, Jb]
  show J6 (decide ((0 : Int) ≠ 0)) _ _ = _
  rw [cI, if_neg (by omega)]
  rfl
theorem entG_mem {f : List Ta → List (List UInt8)} {n : Nat} {e : Ta} (ht : 0 ≤ e.Tag ∧ e.Tag ≤ 65535) (hb : vB e.Value) (hp : e.Value.kah ≠ 13 → Ja9 e.Value = 0) (hf : e.Value.kah = 13 → ∀ x ∈ f e.Value.kaf, ∀ c ∈ x, c ≠ 10) : ∀ x ∈ entG f n e, ∀ c ∈ x, c ≠ 10 := by
 have h1 : ∀ c ∈ sp2 n, c ≠ 10 := fun c hc => by rw [sp2_mem n c hc]; decide
 have h2 : ∀ c ∈ X2 e.Tag, c ≠ 10 := fun c hc => (Je0 (by unfold sm; omega) c hc).2.2.1
 intro x hx c hc
 unfold entG at hx
 split at hx
 ·rename_i h13
  have hw := okW_of hb (hp h13) h13
  rw [List.mem_singleton.1 hx] at hc
  rcases List.mem_append.1 hc with h | h
  ·exact h1 c h
  rcases List.mem_append.1 h with h | h
  ·exact h2 c h
  rcases List.mem_cons.1 h with h | h
  ·rw [h]; decide
  ·have hj : ∀ (l : List (List UInt8)), (∀ x ∈ l, ∀ c ∈ x, c ≠ 10) → ∀ c ∈ ([32] : List UInt8).intercalate l, c ≠ 10 := by
    intro l hl
    induction l with
    | nil => intro c hc; simp [List.intercalate] at hc
    | cons y l ih =>
     cases l with
     | nil => intro c hc; exact hl y (by simp) c (by simpa [List.intercalate] using hc)
     | cons z l =>
      intro c hc
      rw [Jft] at hc
      rcases List.mem_append.1 hc with h | h
      ·exact hl y (by simp) c h
      rcases List.mem_cons.1 h with h | h
      ·rw [h]; decide
      ·exact ih (fun w hw => hl w (List.mem_cons_of_mem _ hw)) c h
   exact hj _ (fun y hy c hc => (Jif hw y hy c hc).2.1) c h
 ·rename_i h13
  rcases List.mem_cons.1 hx with h | h
  ·rw [h] at hc
   rcases List.mem_append.1 hc with h | h
   ·exact h1 c h
   rcases List.mem_append.1 h with h | h
   ·exact h2 c h
   ·simp at h; rcases h with h | h <;> rw [h] <;> decide
  rcases List.mem_append.1 h with h | h
  ·exact hf (Classical.not_not.1 h13) x h c hc
  ·rw [List.mem_singleton.1 h] at hc
   rcases List.mem_append.1 hc with h | h
   ·exact h1 c h
   ·simp at h; rw [h]; decide
theorem lines_mem : ∀ (d n : Nat) (l : List Ta), okQ d l → szD d l ≤ 2000000 → ∀ x ∈ Za d n l, ∀ c ∈ x, c ≠ 10 := by
 intro d
 induction d with
 | zero => intro n l h; exact h.elim
 | succ d ih =>
  intro n l hq hz x hx
  unfold Za at hx
  obtain ⟨e, he, hx⟩ := List.mem_flatMap.1 hx
  obtain ⟨h1, h2, h3⟩ := hq.2 e he
  have hze := Jhr (d := d) he
  exact entG_mem h1 (szE_vB (d := d) (by omega)) h2 (fun h13 => ih (n + 1) _ (h3 h13).2 (by unfold szE at hze; omega)) x hx
theorem lines_le (ls : List (List UInt8)) : ls.length ≤ (unl ls).length := by
 induction ls with
 | nil => simp
 | cons x l ih => rw [V6, List.length_append, List.length_cons, List.length_cons]; omega
theorem fits_okQ : ∀ (d : Nat) (l : List Ta), okQ d l → szD d l ≤ 2000000 → ∀ k, d < k → fits k l := by
 intro d
 induction d with
 | zero => intro l h; exact h.elim
 | succ d ih =>
  intro l hq hz k hk
  cases k with
  | zero => omega
  | succ k =>
  refine ⟨by have := hq.1; omega, fun e he => ?_⟩
  obtain ⟨h1, h2, h3⟩ := hq.2 e he
  have hze := Jhr (d := d) he
  have hb := szE_vB (d := d) (e := e) (by omega)
  refine ⟨hb.2.1, hb.2.2, ?_⟩
  by_cases h13 : e.Value.kah = 13
  ·exact ih _ (h3 h13).2 (by unfold szE at hze; omega) k (by omega)
  ·rw [(okW_of hb (h2 h13) h13).ents]
   cases k with
   | zero => omega
   | succ k => exact ⟨by simp, by simp⟩
theorem Jkw {f : Tg} (hb : Jdd f) (he : Jbc f = 0) (hl : (Jc8 f).length ≤ 1000000) : Wg (Jc8 f) = some (f, 0, 0) := by
 obtain ⟨h20, hdirs, _⟩ := Jg0 he
 have hq : ∀ l ∈ f.kal, okQ 5 l ∧ szD 5 l ≤ 2000000 := fun l hm => ⟨dE_okQ (hdirs l hm), hb.1 l hm⟩
 have hfit : fitF 8 ⟨f.Big, f.kal⟩ := ⟨by show f.kal.length ≤ _; omega, fun l hm => fits_okQ 5 l (hq l hm).1 (hq l hm).2 8 (by omega)⟩
 generalize hL : (f.kal.flatMap fun l => [100, 105, 114] :: Za 5 1 l) = L
 have htx : Jc8 f = hdL f.Big ++ 10 :: unl L := by unfold Jc8 linesF; rw [V6, hL]
 have hl2 := hl
 rw [htx, List.length_append, List.length_cons] at hl2
 have hR : Reads ⟨f.Big, [], []⟩ L ⟨f.Big, [] ++ f.kal, []⟩ := by
  rw [← hL]
  exact read_dirs f.Big f.kal [] (by simp; omega) hq (by rw [hL]; omega)
 rw [List.nil_append] at hR
 have hmem : ∀ x ∈ L, ∀ c ∈ x, c ≠ 10 := by
  intro x hx
  rw [← hL] at hx
  obtain ⟨l, hm, hx⟩ := List.mem_flatMap.1 hx
  rcases List.mem_cons.1 hx with h | h
  ·rw [h]; decide
  ·exact lines_mem 5 1 l (hq l hm).1 (hq l hm).2 x h
 have hLl := lines_le L
 have hh : ∀ c ∈ hdL f.Big, c ≠ 10 := by unfold hdL; cases f.Big <;> decide
 have hcut : Zx (Jc8 f) [10] = some (hdL f.Big, unl L, true) := by
  rw [htx]
  exact take_line hh (by rw [← htx]; omega)
 unfold Wg
 rw [cI, if_neg (by omega), Xi (F := Jav) (unl L, ((1 : Nat) : Int), (⟨f.Big, [], []⟩ : TxR)) (fun next => ?_)]
 ·rw [run_lines hR 1 (by omega) (by omega) hmem (by omega)]
  refine Qs fun next => ?_
  unfold Jav
  show J6 (decide (([] : List UInt8) ≠ [])) _ (J6 (decide (((1 + L.length : Nat) : Int) = 0) || decide (0 < (([] : List Ta).length : Int))) _ (Jo (Vt ⟨f.Big, f.kal⟩) fun c => _)) = _
  rw [cI, if_neg (by simp), decide_eq_false (show ¬ ((1 + L.length : Nat) : Int) = 0 by omega), Bool.false_or, cI, if_neg (by simp), show (⟨f.Big, f.kal⟩ : Tg) = f from rfl, Jdu hb, Jb, he]
  show J6 (decide ((0 : Int) ≠ 0)) _ _ = _
  rw [cI, if_neg (by omega)]
  exact if_pos hfit
 ·show Jav next (Jc8 f, 0, ⟨false, [], []⟩) = _
  unfold Jav
  show J6 (decide (Jc8 f ≠ [])) (Jo (Zx (Jc8 f) [10]) fun c => Jo (gI ((0 : Int) + 1)) fun n => _) _ = _
  rw [cI, if_pos (by rw [htx]; simp), hcut, Jb, J5 (by omega), Jb]
  show (Jo (J6 (!true || (decide ((0 : Int) + 1 = 1) && (decide (hdL f.Big ≠ [98, 105, 103]) && decide (hdL f.Big ≠ [108, 105, 116, 116, 108, 101])))) _ (J6 (decide ((0 : Int) + 1 = 1)) (some (0, (⟨decide (hdL f.Big = [98, 105, 103]), [], []⟩ : TxR))) _)) fun q => _) = _
  rw [decide_eq_true (show (0 : Int) + 1 = 1 by omega), show (decide (hdL f.Big ≠ [98, 105, 103]) && decide (hdL f.Big ≠ [108, 105, 116, 116, 108, 101])) = false from by unfold hdL; cases f.Big <;> decide, Bool.and_false, Bool.not_true, Bool.false_or, Qf, X8, Jb, show decide (hdL f.Big = [98, 105, 103]) = f.Big from by unfold hdL; cases f.Big <;> decide]
  show J6 (decide ((0 : Int) ≠ 0)) _ _ = _
  rw [cI, if_neg (by omega)]
  rfl
end Go.M

namespace Go.M
open Go.Md Go.Pl
theorem Size_eq {f : Tg} (hb : Jdd f) (he : Jbc f = 0) : Je7 f = some (((Jar f).length : Int), 0) := by
 obtain ⟨hok, hn⟩ := Jjk hb he
 have h1 := size_eq hok hn hb.2
 unfold Je7
 rw [Jdu hb, Jb, he]
 show J6 (decide ((0 : Int) ≠ 0)) _ _ = _
 rw [cI, if_neg (by omega), h1, Jb]
theorem Read_back {f : Tg} (hb : Jdd f) (he : Jbc f = 0) : Jbd (Jar f) = some (f, 0) := by
 unfold Jbd
 rw [read_written hb he (fd := 0) (by omega), Jb]
noncomputable def Jik (f : Tg) : Option Bool :=
 Jo (Z4 f) fun t30 =>
 J6 (decide (t30.2 ≠ 0)) (Jo (Vt f) fun t37 =>
 some (decide (t30.2 = t37))) (Jo (Jbd t30.1) fun t41 =>
 Jo (Z4 t41.1) fun t46 =>
 Jo (Je7 f) fun t51 =>
 J6 (decide (t41.2 ≠ 0)) (some false) (J6 (decide (t46.2 ≠ 0)) (some false) (J6 (decide (t51.2 ≠ 0)) (some false) (J6 (decide (t46.1 ≠ t30.1)) (some false) (J6 (decide (t51.1 ≠ (t30.1.length : Int))) (some false) (Jo (Je1 f) fun t77 =>
 J6 (decide (t77.2 ≠ 0)) (some (decide (t77.2 = 4))) (Jo (Wg t77.1) fun t86 =>
 Jo (Z4 t86.1) fun t92 =>
 J6 (decide (t86.2.2 = 0)) (J6 (decide (t86.2.1 = 0)) (J6 (decide (t92.2 = 0)) (some (decide (t92.1 = t30.1))) (some false)) (some false)) (some false))))))))
theorem round_eq {f : Tg} (hb : Jdd f) : Jik f = some true := by
 unfold Jik
 have hW := Write_eq hb
 rw [hW, Jb]
 by_cases he : Jbc f = 0
 ·rw [if_pos he] at hW ⊢
  show J6 (decide ((0 : Int) ≠ 0)) _ (Jo (Jbd (Jar f)) fun t41 => _) = _
  rw [cI, if_neg (by omega), Read_back hb he, Jb]
  show Jo (Z4 f) _ = _
  rw [hW, Jb, Size_eq hb he, Jb]
  show J6 (decide ((0 : Int) ≠ 0)) _ (J6 (decide ((0 : Int) ≠ 0)) _ (J6 (decide ((0 : Int) ≠ 0)) _ (J6 (decide (Jar f ≠ Jar f)) _ (J6 (decide (((Jar f).length : Int) ≠ ((Jar f).length : Int))) _ _)))) = _
  rw [cI, if_neg (by omega), cI, if_neg (by omega), cI, if_neg (by omega), cI, if_neg (fun h => h rfl), cI, if_neg (fun h => h rfl), Text_eq hb he, Jb]
  by_cases hl : 1000000 < (Jc8 f).length
  ·rw [if_pos hl]; rfl
  ·rw [if_neg hl]
   show J6 (decide ((0 : Int) ≠ 0)) _ (Jo (Wg (Jc8 f)) fun t86 => _) = _
   rw [cI, if_neg (by omega), Jkw hb he (by omega), Jb]
   show Jo (Z4 f) _ = _
   rw [hW, Jb]
   show J6 (decide ((0 : Int) = 0)) (J6 (decide ((0 : Int) = 0)) (J6 (decide ((0 : Int) = 0)) (some (decide (Jar f = Jar f))) _) _) _ = _
   rw [cI, if_pos rfl, cI, if_pos rfl, cI, if_pos rfl, decide_eq_true rfl]
 ·rw [if_neg he]
  show J6 (decide (Jbc f ≠ 0)) (Jo (Vt f) fun t37 => some (decide (Jbc f = t37))) _ = _
  rw [cI, if_pos he, Jdu hb, Jb, decide_eq_true rfl]
theorem tagRound {f : Tg} (hb : Jdd f) (s : List UInt8) : Jcz f s = some true := by
 have e : Jcz f s = Jo Jbe fun t18 => J6 (!t18) (some false) (Jo (Jbd s) fun t22 => J6 (decide (t22.2 = 0)) (Jik t22.1) (Jik f)) := rfl
 rw [e, awake_eq, Jb, Bool.not_true, Qf]
 obtain ⟨g, ps, er, h1, h2⟩ := read_ok s (fd := 0) (by omega)
 unfold Jbd
 rw [h1, Jb, Jb]
 show J6 (decide (er = 0)) (Jik g) (Jik f) = _
 rw [cI]
 by_cases h0 : er = 0
 ·rw [if_pos h0, round_eq (h2 h0).2.2.1]
 ·rw [if_neg h0, round_eq hb]
theorem tagRoundS (f : Tg) (s : List UInt8) (hb : Jdd f) {P : Prop} (_ : P) : Jcz f s = some true := tagRound hb s
end Go.M

namespace Go.Lx
open Go Go.Vc Go.Md
theorem tab_vars {P : Program} {W : World} {name : String} {k : IntKind} {zs : List Int} {g : Nat} {t e : TypeId} {n : Nat}
  (hg : P.globalNamed name = some g) (hty : (P.globals[g]?).map (·.type) = some t) (ht : P.underlying t = some (.array n e)) (he : P.underlying e = some (.int k)) (hce : P.cellsOf e = 1) (hct : P.cellsOf t = n) :
  ∀ (l : List (String × DataW Unit)) (ps : List MemPlace) (i : Nat), DataW.LaidVars P W l ps → l[i]? = some (name, Lib.tabData k zs) → Lib.TabIs P W name k zs
 | [], _, i, _, h => by simp at h
 | (n', d) :: r, ps, 0, hv, h => by
  simp only [List.getElem?_cons_zero, Option.some.injEq, Prod.mk.injEq] at h
  obtain ⟨rfl, rfl⟩ := h
  obtain ⟨g', t', cs, fuel, p, q, hg', ht', hvar, hd, _, _⟩ := hv
  obtain rfl := Option.some.inj (hg.symm.trans hg')
  obtain rfl := Option.some.inj (hty.symm.trans ht')
  unfold Lib.TabIs
  rw [hvar, ← Lib.cells_of_tab ht he hce hct hd]
 | _ :: r, ps, i + 1, hv, h => by
  obtain ⟨_, _, _, _, _, q, _, _, _, _, h2, _⟩ := hv
  exact tab_vars hg hty ht he hce hct r q i h2 (by simpa using h)
theorem tab_at {P : Program} {W : World} {name : String} {k : IntKind} {zs : List Int} {g : Nat} {t e : TypeId} {n : Nat} {l : List (String × DataW Unit)} (i : Nat)
  (hg : P.globalNamed name = some g) (hty : (P.globals[g]?).map (·.type) = some t) (ht : P.underlying t = some (.array n e)) (he : P.underlying e = some (.int k)) (hce : P.cellsOf e = 1) (hct : P.cellsOf t = n)
  (hL : laidMetH P l W) (hp : (l.all fun x => x.2.handleName?.isNone) = true) (hi : l[i]? = some (name, Lib.tabData k zs)) : TabH P (fun b => W.heap[b]?) name k zs := by
 rw [MakeChecks.laidMetH_plain _ _ _ hp] at hL
 obtain ⟨ps, hv, _⟩ := hL
 exact tabH_of (tab_vars hg hty ht he hce hct l ps i hv hi)
end Go.Lx

namespace Go.Vc
open Go
variable {H : Type} {enc : TypeId × Value → H} {P : Program} {w : World} {base : Nat} {spare : Nat → Bool} {held : Bool}
theorem Uz {w : World} {base k : Nat} {a : Addr} {cs : List Value} (h : w.cells? base a k = some cs) : cs.length = k ∧ ∀ i, i < k → w.cell? (a.add i) = cs[i]? :=
 (World.cells?_some h).2
theorem cell_spot {w : World} {a : Addr} {v : Value} (h : w.cell? a = some v) : a.spot = none := by
 unfold World.cell? at h
 split at h
 ·split at h
  ·cases h
  ·rename_i hs; simpa using hs
 ·cases h
theorem op_int {t fuel : Nat} {k : IntKind} {cs : List Value} {x : DataW H × List MemPlace} (ht : P.underlying t = some (.int k)) (h : DataW.trod enc P w base spare held fuel t cs = some x) : ∃ n : Int, cs = [.int k n] ∧ (Lit.int k n).wf = true := by
 obtain ⟨n, h1, _, h2⟩ := DataW.trod_int ht h
 exact ⟨n, h1, h2⟩
theorem op_bool {t fuel : Nat} {cs : List Value} {x : DataW H × List MemPlace} (ht : P.underlying t = some .bool) (h : DataW.trod enc P w base spare held fuel t cs = some x) : ∃ b : Bool, cs = [.bool b] := by
 obtain ⟨n, h1, _⟩ := DataW.trod_bool ht h
 exact ⟨n, h1⟩
end Go.Vc

namespace Go.Lx
open Go Go.Vc Go.Md
variable {H : Type} {enc : TypeId × Value → H} {P : Program} {w : World} {base : Nat} {spare : Nat → Bool} {held : Bool}
theorem piece {cs l : List Value} {o s : Nat} (h : (cs.drop o).take s = l) (hl : l.length = s) : cs.drop o = l ++ cs.drop (o + s) := by
 have := List.take_append_drop s (cs.drop o)
 rw [h, List.drop_drop] at this
 exact this.symm
theorem Row.snap {w : World} {a : Option Addr} {sz : Nat} {xs : List (List Value)} (h : Row w a sz xs) (hsz : 0 < sz) : RowH (fun b => w.heap[b]?) a sz xs := by
 rcases h with h | ⟨b, off, ha, h⟩
 ·exact .inl h
 ·cases xs with
  | nil => exact .inl rfl
  | cons x r =>
   have h0 := h 0 x rfl
   have hv := h0.2 0 x[0] (by simp [h0.1, hsz])
   unfold World.cell? at hv
   split at hv
   ·rename_i c T m hb
    refine .inr ⟨b, off, c, T, m, ha, hb, fun i y hy => ⟨(h i y hy).1, fun j v hj => ?_⟩⟩
    have := (h i y hy).2 j v hj
    unfold World.cell? at this
    rw [hb] at this
    simpa using this
   ·cases hv
theorem val_struct {r : Reach} {b0 t : Nat} {v : Value} {fs : Array Field} (ht : P.underlying t = some (.struct fs)) (hval : Value.okWide P w r b0 t v) : ∃ cs : List Value, v = .agg cs.toArray ∧ v.cells.toList = cs ∧ cs.length = P.cellsOf t := by
 unfold Value.okWide at hval
 rw [ht] at hval
 obtain ⟨cs, rfl, h, _⟩ := hval; exact ⟨cs.toList, by simp, rfl, by simpa using h⟩
theorem val_cell {r : Reach} {b0 t : Nat} {v : Value} (ht : (match P.underlying t with | some (.int _) | some (.slice _) | some .string | some .bool => true | _ => false) = true) (hval : Value.okWide P w r b0 t v) : v.cells.toList = [v] := by
 unfold Value.okWide at hval
 split at hval
 ·rename_i h; rw [h] at ht; cases ht
 ·rename_i h; rw [h] at ht; cases ht
 ·cases v with
  | agg cs =>
   exfalso
   unfold Cell.okWide at hval
   split at ht <;> simp_all [Cell.ok]
  | _ => rfl
end Go.Lx

namespace Go.Vc
open Go Go.Lx
variable {H : Type} {enc : TypeId × Value → H} {P : Program} {w : World} {base : Nat} {spare : Nat → Bool} {held : Bool}
structure BK (bk : DataW H → Nat) : Prop where
 slice : ∀ (es rs : List (DataW H)) (d : DataW H), d ∈ es → bk d ≤ bk (.slice es rs)
 agg : ∀ (es : List (DataW H)) (d : DataW H), d ∈ es → bk d ≤ bk (.agg es)
 str : ∀ bs : List UInt8, bs.length ≤ bk (.lit (.string bs))
theorem Jju {bk : DataW H → Nat} (K : BK bk) {t fuel : Nat} {cs : List Value} {x : DataW H × List MemPlace} (ht : P.underlying t = some .string) (h : DataW.trod enc P w base spare held fuel t cs = some x) : ∃ s : List UInt8, cs = [str s] ∧ s.length ≤ 9223372036854775807 ∧ s.length ≤ bk x.1 := by
 obtain ⟨s, h1, h3, h2⟩ := DataW.trod_string ht h
 refine ⟨s.data.toList, by rw [h1], ?_, ?_⟩
 ·have e : s.data.toList.length = s.size := by rw [Array.length_toList]; rfl
  rw [e]
  unfold maxLen at h2
  omega
 ·rw [h3]; exact K.str _
theorem op_fieldB {bk : DataW H → Nat} (K : BK bk) {t fuel i ft fo sz bo : Nat} {nm tg pk : String} {em : Bool} {fs : Array Field} {cs : List Value} {x : DataW H × List MemPlace} (ht : P.underlying t = some (.struct fs)) (hf : fs[i]? = some ⟨nm, ft, fo, em, tg, pk, bo⟩) (hc : P.cellsOf ft = sz) (h : DataW.trod enc P w base spare held fuel t cs = some x) :
  ∃ n y, DataW.trod enc P w base spare held n ft ((cs.drop fo).take sz) = some y ∧ bk y.1 ≤ bk x.1 := by
 subst hc
 obtain ⟨xs, n, _, hx, _, hl, hp⟩ := DataW.trod_struct ht h
 have h1 := hp i _ hf
 have hi : i < fs.size := by
  rcases Nat.lt_or_ge i fs.size with h | h
  ·exact h
  ·rw [Array.getElem?_eq_none h] at hf; cases hf
 rw [List.getElem?_eq_getElem (by omega)] at h1
 refine ⟨n, _, h1, ?_⟩
 rw [hx]
 exact K.agg _ _ (List.mem_map.2 ⟨_, List.getElem_mem _, rfl⟩)
theorem op_sliceB {bk : DataW H → Nat} (K : BK bk) {B : Nat} {α : Type} {f : α → List Value} {good : α → Prop} {t e sz fuel : Nat} {cs : List Value} {x : DataW H × List MemPlace} (hB : bk x.1 ≤ B) (ht : P.underlying t = some (.slice e)) (hc : P.cellsOf e = sz) (hsz : Nat.blt 0 sz = true)
  (hD : ∀ n cs x, bk x.1 ≤ B → cs.length = sz → DataW.trod enc P w base spare held n e cs = some x → ∃ a, cs = f a ∧ good a) (h : DataW.trod enc P w base spare held fuel t cs = some x) :
  ∃ (v : Value) (xs : List α), cs = [v] ∧ FrS (fun b => w.heap[b]?) sz v (xs.map f) ∧ xs.length ≤ 9223372036854775807 ∧ ∀ x ∈ xs, good x := by
 have h' := h
 rcases DataW.trod_slice ht h with ⟨rfl, _⟩ | ⟨a, len, cap, elems, rest, n, _, rfl, hx, _, hl, hm, hlen, hel, _⟩
 ·exact ⟨_, [], rfl, FrS.nil _ _, by simp, by simp⟩
 ·-- the elements, and no others
  have each : ∀ i : Fin len, ∃ a' : α, w.cells? base (a.add (i * sz)) sz = some (f a') ∧ good a' := by
   intro i
   have hi := hel i i.2
   rw [hc] at hi
   have hlt : (i : Nat) < elems.length := by rw [hlen]; exact i.2
   rw [List.getElem?_eq_getElem hlt, Option.bind_eq_some_iff] at hi
   obtain ⟨cs', h1, h2⟩ := hi
   have hb : bk (elems[(i : Nat)]).1 ≤ B := by
    refine Nat.le_trans ?_ hB
    rw [hx]
    exact K.slice _ _ _ (List.mem_map.2 ⟨_, List.getElem_mem _, rfl⟩)
   obtain ⟨a', rfl, hg⟩ := hD _ _ _ hb (Uz h1).1 h2
   exact ⟨a', h1, hg⟩
  have hsz' : 0 < sz := by simpa using hsz
  have hch : ∃ g : Fin len → α, ∀ i : Fin len, w.cells? base (a.add (i * sz)) sz = some (f (g i)) ∧ good (g i) := ⟨fun i => (each i).choose, fun i => (each i).choose_spec⟩
  obtain ⟨g, hg⟩ := hch
  have hrow : Row w (some a) sz ((List.ofFn g).map f) := by
   cases len with
   | zero => left; simp
   | succ k =>
    have h0 := hg 0
    have hsp : a.spot = none := by
     have := (Uz h0.1).2 0 hsz'
     have hln := (Uz h0.1).1
     rw [List.getElem?_eq_getElem (by omega)] at this
     have hs := cell_spot this
     simpa [Addr.add] using hs
    obtain ⟨b, off, spot⟩ := a
    simp only at hsp
    subst hsp
    refine .inr ⟨b, off, rfl, fun i x hx => ?_⟩
    have hi : i < k + 1 := by
     rcases Nat.lt_or_ge i (k + 1) with h | h
     ·exact h
     ·rw [List.getElem?_eq_none (by simpa using h)] at hx; cases hx
    have hx' : x = f (g ⟨i, hi⟩) := by
     rw [List.getElem?_map, List.getElem?_ofFn, dif_pos hi] at hx
     exact (Option.some.inj hx).symm
    subst hx'
    obtain ⟨c1, c2⟩ := Uz (hg ⟨i, hi⟩).1
    refine ⟨c1, fun j v hv => ?_⟩
    have hj : j < sz := by
     rcases Nat.lt_or_ge j sz with h | h
     ·exact h
     ·rw [List.getElem?_eq_none (by omega)] at hv; cases hv
    have := c2 j hj
    rw [hv, Addr.add_lit, Addr.add_lit] at this
    exact this
  have hm' : cap ≤ 9223372036854775807 := by simpa [maxLen] using hm
  refine ⟨_, List.ofFn g, rfl, ⟨⟨some a, cap, by simp, by simpa using hl, hm', Row.snap hrow hsz'⟩⟩, by simp; omega, ?_⟩
  intro x hx
  rw [List.mem_ofFn] at hx
  obtain ⟨i, rfl⟩ := hx
  exact (hg i).2
end Go.Vc

namespace Go.Vc
open Go Go.Lx
section
variable {H : Type} {enc : TypeId × Value → H} {P : Program} {w : World} {base : Nat} {spare : Nat → Bool} {held : Bool}
structure BKL (bk : DataW H → Nat) : Prop extends BK bk where
 len : ∀ es rs : List (DataW H), es.length ≤ bk (.slice es rs)
theorem op_sliceL {bk : DataW H → Nat} (K : BKL bk) {B : Nat} {α : Type} {f : α → List Value} {good : α → Prop} {t e sz fuel : Nat} {cs : List Value} {x : DataW H × List MemPlace} (hB : bk x.1 ≤ B) (ht : P.underlying t = some (.slice e)) (hc : P.cellsOf e = sz) (hsz : Nat.blt 0 sz = true)
  (hD : ∀ n cs x, bk x.1 ≤ B → cs.length = sz → DataW.trod enc P w base spare held n e cs = some x → ∃ a, cs = f a ∧ good a) (h : DataW.trod enc P w base spare held fuel t cs = some x) :
  ∃ (v : Value) (xs : List α), cs = [v] ∧ FrS (fun b => w.heap[b]?) sz v (xs.map f) ∧ (xs.length ≤ 9223372036854775807 ∧ xs.length ≤ B) ∧ ∀ x ∈ xs, good x := by
 obtain ⟨v, xs, e1, fr, hn, hg⟩ := op_sliceB K.toBK hB ht hc hsz hD h
 refine ⟨v, xs, e1, fr, ⟨hn, ?_⟩, hg⟩
 obtain ⟨a, c, rfl, _⟩ := fr.out
 rcases DataW.trod_slice ht h with ⟨e2, _⟩ | ⟨a', len, cap, elems, rest, n, _, e2, hx, _, _, _, hlen, _⟩
 ·rw [e1] at e2
  injection e2 with e2 _
  injection e2 with _ e2 _
  rw [List.length_map] at e2; omega
 ·rw [e1] at e2
  injection e2 with e2 _
  injection e2 with _ e2 _
  rw [List.length_map] at e2
  rw [hx] at hB
  have := K.len (elems.map (·.1)) (rest.map (·.1))
  rw [List.length_map] at this
  simp only at hB
  omega
end
section
variable {H : Type} {enc : TypeId × Value → H}
theorem Jil {a : Assume} {C : Checked} {os : Os} {f : FuncId} {fn : Func} {s : OpenSpec} {k : (H : Type) → List (DataW H) → Bool} (hk : s.cond = some k) {F : Stop.Interp} {conds : List PathCond} {apart Jd3 handsOn again : Bool} {X : World → Prop}
  (hX : ∀ w w' : World, w.heap = w'.heap → X w → X w')
  (own : ownKnob C.prog.godebug = none) (started : os.Started) (noInit : C.prog.inits.idxOf? f = none) (hfn : C.prog.funcs[f]? = some fn)
  (witness : ∃ (w : World) (tape : Tape) (i : Input), w.os = os ∧ (w.forCall tape i).Shaped C.prog ∧ i.vars = [] ∧ Input.okWide C.prog (w.forCall tape i) .any w.heap.size f i ∧
   ((s.pre enc C.prog fn conds apart (w.forCall tape i).memory i.args ∧ X (w.forCall tape i).memory) ∧ sizedMet enc C.prog fn s apart (w.forCall tape i).memory i.args) ∧ a.holds C.prog (lone (Frame.enter C.prog f i.args .normal) [] (w.forCall tape i)))
  (contract : ∀ (W : World) (base : Nat) (args : Array Value) (ds gs : List (DataW H)) (before : List MemPlace),
   (∀ (j : Nat) t v, fn.params[j]? = some t → args[j]? = some v → Value.okWide C.prog W .any base t v) →
   DataW.Whole enc C.prog fn.params.toList s.vars apart W args.toList ds gs before →
   conds.all (PathCond.test C.prog ⟨fn.params.toList, ds, s.bare.plain.varTypes C.prog, gs⟩) = true → k H (ds ++ gs) = true → X W →
   a.holds C.prog (lone (Frame.enter C.prog f args .normal) [] W) →
   Calls C.prog f args W fun e W' => ∃ v, e = .returned v ∧ (s.at F).post enc C.prog fn apart Jd3 handsOn again W args v W') :
  ReturnsInHanded a C os f .any (fun w args => (s.pre enc C.prog fn conds apart w args ∧ X w) ∧ sizedMet enc C.prog fn s apart w args) ((s.at F).post enc C.prog fn apart Jd3 handsOn again) := by
 refine returnsInHanded_of_calls own started noInit witness ?_
 intro w tape i _ _ _ hok hpre hholds
 obtain ⟨_, _, _, fn', hfn', _, _, _, _, hval⟩ := hok
 obtain rfl : fn' = fn := Option.some.inj (hfn'.symm.trans hfn)
 obtain ⟨⟨hp, hx⟩, _⟩ := hpre
 obtain ⟨ds, gs, before, hw, hc, hkk⟩ := (OpenSpec.pre_some hk conds apart _ _).1 hp
 have hw' := DataW.Whole.of_heap (w' := w.forCall tape i) (by rfl) hw
 refine (contract (w.forCall tape i) w.heap.size i.args ds gs before hval hw' hc hkk (hX _ _ (by rfl) hx) hholds).mono fun e W' ⟨v, he, hp⟩ => ?_
 subst he
 exact ChangeSpec.post_blind hp
theorem Jhj {C : Checked} {os : Os} {f : FuncId} {fn : Func} {s : OpenSpec} {k : (H : Type) → List (DataW H) → Bool} (hk : s.cond = some k) {conds : List PathCond} {apart : Bool} {X : World → Prop} (modest : Bool) (w0 : World) (args : Array Value) (fuel : Nat) (hos : w0.os = os)
  (hsh : (w0.forCall (fun _ _ => 0) ⟨#[], args, []⟩).Shaped C.prog)
  (hok : Input.okWideB C.prog (w0.forCall (fun _ _ => 0) ⟨#[], args, []⟩) f ⟨#[], args, []⟩ = true)
  {x : List (DataW H) × List (DataW H) × List MemPlace} (hx : DataW.whole enc C.prog (w0.forCall (fun _ _ => 0) ⟨#[], args, []⟩).memory fn.params.toList s.vars apart args.toList fuel = some x)
  (hconds : conds.all (PathCond.test C.prog ⟨fn.params.toList, x.1, s.bare.plain.varTypes C.prog, x.2.1⟩) = true) (hkk : k H (x.1 ++ x.2.1) = true)
  (hsz : s.bare.sizedB enc C.prog fn apart (w0.forCall (fun _ _ => 0) ⟨#[], args, []⟩).memory args fuel = true)
  (hX : X (w0.forCall (fun _ _ => 0) ⟨#[], args, []⟩).memory) :
  ∃ (w : World) (tape : Tape) (i : Input), w.os = os ∧ (w.forCall tape i).Shaped C.prog ∧ i.vars = [] ∧ Input.okWide C.prog (w.forCall tape i) .any w.heap.size f i ∧
   ((s.pre enc C.prog fn conds apart (w.forCall tape i).memory i.args ∧ X (w.forCall tape i).memory) ∧ sizedMet enc C.prog fn s apart (w.forCall tape i).memory i.args) ∧ ({ modest := modest } : Assume).holds C.prog (lone (Frame.enter C.prog f i.args .normal) [] (w.forCall tape i)) :=
 ⟨w0, fun _ _ => 0, ⟨#[], args, []⟩, hos, hsh, (Input.okWide_of_okWideB (base := 0) hok).1, (Input.okWide_of_okWideB hok).2,
  ⟨⟨(OpenSpec.pre_some hk conds apart _ _).2 ⟨x.1, x.2.1, x.2.2, DataW.Whole_of_whole hx, hconds, hkk⟩, hX⟩, sizedMet_of_sizedB hsz⟩, by
  simp only [Assume.holds]
  exact ⟨by simp, by simp, fun _ => Modest.zero, by simp, by simp⟩⟩
end
end Go.Vc

namespace Go.Vc
open Go Go.Lx
variable {H : Type} {enc : TypeId × Value → H} {P : Program} {w : World} {base : Nat} {spare : Nat → Bool} {held : Bool}
end Go.Vc

namespace Go.Lx
open Go Go.Vc Go.Md Go.ChangeShapes Go.WideShapes Go.ChangeAt
theorem Jcs {cs l : List Value} {o s q : Nat} (h : (cs.drop o).take s = l) (hq : q < l.length) : cs.getD (o + q) undef = l.getD q undef := by
 subst h
 have hs : q < s := by rw [List.length_take] at hq; omega
 simp only [List.getD_eq_getElem?_getD, List.getElem?_take, List.getElem?_drop, if_pos hs]
section
variable {P : Program} {H : Type} {enc : TypeId × Value → H} {w : World} {base : Nat} {spare : Nat → Bool} {held : Bool}
end
end Go.Lx

namespace Go.Lx
open Go Go.Vc Go.Md Go.ChangeShapes Go.WideShapes Go.ChangeAt
theorem Jg4 {a : Nat} : ∀ {l : List Nat}, a ∈ l → a ≤ l.sum
 | [], h => by cases h
 | x :: l, h => by
  rw [List.sum_cons]
  rcases List.mem_cons.1 h with h | h
  ·omega
  ·have := Jg4 h; omega
theorem Jkm {α β : Type} {f : α → Nat} {g : β → Nat} : ∀ {xs : List α} {ys : List β}, xs.length = ys.length → (∀ (i : Nat) x y, xs[i]? = some x → ys[i]? = some y → f x ≤ g y) → (xs.map f).sum ≤ (ys.map g).sum
 | [], [], _, _ => Nat.le_refl _
 | [], _ :: _, h, _ => by simp at h
 | _ :: _, [], h, _ => by simp at h
 | x :: xs, y :: ys, h, k => by
  rw [List.map_cons, List.map_cons, List.sum_cons, List.sum_cons]
  have h1 := k 0 x y rfl rfl
  have h2 := Jkm (f := f) (g := g) (xs := xs) (ys := ys) (by simpa using h) (fun i a b ha hb => k (i + 1) a b (by simpa using ha) (by simpa using hb))
  omega
theorem Jgz {α : Type} {f : α → Nat} (h : ∀ x, 1 ≤ f x) : ∀ xs : List α, xs.length ≤ (xs.map f).sum
 | [] => Nat.zero_le _
 | x :: xs => by rw [List.map_cons, List.sum_cons, List.length_cons]; have := h x; have := Jgz h xs; omega
section
variable {H : Type} {enc : TypeId × Value → H} {P : Program} {w : World} {base : Nat} {spare : Nat → Bool} {held : Bool}
structure BKS (bk : DataW H → Nat) : Prop where
 slice : ∀ es rs : List (DataW H), (es.map bk).sum ≤ bk (.slice es rs)
 agg : ∀ es : List (DataW H), (es.map bk).sum ≤ bk (.agg es)
 str : ∀ bs : List UInt8, bs.length ≤ bk (.lit (.string bs))
 one : ∀ d : DataW H, 1 ≤ bk d
theorem BKS.toBK {bk : DataW H → Nat} (K : BKS bk) : BK bk :=
 ⟨fun es rs d h => Nat.le_trans (Jg4 (List.mem_map.2 ⟨d, h, rfl⟩)) (K.slice es rs), fun es d h => Nat.le_trans (Jg4 (List.mem_map.2 ⟨d, h, rfl⟩)) (K.agg es), K.str⟩
theorem BKS.toBKL {bk : DataW H → Nat} (K : BKS bk) : BKL bk := { toBK := K.toBK, len := fun es rs => Nat.le_trans (Jgz K.one es) (K.slice es rs) }
theorem Jhd {bk : DataW H → Nat} (K : BKS bk) {t fuel : Nat} {fs : Array Field} {cs : List Value} {x : DataW H × List MemPlace} (ht : P.underlying t = some (.struct fs)) (h : DataW.trod enc P w base spare held fuel t cs = some x) :
  ∃ (n : Nat) (xs : List (DataW H × List MemPlace)), n < fuel ∧ xs.length = fs.size ∧ (xs.map fun y => bk y.1).sum ≤ bk x.1 ∧ ∀ (i : Nat) (f : Field) (sz : Nat), fs[i]? = some f → P.cellsOf f.type = sz → DataW.trod enc P w base spare held n f.type ((cs.drop f.offset).take sz) = xs[i]? := by
 obtain ⟨xs, n, hn, hx, _, hl, hp⟩ := DataW.trod_struct ht h
 refine ⟨n, xs, by omega, hl, ?_, fun i f sz hf hc => by subst hc; exact hp i f hf⟩
 rw [hx]
 have := K.agg (xs.map (·.1))
 rw [List.map_map] at this
 exact this
theorem Jit {bk : DataW H → Nat} (K : BKS bk) {α δ : Type} {G : Js → (Nat → Value) → α → Prop} {m : δ → α → Nat} {t e sz fuel : Nat} {cs : List Value} {x : DataW H × List MemPlace} (ht : P.underlying t = some (.slice e)) (hc : P.cellsOf e = sz) (hsz : Nat.blt 0 sz = true)
  (hD : ∀ n cs x, n < fuel → cs.length = sz → DataW.trod enc P w base spare held n e cs = some x → ∃ a : α, G (fun b => w.heap[b]?) (fun j => cs.getD j undef) a ∧ ∀ d, m d a ≤ bk x.1) (h : DataW.trod enc P w base spare held fuel t cs = some x) :
  ∃ (v : Value) (xs : List α), cs = [v] ∧ FrN (fun b => w.heap[b]?) sz v G xs ∧ xs.length ≤ bk x.1 ∧ ∀ d, (xs.map (m d)).sum ≤ bk x.1 := by
 rcases DataW.trod_slice ht h with ⟨rfl, _⟩ | ⟨a, len, cap, elems, rest, n, hn, rfl, hx, _, hl, hm, hlen, hel, _⟩
 ·exact ⟨_, [], rfl, FrN.nil _ _ _, by simp, by simp⟩
 ·have each : ∀ i : Fin len, ∃ p : List Value × α, w.cells? base (a.add (i * sz)) sz = some p.1 ∧ p.1.length = sz ∧ G (fun b => w.heap[b]?) (fun j => p.1.getD j undef) p.2 ∧ ∀ d y, elems[(i : Nat)]? = some y → m d p.2 ≤ bk y.1 := by
   intro i
   have hi := hel i i.2
   rw [hc] at hi
   have hlt : (i : Nat) < elems.length := by rw [hlen]; exact i.2
   rw [List.getElem?_eq_getElem hlt, Option.bind_eq_some_iff] at hi
   obtain ⟨cs', h1, h2⟩ := hi
   obtain ⟨a', hg, hmm⟩ := hD _ _ _ (by omega) (Uz h1).1 h2
   refine ⟨(cs', a'), h1, (Uz h1).1, hg, fun d y hy => ?_⟩
   rw [List.getElem?_eq_getElem hlt] at hy
   cases hy
   exact hmm d
  have hsz' : 0 < sz := by simpa using hsz
  have hch : ∃ g : Fin len → List Value × α, ∀ i : Fin len, w.cells? base (a.add (i * sz)) sz = some (g i).1 ∧ (g i).1.length = sz ∧ G (fun b => w.heap[b]?) (fun j => (g i).1.getD j undef) (g i).2 ∧ ∀ d y, elems[(i : Nat)]? = some y → m d (g i).2 ≤ bk y.1 := ⟨fun i => (each i).choose, fun i => (each i).choose_spec⟩
  obtain ⟨g, hg⟩ := hch
  have hrow : Row w (some a) sz ((List.ofFn g).map fun p => p.1) := by
   cases len with
   | zero => left; simp
   | succ k =>
    have h0 := hg 0
    have hsp : a.spot = none := by
     have := (Uz h0.1).2 0 hsz'
     have hln := (Uz h0.1).1
     rw [List.getElem?_eq_getElem (by omega)] at this
     have hs := cell_spot this
     simpa [Addr.add] using hs
    obtain ⟨b, off, spot⟩ := a
    simp only at hsp
    subst hsp
    refine .inr ⟨b, off, rfl, fun i x hx => ?_⟩
    have hi : i < k + 1 := by
     rcases Nat.lt_or_ge i (k + 1) with h | h
     ·exact h
     ·rw [List.getElem?_eq_none (by simpa using h)] at hx; cases hx
    have hx' : x = (g ⟨i, hi⟩).1 := by
     rw [List.getElem?_map, List.getElem?_ofFn, dif_pos hi] at hx
     exact (Option.some.inj hx).symm
    subst hx'
    obtain ⟨c1, c2⟩ := Uz (hg ⟨i, hi⟩).1
    refine ⟨c1, fun j v hv => ?_⟩
    have hj : j < sz := by
     rcases Nat.lt_or_ge j sz with h | h
     ·exact h
     ·rw [List.getElem?_eq_none (by omega)] at hv; cases hv
    have := c2 j hj
    rw [hv, Addr.add_lit, Addr.add_lit] at this
    exact this
  have hm' : cap ≤ 9223372036854775807 := by simpa [maxLen] using hm
  have hfr : FrS (fun b => w.heap[b]?) sz (.slice (some a) len cap) ((List.ofFn g).map fun p => p.1) := ⟨⟨some a, cap, by simp, by simpa using hl, hm', Row.snap hrow hsz'⟩⟩
  refine ⟨_, (List.ofFn g).map Prod.snd, rfl, ?_, ?_, fun d => ?_⟩
  ·refine Ja8 (css := (List.ofFn g).map Prod.fst) ?_ ⟨by simp, fun i c y hc hy => ?_⟩
   ·have : ((List.ofFn g).map Prod.fst).map Z6 = (List.ofFn g).map fun p => p.1 := by rw [List.map_map]; rfl
    rw [this]; exact hfr
   ·simp only [List.getElem?_map, Option.map_eq_some_iff] at hc hy
    obtain ⟨p, hp, rfl⟩ := hc
    obtain ⟨q, hq, rfl⟩ := hy
    rw [hp] at hq
    cases hq
    have hpm := List.mem_of_getElem? hp
    rw [List.mem_ofFn] at hpm
    obtain ⟨j, rfl⟩ := hpm
    exact ⟨(hg j).2.1, (hg j).2.2.1⟩
  ·have h1 := Jgz K.one (elems.map (·.1))
   have h2 := K.slice (elems.map (·.1)) (rest.map (·.1))
   rw [hx]
   simp only [List.length_map, List.length_ofFn] at h1 ⊢
   omega
  ·have h2 := K.slice (elems.map (·.1)) (rest.map (·.1))
   rw [hx]
   refine Nat.le_trans (Jkm (by simp [hlen]) fun i a y ha hy => ?_) h2
   rw [List.getElem?_map, Option.map_eq_some_iff] at ha hy
   obtain ⟨p, hp, rfl⟩ := ha
   obtain ⟨y, hy, rfl⟩ := hy
   have hi : i < len := by
    rcases Nat.lt_or_ge i len with h | h
    ·exact h
    ·rw [List.getElem?_eq_none (by simpa using h)] at hp; cases hp
   rw [List.getElem?_ofFn, dif_pos hi] at hp
   cases hp
   exact (hg ⟨i, hi⟩).2.2.2 d y hy
end
end Go.Lx
