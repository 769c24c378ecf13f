/- Directories and files written, in plain Lean; the law TagWrites. Conditions: none. -/
import Derived.Test.YtemkoikdkfkijaaKPb
import Derived.Test.YtemkoikdkfkijaaMd
import Derived.ProofKit
import Derived.OpenShut
import Derived.ChangeArms
import Derived.DataReads
import Derived.JoinedCond
import Derived.LaidLaws
import Derived.SizedLaws
import Derived.Test.YtemkoikdkfkijaaLx5
namespace Go.M
open Go.Md Go.Pl
def zer (n : Nat) : List UInt8 := List.replicate n 0
def ev (p : Nat) : Nat := p + p % 2
def pad (p : Nat) : List UInt8 := zer (p % 2)
def put (s : List UInt8) (at_ : Nat) (b : List UInt8) : List UInt8 := s.take at_ ++ b ++ s.drop (at_ + b.length)
theorem Z7 (n : Nat) : (zer n).length = n := List.length_replicate
theorem Uu (p : Nat) : (pad p).length = p % 2 := Z7 _
theorem ofStr_zer4 : Qk (zer 4) = [0, 0, 0, 0] := rfl
theorem zer_add (a b : Nat) : zer (a + b) = zer a ++ zer b := List.replicate_append_replicate.symm
theorem put_len {s : List UInt8} {a : Nat} {b : List UInt8} (h : a + b.length ≤ s.length) : (put s a b).length = s.length := by
 unfold put
 simp only [List.length_append, List.length_take, List.length_drop]; omega
theorem put_at (A B C b : List UInt8) (h : b.length = B.length) {a : Nat} (ha : a = A.length) : put (A ++ B ++ C) a b = A ++ b ++ C := by
 subst ha
 unfold put
 rw [h, List.append_assoc A B C, List.take_left' rfl, ← List.append_assoc A B C, List.drop_left' (by rw [List.length_append])]
theorem ofStr_take (s : List UInt8) (n : Nat) : (Qk s).take n = Qk (s.take n) := List.map_take.symm
theorem ofStr_drop (s : List UInt8) (n : Nat) : (Qk s).drop n = Qk (s.drop n) := List.map_drop.symm
theorem cpy_put {s b : List UInt8} {a : Int} {m : Nat} {p : Nat} (ha : a = (p : Int)) (hm : b.length ≤ m) : cpyL (Qk s) a m (Qk b) = Qk (put s p b) := by
 subst ha
 unfold cpyL put
 have h1 : (Qk b).take m = Qk b := List.take_of_length_le (by rw [Qs]; exact hm)
 rw [Int.toNat_natCast, Qs, Nat.min_eq_right hm, h1, ofStr_take, ofStr_drop, Y9, Y9, List.append_assoc]
theorem set_eq4 {big : Bool} {s : List UInt8} {a n : Int} {p : Nat} (ha : a = (p : Int)) (h : p + 4 ≤ s.length) : Zq ⟨big, Qk s⟩ a n = some ⟨big, Qk (put s p (Xl big n 4))⟩ := by
 unfold Zq
 dsimp only
 rw [gCut_from (by rw [Qs]; omega), Je, tag4, Je]
 rw [cpy_put ha (by rw [Qh _ _ (by omega), List.length_drop, Qs]; omega)]
theorem begin_eq {big : Bool} {s : List UInt8} (hs : s.length ≤ 1099511627776) : Ve ⟨big, Qk s⟩ = some (((ev s.length : Nat) : Int), ⟨big, Qk (s ++ pad s.length)⟩) := by
 unfold Ve Zc ev pad
 dsimp only
 rw [gRem_ok (by omega), Je, cI, Qs]
 have e : ((s.length : Int)).tmod 2 = ((s.length % 2 : Nat) : Int) := by rw [Int.tmod_eq_emod_of_nonneg (by omega)]; omega
 by_cases h : s.length % 2 = 0
 ·rw [e, if_neg (by omega), h]
  simp [zer]
 ·have h1 : s.length % 2 = 1 := by omega
  rw [e, if_pos (by omega), Yf (by rw [Qs, List.length_singleton]; omega), Je, h1, Y9]
  simp only [List.length_append, Qs, List.length_singleton]
  rfl
noncomputable def hdrS (big : Bool) (e : T_tag_Entry) : List UInt8 := Xl big e.Tag 2 ++ Xl big e.Value.Kind 2 ++ Xl big (cntS e.Value) 4
theorem hdr_len (big : Bool) (e : T_tag_Entry) : (hdrS big e).length = 8 := by
 unfold hdrS; rw [List.length_append, List.length_append, Qh _ _ (by omega), Qh _ _ (by omega), Qh _ _ (by omega)]
noncomputable def W4 (G : List T_tag_Entry → Nat → List UInt8) (big : Bool) (e : T_tag_Entry) (q : Nat) : List UInt8 × List UInt8 :=
 if e.Value.Kind = 13 then (Xl big (ev q) 4, G e.Value.Entries q)
 else if (V4 big e.Value).length ≤ 4 then (V4 big e.Value ++ zer (4 - (V4 big e.Value).length), [])
 else (Xl big (ev q) 4, pad q ++ V4 big e.Value)
theorem entF_len (G : List T_tag_Entry → Nat → List UInt8) (big : Bool) (e : T_tag_Entry) (q : Nat) : (W4 G big e q).1.length = 4 := by
 unfold W4
 split
 ·exact Qh _ _ (by omega)
 split
 ·rw [List.length_append, Z7]; omega
 ·exact Qh _ _ (by omega)
noncomputable def W2 (G : List T_tag_Entry → Nat → List UInt8) (big : Bool) : List T_tag_Entry → Nat → List UInt8 × List UInt8
 | [], _ => ([], [])
 | e :: l, q => (hdrS big e ++ (W4 G big e q).1 ++ (W2 G big l (q + (W4 G big e q).2.length)).1, (W4 G big e q).2 ++ (W2 G big l (q + (W4 G big e q).2.length)).2)
theorem bods_len (G : List T_tag_Entry → Nat → List UInt8) (big : Bool) : ∀ (l : List T_tag_Entry) (q : Nat), (W2 G big l q).1.length = 12 * l.length
 | [], _ => rfl
 | e :: l, q => by
  unfold W2
  rw [List.length_append, List.length_append, hdr_len, entF_len, bods_len G big l, List.length_cons]; omega
noncomputable def dirB (G : List T_tag_Entry → Nat → List UInt8) (big : Bool) (l : List T_tag_Entry) (p : Nat) : List UInt8 :=
 pad p ++ Xl big l.length 2 ++ (W2 G big l (ev p + 2 + 12 * l.length + 4)).1 ++ zer 4 ++ (W2 G big l (ev p + 2 + 12 * l.length + 4)).2
noncomputable def Qu : Nat → Bool → List T_tag_Entry → Nat → List UInt8
 | 0, _ => fun _ _ => []
 | d + 1, big => dirB (Qu d big) big
theorem dirB_len (G : List T_tag_Entry → Nat → List UInt8) (big : Bool) (l : List T_tag_Entry) (p : Nat) : p + (dirB G big l p).length = ev p + 2 + 12 * l.length + 4 + (W2 G big l (ev p + 2 + 12 * l.length + 4)).2.length := by
 unfold dirB ev
 simp only [List.length_append, Uu, Qh _ _ (show 2 ≤ 8 by omega), bods_len, Z7]; omega
theorem dirS_le (big : Bool) : ∀ (d : Nat) (l : List T_tag_Entry) (p : Nat), (Qu d big l p).length ≤ 8 + 32 * szD d l := by
 intro d
 induction d with
 | zero => intro l p; exact Nat.zero_le _
 | succ d ih =>
  intro l p
  have hb : ∀ (l : List T_tag_Entry) (q : Nat), (W2 (Qu d big) big l q).2.length + 12 * l.length ≤ 32 * szD (d + 1) l := by
   intro l
   induction l with
   | nil => intro q; exact Nat.zero_le _
   | cons e l ih2 =>
    intro q
    unfold W2
    rw [List.length_append, List.length_cons, szD_cons]
    have h1 := ih2 (q + (W4 (Qu d big) big e q).2.length)
    have h2 : (W4 (Qu d big) big e q).2.length + 12 ≤ 32 * szE d e := by
     unfold W4 szE
     split
     ·have := ih e.Value.Entries q; simp only; omega
     split
     ·simp only [List.length_nil]; omega
     ·have := octS_le big e.Value
      simp only [List.length_append, Uu]; omega
    omega
  have h1 := dirB_len (Qu d big) big l p
  have h2 := hb l (ev p + 2 + 12 * l.length + 4)
  show (dirB (Qu d big) big l p).length ≤ _
  have h3 : ev p ≤ p + 1 := by unfold ev; omega
  omega
noncomputable def hzS (big : Bool) (l : List T_tag_Entry) : List UInt8 := l.flatMap fun e => hdrS big e ++ zer 4
theorem hz_len (big : Bool) (l : List T_tag_Entry) : (hzS big l).length = 12 * l.length := by
 unfold hzS
 rw [Wo (w := 12) (fun e => by rw [List.length_append, hdr_len, Z7])]; omega
theorem heads_loop {big : Bool} {l : List T_tag_Entry} (hl : l.length ≤ 200) (hv : ∀ e ∈ l, vB e.Value) {self : T_tag_writer × List T_tag_Entry → Option (Int × Int × T_tag_writer)} {t15 : Int × T_tag_writer} (ht : t15.2.big_ = big) (s : List UInt8) (hs : s.length ≤ 1099511627776) :
  V0 (fun next5 a => Q4 l self t15 next5 a.1 a.2) (0, Qk s) = Y4 l self t15 (Qk (s ++ hzS big l)) := by
 unfold hzS
 rw [← fold_ofStr]
 refine fix_list (F := fun next5 a => Q4 l self t15 next5 a.1 a.2) l (fun s e => s ++ Qk (hdrS big e ++ zer 4)) (Y4 l self t15) (fun k a => a.length ≤ s.length + 12 * k) (fun next k a hk ha => ?_) (fun next a ha => ?_) _ (by rw [Qs]; omega)
 ·refine ⟨?_, by show (a ++ _).length ≤ _; rw [List.length_append, Qs, List.length_append, hdr_len, Z7]; omega⟩
  show Q4 l self t15 next (k : Int) a = _
  unfold Q4
  have n2 : ∀ n, (Qk (Xl big n 2)).length = 2 := fun n => by rw [Qs, Qh _ _ (by omega)]
  have n4 : ∀ n, (Qk (Xl big n 4)).length = 4 := fun n => by rw [Qs, Qh _ _ (by omega)]
  rw [cI, if_pos (by omega), Yk hk, Je, ht, tag2, Je, Yf (by rw [n2]; omega), Je, tag2, Je, Yf (by rw [List.length_append, n2, n2]; omega), Je, count_eq (hv _ (List.getElem_mem hk)), Je, tag4, Je, Yf (by rw [List.length_append, List.length_append, n2, n2, n4]; omega), Je, Yf (by rw [List.length_append, List.length_append, List.length_append, n2, n2, n4]; simp; omega), Je, J4 (by omega), Je]
  unfold hdrS
  rw [Y9, Y9, Y9, ofStr_zer4]
  simp only [List.append_assoc]
 ·show Q4 l self t15 next (l.length : Int) a = _
  unfold Q4
  rw [cI, if_neg (by omega)]
theorem prog_loop {big : Bool} {l : List T_tag_Entry} (hl : l.length ≤ 200) (hv : ∀ e ∈ l, okV e.Value ∧ vB e.Value) {G : List T_tag_Entry → Nat → List UInt8} {self : T_tag_writer × List T_tag_Entry → Option (Int × Int × T_tag_writer)}
  (hself : ∀ e ∈ l, e.Value.Kind = 13 → ∀ s : List UInt8, s.length + (G e.Value.Entries s.length).length ≤ 1099511627776 → ∃ q, self (⟨big, Qk s⟩, e.Value.Entries) = some (((ev s.length : Nat) : Int), q, ⟨big, Qk (s ++ G e.Value.Entries s.length)⟩))
  {t15 : Int × T_tag_writer} {at_ : Nat} (ht : t15.1 = (at_ : Int)) (L : List Int) :
  ∀ (l2 : List T_tag_Entry) (i : Nat) (X Y : List UInt8), i + l2.length = l.length → l.drop i = l2 → X.length = at_ + 2 + 12 * i → X.length + 12 * l2.length + 4 + Y.length + (W2 G big l2 (X.length + 12 * l2.length + 4 + Y.length)).2.length ≤ 1099511627776 →
   V0 (fun next3 a => Xe l self t15 L next3 a.1 a.2.1 a.2.2) ((i : Int), big, Qk (X ++ hzS big l2 ++ zer 4 ++ Y)) = some (t15.1, (L.length : Int), ⟨big, Qk (X ++ (W2 G big l2 (X.length + 12 * l2.length + 4 + Y.length)).1 ++ zer 4 ++ Y ++ (W2 G big l2 (X.length + 12 * l2.length + 4 + Y.length)).2)⟩) := by
 intro l2
 induction l2 with
 | nil =>
  intro i X Y hi _ hX hM
  refine Qm fun next => ?_
  show Xe l self t15 L next (i : Int) big _ = _
  unfold Xe
  rw [cI, if_neg (by rw [List.length_nil] at hi; omega)]
  unfold Vy W2 hzS
  simp
 | cons e l2 ih =>
  intro i X Y hi hd hX hM
  have hlt : i < l.length := by rw [List.length_cons] at hi; omega
  have he : l[i] = e := by have := List.drop_eq_getElem_cons hlt; rw [hd] at this; injection this with h1 h2; exact h1.symm
  have hd' : l.drop (i + 1) = l2 := by have := List.drop_eq_getElem_cons hlt; rw [hd] at this; injection this with h1 h2; exact h2.symm
  have hmem : e ∈ l := he ▸ List.getElem_mem hlt
  obtain ⟨hok, hvb⟩ := hv e hmem
  generalize hp : X.length + 12 * (e :: l2).length + 4 + Y.length = p at hM ⊢
  rw [List.length_cons] at hp hi
  unfold W2 at hM ⊢
  simp only at hM ⊢
  generalize hF : W4 G big e p = F at hM ⊢
  obtain ⟨f, b⟩ := F
  have hf4 : f.length = 4 := by have := entF_len G big e p; rw [hF] at this; exact this
  simp only at hM ⊢
  rw [List.length_append] at hM
  have hS : (X ++ hzS big (e :: l2) ++ zer 4 ++ Y).length = p := by
   simp only [List.length_append, hz_len, Z7, List.length_cons]; omega
  have hsplit : ∀ Z : List UInt8, X ++ hzS big (e :: l2) ++ zer 4 ++ Y ++ Z = (X ++ hdrS big e) ++ zer 4 ++ (hzS big l2 ++ zer 4 ++ Y ++ Z) := fun Z => by
   unfold hzS
   rw [List.flatMap_cons]
   simp only [List.append_assoc]
  have hpos : (at_ : Int) + 2 + 12 * (i : Int) + 8 = ((X ++ hdrS big e).length : Int) := by
   rw [List.length_append, hdr_len]; omega
  have hround : ∀ next : Int × Bool × List Int → Option (Int × Int × T_tag_writer), Xe l self t15 L next (i : Int) big (Qk (X ++ hzS big (e :: l2) ++ zer 4 ++ Y)) = next (((i + 1 : Nat) : Int), big, Qk ((X ++ hdrS big e ++ f) ++ hzS big l2 ++ zer 4 ++ (Y ++ b))) := fun next => by
   unfold Xe
   have e4 : ∀ a m, Ym (i : Int) next a m = next (((i + 1 : Nat) : Int), a, m) := fun a m => by
    unfold Ym; rw [J4 (by omega), Je]; rfl
   rw [cI, if_pos (by omega), Yk hlt, Je, he, ht, J4 (by omega), Je, J4 (by omega), Je, J4 (by omega), Je, J4 (by omega), Je, cI]
   unfold W4 at hF
   by_cases h13 : e.Value.Kind = 13
   ·rw [if_pos h13] at hF ⊢
    injection hF with hF1 hF2
    obtain ⟨q, hq⟩ := hself e hmem h13 (X ++ hzS big (e :: l2) ++ zer 4 ++ Y) (by rw [hS, hF2]; omega)
    rw [hq, Je]
    simp only
    rw [hS, hF2, set_eq4 (p := (X ++ hdrS big e).length) hpos (by rw [hsplit]; simp only [List.length_append, Z7]; omega), Je, e4, hF1, hsplit, put_at _ _ _ _ (by rw [hf4, Z7]) rfl]
    simp only [List.append_assoc]
   ·rw [if_neg h13] at hF ⊢
    rw [octets_eq hvb hok h13, Je, cI, Qs]
    by_cases ho : (V4 big e.Value).length ≤ 4
    ·rw [if_pos ho] at hF
     injection hF with hF1 hF2
     have hpn : ((at_ : Int) + 2 + 12 * (i : Int) + 8).toNat = X.length + 8 := by omega
     rw [if_pos (by omega), gCut_from (by rw [Qs, hS]; omega), Je, e4, cpy_put (p := (X ++ hdrS big e).length) hpos (by rw [List.length_drop, Qs, hS, hpn]; omega)]
     have h0 := hsplit []
     rw [List.append_nil] at h0
     have hz : zer 4 = zer (V4 big e.Value).length ++ zer (4 - (V4 big e.Value).length) := by rw [← zer_add]; congr 1; omega
     have h1 : ∀ R, (X ++ hdrS big e) ++ zer 4 ++ R = (X ++ hdrS big e) ++ zer (V4 big e.Value).length ++ (zer (4 - (V4 big e.Value).length) ++ R) := fun R => by
      rw [hz]
      simp only [List.append_assoc]
     rw [h0]
     rw [h1, put_at _ _ _ _ (by rw [Z7]) rfl, ← hF1, ← hF2]
     simp only [List.append_assoc, List.append_nil]
    ·rw [if_neg ho] at hF
     injection hF with hF1 hF2
     rw [if_neg (by omega), begin_eq (by rw [hS]; omega), Je]
     simp only
     have hol := octS_le big e.Value
     rw [hS, set_eq4 (p := (X ++ hdrS big e).length) hpos (by rw [hsplit]; simp only [List.length_append, Z7]; omega), Je]
     simp only
     rw [Yf (by rw [Qs, Qs, put_len (by rw [hsplit, Qh _ _ (by omega)]; simp only [List.length_append, Z7]; omega), List.length_append, hS, Uu]; rw [← hF2, List.length_append, Uu] at hM; omega), Je, e4, hsplit, put_at _ _ _ _ (by rw [Qh _ _ (by omega), Z7]) rfl, ← Y9, ← hF1, ← hF2]
     simp only [List.append_assoc]
  rw [Qw _ hround]
  have hq : (X ++ hdrS big e ++ f).length + 12 * l2.length + 4 + (Y ++ b).length = p + b.length := by
   simp only [List.length_append, hdr_len, hf4]; omega
  have := ih (i + 1) (X ++ hdrS big e ++ f) (Y ++ b) (by omega) hd' (by simp only [List.length_append, hdr_len, hf4]; omega) (by rw [hq]; omega)
  rw [this, hq]
  simp only [List.append_assoc]
end Go.M

/- Directories and files written by both, in plain Lean. Conditions: none. -/
namespace Go.M
open Go.Md Go.Pl
theorem dir_eq (d : Nat) (big : Bool) (s : List UInt8) (l : List T_tag_Entry) (hok : okD d l) (hz : szD d l ≤ 2000000) (hM : s.length + (Qu d big l s.length).length ≤ 1099511627776) :
  Wx ⟨big, Qk s⟩ l = some (((ev s.length : Nat) : Int), ((ev s.length + 2 + 12 * l.length : Nat) : Int), ⟨big, Qk (s ++ Qu d big l s.length)⟩) := by
 unfold Wx
 have := fix_ofG (F := fun (self : (T_tag_writer × List T_tag_Entry) → Option (Int × Int × T_tag_writer)) (s : T_tag_writer × List T_tag_Entry) => Xp self s.1 s.2)
  (fun (g : Nat × Bool × List UInt8) (a : T_tag_writer × List T_tag_Entry) => some (((ev g.2.2.length : Nat) : Int), ((ev g.2.2.length + 2 + 12 * a.2.length : Nat) : Int), ⟨g.2.1, Qk (g.2.2 ++ Qu g.1 g.2.1 a.2 g.2.2.length)⟩))
  (fun g a => a.1 = ⟨g.2.1, Qk g.2.2⟩ ∧ okD g.1 a.2 ∧ szD g.1 a.2 ≤ 2000000 ∧ g.2.2.length + (Qu g.1 g.2.1 a.2 g.2.2.length).length ≤ 1099511627776) (fun g => g.1) ?_ (d, big, s) (⟨big, Qk s⟩, l) ⟨rfl, hok, hz, hM⟩
 ·exact this
 rintro next ⟨d, big, s⟩ ⟨w, l⟩ ⟨hw, hok, hz, hM⟩ ih
 simp only at hw hok hz hM ih ⊢
 subst hw
 cases d with
 | zero => exact hok.elim
 | succ d =>
  obtain ⟨hl, hall⟩ := hok
  have hM' := dirB_len (Qu d big) big l s.length
  have hMM : s.length + (dirB (Qu d big) big l s.length).length ≤ 1099511627776 := hM
  unfold Xp
  have hev : ev s.length = (s ++ pad s.length).length := by rw [List.length_append, Uu]; rfl
  rw [begin_eq (by omega), Je]
  dsimp only
  rw [tag2, Je, Yf (by rw [Qs, Qs, ← hev, Qh _ _ (by omega)]; omega), Je, ← Y9]
  have hX : (s ++ pad s.length ++ Xl big l.length 2).length = ev s.length + 2 := by rw [List.length_append, ← hev, Qh _ _ (by omega)]
  rw [heads_loop hl (fun e he => (vB_of hz he).1) rfl _ (by rw [hX]; omega)]
  unfold Y4
  dsimp only
  rw [Yf (by rw [Qs, List.length_append, hX, hz_len]; simp; omega), Je, ← ofStr_zer4, ← Y9]
  have := prog_loop (big := big) hl (fun e he => ⟨(hall e he).1, (vB_of hz he).1⟩) (G := Qu d big) (self := next) (fun e he h13 s' hs' => ⟨_, ih (d, big, s') (⟨big, Qk s'⟩, e.Value.Entries) ⟨rfl, (hall e he).2 h13, (vB_of hz he).2, hs'⟩ (by simp)⟩)
   (t15 := (((ev s.length : Nat) : Int), ⟨big, Qk (s ++ pad s.length)⟩)) (at_ := ev s.length) rfl (Qk (s ++ pad s.length ++ Xl big l.length 2 ++ hzS big l)) l 0 (s ++ pad s.length ++ Xl big l.length 2) [] (by omega) rfl (by rw [hX]) (by rw [hX, List.length_nil, Nat.add_zero]; omega)
  rw [List.append_nil] at this
  refine this.trans ?_
  rw [hX, Qs, List.length_append, hX, hz_len, List.length_nil, Nat.add_zero, List.append_nil]
  show some _ = some (_, _, (⟨big, Qk (s ++ dirB (Qu d big) big l s.length)⟩ : T_tag_writer))
  unfold dirB
  simp only [List.append_assoc]
end Go.M

/- Files written and checked; the law TagWrites, in plain Lean. Conditions: none. -/
namespace Go.M
open Go.Md Go.Pl
theorem even_eq (p : Nat) (hp : p ≤ 4611686018427387904) : tag_even (p : Int) = some ((ev p : Nat) : Int) := by
 unfold tag_even ev
 have e : ((p : Int)).tmod 2 = ((p % 2 : Nat) : Int) := by rw [Int.tmod_eq_emod_of_nonneg (by omega)]; omega
 rw [gRem_ok (by omega), Je, e, J4 (by omega), Je]; rfl
theorem octetsOf_eq {v : T_tag_Value} (hb : vB v) (hok : okV v) (h13 : v.Kind ≠ 13) (big : Bool) : Vi v = some ((V4 big v).length : Int) := by
 unfold Vi
 have h1 := octS_le big v
 have h2 := octS_len big hok h13
 obtain ⟨b1, b2, b3⟩ := hb
 rw [count_eq ⟨b1, b2, b3⟩, Je, sizeOf_eq, Je, if_neg h13, ← Int.natCast_mul, ← h2, J4 (by omega), Je]
theorem dirEnd_eq (big : Bool) (d : Nat) (l : List T_tag_Entry) (p : Nat) (hok : okD d l) (hz : szD d l ≤ 2000000) (hM : p + (Qu d big l p).length ≤ 1099511627776) :
  tag_dirEnd l (p : Int) = some (((p + (Qu d big l p).length : Nat)) : Int) := by
 unfold tag_dirEnd
 have := fix_ofG (F := fun (self : (List T_tag_Entry × Int) → Option Int) (s : List T_tag_Entry × Int) => Ys self s.1 s.2)
  (fun (g : Nat × Nat) (a : List T_tag_Entry × Int) => some (((g.2 + (Qu g.1 big a.1 g.2).length : Nat)) : Int))
  (fun g a => a.2 = (g.2 : Int) ∧ okD g.1 a.1 ∧ szD g.1 a.1 ≤ 2000000 ∧ g.2 + (Qu g.1 big a.1 g.2).length ≤ 1099511627776) (fun g => g.1) ?_ (d, p) (l, (p : Int)) ⟨rfl, hok, hz, hM⟩
 ·exact this
 rintro next ⟨d, p⟩ ⟨l, a⟩ ⟨hw, hok, hz, hM⟩ ih
 simp only at hw hok hz hM ih ⊢
 subst hw
 cases d with
 | zero => exact hok.elim
 | succ d =>
  obtain ⟨hl, hall⟩ := hok
  have hM' := dirB_len (Qu d big) big l p
  have hMM : p + (dirB (Qu d big) big l p).length ≤ 1099511627776 := hM
  unfold Ys
  rw [even_eq p (by omega), Je, J4 (by omega), Je, J4 (by omega), Je, J4 (by omega), Je, J4 (by omega), Je]
  have key : ∀ (l2 : List T_tag_Entry) (i q : Nat), i + l2.length = l.length → l.drop i = l2 → q + (W2 (Qu d big) big l2 q).2.length ≤ 1099511627776 → V0 (fun next1 s => Yi l next next1 s.1 s.2) ((q : Int), (i : Int)) = some (((q + (W2 (Qu d big) big l2 q).2.length : Nat)) : Int) := by
   intro l2
   induction l2 with
   | nil =>
    intro i q hi _ _
    refine Qm fun nx => ?_
    show Yi l next nx (q : Int) (i : Int) = _
    unfold Yi
    rw [cI, if_neg (by rw [List.length_nil] at hi; omega)]
    rfl
   | cons e l2 ih2 =>
    intro i q hi hd hq
    have hlt : i < l.length := by rw [List.length_cons] at hi; omega
    have he : l[i] = e := by have := List.drop_eq_getElem_cons hlt; rw [hd] at this; injection this with h1 h2; exact h1.symm
    have hd' : l.drop (i + 1) = l2 := by have := List.drop_eq_getElem_cons hlt; rw [hd] at this; injection this with h1 h2; exact h2.symm
    have hmem : e ∈ l := he ▸ List.getElem_mem hlt
    have hvb := (vB_of hz hmem).1
    have hok := (hall e hmem).1
    rw [List.length_cons] at hi
    unfold W2 at hq ⊢
    simp only at hq ⊢
    generalize hF : W4 (Qu d big) big e q = F at hq ⊢
    obtain ⟨f, b⟩ := F
    simp only at hq ⊢
    rw [List.length_append] at hq ⊢
    have hround : ∀ nx : Int × Int → Option Int, Yi l next nx (q : Int) (i : Int) = nx (((q + b.length : Nat) : Int), ((i + 1 : Nat) : Int)) := fun nx => by
     unfold Yi
     have e2 : ∀ x, Z4 (i : Int) nx x = nx (x, ((i + 1 : Nat) : Int)) := fun x => by
      unfold Z4; rw [J4 (by omega), Je]; rfl
     rw [cI, if_pos (by omega), Yk hlt, Je, he, cI]
     unfold W4 at hF
     by_cases h13 : e.Value.Kind = 13
     ·rw [if_pos h13] at hF ⊢
      obtain ⟨_, hF2⟩ := Prod.mk.inj hF
      have := ih (d, q) (e.Value.Entries, (q : Int)) ⟨rfl, (hall e hmem).2 h13, (vB_of hz hmem).2, by show q + (Qu d big e.Value.Entries q).length ≤ _; rw [hF2]; omega⟩ (by simp)
      rw [this, Je, e2]
      show nx (((q + (Qu d big e.Value.Entries q).length : Nat) : Int), _) = _
      rw [hF2]
     ·rw [if_neg h13] at hF ⊢
      rw [octetsOf_eq hvb hok h13 big, Je, cI, e2]
      by_cases ho : (V4 big e.Value).length ≤ 4
      ·rw [if_pos ho] at hF
       obtain ⟨_, hF2⟩ := Prod.mk.inj hF
       rw [if_neg (by omega), ← hF2]; rfl
      ·rw [if_neg ho] at hF
       obtain ⟨_, hF2⟩ := Prod.mk.inj hF
       have hbl : b.length = q % 2 + (V4 big e.Value).length := by rw [← hF2, List.length_append, Uu]
       rw [if_pos (by omega), even_eq q (by omega), Je, Je, J4 (by unfold ev; omega), Je, e2, hbl]
       congr 2
       unfold ev; omega
    rw [Qw _ hround, ih2 (i + 1) (q + b.length) (by omega) hd' (by omega)]
    congr 2
    omega
  have := key l 0 (ev p + 2 + 12 * l.length + 4) (by omega) rfl (by omega)
  have e0 : ((ev p : Nat) : Int) + 2 + 12 * (l.length : Int) + 4 = ((ev p + 2 + 12 * l.length + 4 : Nat) : Int) := by omega
  rw [e0]
  refine this.trans ?_
  rw [← hM']
  rfl
noncomputable def filS (big : Bool) : List (List T_tag_Entry) → List UInt8 → Nat → List UInt8
 | [], s, _ => s
 | l :: ls, s, link => filS big ls (put (s ++ Qu 5 big l s.length) link (Xl big ((ev s.length : Nat) : Int) 4)) (ev s.length + 2 + 12 * l.length)
noncomputable def lenF (big : Bool) : List (List T_tag_Entry) → Nat → Nat
 | [], p => p
 | l :: ls, p => lenF big ls (p + (Qu 5 big l p).length)
def szL : List (List T_tag_Entry) → Nat
 | [] => 0
 | l :: ls => 8 + 32 * szD 5 l + szL ls
def dirsOk (ls : List (List T_tag_Entry)) : Prop := ∀ l ∈ ls, okD 5 l ∧ szD 5 l ≤ 2000000
theorem dir5_len {big : Bool} {l : List T_tag_Entry} {p : Nat} : ev p + 2 + 12 * l.length + 4 ≤ p + (Qu 5 big l p).length := by
 have := dirB_len (Qu 4 big) big l p
 show _ ≤ p + (dirB (Qu 4 big) big l p).length
 omega
theorem filS_len (big : Bool) : ∀ (ls : List (List T_tag_Entry)) (s : List UInt8) (link : Nat), link + 4 ≤ s.length → (filS big ls s link).length = lenF big ls s.length
 | [], _, _, _ => rfl
 | l :: ls, s, link, h => by
  unfold filS lenF
  have h5 := dir5_len (big := big) (l := l) (p := s.length)
  have hp : (put (s ++ Qu 5 big l s.length) link (Xl big ((ev s.length : Nat) : Int) 4)).length = s.length + (Qu 5 big l s.length).length := by
   rw [put_len (by rw [Qh _ _ (by omega), List.length_append]; omega), List.length_append]
  rw [filS_len big ls _ _ (by rw [hp]; omega), hp]
theorem oct_loop (f : T_tag_File) (hok : dirsOk f.Dirs) (hn : f.Dirs.length ≤ 20) : ∀ (ls : List (List T_tag_Entry)) (i : Nat) (s : List UInt8) (link : Nat), i + ls.length = f.Dirs.length → f.Dirs.drop i = ls → link + 4 ≤ s.length → s.length + szL ls ≤ 549755813888 →
  V0 (fun next3 a => X5 f next3 a.1 a.2.1 a.2.2.1 a.2.2.2) ((link : Int), (i : Int), f.Big, Qk s) = some (filS f.Big ls s link) := by
 intro ls
 induction ls with
 | nil =>
  intro i s link hi _ _ _
  rw [List.length_nil] at hi
  refine Qm fun next => ?_
  ·show X5 f next _ (i : Int) f.Big (Qk s) = _
   unfold X5
   rw [cI, if_neg (by omega)]
   unfold Wv filS
   rw [toStr_ofStr]
 | cons l ls ih =>
  intro i s link hi hd hlk hsz
  rw [List.length_cons] at hi
  have hlt : i < f.Dirs.length := by omega
  have he : f.Dirs[i] = l := by have := List.drop_eq_getElem_cons hlt; rw [hd] at this; injection this with h1 h2; exact h1.symm
  have hd' : f.Dirs.drop (i + 1) = ls := by have := List.drop_eq_getElem_cons hlt; rw [hd] at this; injection this with h1 h2; exact h2.symm
  obtain ⟨o1, o2⟩ := hok l (he ▸ List.getElem_mem hlt)
  unfold szL at hsz
  have hle := dirS_le f.Big 5 l s.length
  have h5 := dir5_len (big := f.Big) (l := l) (p := s.length)
  have hl200 : l.length ≤ 200 := o1.1
  have hp : (put (s ++ Qu 5 f.Big l s.length) link (Xl f.Big ((ev s.length : Nat) : Int) 4)).length = s.length + (Qu 5 f.Big l s.length).length := by
   rw [put_len (by rw [Qh _ _ (by omega), List.length_append]; omega), List.length_append]
  have a2 := ih (i + 1) (put (s ++ Qu 5 f.Big l s.length) link (Xl f.Big ((ev s.length : Nat) : Int) 4)) (ev s.length + 2 + 12 * l.length) (by omega) hd' (by rw [hp]; omega) (by rw [hp]; omega)
  have hev : ev s.length ≤ s.length + 1 := by unfold ev; omega
  ·refine Eq.trans (Qw _ fun next => ?_) a2
   show X5 f next (link : Int) (i : Int) f.Big (Qk s) = _
   unfold X5
   rw [cI, if_pos (by omega), Yk hlt, Je, he, dir_eq 5 f.Big s l o1 o2 (by omega), Je]
   show J8 (Zq ⟨f.Big, Qk (s ++ Qu 5 f.Big l s.length)⟩ _ _) _ = _
   rw [set_eq4 (p := link) rfl (by rw [List.length_append]; omega), Je, J4 (by omega), Je]
   rfl
noncomputable def headS (big : Bool) : List UInt8 := (if big then [77, 77] else [73, 73]) ++ Xl big 42 2 ++ zer 4
theorem Vd (big : Bool) : (headS big).length = 8 := by
 unfold headS
 rw [List.length_append, List.length_append, Qh _ _ (by omega), Z7]
 cases big <;> rfl
noncomputable def Ul (f : T_tag_File) : List UInt8 := filS f.Big f.Dirs (headS f.Big) 4
theorem octF_len (f : T_tag_File) : (Ul f).length = lenF f.Big f.Dirs 8 := by
 unfold Ul; rw [filS_len _ _ _ _ (by rw [Vd]; omega), Vd]
theorem written_eq {f : T_tag_File} (hok : dirsOk f.Dirs) (hn : f.Dirs.length ≤ 20) (hsz : szL f.Dirs ≤ 274877906944) : tag_written f = some (Ul f) := by
 have key : ∀ m : List UInt8, m.length = 2 → m ++ Xl f.Big 42 2 ++ zer 4 = headS f.Big → Vb f (Qk m) = some (Ul f) := fun m hm hh => by
  unfold Vb
  have l2 : (Qk (Xl f.Big 42 2)).length = 2 := by rw [Qs, Qh _ _ (by omega)]
  rw [tag2, Je, gApN_ok (by rw [l2, Qs, hm]; omega), Je, Yf (by rw [List.length_append, l2, Qs, hm]; simp), Je, ← Y9, ← ofStr_zer4, ← Y9, hh, Qs, List.length_append, hm, Qh _ _ (by omega)]
  exact (oct_loop f hok hn f.Dirs 0 (headS f.Big) 4 (by omega) rfl (by rw [Vd]; omega) (by rw [Vd]; omega))
 unfold tag_written
 cases h : f.Big
 ·rw [Xi, show ([73, 73] : List Int) = Qk [73, 73] from rfl, key [73, 73] rfl (by rw [h]; rfl)]
 ·rw [Y3, show ([77, 77] : List Int) = Qk [77, 77] from rfl, key [77, 77] rfl (by rw [h]; rfl)]
theorem size_eq {f : T_tag_File} (hok : dirsOk f.Dirs) (hn : f.Dirs.length ≤ 20) (hsz : szL f.Dirs ≤ 274877906944) : tag_size f = some ((Ul f).length : Int) := by
 rw [octF_len]
 unfold tag_size
 have key : ∀ (ls : List (List T_tag_Entry)) (i p : Nat), i + ls.length = f.Dirs.length → f.Dirs.drop i = ls → p + szL ls ≤ 549755813888 → V0 (fun next1 s => Zg f next1 s.1 s.2) ((p : Int), (i : Int)) = some (lenF f.Big ls p : Int) := by
  intro ls
  induction ls with
  | nil =>
   intro i p hi _ _
   rw [List.length_nil] at hi
   refine Qm fun next => ?_
   show Zg f next (p : Int) (i : Int) = _
   unfold Zg
   rw [cI, if_neg (by omega)]; rfl
  | cons l ls ih =>
   intro i p hi hd hs
   rw [List.length_cons] at hi
   have hlt : i < f.Dirs.length := by omega
   have he : f.Dirs[i] = l := by have := List.drop_eq_getElem_cons hlt; rw [hd] at this; injection this with h1 h2; exact h1.symm
   have hd' : f.Dirs.drop (i + 1) = ls := by have := List.drop_eq_getElem_cons hlt; rw [hd] at this; injection this with h1 h2; exact h2.symm
   obtain ⟨o1, o2⟩ := hok l (he ▸ List.getElem_mem hlt)
   unfold szL at hs
   have hle := dirS_le f.Big 5 l p
   refine Eq.trans (Qw (((p + (Qu 5 f.Big l p).length : Nat) : Int), ((i + 1 : Nat) : Int)) fun next => ?_) (ih (i + 1) (p + (Qu 5 f.Big l p).length) (by omega) hd' (by omega))
   show Zg f next (p : Int) (i : Int) = _
   unfold Zg
   rw [cI, if_pos (by omega), Yk hlt, Je, he, dirEnd_eq f.Big 5 l p o1 o2 (by omega), Je, J4 (by omega), Je]
   rfl
 exact key f.Dirs 0 8 (by omega) rfl (by omega)
noncomputable def Vv : List (List T_tag_Entry) → Int
 | [] => 0
 | l :: ls => if dE 5 l ≠ 0 then dE 5 l else Vv ls
theorem firstD_ok : ∀ {ls : List (List T_tag_Entry)}, Vv ls = 0 → ∀ l ∈ ls, dE 5 l = 0
 | [], _, l, hl => by cases hl
 | x :: ls, h, l, hl => by
  unfold Vv at h
  split at h
  ·rename_i h1; exact absurd h h1
  ·rename_i h1
   rcases List.mem_cons.1 hl with h' | h'
   ·subst h'; simpa using h1
   ·exact firstD_ok h l h'
theorem scan_dirs {F : (Int → Option Int) → Int → Option Int} (ls : List (List T_tag_Entry)) (o : Option Int) (more : ∀ (next : Int → Option Int) (k : Nat) (hk : k < ls.length), F next (k : Int) = if dE 5 ls[k] ≠ 0 then some (dE 5 ls[k]) else next ((k : Int) + 1)) (stop : Vv ls = 0 → ∀ next, F next (ls.length : Int) = o) :
  V0 F 0 = if Vv ls ≠ 0 then some (Vv ls) else o := by
 have key : ∀ m i : Nat, i + m = ls.length → (Vv ls = Vv (ls.drop i)) → V0 F (i : Int) = if Vv ls ≠ 0 then some (Vv ls) else o := by
  intro m
  induction m with
  | zero =>
   intro i hi hf
   have : i = ls.length := by omega
   subst this
   rw [List.drop_length] at hf
   have h0 : Vv ls = 0 := hf
   rw [if_neg (by simpa using h0)]
   exact Qm (stop h0)
  | succ m ih =>
   intro i hi hf
   have hlt : i < ls.length := by omega
   rw [List.drop_eq_getElem_cons hlt] at hf
   unfold Vv at hf
   by_cases h : dE 5 ls[i] ≠ 0
   ·rw [if_pos h] at hf
    have : V0 F (i : Int) = some (dE 5 ls[i]) := Qm fun next => by rw [more next i hlt, if_pos h]
    have hf' : Vv ls = dE 5 ls[i] := by unfold Vv; exact hf
    rw [this, hf', if_pos h]
   ·rw [if_neg h] at hf
    rw [Qw ((i : Int) + 1) (fun next => by rw [more next i hlt, if_neg h])]
    exact ih (i + 1) (by omega) (by conv => lhs; unfold Vv
                                    exact hf)
 exact key ls.length 0 (by omega) rfl
def fileB (f : T_tag_File) : Prop := (∀ l ∈ f.Dirs, szD 5 l ≤ 2000000) ∧ szL f.Dirs ≤ 274877906944
noncomputable def fileE (f : T_tag_File) : Int := if 20 < f.Dirs.length then 4 else if Vv f.Dirs ≠ 0 then Vv f.Dirs else if 65000 < (Ul f).length then 4 else 0
theorem dirs_ok {f : T_tag_File} (hb : fileB f) (h : Vv f.Dirs = 0) : dirsOk f.Dirs := fun l hl => ⟨dE_ok (firstD_ok h l hl), hb.1 l hl⟩
theorem Check_eq {f : T_tag_File} (hb : fileB f) : tag_Check f = some (fileE f) := by
 unfold tag_Check fileE
 rw [cI]
 by_cases hn : 20 < f.Dirs.length
 ·rw [if_pos (by omega), if_pos hn]
 rw [if_neg (by omega), if_neg hn]
 rw [scan_dirs (F := fun next2 s => Y2 f next2 s) f.Dirs (some (if 65000 < (Ul f).length then 4 else 0)) (fun next k hk => ?_) (fun h0 next => ?_)]
 ·split <;> rfl
 ·show Y2 f next (k : Int) = _
  unfold Y2
  rw [cI, if_pos (by omega), Yk hk, Je, checkDir_eq 5 _ 1 (by omega) (by omega) (hb.1 _ (List.getElem_mem hk)), Je, cI, J4 (by omega), Je]
 ·show Y2 f next (f.Dirs.length : Int) = _
  unfold Y2
  rw [cI, if_neg (by omega)]
  unfold Ur
  rw [size_eq (dirs_ok hb h0) (by omega) hb.2, Je, cI]
  by_cases h : 65000 < (Ul f).length
  ·rw [if_pos (by omega), if_pos h]
  ·rw [if_neg (by omega), if_neg h]
theorem fileE_zero {f : T_tag_File} (hb : fileB f) (h : fileE f = 0) : dirsOk f.Dirs ∧ f.Dirs.length ≤ 20 := by
 unfold fileE at h
 split at h
 ·omega
 rename_i hn
 split at h
 ·rename_i h1; exact absurd h h1
 ·rename_i h1; exact ⟨dirs_ok hb (by simpa using h1), by omega⟩
theorem szL_eq : ∀ ls : List (List T_tag_Entry), szL ls = 8 * ls.length + 32 * (ls.map (szD 5)).sum
 | [] => rfl
 | l :: ls => by unfold szL; rw [szL_eq ls, List.map_cons, List.sum_cons, List.length_cons]; omega
theorem sz_in {l : List T_tag_Entry} : ∀ {ls : List (List T_tag_Entry)}, l ∈ ls → szD 5 l ≤ (ls.map (szD 5)).sum
 | [], h => by cases h
 | x :: ls, h => by
  rw [List.map_cons, List.sum_cons]
  rcases List.mem_cons.1 h with h | h
  ·subst h; omega
  ·have := sz_in h; omega
theorem fileB_of {f : T_tag_File} (h1 : f.Dirs.length ≤ 1048576) (h2 : (f.Dirs.map (szD 5)).sum ≤ 1048576) : fileB f :=
 ⟨fun l hl => by have := sz_in hl; omega, by rw [szL_eq]; omega⟩
end Go.M

/- Numbers and values read from octets, in plain Lean. Conditions: none. -/
namespace Go.M
open Go.Md Go.Pl
set_option linter.unusedVariables false
def Wu (big : Bool) (bs : List UInt8) : Nat := (if big then bs else bs.reverse).foldl (fun v b => v * 256 + b.toNat) 0
theorem fold_bd : ∀ (L : List UInt8) (v : Nat), L.foldl (fun v b => v * 256 + b.toNat) v < (v + 1) * 256 ^ L.length
 | [], v => by simp
 | b :: L, v => by
  rw [List.foldl_cons, List.length_cons, Nat.pow_succ]
  have h := fold_bd L (v * 256 + b.toNat)
  have hb := b.toNat_lt
  have : (v * 256 + b.toNat + 1) * 256 ^ L.length ≤ ((v + 1) * 256) * 256 ^ L.length := Nat.mul_le_mul_right _ (by omega)
  calc _ < _ := h
   _ ≤ _ := this
   _ = _ := by rw [Nat.mul_assoc, Nat.mul_comm 256]
theorem valB_lt (big : Bool) (bs : List UInt8) : Wu big bs < 256 ^ bs.length := by
 unfold Wu
 have := fold_bd (if big then bs else bs.reverse) 0
 cases big <;> simpa using this
theorem valB4 (big : Bool) {bs : List UInt8} (h : bs.length ≤ 4) : Wu big bs ≤ 4294967295 := by
 have := valB_lt big bs
 have h2 : 256 ^ bs.length ≤ 256 ^ 4 := Nat.pow_le_pow_right (by omega) h
 omega
theorem valB2 (big : Bool) {bs : List UInt8} (h : bs.length ≤ 2) : Wu big bs ≤ 65535 := by
 have := valB_lt big bs
 have h2 : 256 ^ bs.length ≤ 256 ^ 2 := Nat.pow_le_pow_right (by omega) h
 omega
theorem or_byte {v b : Nat} (hv : v ≤ 16777216) (hb : b < 256) : wI64 (bOr 64 ((v : Int) * 256) (b : Int)) = ((v * 256 + b : Nat) : Int) := by
 have e : bOr 64 ((v : Int) * 256) (b : Int) = ((v * 256 + b : Nat) : Int) := by
  unfold bOr
  rw [BitVec.toNat_or, show (v : Int) * 256 = ((v * 256 : Nat) : Int) by omega]
  have h1 : (BitVec.ofInt 64 ((v * 256 : Nat) : Int)).toNat = v * 256 := by rw [BitVec.ofInt_natCast, BitVec.toNat_ofNat, Nat.mod_eq_of_lt (by omega)]
  have h2 : (BitVec.ofInt 64 ((b : Nat) : Int)).toNat = b := by rw [BitVec.ofInt_natCast, BitVec.toNat_ofNat, Nat.mod_eq_of_lt (by omega)]
  rw [h1, h2]
  have := Nat.shiftLeft_add_eq_or_of_lt (i := 8) (b := b) (by omega) v
  rw [Nat.shiftLeft_eq] at this
  rw [← this]
 rw [e]
 unfold wI64; omega
theorem numAt_eq (big : Bool) (s : List UInt8) {a k : Nat} (h : a + k ≤ s.length) (hk : k ≤ 4) (hs : s.length ≤ 65000) : Wa big s (a : Int) (k : Int) = some (Wu big ((s.drop a).take k) : Int) := by
 let L := if big then (s.drop a).take k else ((s.drop a).take k).reverse
 have hL : L.length = k := by
  show (if big then (s.drop a).take k else ((s.drop a).take k).reverse).length = k
  cases big <;> simp <;> omega
 have hi : ∀ i (hik : i < k), ∃ q : Nat, ∃ hq : q < k, q = (if big then i else k - 1 - i) ∧ s[a + q]'(by omega) = L[i]'(by omega) := by
  intro i hik
  cases big
  ·refine ⟨k - 1 - i, by omega, rfl, ?_⟩
   show _ = (((s.drop a).take k).reverse)[i]'_
   rw [List.getElem_reverse, List.getElem_take, List.getElem_drop]
   congr 2; simp; omega
  ·refine ⟨i, by omega, rfl, ?_⟩
   show _ = ((s.drop a).take k)[i]'_
   rw [List.getElem_take, List.getElem_drop]
 have key : ∀ m i v : Nat, i + m = k → v < 256 ^ i → V0 (fun next1 s' => Xw big s a k next1 s'.1 s'.2) ((v : Int), (i : Int)) = some (((L.drop i).foldl (fun v b => v * 256 + b.toNat) v : Nat) : Int) := by
  intro m
  induction m with
  | zero =>
   intro i v him hv
   rw [List.drop_eq_nil_of_le (by omega)]
   refine Qm fun next => ?_
   show Xw big s a k next (v : Int) (i : Int) = _
   unfold Xw
   rw [cI, if_neg (by omega)]; rfl
  | succ m ih =>
   intro i v him hv
   obtain ⟨q, hq, hqe, hsq⟩ := hi i (by omega)
   have hv4 : v < 16777216 := Nat.lt_of_lt_of_le hv (Nat.le_trans (Nat.pow_le_pow_right (by omega) (show i ≤ 3 by omega)) (by decide))
   have hb := (s[a + q]'(by omega)).toNat_lt
   rw [List.drop_eq_getElem_cons (show i < L.length by omega), List.foldl_cons]
   have hlt : v * 256 + (L[i]'(by omega)).toNat < 256 ^ (i + 1) := by
    rw [← hsq, Nat.pow_succ]; omega
   refine Eq.trans (Qw _ fun next => ?_) (ih (i + 1) (v * 256 + (L[i]'(by omega)).toNat) (by omega) hlt)
   show Xw big s a k next (v : Int) (i : Int) = _
   unfold Xw
   rw [cI, if_pos (by omega), J4 (by omega), Je, J4 (by omega), Je]
   have go : ∀ x : Int, x = (q : Int) → Zt s a v i next x = next (((v * 256 + (L[i]'(by omega)).toNat : Nat) : Int), ((i + 1 : Nat) : Int)) := by
    intro x hx
    subst hx
    unfold Zt
    have e8 : (2 : Int) ^ (8 : Int).toNat = 256 := by decide
    have hsh : gShl (v : Int) 8 = some ((v : Int) * 256) := by
     unfold gShl
     rw [if_pos ⟨by decide, by decide⟩, e8]
     exact J4 (by omega)
    rw [hsh, Je, J4 (by omega), Je, show (a : Int) + (q : Int) = ((a + q : Nat) : Int) by omega, gOct_nat (by omega), Je]
    unfold gK
    rw [if_pos (by omega), Je, J4 (by omega), Je, or_byte (by omega) hb, hsq]
    rfl
   cases big
   ·rw [Xi]; exact go _ (by rw [hqe]; simp; omega)
   ·rw [Y3]; exact go _ (by rw [hqe]; simp)
 unfold Wa
 have := key k 0 0 (by omega) (by simp)
 rw [List.drop_zero] at this
 exact this
theorem number_eq (r : T_tag_reader) {a k : Nat} (h : a + k ≤ r.s_.length) (hk : k ≤ 4) (hs : r.s_.length ≤ 65000) : Jn r (a : Int) (k : Int) = some (Wu r.big_ ((r.s_.drop a).take k) : Int) := by
 unfold Jn
 rw [numAt_eq _ _ h hk hs]; rfl
theorem number4 (r : T_tag_reader) {a : Nat} (h : a + 4 ≤ r.s_.length) (hs : r.s_.length ≤ 65000) : Jn r (a : Int) 4 = some (Wu r.big_ ((r.s_.drop a).take 4) : Int) := number_eq (k := 4) r h (by omega) hs
theorem number2 (r : T_tag_reader) {a : Nat} (h : a + 2 ≤ r.s_.length) (hs : r.s_.length ≤ 65000) : Jn r (a : Int) 2 = some (Wu r.big_ ((r.s_.drop a).take 2) : Int) := number_eq (k := 2) r h (by omega) hs
def fl (r : T_tag_reader) (e : Int) : T_tag_reader := if r.no_ = 0 then ⟨r.s_, r.big_, r.parts_, r.seen_, r.dirs_, r.found_, e⟩ else r
theorem Z0 (r : T_tag_reader) (e : Int) : Qj r e = some (fl r e) := by
 unfold Qj fl
 rw [cI]; split <;> rfl
theorem fl_fl (r : T_tag_reader) {e : Int} (h : e ≠ 0) : fl (fl r e) e = fl r e := by
 unfold fl
 by_cases h0 : r.no_ = 0
 ·rw [if_pos h0, if_neg h]
 ·rw [if_neg h0, if_neg h0]
theorem W8 (r : T_tag_reader) {e : Int} (h : e ≠ 0) : (fl r e).no_ ≠ 0 := by
 unfold fl
 split
 ·exact h
 ·assumption
theorem there_eq (r : T_tag_reader) {p n : Nat} (hn : n ≤ 1099511627776) (hs : r.s_.length ≤ 65000) : Zk r (p : Int) (n : Int) = some (decide (8 ≤ p ∧ p + n ≤ r.s_.length)) := by
 unfold Zk
 rw [cI, cI]
 by_cases h1 : 8 ≤ p
 ·rw [if_pos (by omega)]
  by_cases h2 : n ≤ r.s_.length
  ·rw [if_pos (by omega), J4 (by omega), Je]
   congr 1
   rw [decide_eq_decide]; omega
  ·rw [if_neg (by omega)]
   congr 1; symm; rw [decide_eq_false_iff_not]; omega
 ·rw [if_neg (by omega)]
  congr 1; symm; rw [decide_eq_false_iff_not]; omega
def ratR (big : Bool) (b : List UInt8) (i : Nat) : T_tag_Ratio := ⟨(Wu big ((b.drop (8 * i)).take 4) : Nat), (Wu big ((b.drop (8 * i + 4)).take 4) : Nat)⟩
def intR (big : Bool) (k : Int) (b : List UInt8) (i : Nat) : Int := if k = 9 then wI64 (wI32 (Wu big ((b.drop (i * Qe k)).take (Qe k)))) else Wu big ((b.drop (i * Qe k)).take (Qe k))
noncomputable def valT (r : T_tag_reader) (k : Int) (c : Nat) (b : List UInt8) : T_tag_Value × T_tag_reader := open Classical in
 if k = 2 then (if b = [] ∨ b.getLast? ≠ some 0 then (⟨2, [], [], [], []⟩, fl r 1) else (⟨2, b.dropLast, [], [], []⟩, if (0 : UInt8) ∈ b.dropLast then fl r 9 else r))
 else if k = 7 then (⟨7, b, [], [], []⟩, r)
 else if k = 5 then (⟨5, [], [], (List.range c).map (ratR r.big_ b), []⟩, r)
 else (⟨k, [], (List.range c).map (intR r.big_ k b), [], []⟩, r)
noncomputable def valR (r : T_tag_reader) (k : Int) (c a : Nat) : T_tag_Value × T_tag_reader :=
 if 4 < c * Qe k then
  let p := Wu r.big_ ((r.s_.drop a).take 4)
  if 8 ≤ p ∧ p + c * Qe k ≤ r.s_.length then valT ⟨r.s_, r.big_, r.parts_ ++ [⟨(p : Int), ((p + c * Qe k : Nat) : Int)⟩], r.seen_, r.dirs_, r.found_, r.no_⟩ k c ((r.s_.drop p).take (c * Qe k))
  else (⟨0, [], [], [], []⟩, fl r 2)
 else valT r k c ((r.s_.drop a).take (c * Qe k))
theorem ascii_loop (t : List UInt8) (ht : t.length ≤ 65000) : ∀ (m i : Nat) (r : T_tag_reader), i + m = t.length →
  V0 (fun next1 s => Qp t next1 s.1 s.2.1 s.2.2.1 s.2.2.2.1 s.2.2.2.2.1 s.2.2.2.2.2.1 s.2.2.2.2.2.2.1 s.2.2.2.2.2.2.2) ((i : Int), r.s_, r.big_, r.dirs_, r.found_, r.no_, r.parts_, r.seen_) = some (t, open Classical in if (0 : UInt8) ∈ t.drop i then fl r 9 else r) := by
 intro m
 induction m with
 | zero =>
  intro i r hi
  rw [List.drop_eq_nil_of_le (by omega), if_neg (by simp)]
  refine Qm fun next => ?_
  show Qp t next (i : Int) _ _ _ _ _ _ _ = _
  unfold Qp
  rw [cI, if_neg (by omega)]
 | succ m ih =>
  intro i r hi
  have hb := (t[i]'(by omega)).toNat_lt
  rw [List.drop_eq_getElem_cons (show i < t.length by omega)]
  by_cases h0 : t[i]'(by omega) = 0
  ·have e : (open Classical in if (0 : UInt8) ∈ t[i]'(by omega) :: t.drop (i + 1) then fl r 9 else r) = (open Classical in if (0 : UInt8) ∈ t.drop (i + 1) then fl (fl r 9) 9 else fl r 9) := by
    rw [if_pos (by rw [h0]; simp), fl_fl _ (by decide)]; split <;> rfl
   rw [e]
   refine Eq.trans (Qw _ fun next => ?_) (ih (i + 1) (fl r 9) (by omega))
   show Qp t next (i : Int) _ _ _ _ _ _ _ = _
   unfold Qp
   rw [cI, if_pos (by omega), gOct_nat (by omega), Je, cI, if_pos (by rw [h0]; rfl), Z0, Je]
   unfold Yn
   rw [J4 (by omega), Je]; rfl
  ·have e : (open Classical in if (0 : UInt8) ∈ t[i]'(by omega) :: t.drop (i + 1) then fl r 9 else r) = (open Classical in if (0 : UInt8) ∈ t.drop (i + 1) then fl r 9 else r) := by
    simp only [List.mem_cons, show (0 : UInt8) = t[i]'(by omega) ↔ False from ⟨fun e => h0 e.symm, False.elim⟩, false_or]
   rw [e]
   refine Eq.trans (Qw _ fun next => ?_) (ih (i + 1) r (by omega))
   show Qp t next (i : Int) _ _ _ _ _ _ _ = _
   unfold Qp
   rw [cI, if_pos (by omega), gOct_nat (by omega), Je, cI, if_neg (fun e => h0 (UInt8.toNat_inj.1 (by have : ((t[i]'(by omega)).toNat : Int) = 0 := e; show _ = 0; omega)))]
   unfold Yn
   rw [J4 (by omega), Je]; rfl
theorem ascii_eq (r : T_tag_reader) (t : List UInt8) (ht : t.length ≤ 65000) : V6 r t = some (open Classical in if t = [] ∨ t.getLast? ≠ some 0 then ([], fl r 1) else (t.dropLast, if (0 : UInt8) ∈ t.dropLast then fl r 9 else r)) := by
 unfold V6
 rw [cI]
 by_cases h : t = []
 ·rw [if_pos h, if_pos (.inl h), Z0]; rfl
 ·have hl : 0 < t.length := List.length_pos_iff.2 h
  have hg : t.getLast? = some (t[t.length - 1]'(by omega)) := by rw [List.getLast?_eq_getElem?, List.getElem?_eq_getElem (by omega)]
  rw [if_neg h, J4 (by omega), Je, show (t.length : Int) - 1 = ((t.length - 1 : Nat) : Int) by omega, gOct_nat (by omega), Je, cI]
  by_cases h0 : t[t.length - 1]'(by omega) = 0
  ·rw [if_neg (by rw [h0]; decide), if_neg (by rw [hg, h0]; simp [h]), Je, gCut_to (by omega), Je, Int.toNat_natCast, ← List.dropLast_eq_take]
   have := ascii_loop t.dropLast (by rw [List.length_dropLast]; omega) t.dropLast.length 0 r (by omega)
   rw [List.drop_zero] at this
   exact this
  ·rw [if_pos (fun e => h0 (UInt8.toNat_inj.1 (by have : ((t[t.length - 1]'(by omega)).toNat : Int) = 0 := e; show _ = 0; omega))), if_pos (.inr (by rw [hg]; simpa using h0)), Z0]; rfl
theorem drop_in (s : List UInt8) {p n o k : Nat} (h : o + k ≤ n) : ((s.drop p).take n |>.drop o).take k = (s.drop (p + o)).take k := by
 rw [List.drop_take, List.take_take, List.drop_drop, Nat.min_eq_left (by omega)]
theorem wide_pos {k : Int} (h : Qe k ≠ 0) (h2 : k ≠ 2) (h7 : k ≠ 7) (h5 : k ≠ 5) : Qe k ≤ 4 ∧ 1 ≤ Qe k := by
 refine ⟨?_, by omega⟩
 unfold Qe
 (repeat' split) <;> omega
theorem value_j1 (r : T_tag_reader) {k : Int} {c p : Nat} (parts : List T_tag_Span) (hw : Qe k ≠ 0) (h13 : k ≠ 13) (hp : p + c * Qe k ≤ r.s_.length) (hs : r.s_.length ≤ 65000) :
  Yp r k (c : Int) ((c * Qe k : Nat) : Int) (p : Int) parts = some (valT ⟨r.s_, r.big_, parts, r.seen_, r.dirs_, r.found_, r.no_⟩ k c ((r.s_.drop p).take (c * Qe k))) := by
 have hcw : c ≤ c * Qe k := Nat.le_mul_of_pos_right _ (by omega)
 unfold Yp valT
 rw [cI, cI, cI]
 by_cases h2 : k = 2
 ·rw [if_pos h2, if_pos h2, J4 (by omega), Je, gCut_ok (by omega), Je, show ((p : Int) + ((c * Qe k : Nat) : Int)).toNat - (p : Int).toNat = c * Qe k by omega, Int.toNat_natCast, ascii_eq _ _ (by rw [List.length_take, List.length_drop]; omega), Je, h2]
  split <;> rfl
 rw [if_neg h2, if_neg h2]
 by_cases h7 : k = 7
 ·rw [if_pos h7, if_pos h7, J4 (by omega), Je, gCut_ok (by omega), Je, show ((p : Int) + ((c * Qe k : Nat) : Int)).toNat - (p : Int).toNat = c * Qe k by omega, Int.toNat_natCast, h7]
  rfl
 rw [if_neg h7, if_neg h7]
 by_cases h5 : k = 5
 ·rw [if_pos h5, if_pos h5]
  have hw8 : Qe k = 8 := by rw [h5]; rfl
  rw [hw8] at hp ⊢
  have := fix_list (F := fun next3 s => Q0 r k (c : Int) (p : Int) parts next3 s.1 s.2) (List.range c) (fun l i => l ++ [ratR r.big_ ((r.s_.drop p).take (c * 8)) i]) (fun l => some ((⟨k, [], [], l, []⟩ : T_tag_Value), (⟨r.s_, r.big_, parts, r.seen_, r.dirs_, r.found_, r.no_⟩ : T_tag_reader))) (fun i l => l.length = i)
   (fun next i l hi hl => by
    have hic : i < c := by rw [List.length_range] at hi; exact hi
    refine ⟨?_, by rw [List.length_append, hl]; rfl⟩
    rw [List.getElem_range]
    show Q0 r k (c : Int) (p : Int) parts next (i : Int) l = _
    unfold Q0
    rw [cI, if_pos (by omega), J4 (by omega), Je, J4 (by omega), Je, show (p : Int) + 8 * (i : Int) = ((p + 8 * i : Nat) : Int) by omega, number4 ⟨r.s_, r.big_, parts, r.seen_, r.dirs_, r.found_, r.no_⟩ (by show _ ≤ r.s_.length; omega) hs, Je, Je, J4 (by omega), Je, J4 (by omega), Je]
    rw [show (p : Int) + 8 * (i : Int) + 4 = ((p + (8 * i + 4) : Nat) : Int) by omega, number4 ⟨r.s_, r.big_, parts, r.seen_, r.dirs_, r.found_, r.no_⟩ (by show _ ≤ r.s_.length; omega) hs, Je, Yf (by rw [hl]; simp; omega), Je, J4 (by omega), Je]
    unfold ratR
    rw [drop_in _ (by omega), drop_in _ (by omega)])
   (fun next l hl => by
    rw [List.length_range]
    show Q0 r k (c : Int) (p : Int) parts next (c : Int) l = _
    unfold Q0
    rw [cI, if_neg (by omega)]; rfl) [] rfl
  rw [foldl_app] at this
  rw [this, h5]; rfl
 ·rw [if_neg h5, if_neg h5]
  obtain ⟨w4, w1⟩ := wide_pos hw h2 h7 h5
  have := fix_list (F := fun next4 s => Q1 r k (c : Int) (p : Int) parts next4 s.1 s.2) (List.range c) (fun l i => l ++ [intR r.big_ k ((r.s_.drop p).take (c * Qe k)) i]) (fun l => some ((⟨k, [], l, [], []⟩ : T_tag_Value), (⟨r.s_, r.big_, parts, r.seen_, r.dirs_, r.found_, r.no_⟩ : T_tag_reader))) (fun i l => l.length = i)
   (fun next i l hi hl => by
    have hic : i < c := by rw [List.length_range] at hi; exact hi
    have hiw : i * Qe k + Qe k ≤ c * Qe k := by
     have := Nat.mul_le_mul_right (Qe k) (show i + 1 ≤ c by omega)
     rw [Nat.add_mul] at this; omega
    refine ⟨?_, by rw [List.length_append, hl]; rfl⟩
    rw [List.getElem_range]
    show Q1 r k (c : Int) (p : Int) parts next (i : Int) l = _
    unfold Q1
    have esz : Yy k = some ((Qe k : Nat) : Int) := by rw [sizeOf_eq, if_neg h13]
    rw [cI, if_pos (by omega), esz, Je, show (i : Int) * ((Qe k : Nat) : Int) = ((i * Qe k : Nat) : Int) by rw [Int.natCast_mul], J4 (by omega), Je, J4 (by omega), Je, Je,
     show (p : Int) + ((i * Qe k : Nat) : Int) = ((p + i * Qe k : Nat) : Int) by omega, number_eq ⟨r.s_, r.big_, parts, r.seen_, r.dirs_, r.found_, r.no_⟩ (by show _ ≤ r.s_.length; omega) w4 hs, Je, cI]
    have go : ∀ x : Int, x = intR r.big_ k ((r.s_.drop p).take (c * Qe k)) i → Yo (i : Int) l next x = next ((i : Int) + 1, l ++ [intR r.big_ k ((r.s_.drop p).take (c * Qe k)) i]) := by
     intro x hx
     unfold Yo
     rw [Yf (by rw [hl]; simp; omega), Je, J4 (by omega), Je, hx]
    have hd : ((r.s_.drop p).take (c * Qe k) |>.drop (i * Qe k)).take (Qe k) = (r.s_.drop (p + i * Qe k)).take (Qe k) := drop_in _ hiw
    by_cases h9 : k = 9
    ·rw [if_pos h9]; exact go _ (by unfold intR; rw [if_pos h9, hd])
    ·rw [if_neg h9]; exact go _ (by unfold intR; rw [if_neg h9, hd]))
   (fun next l hl => by
    rw [List.length_range]
    show Q1 r k (c : Int) (p : Int) parts next (c : Int) l = _
    unfold Q1
    rw [cI, if_neg (by omega)]; rfl) [] rfl
  rw [foldl_app] at this
  rw [this]; rfl
theorem value_eq (r : T_tag_reader) {k : Int} {c a : Nat} (hw : Qe k ≠ 0) (h13 : k ≠ 13) (hc : c ≤ 4294967295) (ha : a + 4 ≤ r.s_.length) (hs : r.s_.length ≤ 65000) (hp : r.parts_.length ≤ 8000000000000) :
  V8 r k (c : Int) (a : Int) = some (valR r k c a) := by
 have hcw : c * Qe k ≤ 4294967295 * 8 := Nat.mul_le_mul hc (Ui k)
 unfold V8 valR
 rw [sizeOf_eq, if_neg h13, Je, show (c : Int) * ((Qe k : Nat) : Int) = ((c * Qe k : Nat) : Int) by rw [Int.natCast_mul], J4 (by omega), Je, cI]
 by_cases h4 : 4 < c * Qe k
 ·rw [if_pos (by omega), if_pos h4, number4 _ ha hs, Je, there_eq _ (by omega) hs, Je]
  have hv := valB4 r.big_ (bs := (r.s_.drop a).take 4) (by rw [List.length_take]; omega)
  by_cases ht : 8 ≤ Wu r.big_ ((r.s_.drop a).take 4) ∧ Wu r.big_ ((r.s_.drop a).take 4) + c * Qe k ≤ r.s_.length
  ·rw [decide_eq_true ht, Bool.not_true, Xi, J4 (by omega), Je, Yf (by simp; omega), Je, value_j1 r _ hw h13 ht.2 hs]
   simp only [if_pos ht]
   rfl
  ·rw [decide_eq_false ht, Bool.not_false, Y3, Z0, Je]
   simp only [if_neg ht]
 ·rw [if_neg (by omega), if_neg h4, value_j1 r _ hw h13 (by omega) hs]
end Go.M

/- Directories read from octets, in plain Lean. Conditions: none. -/
namespace Go.M
open Go.Md Go.Pl
set_option linter.unusedVariables false
abbrev Vq := (T_tag_reader × Int × (List Int)) → Option ((List T_tag_Entry) × Int × T_tag_reader)
abbrev Qi (r : T_tag_reader) (a k : Nat) : Nat := Wu r.big_ ((r.s_.drop a).take k)
theorem n2 (r : T_tag_reader) {a : Nat} (h : a + 2 ≤ r.s_.length) (hs : r.s_.length ≤ 65000) : Jn r (a : Int) 2 = some (Qi r a 2 : Int) := number2 r h hs
theorem n4 (r : T_tag_reader) {a : Nat} (h : a + 4 ≤ r.s_.length) (hs : r.s_.length ≤ 65000) : Jn r (a : Int) 4 = some (Qi r a 4 : Int) := number4 r h hs
theorem v4 (r : T_tag_reader) (a : Nat) : Qi r a 4 ≤ 4294967295 := valB4 _ (by rw [List.length_take]; omega)
theorem v2 (r : T_tag_reader) (a : Nat) : Qi r a 2 ≤ 65535 := valB2 _ (by rw [List.length_take]; omega)
theorem found_ok {f : Nat} (h : f ≤ 1) : ∃ g, mft121 f = some g ∧ ∀ l a, g l a = some () := by
 match f, h with
 | 0, _ => exact ⟨_, rfl, fun _ _ => rfl⟩
 | 1, _ => exact ⟨_, rfl, fun _ _ => rfl⟩
theorem clone_eq {l : List Int} (h : l.length ≤ 1000) : Vf l = some l := by
 unfold Vf
 rw [Yf (by simp; omega), Je]; simp
theorem pack_eq (t : Int) (v : T_tag_Value) (r : T_tag_reader) : X1 t v.Kind v.Text v.Ints v.Ratios v.Entries r.s_ r.big_ r.dirs_ r.found_ r.no_ r.parts_ r.seen_ = some (⟨t, v⟩, r) := by cases v; cases r; rfl
noncomputable def entR (self : Vq) (r : T_tag_reader) (a : Nat) (path : List Int) : Option (T_tag_Entry × T_tag_reader) :=
 if (Qi r (a + 2) 2 : Int) = 13 then
  (if Qi r (a + 4) 4 = 1 then J8 (self (r, (Qi r (a + 8) 4 : Int), path ++ [(Qi r a 2 : Int)])) fun t => some ((⟨(Qi r a 2 : Int), ⟨13, [], [], [], t.1⟩⟩ : T_tag_Entry), t.2.2)
   else some (⟨(Qi r a 2 : Int), ⟨13, [], [], [], []⟩⟩, fl r 1))
 else if Qe (Qi r (a + 2) 2 : Int) = 0 then some (⟨(Qi r a 2 : Int), ⟨(Qi r (a + 2) 2 : Int), [], [], [], []⟩⟩, fl r 10)
 else some (⟨(Qi r a 2 : Int), (valR r (Qi r (a + 2) 2 : Int) (Qi r (a + 4) 4) (a + 8)).1⟩, (valR r (Qi r (a + 2) 2 : Int) (Qi r (a + 4) 4) (a + 8)).2)
theorem entry_eq (self : Vq) (r : T_tag_reader) {a : Nat} {path : List Int} (ha : a + 12 ≤ r.s_.length) (hs : r.s_.length ≤ 65000) (hp : r.parts_.length ≤ 8000000000000) (hf : r.found_ ≤ 1) (hl : path.length ≤ 100) :
  Qy self r (a : Int) path = entR self r a path := by
 obtain ⟨g, hg, hg2⟩ := found_ok hf
 unfold Qy entR
 rw [n2 _ (by omega) hs, Je, J4 (by omega), Je, show (a : Int) + 2 = ((a + 2 : Nat) : Int) by omega, n2 _ (by omega) hs, Je, J4 (by omega), Je, show (a : Int) + 4 = ((a + 4 : Nat) : Int) by omega, n4 _ (by omega) hs, Je, clone_eq (by omega), Je, Yf (by simp; omega), Je]
 unfold gFn
 rw [hg, Je, hg2, Je, sizeOf_eq, Je, cI, cI]
 have h8 : (a : Int) + 8 = ((a + 8 : Nat) : Int) := by omega
 have hc4 := v4 r (a + 4)
 by_cases h13 : (Qi r (a + 2) 2 : Int) = 13
 ·rw [if_pos h13, if_pos h13, if_neg (by decide), if_pos h13]
  unfold X0
  rw [cI]
  by_cases h1 : Qi r (a + 4) 4 = 1
  ·rw [if_neg (by omega), if_pos h1, cI, if_pos h13, J4 (by omega), Je, h8, n4 _ (by omega) hs, Je]
   refine Vu fun t _ => ?_
   rw [h13]; rfl
  ·rw [if_pos (by omega), if_neg h1, Z0, Je, h13]; rfl
 ·rw [if_neg h13, if_neg h13, if_neg h13]
  by_cases h0 : Qe (Qi r (a + 2) 2 : Int) = 0
  ·rw [if_pos (by omega), if_pos h0, Z0, Je]; rfl
  ·rw [if_neg (by omega), if_neg h0]
   unfold X0
   rw [Xi, cI, if_neg h13, J4 (by omega), Je, h8, value_eq _ h0 h13 hc4 (by omega) hs hp, Je, pack_eq]
noncomputable def dirLoop (self : Vq) (path : List Int) (pl nxt cnt i : Nat) (r : T_tag_reader) (l : List T_tag_Entry) : Option ((List T_tag_Entry) × Int × T_tag_reader) :=
 V0 (fun next4 s => Qg path self next4 s.1 s.2.1 s.2.2.1 s.2.2.2.1 s.2.2.2.2.1 s.2.2.2.2.2.1 s.2.2.2.2.2.2.1 s.2.2.2.2.2.2.2.1 s.2.2.2.2.2.2.2.2.1 s.2.2.2.2.2.2.2.2.2.1 s.2.2.2.2.2.2.2.2.2.2.1 s.2.2.2.2.2.2.2.2.2.2.2) ((pl : Int), (nxt : Int), (cnt : Int), (i : Int), r.s_, r.big_, r.dirs_, r.found_, r.no_, r.parts_, r.seen_, l)
theorem loop_end (self : Vq) (path : List Int) (pl nxt cnt i : Nat) (r : T_tag_reader) (l : List T_tag_Entry) (h : cnt ≤ i ∨ r.no_ ≠ 0) : dirLoop self path pl nxt cnt i r l = some (l, (nxt : Int), r) := by
 refine Qm fun next => ?_
 show Qg path self next (pl : Int) (nxt : Int) (cnt : Int) (i : Int) _ _ _ _ _ _ _ l = _
 unfold Qg
 rw [cI]
 by_cases h1 : cnt ≤ i
 ·rw [if_neg (by omega)]; rfl
 ·rw [if_pos (by omega), cI, if_neg (show ¬ r.no_ = 0 from h.resolve_left h1)]; rfl
theorem loop_low (self : Vq) (path : List Int) (pl nxt cnt i : Nat) (r : T_tag_reader) (l : List T_tag_Entry) (hi : i < cnt) (hno : r.no_ = 0) (h0 : 0 < i) (hl : i ≤ l.length) (ha : pl + 2 + 12 * cnt ≤ r.s_.length) (hs : r.s_.length ≤ 65000)
  (hlow : (Qi r (pl + 2 + 12 * i) 2 : Int) ≤ (l[i - 1]'(by omega)).Tag) : dirLoop self path pl nxt cnt i r l = some (l, (nxt : Int), fl r 5) := by
 refine Qm fun next => ?_
 show Qg path self next (pl : Int) (nxt : Int) (cnt : Int) (i : Int) _ _ _ _ _ _ _ l = _
 unfold Qg
 rw [cI, if_pos (by omega), cI, if_pos hno, cI, if_pos (by omega), J4 (by omega), Je, J4 (by omega), Je, J4 (by omega), Je, show (pl : Int) + 2 + 12 * (i : Int) = ((pl + 2 + 12 * i : Nat) : Int) by omega,
  n2 r (by omega) hs, Je, J4 (by omega), Je, show (i : Int) - 1 = ((i - 1 : Nat) : Int) by omega, Yk (by omega), Je, cI, if_pos hlow, Z0 r, Je]
 rfl
theorem loop_next (self : Vq) (path : List Int) (pl nxt cnt i : Nat) (r : T_tag_reader) (l : List T_tag_Entry) (hi : i < cnt) (hno : r.no_ = 0) (hl : l.length = i) (hn : i ≤ 1000) (ha : pl + 2 + 12 * cnt ≤ r.s_.length) (hs : r.s_.length ≤ 65000)
  (hlow : ∀ (h : 0 < i), ¬ (Qi r (pl + 2 + 12 * i) 2 : Int) ≤ (l[i - 1]'(by omega)).Tag) (hp : r.parts_.length ≤ 8000000000000) (hf : r.found_ ≤ 1) (hpl : path.length ≤ 100) {e : T_tag_Entry} {r' : T_tag_reader} (he : entR self r (pl + 2 + 12 * i) path = some (e, r')) :
  dirLoop self path pl nxt cnt i r l = dirLoop self path pl nxt cnt (i + 1) r' (l ++ [e]) := by
 have go : ∀ next, Yl path self (pl : Int) (nxt : Int) (cnt : Int) (i : Int) r.s_ r.big_ r.dirs_ r.found_ r.no_ r.parts_ r.seen_ l next = next ((pl : Int), (nxt : Int), (cnt : Int), ((i + 1 : Nat) : Int), r'.s_, r'.big_, r'.dirs_, r'.found_, r'.no_, r'.parts_, r'.seen_, l ++ [e]) := by
  intro next
  unfold Yl
  rw [J4 (by omega), Je, J4 (by omega), Je, J4 (by omega), Je, show (pl : Int) + 2 + 12 * (i : Int) = ((pl + 2 + 12 * i : Nat) : Int) by omega, entry_eq self r (by omega) hs hp hf hpl, he, Je, Yf (by simp; omega), Je, J4 (by omega), Je]
  rfl
 refine Qw _ fun next => ?_
 show Qg path self next (pl : Int) (nxt : Int) (cnt : Int) (i : Int) _ _ _ _ _ _ _ l = _
 unfold Qg
 rw [cI, if_pos (by omega), cI, if_pos hno, cI]
 by_cases h0 : 0 < i
 ·rw [if_pos (by omega), J4 (by omega), Je, J4 (by omega), Je, J4 (by omega), Je, show (pl : Int) + 2 + 12 * (i : Int) = ((pl + 2 + 12 * i : Nat) : Int) by omega,
   n2 r (by omega) hs, Je, J4 (by omega), Je, show (i : Int) - 1 = ((i - 1 : Nat) : Int) by omega, Yk (by omega), Je, cI, if_neg (hlow h0)]
  exact go next
 ·rw [if_neg (by omega)]
  exact go next
noncomputable def dirR (self : Vq) (r : T_tag_reader) (pl : Nat) (path : List Int) : Option ((List T_tag_Entry) × Int × T_tag_reader) :=
 if ¬ (8 ≤ pl ∧ pl + 2 ≤ r.s_.length) then some ([], 0, fl r 2)
 else if (mGet r.seen_ (pl : Int)).getD false = true then some ([], 0, fl r 13)
 else if 20 < r.dirs_ ∨ 5 < path.length ∨ 200 < Qi r pl 2 then some ([], 0, fl r 4)
 else if ¬ (pl + (2 + 12 * Qi r pl 2 + 4) ≤ r.s_.length) then some ([], 0, fl r 2)
 else if r.no_ ≠ 0 then some ([], 0, r)
 else dirLoop self path pl (Qi r (pl + 2 + 12 * Qi r pl 2) 4) (Qi r pl 2) 0
  (if 1 < path.length ∧ Qi r (pl + 2 + 12 * Qi r pl 2) 4 ≠ 0 then fl ⟨r.s_, r.big_, r.parts_ ++ [⟨(pl : Int), ((pl + (2 + 12 * Qi r pl 2 + 4) : Nat) : Int)⟩], Uv r.seen_ (pl : Int) true, r.dirs_, r.found_, r.no_⟩ 1
   else ⟨r.s_, r.big_, r.parts_ ++ [⟨(pl : Int), ((pl + (2 + 12 * Qi r pl 2 + 4) : Nat) : Int)⟩], Uv r.seen_ (pl : Int) true, r.dirs_, r.found_, r.no_⟩) []
theorem Wi (pl cnt : Int) (path : List Int) (self : Vq) (r : T_tag_reader) (h : r.no_ ≠ 0) : Qn pl path self cnt r.s_ r.big_ r.dirs_ r.found_ r.no_ r.parts_ r.seen_ = some ([], 0, r) := by
 unfold Qn
 rw [cI, if_pos h]
theorem dir_step (self : Vq) (r : T_tag_reader) {pl : Nat} {path : List Int} (hpl : pl ≤ 4294967295) (hs : r.s_.length ≤ 65000) (hp : r.parts_.length ≤ 7999999999999) :
  Jz self r (pl : Int) path = dirR self r pl path := by
 unfold Jz dirR
 rw [show (2 : Int) = ((2 : Nat) : Int) from rfl, there_eq _ (by omega) hs, Je, show ((2 : Nat) : Int) = 2 from rfl]
 by_cases ht : 8 ≤ pl ∧ pl + 2 ≤ r.s_.length
 ·rw [decide_eq_true ht, Bool.not_true, Xi, if_neg (by simp [ht]), n2 _ ht.2 hs, Je]
  have hv := v2 r pl
  by_cases hsn : (mGet r.seen_ (pl : Int)).getD false = true
  ·rw [if_pos hsn, hsn, Y3, Z0, Je, Wi _ _ _ _ _ (W8 _ (by decide))]
  ·rw [if_neg hsn, Bool.not_eq_true _ |>.mp hsn, Xi, cI, cI, cI]
   by_cases h20 : 20 < r.dirs_
   ·rw [if_pos h20, if_pos (.inl h20), Z0, Je, Wi _ _ _ _ _ (W8 _ (by decide))]
   rw [if_neg h20]
   by_cases h5 : 5 < path.length
   ·rw [if_pos (by omega), if_pos (.inr (.inl h5)), Z0, Je, Wi _ _ _ _ _ (W8 _ (by decide))]
   rw [if_neg (by omega)]
   by_cases h200 : 200 < Qi r pl 2
   ·rw [if_pos (by omega), if_pos (.inr (.inr h200)), Z0, Je, Wi _ _ _ _ _ (W8 _ (by decide))]
   rw [if_neg (by omega), if_neg (by omega), J4 (by omega), Je, J4 (by omega), Je, J4 (by omega), Je, show (2 : Int) + 12 * (Qi r pl 2 : Int) + 4 = ((2 + 12 * Qi r pl 2 + 4 : Nat) : Int) by omega, there_eq _ (by omega) hs, Je]
   by_cases hb : pl + (2 + 12 * Qi r pl 2 + 4) ≤ r.s_.length
   ·rw [decide_eq_true ⟨ht.1, hb⟩, Bool.not_true, Xi, if_neg (by omega)]
    by_cases hno : r.no_ = 0
    ·rw [if_neg (by simp [hno])]
     unfold Qn
     have hb' : pl + (2 + 12 * Qi r pl 2 + 4) ≤ r.s_.length := hb
     rw [cI, if_neg (by simp [hno]), J4 (by omega), Je, J4 (by omega), Je, J4 (by omega), Je, J4 (by omega), Je, Yf (by simp; omega), Je, Je, Je, J4 (by omega), Je,
      show (pl : Int) + 2 + 12 * (Qi r pl 2 : Int) = ((pl + 2 + 12 * Qi r pl 2 : Nat) : Int) by omega,
      show ((pl + 2 + 12 * Qi r pl 2 : Nat) : Int) + 4 = ((pl + (2 + 12 * Qi r pl 2 + 4) : Nat) : Int) by omega,
      n4 (a := pl + 2 + 12 * Qi r pl 2) (⟨r.s_, r.big_, r.parts_ ++ [(⟨(pl : Int), ((pl + (2 + 12 * Qi r pl 2 + 4) : Nat) : Int)⟩ : T_tag_Span)], Uv r.seen_ (pl : Int) true, r.dirs_, r.found_, r.no_⟩ : T_tag_reader) (by show _ ≤ r.s_.length; omega) hs, Je, cI, cI]
     by_cases h1 : 1 < path.length
     ·rw [if_pos (by omega)]
      by_cases hn : Qi r (pl + 2 + 12 * Qi r pl 2) 4 = 0
      ·rw [if_neg (by show ¬ ((Qi r (pl + 2 + 12 * Qi r pl 2) 4 : Nat) : Int) ≠ 0; omega), if_neg (by omega)]; rfl
      ·rw [if_pos (by show ((Qi r (pl + 2 + 12 * Qi r pl 2) 4 : Nat) : Int) ≠ 0; omega), if_pos ⟨h1, hn⟩, Z0, Je]; rfl
     ·rw [if_neg (by omega), if_neg (by omega)]; rfl
    ·rw [if_pos hno, Wi _ _ _ _ _ hno]
   ·rw [decide_eq_false (by omega), Bool.not_false, Y3, if_pos hb, Z0, Je, Wi _ _ _ _ _ (W8 _ (by decide))]
 ·rw [decide_eq_false ht, Bool.not_false, Y3, if_pos ht, Z0, Je]
end Go.M

/- Reading whatever octets, in plain Lean: it answers, and its parts lie inside. Conditions: none. -/
namespace Go.M
open Go.Md Go.Pl
set_option linter.unusedVariables false
def okS (n : Nat) (x : T_tag_Span) : Prop := 8 ≤ x.From ∧ x.From < x.To ∧ x.To ≤ (n : Int)
def lenS (l : List T_tag_Span) : Int := (l.map fun x => x.To - x.From).sum
theorem lenS_app (a b : List T_tag_Span) : lenS (a ++ b) = lenS a + lenS b := by unfold lenS; rw [List.map_append, List.sum_append]
theorem lenS_nil : lenS [] = 0 := rfl
theorem lenS_one (x : T_tag_Span) : lenS [x] = x.To - x.From := by unfold lenS; simp
def Adds (r r' : T_tag_reader) (K : Nat) (z : Int) : Prop :=
 r'.s_ = r.s_ ∧ r'.big_ = r.big_ ∧ r'.dirs_ = r.dirs_ ∧ r'.found_ = r.found_ ∧ ∃ new, r'.parts_ = r.parts_ ++ new ∧ (∀ x ∈ new, okS r.s_.length x) ∧ new.length ≤ K ∧ z ≤ lenS new
theorem Adds.same (r : T_tag_reader) {K : Nat} {z : Int} (hz : z ≤ 0) : Adds r r K z := ⟨rfl, rfl, rfl, rfl, [], by simp, by simp, Nat.zero_le _, hz⟩
theorem Adds.fail (r : T_tag_reader) (e : Int) {K : Nat} {z : Int} (hz : z ≤ 0) : Adds r (fl r e) K z := by
 unfold fl; split
 ·exact ⟨rfl, rfl, rfl, rfl, [], by simp, by simp, Nat.zero_le _, hz⟩
 ·exact Adds.same r hz
theorem Adds.trans {a b c : T_tag_reader} {K L : Nat} {y z : Int} (h : Adds a b K y) (g : Adds b c L z) : Adds a c (K + L) (y + z) := by
 obtain ⟨h1, h2, h3, h4, n, h5, h6, h7, h8⟩ := h
 obtain ⟨g1, g2, g3, g4, m, g5, g6, g7, g8⟩ := g
 refine ⟨g1.trans h1, g2.trans h2, g3.trans h3, g4.trans h4, n ++ m, by rw [g5, h5, List.append_assoc], ?_, by rw [List.length_append]; omega, by rw [lenS_app]; omega⟩
 intro x hx
 rcases List.mem_append.1 hx with hx | hx
 ·exact h6 x hx
 ·rw [← h1]; exact g6 x hx
theorem Adds.mono {a b : T_tag_reader} {K L : Nat} {y z : Int} (h : Adds a b K y) (hK : K ≤ L) (hz : z ≤ y) : Adds a b L z := by
 obtain ⟨h1, h2, h3, h4, n, h5, h6, h7, h8⟩ := h
 exact ⟨h1, h2, h3, h4, n, h5, h6, by omega, by omega⟩
theorem Adds.part (r : T_tag_reader) (x : T_tag_Span) (seen : List (Int × Bool)) (h : okS r.s_.length x) : Adds r ⟨r.s_, r.big_, r.parts_ ++ [x], seen, r.dirs_, r.found_, r.no_⟩ 1 (x.To - x.From) :=
 ⟨rfl, rfl, rfl, rfl, [x], rfl, fun y hy => by rw [List.mem_singleton.1 hy]; exact h, by simp, by rw [lenS_one]; omega⟩
theorem Adds.parts {r r' : T_tag_reader} {K : Nat} {z : Int} (h : Adds r r' K z) : r'.parts_.length ≤ r.parts_.length + K := by
 obtain ⟨_, _, _, _, n, h5, _, h7, _⟩ := h
 rw [h5, List.length_append]; omega
theorem Adds.len {r r' : T_tag_reader} {K : Nat} {z : Int} (h : Adds r r' K z) : r'.s_.length = r.s_.length := by rw [h.1]
def szV (v : T_tag_Value) : Nat := v.Text.length + v.Ints.length + v.Ratios.length
theorem valT_adds (r : T_tag_reader) {k : Int} {c : Nat} {b : List UInt8} (hw : Qe k ≠ 0) (hb : b.length ≤ c * Qe k) : Adds r (valT r k c b).2 0 0 ∧ szV (valT r k c b).1 ≤ c * Qe k ∧ (valT r k c b).1.Entries = [] := by
 have hcw : c ≤ c * Qe k := Nat.le_mul_of_pos_right _ (by omega)
 unfold valT
 by_cases h2 : k = 2
 ·rw [if_pos h2]
  split
  ·exact ⟨Adds.fail _ _ (by omega), by simp [szV], rfl⟩
  ·refine ⟨?_, by simp [szV]; omega, rfl⟩
   simp only
   split
   ·exact Adds.fail _ _ (by omega)
   ·exact Adds.same _ (by omega)
 rw [if_neg h2]
 by_cases h7 : k = 7
 ·rw [if_pos h7]; exact ⟨Adds.same _ (by omega), by simp [szV]; omega, rfl⟩
 rw [if_neg h7]
 by_cases h5 : k = 5
 ·rw [if_pos h5]; exact ⟨Adds.same _ (by omega), by simp [szV]; omega, rfl⟩
 rw [if_neg h5]; exact ⟨Adds.same _ (by omega), by simp [szV]; omega, rfl⟩
theorem valR_adds (r : T_tag_reader) {k : Int} {c a : Nat} (hw : Qe k ≠ 0) : Adds r (valR r k c a).2 1 ((szV (valR r k c a).1 : Int) - 4) ∧ (valR r k c a).1.Entries = [] := by
 unfold valR
 by_cases h4 : 4 < c * Qe k
 ·rw [if_pos h4]
  simp only
  split
  ·rename_i h
   obtain ⟨a1, a2, a3⟩ := valT_adds ⟨r.s_, r.big_, r.parts_ ++ [⟨(Wu r.big_ ((r.s_.drop a).take 4) : Nat), ((Wu r.big_ ((r.s_.drop a).take 4) + c * Qe k : Nat) : Int)⟩], r.seen_, r.dirs_, r.found_, r.no_⟩ (k := k) (c := c) (b := (r.s_.drop (Wu r.big_ ((r.s_.drop a).take 4))).take (c * Qe k)) hw (by rw [List.length_take]; omega)
   refine ⟨((Adds.part r ⟨(Wu r.big_ ((r.s_.drop a).take 4) : Nat), ((Wu r.big_ ((r.s_.drop a).take 4) + c * Qe k : Nat) : Int)⟩ r.seen_ ⟨by simp only; omega, by simp only; omega, by simp only; omega⟩).trans a1).mono (by omega) ?_, a3⟩
   simp only; omega
  ·exact ⟨Adds.fail _ _ (by simp [szV]), rfl⟩
 ·rw [if_neg h4]
  obtain ⟨a1, a2, a3⟩ := valT_adds r (k := k) (c := c) (b := (r.s_.drop a).take (c * Qe k)) hw (by rw [List.length_take]; omega)
  exact ⟨a1.mono (by omega) (by omega), a3⟩
def cap : Nat → Nat
 | 0 => 0
 | d + 1 => 1 + 200 * (1 + cap d)
def DirOk (d : Nat) (self : Vq) : Prop := ∀ (r : T_tag_reader) (pl : Nat) (path : List Int), path.length + d = 6 → pl ≤ 4294967295 → r.s_.length ≤ 65000 → r.parts_.length + cap d ≤ 7999999999999 → r.found_ ≤ 1 →
 ∃ (l : List T_tag_Entry) (nx : Nat) (r' : T_tag_reader), self (r, (pl : Int), path) = some (l, (nx : Int), r') ∧ nx ≤ 4294967295 ∧ Adds r r' (cap d) (szD d l : Nat) ∧ (20 < r.dirs_ → r'.no_ ≠ 0)
theorem entR_adds {d : Nat} {self : Vq} (H : DirOk d self) (r : T_tag_reader) {a : Nat} {path : List Int} (hpl : path.length + d + 1 = 6) (hs : r.s_.length ≤ 65000) (hp : r.parts_.length + (1 + cap d) ≤ 7999999999999) (hf : r.found_ ≤ 1) :
  ∃ e r', entR self r a path = some (e, r') ∧ Adds r r' (1 + cap d) ((szE d e : Nat) - 5 : Int) := by
 unfold entR
 split
 ·split
  ·obtain ⟨l, nx, r', h1, h2, h3, _⟩ := H r (Qi r (a + 8) 4) (path ++ [(Qi r a 2 : Int)]) (by simp; omega) (v4 _ _) hs (by omega) hf
   rw [h1, Je]
   exact ⟨_, _, rfl, h3.mono (by omega) (by simp only [szE, List.length_nil]; omega)⟩
  ·refine ⟨_, _, rfl, Adds.fail _ _ ?_⟩
   have : szD d [] = 0 := by cases d <;> rfl
   simp only [szE, List.length_nil, this]; omega
 ·split
  ·refine ⟨_, _, rfl, Adds.fail _ _ ?_⟩
   have : szD d [] = 0 := by cases d <;> rfl
   simp only [szE, List.length_nil, this]; omega
  ·rename_i h13 h0
   obtain ⟨a1, a2⟩ := valR_adds r (k := (Qi r (a + 2) 2 : Int)) (c := Qi r (a + 4) 4) (a := a + 8) h0
   refine ⟨_, _, rfl, a1.mono (by omega) ?_⟩
   have : szD d [] = 0 := by cases d <;> rfl
   simp only [szE, a2, this, szV]; omega
theorem szD_snoc (d : Nat) (e : T_tag_Entry) : ∀ l : List T_tag_Entry, szD (d + 1) (l ++ [e]) = szD (d + 1) l + szE d e
 | [] => by rw [List.nil_append, szD_cons, szD_nil]; omega
 | x :: l => by rw [List.cons_append, szD_cons, szD_cons, szD_snoc d e l]; omega
theorem loop_adds {d : Nat} {self : Vq} (H : DirOk d self) {path : List Int} (hpl : path.length + d + 1 = 6) (r : T_tag_reader) {pl nxt cnt : Nat} (hs : r.s_.length ≤ 65000) (hcnt : cnt ≤ 200) (hin : pl + 2 + 12 * cnt ≤ r.s_.length) (hp : r.parts_.length + cap (d + 1) ≤ 7999999999999) (hf : r.found_ ≤ 1) :
  ∀ (m i : Nat) (rc : T_tag_reader) (l : List T_tag_Entry), i + m = cnt → l.length = i → Adds r rc (1 + i * (1 + cap d)) ((szD (d + 1) l : Nat) + 12 * m : Int) →
   ∃ l' r', dirLoop self path pl nxt cnt i rc l = some (l', (nxt : Int), r') ∧ Adds r r' (cap (d + 1)) (szD (d + 1) l' : Nat) := by
 intro m
 have hcap : ∀ i, i ≤ 200 → 1 + i * (1 + cap d) ≤ cap (d + 1) := fun i hi => by
  show _ ≤ 1 + 200 * (1 + cap d)
  have := Nat.mul_le_mul_right (1 + cap d) hi; omega
 induction m with
 | zero =>
  intro i rc l him hl hA
  exact ⟨l, rc, loop_end _ _ _ _ _ _ _ _ (.inl (by omega)), hA.mono (hcap i (by omega)) (by omega)⟩
 | succ m ih =>
  intro i rc l him hl hA
  have hend : Adds r rc (cap (d + 1)) (szD (d + 1) l : Nat) := hA.mono (hcap i (by omega)) (by omega)
  have hsl := hA.len
  by_cases hno : rc.no_ = 0
  ·have hin' : pl + 2 + 12 * cnt ≤ rc.s_.length := by omega
   by_cases hlow : ∃ h : 0 < i, (Qi rc (pl + 2 + 12 * i) 2 : Int) ≤ (l[i - 1]'(by omega)).Tag
   ·obtain ⟨h0, hlow⟩ := hlow
    exact ⟨l, fl rc 5, loop_low _ _ _ _ _ _ _ _ (by omega) hno h0 (by omega) hin' (by omega) hlow, (hend.trans (Adds.fail rc 5 (K := 0) (z := 0) (by omega))).mono (by omega) (by omega)⟩
   ·have hi1 := hcap (i + 1) (by omega)
    rw [Nat.add_mul, Nat.one_mul] at hi1
    have hpr := hA.parts
    obtain ⟨e, r', he, hA'⟩ := entR_adds H rc (a := pl + 2 + 12 * i) hpl (by omega) (by omega) (by rw [hA.2.2.2.1]; exact hf)
    rw [loop_next self path pl nxt cnt i rc l (by omega) hno hl (by omega) hin' (by omega) (fun h hh => hlow ⟨h, hh⟩) (by omega) (by rw [hA.2.2.2.1]; exact hf) (by omega) he]
    refine ih (i + 1) r' (l ++ [e]) (by omega) (by simp; omega) ((hA.trans hA').mono (by rw [Nat.add_mul, Nat.one_mul]; omega) ?_)
    rw [szD_snoc]; omega
  ·exact ⟨l, rc, loop_end _ _ _ _ _ _ _ _ (.inr hno), hend⟩
theorem dirR_ok {d : Nat} {self : Vq} (H : DirOk d self) (r : T_tag_reader) (pl : Nat) (path : List Int) (hpl : path.length + d + 1 = 6) (hs : r.s_.length ≤ 65000) (hp : r.parts_.length + cap (d + 1) ≤ 7999999999999) (hf : r.found_ ≤ 1) :
  ∃ (l : List T_tag_Entry) (nx : Nat) (r' : T_tag_reader), dirR self r pl path = some (l, (nx : Int), r') ∧ nx ≤ 4294967295 ∧ Adds r r' (cap (d + 1)) (szD (d + 1) l : Nat) ∧ (20 < r.dirs_ → r'.no_ ≠ 0) := by
 unfold dirR
 split
 ·exact ⟨[], 0, _, rfl, by omega, Adds.fail _ _ (by rw [szD_nil]; omega), fun _ => W8 _ (by decide)⟩
 rename_i h8
 split
 ·exact ⟨[], 0, _, rfl, by omega, Adds.fail _ _ (by rw [szD_nil]; omega), fun _ => W8 _ (by decide)⟩
 split
 ·exact ⟨[], 0, _, rfl, by omega, Adds.fail _ _ (by rw [szD_nil]; omega), fun _ => W8 _ (by decide)⟩
 rename_i hlim
 split
 ·exact ⟨[], 0, _, rfl, by omega, Adds.fail _ _ (by rw [szD_nil]; omega), fun _ => W8 _ (by decide)⟩
 rename_i hin
 split
 ·rename_i hno
  exact ⟨[], 0, _, rfl, by omega, Adds.same _ (by rw [szD_nil]; omega), fun _ => hno⟩
 have hpart := Adds.part r ⟨(pl : Int), ((pl + (2 + 12 * Qi r pl 2 + 4) : Nat) : Int)⟩ (Uv r.seen_ (pl : Int) true) ⟨by simp only; omega, by simp only; omega, by simp only; omega⟩
 have run : ∀ r2 : T_tag_reader, Adds r r2 1 ((2 + 12 * Qi r pl 2 + 4 : Nat) : Int) → ∃ (l : List T_tag_Entry) (nx : Nat) (r' : T_tag_reader), dirLoop self path pl (Qi r (pl + 2 + 12 * Qi r pl 2) 4) (Qi r pl 2) 0 r2 [] = some (l, (nx : Int), r') ∧ nx ≤ 4294967295 ∧ Adds r r' (cap (d + 1)) (szD (d + 1) l : Nat) ∧ (20 < r.dirs_ → r'.no_ ≠ 0) := by
  intro r2 h2
  obtain ⟨l, r', h3, h4⟩ := loop_adds (nxt := Qi r (pl + 2 + 12 * Qi r pl 2) 4) H hpl r hs (show Qi r pl 2 ≤ 200 by omega) (show pl + 2 + 12 * Qi r pl 2 ≤ r.s_.length by omega) hp hf (Qi r pl 2) 0 r2 [] (by omega) rfl (h2.mono (by omega) (by rw [szD_nil]; omega))
  exact ⟨l, _, r', h3, v4 _ _, h4, fun h => absurd h (by omega)⟩
 split
 ·exact run _ ((hpart.trans (Adds.fail _ 1 (K := 0) (z := 0) (by omega))).mono (by omega) (by simp only; omega))
 ·exact run _ (hpart.mono (by omega) (by simp only; omega))
theorem dirR_zero {self : Vq} (r : T_tag_reader) (pl : Nat) (path : List Int) (hpl : path.length = 6) : ∃ r', dirR self r pl path = some ([], 0, r') ∧ Adds r r' 0 0 ∧ r'.no_ ≠ 0 := by
 unfold dirR
 split
 ·exact ⟨_, rfl, Adds.fail _ _ (by omega), W8 _ (by decide)⟩
 split
 ·exact ⟨_, rfl, Adds.fail _ _ (by omega), W8 _ (by decide)⟩
 rw [if_pos (.inr (.inl (by omega)))]
 exact ⟨_, rfl, Adds.fail _ _ (by omega), W8 _ (by decide)⟩
theorem it_ok : ∀ (d n : Nat), d < n → DirOk d (it (fun (self : Vq) (s : T_tag_reader × Int × List Int) => Jz self s.1 s.2.1 s.2.2) n) := by
 intro d
 induction d with
 | zero =>
  intro n hn r pl path h6 hpl hs hp hf
  obtain ⟨n, rfl⟩ : ∃ m, n = m + 1 := ⟨n - 1, by omega⟩
  obtain ⟨r', h1, h2, h3⟩ := dirR_zero (self := it (fun (self : Vq) (s : T_tag_reader × Int × List Int) => Jz self s.1 s.2.1 s.2.2) n) r pl path (by omega)
  refine ⟨[], 0, r', ?_, by omega, h2, fun _ => h3⟩
  show Jz _ r (pl : Int) path = _
  rw [dir_step _ r hpl hs (by omega), h1]; rfl
 | succ d ih =>
  intro n hn r pl path h6 hpl hs hp hf
  obtain ⟨n, rfl⟩ : ∃ m, n = m + 1 := ⟨n - 1, by omega⟩
  obtain ⟨l, nx, r', h1, h2⟩ := dirR_ok (ih n (by omega)) r pl path (by omega) hs hp hf
  refine ⟨l, nx, r', ?_, h2⟩
  show Jz _ r (pl : Int) path = _
  rw [dir_step _ r hpl hs (by omega), h1]
theorem entry_congr {self self' : Vq} {path : List Int} (h : ∀ r pl p, p.length = path.length + 1 → self (r, pl, p) = self' (r, pl, p)) (r : T_tag_reader) (a : Int) : Qy self r a path = Qy self' r a path := by
 unfold Qy
 refine Vu fun t13 _ => Vu fun _ _ => Vu fun _ _ => Vu fun _ _ => Vu fun _ _ => Vu fun t23 h23 => Vu fun l26 h26 => ?_
 have hl : l26.length = path.length + 1 := by
  unfold Vf at h23
  cases hg : Xu 8 ([] : List Int) path with
  | none => rw [hg] at h23; cases h23
  | some u => rw [hg, Je] at h23; cases h23; rw [(Ub h26).1, (Ub hg).1]; simp
 have e : ∀ x y, self (x, y, l26) = self' (x, y, l26) := fun x y => h x y l26 hl
 unfold X0
 simp only [e]
theorem loop_congr {self self' : Vq} {path : List Int} (h : ∀ r pl p, p.length = path.length + 1 → self (r, pl, p) = self' (r, pl, p)) (r : T_tag_reader) (pl : Int) : Jz self r pl path = Jz self' r pl path := by
 have e : ∀ r a, Qy self r a path = Qy self' r a path := entry_congr h
 have e4 : Qg path self = Qg path self' := by
  funext next x1 x7 x9 x10 m1 m2 m3 m4 m5 l1 mp l2
  unfold Qg Yl
  simp only [e]
 have e1 : ∀ a1 t m m2 m3 m4 m5 l mp, Qn a1 path self t m m2 m3 m4 m5 l mp = Qn a1 path self' t m m2 m3 m4 m5 l mp := by
  intro a1 t m m2 m3 m4 m5 l mp
  unfold Qn Y8
  rw [e4]
 unfold Jz
 simp only [e1]
theorem deep_congr {self self' : Vq} {path : List Int} (h : 5 < path.length) (r : T_tag_reader) (pl : Int) : Jz self r pl path = Jz self' r pl path := by
 unfold Jz
 refine Vu fun t _ => cnd_congr (fun _ => rfl) fun _ => Vu fun c _ => cnd_congr (fun _ => ?_) fun _ => cnd_congr (fun _ => ?_) fun _ => ?_
 ·rw [Z0, Je, Je, Wi _ _ _ _ _ (W8 _ (by decide)), Wi _ _ _ _ _ (W8 _ (by decide))]
 ·rw [Z0, Je, Je, Wi _ _ _ _ _ (W8 _ (by decide)), Wi _ _ _ _ _ (W8 _ (by decide))]
 ·rw [cI, if_pos (by omega), cI, if_pos (by omega), Z0, Je, Je, Wi _ _ _ _ _ (W8 _ (by decide)), Wi _ _ _ _ _ (W8 _ (by decide))]
noncomputable abbrev dirF : Vq → Vq := fun self s => Jz self s.1 s.2.1 s.2.2
theorem it_same : ∀ (d n m : Nat), d < n → d < m → ∀ (r : T_tag_reader) (pl : Int) (path : List Int), path.length + d = 6 → it dirF n (r, pl, path) = it dirF m (r, pl, path) := by
 intro d
 induction d with
 | zero =>
  intro n m hn hm r pl path h6
  obtain ⟨n, rfl⟩ : ∃ k, n = k + 1 := ⟨n - 1, by omega⟩
  obtain ⟨m, rfl⟩ : ∃ k, m = k + 1 := ⟨m - 1, by omega⟩
  exact deep_congr (path := path) (by omega) r pl
 | succ d ih =>
  intro n m hn hm r pl path h6
  obtain ⟨n, rfl⟩ : ∃ k, n = k + 1 := ⟨n - 1, by omega⟩
  obtain ⟨m, rfl⟩ : ∃ k, m = k + 1 := ⟨m - 1, by omega⟩
  exact loop_congr (path := path) (fun r pl p hp => ih n m (by omega) (by omega) r pl p (by omega)) r pl
theorem dir_it (r : T_tag_reader) (pl : Int) (path : List Int) (h1 : path.length = 1) : Zl r pl path = it dirF 6 (r, pl, path) := by
 unfold Zl
 exact fix_ev (k := 6) fun n hn => it_same 5 n 6 (by omega) (by omega) r pl path (by omega)
theorem dir_ok (r : T_tag_reader) (pl : Nat) (path : List Int) (h6 : path.length = 1) (hpl : pl ≤ 4294967295) (hs : r.s_.length ≤ 65000) (hp : r.parts_.length + cap 5 ≤ 7999999999999) (hf : r.found_ ≤ 1) :
  ∃ (l : List T_tag_Entry) (nx : Nat) (r' : T_tag_reader), Zl r (pl : Int) path = some (l, (nx : Int), r') ∧ nx ≤ 4294967295 ∧ Adds r r' (cap 5) (szD 5 l : Nat) ∧ (20 < r.dirs_ → r'.no_ ≠ 0) := by
 rw [dir_it _ _ _ h6]
 exact it_ok 5 6 (by omega) r pl path (by omega) hpl hs hp hf
end Go.M

/- A file's parts, the used spans and the holes, in plain Lean. Conditions: none. -/
namespace Go.M
open Go.Md Go.Pl
set_option linter.unusedVariables false
def cmpI (a b : Int) : Int := if a < b then -1 else if b < a then 1 else 0
theorem compare_eq (a b : Int) : cmp_Compare_int a b = some (cmpI a b) := by
 unfold cmp_Compare_int Ug cmpI
 rw [Je, Je, decide_eq_false (by simp), decide_eq_false (by simp), Xi, Xi, cI, cI]
 split
 ·rfl
 split <;> rfl
theorem or2_eq (a b : Int) : cmp_Or_int [a, b] = some (if a ≠ 0 then a else b) := by
 unfold cmp_Or_int
 by_cases ha : a = 0
 ·rw [if_neg (by simp [ha])]
  rw [Qw (1 : Int) fun next => by
   unfold X6
   rw [cI, if_pos (by simp), show Vn [a, b] 0 = some a from rfl, Je, cI, if_neg (by simp [ha]), J4 (by omega), Je]; rfl]
  by_cases hb : b = 0
  ·rw [Qw (2 : Int) fun next => by
    unfold X6
    rw [cI, if_pos (by simp), show Vn [a, b] 1 = some b from rfl, Je, cI, if_neg (by simp [hb]), J4 (by omega), Je]; rfl]
   exact Qm fun next => by
    unfold X6
    rw [cI, if_neg (by simp), hb]
  ·exact Qm fun next => by
    unfold X6
    rw [cI, if_pos (by simp), show Vn [a, b] 1 = some b from rfl, Je, cI, if_pos hb]
 ·rw [if_pos ha]
  exact Qm fun next => by
   unfold X6
   rw [cI, if_pos (by simp), show Vn [a, b] 0 = some a from rfl, Je, cI, if_pos ha]
theorem spans_eq (x y : T_tag_Span) : Qo x y = some (if cmpI x.From y.From ≠ 0 then cmpI x.From y.From else cmpI x.To y.To) := by
 unfold Qo
 rw [compare_eq, Je, compare_eq, Je, or2_eq, Je]
theorem spans_le (x y : T_tag_Span) : (Qo x y).getD 0 ≤ 0 ↔ x.From < y.From ∨ (x.From = y.From ∧ x.To ≤ y.To) := by
 rw [spans_eq, Option.getD_some]; unfold cmpI
 (repeat' split) <;> omega
theorem spans_lt (x y : T_tag_Span) : (Qo x y).getD 0 < 0 ↔ x.From < y.From ∨ (x.From = y.From ∧ x.To < y.To) := by
 rw [spans_eq, Option.getD_some]; unfold cmpI
 (repeat' split) <;> omega
theorem spans_ok : CmpOk Qo where
 tot x y := ⟨_, spans_eq x y⟩
 flip x y := by
  have h1 := spans_lt x y
  have h2 := spans_le y x
  omega
 trans x y z := by
  rw [spans_le, spans_le, spans_le]; omega
 anti x y h := by
  have h1 := spans_le x y
  have h2 := spans_lt x y
  have h3 : x.From = y.From ∧ x.To = y.To := by omega
  cases x; cases y; simp only at h3; rw [h3.1, h3.2]
theorem lenS_perm {a b : List T_tag_Span} (h : a.Perm b) : lenS a = lenS b := by
 unfold lenS
 induction h with
 | nil => rfl
 | cons x _ ih => simp only [List.map_cons, List.sum_cons, ih]
 | swap x y l => simp only [List.map_cons, List.sum_cons]; omega
 | trans _ _ h1 h2 => exact h1.trans h2
def sepS (n : Int) : Int → List T_tag_Span → Prop
 | a, [] => a ≤ n
 | a, x :: l => a ≤ x.From ∧ x.From < x.To ∧ sepS n x.To l
theorem sepS_end {n : Int} : ∀ {l : List T_tag_Span} {a : Int}, sepS n a l → a ≤ n ∧ (l.length : Int) ≤ n - a ∧ lenS l ≤ n - a
 | [], a, h => ⟨h, by simp; exact h, by rw [lenS_nil]; have : a ≤ n := h; omega⟩
 | x :: l, a, h => by
  obtain ⟨h1, h2, h3⟩ := sepS_end h.2.2
  have h4 := h.1
  have h5 := h.2.1
  refine ⟨by omega, by rw [List.length_cons]; omega, ?_⟩
  have : lenS (x :: l) = x.To - x.From + lenS l := by unfold lenS; simp
  rw [this]; omega
def lapP (l : List T_tag_Span) : Prop := ∃ i : Nat, ∃ h : i + 1 < l.length, (l[i + 1]'h).From < (l[i]'(by omega)).To
open Classical in
theorem overlap_eq (l : List T_tag_Span) (hl : l.length ≤ 1099511627776000) : tag_overlap l = some (decide (lapP l)) := by
 have key : ∀ m i : Nat, i + m = l.length → 1 ≤ i → V0 (fun next1 s => X8 l next1 s) (i : Int) = some (decide (∃ j : Nat, i ≤ j + 1 ∧ ∃ h : j + 1 < l.length, (l[j + 1]'h).From < (l[j]'(by omega)).To)) := by
  intro m
  induction m with
  | zero =>
   intro i hi h1
   refine Qm fun next => ?_
   unfold X8
   rw [cI, if_neg (by omega)]
   congr 1; symm
   rw [decide_eq_false_iff_not]
   rintro ⟨j, h2, h3, _⟩; omega
  | succ m ih =>
   intro i hi h1
   have hh : ∀ next : Int → Option Bool, X8 l next (i : Int) = if (l[i]'(by omega)).From < (l[i - 1]'(by omega)).To then some true else next ((i + 1 : Nat) : Int) := by
    intro next
    unfold X8
    rw [cI, if_pos (by omega), Yk (by omega), Je, J4 (by omega), Je, show (i : Int) - 1 = ((i - 1 : Nat) : Int) by omega, Yk (by omega), Je, cI]
    split
    ·rfl
    ·rw [J4 (by omega), Je]; rfl
   by_cases hlap : (l[i]'(by omega)).From < (l[i - 1]'(by omega)).To
   ·rw [Qm (o := some true) fun next => by rw [hh, if_pos hlap]]
    congr 1; symm
    rw [decide_eq_true_iff]
    obtain ⟨k, rfl⟩ : ∃ k, i = k + 1 := ⟨i - 1, by omega⟩
    exact ⟨k, by omega, by omega, hlap⟩
   ·rw [Qw (((i + 1 : Nat) : Int)) fun next => by rw [hh, if_neg hlap], ih (i + 1) (by omega) (by omega)]
    congr 1
    rw [decide_eq_decide]
    constructor
    ·rintro ⟨j, h2, h3⟩; exact ⟨j, by omega, h3⟩
    ·rintro ⟨j, h2, h3, h4⟩
     rcases Nat.lt_or_ge i (j + 1) with h5 | h5
     ·exact ⟨j, by omega, h3, h4⟩
     ·exfalso
      have : i = j + 1 := by omega
      subst this
      exact hlap h4
 unfold tag_overlap
 rcases Nat.lt_or_ge l.length 1 with h0 | h0
 ·rw [Qm (o := some false) fun next => by unfold X8; rw [cI, if_neg (by omega)]]
  congr 1; symm
  rw [decide_eq_false_iff_not]
  rintro ⟨j, h3, _⟩; omega
 ·rw [show (1 : Int) = ((1 : Nat) : Int) from rfl, key (l.length - 1) 1 (by omega) (by omega)]
  congr 1
  rw [decide_eq_decide]
  constructor
  ·rintro ⟨j, _, h3⟩; exact ⟨j, h3⟩
  ·rintro ⟨j, h3⟩; exact ⟨j, by omega, h3⟩
theorem sep_of {n : Nat} : ∀ {l : List T_tag_Span} {a : Int}, (∀ x ∈ l, okS n x) → ¬ lapP l → (∀ x ∈ l.head?, a ≤ x.From) → a ≤ n → sepS n a l
 | [], a, _, _, _, ha => ha
 | x :: l, a, h, hl, hh, ha => by
  have hx := h x (by simp)
  refine ⟨hh x (by simp), hx.2.1, sep_of (fun y hy => h y (by simp [hy])) ?_ ?_ hx.2.2⟩
  ·rintro ⟨i, hi, hlt⟩
   exact hl ⟨i + 1, by simp at hi ⊢; omega, by simpa using hlt⟩
  ·intro y hy
   cases l with
   | nil => simp at hy
   | cons z l =>
    simp at hy; subst hy
    by_cases hz : x.To ≤ z.From
    ·exact hz
    ·exfalso
     exact hl ⟨0, by simp, by simp; omega⟩
theorem begins_eq (s : List UInt8) : ∃ b, Ua s = some b ∧ (b = true → 8 ≤ s.length) := by
 unfold Ua
 rw [cI]
 by_cases h : (s.length : Int) < 8
 ·rw [if_pos h]; exact ⟨_, rfl, by simp⟩
 ·rw [if_neg h, gCut_to (by omega), Je, cI, Je]
  split <;> exact ⟨_, rfl, fun _ => by omega⟩
noncomputable def rdLoop (t : Int) (nx : Nat) (r : T_tag_reader) (ls : List (List T_tag_Entry)) : Option (T_tag_File × List T_tag_Span × Int) :=
 V0 (fun next4 s => Zj t next4 s.1 s.2.1 s.2.2.1 s.2.2.2.1 s.2.2.2.2.1 s.2.2.2.2.2.1 s.2.2.2.2.2.2.1 s.2.2.2.2.2.2.2.1 s.2.2.2.2.2.2.2.2) ((nx : Int), r.s_, r.big_, r.dirs_, r.found_, r.no_, r.parts_, ls, r.seen_)
theorem rd_end (t : Int) (nx : Nat) (r : T_tag_reader) (ls : List (List T_tag_Entry)) (h : nx = 0 ∨ r.no_ ≠ 0) : rdLoop t nx r ls = Zw t r.s_ r.big_ r.dirs_ r.found_ r.no_ r.parts_ ls r.seen_ := by
 refine Qm fun next => ?_
 show Zj t next (nx : Int) r.s_ r.big_ r.dirs_ r.found_ r.no_ r.parts_ ls r.seen_ = _
 unfold Zj
 rw [cI]
 by_cases h0 : nx = 0
 ·rw [if_neg (by simp [h0])]
 ·rw [if_pos (by simpa using h0), cI, if_neg (h.resolve_left h0)]
theorem rd_next (t : Int) (nx : Nat) (r : T_tag_reader) (ls : List (List T_tag_Entry)) (h0 : nx ≠ 0) (hno : r.no_ = 0) (hd : 0 ≤ r.dirs_ ∧ r.dirs_ ≤ 1000) (hl : ls.length ≤ 1000) {l : List T_tag_Entry} {nx' : Nat} {r' : T_tag_reader}
  (h : Zl ⟨r.s_, r.big_, r.parts_, r.seen_, r.dirs_ + 1, r.found_, r.no_⟩ (nx : Int) [(ls.length : Int)] = some (l, (nx' : Int), r')) : rdLoop t nx r ls = rdLoop t nx' r' (ls ++ [l]) := by
 refine Qw _ fun next => ?_
 show Zj t next (nx : Int) r.s_ r.big_ r.dirs_ r.found_ r.no_ r.parts_ ls r.seen_ = _
 unfold Zj
 rw [cI, if_pos (by simpa using h0), cI, if_pos hno, J4 (by omega), Je, h, Je, Yf (by simp; omega), Je]
open Classical in
theorem read_j1 (t : Int) (r : T_tag_reader) (ls : List (List T_tag_Entry)) (hs : 8 ≤ r.s_.length ∧ r.s_.length ≤ 65000) (hp : r.parts_.length ≤ 8000000000000) (hok : ∀ x ∈ r.parts_, okS r.s_.length x) (hsz : (((ls.map (szD 5)).sum : Nat) : Int) ≤ lenS r.parts_) (hl : ls.length ≤ 1000) :
  ∃ f ps e, Zw t r.s_ r.big_ r.dirs_ r.found_ r.no_ r.parts_ ls r.seen_ = some (f, ps, e) ∧ (e = 0 → sepS r.s_.length 8 ps) := by
 unfold Zw
 have hperm := List.mergeSort_perm r.parts_ (leC Qo)
 have hS : gSortF r.parts_ Qo = some (r.parts_.mergeSort (leC Qo)) := if_pos ⟨by omega, spans_ok⟩
 rw [hS, Je, cI]
 generalize r.parts_.mergeSort (leC Qo) = ps at hperm
 have hlen : lenS ps = lenS r.parts_ := lenS_perm hperm
 have hfail : ∀ e : Int, e ≠ 0 → Vh t ls ps e = some (⟨false, []⟩, [], e) := fun e he => by unfold Vh; rw [cI, if_pos he]
 by_cases hno : r.no_ = 0
 ·rw [if_pos hno, overlap_eq _ (by rw [hperm.length_eq]; omega), Je, cI]
  by_cases hlap : lapP ps
  ·rw [if_pos hlap]
   unfold Zv
   rw [cI, if_neg (by decide), hfail 6 (by decide)]
   exact ⟨_, _, _, rfl, by simp⟩
  ·rw [if_neg hlap]
   have hsep : sepS r.s_.length 8 ps := by
    refine sep_of (fun x hx => hok x (hperm.mem_iff.1 hx)) hlap (fun x hx => ?_) (by omega)
    exact (hok x (hperm.mem_iff.1 (List.mem_of_mem_head? hx))).1
   have hsum := (sepS_end hsep).2.2
   have hB : fileB (⟨decide (t = 77), ls⟩ : T_tag_File) := fileB_of (by show ls.length ≤ _; omega) (by show (ls.map (szD 5)).sum ≤ _; omega)
   unfold Zv
   rw [cI, if_pos hno, Check_eq hB, Je]
   by_cases he : fileE (⟨decide (t = 77), ls⟩ : T_tag_File) = 0
   ·unfold Vh
    rw [cI, if_neg (by simp [he])]
    exact ⟨_, _, _, rfl, fun _ => hsep⟩
   ·rw [hfail _ he]
    exact ⟨_, _, _, rfl, fun h => absurd h he⟩
 ·rw [if_neg hno]
  unfold Zv
  rw [cI, if_neg hno, hfail _ hno]
  exact ⟨_, _, _, rfl, fun h => absurd h hno⟩
theorem rd_ok (t : Int) : ∀ (m D nx : Nat) (r : T_tag_reader) (ls : List (List T_tag_Entry)), D + m = 21 → nx ≤ 4294967295 → r.dirs_ = D → ls.length = D → (D ≤ 20 ∨ r.no_ ≠ 0) → (8 ≤ r.s_.length ∧ r.s_.length ≤ 65000) → r.parts_.length ≤ D * 323216080401 → (∀ x ∈ r.parts_, okS r.s_.length x) → (((ls.map (szD 5)).sum : Nat) : Int) ≤ lenS r.parts_ → r.found_ ≤ 1 →
  ∃ f ps e, rdLoop t nx r ls = some (f, ps, e) ∧ (e = 0 → sepS r.s_.length 8 ps) := by
 have hcap : cap 5 = 323216080401 := by rfl
 intro m
 induction m with
 | zero =>
  intro D nx r ls hD hnx hd hl h20 hs hp hok hsz hf
  rw [rd_end _ _ _ _ (.inr (h20.resolve_left (by omega)))]
  exact read_j1 t r ls hs (by omega) hok hsz (by omega)
 | succ m ih =>
  intro D nx r ls hD hnx hd hl h20 hs hp hok hsz hf
  by_cases hend : nx = 0 ∨ r.no_ ≠ 0
  ·rw [rd_end _ _ _ _ hend]
   exact read_j1 t r ls hs (by omega) hok hsz (by omega)
  ·have h0 : nx ≠ 0 := fun h => hend (.inl h)
   have hno : r.no_ = 0 := Classical.byContradiction fun h => hend (.inr h)
   obtain ⟨l, nx', r', h1, h2, h3, h4⟩ := dir_ok ⟨r.s_, r.big_, r.parts_, r.seen_, r.dirs_ + 1, r.found_, r.no_⟩ nx [(ls.length : Int)] rfl hnx hs.2 (by show r.parts_.length + cap 5 ≤ _; rw [hcap]; omega) hf
   rw [rd_next t nx r ls h0 hno (by omega) (by omega) h1]
   have hlen' := h3.len
   have hsl : r'.s_.length = r.s_.length := hlen'
   have hpa := h3.parts
   rw [hcap] at hpa
   have hpa' : r'.parts_.length ≤ r.parts_.length + 323216080401 := hpa
   obtain ⟨g1, g2, g3, g4, new, g5, g6, g7, g8⟩ := h3
   have g5' : r'.parts_ = r.parts_ ++ new := g5
   have := ih (D + 1) nx' r' (ls ++ [l]) (by omega) h2 (by have : r'.dirs_ = r.dirs_ + 1 := g3; omega) (by simp; omega) (by
    by_cases hh : D + 1 ≤ 20
    ·exact .inl hh
    ·exact .inr (h4 (by show 20 < r.dirs_ + 1; omega))) (by omega) (by omega) (by
    intro x hx
    rw [g5'] at hx
    rw [hsl]
    rcases List.mem_append.1 hx with hx | hx
    ·exact hok x hx
    ·exact g6 x hx) (by
    rw [g5', lenS_app, List.map_append, List.sum_append]
    simp only [List.map_cons, List.map_nil, List.sum_cons, List.sum_nil]
    omega) (by have : r'.found_ = r.found_ := g4; omega)
   rw [hsl] at this
   exact this
theorem read_ok (s : List UInt8) {fd : Nat} (hfd : fd ≤ 1) : ∃ f ps e, tag_read s fd = some (f, ps, e) ∧ (e = 0 → s.length ≤ 65000 ∧ sepS s.length 8 ps) := by
 unfold tag_read
 rw [cI]
 by_cases hl : (65000 : Int) < s.length
 ·rw [if_pos hl]; exact ⟨_, _, _, rfl, by simp⟩
 ·obtain ⟨b, hb, hb8⟩ := begins_eq s
  rw [if_neg hl, hb, Je]
  cases b with
  | false => rw [Bool.not_false, Y3]; exact ⟨_, _, _, rfl, by simp⟩
  | true =>
   have h8 := hb8 rfl
   rw [Bool.not_true, Xi, show (0 : Int) = ((0 : Nat) : Int) from rfl, gOct_nat (by omega), Je, show (4 : Int) = ((4 : Nat) : Int) from rfl, number_eq (a := 4) (k := 4) _ (by show 4 + 4 ≤ s.length; omega) (by omega) (by show s.length ≤ 65000; omega), Je]
   obtain ⟨f, ps, e, h1, h2⟩ := rd_ok ((s[0]'(by omega)).toNat : Int) 21 0 (Wu (decide (((s[0]'(by omega)).toNat : Int) = 77)) ((s.drop 4).take 4)) ⟨s, decide (((s[0]'(by omega)).toNat : Int) = 77), [], [], 0, fd, 0⟩ [] (by omega) (valB4 _ (by rw [List.length_take]; omega)) rfl rfl (.inl (by omega)) ⟨h8, by show s.length ≤ 65000; omega⟩ (by simp) (by simp) (by simp [lenS]) hfd
   exact ⟨f, ps, e, h1, fun h => ⟨by omega, h2 h⟩⟩
end Go.M

/- TagSpans: the used spans and the holes of whatever octets share them out, in plain Lean. Conditions: none. -/
namespace Go.M
open Go.Md Go.Pl
set_option linter.unusedVariables false
def Wt (c : T_tag_Span) : List T_tag_Span → List T_tag_Span
 | [] => [c]
 | y :: l => if c.To = y.From then Wt ⟨c.From, y.To⟩ l else c :: Wt y l
theorem usedL_len : ∀ (l : List T_tag_Span) (c : T_tag_Span), (Wt c l).length ≤ l.length + 1
 | [], c => by simp [Wt]
 | y :: l, c => by
  unfold Wt
  split
  ·have := usedL_len l ⟨c.From, y.To⟩; simp; omega
  ·have := usedL_len l y; simp; omega
theorem used_sep {n : Int} : ∀ (l : List T_tag_Span) (c : T_tag_Span) (a : Int), a ≤ c.From → c.From < c.To → sepS n c.To l → sepS n a (Wt c l)
 | [], c, a, h1, h2, h3 => ⟨h1, h2, h3⟩
 | y :: l, c, a, h1, h2, h3 => by
  obtain ⟨g1, g2, g3⟩ := h3
  unfold Wt
  split
  ·exact used_sep l ⟨c.From, y.To⟩ a h1 (by simp only; omega) g3
  ·exact ⟨h1, h2, used_sep l y c.To g1 g2 g3⟩
theorem used_loop (t13 : T_tag_File × List T_tag_Span × Int) (ht : t13.2.1.length ≤ 65000) : ∀ (m i : Nat) (pre : List T_tag_Span) (c : T_tag_Span), i + m = t13.2.1.length → pre.length ≤ i →
  V0 (fun next2 s => Yr t13 next2 s.1 s.2) ((i : Int), pre ++ [c]) = some (pre ++ Wt c (t13.2.1.drop i), 0) := by
 intro m
 induction m with
 | zero =>
  intro i pre c hi hp
  rw [List.drop_eq_nil_of_le (by omega)]
  refine Qm fun next => ?_
  show Yr t13 next (i : Int) (pre ++ [c]) = _
  unfold Yr
  rw [cI, if_neg (by omega)]; rfl
 | succ m ih =>
  intro i pre c hi hp
  have hlast : (((pre ++ [c]).length : Int) - 1) = ((pre.length : Nat) : Int) := by simp
  have hat : Vn (pre ++ [c]) ((pre.length : Nat) : Int) = some c := by rw [Yk (by simp)]; simp
  have hh : ∀ next : Int × List T_tag_Span → Option (List T_tag_Span × Int), Yr t13 next (i : Int) (pre ++ [c]) = if c.To = (t13.2.1[i]'(by omega)).From then next (((i + 1 : Nat) : Int), pre ++ [⟨c.From, (t13.2.1[i]'(by omega)).To⟩]) else next (((i + 1 : Nat) : Int), (pre ++ [c]) ++ [t13.2.1[i]'(by omega)]) := by
   intro next
   unfold Yr
   rw [cI, if_pos (by omega), Yk (by omega), Je, J4 (by simp; omega), Je, hlast, hat, Je, cI]
   split
   ·rw [gSet_ok (by omega) (by simp), Je]
    unfold Wr
    rw [J4 (by omega), Je, Int.toNat_natCast]
    simp
   ·rw [Yf (by simp; omega), Je]
    unfold Wr
    rw [J4 (by omega), Je]; rfl
  rw [List.drop_eq_getElem_cons (show i < t13.2.1.length by omega)]
  unfold Wt
  split
  ·rename_i h
   rw [Qw _ fun next => by show Yr t13 next (i : Int) (pre ++ [c]) = _; rw [hh next, if_pos h]]
   exact ih (i + 1) pre _ (by omega) (by omega)
  ·rename_i h
   rw [Qw _ fun next => by show Yr t13 next (i : Int) (pre ++ [c]) = _; rw [hh next, if_neg h]]
   rw [ih (i + 1) (pre ++ [c]) _ (by omega) (by simp; omega)]
   simp
theorem used_eq {s : List UInt8} {f : T_tag_File} {ps : List T_tag_Span} {e : Int} (h : tag_read s 1 = some (f, ps, e)) (hp : e = 0 → ps.length ≤ 65000) : Um s = some (if e = 0 then (Wt ⟨0, 8⟩ ps, 0) else ([], e)) := by
 unfold Um
 rw [h, Je, cI]
 by_cases he : e = 0
 ·rw [if_neg (by simp [he]), if_pos he]
  have := used_loop (f, ps, e) (hp he) ps.length 0 [] ⟨0, 8⟩ (by simp) (by simp)
  rw [List.drop_zero] at this
  exact this
 ·rw [if_pos he, if_neg he]
def holL (a : Int) : List T_tag_Span → List T_tag_Span
 | [] => []
 | y :: l => (if a < y.From then [⟨a, y.From⟩] else []) ++ holL y.To l
theorem holL_len : ∀ (l : List T_tag_Span) (a : Int), (holL a l).length ≤ l.length
 | [], a => by simp [holL]
 | y :: l, a => by
  unfold holL
  have := holL_len l y.To
  split <;> simp <;> omega
theorem holes_loop (l25 : List T_tag_Span) (ht : l25.length ≤ 70000) : ∀ (m i : Nat) (a : Int) (acc : List T_tag_Span), i + m = l25.length → acc.length ≤ i →
  V0 (fun next2 s => Y1 l25 next2 s.1 s.2.1 s.2.2) (a, (i : Int), acc) = some (acc ++ holL a (l25.drop i), 0) := by
 intro m
 induction m with
 | zero =>
  intro i a acc hi hp
  rw [List.drop_eq_nil_of_le (by omega)]
  refine Qm fun next => ?_
  show Y1 l25 next a (i : Int) acc = _
  unfold Y1
  rw [cI, if_neg (by omega)]
  unfold Us holL; simp
 | succ m ih =>
  intro i a acc hi hp
  rw [List.drop_eq_getElem_cons (show i < l25.length by omega)]
  unfold holL
  have hg : ∀ next : Int × Int × List T_tag_Span → Option (List T_tag_Span × Int), Y1 l25 next a (i : Int) acc = next ((l25[i]'(by omega)).To, ((i + 1 : Nat) : Int), acc ++ (if a < (l25[i]'(by omega)).From then [⟨a, (l25[i]'(by omega)).From⟩] else [])) := by
   intro next
   unfold Y1
   rw [cI, if_pos (by omega), Yk (by omega), Je, cI]
   unfold Wy
   split
   ·rw [Yf (by simp; omega), Je, J4 (by omega), Je]; rfl
   ·rw [J4 (by omega), Je, List.append_nil]; rfl
  rw [Qw _ hg, ih (i + 1) _ _ (by omega) (by split <;> simp <;> omega), List.append_assoc]
theorem holes_eq {s : List UInt8} {U : List T_tag_Span} {e : Int} (h : Um s = some (U, e)) (hU : U.length ≤ 65001) : tag_Holes s = some (if e = 0 then (holL 0 (U ++ [⟨(s.length : Int), (s.length : Int)⟩]), 0) else ([], e)) := by
 unfold tag_Holes
 rw [h, Je, cI]
 by_cases he : e = 0
 ·rw [if_neg (by simp [he]), if_pos he, Yf (by simp; omega), Je]
  have := holes_loop (U ++ [⟨(s.length : Int), (s.length : Int)⟩]) (by simp; omega) (U ++ [(⟨(s.length : Int), (s.length : Int)⟩ : T_tag_Span)]).length 0 0 [] (by simp) (by simp)
  rw [List.drop_zero] at this
  exact this
 ·rw [if_pos he, if_neg he]
def wov (n a : Int) : List T_tag_Span → List T_tag_Span
 | [] => if a < n then [⟨a, n⟩] else []
 | y :: l => (if a < y.From then [⟨a, y.From⟩] else []) ++ y :: wov n y.To l
def contig (n : Int) : Int → List T_tag_Span → Prop
 | a, [] => a = n
 | a, x :: l => x.From = a ∧ a < x.To ∧ contig n x.To l
theorem wov_perm (n : Int) : ∀ (l : List T_tag_Span) (a : Int), (wov n a l).Perm (l ++ holL a (l ++ [⟨n, n⟩]))
 | [], a => by unfold wov holL holL; simp
 | y :: l, a => by
  unfold wov
  rw [List.cons_append, List.cons_append]
  unfold holL
  have h := wov_perm n l y.To
  split
  ·refine (List.perm_middle (l₁ := [_]) (l₂ := wov n y.To l)).trans ((List.perm_cons y).2 ?_)
   rw [List.singleton_append, List.singleton_append]
   exact ((List.perm_cons _).2 h).trans List.perm_middle.symm
  ·rw [List.nil_append, List.nil_append]; exact (List.perm_cons y).2 h
theorem wov_contig {n : Int} : ∀ {l : List T_tag_Span} {a : Int}, sepS n a l → contig n a (wov n a l)
 | [], a, h => by
  unfold wov
  have : a ≤ n := h
  split
  ·exact ⟨rfl, by simp only; omega, rfl⟩
  ·show a = n; omega
 | y :: l, a, h => by
  obtain ⟨h1, h2, h3⟩ := h
  unfold wov
  split
  ·rename_i h; exact ⟨rfl, h, rfl, h2, wov_contig h3⟩
  ·have : y.From = a := by omega
   exact ⟨this, by omega, wov_contig h3⟩
theorem contig_from {n : Int} : ∀ {l : List T_tag_Span} {a : Int}, contig n a l → (∀ x ∈ l, a ≤ x.From) ∧ l.Pairwise fun x y => x.From < y.From
 | [], a, h => ⟨by simp, List.Pairwise.nil⟩
 | x :: l, a, h => by
  obtain ⟨h1, h2, h3⟩ := h
  obtain ⟨g1, g2⟩ := contig_from h3
  refine ⟨fun y hy => ?_, List.pairwise_cons.2 ⟨fun y hy => by have := g1 y hy; omega, g2⟩⟩
  rcases List.mem_cons.1 hy with h | h
  ·rw [h]; omega
  ·have := g1 y h; omega
theorem froms_uniq : ∀ {l : List T_tag_Span}, (l.Pairwise fun x y => x.From < y.From) → ∀ x ∈ l, ∀ y ∈ l, x.From = y.From → x = y
 | [], _, x, hx, _, _, _ => by simp at hx
 | z :: l, h, x, hx, y, hy, e => by
  obtain ⟨h1, h2⟩ := List.pairwise_cons.1 h
  rcases List.mem_cons.1 hx with a | a <;> rcases List.mem_cons.1 hy with b | b
  ·rw [a, b]
  ·have := h1 y b; rw [a] at e; omega
  ·have := h1 x a; rw [b] at e; omega
  ·exact froms_uniq h2 x a y b e
theorem Uj (x y : T_tag_Span) : Xm x y = some (cmpI x.From y.From) := by
 unfold Xm
 rw [compare_eq, Je]
theorem froms_pre : CmpPre Xm where
 tot x y := ⟨_, Uj x y⟩
 flip x y := by
  rw [Uj, Uj]; simp only [Option.getD_some, cmpI]
  (repeat' split) <;> omega
 trans x y z := by
  rw [Uj, Uj, Uj]; simp only [Option.getD_some, cmpI]
  (repeat' split) <;> omega
theorem sort_all {n : Int} {U : List T_tag_Span} (h : sepS n 0 U) (hU : U.length ≤ 70000) : gSortU (U ++ holL 0 (U ++ [⟨n, n⟩])) Xm = some (wov n 0 U) := by
 have hp := wov_perm n U 0
 have hc := contig_from (wov_contig h)
 have hu : ∀ x ∈ wov n 0 U, ∀ y ∈ wov n 0 U, (Xm x y).getD 0 = 0 → x = y := by
  intro x hx y hy he
  rw [Uj, Option.getD_some] at he
  have hxy : x.From = y.From := by unfold cmpI at he; (repeat' split at he) <;> omega
  exact froms_uniq hc.2 x hx y hy hxy
 have hu' : ∀ x ∈ U ++ holL 0 (U ++ [⟨n, n⟩]), ∀ y ∈ U ++ holL 0 (U ++ [⟨n, n⟩]), (Xm x y).getD 0 = 0 → x = y := fun x hx y hy => hu x (hp.mem_iff.2 hx) y (hp.mem_iff.2 hy)
 have hlen := holL_len (U ++ [⟨n, n⟩]) 0
 rw [gSortU_ok ⟨by rw [List.length_append]; simp at hlen; omega, froms_pre, hu'⟩, ← sortU_is froms_pre hu' hp (hc.2.imp fun {x y} h => by
  unfold leC
  rw [Uj, Option.getD_some, decide_eq_true_iff]; unfold cmpI; rw [if_pos h]; decide)]
theorem concat2 (A B : List T_tag_Span) (hA : A.length + B.length ≤ 1000000) : Ze [A, B] = some (A ++ B) := by
 unfold Ze
 rw [Qw ((A.length : Int), (1 : Int)) fun next => by
  show J9 [A, B] next 0 0 = _
  unfold J9
  rw [cI, if_pos (by simp), show Vn [A, B] 0 = some A from rfl, Je, J4 (by omega), Je, cI, if_neg (by omega), J4 (by omega), Je]
  simp,
 Qw ((A.length : Int) + (B.length : Int), (2 : Int)) fun next => by
  show J9 [A, B] next (A.length : Int) 1 = _
  unfold J9
  rw [cI, if_pos (by simp), show Vn [A, B] 1 = some B from rfl, Je, J4 (by omega), Je, cI, if_neg (by omega), J4 (by omega), Je]; rfl,
 Qm (o := some (A ++ B)) fun next => by
  show J9 [A, B] next ((A.length : Int) + (B.length : Int)) 2 = _
  unfold J9
  rw [cI, if_neg (by simp)]
  unfold Yt
  rw [gGroC_ok (by omega), Je]
  rw [Qw ((1 : Int), A) fun next => by
   show Qa [A, B] _ next 0 [] = _
   unfold Qa
   rw [cI, if_pos (by simp), show Vn [A, B] 0 = some A from rfl, Je, gApC_ok (by simp; omega), Je, J4 (by omega), Je]; simp,
  Qw ((2 : Int), A ++ B) fun next => by
   show Qa [A, B] _ next 1 A = _
   unfold Qa
   rw [cI, if_pos (by simp), show Vn [A, B] 1 = some B from rfl, Je, gApC_ok (by omega), Je, J4 (by omega), Je]; rfl]
  exact Qm fun next => by
   show Qa [A, B] _ next 2 (A ++ B) = _
   unfold Qa
   rw [cI, if_neg (by simp)]]
def padH (x : T_tag_Span) : Prop := x.To = x.From + 1 ∧ x.From % 2 ≠ 0 ∧ 0 ≤ x.From ∧ x.From ≤ 65000
theorem rem2 {a : Int} (h : 0 ≤ a) : gRem a 2 = some (a % 2) := by
 unfold gRem
 rw [if_neg (by decide), Int.tmod_eq_emod_of_nonneg h]
theorem holes_seen (t23 : List UInt8 × Int) (i : Int) (next1 : Int → Option Bool) (H : List T_tag_Span) (hh : i = 1 → t23.2 = 0 → ∀ y ∈ H, padH y) (hH : H.length ≤ 1000000) : ∀ m k : Nat, k + m = H.length →
  V0 (fun next4 s => Ye t23 i next1 H next4 s) (k : Int) = Y0 i next1 := by
 intro m
 induction m with
 | zero =>
  intro k hk
  refine Qm fun next => ?_
  unfold Ye
  rw [cI, if_neg (by omega)]
 | succ m ih =>
  intro k hk
  refine Eq.trans (Qw ((k + 1 : Nat) : Int) fun next => ?_) (ih (k + 1) (by omega))
  unfold Ye
  have hj : Yv (k : Int) next = next ((k + 1 : Nat) : Int) := by
   unfold Yv
   rw [J4 (by omega), Je]; rfl
  rw [cI, if_pos (by omega), Yk (by omega), Je, cI, cI]
  by_cases h1 : i = 1
  ·rw [if_pos h1]
   by_cases h0 : t23.2 = 0
   ·obtain ⟨p1, p2, p3, p4⟩ := hh h1 h0 (H[k]'(by omega)) (List.getElem_mem _)
    rw [if_pos h0, J4 (by omega), Je, cI, if_neg (by simp [p1]), rem2 p3, Je, cI, if_neg p2, hj]
   ·rw [if_neg h0, hj]
  ·rw [if_neg h1, hj]
theorem all_seen (t23 : List UInt8 × Int) (i : Int) (next1 : Int → Option Bool) (x : List UInt8) (t42 : List T_tag_Span × Int) (all : List T_tag_Span) (hl : all.length ≤ 1000000) : ∀ (m k : Nat) (a : Int), k + m = all.length → contig (x.length : Int) a (all.drop k) →
  V0 (fun next6 s => Xo t23 i next1 x t42 all next6 s.1 s.2) (a, (k : Int)) = Va t23 i next1 x (x.length : Int) t42.1 := by
 intro m
 induction m with
 | zero =>
  intro k a hk hc
  rw [List.drop_eq_nil_of_le (by omega)] at hc
  have ha : a = (x.length : Int) := hc
  rw [ha]
  refine Qm fun next => ?_
  show Xo t23 i next1 x t42 all next (x.length : Int) (k : Int) = _
  unfold Xo
  rw [cI, if_neg (by omega)]
 | succ m ih =>
  intro k a hk hc
  rw [List.drop_eq_getElem_cons (show k < all.length by omega)] at hc
  obtain ⟨h1, h2, h3⟩ := hc
  refine Eq.trans (Qw ((all[k]'(by omega)).To, ((k + 1 : Nat) : Int)) fun next => ?_) (ih (k + 1) _ (by omega) h3)
  show Xo t23 i next1 x t42 all next a (k : Int) = _
  unfold Xo
  rw [cI, if_pos (by omega), Yk (by omega), Je, cI, if_neg (by simp [h1]), cI, if_neg (by omega), J4 (by omega), Je]
  rfl
theorem round (a1 : List UInt8) (t23 : List UInt8 × Int) (next1 : Int → Option Bool) (i : Int) (hi : 0 ≤ i ∧ i < 2) {x : List UInt8} (hx : Vn [a1, t23.1] i = some x)
  (hh : i = 1 → t23.2 = 0 → ∀ U, Um x = some (U, 0) → ∀ y ∈ holL 0 (U ++ [⟨(x.length : Int), (x.length : Int)⟩]), padH y) :
  Yd a1 t23 next1 i = next1 (i + 1) := by
 have hj : Y0 i next1 = next1 (i + 1) := by
  unfold Y0
  rw [J4 (by omega), Je]
 obtain ⟨f, ps, e, hr, h0⟩ := read_ok x (fd := 1) (by omega)
 have hps : e = 0 → ps.length ≤ 65000 := fun he => by
  obtain ⟨h1, h2⟩ := h0 he
  have := (sepS_end h2).2.1
  omega
 have hU := used_eq hr hps
 unfold Yd
 rw [cI, if_pos hi.2, hx, Je, hU, Je]
 by_cases he : e = 0
 ·obtain ⟨h65, hsep⟩ := h0 he
  have hsU : sepS (x.length : Int) 0 (Wt ⟨0, 8⟩ ps) := used_sep ps ⟨0, 8⟩ 0 (by simp) (by simp) hsep
  have hl := hps he
  have hul := usedL_len ps ⟨0, 8⟩
  rw [if_pos he] at hU ⊢
  have hH := holes_eq hU (by omega)
  rw [if_pos rfl] at hH
  have hhl := holL_len (Wt ⟨0, 8⟩ ps ++ [⟨(x.length : Int), (x.length : Int)⟩]) 0
  rw [List.length_append, List.length_singleton] at hhl
  have hwl : (wov (x.length : Int) 0 (Wt ⟨0, 8⟩ ps)).length ≤ 1000000 := by
   rw [(wov_perm _ _ _).length_eq, List.length_append]; omega
  have hcat := concat2 (Wt ⟨0, 8⟩ ps) (holL 0 (Wt ⟨0, 8⟩ ps ++ [(⟨(x.length : Int), (x.length : Int)⟩ : T_tag_Span)])) (by omega)
  rw [hH, Je, cI, if_neg (by simp), cI, if_neg (by simp)]
  dsimp only
  rw [hcat, Je, sort_all hsU (by omega), Je]
  refine (all_seen t23 i next1 x _ _ hwl (wov (x.length : Int) 0 (Wt ⟨0, 8⟩ ps)).length 0 0 (by omega) (by rw [List.drop_zero]; exact wov_contig hsU)).trans ?_
  unfold Va
  rw [cI, if_neg (by simp)]
  exact (holes_seen t23 i next1 (holL 0 (Wt ⟨0, 8⟩ ps ++ [(⟨(x.length : Int), (x.length : Int)⟩ : T_tag_Span)])) (fun h1 h2 => hh h1 h2 _ hU) (by omega) _ 0 (Nat.zero_add _)).trans hj
 ·rw [if_neg he] at hU ⊢
  have hH := holes_eq hU (by simp)
  rw [if_neg he] at hH
  rw [hH, Je, cI, if_neg (by simp), cI, if_pos he, hj]
theorem awake_eq : Uh = some true := by
 unfold Uh
 have h : tag_Lowest ⟨2, 4⟩ = some (⟨1, 2⟩, 0) := by
  have hc : tag_checkRatio ⟨2, 4⟩ = some 0 := by rfl
  unfold tag_Lowest
  rw [hc, Je, cI, if_neg (by decide)]
  rw [Qw ((4 : Int), (2 : Int)) fun next => by
   show X9 _ next 2 4 = _
   unfold X9
   rw [cI, if_pos (by decide)]; rfl,
  Qw ((2 : Int), (0 : Int)) fun next => by
   show X9 _ next 4 2 = _
   unfold X9
   rw [cI, if_pos (by decide)]; rfl]
  exact Qm fun next => by
   show X9 _ next 2 0 = _
   unfold X9
   rw [cI, if_neg (by decide)]; rfl
 rw [h, Je]
 rfl
theorem spans_of {f : T_tag_File} {s w : List UInt8} {e : Int} (hw : tag_Write f = some (w, e)) (hh : e = 0 → ∀ U, Um w = some (U, 0) → ∀ y ∈ holL 0 (U ++ [⟨(w.length : Int), (w.length : Int)⟩]), padH y) : Wh f s = some true := by
 unfold Wh
 rw [awake_eq, Je, Bool.not_true, Xi, hw, Je]
 rw [Qw (1 : Int) fun next => round s (w, e) next 0 (by omega) (x := s) rfl (fun h => absurd h (by decide)),
  Qw (2 : Int) fun next => round s (w, e) next 1 (by omega) (x := w) rfl (fun _ h0 => hh h0)]
 exact Qm fun next => by
  unfold Yd
  rw [cI, if_neg (by decide)]
end Go.M

/- What was written is read back: numbers, values, entries, in plain Lean. Conditions: none. -/
namespace Go.M
open Go.Md Go.Pl
set_option linter.unusedVariables false
def digs (n : Int) (k : Nat) : List Int := (List.range k).map fun i => wU8 (n / 2 ^ (8 * i))
theorem digs_len (n : Int) (k : Nat) : (digs n k).length = k := by simp [digs]
theorem digs_succ (n : Int) (k : Nat) : digs n (k + 1) = digs n k ++ [wU8 (n / 2 ^ (8 * k))] := by
 unfold digs; rw [List.range_succ, List.map_append]; rfl
def partN (big : Bool) (n : Int) (k i : Nat) : List Int := if big then List.replicate (k - i) 0 ++ (digs n i).reverse else digs n i ++ List.replicate (k - i) 0
theorem partN_set {n : Int} {k i : Nat} (h : i < k) (big : Bool) : (partN big n k i).set (if big then k - 1 - i else i) (wU8 (n / 2 ^ (8 * i))) = partN big n k (i + 1) := by
 obtain ⟨m, hm⟩ : ∃ m, k - i = m + 1 := ⟨k - i - 1, by omega⟩
 have hm2 : k - (i + 1) = m := by omega
 unfold partN
 rw [hm, hm2, digs_succ]
 cases big
 ·simp only [Bool.false_eq_true, if_false]
  rw [List.set_append_right _ _ (by rw [digs_len]; exact Nat.le_refl _), digs_len, Nat.sub_self, List.replicate_succ, List.set_cons_zero, List.append_assoc]; rfl
 ·simp only [if_true]
  rw [List.reverse_append, List.replicate_succ', List.append_assoc, show k - 1 - i = m by omega, List.set_append_right _ _ (by simp), List.length_replicate, Nat.sub_self]
  rfl
theorem num_dig (big : Bool) (n : Int) (k : Nat) (hk : k ≤ 8) : Jj big n k = some (partN big n k k) := by
 have key : ∀ m i : Nat, i + m = k → V0 (fun next1 s => Qz big n k (List.replicate k 0) next1 s.1 s.2) ((i : Int), partN big n k i) = some (partN big n k k) := by
  intro m
  induction m with
  | zero =>
   intro i hi
   have : i = k := by omega
   subst this
   refine Qm fun next => ?_
   show Qz big n i _ next (i : Int) _ = _
   unfold Qz
   rw [cI, if_neg (by rw [List.length_replicate]; omega)]
  | succ m ih =>
   intro i hi
   have hl : (partN big n k i).length = k := by unfold partN; cases big <;> simp [digs_len] <;> omega
   have hsh : gShr 64 n (8 * (i : Int)) = some (n / 2 ^ (8 * i)) := by
    unfold gShr
    rw [if_pos (by omega), show min (8 * (i : Int)).toNat 64 = 8 * i by omega]
   refine Eq.trans (Qw ((i : Int) + 1, (partN big n k i).set (if big then k - 1 - i else i) (wU8 (n / 2 ^ (8 * i)))) fun next => ?_) ?_
   ·show Qz big n k (List.replicate k 0) next (i : Int) (partN big n k i) = _
    unfold Qz
    rw [cI, if_pos (by rw [List.length_replicate]; omega)]
    cases big
    ·rw [Xi]
     unfold Zh
     rw [J4 (by omega), Je, hsh, Je, Yk (by omega), Je, gSet_ok (by omega) (by omega), Je, J4 (by omega), Je, Int.toNat_natCast]; rfl
    ·rw [Y3, J4 (by omega), Je, J4 (by omega), Je]
     unfold Zh
     rw [J4 (by omega), Je, hsh, Je, gAt_ok (by omega) (by omega), Je, gSet_ok (by omega) (by omega), Je, J4 (by omega), Je, show ((k : Int) - 1 - (i : Int)).toNat = k - 1 - i from by omega]; rfl
   ·rw [partN_set (by omega)]
    exact ih (i + 1) (by omega)
 unfold Jj
 rw [gMake_ok (by omega), Je, Int.toNat_natCast]
 have h0 : partN big n k 0 = List.replicate k 0 := by unfold partN digs; cases big <;> simp
 have := key k 0 (by omega)
 rw [h0] at this
 exact this
theorem numS_dig (big : Bool) (n : Int) (k : Nat) (hk : k ≤ 8) : Xl big n k = Vw (if big then (digs n k).reverse else digs n k) := by
 unfold Xl
 rw [num_dig big n k hk, Option.getD_some]
 unfold partN
 cases big <;> simp
theorem valB_num (big : Bool) (n : Int) (k : Nat) (hk : k ≤ 8) : Wu big (Xl big n k) = (Vw (digs n k).reverse).foldl (fun v b => v * 256 + b.toNat) 0 := by
 rw [numS_dig big n k hk]
 unfold Wu
 cases big
 ·simp only [Bool.false_eq_true, if_false]
  unfold Vw; rw [← List.map_reverse]
 ·simp only [if_true]
theorem oct_dig (x : Int) : ((UInt8.ofNat (wU8 x).toNat).toNat : Int) = x % 256 := by
 rw [UInt8.toNat_ofNat']; unfold wU8; omega
theorem emod_two (n : Int) {B : Int} (hB : 0 < B) : n % (B * 256) = n % B + B * (n / B % 256) := by
 have h1 := Int.mul_ediv_add_emod n B
 have h2 := Int.mul_ediv_add_emod (n / B) 256
 have h3 := Int.emod_nonneg n (show B ≠ 0 by omega)
 have h4 := Int.emod_lt_of_pos n hB
 have h5 : 0 ≤ n / B % 256 ∧ n / B % 256 ≤ 255 := by omega
 have h6 : B * (n / B % 256) ≤ B * 255 := Int.mul_le_mul_of_nonneg_left h5.2 (by omega)
 have h7 : 0 ≤ B * (n / B % 256) := Int.mul_nonneg (by omega) h5.1
 have e : n = (n % B + B * (n / B % 256)) + (B * 256) * (n / B / 256) := by
  have h8 : B * (n / B) = B * (256 * (n / B / 256)) + B * (n / B % 256) := by rw [← Int.mul_add, h2]
  rw [Int.mul_assoc]; omega
 conv => lhs; rw [e]
 rw [Int.add_mul_emod_self_left, Int.emod_eq_of_lt (by omega) (by omega)]
theorem fold_dig (n : Int) : ∀ (k v : Nat), (((Vw (digs n k).reverse).foldl (fun v b => v * 256 + b.toNat) v : Nat) : Int) = v * 256 ^ k + n % 256 ^ k
 | 0, v => by simp [digs, Vw]
 | k + 1, v => by
  rw [digs_succ, List.reverse_append]
  show (((Vw ([wU8 (n / 2 ^ (8 * k))] ++ (digs n k).reverse)).foldl _ v : Nat) : Int) = _
  unfold Vw
  rw [List.map_append, List.map_singleton, List.singleton_append, List.foldl_cons]
  have := fold_dig n k (v * 256 + (UInt8.ofNat (wU8 (n / 2 ^ (8 * k))).toNat).toNat)
  unfold Vw at this
  rw [this]
  have e : (2 : Int) ^ (8 * k) = 256 ^ k := by rw [Int.pow_mul]; rfl
  rw [Int.natCast_add, Int.natCast_mul, oct_dig, e]
  have hm := emod_two n (B := 256 ^ k) (Int.pow_pos (by decide))
  rw [Int.pow_succ, hm, Int.add_mul, Int.mul_comm (256 ^ k) (n / 256 ^ k % 256)]
  have : (v : Int) * ((256 : Nat) : Int) * 256 ^ k = v * (256 ^ k * 256) := by
   rw [show ((256 : Nat) : Int) = 256 from rfl, Int.mul_assoc, Int.mul_comm 256]
  omega
theorem val_num (big : Bool) (n : Int) (k : Nat) (hk : k ≤ 8) : (Wu big (Xl big n k) : Int) = n % 256 ^ k := by
 rw [valB_num big n k hk, fold_dig]; simp
theorem val_num2 (big : Bool) {n : Int} (h : 0 ≤ n ∧ n ≤ 65535) : (Wu big (Xl big n 2) : Int) = n := by
 rw [val_num _ _ _ (by omega)]; omega
theorem W1 (big : Bool) {n : Int} (h : 0 ≤ n ∧ n ≤ 4294967295) : (Wu big (Xl big n 4) : Int) = n := by
 rw [val_num _ _ _ (by omega)]; omega
def win (s : List UInt8) (a : Nat) (bs : List UInt8) : Prop := (s.drop a).take bs.length = bs
theorem win_len {s : List UInt8} {a : Nat} {bs : List UInt8} (h : win s a bs) (hb : bs ≠ []) : a + bs.length ≤ s.length := by
 unfold win at h
 have := congrArg List.length h
 rw [List.length_take, List.length_drop] at this
 have h0 : 0 < bs.length := List.length_pos_iff.2 hb
 omega
theorem Vz {s : List UInt8} {a : Nat} {x y : List UInt8} (h : win s a (x ++ y)) : win s a x ∧ win s (a + x.length) y := by
 unfold win at *
 rw [List.length_append] at h
 have h1 := congrArg (List.take x.length) h
 have h2 := congrArg (List.drop x.length) h
 rw [List.take_take, Nat.min_eq_left (by omega), List.take_left'  rfl] at h1
 rw [List.drop_take, List.drop_drop, List.drop_left' rfl, show x.length + y.length - x.length = y.length by omega] at h2
 exact ⟨h1, h2⟩
theorem win_val {s : List UInt8} {a k : Nat} {bs : List UInt8} (h : win s a bs) (hk : bs.length = k) : (s.drop a).take k = bs := by rw [← hk]; exact h
theorem flat_at {α : Type} {g : α → List UInt8} {w : Nat} (hg : ∀ x, (g x).length = w) : ∀ (xs : List α) (i : Nat) (h : i < xs.length), ((xs.flatMap g).drop (i * w)).take w = g (xs[i]'h)
 | x :: xs, 0, _ => by
  rw [Nat.zero_mul, List.drop_zero, List.flatMap_cons, List.take_left' (hg x)]; rfl
 | x :: xs, i + 1, h => by
  rw [List.flatMap_cons, Nat.add_mul, Nat.one_mul, Nat.add_comm, ← List.drop_drop, List.drop_left' (hg x)]
  exact flat_at hg xs i (by simpa using h)
theorem list_back {α : Type} {g : α → List UInt8} {w : Nat} (hg : ∀ x, (g x).length = w) (xs : List α) (f : Nat → α) (hf : ∀ i (h : i < xs.length), f i = xs[i]'h) : (List.range xs.length).map f = xs := by
 apply List.ext_getElem
 ·simp
 ·intro i h1 h2
  rw [List.getElem_map, List.getElem_range, hf i h2]
theorem plain_ok {v : T_tag_Value} (h : plainE v = 0) : okV v ∧ (∀ n ∈ v.Ints, (limS v.Kind).1 ≤ n ∧ n ≤ (limS v.Kind).2) ∧ (∀ r ∈ v.Ratios, ¬ ratP r) ∧ (v.Kind = 2 → (0 : UInt8) ∉ v.Text) := by
 unfold plainE at h
 split at h
 ·rename_i h0; exact absurd h h0
 split at h
 ·exact absurd h (by decide)
 split at h
 ·exact absurd h (by decide)
 split at h
 ·exact absurd h (by decide)
 rename_i h1 h2 h3 h4
 refine ⟨fields_ok (Classical.byContradiction fun h => h1 h), fun n hn => ?_, fun r hr hp => h3 ⟨r, hr, hp⟩, fun hk hm => h4 ⟨hk, hm⟩⟩
 exact Classical.byContradiction fun hc => h2 ⟨n, hn, by omega⟩
theorem valT_back (r : T_tag_reader) {v : T_tag_Value} (h : plainE v = 0) (h13 : v.Kind ≠ 13) : valT r v.Kind (cntS v) (V4 r.big_ v) = (v, r) := by
 obtain ⟨hok, hi, hr, ht⟩ := plain_ok h
 obtain ⟨p1, p2, p3⟩ := ok_parts hok
 have hE : v.Entries = [] := by
  have := hok.2
  unfold formP at this
  exact Classical.byContradiction fun hc => this (.inr (.inr (.inr ⟨h13, hc⟩)))
 have hkind := hok.1
 unfold valT V4 cntS
 by_cases h2 : v.Kind = 2
 ·have hI : v.Ints = [] := p1 (by unfold W3; omega)
  have hR : v.Ratios = [] := p3 (by omega)
  rw [if_pos h2, if_pos h2, if_neg (by simp), List.dropLast_concat, if_neg (ht h2)]
  cases v; simp only at h2 hI hR hE ⊢; rw [h2, hI, hR, hE]
 rw [if_neg h2, if_neg h2, if_neg h2]
 by_cases h7 : v.Kind = 7
 ·have hI : v.Ints = [] := p1 (by unfold W3; omega)
  have hR : v.Ratios = [] := p3 (by omega)
  rw [if_pos h7, if_pos h7]
  cases v; simp only at h7 hI hR hE ⊢; rw [h7, hI, hR, hE]
 rw [if_neg h7, if_neg h7, if_neg h7]
 have hT : v.Text = [] := p2 (by unfold textK; omega)
 by_cases h5 : v.Kind = 5
 ·have hI : v.Ints = [] := p1 (by unfold W3; omega)
  rw [if_pos h5, if_pos h5, if_pos h5]
  have hb : (List.range v.Ratios.length).map (ratR r.big_ (v.Ratios.flatMap (ratS r.big_))) = v.Ratios := by
   refine list_back (ratS_len r.big_) v.Ratios _ fun i hi' => ?_
   have hw := flat_at (ratS_len r.big_) v.Ratios i hi'
   have hn := hr _ (List.getElem_mem hi')
   unfold ratP at hn
   have e1 : ((v.Ratios.flatMap (ratS r.big_)).drop (8 * i)).take 4 = Xl r.big_ (v.Ratios[i]'hi').Num 4 := by
    have := congrArg (List.take 4) hw
    rw [List.take_take, Nat.mul_comm, show min 4 8 = 4 from rfl] at this
    rw [this]; unfold ratS; rw [List.take_left' (Qh _ _ (by omega))]
   have e2 : ((v.Ratios.flatMap (ratS r.big_)).drop (8 * i + 4)).take 4 = Xl r.big_ (v.Ratios[i]'hi').Den 4 := by
    have := congrArg (List.drop 4) hw
    rw [List.drop_take, List.drop_drop, Nat.mul_comm] at this
    rw [this]; unfold ratS; rw [List.drop_left' (Qh _ _ (by omega))]
   unfold ratR
   rw [e1, e2, W1 _ (by omega), W1 _ (by omega)]
  rw [hb]
  cases v; simp only at h5 hI hT hE ⊢; rw [h5, hI, hT, hE]
 ·have hR : v.Ratios = [] := p3 h5
  have hK : W3 v.Kind := by unfold kindP textK W3 at hkind; unfold W3; omega
  rw [if_neg h5, if_neg h5, if_neg h5, if_neg h13]
  have hw8 := Ui v.Kind
  have hlen : ∀ n : Int, (Xl r.big_ n (Qe v.Kind)).length = Qe v.Kind := fun n => Qh _ _ hw8
  have hb : (List.range v.Ints.length).map (intR r.big_ v.Kind (v.Ints.flatMap fun n => Xl r.big_ n (Qe v.Kind))) = v.Ints := by
   refine list_back hlen v.Ints _ fun i hi' => ?_
   have hw := flat_at hlen v.Ints i hi'
   have hn := hi _ (List.getElem_mem hi')
   unfold intR
   rw [hw, val_num _ _ _ hw8]
   unfold limS at hn
   unfold W3 at hK
   rcases hK with hk | hk | hk | hk <;> rw [hk] at hn ⊢ <;> simp only [Qe] at hn ⊢ <;> simp at hn ⊢
   ·omega
   ·omega
   ·omega
   ·unfold wI64 wI32; omega
  rw [hb]
  cases v; simp only at hR hT hE ⊢; rw [hR, hT, hE]
end Go.M

/- What was written is read back: directories, in plain Lean. Conditions: none. -/
namespace Go.M
open Go.Md Go.Pl
set_option linter.unusedVariables false
def fresh (sn : List (Int × Bool)) (p : Nat) : Prop := ∀ k : Nat, p ≤ k → (mGet sn (k : Int)).getD false = false
theorem mGet_other (v : Bool) {k x : Int} (h : x ≠ k) : ∀ m : List (Int × Bool), mGet (Uv m k v) x = mGet m x := by
 have h1 : ∀ m : List (Int × Bool), mGet (m.map fun p => if p.1 = k then (k, v) else p) x = mGet m x := by
  intro m
  unfold mGet
  induction m with
  | nil => rfl
  | cons a m ih =>
   rw [List.map_cons, List.find?_cons, List.find?_cons]
   by_cases ha : a.1 = k
   ·rw [if_pos ha, decide_eq_false (show ¬ (k, v).1 = x from fun e => h e.symm), decide_eq_false (show ¬ a.1 = x from fun e => h (e.symm.trans ha))]
    exact ih
   ·rw [if_neg ha]
    by_cases hx : a.1 = x
    ·rw [decide_eq_true hx]
    ·rw [decide_eq_false hx]; exact ih
 intro m
 unfold Uv
 split
 ·exact h1 m
 ·unfold mGet
  rw [List.find?_append, List.find?_cons, decide_eq_false (show ¬ (k, v).1 = x from fun e => h e.symm), List.find?_nil, Option.or_none]
theorem fresh_set {sn : List (Int × Bool)} {p q : Nat} (h : fresh sn p) (hq : p ≤ q) : fresh (Uv sn (q : Int) true) (q + 1) := fun k hk => by
 rw [mGet_other true (by omega)]; exact h k (by omega)
theorem fresh_mono {sn : List (Int × Bool)} {p q : Nat} (h : fresh sn p) (hq : p ≤ q) : fresh sn q := fun k hk => h k (by omega)
def entP (H : List T_tag_Entry → Nat → List T_tag_Span) (n : Nat) (e : T_tag_Entry) (q : Nat) : List T_tag_Span :=
 if e.Value.Kind = 13 then H e.Value.Entries q else if n ≤ 4 then [] else [⟨(ev q : Int), ((ev q + n : Nat) : Int)⟩]
noncomputable def bodP (G : List T_tag_Entry → Nat → List UInt8) (H : List T_tag_Entry → Nat → List T_tag_Span) (big : Bool) : List T_tag_Entry → Nat → List T_tag_Span
 | [], _ => []
 | e :: l, q => entP H (V4 big e.Value).length e q ++ bodP G H big l (q + (W4 G big e q).2.length)
noncomputable def dirP : Nat → Bool → List T_tag_Entry → Nat → List T_tag_Span
 | 0, _ => fun _ _ => []
 | d + 1, big => fun l p => ⟨(ev p : Int), ((ev p + (2 + 12 * l.length + 4) : Nat) : Int)⟩ :: bodP (Qu d big) (dirP d big) big l (ev p + 2 + 12 * l.length + 4)
noncomputable def fE (d : Nat) (e : T_tag_Entry) : Int := if e.Value.Kind ≠ 13 then plainE e.Value else if Vl e.Value ≠ 0 then Vl e.Value else dE d e.Value.Entries
theorem dE_succ {d : Nat} {l : List T_tag_Entry} (h : dE (d + 1) l = 0) : l.length ≤ 200 ∧ listE (fE d) none l = 0 := by
 unfold dE at h
 split at h
 ·omega
 ·exact ⟨by omega, h⟩
theorem listE_cons {f : T_tag_Entry → Int} {pr : Option Int} {e : T_tag_Entry} {l : List T_tag_Entry} (h : listE f pr (e :: l) = 0) : (0 ≤ e.Tag ∧ e.Tag ≤ 65535) ∧ (∀ t, pr = some t → ¬ e.Tag ≤ t) ∧ f e = 0 ∧ listE f (some e.Tag) l = 0 := by
 unfold listE at h
 split at h
 ·exact absurd h (by decide)
 split at h
 ·exact absurd h (by decide)
 split at h
 ·rename_i h3; exact absurd h h3
 rename_i h1 h2 h3
 exact ⟨by omega, fun t ht hle => h2 ⟨t, ht, hle⟩, Classical.byContradiction fun hc => h3 hc, h⟩
structure Back (r r' : T_tag_reader) (new : List T_tag_Span) (p : Nat) : Prop where
 s : r'.s_ = r.s_
 big : r'.big_ = r.big_
 dirs : r'.dirs_ = r.dirs_
 found : r'.found_ = r.found_
 no : r'.no_ = 0
 parts : r'.parts_ = r.parts_ ++ new
 seen : fresh r'.seen_ p
theorem Back.trans {a b c : T_tag_reader} {x y : List T_tag_Span} {p q : Nat} (h : Back a b x p) (g : Back b c y q) : Back a c (x ++ y) q :=
 ⟨g.s.trans h.s, g.big.trans h.big, g.dirs.trans h.dirs, g.found.trans h.found, g.no, by rw [g.parts, h.parts, List.append_assoc], g.seen⟩
def dwin (s : List UInt8) (d : Nat) (big : Bool) (l : List T_tag_Entry) (p nxt : Nat) : Prop :=
 win s (ev p) (Xl big l.length 2) ∧ win s (ev p + 2) (W2 (Qu d big) big l (ev p + 2 + 12 * l.length + 4)).1 ∧ win s (ev p + 2 + 12 * l.length) (Xl big nxt 4) ∧ win s (ev p + 2 + 12 * l.length + 4) (W2 (Qu d big) big l (ev p + 2 + 12 * l.length + 4)).2
theorem dwin_of {s : List UInt8} {d : Nat} {big : Bool} {l : List T_tag_Entry} {p : Nat} (h : win s p (Qu (d + 1) big l p)) : dwin s d big l p 0 := by
 have h' : win s p (dirB (Qu d big) big l p) := h
 unfold dirB at h'
 obtain ⟨h1, h5⟩ := Vz h'
 obtain ⟨h1, h4⟩ := Vz h1
 obtain ⟨h1, h3⟩ := Vz h1
 obtain ⟨h1, h2⟩ := Vz h1
 simp only [List.length_append, Uu, Qh _ _ (show 2 ≤ 8 by omega), bods_len, Z7] at h2 h3 h4 h5
 have e : p + p % 2 = ev p := rfl
 rw [e] at h2
 refine ⟨h2, ?_, ?_, ?_⟩
 ·rw [show ev p + 2 = p + (p % 2 + 2) by unfold ev; omega]; exact h3
 ·rw [show Xl big (0 : Nat) 4 = zer 4 from num_zero big (by omega), show ev p + 2 + 12 * l.length = p + (p % 2 + 2 + 12 * l.length) by unfold ev; omega]; exact h4
 ·rw [show ev p + 2 + 12 * l.length + 4 = p + (p % 2 + 2 + 12 * l.length + 4) by unfold ev; omega] at h5 ⊢; exact h5
def DirBack (d : Nat) (self : Vq) : Prop := ∀ (r : T_tag_reader) (p : Nat) (l : List T_tag_Entry) (path : List Int) (d' nxt : Nat), d = d' + 1 → path.length + d = 6 → dE d l = 0 → 8 ≤ p → r.s_.length ≤ 65000 → r.no_ = 0 → r.found_ ≤ 1 → r.dirs_ ≤ 20 → r.parts_.length + cap d ≤ 7999999999999 → fresh r.seen_ p →
 dwin r.s_ d' r.big_ l p nxt → (path.length = 1 ∨ nxt = 0) → nxt ≤ 4294967295 → ∃ r', self (r, ((ev p : Nat) : Int), path) = some (l, (nxt : Int), r') ∧ Back r r' (dirP d r.big_ l p) (p + (Qu d r.big_ l p).length)
theorem ent_eta (e : T_tag_Entry) : (⟨e.Tag, e.Value⟩ : T_tag_Entry) = e := by cases e; rfl
theorem val_at (r : T_tag_reader) {a k : Nat} {n : Int} (hk : k ≤ 8) (h : win r.s_ a (Xl r.big_ n k)) : (Qi r a k : Int) = (Wu r.big_ (Xl r.big_ n k) : Int) := by
 unfold Qi
 rw [win_val h (Qh _ _ hk)]
theorem entry_back {d : Nat} {self : Vq} (H : DirBack d self) (r : T_tag_reader) {path : List Int} (hpl : path.length + d + 1 = 6) {e : T_tag_Entry} (he : fE d e = 0) (ht : 0 ≤ e.Tag ∧ e.Tag ≤ 65535) {a y : Nat} (hy : 8 ≤ y) (hs : r.s_.length ≤ 65000) (hno : r.no_ = 0) (hf : r.found_ ≤ 1) (hd : r.dirs_ ≤ 20) (hp : r.parts_.length + cap d ≤ 7999999999999) (hfr : fresh r.seen_ y) (ha : a ≤ 65000)
  (w1 : win r.s_ a (hdrS r.big_ e ++ (W4 (Qu d r.big_) r.big_ e y).1)) (w2 : win r.s_ y (W4 (Qu d r.big_) r.big_ e y).2) (hyl : y ≤ r.s_.length) :
  ∃ r', entR self r a path = some (e, r') ∧ Back r r' (entP (dirP d r.big_) (V4 r.big_ e.Value).length e y) (y + (W4 (Qu d r.big_) r.big_ e y).2.length) := by
 obtain ⟨g1, g2⟩ := Vz w1
 unfold hdrS at g1
 obtain ⟨g1, g3⟩ := Vz g1
 obtain ⟨g1, g4⟩ := Vz g1
 simp only [List.length_append, Qh _ _ (show 2 ≤ 8 by omega)] at g3 g4
 rw [hdr_len] at g2
 have g3 : win r.s_ (a + 4) (Xl r.big_ (cntS e.Value) 4) := g3
 have vt : (Qi r a 2 : Int) = e.Tag := by rw [val_at r (by omega) g1, val_num2 _ ht]
 have hevy : ev y ≤ y + 1 := by unfold ev; omega
 unfold entR
 by_cases h13 : e.Value.Kind = 13
 ·have vk : (Qi r (a + 2) 2 : Int) = 13 := by rw [val_at r (by omega) g4, val_num2 _ (by omega), h13]
  have hc1 : cntS e.Value = 1 := by unfold cntS; rw [h13]; rfl
  have vc : Qi r (a + 4) 4 = 1 := by
   have := val_at r (by omega) g3
   rw [hc1] at this
   have h2 := W1 r.big_ (n := ((1 : Nat) : Int)) (by omega)
   omega
  unfold fE at he
  rw [if_neg (by simp [h13]), fields13 h13] at he
  have hf0 : ¬ (e.Value.Text ≠ [] ∨ e.Value.Ints ≠ [] ∨ e.Value.Ratios ≠ []) := fun hc => by rw [if_pos hc] at he; simp at he
  rw [if_neg hf0] at he
  have hdE : dE d e.Value.Entries = 0 := by simpa using he
  obtain ⟨d', rfl⟩ : ∃ d', d = d' + 1 := by
   cases d with
   | zero => exact absurd hdE (by unfold dE; decide)
   | succ d => exact ⟨d, rfl⟩
  have eF : W4 (Qu (d' + 1) r.big_) r.big_ e y = (Xl r.big_ (ev y) 4, Qu (d' + 1) r.big_ e.Value.Entries y) := by unfold W4; rw [if_pos h13]
  rw [eF] at g2 w2 ⊢
  have va : (Qi r (a + 8) 4 : Int) = (ev y : Int) := by rw [val_at r (by omega) g2, W1 _ (by omega)]
  obtain ⟨r', q1, q2⟩ := H r y e.Value.Entries (path ++ [e.Tag]) d' 0 rfl (by simp; omega) hdE hy hs hno hf hd hp hfr (dwin_of w2) (.inr rfl) (by omega)
  refine ⟨r', ?_, ?_⟩
  ·rw [if_pos vk, if_pos vc, vt, va, q1, Je]
   have hv : e = ⟨e.Tag, ⟨13, [], [], [], e.Value.Entries⟩⟩ := by
    cases e with
    | mk t v =>
     cases v with
     | mk k tx is rs es =>
      simp only at h13 hf0
      have : tx = [] ∧ is = [] ∧ rs = [] := ⟨Classical.byContradiction fun h => hf0 (.inl h), Classical.byContradiction fun h => hf0 (.inr (.inl h)), Classical.byContradiction fun h => hf0 (.inr (.inr h))⟩
      rw [h13, this.1, this.2.1, this.2.2]
   conv => rhs; rw [hv]
  ·unfold entP; rw [if_pos h13]; exact q2
 ·unfold fE at he
  rw [if_pos h13] at he
  obtain ⟨hok, _⟩ := plain_ok he
  have hk0 : 0 ≤ e.Value.Kind ∧ e.Value.Kind ≤ 65535 := by have := hok.1; unfold kindP W3 textK at this; omega
  have vk : (Qi r (a + 2) 2 : Int) = e.Value.Kind := by rw [val_at r (by omega) g4, val_num2 _ hk0]
  have hw0 : Qe e.Value.Kind ≠ 0 := fun h => (wide_zero e.Value.Kind h13).1 (by omega) hok.1
  have hcw := octS_len r.big_ hok h13
  have hcle : cntS e.Value ≤ cntS e.Value * Qe e.Value.Kind := Nat.le_mul_of_pos_right _ (by omega)
  by_cases h4 : (V4 r.big_ e.Value).length ≤ 4
  ·have eF : W4 (Qu d r.big_) r.big_ e y = (V4 r.big_ e.Value ++ zer (4 - (V4 r.big_ e.Value).length), []) := by unfold W4; rw [if_neg h13, if_pos h4]
   rw [eF] at g2 w2 ⊢
   have vc : Qi r (a + 4) 4 = cntS e.Value := by
    have := val_at r (by omega) g3
    have h2 := W1 r.big_ (n := ((cntS e.Value : Nat) : Int)) (by omega)
    omega
   refine ⟨r, ?_, ?_⟩
   ·rw [if_neg (by rw [vk]; exact h13), if_neg (by rw [vk]; exact hw0), vt, vk, vc]
    unfold valR
    rw [if_neg (by omega), win_val (Vz g2).1 hcw, valT_back r he h13]
    dsimp only
    rw [ent_eta]
   ·unfold entP; rw [if_neg h13, if_pos h4]
    exact ⟨rfl, rfl, rfl, rfl, hno, by simp, fresh_mono hfr (by omega)⟩
  ·have eF : W4 (Qu d r.big_) r.big_ e y = (Xl r.big_ (ev y) 4, pad y ++ V4 r.big_ e.Value) := by unfold W4; rw [if_neg h13, if_neg h4]
   rw [eF] at g2 w2 ⊢
   obtain ⟨_, w3⟩ := Vz w2
   rw [Uu] at w3
   have w3' : win r.s_ (ev y) (V4 r.big_ e.Value) := w3
   have hlen := win_len w3' (fun h => h4 (by rw [h]; simp))
   have va : Qi r (a + 8) 4 = ev y := by
    have := val_at r (by omega) g2
    have h2 := W1 r.big_ (n := ((ev y : Nat) : Int)) (by omega)
    omega
   have vc : Qi r (a + 4) 4 = cntS e.Value := by
    have := val_at r (by omega) g3
    have h2 := W1 r.big_ (n := ((cntS e.Value : Nat) : Int)) (by omega)
    omega
   have hev : y ≤ ev y := by unfold ev; omega
   refine ⟨⟨r.s_, r.big_, r.parts_ ++ [⟨(ev y : Int), ((ev y + (V4 r.big_ e.Value).length : Nat) : Int)⟩], r.seen_, r.dirs_, r.found_, r.no_⟩, ?_, ?_⟩
   ·rw [if_neg (by rw [vk]; exact h13), if_neg (by rw [vk]; exact hw0), vt, vk, vc]
    unfold valR
    rw [if_pos (by omega)]
    have va' : Wu r.big_ ((r.s_.drop (a + 8)).take 4) = ev y := va
    simp only [va', ← hcw]
    rw [if_pos ⟨by omega, hlen⟩, show (r.s_.drop (ev y)).take (V4 r.big_ e.Value).length = V4 r.big_ e.Value from w3']
    have := valT_back (⟨r.s_, r.big_, r.parts_ ++ [⟨(ev y : Int), ((ev y + (V4 r.big_ e.Value).length : Nat) : Int)⟩], r.seen_, r.dirs_, r.found_, r.no_⟩ : T_tag_reader) he h13
    rw [this]
    dsimp only
    rw [ent_eta]
   ·unfold entP; rw [if_neg h13, if_neg h4]
    exact ⟨rfl, rfl, rfl, rfl, hno, rfl, fresh_mono hfr (by omega)⟩
theorem loop_back {d : Nat} {self : Vq} (H : DirBack d self) (HP : ∀ big l p, dE d l = 0 → (dirP d big l p).length ≤ cap d) {path : List Int} (hpl : path.length + d + 1 = 6) {pl nxt : Nat} {l : List T_tag_Entry} (hl200 : l.length ≤ 200) (s : List UInt8) (big : Bool) (hs : s.length ≤ 65000) (hin : pl + 2 + 12 * l.length ≤ s.length) :
  ∀ (xs pre : List T_tag_Entry) (y : Nat) (rc : T_tag_reader) (pr : Option Int), l = pre ++ xs → (∀ h : 0 < pre.length, pr = some (pre[pre.length - 1]'(by omega)).Tag) → listE (fE d) pr xs = 0 → 8 ≤ y → y ≤ s.length → rc.s_ = s → rc.big_ = big → rc.no_ = 0 → rc.found_ ≤ 1 → rc.dirs_ ≤ 20 → rc.parts_.length + xs.length * (1 + cap d) ≤ 7999999999999 → fresh rc.seen_ y →
   win s (pl + 2 + 12 * pre.length) (W2 (Qu d big) big xs y).1 → win s y (W2 (Qu d big) big xs y).2 →
   ∃ r', dirLoop self path pl nxt l.length pre.length rc pre = some (l, (nxt : Int), r') ∧ Back rc r' (bodP (Qu d big) (dirP d big) big xs y) (y + (W2 (Qu d big) big xs y).2.length) := by
 intro xs
 induction xs with
 | nil =>
  intro pre y rc pr hl _ _ hy hyl h1 h2 h3 h4 h5 h6 h7 _ _
  have hl' : l = pre := by rw [hl, List.append_nil]
  refine ⟨rc, ?_, rfl, rfl, rfl, rfl, h3, by unfold bodP; simp, fresh_mono h7 (by omega)⟩
  rw [loop_end _ _ _ _ _ _ _ _ (.inl (by rw [hl']; exact Nat.le_refl _)), hl']
 | cons e xs ih =>
  intro pre y rc pr hl hpr hE hy hyl h1 h2 h3 h4 h5 h6 h7 w1 w2
  obtain ⟨ht, hlow, he, hE'⟩ := listE_cons hE
  have hlen : l.length = pre.length + (xs.length + 1) := by rw [hl, List.length_append, List.length_cons]
  rw [List.length_cons, Nat.add_mul, Nat.one_mul] at h6
  unfold W2 at w1 w2
  simp only at w1 w2
  obtain ⟨u1, u2⟩ := Vz w1
  obtain ⟨v1, v2⟩ := Vz w2
  rw [List.length_append, hdr_len, entF_len] at u2
  subst h1 h2
  obtain ⟨r', q1, q2⟩ := entry_back H rc (path := path) hpl he ht (a := pl + 2 + 12 * pre.length) hy hs h3 h4 h5 (by omega) h7 (by omega) u1 v1 hyl
  have htag : (Qi rc (pl + 2 + 12 * pre.length) 2 : Int) = e.Tag := by
   have g := (Vz u1).1
   unfold hdrS at g
   rw [val_at rc (by omega) (Vz (Vz g).1).1, val_num2 _ ht]
  have hpn : (entP (dirP d rc.big_) (V4 rc.big_ e.Value).length e y).length ≤ 1 + cap d := by
   unfold entP
   split
   ·rename_i h13
    unfold fE at he
    rw [if_neg (by simp [h13])] at he
    split at he
    ·rename_i h; exact absurd he h
    ·have := HP rc.big_ e.Value.Entries y he; omega
   split <;> simp
  rw [loop_next self path pl nxt l.length pre.length rc pre (by omega) h3 rfl (by omega) hin hs (fun h => by rw [htag]; exact hlow _ (hpr h)) (by omega) h4 (by omega) q1]
  have hyl' : y + (W4 (Qu d rc.big_) rc.big_ e y).2.length ≤ rc.s_.length := by
   by_cases h0 : (W4 (Qu d rc.big_) rc.big_ e y).2 = []
   ·rw [h0]; simpa using hyl
   ·exact win_len v1 h0
  obtain ⟨r'', z1, z2⟩ := ih (pre ++ [e]) (y + (W4 (Qu d rc.big_) rc.big_ e y).2.length) r' (some e.Tag) (by rw [hl]; simp) (fun h => by simp) hE' (by omega) hyl' q2.s q2.big q2.no (by rw [q2.found]; exact h4) (by rw [q2.dirs]; exact h5) (by rw [q2.parts, List.length_append]; omega) q2.seen
   (by rw [List.length_append, List.length_singleton, show pl + 2 + 12 * (pre.length + 1) = pl + 2 + 12 * pre.length + (8 + 4) by omega]; exact u2) v2
  rw [List.length_append, List.length_singleton] at z1
  refine ⟨r'', z1, ?_⟩
  have := q2.trans z2
  unfold W2 bodP
  simp only [List.length_append]
  rw [← Nat.add_assoc]
  exact this
theorem dirP_len : ∀ (d : Nat) (big : Bool) (l : List T_tag_Entry) (p : Nat), dE d l = 0 → (dirP d big l p).length ≤ cap d := by
 intro d
 induction d with
 | zero => intro big l p _; exact Nat.zero_le _
 | succ d ih =>
  intro big l p h
  obtain ⟨h200, hE⟩ := dE_succ h
  have key : ∀ (xs : List T_tag_Entry) (pr : Option Int) (q : Nat), listE (fE d) pr xs = 0 → (bodP (Qu d big) (dirP d big) big xs q).length ≤ xs.length * (1 + cap d) := by
   intro xs
   induction xs with
   | nil => intro pr q _; exact Nat.zero_le _
   | cons e xs ih2 =>
    intro pr q hq
    obtain ⟨_, _, he, hE'⟩ := listE_cons hq
    unfold bodP
    rw [List.length_append, List.length_cons, Nat.add_mul, Nat.one_mul]
    have h1 := ih2 _ (q + (W4 (Qu d big) big e q).2.length) hE'
    have h2 : (entP (dirP d big) (V4 big e.Value).length e q).length ≤ 1 + cap d := by
     unfold entP
     split
     ·rename_i h13
      unfold fE at he
      rw [if_neg (by simp [h13])] at he
      split at he
      ·rename_i h; exact absurd he h
      ·have := ih big e.Value.Entries q he; omega
     split <;> simp
    omega
  show (_ :: bodP _ _ _ _ _).length ≤ 1 + 200 * (1 + cap d)
  have := key l none (ev p + 2 + 12 * l.length + 4) hE
  have h3 := Nat.mul_le_mul_right (1 + cap d) h200
  rw [List.length_cons]; omega
theorem dirR_back {d : Nat} {self : Vq} (H : DirBack d self) (r : T_tag_reader) (p : Nat) (l : List T_tag_Entry) (path : List Int) (nxt : Nat) (hpl : path.length + (d + 1) = 6) (hE : dE (d + 1) l = 0) (hp8 : 8 ≤ p) (hs : r.s_.length ≤ 65000) (hno : r.no_ = 0) (hf : r.found_ ≤ 1) (hd : r.dirs_ ≤ 20) (hp : r.parts_.length + cap (d + 1) ≤ 7999999999999) (hfr : fresh r.seen_ p)
  (hw : dwin r.s_ d r.big_ l p nxt) (h1 : path.length = 1 ∨ nxt = 0) (hn : nxt ≤ 4294967295) : ∃ r', dirR self r (ev p) path = some (l, (nxt : Int), r') ∧ Back r r' (dirP (d + 1) r.big_ l p) (p + (Qu (d + 1) r.big_ l p).length) := by
 obtain ⟨h200, hL⟩ := dE_succ hE
 obtain ⟨w1, w2, w3, w4⟩ := hw
 have hev : p ≤ ev p := by unfold ev; omega
 have hlen3 := win_len w3 (fun h => by have := Qh r.big_ (nxt : Int) (k := 4) (by omega); rw [h] at this; simp at this)
 rw [Qh _ _ (by omega)] at hlen3
 have vc : Qi r (ev p) 2 = l.length := by
  have := val_at r (by omega) w1
  have h2 := val_num2 r.big_ (n := ((l.length : Nat) : Int)) (by omega)
  omega
 have vn : Qi r (ev p + 2 + 12 * l.length) 4 = nxt := by
  have := val_at r (by omega) w3
  have h2 := W1 r.big_ (n := ((nxt : Nat) : Int)) (by omega)
  omega
 have hcap : cap (d + 1) = 1 + 200 * (1 + cap d) := rfl
 have hmul := Nat.mul_le_mul_right (1 + cap d) h200
 obtain ⟨r', q1, q2⟩ := loop_back H (dirP_len d) (path := path) (by omega) (pl := ev p) (nxt := nxt) h200 r.s_ r.big_ hs (by omega) l [] (ev p + 2 + 12 * l.length + 4) ⟨r.s_, r.big_, r.parts_ ++ [⟨((ev p : Nat) : Int), ((ev p + (2 + 12 * l.length + 4) : Nat) : Int)⟩], Uv r.seen_ ((ev p : Nat) : Int) true, r.dirs_, r.found_, r.no_⟩ none rfl (fun h => absurd h (by simp)) hL (by omega) (by omega) rfl rfl hno hf hd (by simp only [List.length_append, List.length_singleton]; omega) (fresh_mono (fresh_set hfr hev) (by omega)) w2 w4
 refine ⟨r', ?_, q2.s, q2.big, q2.dirs, q2.found, q2.no, ?_, ?_⟩
 ·unfold dirR
  rw [if_neg (by simp; omega), if_neg (by rw [hfr (ev p) hev]; decide), vc, if_neg (by omega), if_neg (by omega), if_neg (by simp [hno]), vn, if_neg (by omega)]
  exact q1
 ·rw [q2.parts]
  show _ = r.parts_ ++ (_ :: bodP _ _ _ _ _)
  rw [List.append_assoc]; rfl
 ·have := q2.seen
  rw [show p + (Qu (d + 1) r.big_ l p).length = ev p + 2 + 12 * l.length + 4 + (W2 (Qu d r.big_) r.big_ l (ev p + 2 + 12 * l.length + 4)).2.length from dirB_len (Qu d r.big_) r.big_ l p]
  exact this
theorem it_back : ∀ (d n : Nat), d < n → DirBack d (it dirF n) := by
 intro d
 induction d with
 | zero => intro n _ r p l path d' nxt h; omega
 | succ d ih =>
  intro n hn r p l path d' nxt hd' h6 hE hp8 hs hno hf hd hp hfr hw h1 hnx
  obtain ⟨n, rfl⟩ : ∃ m, n = m + 1 := ⟨n - 1, by omega⟩
  have : d' = d := by omega
  subst this
  obtain ⟨r', q1, q2⟩ := dirR_back (ih n (by omega)) r p l path nxt h6 hE hp8 hs hno hf hd hp hfr hw h1 hnx
  refine ⟨r', ?_, q2⟩
  show Jz _ r ((ev p : Nat) : Int) path = _
  have hev : ev p ≤ p + 1 := by unfold ev; omega
  have hlen3 := win_len hw.2.2.1 (fun h => by have := Qh r.big_ (nxt : Int) (k := 4) (by omega); rw [h] at this; simp at this)
  rw [dir_step _ r (by omega) hs (by omega), q1]
theorem dir_back (r : T_tag_reader) (p : Nat) (l : List T_tag_Entry) (tag : Int) (nxt : Nat) (hE : dE 5 l = 0) (hp8 : 8 ≤ p) (hs : r.s_.length ≤ 65000) (hno : r.no_ = 0) (hf : r.found_ ≤ 1) (hd : r.dirs_ ≤ 20) (hp : r.parts_.length + cap 5 ≤ 7999999999999) (hfr : fresh r.seen_ p)
  (hw : dwin r.s_ 4 r.big_ l p nxt) (hn : nxt ≤ 4294967295) : ∃ r', Zl r ((ev p : Nat) : Int) [tag] = some (l, (nxt : Int), r') ∧ Back r r' (dirP 5 r.big_ l p) (p + (Qu 5 r.big_ l p).length) := by
 rw [dir_it _ _ _ rfl]
 exact it_back 5 6 (by omega) r p l [tag] 4 nxt rfl rfl hE hp8 hs hno hf hd hp hfr hw (.inl rfl) hn
end Go.M

/- What was written is read back: files; TagSpans. Conditions: the file's bulk. -/
namespace Go.M
open Go.Md Go.Pl
set_option linter.unusedVariables false
theorem put_win {s : List UInt8} {k a : Nat} {b x : List UInt8} (hk : k + b.length ≤ s.length) (hd : a + x.length ≤ k ∨ k + b.length ≤ a) (h : win s a x) : win (put s k b) a x := by
 unfold win at *
 rcases hd with hd | hd
 ·unfold put
  rw [List.append_assoc, List.drop_append_of_le_length (by rw [List.length_take]; omega), List.take_append_of_le_length (by rw [List.length_drop, List.length_take]; omega), List.drop_take, List.take_take, Nat.min_eq_left (by omega)]
  exact h
 ·have e : (put s k b).drop a = s.drop a := by
   unfold put
   have hlen : (s.take k ++ b).length = k + b.length := by rw [List.length_append, List.length_take]; omega
   rw [List.drop_append, hlen, List.drop_eq_nil_of_le (by omega), List.nil_append, List.drop_drop]
   congr 1; omega
  rw [e]; exact h
theorem put_at_win {s : List UInt8} {k : Nat} {b : List UInt8} (hk : k + b.length ≤ s.length) : win (put s k b) k b := by
 unfold win put
 rw [List.append_assoc, List.drop_append, List.length_take, Nat.min_eq_left (by omega), Nat.sub_self, List.drop_zero, List.drop_eq_nil_of_le (by rw [List.length_take]; omega), List.nil_append, List.take_left' rfl]
theorem win_self (s t : List UInt8) : win (s ++ t) s.length t := by
 unfold win; rw [List.drop_left' rfl, List.take_length]
theorem win_left {s t x : List UInt8} {a : Nat} (h : win s a x) (ha : a + x.length ≤ s.length) : win (s ++ t) a x := by
 unfold win at *
 rw [List.drop_append_of_le_length (by omega), List.take_append_of_le_length (by rw [List.length_drop]; omega)]
 exact h
def linkN : List (List T_tag_Entry) → Nat → Nat
 | [], _ => 0
 | _ :: _, p => ev p
noncomputable def filP (big : Bool) : List (List T_tag_Entry) → Nat → List T_tag_Span
 | [], _ => []
 | l :: ls, p => dirP 5 big l p ++ filP big ls (p + (Qu 5 big l p).length)
theorem dirS_ne (big : Bool) (l : List T_tag_Entry) (p : Nat) : ev p + 2 + 12 * l.length + 4 ≤ p + (Qu 5 big l p).length := dir5_len
theorem fil_keeps (big : Bool) : ∀ (ls : List (List T_tag_Entry)) (s : List UInt8) (k a : Nat) (x : List UInt8), k + 4 ≤ s.length → (a + x.length ≤ k ∨ k + 4 ≤ a) → a + x.length ≤ s.length → win s a x → win (filS big ls s k) a x
 | [], s, k, a, x, _, _, _, h => h
 | l :: ls, s, k, a, x, hk, hd, ha, h => by
  unfold filS
  have h4 : (Xl big ((ev s.length : Nat) : Int) 4).length = 4 := Qh _ _ (by omega)
  have hn := dirS_ne big l s.length
  have hev : s.length ≤ ev s.length := by unfold ev; omega
  have hp : (put (s ++ Qu 5 big l s.length) k (Xl big ((ev s.length : Nat) : Int) 4)).length = s.length + (Qu 5 big l s.length).length := by
   rw [put_len (by rw [h4, List.length_append]; omega), List.length_append]
  refine fil_keeps big ls _ _ a x (by rw [hp]; omega) (.inl (by omega)) (by rw [hp]; omega) ?_
  exact put_win (by rw [h4, List.length_append]; omega) (by rw [h4]; exact hd) (win_left h ha)
theorem fil_link (big : Bool) (ls : List (List T_tag_Entry)) (s : List UInt8) (k : Nat) (hk : k + 4 ≤ s.length) (h0 : win s k (zer 4)) : win (filS big ls s k) k (Xl big ((linkN ls s.length : Nat) : Int) 4) := by
 cases ls with
 | nil => rw [show Xl big ((linkN [] s.length : Nat) : Int) 4 = zer 4 from num_zero big (by omega)]; exact h0
 | cons l ls =>
  unfold filS
  have h4 : (Xl big ((ev s.length : Nat) : Int) 4).length = 4 := Qh _ _ (by omega)
  have hn := dirS_ne big l s.length
  have hev : s.length ≤ ev s.length := by unfold ev; omega
  have hp : (put (s ++ Qu 5 big l s.length) k (Xl big ((ev s.length : Nat) : Int) 4)).length = s.length + (Qu 5 big l s.length).length := by
   rw [put_len (by rw [h4, List.length_append]; omega), List.length_append]
  refine fil_keeps big ls _ _ k _ (by rw [hp]; omega) (.inl (by show k + (Xl big ((ev s.length : Nat) : Int) 4).length ≤ _; omega)) (by rw [hp]; show k + (Xl big ((ev s.length : Nat) : Int) 4).length ≤ _; omega) ?_
  exact put_at_win (s := s ++ Qu 5 big l s.length) (b := Xl big ((ev s.length : Nat) : Int) 4) (by rw [h4, List.length_append]; omega)
theorem dwin_len {s : List UInt8} {d : Nat} {big : Bool} {l : List T_tag_Entry} {p n : Nat} (h : dwin s d big l p n) : ev p + 2 + 12 * l.length + 4 ≤ s.length := by
 have := win_len h.2.2.1 (fun h => by have := Qh big (n : Int) (k := 4) (by omega); rw [h] at this; simp at this)
 rw [Qh _ _ (by omega)] at this
 exact this
theorem fil_dir (big : Bool) (l : List T_tag_Entry) (ls : List (List T_tag_Entry)) (s : List UInt8) (k : Nat) (hk : k + 4 ≤ s.length) (S : List UInt8) (hS : S = filS big (l :: ls) s k) :
  dwin S 4 big l s.length (linkN ls (s.length + (Qu 5 big l s.length).length)) ∧ S = filS big ls (put (s ++ Qu 5 big l s.length) k (Xl big ((ev s.length : Nat) : Int) 4)) (ev s.length + 2 + 12 * l.length) := by
 have h4 : (Xl big ((ev s.length : Nat) : Int) 4).length = 4 := Qh _ _ (by omega)
 have hn := dirS_ne big l s.length
 have hev : s.length ≤ ev s.length := by unfold ev; omega
 have hp : (put (s ++ Qu 5 big l s.length) k (Xl big ((ev s.length : Nat) : Int) 4)).length = s.length + (Qu 5 big l s.length).length := by
  rw [put_len (by rw [h4, List.length_append]; omega), List.length_append]
 have hS' : S = filS big ls (put (s ++ Qu 5 big l s.length) k (Xl big ((ev s.length : Nat) : Int) 4)) (ev s.length + 2 + 12 * l.length) := by rw [hS]; rfl
 refine ⟨?_, hS'⟩
 have hw : win (put (s ++ Qu 5 big l s.length) k (Xl big ((ev s.length : Nat) : Int) 4)) s.length (Qu 5 big l s.length) := put_win (by rw [h4, List.length_append]; omega) (.inr (by rw [h4]; exact hk)) (win_self s _)
 have hd := dwin_of (d := 4) hw
 have hdl := dwin_len hd
 obtain ⟨w1, w2, w3, w4⟩ := hd
 have l2 := Qh big (l.length : Int) (k := 2) (by omega)
 have lb := bods_len (Qu 4 big) big l (ev s.length + 2 + 12 * l.length + 4)
 have l4 := Qh big ((0 : Nat) : Int) (k := 4) (by omega)
 have keep : ∀ a x, (a + x.length ≤ ev s.length + 2 + 12 * l.length ∨ ev s.length + 2 + 12 * l.length + 4 ≤ a) → a + x.length ≤ s.length + (Qu 5 big l s.length).length → win (put (s ++ Qu 5 big l s.length) k (Xl big ((ev s.length : Nat) : Int) 4)) a x → win S a x := fun a x h1 h2 h3 => by
  rw [hS']; exact fil_keeps big ls _ _ a x (by rw [hp]; omega) h1 (by rw [hp]; exact h2) h3
 refine ⟨keep _ _ (.inl (by omega)) (by omega) w1, keep _ _ (.inl (by omega)) (by omega) w2, ?_, ?_⟩
 ·rw [hS']
  have := fil_link big ls (put (s ++ Qu 5 big l s.length) k (Xl big ((ev s.length : Nat) : Int) 4)) (ev s.length + 2 + 12 * l.length) (by rw [hp]; omega) (by
   rw [show Xl big ((0 : Nat) : Int) 4 = zer 4 from num_zero big (by omega)] at w3; exact w3)
  rw [hp] at this
  exact this
 ·have hlen : s.length + (Qu 5 big l s.length).length = ev s.length + 2 + 12 * l.length + 4 + (W2 (Qu 4 big) big l (ev s.length + 2 + 12 * l.length + 4)).2.length := dirB_len (Qu 4 big) big l s.length
  exact keep _ _ (.inr (Nat.le_refl _)) (by omega) w4
theorem rd_back (t : Int) (big : Bool) (S : List UInt8) (hS65 : S.length ≤ 65000) : ∀ (ls : List (List T_tag_Entry)) (s : List UInt8) (k D : Nat) (r : T_tag_reader) (acc : List (List T_tag_Entry)), S = filS big ls s k → k + 4 ≤ s.length → 8 ≤ s.length → (∀ l ∈ ls, dE 5 l = 0) → acc.length = D → D + ls.length ≤ 20 → r.s_ = S → r.big_ = big → r.dirs_ = D → r.found_ ≤ 1 → r.no_ = 0 → fresh r.seen_ s.length → r.parts_.length ≤ D * 323216080401 →
  ∃ r' : T_tag_reader, rdLoop t (linkN ls s.length) r acc = Zw t r'.s_ r'.big_ r'.dirs_ r'.found_ r'.no_ r'.parts_ (acc ++ ls) r'.seen_ ∧ r'.s_ = S ∧ r'.no_ = 0 ∧ r'.parts_ = r.parts_ ++ filP big ls s.length ∧ r'.parts_.length ≤ (D + ls.length) * 323216080401 := by
 have hcap : cap 5 = 323216080401 := by rfl
 intro ls
 induction ls with
 | nil =>
  intro s k D r acc hS hk h8 hE hacc hD hs hb hd hf hno hfr hp
  exact ⟨r, by rw [rd_end t (linkN [] s.length) r acc (.inl rfl), List.append_nil], hs, hno, by unfold filP; simp, by simpa using hp⟩
 | cons l ls ih =>
  intro s k D r acc hS hk h8 hE hacc hD hs hb hd hf hno hfr hp
  rw [List.length_cons] at hD
  obtain ⟨hw, hS'⟩ := fil_dir big l ls s k hk S hS
  have hdl := dwin_len hw
  have h4 : (Xl big ((ev s.length : Nat) : Int) 4).length = 4 := Qh _ _ (by omega)
  have hn := dirS_ne big l s.length
  have hev : s.length ≤ ev s.length := by unfold ev; omega
  have hp' : (put (s ++ Qu 5 big l s.length) k (Xl big ((ev s.length : Nat) : Int) 4)).length = s.length + (Qu 5 big l s.length).length := by
   rw [put_len (by rw [h4, List.length_append]; omega), List.length_append]
  have hSlen : s.length + (Qu 5 big l s.length).length ≤ S.length := by
   rw [hS', filS_len _ _ _ _ (by rw [hp']; omega), hp']
   have : ∀ (ls : List (List T_tag_Entry)) (p : Nat), p ≤ lenF big ls p := by
    intro ls
    induction ls with
    | nil => intro p; exact Nat.le_refl _
    | cons x ls ih => intro p; unfold lenF; exact Nat.le_trans (Nat.le_add_right _ _) (ih _)
   exact this _ _
  have hlink : linkN ls (s.length + (Qu 5 big l s.length).length) ≤ 4294967295 := by
   cases ls with
   | nil => exact Nat.zero_le _
   | cons x xs => show ev _ ≤ _; unfold ev; omega
  obtain ⟨r', q1, q2⟩ := dir_back ⟨r.s_, r.big_, r.parts_, r.seen_, r.dirs_ + 1, r.found_, r.no_⟩ s.length l (acc.length : Int) (linkN ls (s.length + (Qu 5 big l s.length).length)) (hE l (by simp)) h8 (by rw [hs]; exact hS65) hno hf (by show r.dirs_ + 1 ≤ 20; omega) (by show r.parts_.length + cap 5 ≤ _; rw [hcap]; omega) hfr (by rw [hs, hb]; exact hw) hlink
  have hpn := dirP_len 5 big l s.length (hE l (by simp))
  rw [hcap] at hpn
  have qp : r'.parts_ = r.parts_ ++ dirP 5 big l s.length := by have := q2.parts; rw [hb] at this; exact this
  have qs : fresh r'.seen_ (s.length + (Qu 5 big l s.length).length) := by have := q2.seen; rw [hb] at this; exact this
  obtain ⟨r'', z1, z2, z3, z4, z5⟩ := ih (put (s ++ Qu 5 big l s.length) k (Xl big ((ev s.length : Nat) : Int) 4)) (ev s.length + 2 + 12 * l.length) (D + 1) r' (acc ++ [l]) hS' (by rw [hp']; omega) (by rw [hp']; omega) (fun x hx => hE x (by simp [hx])) (by simp [hacc]) (by omega) (by have := q2.s; exact this.trans hs) (by have := q2.big; exact this.trans hb) (by have : r'.dirs_ = r.dirs_ + 1 := q2.dirs; omega) (by have : r'.found_ = r.found_ := q2.found; omega) q2.no (by rw [hp']; exact qs) (by rw [qp, List.length_append]; omega)
  rw [hp'] at z1 z4
  refine ⟨r'', ?_, z2, z3, ?_, ?_⟩
  ·show rdLoop t (ev s.length) r acc = _
   rw [rd_next t (ev s.length) r acc (by omega) hno (by omega) (by omega) q1, z1, List.append_assoc]; rfl
  ·rw [z4, qp, List.append_assoc]; rfl
  ·rw [List.length_cons]; rw [show D + (ls.length + 1) = D + 1 + ls.length by omega]; exact z5
end Go.M

/- What was written is read back; TagSpans, in plain Lean. Conditions: the file's bulk. -/
namespace Go.M
open Go.Md Go.Pl
set_option linter.unusedVariables false
def padC : Nat → List T_tag_Span → Nat → Prop
 | a, [], b => a = b
 | a, x :: l, b => x.From = (ev a : Int) ∧ ∃ c : Nat, x.To = (c : Int) ∧ ev a < c ∧ padC c l b
theorem padC_app {m : List T_tag_Span} {b c : Nat} : ∀ {l : List T_tag_Span} {a : Nat}, padC a l b → padC b m c → padC a (l ++ m) c
 | [], a, h, g => by have : a = b := h; subst this; exact g
 | x :: l, a, ⟨h1, d, h2, h3, h4⟩, g => ⟨h1, d, h2, h3, padC_app h4 g⟩
theorem padC_sep {n : Nat} : ∀ {l : List T_tag_Span} {a : Nat}, padC a l n → sepS n a l
 | [], a, h => by have : a = n := h; show (a : Int) ≤ n; omega
 | x :: l, a, ⟨h1, d, h2, h3, h4⟩ => ⟨by rw [h1]; unfold ev; omega, by omega, by rw [h2]; exact padC_sep h4⟩
theorem ent_pad {d : Nat} {big : Bool} (ih : ∀ l p, padC p (dirP d big l p) (p + (Qu d big l p).length)) (e : T_tag_Entry) (q : Nat) : padC q (entP (dirP d big) (V4 big e.Value).length e q) (q + (W4 (Qu d big) big e q).2.length) := by
 unfold entP W4
 by_cases h13 : e.Value.Kind = 13
 ·rw [if_pos h13, if_pos h13]; exact ih e.Value.Entries q
 rw [if_neg h13, if_neg h13]
 by_cases h4 : (V4 big e.Value).length ≤ 4
 ·rw [if_pos h4, if_pos h4]; exact rfl
 ·rw [if_neg h4, if_neg h4]
  refine ⟨rfl, _, rfl, by omega, ?_⟩
  show ev q + _ = q + _
  simp only [List.length_append, Uu]; unfold ev; omega
theorem bod_pad {d : Nat} {big : Bool} (ih : ∀ l p, padC p (dirP d big l p) (p + (Qu d big l p).length)) : ∀ (l : List T_tag_Entry) (q : Nat), padC q (bodP (Qu d big) (dirP d big) big l q) (q + (W2 (Qu d big) big l q).2.length)
 | [], q => rfl
 | e :: l, q => by
  unfold bodP W2
  simp only [List.length_append]
  rw [← Nat.add_assoc]
  exact padC_app (ent_pad ih e q) (bod_pad ih l _)
theorem dir_pad (big : Bool) : ∀ (d : Nat) (l : List T_tag_Entry) (p : Nat), padC p (dirP d big l p) (p + (Qu d big l p).length) := by
 intro d
 induction d with
 | zero => intro l p; rfl
 | succ d ih =>
  intro l p
  have hlen : p + (Qu (d + 1) big l p).length = ev p + 2 + 12 * l.length + 4 + (W2 (Qu d big) big l (ev p + 2 + 12 * l.length + 4)).2.length := dirB_len (Qu d big) big l p
  rw [hlen]
  refine ⟨rfl, _, rfl, by omega, ?_⟩
  rw [show ev p + (2 + 12 * l.length + 4) = ev p + 2 + 12 * l.length + 4 by omega]
  exact bod_pad ih l _
theorem fil_pad (big : Bool) : ∀ (ls : List (List T_tag_Entry)) (p : Nat), padC p (filP big ls p) (lenF big ls p)
 | [], p => rfl
 | l :: ls, p => padC_app (dir_pad big 5 l p) (fil_pad big ls _)
theorem sep_from {n : Int} : ∀ {l : List T_tag_Span} {a : Int}, sepS n a l → (∀ x ∈ l, a ≤ x.From) ∧ l.Pairwise fun x y => x.From < y.From
 | [], a, h => ⟨by simp, List.Pairwise.nil⟩
 | x :: l, a, h => by
  obtain ⟨h1, h2, h3⟩ := h
  obtain ⟨g1, g2⟩ := sep_from h3
  refine ⟨fun y hy => ?_, List.pairwise_cons.2 ⟨fun y hy => by have := g1 y hy; omega, g2⟩⟩
  rcases List.mem_cons.1 hy with h | h
  ·rw [h]; exact h1
  ·have := g1 y h; omega
theorem sep_lap {n : Int} : ∀ {l : List T_tag_Span} {a : Int}, sepS n a l → ¬ lapP l
 | [], a, h => by rintro ⟨i, hi, _⟩; simp at hi
 | x :: l, a, h => by
  obtain ⟨h1, h2, h3⟩ := h
  rintro ⟨i, hi, hlt⟩
  cases i with
  | zero =>
   cases l with
   | nil => simp at hi
   | cons y l =>
    have := h3.1
    simp at hlt; omega
  | succ i => exact sep_lap h3 ⟨i, by simpa using hi, by simpa using hlt⟩
theorem num42 (big : Bool) : Xl big 42 2 = if big then [0, 42] else [42, 0] := by
 rw [numS_dig _ _ _ (by omega)]
 cases big <;> rfl
theorem head_at (f : T_tag_File) {a : Nat} {x : List UInt8} (ha : a + x.length ≤ 4) (h : win (headS f.Big) a x) : win (Ul f) a x :=
 fil_keeps f.Big f.Dirs (headS f.Big) 4 a x (by rw [Vd]; omega) (.inl ha) (by rw [Vd]; omega) h
theorem octF_ge (f : T_tag_File) : 8 ≤ (Ul f).length := by
 rw [octF_len]
 have : ∀ (ls : List (List T_tag_Entry)) (p : Nat), p ≤ lenF f.Big ls p := by
  intro ls
  induction ls with
  | nil => intro p; exact Nat.le_refl _
  | cons x ls ih => intro p; unfold lenF; exact Nat.le_trans (Nat.le_add_right _ _) (ih _)
 exact this _ _
theorem file_parts {f : T_tag_File} (h : fileE f = 0) : f.Dirs.length ≤ 20 ∧ (∀ l ∈ f.Dirs, dE 5 l = 0) ∧ (Ul f).length ≤ 65000 := by
 unfold fileE at h
 split at h
 ·exact absurd h (by decide)
 split at h
 ·rename_i h2; exact absurd h h2
 split at h
 ·exact absurd h (by decide)
 rename_i h1 h2 h3
 exact ⟨by omega, firstD_ok (Classical.byContradiction fun hc => h2 hc), by omega⟩
open Classical in
theorem read_written {f : T_tag_File} (hb : fileB f) (he : fileE f = 0) {fd : Nat} (hfd : fd ≤ 1) : tag_read (Ul f) fd = some (f, filP f.Big f.Dirs 8, 0) := by
 obtain ⟨hn, hE, h65⟩ := file_parts he
 have h8 := octF_ge f
 have hh2 : win (headS f.Big) 0 ((if f.Big then [77, 77] else [73, 73]) ++ Xl f.Big 42 2) := by
  have : headS f.Big = ((if f.Big then [77, 77] else [73, 73]) ++ Xl f.Big 42 2) ++ zer 4 := rfl
  unfold win
  rw [List.drop_zero, this, List.take_left' rfl]
 have hw4 : win (Ul f) 0 ((if f.Big then [77, 77] else [73, 73]) ++ Xl f.Big 42 2) := head_at f (by rw [List.length_append, Qh _ _ (by omega)]; cases f.Big <;> simp) hh2
 have h4t : (Ul f).take 4 = if f.Big then [77, 77, 0, 42] else [73, 73, 42, 0] := by
  unfold win at hw4
  rw [num42] at hw4
  cases hB : f.Big <;> rw [hB] at hw4 <;> simpa using hw4
 have hbeg : Ua (Ul f) = some true := by
  unfold Ua
  rw [cI, if_neg (by omega), gCut_to (by omega), Je, cI, Je, show (4 : Int).toNat = 4 from rfl, h4t]
  cases f.Big <;> rfl
 have h0 : (Ul f)[0]'(by omega) = if f.Big then 77 else 73 := by
  have := congrArg (fun l => l[0]?) h4t
  simp only [List.getElem?_take] at this
  rw [if_pos (by omega), List.getElem?_eq_getElem (by omega)] at this
  cases hB : f.Big <;> rw [hB] at this <;> simpa using this
 have hbig : decide ((((Ul f)[0]'(by omega)).toNat : Int) = 77) = f.Big := by
  rw [h0]; cases f.Big <;> rfl
 have hz : win (headS f.Big) 4 (zer 4) := by
  unfold win headS
  rw [Z7, List.drop_left' (by rw [List.length_append, Qh _ _ (by omega)]; cases f.Big <;> rfl), List.take_of_length_le (by rw [Z7]; omega)]
 have hlink : win (Ul f) 4 (Xl f.Big ((linkN f.Dirs 8 : Nat) : Int) 4) := by
  have := fil_link f.Big f.Dirs (headS f.Big) 4 (by rw [Vd]; omega) hz
  rw [Vd] at this
  exact this
 have hlk : linkN f.Dirs 8 ≤ 8 := by
  cases f.Dirs with
  | nil => exact Nat.zero_le _
  | cons x xs => exact Nat.le_refl _
 have hval : Wu f.Big (((Ul f).drop 4).take 4) = linkN f.Dirs 8 := by
  rw [win_val hlink (Qh _ _ (by omega))]
  have := W1 f.Big (n := ((linkN f.Dirs 8 : Nat) : Int)) (by omega)
  omega
 unfold tag_read
 rw [cI, if_neg (by omega), hbeg, Je, Bool.not_true, Xi, show (0 : Int) = ((0 : Nat) : Int) from rfl, gOct_nat (by omega), Je, show (4 : Int) = ((4 : Nat) : Int) from rfl, number_eq (a := 4) (k := 4) _ (by show 4 + 4 ≤ (Ul f).length; omega) (by omega) (by show (Ul f).length ≤ 65000; omega), Je]
 simp only [hbig, hval]
 obtain ⟨r', q1, q2, q3, q4, q5⟩ := rd_back (((Ul f)[0]'(by omega)).toNat : Int) f.Big (Ul f) h65 f.Dirs (headS f.Big) 4 0 ⟨Ul f, f.Big, [], [], 0, fd, 0⟩ [] rfl (by rw [Vd]; omega) (by rw [Vd]; omega) hE rfl (by omega) rfl rfl rfl hfd rfl (fun k _ => rfl) (by simp)
 rw [Vd] at q1 q4
 refine q1.trans ?_
 have hpad := fil_pad f.Big f.Dirs 8
 rw [← octF_len] at hpad
 have hsep := padC_sep hpad
 have hparts : r'.parts_ = filP f.Big f.Dirs 8 := by rw [q4]; rfl
 have hsort : gSortF r'.parts_ Qo = some (filP f.Big f.Dirs 8) := by
  rw [hparts]
  have hp := (sep_from hsep).2
  have hl := (sepS_end hsep).2.1
  have := sortF_is spans_ok (List.Perm.refl (filP f.Big f.Dirs 8)) (hp.imp fun {x y} h => by
   unfold leC
   rw [decide_eq_true_iff, spans_le]; exact .inl h)
  unfold gSortF
  rw [if_pos ⟨by omega, spans_ok⟩, ← this]
 have hl := (sepS_end hsep).2.1
 unfold Zw
 rw [hsort, Je, cI, if_pos q3, overlap_eq _ (by omega), Je, decide_eq_false (sep_lap hsep), Xi]
 unfold Zv
 have hf : (⟨decide ((((Ul f)[0]'(by omega)).toNat : Int) = 77), [] ++ f.Dirs⟩ : T_tag_File) = f := by
  rw [hbig, List.nil_append]
 rw [cI, if_pos q3, hf, Check_eq hb, he, Je]
 unfold Vh
 rw [cI, if_neg (by simp), hf]
 rfl
theorem Write_eq {f : T_tag_File} (hb : fileB f) : tag_Write f = some (if fileE f = 0 then (Ul f, 0) else ([], fileE f)) := by
 unfold tag_Write
 rw [Check_eq hb, Je, cI]
 by_cases he : fileE f = 0
 ·obtain ⟨hok, hn⟩ := fileE_zero hb he
  rw [if_neg (by simp [he]), if_pos he, written_eq hok hn hb.2, Je]
 ·rw [if_pos he, if_neg he]
theorem hol_pad {n : Nat} (hn : n ≤ 65000) : ∀ (l : List T_tag_Span) (c : T_tag_Span) (b : Nat) (a : Int), c.To = (b : Int) → padC b l n → (a = c.From ∨ padH ⟨a, c.From⟩) → ∀ y ∈ holL a (Wt c l ++ [⟨(n : Int), (n : Int)⟩]), padH y
 | [], c, b, a, hb, hp, ha => by
  have : b = n := hp
  subst this
  show ∀ y ∈ (if a < c.From then [⟨a, c.From⟩] else []) ++ ((if c.To < (b : Int) then [⟨c.To, (b : Int)⟩] else []) ++ []), padH y
  rw [if_neg (show ¬ c.To < (b : Int) by omega), List.append_nil, List.append_nil]
  intro y hy
  split at hy
  ·rename_i h
   rcases ha with ha | ha
   ·omega
   ·simp at hy; rw [hy]; exact ha
  ·simp at hy
 | x :: l, c, b, a, hb, ⟨h1, d, h2, h3, h4⟩, ha => by
  unfold Wt
  split
  ·rename_i h
   exact hol_pad hn l ⟨c.From, x.To⟩ d a h2 h4 ha
  ·rename_i h
   have hd : d ≤ n := by have := (sepS_end (padC_sep h4)).1; omega
   have hrest := hol_pad hn l x d c.To h2 h4 (.inr (by
    have hev : ev b = b ∨ (ev b = b + 1 ∧ b % 2 = 1) := by unfold ev; omega
    rcases hev with hev | ⟨hev, hodd⟩
    ·exact absurd (by omega) h
    ·exact ⟨by simp only; omega, by simp only; omega, by simp only; omega, by simp only; omega⟩))
   rw [List.cons_append]
   unfold holL
   intro y hy
   rcases List.mem_append.1 hy with hy | hy
   ·split at hy
    ·rename_i hlt
     rcases ha with ha | ha
     ·omega
     ·simp at hy; rw [hy]; exact ha
    ·simp at hy
   ·exact hrest y hy
theorem tagSpans {f : T_tag_File} (hb : fileB f) (s : List UInt8) : Wh f s = some true := by
 by_cases he : fileE f = 0
 ·have hW := Write_eq hb
  rw [if_pos he] at hW
  refine spans_of hW fun _ U hU => ?_
  have hr := read_written hb he (fd := 1) (by omega)
  have hpad := fil_pad f.Big f.Dirs 8
  rw [← octF_len] at hpad
  obtain ⟨_, _, h65⟩ := file_parts he
  have hl := (sepS_end (padC_sep hpad)).2.1
  have hU2 := used_eq hr (fun _ => by omega)
  rw [if_pos rfl, hU] at hU2
  have : U = Wt ⟨0, 8⟩ (filP f.Big f.Dirs 8) := by injection hU2 with h; injection h
  rw [this]
  exact hol_pad h65 _ ⟨0, 8⟩ 8 0 rfl hpad (.inl rfl)
 ·have hW := Write_eq hb
  rw [if_neg he] at hW
  exact spans_of hW fun h => absurd h he
theorem tagSpansS (f : T_tag_File) (s : List UInt8) (hb : fileB f) {P : Prop} (_ : P) : Wh f s = some true := tagSpans hb s
end Go.M

/- What a claim says of a call's arguments, as rows: slices, arrays, structs, strings. Conditions: none. -/
namespace Go.Vc
open Go
variable {H : Type} {enc : TypeId × Value → H} {P : Program} {w : World} {base : Nat} {spare : Nat → Bool} {held : Bool}
theorem Vk {w : World} {base k : Nat} {a : Addr} {cs : List Value} (h : w.cells? base a k = some cs) : cs.length = k ∧ ∀ i, i < k → w.cell? (a.add i) = cs[i]? :=
 (World.cells?_some h).2
theorem cell_spot {w : World} {a : Addr} {v : Value} (h : w.cell? a = some v) : a.spot = none := by
 unfold World.cell? at h
 split at h
 ·split at h
  ·cases h
  ·rename_i hs; simpa using hs
 ·cases h
theorem op_int {t fuel : Nat} {k : IntKind} {cs : List Value} {x : DataW H × List MemPlace} (ht : P.underlying t = some (.int k)) (h : DataW.trod enc P w base spare held fuel t cs = some x) : ∃ n : Int, cs = [.int k n] ∧ (Lit.int k n).wf = true := by
 obtain ⟨n, h1, _, h2⟩ := DataW.trod_int ht h
 exact ⟨n, h1, h2⟩
theorem op_bool {t fuel : Nat} {cs : List Value} {x : DataW H × List MemPlace} (ht : P.underlying t = some .bool) (h : DataW.trod enc P w base spare held fuel t cs = some x) : ∃ b : Bool, cs = [.bool b] := by
 obtain ⟨n, h1, _⟩ := DataW.trod_bool ht h
 exact ⟨n, h1⟩
end Go.Vc

/- What a claim says of a call's arguments, as values of plain types: parts of structs, arrays, slices. Conditions: none. -/
namespace Go.Lx
open Go Go.Vc Go.Md
variable {H : Type} {enc : TypeId × Value → H} {P : Program} {w : World} {base : Nat} {spare : Nat → Bool} {held : Bool}
theorem piece {cs l : List Value} {o s : Nat} (h : (cs.drop o).take s = l) (hl : l.length = s) : cs.drop o = l ++ cs.drop (o + s) := by
 have := List.take_append_drop s (cs.drop o)
 rw [h, List.drop_drop] at this
 exact this.symm
theorem Row.snap {w : World} {a : Option Addr} {sz : Nat} {xs : List (List Value)} (h : Row w a sz xs) (hsz : 0 < sz) : RowH (fun b => w.heap[b]?) a sz xs := by
 rcases h with h | ⟨b, off, ha, h⟩
 ·exact .inl h
 ·cases xs with
  | nil => exact .inl rfl
  | cons x r =>
   have h0 := h 0 x rfl
   have hv := h0.2 0 x[0] (by simp [h0.1, hsz])
   unfold World.cell? at hv
   split at hv
   ·rename_i c T m hb
    refine .inr ⟨b, off, c, T, m, ha, hb, fun i y hy => ⟨(h i y hy).1, fun j v hj => ?_⟩⟩
    have := (h i y hy).2 j v hj
    unfold World.cell? at this
    rw [hb] at this
    simpa using this
   ·cases hv
theorem val_struct {r : Reach} {b0 t : Nat} {v : Value} {fs : Array Field} (ht : P.underlying t = some (.struct fs)) (hval : Value.okWide P w r b0 t v) : ∃ cs : List Value, v = .agg cs.toArray ∧ v.cells.toList = cs ∧ cs.length = P.cellsOf t := by
 unfold Value.okWide at hval
 rw [ht] at hval
 obtain ⟨cs, rfl, h, _⟩ := hval; exact ⟨cs.toList, by simp, rfl, by simpa using h⟩
theorem val_cell {r : Reach} {b0 t : Nat} {v : Value} (ht : (match P.underlying t with | some (.int _) | some (.slice _) | some .string | some .bool => true | _ => false) = true) (hval : Value.okWide P w r b0 t v) : v.cells.toList = [v] := by
 unfold Value.okWide at hval
 split at hval
 ·rename_i h; rw [h] at ht; cases ht
 ·rename_i h; rw [h] at ht; cases ht
 ·cases v with
  | agg cs =>
   exfalso
   unfold Cell.okWide at hval
   split at ht <;> simp_all [Cell.ok]
  | _ => rfl
end Go.Lx

/- What a claim says of a call's arguments, where their bulk is bounded. Conditions: none. -/
namespace Go.Vc
open Go Go.Lx
variable {H : Type} {enc : TypeId × Value → H} {P : Program} {w : World} {base : Nat} {spare : Nat → Bool} {held : Bool}
structure BK (bk : DataW H → Nat) : Prop where
 slice : ∀ (es rs : List (DataW H)) (d : DataW H), d ∈ es → bk d ≤ bk (.slice es rs)
 agg : ∀ (es : List (DataW H)) (d : DataW H), d ∈ es → bk d ≤ bk (.agg es)
 str : ∀ bs : List UInt8, bs.length ≤ bk (.lit (.string bs))
theorem op_stringB {bk : DataW H → Nat} (K : BK bk) {t fuel : Nat} {cs : List Value} {x : DataW H × List MemPlace} (ht : P.underlying t = some .string) (h : DataW.trod enc P w base spare held fuel t cs = some x) : ∃ s : List UInt8, cs = [str s] ∧ s.length ≤ 9223372036854775807 ∧ s.length ≤ bk x.1 := by
 obtain ⟨s, h1, h3, h2⟩ := DataW.trod_string ht h
 refine ⟨s.data.toList, by rw [h1], ?_, ?_⟩
 ·have e : s.data.toList.length = s.size := by rw [Array.length_toList]; rfl
  rw [e]
  unfold maxLen at h2
  omega
 ·rw [h3]; exact K.str _
theorem op_fieldB {bk : DataW H → Nat} (K : BK bk) {t fuel i ft fo sz bo : Nat} {nm tg pk : String} {em : Bool} {fs : Array Field} {cs : List Value} {x : DataW H × List MemPlace} (ht : P.underlying t = some (.struct fs)) (hf : fs[i]? = some ⟨nm, ft, fo, em, tg, pk, bo⟩) (hc : P.cellsOf ft = sz) (h : DataW.trod enc P w base spare held fuel t cs = some x) :
  ∃ n y, DataW.trod enc P w base spare held n ft ((cs.drop fo).take sz) = some y ∧ bk y.1 ≤ bk x.1 := by
 subst hc
 obtain ⟨xs, n, _, hx, _, hl, hp⟩ := DataW.trod_struct ht h
 have h1 := hp i _ hf
 have hi : i < fs.size := by
  rcases Nat.lt_or_ge i fs.size with h | h
  ·exact h
  ·rw [Array.getElem?_eq_none h] at hf; cases hf
 rw [List.getElem?_eq_getElem (by omega)] at h1
 refine ⟨n, _, h1, ?_⟩
 rw [hx]
 exact K.agg _ _ (List.mem_map.2 ⟨_, List.getElem_mem _, rfl⟩)
theorem op_sliceB {bk : DataW H → Nat} (K : BK bk) {B : Nat} {α : Type} {f : α → List Value} {good : α → Prop} {t e sz fuel : Nat} {cs : List Value} {x : DataW H × List MemPlace} (hB : bk x.1 ≤ B) (ht : P.underlying t = some (.slice e)) (hc : P.cellsOf e = sz) (hsz : Nat.blt 0 sz = true)
  (hD : ∀ n cs x, bk x.1 ≤ B → cs.length = sz → DataW.trod enc P w base spare held n e cs = some x → ∃ a, cs = f a ∧ good a) (h : DataW.trod enc P w base spare held fuel t cs = some x) :
  ∃ (v : Value) (xs : List α), cs = [v] ∧ FrS (fun b => w.heap[b]?) sz v (xs.map f) ∧ xs.length ≤ 9223372036854775807 ∧ ∀ x ∈ xs, good x := by
 have h' := h
 rcases DataW.trod_slice ht h with ⟨rfl, _⟩ | ⟨a, len, cap, elems, rest, n, _, rfl, hx, _, hl, hm, hlen, hel, _⟩
 ·exact ⟨_, [], rfl, FrS.nil _ _, by simp, by simp⟩
 ·-- the elements, and no others
  have each : ∀ i : Fin len, ∃ a' : α, w.cells? base (a.add (i * sz)) sz = some (f a') ∧ good a' := by
   intro i
   have hi := hel i i.2
   rw [hc] at hi
   have hlt : (i : Nat) < elems.length := by rw [hlen]; exact i.2
   rw [List.getElem?_eq_getElem hlt, Option.bind_eq_some_iff] at hi
   obtain ⟨cs', h1, h2⟩ := hi
   have hb : bk (elems[(i : Nat)]).1 ≤ B := by
    refine Nat.le_trans ?_ hB
    rw [hx]
    exact K.slice _ _ _ (List.mem_map.2 ⟨_, List.getElem_mem _, rfl⟩)
   obtain ⟨a', rfl, hg⟩ := hD _ _ _ hb (Vk h1).1 h2
   exact ⟨a', h1, hg⟩
  have hsz' : 0 < sz := by simpa using hsz
  have hch : ∃ g : Fin len → α, ∀ i : Fin len, w.cells? base (a.add (i * sz)) sz = some (f (g i)) ∧ good (g i) := ⟨fun i => (each i).choose, fun i => (each i).choose_spec⟩
  obtain ⟨g, hg⟩ := hch
  have hrow : Row w (some a) sz ((List.ofFn g).map f) := by
   cases len with
   | zero => left; simp
   | succ k =>
    have h0 := hg 0
    have hsp : a.spot = none := by
     have := (Vk h0.1).2 0 hsz'
     have hln := (Vk h0.1).1
     rw [List.getElem?_eq_getElem (by omega)] at this
     have hs := cell_spot this
     simpa [Addr.add] using hs
    obtain ⟨b, off, spot⟩ := a
    simp only at hsp
    subst hsp
    refine .inr ⟨b, off, rfl, fun i x hx => ?_⟩
    have hi : i < k + 1 := by
     rcases Nat.lt_or_ge i (k + 1) with h | h
     ·exact h
     ·rw [List.getElem?_eq_none (by simpa using h)] at hx; cases hx
    have hx' : x = f (g ⟨i, hi⟩) := by
     rw [List.getElem?_map, List.getElem?_ofFn, dif_pos hi] at hx
     exact (Option.some.inj hx).symm
    subst hx'
    obtain ⟨c1, c2⟩ := Vk (hg ⟨i, hi⟩).1
    refine ⟨c1, fun j v hv => ?_⟩
    have hj : j < sz := by
     rcases Nat.lt_or_ge j sz with h | h
     ·exact h
     ·rw [List.getElem?_eq_none (by omega)] at hv; cases hv
    have := c2 j hj
    rw [hv, Addr.add_lit, Addr.add_lit] at this
    exact this
  have hm' : cap ≤ 9223372036854775807 := by simpa [maxLen] using hm
  refine ⟨_, List.ofFn g, rfl, ⟨⟨some a, cap, by simp, by simpa using hl, hm', Row.snap hrow hsz'⟩⟩, by simp; omega, ?_⟩
  intro x hx
  rw [List.mem_ofFn] at hx
  obtain ⟨i, rfl⟩ := hx
  exact (hg i).2
end Go.Vc

/- What a claim says of a call's arguments, where their bulk is bounded and package variables are laid. Conditions: none. -/
namespace Go.Vc
open Go Go.Lx
section
variable {H : Type} {enc : TypeId × Value → H} {P : Program} {w : World} {base : Nat} {spare : Nat → Bool} {held : Bool}
structure BKL (bk : DataW H → Nat) : Prop extends BK bk where
 len : ∀ es rs : List (DataW H), es.length ≤ bk (.slice es rs)
theorem op_sliceL {bk : DataW H → Nat} (K : BKL bk) {B : Nat} {α : Type} {f : α → List Value} {good : α → Prop} {t e sz fuel : Nat} {cs : List Value} {x : DataW H × List MemPlace} (hB : bk x.1 ≤ B) (ht : P.underlying t = some (.slice e)) (hc : P.cellsOf e = sz) (hsz : Nat.blt 0 sz = true)
  (hD : ∀ n cs x, bk x.1 ≤ B → cs.length = sz → DataW.trod enc P w base spare held n e cs = some x → ∃ a, cs = f a ∧ good a) (h : DataW.trod enc P w base spare held fuel t cs = some x) :
  ∃ (v : Value) (xs : List α), cs = [v] ∧ FrS (fun b => w.heap[b]?) sz v (xs.map f) ∧ (xs.length ≤ 9223372036854775807 ∧ xs.length ≤ B) ∧ ∀ x ∈ xs, good x := by
 obtain ⟨v, xs, e1, fr, hn, hg⟩ := op_sliceB K.toBK hB ht hc hsz hD h
 refine ⟨v, xs, e1, fr, ⟨hn, ?_⟩, hg⟩
 obtain ⟨a, c, rfl, _⟩ := fr.out
 rcases DataW.trod_slice ht h with ⟨e2, _⟩ | ⟨a', len, cap, elems, rest, n, _, e2, hx, _, _, _, hlen, _⟩
 ·rw [e1] at e2
  injection e2 with e2 _
  injection e2 with _ e2 _
  rw [List.length_map] at e2; omega
 ·rw [e1] at e2
  injection e2 with e2 _
  injection e2 with _ e2 _
  rw [List.length_map] at e2
  rw [hx] at hB
  have := K.len (elems.map (·.1)) (rest.map (·.1))
  rw [List.length_map] at this
  simp only at hB
  omega
end
section
variable {H : Type} {enc : TypeId × Value → H}
end
end Go.Vc

/- What a claim says of a call's arguments, with the reach of the claim's form: no string and no slice is larger than it. Conditions: none. -/
namespace Go.Vc
open Go Go.Lx
variable {H : Type} {enc : TypeId × Value → H} {P : Program} {w : World} {base : Nat} {spare : Nat → Bool} {held : Bool}
end Go.Vc

/- Opening arguments whose elements hold slices. Conditions: none. -/
namespace Go.Lx
open Go Go.Vc Go.Md Go.ChangeShapes Go.WideShapes Go.ChangeAt
theorem Uc {cs l : List Value} {o s q : Nat} (h : (cs.drop o).take s = l) (hq : q < l.length) : cs.getD (o + q) undef = l.getD q undef := by
 subst h
 have hs : q < s := by rw [List.length_take] at hq; omega
 simp only [List.getD_eq_getElem?_getD, List.getElem?_take, List.getElem?_drop, if_pos hs]
section
variable {P : Program} {H : Type} {enc : TypeId × Value → H} {w : World} {base : Nat} {spare : Nat → Bool} {held : Bool}
end
end Go.Lx

/- Opening arguments whose bulk is bounded: sums over the parts, for types that hold themselves. Conditions: none. -/
namespace Go.Lx
open Go Go.Vc Go.Md Go.ChangeShapes Go.WideShapes Go.ChangeAt
theorem mem_le_sum {a : Nat} : ∀ {l : List Nat}, a ∈ l → a ≤ l.sum
 | [], h => by cases h
 | x :: l, h => by
  rw [List.sum_cons]
  rcases List.mem_cons.1 h with h | h
  ·omega
  ·have := mem_le_sum h; omega
theorem sum_le_sum {α β : Type} {f : α → Nat} {g : β → Nat} : ∀ {xs : List α} {ys : List β}, xs.length = ys.length → (∀ (i : Nat) x y, xs[i]? = some x → ys[i]? = some y → f x ≤ g y) → (xs.map f).sum ≤ (ys.map g).sum
 | [], [], _, _ => Nat.le_refl _
 | [], _ :: _, h, _ => by simp at h
 | _ :: _, [], h, _ => by simp at h
 | x :: xs, y :: ys, h, k => by
  rw [List.map_cons, List.map_cons, List.sum_cons, List.sum_cons]
  have h1 := k 0 x y rfl rfl
  have h2 := sum_le_sum (f := f) (g := g) (xs := xs) (ys := ys) (by simpa using h) (fun i a b ha hb => k (i + 1) a b (by simpa using ha) (by simpa using hb))
  omega
theorem len_le_sum {α : Type} {f : α → Nat} (h : ∀ x, 1 ≤ f x) : ∀ xs : List α, xs.length ≤ (xs.map f).sum
 | [] => Nat.zero_le _
 | x :: xs => by rw [List.map_cons, List.sum_cons, List.length_cons]; have := h x; have := len_le_sum h xs; omega
section
variable {H : Type} {enc : TypeId × Value → H} {P : Program} {w : World} {base : Nat} {spare : Nat → Bool} {held : Bool}
structure BKS (bk : DataW H → Nat) : Prop where
 slice : ∀ es rs : List (DataW H), (es.map bk).sum ≤ bk (.slice es rs)
 agg : ∀ es : List (DataW H), (es.map bk).sum ≤ bk (.agg es)
 str : ∀ bs : List UInt8, bs.length ≤ bk (.lit (.string bs))
 one : ∀ d : DataW H, 1 ≤ bk d
theorem BKS.toBK {bk : DataW H → Nat} (K : BKS bk) : BK bk :=
 ⟨fun es rs d h => Nat.le_trans (mem_le_sum (List.mem_map.2 ⟨d, h, rfl⟩)) (K.slice es rs), fun es d h => Nat.le_trans (mem_le_sum (List.mem_map.2 ⟨d, h, rfl⟩)) (K.agg es), K.str⟩
theorem BKS.toBKL {bk : DataW H → Nat} (K : BKS bk) : BKL bk := { toBK := K.toBK, len := fun es rs => Nat.le_trans (len_le_sum K.one es) (K.slice es rs) }
theorem op_structS {bk : DataW H → Nat} (K : BKS bk) {t fuel : Nat} {fs : Array Field} {cs : List Value} {x : DataW H × List MemPlace} (ht : P.underlying t = some (.struct fs)) (h : DataW.trod enc P w base spare held fuel t cs = some x) :
  ∃ (n : Nat) (xs : List (DataW H × List MemPlace)), n < fuel ∧ xs.length = fs.size ∧ (xs.map fun y => bk y.1).sum ≤ bk x.1 ∧ ∀ (i : Nat) (f : Field) (sz : Nat), fs[i]? = some f → P.cellsOf f.type = sz → DataW.trod enc P w base spare held n f.type ((cs.drop f.offset).take sz) = xs[i]? := by
 obtain ⟨xs, n, hn, hx, _, hl, hp⟩ := DataW.trod_struct ht h
 refine ⟨n, xs, by omega, hl, ?_, fun i f sz hf hc => by subst hc; exact hp i f hf⟩
 rw [hx]
 have := K.agg (xs.map (·.1))
 rw [List.map_map] at this
 exact this
theorem op_sliceS {bk : DataW H → Nat} (K : BKS bk) {α δ : Type} {G : J6 → (Nat → Value) → α → Prop} {m : δ → α → Nat} {t e sz fuel : Nat} {cs : List Value} {x : DataW H × List MemPlace} (ht : P.underlying t = some (.slice e)) (hc : P.cellsOf e = sz) (hsz : Nat.blt 0 sz = true)
  (hD : ∀ n cs x, n < fuel → cs.length = sz → DataW.trod enc P w base spare held n e cs = some x → ∃ a : α, G (fun b => w.heap[b]?) (fun j => cs.getD j undef) a ∧ ∀ d, m d a ≤ bk x.1) (h : DataW.trod enc P w base spare held fuel t cs = some x) :
  ∃ (v : Value) (xs : List α), cs = [v] ∧ FrN (fun b => w.heap[b]?) sz v G xs ∧ xs.length ≤ bk x.1 ∧ ∀ d, (xs.map (m d)).sum ≤ bk x.1 := by
 rcases DataW.trod_slice ht h with ⟨rfl, _⟩ | ⟨a, len, cap, elems, rest, n, hn, rfl, hx, _, hl, hm, hlen, hel, _⟩
 ·exact ⟨_, [], rfl, FrN.nil _ _ _, by simp, by simp⟩
 ·have each : ∀ i : Fin len, ∃ p : List Value × α, w.cells? base (a.add (i * sz)) sz = some p.1 ∧ p.1.length = sz ∧ G (fun b => w.heap[b]?) (fun j => p.1.getD j undef) p.2 ∧ ∀ d y, elems[(i : Nat)]? = some y → m d p.2 ≤ bk y.1 := by
   intro i
   have hi := hel i i.2
   rw [hc] at hi
   have hlt : (i : Nat) < elems.length := by rw [hlen]; exact i.2
   rw [List.getElem?_eq_getElem hlt, Option.bind_eq_some_iff] at hi
   obtain ⟨cs', h1, h2⟩ := hi
   obtain ⟨a', hg, hmm⟩ := hD _ _ _ (by omega) (Vk h1).1 h2
   refine ⟨(cs', a'), h1, (Vk h1).1, hg, fun d y hy => ?_⟩
   rw [List.getElem?_eq_getElem hlt] at hy
   cases hy
   exact hmm d
  have hsz' : 0 < sz := by simpa using hsz
  have hch : ∃ g : Fin len → List Value × α, ∀ i : Fin len, w.cells? base (a.add (i * sz)) sz = some (g i).1 ∧ (g i).1.length = sz ∧ G (fun b => w.heap[b]?) (fun j => (g i).1.getD j undef) (g i).2 ∧ ∀ d y, elems[(i : Nat)]? = some y → m d (g i).2 ≤ bk y.1 := ⟨fun i => (each i).choose, fun i => (each i).choose_spec⟩
  obtain ⟨g, hg⟩ := hch
  have hrow : Row w (some a) sz ((List.ofFn g).map fun p => p.1) := by
   cases len with
   | zero => left; simp
   | succ k =>
    have h0 := hg 0
    have hsp : a.spot = none := by
     have := (Vk h0.1).2 0 hsz'
     have hln := (Vk h0.1).1
     rw [List.getElem?_eq_getElem (by omega)] at this
     have hs := cell_spot this
     simpa [Addr.add] using hs
    obtain ⟨b, off, spot⟩ := a
    simp only at hsp
    subst hsp
    refine .inr ⟨b, off, rfl, fun i x hx => ?_⟩
    have hi : i < k + 1 := by
     rcases Nat.lt_or_ge i (k + 1) with h | h
     ·exact h
     ·rw [List.getElem?_eq_none (by simpa using h)] at hx; cases hx
    have hx' : x = (g ⟨i, hi⟩).1 := by
     rw [List.getElem?_map, List.getElem?_ofFn, dif_pos hi] at hx
     exact (Option.some.inj hx).symm
    subst hx'
    obtain ⟨c1, c2⟩ := Vk (hg ⟨i, hi⟩).1
    refine ⟨c1, fun j v hv => ?_⟩
    have hj : j < sz := by
     rcases Nat.lt_or_ge j sz with h | h
     ·exact h
     ·rw [List.getElem?_eq_none (by omega)] at hv; cases hv
    have := c2 j hj
    rw [hv, Addr.add_lit, Addr.add_lit] at this
    exact this
  have hm' : cap ≤ 9223372036854775807 := by simpa [maxLen] using hm
  have hfr : FrS (fun b => w.heap[b]?) sz (.slice (some a) len cap) ((List.ofFn g).map fun p => p.1) := ⟨⟨some a, cap, by simp, by simpa using hl, hm', Row.snap hrow hsz'⟩⟩
  refine ⟨_, (List.ofFn g).map Prod.snd, rfl, ?_, ?_, fun d => ?_⟩
  ·refine frn_of (css := (List.ofFn g).map Prod.fst) ?_ ⟨by simp, fun i c y hc hy => ?_⟩
   ·have : ((List.ofFn g).map Prod.fst).map idC = (List.ofFn g).map fun p => p.1 := by rw [List.map_map]; rfl
    rw [this]; exact hfr
   ·simp only [List.getElem?_map, Option.map_eq_some_iff] at hc hy
    obtain ⟨p, hp, rfl⟩ := hc
    obtain ⟨q, hq, rfl⟩ := hy
    rw [hp] at hq
    cases hq
    have hpm := List.mem_of_getElem? hp
    rw [List.mem_ofFn] at hpm
    obtain ⟨j, rfl⟩ := hpm
    exact ⟨(hg j).2.1, (hg j).2.2.1⟩
  ·have h1 := len_le_sum K.one (elems.map (·.1))
   have h2 := K.slice (elems.map (·.1)) (rest.map (·.1))
   rw [hx]
   simp only [List.length_map, List.length_ofFn] at h1 ⊢
   omega
  ·have h2 := K.slice (elems.map (·.1)) (rest.map (·.1))
   rw [hx]
   refine Nat.le_trans (sum_le_sum (by simp [hlen]) fun i a y ha hy => ?_) h2
   rw [List.getElem?_map, Option.map_eq_some_iff] at ha hy
   obtain ⟨p, hp, rfl⟩ := ha
   obtain ⟨y, hy, rfl⟩ := hy
   have hi : i < len := by
    rcases Nat.lt_or_ge i len with h | h
    ·exact h
    ·rw [List.getElem?_eq_none (by simpa using h)] at hp; cases hp
   rw [List.getElem?_ofFn, dif_pos hi] at hp
   cases hp
   exact (hg ⟨i, hi⟩).2.2.2 d y hy
end
end Go.Lx
