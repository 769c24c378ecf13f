/- What was written is read back: files; TagSpans. Conditions: the file's bulk. -/
import Derived.Test.YtemkoikdkfkijaaKQc
import Derived.Test.YtemkoikdkfkijaaMd
import Derived.ProofKit
import Derived.OpenShut
import Derived.ChangeArms
import Derived.DataReads
import Derived.JoinedCond
import Derived.LaidLaws
import Derived.SizedLaws
import Derived.Test.YtemkoikdkfkijaaLx3
namespace Go.M
open Go.Md Go.Pl
set_option linter.unusedVariables false
theorem put_win {s : List UInt8} {k a : Nat} {b x : List UInt8} (hk : k + b.length ≤ s.length) (hd : a + x.length ≤ k ∨ k + b.length ≤ a) (h : win s a x) : win (put s k b) a x := by
 unfold win at *
 rcases hd with hd | hd
 ·unfold put
  rw [List.append_assoc, List.drop_append_of_le_length (by rw [List.length_take]; omega), List.take_append_of_le_length (by rw [List.length_drop, List.length_take]; omega), List.drop_take, List.take_take, Nat.min_eq_left (by omega)]
  exact h
 ·have e : (put s k b).drop a = s.drop a := by
   unfold put
   have hlen : (s.take k ++ b).length = k + b.length := by rw [List.length_append, List.length_take]; omega
   rw [List.drop_append, hlen, List.drop_eq_nil_of_le (by omega), List.nil_append, List.drop_drop]
   congr 1; omega
  rw [e]; exact h
theorem put_at_win {s : List UInt8} {k : Nat} {b : List UInt8} (hk : k + b.length ≤ s.length) : win (put s k b) k b := by
 unfold win put
 rw [List.append_assoc, List.drop_append, List.length_take, Nat.min_eq_left (by omega), Nat.sub_self, List.drop_zero, List.drop_eq_nil_of_le (by rw [List.length_take]; omega), List.nil_append, List.take_left' rfl]
theorem win_self (s t : List UInt8) : win (s ++ t) s.length t := by
 unfold win; rw [List.drop_left' rfl, List.take_length]
theorem win_left {s t x : List UInt8} {a : Nat} (h : win s a x) (ha : a + x.length ≤ s.length) : win (s ++ t) a x := by
 unfold win at *
 rw [List.drop_append_of_le_length (by omega), List.take_append_of_le_length (by rw [List.length_drop]; omega)]
 exact h
def linkN : List (List T_tag_Entry) → Nat → Nat
 | [], _ => 0
 | _ :: _, p => ev p
noncomputable def filP (big : Bool) : List (List T_tag_Entry) → Nat → List T_tag_Span
 | [], _ => []
 | l :: ls, p => dirP 5 big l p ++ filP big ls (p + (Q2 5 big l p).length)
theorem dirS_ne (big : Bool) (l : List T_tag_Entry) (p : Nat) : ev p + 2 + 12 * l.length + 4 ≤ p + (Q2 5 big l p).length := dir5_len
theorem fil_keeps (big : Bool) : ∀ (ls : List (List T_tag_Entry)) (s : List UInt8) (k a : Nat) (x : List UInt8), k + 4 ≤ s.length → (a + x.length ≤ k ∨ k + 4 ≤ a) → a + x.length ≤ s.length → win s a x → win (filS big ls s k) a x
 | [], s, k, a, x, _, _, _, h => h
 | l :: ls, s, k, a, x, hk, hd, ha, h => by
  unfold filS
  have h4 : (Xi big ((ev s.length : Nat) : Int) 4).length = 4 := Ql _ _ (by omega)
  have hn := dirS_ne big l s.length
  have hev : s.length ≤ ev s.length := by unfold ev; omega
  have hp : (put (s ++ Q2 5 big l s.length) k (Xi big ((ev s.length : Nat) : Int) 4)).length = s.length + (Q2 5 big l s.length).length := by
   rw [put_len (by rw [h4, List.length_append]; omega), List.length_append]
  refine fil_keeps big ls _ _ a x (by rw [hp]; omega) (.inl (by omega)) (by rw [hp]; omega) ?_
  exact put_win (by rw [h4, List.length_append]; omega) (by rw [h4]; exact hd) (win_left h ha)
theorem fil_link (big : Bool) (ls : List (List T_tag_Entry)) (s : List UInt8) (k : Nat) (hk : k + 4 ≤ s.length) (h0 : win s k (zer 4)) : win (filS big ls s k) k (Xi big ((linkN ls s.length : Nat) : Int) 4) := by
 cases ls with
 | nil => rw [show Xi big ((linkN [] s.length : Nat) : Int) 4 = zer 4 from num_zero big (by omega)]; exact h0
 | cons l ls =>
  unfold filS
  have h4 : (Xi big ((ev s.length : Nat) : Int) 4).length = 4 := Ql _ _ (by omega)
  have hn := dirS_ne big l s.length
  have hev : s.length ≤ ev s.length := by unfold ev; omega
  have hp : (put (s ++ Q2 5 big l s.length) k (Xi big ((ev s.length : Nat) : Int) 4)).length = s.length + (Q2 5 big l s.length).length := by
   rw [put_len (by rw [h4, List.length_append]; omega), List.length_append]
  refine fil_keeps big ls _ _ k _ (by rw [hp]; omega) (.inl (by show k + (Xi big ((ev s.length : Nat) : Int) 4).length ≤ _; omega)) (by rw [hp]; show k + (Xi big ((ev s.length : Nat) : Int) 4).length ≤ _; omega) ?_
  exact put_at_win (s := s ++ Q2 5 big l s.length) (b := Xi big ((ev s.length : Nat) : Int) 4) (by rw [h4, List.length_append]; omega)
theorem dwin_len {s : List UInt8} {d : Nat} {big : Bool} {l : List T_tag_Entry} {p n : Nat} (h : dwin s d big l p n) : ev p + 2 + 12 * l.length + 4 ≤ s.length := by
 have := win_len h.2.2.1 (fun h => by have := Ql big (n : Int) (k := 4) (by omega); rw [h] at this; simp at this)
 rw [Ql _ _ (by omega)] at this
 exact this
theorem fil_dir (big : Bool) (l : List T_tag_Entry) (ls : List (List T_tag_Entry)) (s : List UInt8) (k : Nat) (hk : k + 4 ≤ s.length) (S : List UInt8) (hS : S = filS big (l :: ls) s k) :
  dwin S 4 big l s.length (linkN ls (s.length + (Q2 5 big l s.length).length)) ∧ S = filS big ls (put (s ++ Q2 5 big l s.length) k (Xi big ((ev s.length : Nat) : Int) 4)) (ev s.length + 2 + 12 * l.length) := by
 have h4 : (Xi big ((ev s.length : Nat) : Int) 4).length = 4 := Ql _ _ (by omega)
 have hn := dirS_ne big l s.length
 have hev : s.length ≤ ev s.length := by unfold ev; omega
 have hp : (put (s ++ Q2 5 big l s.length) k (Xi big ((ev s.length : Nat) : Int) 4)).length = s.length + (Q2 5 big l s.length).length := by
  rw [put_len (by rw [h4, List.length_append]; omega), List.length_append]
 have hS' : S = filS big ls (put (s ++ Q2 5 big l s.length) k (Xi big ((ev s.length : Nat) : Int) 4)) (ev s.length + 2 + 12 * l.length) := by rw [hS]; rfl
 refine ⟨?_, hS'⟩
 have hw : win (put (s ++ Q2 5 big l s.length) k (Xi big ((ev s.length : Nat) : Int) 4)) s.length (Q2 5 big l s.length) := put_win (by rw [h4, List.length_append]; omega) (.inr (by rw [h4]; exact hk)) (win_self s _)
 have hd := dwin_of (d := 4) hw
 have hdl := dwin_len hd
 obtain ⟨w1, w2, w3, w4⟩ := hd
 have l2 := Ql big (l.length : Int) (k := 2) (by omega)
 have lb := bods_len (Q2 4 big) big l (ev s.length + 2 + 12 * l.length + 4)
 have l4 := Ql big ((0 : Nat) : Int) (k := 4) (by omega)
 have keep : ∀ a x, (a + x.length ≤ ev s.length + 2 + 12 * l.length ∨ ev s.length + 2 + 12 * l.length + 4 ≤ a) → a + x.length ≤ s.length + (Q2 5 big l s.length).length → win (put (s ++ Q2 5 big l s.length) k (Xi big ((ev s.length : Nat) : Int) 4)) a x → win S a x := fun a x h1 h2 h3 => by
  rw [hS']; exact fil_keeps big ls _ _ a x (by rw [hp]; omega) h1 (by rw [hp]; exact h2) h3
 refine ⟨keep _ _ (.inl (by omega)) (by omega) w1, keep _ _ (.inl (by omega)) (by omega) w2, ?_, ?_⟩
 ·rw [hS']
  have := fil_link big ls (put (s ++ Q2 5 big l s.length) k (Xi big ((ev s.length : Nat) : Int) 4)) (ev s.length + 2 + 12 * l.length) (by rw [hp]; omega) (by
   rw [show Xi big ((0 : Nat) : Int) 4 = zer 4 from num_zero big (by omega)] at w3; exact w3)
  rw [hp] at this
  exact this
 ·have hlen : s.length + (Q2 5 big l s.length).length = ev s.length + 2 + 12 * l.length + 4 + (Uh (Q2 4 big) big l (ev s.length + 2 + 12 * l.length + 4)).2.length := dirB_len (Q2 4 big) big l s.length
  exact keep _ _ (.inr (Nat.le_refl _)) (by omega) w4
theorem rd_back (t : Int) (big : Bool) (S : List UInt8) (hS65 : S.length ≤ 65000) : ∀ (ls : List (List T_tag_Entry)) (s : List UInt8) (k D : Nat) (r : T_tag_reader) (acc : List (List T_tag_Entry)), S = filS big ls s k → k + 4 ≤ s.length → 8 ≤ s.length → (∀ l ∈ ls, dE 5 l = 0) → acc.length = D → D + ls.length ≤ 20 → r.s_ = S → r.big_ = big → r.dirs_ = D → r.found_ ≤ 1 → r.no_ = 0 → fresh r.seen_ s.length → r.parts_.length ≤ D * 323216080401 →
  ∃ r' : T_tag_reader, rdLoop t (linkN ls s.length) r acc = Wn t r'.s_ r'.big_ r'.dirs_ r'.found_ r'.no_ r'.parts_ (acc ++ ls) r'.seen_ ∧ r'.s_ = S ∧ r'.no_ = 0 ∧ r'.parts_ = r.parts_ ++ filP big ls s.length ∧ r'.parts_.length ≤ (D + ls.length) * 323216080401 := by
 have hcap : cap 5 = 323216080401 := by rfl
 intro ls
 induction ls with
 | nil =>
  intro s k D r acc hS hk h8 hE hacc hD hs hb hd hf hno hfr hp
  exact ⟨r, by rw [rd_end t (linkN [] s.length) r acc (.inl rfl), List.append_nil], hs, hno, by unfold filP; simp, by simpa using hp⟩
 | cons l ls ih =>
  intro s k D r acc hS hk h8 hE hacc hD hs hb hd hf hno hfr hp
  rw [List.length_cons] at hD
  obtain ⟨hw, hS'⟩ := fil_dir big l ls s k hk S hS
  have hdl := dwin_len hw
  have h4 : (Xi big ((ev s.length : Nat) : Int) 4).length = 4 := Ql _ _ (by omega)
  have hn := dirS_ne big l s.length
  have hev : s.length ≤ ev s.length := by unfold ev; omega
  have hp' : (put (s ++ Q2 5 big l s.length) k (Xi big ((ev s.length : Nat) : Int) 4)).length = s.length + (Q2 5 big l s.length).length := by
   rw [put_len (by rw [h4, List.length_append]; omega), List.length_append]
  have hSlen : s.length + (Q2 5 big l s.length).length ≤ S.length := by
   rw [hS', filS_len _ _ _ _ (by rw [hp']; omega), hp']
   have : ∀ (ls : List (List T_tag_Entry)) (p : Nat), p ≤ lenF big ls p := by
    intro ls
    induction ls with
    | nil => intro p; exact Nat.le_refl _
    | cons x ls ih => intro p; unfold lenF; exact Nat.le_trans (Nat.le_add_right _ _) (ih _)
   exact this _ _
  have hlink : linkN ls (s.length + (Q2 5 big l s.length).length) ≤ 4294967295 := by
   cases ls with
   | nil => exact Nat.zero_le _
   | cons x xs => show ev _ ≤ _; unfold ev; omega
  obtain ⟨r', q1, q2⟩ := dir_back ⟨r.s_, r.big_, r.parts_, r.seen_, r.dirs_ + 1, r.found_, r.no_⟩ s.length l (acc.length : Int) (linkN ls (s.length + (Q2 5 big l s.length).length)) (hE l (by simp)) h8 (by rw [hs]; exact hS65) hno hf (by show r.dirs_ + 1 ≤ 20; omega) (by show r.parts_.length + cap 5 ≤ _; rw [hcap]; omega) hfr (by rw [hs, hb]; exact hw) hlink
  have hpn := dirP_len 5 big l s.length (hE l (by simp))
  rw [hcap] at hpn
  have qp : r'.parts_ = r.parts_ ++ dirP 5 big l s.length := by have := q2.parts; rw [hb] at this; exact this
  have qs : fresh r'.seen_ (s.length + (Q2 5 big l s.length).length) := by have := q2.seen; rw [hb] at this; exact this
  obtain ⟨r'', z1, z2, z3, z4, z5⟩ := ih (put (s ++ Q2 5 big l s.length) k (Xi big ((ev s.length : Nat) : Int) 4)) (ev s.length + 2 + 12 * l.length) (D + 1) r' (acc ++ [l]) hS' (by rw [hp']; omega) (by rw [hp']; omega) (fun x hx => hE x (by simp [hx])) (by simp [hacc]) (by omega) (by have := q2.s; exact this.trans hs) (by have := q2.big; exact this.trans hb) (by have : r'.dirs_ = r.dirs_ + 1 := q2.dirs; omega) (by have : r'.found_ = r.found_ := q2.found; omega) q2.no (by rw [hp']; exact qs) (by rw [qp, List.length_append]; omega)
  rw [hp'] at z1 z4
  refine ⟨r'', ?_, z2, z3, ?_, ?_⟩
  ·show rdLoop t (ev s.length) r acc = _
   rw [rd_next t (ev s.length) r acc (by omega) hno (by omega) (by omega) q1, z1, List.append_assoc]; rfl
  ·rw [z4, qp, List.append_assoc]; rfl
  ·rw [List.length_cons]; rw [show D + (ls.length + 1) = D + 1 + ls.length by omega]; exact z5
end Go.M

/- What was written is read back; TagSpans, in plain Lean. Conditions: the file's bulk. -/
namespace Go.M
open Go.Md Go.Pl
set_option linter.unusedVariables false
def padC : Nat → List T_tag_Span → Nat → Prop
 | a, [], b => a = b
 | a, x :: l, b => x.From = (ev a : Int) ∧ ∃ c : Nat, x.To = (c : Int) ∧ ev a < c ∧ padC c l b
theorem padC_app {m : List T_tag_Span} {b c : Nat} : ∀ {l : List T_tag_Span} {a : Nat}, padC a l b → padC b m c → padC a (l ++ m) c
 | [], a, h, g => by have : a = b := h; subst this; exact g
 | x :: l, a, ⟨h1, d, h2, h3, h4⟩, g => ⟨h1, d, h2, h3, padC_app h4 g⟩
theorem padC_sep {n : Nat} : ∀ {l : List T_tag_Span} {a : Nat}, padC a l n → sepS n a l
 | [], a, h => by have : a = n := h; show (a : Int) ≤ n; omega
 | x :: l, a, ⟨h1, d, h2, h3, h4⟩ => ⟨by rw [h1]; unfold ev; omega, by omega, by rw [h2]; exact padC_sep h4⟩
theorem ent_pad {d : Nat} {big : Bool} (ih : ∀ l p, padC p (dirP d big l p) (p + (Q2 d big l p).length)) (e : T_tag_Entry) (q : Nat) : padC q (entP (dirP d big) (Wl big e.Value).length e q) (q + (Ug (Q2 d big) big e q).2.length) := by
 unfold entP Ug
 by_cases h13 : e.Value.Kind = 13
 ·rw [if_pos h13, if_pos h13]; exact ih e.Value.Entries q
 rw [if_neg h13, if_neg h13]
 by_cases h4 : (Wl big e.Value).length ≤ 4
 ·rw [if_pos h4, if_pos h4]; exact rfl
 ·rw [if_neg h4, if_neg h4]
  refine ⟨rfl, _, rfl, by omega, ?_⟩
  show ev q + _ = q + _
  simp only [List.length_append, pad_len]; unfold ev; omega
theorem bod_pad {d : Nat} {big : Bool} (ih : ∀ l p, padC p (dirP d big l p) (p + (Q2 d big l p).length)) : ∀ (l : List T_tag_Entry) (q : Nat), padC q (bodP (Q2 d big) (dirP d big) big l q) (q + (Uh (Q2 d big) big l q).2.length)
 | [], q => rfl
 | e :: l, q => by
  unfold bodP Uh
  simp only [List.length_append]
  rw [← Nat.add_assoc]
  exact padC_app (ent_pad ih e q) (bod_pad ih l _)
theorem dir_pad (big : Bool) : ∀ (d : Nat) (l : List T_tag_Entry) (p : Nat), padC p (dirP d big l p) (p + (Q2 d big l p).length) := by
 intro d
 induction d with
 | zero => intro l p; rfl
 | succ d ih =>
  intro l p
  have hlen : p + (Q2 (d + 1) big l p).length = ev p + 2 + 12 * l.length + 4 + (Uh (Q2 d big) big l (ev p + 2 + 12 * l.length + 4)).2.length := dirB_len (Q2 d big) big l p
  rw [hlen]
  refine ⟨rfl, _, rfl, by omega, ?_⟩
  rw [show ev p + (2 + 12 * l.length + 4) = ev p + 2 + 12 * l.length + 4 by omega]
  exact bod_pad ih l _
theorem fil_pad (big : Bool) : ∀ (ls : List (List T_tag_Entry)) (p : Nat), padC p (filP big ls p) (lenF big ls p)
 | [], p => rfl
 | l :: ls, p => padC_app (dir_pad big 5 l p) (fil_pad big ls _)
theorem sep_from {n : Int} : ∀ {l : List T_tag_Span} {a : Int}, sepS n a l → (∀ x ∈ l, a ≤ x.From) ∧ l.Pairwise fun x y => x.From < y.From
 | [], a, h => ⟨by simp, List.Pairwise.nil⟩
 | x :: l, a, h => by
  obtain ⟨h1, h2, h3⟩ := h
  obtain ⟨g1, g2⟩ := sep_from h3
  refine ⟨fun y hy => ?_, List.pairwise_cons.2 ⟨fun y hy => by have := g1 y hy; omega, g2⟩⟩
  rcases List.mem_cons.1 hy with h | h
  ·rw [h]; exact h1
  ·have := g1 y h; omega
theorem sep_lap {n : Int} : ∀ {l : List T_tag_Span} {a : Int}, sepS n a l → ¬ lapP l
 | [], a, h => by rintro ⟨i, hi, _⟩; simp at hi
 | x :: l, a, h => by
  obtain ⟨h1, h2, h3⟩ := h
  rintro ⟨i, hi, hlt⟩
  cases i with
  | zero =>
   cases l with
   | nil => simp at hi
   | cons y l =>
    have := h3.1
    simp at hlt; omega
  | succ i => exact sep_lap h3 ⟨i, by simpa using hi, by simpa using hlt⟩
theorem num42 (big : Bool) : Xi big 42 2 = if big then [0, 42] else [42, 0] := by
 rw [numS_dig _ _ _ (by omega)]
 cases big <;> rfl
theorem head_at (f : T_tag_File) {a : Nat} {x : List UInt8} (ha : a + x.length ≤ 4) (h : win (headS f.Big) a x) : win (Uc f) a x :=
 fil_keeps f.Big f.Dirs (headS f.Big) 4 a x (by rw [Vu]; omega) (.inl ha) (by rw [Vu]; omega) h
theorem octF_ge (f : T_tag_File) : 8 ≤ (Uc f).length := by
 rw [octF_len]
 have : ∀ (ls : List (List T_tag_Entry)) (p : Nat), p ≤ lenF f.Big ls p := by
  intro ls
  induction ls with
  | nil => intro p; exact Nat.le_refl _
  | cons x ls ih => intro p; unfold lenF; exact Nat.le_trans (Nat.le_add_right _ _) (ih _)
 exact this _ _
theorem file_parts {f : T_tag_File} (h : fileE f = 0) : f.Dirs.length ≤ 20 ∧ (∀ l ∈ f.Dirs, dE 5 l = 0) ∧ (Uc f).length ≤ 65000 := by
 unfold fileE at h
 split at h
 ·exact absurd h (by decide)
 split at h
 ·rename_i h2; exact absurd h h2
 split at h
 ·exact absurd h (by decide)
 rename_i h1 h2 h3
 exact ⟨by omega, firstD_ok (Classical.byContradiction fun hc => h2 hc), by omega⟩
open Classical in
theorem read_written {f : T_tag_File} (hb : fileB f) (he : fileE f = 0) {fd : Nat} (hfd : fd ≤ 1) : tag_read (Uc f) fd = some (f, filP f.Big f.Dirs 8, 0) := by
 obtain ⟨hn, hE, h65⟩ := file_parts he
 have h8 := octF_ge f
 have hh2 : win (headS f.Big) 0 ((if f.Big then [77, 77] else [73, 73]) ++ Xi f.Big 42 2) := by
  have : headS f.Big = ((if f.Big then [77, 77] else [73, 73]) ++ Xi f.Big 42 2) ++ zer 4 := rfl
  unfold win
  rw [List.drop_zero, this, List.take_left' rfl]
 have hw4 : win (Uc f) 0 ((if f.Big then [77, 77] else [73, 73]) ++ Xi f.Big 42 2) := head_at f (by rw [List.length_append, Ql _ _ (by omega)]; cases f.Big <;> simp) hh2
 have h4t : (Uc f).take 4 = if f.Big then [77, 77, 0, 42] else [73, 73, 42, 0] := by
  unfold win at hw4
  rw [num42] at hw4
  cases hB : f.Big <;> rw [hB] at hw4 <;> simpa using hw4
 have hbeg : tag_begins (Uc f) = some true := by
  unfold tag_begins
  rw [cI, if_neg (by omega), gCut_to (by omega), Je, cI, Je, show (4 : Int).toNat = 4 from rfl, h4t]
  cases f.Big <;> rfl
 have h0 : (Uc f)[0]'(by omega) = if f.Big then 77 else 73 := by
  have := congrArg (fun l => l[0]?) h4t
  simp only [List.getElem?_take] at this
  rw [if_pos (by omega), List.getElem?_eq_getElem (by omega)] at this
  cases hB : f.Big <;> rw [hB] at this <;> simpa using this
 have hbig : decide ((((Uc f)[0]'(by omega)).toNat : Int) = 77) = f.Big := by
  rw [h0]; cases f.Big <;> rfl
 have hz : win (headS f.Big) 4 (zer 4) := by
  unfold win headS
  rw [Vq, List.drop_left' (by rw [List.length_append, Ql _ _ (by omega)]; cases f.Big <;> rfl), List.take_of_length_le (by rw [Vq]; omega)]
 have hlink : win (Uc f) 4 (Xi f.Big ((linkN f.Dirs 8 : Nat) : Int) 4) := by
  have := fil_link f.Big f.Dirs (headS f.Big) 4 (by rw [Vu]; omega) hz
  rw [Vu] at this
  exact this
 have hlk : linkN f.Dirs 8 ≤ 8 := by
  cases f.Dirs with
  | nil => exact Nat.zero_le _
  | cons x xs => exact Nat.le_refl _
 have hval : valB f.Big (((Uc f).drop 4).take 4) = linkN f.Dirs 8 := by
  rw [win_val hlink (Ql _ _ (by omega))]
  have := Um f.Big (n := ((linkN f.Dirs 8 : Nat) : Int)) (by omega)
  omega
 unfold tag_read
 rw [cI, if_neg (by omega), hbeg, Je, Bool.not_true, Qp, show (0 : Int) = ((0 : Nat) : Int) from rfl, gOct_nat (by omega), Je, show (4 : Int) = ((4 : Nat) : Int) from rfl, number_eq (a := 4) (k := 4) _ (by show 4 + 4 ≤ (Uc f).length; omega) (by omega) (by show (Uc f).length ≤ 65000; omega), Je]
 simp only [hbig, hval]
 obtain ⟨r', q1, q2, q3, q4, q5⟩ := rd_back (((Uc f)[0]'(by omega)).toNat : Int) f.Big (Uc f) h65 f.Dirs (headS f.Big) 4 0 ⟨Uc f, f.Big, [], [], 0, fd, 0⟩ [] rfl (by rw [Vu]; omega) (by rw [Vu]; omega) hE rfl (by omega) rfl rfl rfl hfd rfl (fun k _ => rfl) (by simp)
 rw [Vu] at q1 q4
 refine q1.trans ?_
 have hpad := fil_pad f.Big f.Dirs 8
 rw [← octF_len] at hpad
 have hsep := padC_sep hpad
 have hparts : r'.parts_ = filP f.Big f.Dirs 8 := by rw [q4]; rfl
 have hsort : gSortF r'.parts_ Xk = some (filP f.Big f.Dirs 8) := by
  rw [hparts]
  have hp := (sep_from hsep).2
  have hl := (sepS_end hsep).2.1
  have := sortF_is spans_ok (List.Perm.refl (filP f.Big f.Dirs 8)) (hp.imp fun {x y} h => by
   unfold leC
   rw [decide_eq_true_iff, spans_le]; exact .inl h)
  unfold gSortF
  rw [if_pos ⟨by omega, spans_ok⟩, ← this]
 have hl := (sepS_end hsep).2.1
 unfold Wn
 rw [hsort, Je, cI, if_pos q3, overlap_eq _ (by omega), Je, decide_eq_false (sep_lap hsep), Qp]
 unfold Ue
 have hf : (⟨decide ((((Uc f)[0]'(by omega)).toNat : Int) = 77), [] ++ f.Dirs⟩ : T_tag_File) = f := by
  rw [hbig, List.nil_append]
 rw [cI, if_pos q3, hf, Check_eq hb, he, Je]
 unfold U4
 rw [cI, if_neg (by simp), hf]
 rfl
theorem Write_eq {f : T_tag_File} (hb : fileB f) : tag_Write f = some (if fileE f = 0 then (Uc f, 0) else ([], fileE f)) := by
 unfold tag_Write
 rw [Check_eq hb, Je, cI]
 by_cases he : fileE f = 0
 ·obtain ⟨hok, hn⟩ := fileE_zero hb he
  rw [if_neg (by simp [he]), if_pos he, written_eq hok hn hb.2, Je]
 ·rw [if_pos he, if_neg he]
end Go.M

/- Segments of a picture file: taken apart and joined again, in plain Lean. Conditions: none. -/
namespace Go.M
open Go.Md Go.Pl
set_option linter.unusedVariables false
def isK (k : Int) : Bool := decide (192 ≤ k ∧ k ≤ 254 ∧ k ≠ 216 ∧ k ≠ 217)
theorem isK_tag (k : Int) : tag_isKind k = some (isK k) := by
 unfold tag_isKind isK
 rw [out_tag, Je]
 by_cases h1 : k < 192 ∨ 254 < k
 ·rw [decide_eq_true h1, Bool.not_true, Qp]
  congr 1; symm; rw [decide_eq_false_iff_not]; omega
 ·rw [decide_eq_false h1, Bool.not_false, Yf, cI]
  by_cases h3 : k = 216
  ·rw [if_neg (by omega)]
   congr 1; symm; rw [decide_eq_false_iff_not]; omega
  ·rw [if_pos h3]; congr 1; rw [decide_eq_decide]; omega
def okG (g : T_tag_Segment) : Prop := isK g.Kind = true ∧ g.Kind ≠ 218 ∧ g.Text.length ≤ 65533
theorem okG_kind {g : T_tag_Segment} (h : okG g) : 192 ≤ g.Kind ∧ g.Kind ≤ 254 := by
 have := h.1; unfold isK at this; rw [decide_eq_true_iff] at this; omega
noncomputable def encG (g : T_tag_Segment) : List UInt8 := [255, UInt8.ofNat g.Kind.toNat] ++ Xi true (g.Text.length + 2 : Nat) 2 ++ g.Text
def encS (t : List UInt8) : List UInt8 := [255, 218] ++ t ++ [255, 217]
noncomputable def Uj (gs : List T_tag_Segment) (t : List UInt8) : List UInt8 := gs.flatMap encG ++ encS t
noncomputable def picG (gs : List T_tag_Segment) (t : List UInt8) : List UInt8 := [255, 216] ++ Uj gs t
def Qn (gs : List T_tag_Segment) (t : List UInt8) : List T_tag_Segment := gs ++ [⟨218, t⟩]
theorem encG_len (g : T_tag_Segment) : (encG g).length = 4 + g.Text.length := by
 unfold encG; rw [List.length_append, List.length_append, Ql _ _ (by omega)]; simp
theorem encS_len (t : List UInt8) : (encS t).length = 4 + t.length := by unfold encS; simp; omega
theorem num2 (n : Int) : Xi true n 2 = [UInt8.ofNat (wU8 (n / 256)).toNat, UInt8.ofNat (wU8 n).toNat] := by
 rw [numS_dig _ _ _ (by omega)]
 simp [digs, List.range_succ, Vo]
theorem u8_of (c : UInt8) : UInt8.ofNat c.toNat = c := UInt8.ofNat_toNat
theorem num_two (c d : UInt8) : Xi true ((c.toNat * 256 + d.toNat : Nat) : Int) 2 = [c, d] := by
 have hc := c.toNat_lt
 have hd := d.toNat_lt
 rw [num2]
 have e1 : (wU8 (((c.toNat * 256 + d.toNat : Nat) : Int) / 256)).toNat = c.toNat := by unfold wU8; omega
 have e2 : (wU8 ((c.toNat * 256 + d.toNat : Nat) : Int)).toNat = d.toNat := by unfold wU8; omega
 rw [e1, e2, u8_of, u8_of]
theorem shl_byte (c : UInt8) : gShl (c.toNat : Int) 8 = some ((c.toNat : Int) * 256) := by
 have hc := c.toNat_lt
 have e8 : (2 : Int) ^ (8 : Int).toNat = 256 := by decide
 unfold gShl
 rw [if_pos ⟨by decide, by decide⟩, e8]
 exact J9 (by omega)
theorem Zt (c : UInt8) : gK (-9223372036854775808) 9223372036854775807 (c.toNat : Int) = some (c.toNat : Int) := by
 have hc := c.toNat_lt
 unfold gK; rw [if_pos (by omega)]
theorem oct_0 (a : UInt8) (x : List UInt8) : Wm (a :: x) 0 = some (a.toNat : Int) := rfl
theorem oct_1 (a b : UInt8) (x : List UInt8) : Wm (a :: b :: x) 1 = some (b.toNat : Int) := rfl
theorem oct_2 (a b c : UInt8) (x : List UInt8) : Wm (a :: b :: c :: x) 2 = some (c.toNat : Int) := rfl
theorem oct_3 (a b c d : UInt8) (x : List UInt8) : Wm (a :: b :: c :: d :: x) 3 = some (d.toNat : Int) := rfl
theorem u8_inj {a : UInt8} {n : Nat} (h : (a.toNat : Int) = (n : Int)) (hn : n < 256) : a = UInt8.ofNat n := by
 have : a.toNat = n := by omega
 rw [← this, u8_of]
noncomputable def segF (x : List UInt8) (l : List T_tag_Segment) : Option (List T_tag_Segment × Int) := Wk (fun next2 s => Qe next2 s.1 s.2) (x, l)
theorem seg_step (k c2 c3 : UInt8) (z : List UInt8) (l : List T_tag_Segment) (hk : isK (k.toNat : Int) = true) (h218 : (k.toNat : Int) ≠ 218) (hN : 2 ≤ c2.toNat * 256 + c3.toNat) (hz : c2.toNat * 256 + c3.toNat ≤ z.length + 2) (hl : l.length ≤ 1000000) (hzl : z.length ≤ 1000000) :
  segF (255 :: k :: c2 :: c3 :: z) l = segF (z.drop (c2.toNat * 256 + c3.toNat - 2)) (l ++ [⟨(k.toNat : Int), z.take (c2.toNat * 256 + c3.toNat - 2)⟩]) := by
 have hc2 := c2.toNat_lt
 have hc3 := c3.toNat_lt
 refine Xm _ fun next => ?_
 show Qe next (255 :: k :: c2 :: c3 :: z) l = _
 unfold Qe
 rw [cI, if_neg (by simp; omega), oct_0, Je, cI, if_neg (by decide), oct_1, Je, Zt, Je, isK_tag, hk, Je, Bool.not_true, Qp, Je, Zt, Je, cI, if_neg h218, cI, if_neg (by simp; omega), oct_2, Je, Zt, Je, shl_byte, Je, oct_3, Je, Zt, Je, or_byte (by omega) hc3]
 rw [cI, if_neg (by omega), J9 (by simp; omega), Je, cI, if_neg (by simp; omega), J9 (by omega), Je, gCut_ok (by simp; omega), Je, Yp (by simp; omega), Je, Je, Vd (by simp; omega), Je]
 have e1 : (2 + ((c2.toNat * 256 + c3.toNat : Nat) : Int)).toNat = (c2.toNat * 256 + c3.toNat - 2) + 4 := by omega
 rw [e1, show (4 : Int).toNat = 4 from rfl, Nat.add_sub_cancel]
 rfl
theorem seg_scan (y : List UInt8) (l : List T_tag_Segment) (hy : y.length ≤ 1000000) (hl : l.length ≤ 1000000) :
  segF (255 :: 218 :: y) l = if y.length < 2 then some ([], 8) else if y.drop (y.length - 2) ≠ [255, 217] then some ([], 8) else if 200 < l.length + 1 then some ([], 4) else some (l ++ [⟨218, y.take (y.length - 2)⟩], 0) := by
 refine Qr fun next => ?_
 show Qe next (255 :: 218 :: y) l = _
 unfold Qe
 rw [cI, if_neg (by simp; omega), oct_0, Je, cI, if_neg (by decide), oct_1, Je, Zt, Je, isK_tag, Je, show (!isK (((218 : UInt8).toNat : Nat) : Int)) = false from rfl, Qp, Je, Zt, Je, cI, if_pos (by rfl)]
 unfold W7
 rw [cI]
 by_cases h2 : y.length < 2
 ·rw [if_pos (by simp; omega), if_pos h2]
 ·rw [if_neg (by simp; omega), if_neg h2, J9 (by simp; omega), Je, Vd (by simp; omega), Je, cI]
  have e1 : (((255 :: 218 :: y).length : Int) - 2).toNat = (y.length - 2) + 2 := by simp; omega
  rw [e1, show (255 :: 218 :: y).drop (y.length - 2 + 2) = y.drop (y.length - 2) from rfl]
  by_cases h3 : y.drop (y.length - 2) = [255, 217]
  ·rw [if_neg (by simp [h3]), if_neg (by simp [h3]), Je, gCut_ok (by simp; omega), Je, Yp (by simp; omega), Je, cI, e1, show (2 : Int).toNat = 2 from rfl, Nat.add_sub_cancel]
   by_cases h4 : 200 < l.length + 1
   ·rw [if_pos (by simp; omega), if_pos h4]
   ·rw [if_neg (by simp; omega), if_neg h4]; rfl
  ·rw [if_pos h3, if_pos h3]
theorem seg_sound : ∀ (n : Nat) (x : List UInt8) (l : List T_tag_Segment), x.length ≤ n → x.length ≤ 1000000 → l.length + x.length ≤ 1000000 →
  ∃ r, segF x l = some r ∧ (r.2 ≠ 0 → r.1 = []) ∧ (r.2 = 0 → ∃ gs t, (∀ g ∈ gs, okG g) ∧ x = Uj gs t ∧ r.1 = l ++ Qn gs t ∧ r.1.length ≤ 200) := by
 intro n
 induction n with
 | zero =>
  intro x l hn hx hl
  have : x = [] := List.length_eq_zero_iff.1 (by omega)
  subst this
  exact ⟨([], 8), Qr fun next => by show Qe next [] l = _; unfold Qe; rw [cI, if_pos (by decide)], fun _ => rfl, fun h => absurd h (by simp)⟩
 | succ n ih =>
  intro x l hn hx hl
  have bad : ∀ r : List T_tag_Segment × Int, r.1 = [] → r.2 ≠ 0 → (∀ next, Qe next x l = some r) → ∃ r, segF x l = some r ∧ (r.2 ≠ 0 → r.1 = []) ∧ (r.2 = 0 → ∃ gs t, (∀ g ∈ gs, okG g) ∧ x = Uj gs t ∧ r.1 = l ++ Qn gs t ∧ r.1.length ≤ 200) :=
   fun r h1 h2 h3 => ⟨r, Qr h3, fun _ => h1, fun h => absurd h h2⟩
  match x, hn, hx, hl, bad with
  | [], _, _, _, bad => exact bad ([], 8) rfl (by simp) fun next => by unfold Qe; rw [cI, if_pos (by simp)]
  | [_], _, _, _, bad => exact bad ([], 8) rfl (by simp) fun next => by unfold Qe; rw [cI, if_pos (by simp)]
  | c0 :: k :: y, hn, hx, hl, bad =>
   simp only [List.length_cons] at hn hx hl
   by_cases h255 : (c0.toNat : Int) ≠ 255
   ·exact bad ([], 8) rfl (by simp) fun next => by unfold Qe; rw [cI, if_neg (by simp; omega), oct_0, Je, cI, if_pos h255]
   have hc0 : c0 = 255 := u8_inj (n := 255) (by omega) (by omega)
   subst hc0
   cases hk : isK (k.toNat : Int) with
   | false => exact bad ([], 8) rfl (by simp) fun next => by unfold Qe; rw [cI, if_neg (by simp; omega), oct_0, Je, cI, if_neg (by decide), oct_1, Je, Zt, Je, isK_tag, hk, Je, Bool.not_false, Yf]
   | true =>
   by_cases h218 : (k.toNat : Int) = 218
   ·have hk218 : k = 218 := u8_inj (n := 218) h218 (by omega)
    subst hk218
    rw [seg_scan y l (by omega) (by omega)]
    split
    ·exact ⟨_, rfl, fun _ => rfl, fun h => absurd h (by simp)⟩
    split
    ·exact ⟨_, rfl, fun _ => rfl, fun h => absurd h (by simp)⟩
    split
    ·exact ⟨_, rfl, fun _ => rfl, fun h => absurd h (by simp)⟩
    rename_i h2 h3 h4
    refine ⟨_, rfl, fun h => absurd rfl h, fun _ => ⟨[], y.take (y.length - 2), by simp, ?_, rfl, by simp; omega⟩⟩
    have h3' : y.drop (y.length - 2) = [255, 217] := Classical.byContradiction fun h => h3 h
    unfold Uj encS
    rw [List.flatMap_nil, List.nil_append, List.append_assoc, ← h3', List.take_append_drop]; rfl
   ·match y, hn, hx, hl, bad with
    | [], _, _, _, bad => exact bad ([], 8) rfl (by simp) fun next => by unfold Qe; rw [cI, if_neg (by simp), oct_0, Je, cI, if_neg (by decide), oct_1, Je, Zt, Je, isK_tag, hk, Je, Bool.not_true, Qp, Je, Zt, Je, cI, if_neg h218, cI, if_pos (by simp)]
    | [_], _, _, _, bad => exact bad ([], 8) rfl (by simp) fun next => by unfold Qe; rw [cI, if_neg (by simp), oct_0, Je, cI, if_neg (by decide), oct_1, Je, Zt, Je, isK_tag, hk, Je, Bool.not_true, Qp, Je, Zt, Je, cI, if_neg h218, cI, if_pos (by simp)]
    | c2 :: c3 :: z, hn, hx, hl, bad =>
     simp only [List.length_cons] at hn hx hl
     have hc2 := c2.toNat_lt
     have hc3 := c3.toNat_lt
     by_cases hN : c2.toNat * 256 + c3.toNat < 2
     ·exact bad ([], 8) rfl (by simp) fun next => by
       unfold Qe
       rw [cI, if_neg (by simp; omega), oct_0, Je, cI, if_neg (by decide), oct_1, Je, Zt, Je, isK_tag, hk, Je, Bool.not_true, Qp, Je, Zt, Je, cI, if_neg h218, cI, if_neg (by simp; omega), oct_2, Je, Zt, Je, shl_byte, Je, oct_3, Je, Zt, Je, or_byte (by omega) hc3, cI, if_pos (by omega)]
     by_cases hz : z.length + 2 < c2.toNat * 256 + c3.toNat
     ·exact bad ([], 8) rfl (by simp) fun next => by
       unfold Qe
       rw [cI, if_neg (by simp; omega), oct_0, Je, cI, if_neg (by decide), oct_1, Je, Zt, Je, isK_tag, hk, Je, Bool.not_true, Qp, Je, Zt, Je, cI, if_neg h218, cI, if_neg (by simp; omega), oct_2, Je, Zt, Je, shl_byte, Je, oct_3, Je, Zt, Je, or_byte (by omega) hc3, cI, if_neg (by omega), J9 (by simp; omega), Je, cI, if_pos (by simp; omega)]
     rw [seg_step k c2 c3 z l hk h218 (by omega) (by omega) (by omega) (by omega)]
     obtain ⟨r, h1, h2, h3⟩ := ih (z.drop (c2.toNat * 256 + c3.toNat - 2)) (l ++ [⟨(k.toNat : Int), z.take (c2.toNat * 256 + c3.toNat - 2)⟩]) (by simp; omega) (by simp; omega) (by simp; omega)
     refine ⟨r, h1, h2, fun h0 => ?_⟩
     obtain ⟨gs, t, g1, g2, g3, g4⟩ := h3 h0
     refine ⟨⟨(k.toNat : Int), z.take (c2.toNat * 256 + c3.toNat - 2)⟩ :: gs, t, ?_, ?_, ?_, g4⟩
     ·intro g hg
      rcases List.mem_cons.1 hg with hg | hg
      ·rw [hg]; exact ⟨hk, h218, by simp; omega⟩
      ·exact g1 g hg
     ·unfold Uj
      rw [List.flatMap_cons, List.append_assoc]
      show _ = encG _ ++ Uj gs t
      rw [← g2]
      unfold encG
      have hlen : (z.take (c2.toNat * 256 + c3.toNat - 2)).length + 2 = c2.toNat * 256 + c3.toNat := by rw [List.length_take]; omega
      simp only [hlen]
      rw [num_two, Int.toNat_natCast, u8_of, List.append_assoc, List.append_assoc, List.take_append_drop]; rfl
     ·rw [g3]; unfold Qn; simp
theorem seg_complete : ∀ (gs : List T_tag_Segment) (t : List UInt8) (l : List T_tag_Segment), (∀ g ∈ gs, okG g) → (Uj gs t).length ≤ 1000000 → l.length + gs.length + 1 ≤ 200 → segF (Uj gs t) l = some (l ++ Qn gs t, 0)
 | [], t, l, _, hx, hl => by
  have e : Uj [] t = 255 :: 218 :: (t ++ [255, 217]) := by unfold Uj encS; rfl
  rw [e] at hx ⊢
  simp only [List.length_cons, List.length_append, List.length_nil] at hx
  rw [seg_scan _ l (by simp; omega) (by omega), if_neg (by simp), if_neg (by simp), if_neg (by simp at hl; omega)]
  simp [Qn]
 | g :: gs, t, l, hok, hx, hl => by
  have hg := hok g (by simp)
  have hk := okG_kind hg
  have e : Uj (g :: gs) t = encG g ++ Uj gs t := by unfold Uj; rw [List.flatMap_cons, List.append_assoc]
  rw [e, List.length_append, encG_len] at hx
  have htl := hg.2.2
  have hnum := num2 ((g.Text.length + 2 : Nat) : Int)
  have e2 : encG g ++ Uj gs t = 255 :: UInt8.ofNat g.Kind.toNat :: UInt8.ofNat (wU8 (((g.Text.length + 2 : Nat) : Int) / 256)).toNat :: UInt8.ofNat (wU8 ((g.Text.length + 2 : Nat) : Int)).toNat :: (g.Text ++ Uj gs t) := by
   unfold encG; rw [hnum]; simp
  have hkn : ((UInt8.ofNat g.Kind.toNat).toNat : Int) = g.Kind := by rw [UInt8.toNat_ofNat']; omega
  have hN : (UInt8.ofNat (wU8 (((g.Text.length + 2 : Nat) : Int) / 256)).toNat).toNat * 256 + (UInt8.ofNat (wU8 ((g.Text.length + 2 : Nat) : Int)).toNat).toNat = g.Text.length + 2 := by
   rw [UInt8.toNat_ofNat', UInt8.toNat_ofNat']; unfold wU8; omega
  rw [e, e2]
  simp only [List.length_cons] at hl
  rw [seg_step _ _ _ _ l (by rw [hkn]; exact hg.1) (by rw [hkn]; exact hg.2.1) (by omega) (by rw [hN, List.length_append]; omega) (by omega) (by rw [List.length_append]; omega), hN, hkn, Nat.add_sub_cancel, List.drop_left' rfl, List.take_left' rfl]
  rw [seg_complete gs t _ (fun x hx => hok x (by simp [hx])) (by omega) (by simp; omega)]
  simp [Qn]
theorem Segments_sound (a : List UInt8) : ∃ l e, Yi a = some (l, e) ∧ (e ≠ 0 → l = []) ∧ (e = 0 → a.length ≤ 200000 ∧ ∃ gs t, (∀ g ∈ gs, okG g) ∧ a = picG gs t ∧ l = Qn gs t ∧ l.length ≤ 200) := by
 unfold Yi
 rw [cI]
 by_cases hL : (200000 : Int) < a.length
 ·rw [if_pos hL]; exact ⟨_, _, rfl, fun _ => rfl, by simp⟩
 rw [if_neg hL, cI]
 by_cases h2 : (a.length : Int) < 2
 ·rw [if_pos h2]; exact ⟨_, _, rfl, fun _ => rfl, by simp⟩
 rw [if_neg h2, gCut_to (by omega), Je, cI, show (2 : Int).toNat = 2 from rfl]
 by_cases h3 : a.take 2 = [255, 216]
 ·rw [if_neg (by simp [h3]), Vd (by omega), Je, show (2 : Int).toNat = 2 from rfl]
  obtain ⟨r, g1, g2, g3⟩ := seg_sound (a.drop 2).length (a.drop 2) [] (Nat.le_refl _) (by simp; omega) (by simp; omega)
  refine ⟨r.1, r.2, g1, g2, fun h0 => ⟨by omega, ?_⟩⟩
  obtain ⟨gs, t, q1, q2, q3, q4⟩ := g3 h0
  exact ⟨gs, t, q1, by unfold picG; rw [← q2, ← h3, List.take_append_drop], by simpa using q3, q4⟩
 ·rw [if_pos h3]; exact ⟨_, _, rfl, fun _ => rfl, by simp⟩
theorem Ur {gs : List T_tag_Segment} {t : List UInt8} (hok : ∀ g ∈ gs, okG g) (hx : (picG gs t).length ≤ 200000) (hl : gs.length + 1 ≤ 200) : Yi (picG gs t) = some (Qn gs t, 0) := by
 have hlen : (picG gs t).length = 2 + (Uj gs t).length := by unfold picG; simp; omega
 unfold Yi
 rw [cI, if_neg (by omega), cI, if_neg (by omega), gCut_to (by omega), Je, cI, show (2 : Int).toNat = 2 from rfl, show (picG gs t).take 2 = [255, 216] from rfl, if_neg (by simp), Vd (by omega), Je, show (2 : Int).toNat = 2 from rfl, show (picG gs t).drop 2 = Uj gs t from rfl]
 have := seg_complete gs t [] hok (by omega) (by simp; omega)
 rw [List.nil_append] at this
 exact this
end Go.M

/- TagPictures in plain Lean: parts joined, the metadata's part, the law. Conditions: the file's bulk. -/
namespace Go.M
open Go.Md Go.Pl
set_option linter.unusedVariables false
def chk (g : T_tag_Segment) (last : Bool) : Int := if isK g.Kind = false then 10 else if decide (g.Kind = 218) ≠ last then 5 else if g.Kind ≠ 218 ∧ 65533 < g.Text.length then 4 else 0
theorem chk_eq (g : T_tag_Segment) (last : Bool) : Wx g last = some (chk g last) := by
 unfold Wx chk
 rw [isK_tag, Je]
 cases hk : isK g.Kind with
 | false => rw [Bool.not_false, Yf, if_pos rfl]
 | true =>
  rw [Bool.not_true, Qp, if_neg (by simp), cI]
  by_cases h1 : decide (g.Kind = 218) ≠ last
  ·rw [if_pos h1, if_pos h1]
  ·rw [if_neg h1, if_neg h1, cI]
   by_cases h2 : g.Kind = 218
   ·rw [if_neg (by simp [h2]), if_neg (by simp [h2])]
   ·rw [if_pos h2, cI]
    by_cases h3 : 65533 < g.Text.length
    ·rw [if_pos (by omega), if_pos ⟨h2, h3⟩]
    ·rw [if_neg (by omega), if_neg (by omega)]
noncomputable def hdG (g : T_tag_Segment) : List UInt8 := if g.Kind ≠ 218 then [255, UInt8.ofNat g.Kind.toNat] ++ Xi true (g.Text.length + 2 : Nat) 2 else [255, 218]
noncomputable def nxG (g : T_tag_Segment) (s : List UInt8) : List UInt8 := if (s ++ hdG g).length ≤ 200000 then s ++ hdG g ++ g.Text else s ++ hdG g
theorem hdG_len (g : T_tag_Segment) : (hdG g).length ≤ 4 := by
 unfold hdG; split
 ·rw [List.length_append, Ql _ _ (by omega)]; simp
 ·simp
noncomputable def joinF (l : List T_tag_Segment) (k : Nat) (s : List UInt8) : Option (List UInt8 × Int) := Wk (fun next2 s => Xz l next2 s.1 s.2) ((k : Int), Qa s)
theorem join_end (l : List T_tag_Segment) (s : List UInt8) (hs : s.length ≤ 100000000) : joinF l l.length s = some (if 200000 < (s ++ [255, 217]).length then ([], 4) else (s ++ [255, 217], 0)) := by
 refine Qr fun next => ?_
 show Xz l next (l.length : Int) (Qa s) = _
 unfold Xz
 rw [cI, if_neg (by omega)]
 unfold Uy
 have e : Qa s ++ ([255, 217] : List Int) = Qa (s ++ [255, 217]) := by rw [X6]; rfl
 rw [gApN_ok (by rw [Qg]; simp; omega), Je, cI, e, Qg]
 by_cases h : 200000 < (s ++ [255, 217]).length
 ·rw [if_pos (by omega), if_pos h]
 ·rw [if_neg (by omega), if_neg h, toStr_ofStr]
theorem join_err {l : List T_tag_Segment} {k : Nat} (hk : k < l.length) (s : List UInt8) (h : chk (l[k]'hk) (decide (k + 1 = l.length)) ≠ 0) (hl : l.length ≤ 1000) : joinF l k s = some ([], chk (l[k]'hk) (decide (k + 1 = l.length))) := by
 have e : (decide ((k : Int) = ((l.length : Int) - 1))) = decide (k + 1 = l.length) := by rw [decide_eq_decide]; omega
 refine Qr fun next => ?_
 show Xz l next (k : Int) (Qa s) = _
 unfold Xz
 rw [cI, if_pos (by omega), X5 hk, Je, J9 (by omega), Je, e, chk_eq, Je, cI, if_pos h]
theorem join_step {l : List T_tag_Segment} {k : Nat} (hk : k < l.length) (s : List UInt8) (h : chk (l[k]'hk) (decide (k + 1 = l.length)) = 0) (hl : l.length ≤ 1000) (hs : s.length ≤ 100000000) (ht : (l[k]'hk).Text.length ≤ 200000) : joinF l k s = joinF l (k + 1) (nxG (l[k]'hk) s) := by
 have e : (decide ((k : Int) = ((l.length : Int) - 1))) = decide (k + 1 = l.length) := by rw [decide_eq_decide]; omega
 have hkk : 192 ≤ (l[k]'hk).Kind ∧ (l[k]'hk).Kind ≤ 254 := by
  have : isK (l[k]'hk).Kind = true := by
   cases hh : isK (l[k]'hk).Kind with
   | true => rfl
   | false => unfold chk at h; rw [if_pos hh] at h; exact absurd h (by decide)
  unfold isK at this; rw [decide_eq_true_iff] at this; omega
 have hg : Zh l (k : Int) = some (l[k]'hk) := X5 hk
 generalize l[k]'hk = g at *
 have e2 : Qa s ++ ([255, wU8 g.Kind] : List Int) = Qa (s ++ [255, UInt8.ofNat g.Kind.toNat]) := by
  rw [X6]
  congr 1
  unfold Qa
  simp only [List.map_cons, List.map_nil, UInt8.toNat_ofNat']
  congr 2
  unfold wU8; congr 1; omega
 have j4 : ∀ (next : Int × List Int → Option (List UInt8 × Int)) (o : List UInt8), o.length ≤ 100000010 → We (k : Int) next g (Qa o) = next (((k + 1 : Nat) : Int), Qa (if o.length ≤ 200000 then o ++ g.Text else o)) := by
  intro next o ho
  unfold We
  rw [cI, Qg]
  by_cases h5 : o.length ≤ 200000
  ·rw [if_pos (by omega), if_pos h5, gApL_ok (by rw [Qg, Qg]; omega), Je, ← X6]
   unfold Wc
   rw [J9 (by omega), Je]; rfl
  ·rw [if_neg (by omega), if_neg h5]
   unfold Wc
   rw [J9 (by omega), Je]; rfl
 refine Xm _ fun next => ?_
 show Xz l next (k : Int) (Qa s) = _
 unfold Xz
 rw [cI, if_pos (by omega), hg, Je, J9 (by omega), Je, e, chk_eq, h, Je, cI, if_neg (by simp), gApN_ok (by rw [Qg]; simp; omega), Je, e2, cI]
 by_cases h8 : g.Kind = 218
 ·have hd8 : hdG g = [255, UInt8.ofNat g.Kind.toNat] := by unfold hdG; rw [if_neg (by simp [h8]), h8]; rfl
  unfold nxG
  rw [if_neg (by simp [h8]), j4 _ _ (by simp; omega), hd8]
 ·have hd8 : hdG g = [255, UInt8.ofNat g.Kind.toNat] ++ Xi true (g.Text.length + 2 : Nat) 2 := by unfold hdG; rw [if_pos h8]
  unfold nxG
  rw [if_pos h8, J9 (by omega), Je, show (g.Text.length : Int) + 2 = ((g.Text.length + 2 : Nat) : Int) by omega, tag2, Je, Yp (by rw [Qg, Qg, Ql _ _ (by omega)]; simp; omega), Je, ← X6, j4 _ _ (by simp [Ql]; omega), hd8, List.append_assoc]
theorem join_sound {l : List T_tag_Segment} (hl : l.length ≤ 200) (ht : ∀ g ∈ l, g.Text.length ≤ 200000) : ∀ (xs : List T_tag_Segment) (k : Nat) (s : List UInt8), l.drop k = xs → k + xs.length = l.length → s.length ≤ 2 + k * 200004 →
  ∃ r, joinF l k s = some r ∧ (r.2 ≠ 0 → r.1 = []) ∧ (r.2 = 0 → r.1.length ≤ 200000 ∧ ((xs = [] ∧ r.1 = s ++ [255, 217]) ∨ ∃ gs t, (∀ g ∈ gs, okG g) ∧ xs = Qn gs t ∧ r.1 = s ++ Uj gs t)) := by
 intro xs
 induction xs with
 | nil =>
  intro k s hd hk hs
  have : k = l.length := by simpa using hk
  subst this
  rw [join_end l s (by omega)]
  by_cases h : 200000 < (s ++ [255, 217]).length
  ·rw [if_pos h]; exact ⟨_, rfl, fun _ => rfl, fun h => absurd h (by simp)⟩
  ·rw [if_neg h]; exact ⟨_, rfl, fun h => absurd rfl h, fun _ => ⟨by show (s ++ [255, 217]).length ≤ _; omega, .inl ⟨rfl, rfl⟩⟩⟩
 | cons g xs ih =>
  intro k s hd hk hs
  rw [List.length_cons] at hk
  have hlt : k < l.length := by omega
  have hcons := List.drop_eq_getElem_cons hlt
  rw [hd] at hcons
  have hg : g = l[k]'hlt := by injection hcons
  have hd' : l.drop (k + 1) = xs := by injection hcons with a b; exact b.symm
  by_cases hc : chk (l[k]'hlt) (decide (k + 1 = l.length)) = 0
  ·rw [join_step hlt s hc (by omega) (by omega) (ht _ (List.getElem_mem _))]
   rw [← hg] at hc ⊢
   have htg : g.Text.length ≤ 200000 := by rw [hg]; exact ht _ (List.getElem_mem _)
   have hh := hdG_len g
   have hnl : (nxG g s).length ≤ 2 + (k + 1) * 200004 := by
    unfold nxG
    rw [Nat.add_mul]
    split <;> simp only [List.length_append] <;> omega
   obtain ⟨r, h1, h2, h3⟩ := ih (k + 1) (nxG g s) hd' (by omega) hnl
   refine ⟨r, h1, h2, fun h0 => ?_⟩
   obtain ⟨h4, h5⟩ := h3 h0
   have hn : nxG g s = s ++ hdG g ++ g.Text := by
    unfold nxG
    split
    ·rfl
    ·rename_i hbig
     exfalso
     have : (nxG g s).length ≤ r.1.length := by
      rcases h5 with ⟨_, h5⟩ | ⟨gs, t, _, _, h5⟩ <;> rw [h5, List.length_append] <;> omega
     unfold nxG at this
     rw [if_neg hbig] at this; omega
   unfold chk at hc
   split at hc
   ·exact absurd hc (by decide)
   rename_i hk1
   split at hc
   ·exact absurd hc (by decide)
   rename_i hk2
   split at hc
   ·exact absurd hc (by decide)
   rename_i hk3
   refine ⟨h4, .inr ?_⟩
   rcases h5 with ⟨h5, h6⟩ | ⟨gs, t, h5, h6, h7⟩
   ·have h218 : g.Kind = 218 := by
     have : k + 1 = l.length := by rw [h5] at hk; simpa using hk
     have h9 : decide (g.Kind = 218) = true := by
      have := Classical.byContradiction fun h => hk2 h
      rw [this, decide_eq_true_iff]; assumption
     simpa using h9
    refine ⟨[], g.Text, by simp, ?_, ?_⟩
    ·rw [h5]; unfold Qn; rw [List.nil_append, ← h218]
    ·rw [h6, hn]; unfold hdG Uj encS
     rw [if_neg (by simp [h218])]; simp
   ·have h218 : g.Kind ≠ 218 := by
     have h8 : ¬ k + 1 = l.length := by rw [h6] at hk; unfold Qn at hk; simp at hk; omega
     have h9 : decide (g.Kind = 218) = false := by
      have := Classical.byContradiction fun h => hk2 h
      rw [this, decide_eq_false_iff_not]; exact h8
     simpa using h9
    refine ⟨g :: gs, t, ?_, by rw [h6]; rfl, ?_⟩
    ·intro x hx
     rcases List.mem_cons.1 hx with hx | hx
     ·rw [hx]; exact ⟨by simpa using hk1, h218, by omega⟩
     ·exact h5 x hx
    ·rw [h7, hn]; unfold hdG Uj encG
     rw [if_pos h218, List.flatMap_cons]; simp
  ·rw [join_err hlt s hc (by omega)]
   exact ⟨_, rfl, fun _ => rfl, fun h => absurd h hc⟩
theorem join_complete {l : List T_tag_Segment} (hl : l.length ≤ 200) : ∀ (gs : List T_tag_Segment) (t : List UInt8) (k : Nat) (s : List UInt8), (∀ g ∈ gs, okG g) → l.drop k = Qn gs t → (s ++ Uj gs t).length ≤ 200000 → joinF l k s = some (s ++ Uj gs t, 0)
 | [], t, k, s, _, hd, hs => by
  have hlt : k < l.length := by
   rcases Nat.lt_or_ge k l.length with h | h
   ·exact h
   ·rw [List.drop_eq_nil_of_le h] at hd; exact absurd hd.symm (by simp [Qn])
  have hcons := List.drop_eq_getElem_cons hlt
  rw [hd] at hcons
  have hg : l[k]'hlt = ⟨218, t⟩ := by injection hcons with a b; exact a.symm
  have hd' : l.drop (k + 1) = [] := by injection hcons with a b; exact b.symm
  have hlast : k + 1 = l.length := by have := congrArg List.length hd'; simp at this; omega
  rw [List.length_append] at hs
  have hb : (Uj [] t).length = 4 + t.length := by unfold Uj; rw [List.flatMap_nil, List.nil_append, encS_len]
  rw [join_step hlt s (by rw [hg, decide_eq_true hlast]; rfl) (by omega) (by omega) (by rw [hg]; show t.length ≤ _; omega), hg, hlast]
  have hn : nxG ⟨218, t⟩ s = s ++ [255, 218] ++ t := by
   have hd8 : hdG ⟨218, t⟩ = [255, 218] := by unfold hdG; rw [if_neg (by simp)]
   unfold nxG
   rw [hd8, if_pos (by simp; omega)]
  rw [hn, join_end _ _ (by simp; omega), if_neg (by simp; omega)]
  unfold Uj encS; simp
 | g :: gs, t, k, s, hok, hd, hs => by
  have hlt : k < l.length := by
   rcases Nat.lt_or_ge k l.length with h | h
   ·exact h
   ·rw [List.drop_eq_nil_of_le h] at hd; exact absurd hd.symm (by simp [Qn])
  have hcons := List.drop_eq_getElem_cons hlt
  rw [hd] at hcons
  have hg : l[k]'hlt = g := by injection hcons with a b; exact a.symm
  have hd' : l.drop (k + 1) = Qn gs t := by injection hcons with a b; exact b.symm
  have hnl : ¬ k + 1 = l.length := by
   intro h
   rw [List.drop_eq_nil_of_le (by omega)] at hd'; exact absurd hd'.symm (by simp [Qn])
  obtain ⟨o1, o2, o3⟩ := hok g (by simp)
  have hb : Uj (g :: gs) t = encG g ++ Uj gs t := by unfold Uj; rw [List.flatMap_cons, List.append_assoc]
  rw [hb, List.length_append, List.length_append, encG_len] at hs
  have hc : chk (l[k]'hlt) (decide (k + 1 = l.length)) = 0 := by
   rw [hg, decide_eq_false hnl]
   unfold chk
   rw [if_neg (by simp [o1]), decide_eq_false o2, if_neg (by simp), if_neg (by omega)]
  have hn : nxG g s = s ++ encG g := by
   have hd8 : hdG g = [255, UInt8.ofNat g.Kind.toNat] ++ Xi true (g.Text.length + 2 : Nat) 2 := by unfold hdG; rw [if_pos o2]
   unfold nxG encG
   rw [hd8, if_pos (by simp [Ql]; omega)]
   simp
  rw [join_step hlt s hc (by omega) (by omega) (by rw [hg]; omega), hg, hn, join_complete hl gs t (k + 1) (s ++ encG g) (fun x hx => hok x (by simp [hx])) hd' (by rw [List.length_append, List.length_append, encG_len]; omega), hb, List.append_assoc]
theorem Joined_sound {l : List T_tag_Segment} (ht : ∀ g ∈ l, g.Text.length ≤ 200000) : ∃ a e, Vn l = some (a, e) ∧ (e ≠ 0 → a = []) ∧ (e = 0 → l.length ≤ 200 ∧ a.length ≤ 200000 ∧ ∃ gs t, (∀ g ∈ gs, okG g) ∧ l = Qn gs t ∧ a = picG gs t) := by
 unfold Vn
 rw [cI]
 by_cases h1 : (200 : Int) < l.length
 ·rw [if_pos h1]; exact ⟨_, _, rfl, fun _ => rfl, by simp⟩
 rw [if_neg h1, cI]
 by_cases h2 : (l.length : Int) = 0
 ·rw [if_pos h2]; exact ⟨_, _, rfl, fun _ => rfl, by simp⟩
 rw [if_neg h2]
 obtain ⟨r, g1, g2, g3⟩ := join_sound (by omega) ht l 0 [255, 216] rfl (by omega) (by simp)
 refine ⟨r.1, r.2, g1, g2, fun h0 => ?_⟩
 obtain ⟨q1, q2⟩ := g3 h0
 refine ⟨by omega, q1, ?_⟩
 rcases q2 with ⟨q2, _⟩ | ⟨gs, t, q2, q3, q4⟩
 ·rw [q2] at h2; exact absurd rfl h2
 ·exact ⟨gs, t, q2, q3, q4⟩
theorem Joined_complete {gs : List T_tag_Segment} {t : List UInt8} (hok : ∀ g ∈ gs, okG g) (hl : (Qn gs t).length ≤ 200) (hx : (picG gs t).length ≤ 200000) : Vn (Qn gs t) = some (picG gs t, 0) := by
 unfold Vn
 rw [cI, if_neg (by omega), cI, if_neg (by simp [Qn]; omega)]
 exact join_complete hl gs t 0 [255, 216] hok rfl hx
end Go.M

/- TagPictures, the law, in plain Lean. Conditions: the file's bulk. -/
namespace Go.M
open Go.Md Go.Pl
set_option linter.unusedVariables false
def isM (g : T_tag_Segment) : Bool := decide (g.Kind = 225 ∧ 6 ≤ g.Text.length ∧ g.Text.take 6 = [69, 120, 105, 102, 0, 0])
theorem isM_eq (g : T_tag_Segment) : Z8 g = some (isM g) := by
 unfold Z8 isM
 rw [cI]
 by_cases h1 : g.Kind = 225
 ·rw [if_pos h1, cI]
  by_cases h2 : 6 ≤ g.Text.length
  ·rw [if_pos (by omega), gCut_to (by omega), Je, show (6 : Int).toNat = 6 from rfl]
   congr 1; rw [decide_eq_decide]; simp [h1, h2]
  ·rw [if_neg (by omega)]
   congr 1; symm; rw [decide_eq_false_iff_not]; exact fun h => h2 h.2.1
 ·rw [if_neg h1]
  congr 1; symm; rw [decide_eq_false_iff_not]; exact fun h => h1 h.1
theorem ix_step {l : List T_tag_Segment} {i : Nat} (hi : i < l.length) (hl : l.length ≤ 1000) (h : isM (l[i]'hi) = false) (next : Int → Option Int) : J1 l Z8 next (i : Int) = next ((i + 1 : Nat) : Int) := by
 unfold J1
 rw [cI, if_pos (by omega), X5 hi, Je, isM_eq, Je, h, Qp, J9 (by omega), Je]; rfl
theorem md_from {l : List T_tag_Segment} (hl : l.length ≤ 1000) {k : Nat} (hk : k ≤ l.length) (h : ∀ j (hj : j < l.length), j < k → isM (l[j]'hj) = false) (o : Option Int) (he : ∀ next, J1 l Z8 next (k : Int) = o) : Zv l = J2 o fun t => some t := by
 have key : ∀ m i : Nat, i + m = k → Wk (fun next1 s => J1 l Z8 next1 s) (i : Int) = o := by
  intro m
  induction m with
  | zero => intro i hi; rw [show i = k by omega]; exact Qr he
  | succ m ih => intro i hi; exact (Xm _ fun next => ix_step (show i < l.length by omega) hl (h i (by omega) (by omega)) next).trans (ih (i + 1) (by omega))
 unfold Zv Zn
 rw [show (0 : Int) = ((0 : Nat) : Int) from rfl, key k 0 (by omega)]
theorem md_at {l : List T_tag_Segment} (hl : l.length ≤ 1000) {k : Nat} (hk : k < l.length) (hp : isM (l[k]'hk) = true) (h : ∀ j (hj : j < l.length), j < k → isM (l[j]'hj) = false) : Zv l = some (k : Int) := by
 rw [md_from hl (by omega) h (some (k : Int)) fun next => by
  unfold J1
  rw [cI, if_pos (by omega), X5 hk, Je, isM_eq, Je, hp, Yf], Je]
theorem md_none {l : List T_tag_Segment} (hl : l.length ≤ 1000) (h : ∀ j (hj : j < l.length), isM (l[j]'hj) = false) : Zv l = some (-1) := by
 rw [md_from hl (Nat.le_refl _) (fun j hj _ => h j hj) (some (-1)) fun next => by
  unfold J1
  rw [cI, if_neg (by omega)], Je]
theorem md_cases (l : List T_tag_Segment) : (∀ j (hj : j < l.length), isM (l[j]'hj) = false) ∨ ∃ k, ∃ hk : k < l.length, isM (l[k]'hk) = true ∧ ∀ j (hj : j < l.length), j < k → isM (l[j]'hj) = false := by
 have key : ∀ n, n ≤ l.length → (∀ j (hj : j < l.length), j < n → isM (l[j]'hj) = false) ∨ ∃ k, ∃ hk : k < l.length, isM (l[k]'hk) = true ∧ ∀ j (hj : j < l.length), j < k → isM (l[j]'hj) = false := by
  intro n
  induction n with
  | zero => intro _; exact .inl fun j hj h => absurd h (by omega)
  | succ n ih =>
   intro hn
   rcases ih (by omega) with h | h
   ·cases hm : isM (l[n]'(by omega)) with
    | true => exact .inr ⟨n, by omega, hm, h⟩
    | false =>
     refine .inl fun j hj hjn => ?_
     rcases Nat.lt_or_ge j n with h1 | h1
     ·exact h j hj h1
     ·have : j = n := by omega
      subst this; exact hm
   ·exact .inr h
 rcases key l.length (Nat.le_refl _) with h | h
 ·exact .inl fun j hj => h j hj hj
 ·exact .inr h
theorem eqG_true (g : T_tag_Segment) : Ye g g = true := by unfold Ye; simp
theorem equal_self (l : List T_tag_Segment) (hl : l.length ≤ 1000) : X8 l l = some true := by
 have key : ∀ m i : Nat, i + m = l.length → Wk (fun next1 s => Qt l l next1 s) (i : Int) = some true := by
  intro m
  induction m with
  | zero => intro i hi; exact Qr fun next => by unfold Qt; rw [cI, if_neg (by omega)]
  | succ m ih =>
   intro i hi
   refine (Xm ((i + 1 : Nat) : Int) fun next => ?_).trans (ih (i + 1) (by omega))
   unfold Qt
   rw [cI, if_pos (by omega), X5 (show i < l.length by omega), Je, Je, eqG_true, Bool.not_true, Qp, J9 (by omega), Je]; rfl
 unfold X8
 rw [cI, if_neg (by simp)]
 exact key l.length 0 (by omega)
theorem many_loop (a0 : List UInt8) (l l' : List T_tag_Segment) (e e' : Int) {k : Nat} (hll : l'.length = l.length) (hl : l.length ≤ 1000) (hkind : ∀ j (hj : j < l.length), (l[j]'hj).Kind = (l'[j]'(by omega)).Kind) (hsame : ∀ j (hj : j < l.length), j ≠ k → l[j]'hj = l'[j]'(by omega))
  (hJ : Vn l = some (a0, 0)) : ∀ (m i : Nat) (c : Int), i + m = l.length → (0 ≤ c ∧ c ≤ 1) → (i ≤ k → c = 0) → Wk (fun next2 s => Qw a0 (l, e) (l', e') next2 s.1 s.2) (c, (i : Int)) = some true := by
 intro m
 induction m with
 | zero =>
  intro i c hi hc _
  refine Qr fun next => ?_
  show Qw a0 (l, e) (l', e') next c (i : Int) = _
  unfold Qw
  rw [cI, if_neg (by show ¬ (i : Int) < (l.length : Int); omega)]
  unfold Vr
  show J2 (Vn l) _ = _
  rw [hJ, Je, cI, if_pos (by show (l.length : Int) = (l'.length : Int); omega), cI, if_pos hc.2, cI, if_pos rfl]
  simp
 | succ m ih =>
  intro i c hi hc hk
  have hlt : i < l.length := by omega
  have h1 := hkind i hlt
  have main : ∀ c' : Int, (0 ≤ c' ∧ c' ≤ 1) → (i + 1 ≤ k → c' = 0) → (∀ next : Int × Int → Option Bool, Qw a0 (l, e) (l', e') next c (i : Int) = next (c', ((i + 1 : Nat) : Int))) → Wk (fun next2 s => Qw a0 (l, e) (l', e') next2 s.1 s.2) (c, (i : Int)) = some true :=
   fun c' h2 h3 h4 => (Xm _ h4).trans (ih (i + 1) c' (by omega) h2 h3)
  have hd : ∀ next : Int × Int → Option Bool, Qw a0 (l, e) (l', e') next c (i : Int) = if Ye (l[i]'hlt) (l'[i]'(by omega)) = true then next (c, ((i + 1 : Nat) : Int)) else next (c + 1, ((i + 1 : Nat) : Int)) := by
   intro next
   unfold Qw
   rw [cI, if_pos (by show (i : Int) < (l.length : Int); omega)]
   show J2 (Zh l (i : Int)) _ = _
   rw [X5 hlt, Je, cI, if_neg (by show ¬ ((l'.length : Int) ≤ (i : Int)); omega)]
   show J2 (Zh l' (i : Int)) _ = _
   rw [X5 (show i < l'.length by omega), Je, cI, if_neg (by simp [h1])]
   rw [Je]
   unfold Zs
   cases hq : Ye (l[i]'hlt) (l'[i]'(by omega)) with
   | true => rw [Bool.not_true, Qp, J9 (by omega), Je, if_pos rfl]; rfl
   | false => rw [Bool.not_false, Yf, J9 (by omega), Je, J9 (by omega), Je, if_neg (by simp)]; rfl
  by_cases hik : i = k
  ·by_cases hq : Ye (l[i]'hlt) (l'[i]'(by omega)) = true
   ·exact main c hc (fun h => by omega) fun next => by rw [hd, if_pos hq]
   ·have := hk (by omega)
    exact main (c + 1) (by omega) (fun h => by omega) fun next => by rw [hd, if_neg hq]
  ·have hs := hsame i hlt hik
   exact main c hc (fun h => hk (by omega)) fun next => by rw [hd, ← hs, if_pos (eqG_true _)]
noncomputable def Un (f : T_tag_File) : T_tag_Segment := ⟨225, [69, 120, 105, 102, 0, 0] ++ Uc f⟩
theorem putG_isM (f : T_tag_File) : isM (Un f) = true := by
 unfold isM Un
 rw [decide_eq_true_iff]
 exact ⟨rfl, by simp, rfl⟩
theorem putG_ok {f : T_tag_File} (h : (Uc f).length ≤ 65000) : okG (Un f) := ⟨rfl, by unfold Un; simp, by unfold Un; simp; omega⟩
theorem allG_inj {gs gs' : List T_tag_Segment} {t t' : List UInt8} (h : Qn gs t = Qn gs' t') : gs = gs' ∧ t = t' := by
 unfold Qn at h
 obtain ⟨h1, h2⟩ := List.append_inj' h rfl
 refine ⟨h1, ?_⟩
 injection h2 with h2 _
 injection h2
theorem read_it {f : T_tag_File} (hb : fileB f) (he : fileE f = 0) {gs : List T_tag_Segment} {t : List UInt8} (hok : ∀ g ∈ gs, okG g) (hx : (picG gs t).length ≤ 200000) (hl : gs.length + 1 ≤ 200) {k : Nat} (hk : k < (Qn gs t).length) (hg : (Qn gs t)[k]'hk = Un f) (hno : ∀ j (hj : j < (Qn gs t).length), j < k → isM ((Qn gs t)[j]'hj) = false) : Wz (picG gs t) = some (f, 0) := by
 have hlen : (Qn gs t).length ≤ 200 := by unfold Qn; simp; omega
 unfold Wz
 rw [Ur hok hx hl, Je, cI, if_neg (by simp)]
 show J2 (Zv (Qn gs t)) _ = _
 rw [md_at (by omega) hk (by rw [hg]; exact putG_isM f) hno, Je, cI, if_neg (by omega)]
 show J2 (Zh (Qn gs t) (k : Int)) _ = _
 rw [X5 hk, Je, hg]
 have h6 : (Un f).Text.drop 6 = Uc f := by unfold Un; rfl
 have hge : 6 ≤ (Un f).Text.length := by unfold Un; simp
 rw [Vd (by omega), Je, show (6 : Int).toNat = 6 from rfl, h6]
 unfold tag_Read
 rw [read_written hb he (by omega), Je, Je]
theorem Write_ok {f : T_tag_File} (hb : fileB f) (he : fileE f = 0) : tag_Write f = some (Uc f, 0) := by rw [Write_eq hb, if_pos he]
theorem allG_last {gs : List T_tag_Segment} {t : List UInt8} {k : Nat} (hk : k < (Qn gs t).length) (h : gs.length ≤ k) : (Qn gs t)[k]'hk = ⟨218, t⟩ := by
 have hk' := hk
 unfold Qn at hk'
 simp at hk'
 have : k = gs.length := by omega
 subst this
 simp [Qn]
theorem gs_texts {gs : List T_tag_Segment} {t : List UInt8} (hok : ∀ g ∈ gs, okG g) (ht : t.length ≤ 200000) : ∀ g ∈ Qn gs t, g.Text.length ≤ 200000 := by
 intro g hg
 unfold Qn at hg
 rcases List.mem_append.1 hg with h | h
 ·have := (hok g h).2.2; omega
 ·rw [List.mem_singleton.1 h]; exact ht
theorem pic_t (gs : List T_tag_Segment) (t : List UInt8) : t.length ≤ (picG gs t).length := by
 unfold picG Uj
 rw [List.length_append, List.length_append, encS_len]; omega
theorem with_eq {f : T_tag_File} (hb : fileB f) (s : List UInt8) : ∃ a e, Wu s f = some (a, e) ∧ ((e ≠ 0 ∧ a = []) ∨ (e = 0 ∧ fileE f = 0 ∧ ∃ gs t gs', (∀ g ∈ gs, okG g) ∧ (∀ g ∈ gs', okG g) ∧ s = picG gs t ∧ s.length ≤ 200000 ∧ gs.length + 1 ≤ 200 ∧ a = picG gs' t ∧ a.length ≤ 200000 ∧ gs'.length + 1 ≤ 200 ∧
  ∃ k, ∃ hk : k < (Qn gs' t).length, (Qn gs' t)[k]'hk = Un f ∧ (∀ j (hj : j < (Qn gs' t).length), j < k → isM ((Qn gs' t)[j]'hj) = false) ∧
   (gs' = Un f :: gs ∨ ∃ hll : (Qn gs' t).length = (Qn gs t).length, (∀ j (hj : j < (Qn gs t).length), ((Qn gs t)[j]'hj).Kind = ((Qn gs' t)[j]'(by omega)).Kind) ∧ ∀ j (hj : j < (Qn gs t).length), j ≠ k → (Qn gs t)[j]'hj = (Qn gs' t)[j]'(by omega)))) := by
 unfold Wu
 rw [Check_eq hb, Je, cI]
 by_cases he : fileE f ≠ 0
 ·rw [if_pos he]; exact ⟨_, _, rfl, .inl ⟨he, rfl⟩⟩
 have he0 : fileE f = 0 := by omega
 rw [if_neg he]
 obtain ⟨l, e, h1, h2, h3⟩ := Segments_sound s
 rw [h1, Je, cI]
 by_cases h0 : e ≠ 0
 ·rw [if_pos h0]; exact ⟨_, _, rfl, .inl ⟨h0, rfl⟩⟩
 rw [if_neg h0]
 obtain ⟨hs, gs, t, hok, hpic, hal, hl200⟩ := h3 (by omega)
 subst hal
 have hlen : (Qn gs t).length = gs.length + 1 := by unfold Qn; simp
 obtain ⟨hdok, hn⟩ := fileE_zero hb he0
 have h65 := (file_parts he0).2.2
 have hpo : okG (Un f) := putG_ok h65
 rw [written_eq hdok hn hb.2, Je, gCat_ok (by simp; omega), Je]
 show ∃ a e, (J2 (Zv (Qn gs t)) _) = _ ∧ _
 have Yn : ∀ gs' : List T_tag_Segment, (∀ g ∈ gs', okG g) → (∃ k, ∃ hk : k < (Qn gs' t).length, (Qn gs' t)[k]'hk = Un f ∧ (∀ j (hj : j < (Qn gs' t).length), j < k → isM ((Qn gs' t)[j]'hj) = false) ∧
   (gs' = Un f :: gs ∨ ∃ hll : (Qn gs' t).length = (Qn gs t).length, (∀ j (hj : j < (Qn gs t).length), ((Qn gs t)[j]'hj).Kind = ((Qn gs' t)[j]'(by omega)).Kind) ∧ ∀ j (hj : j < (Qn gs t).length), j ≠ k → (Qn gs t)[j]'hj = (Qn gs' t)[j]'(by omega))) →
   ∃ a e, Yz (Qn gs' t) = some (a, e) ∧ ((e ≠ 0 ∧ a = []) ∨ (e = 0 ∧ fileE f = 0 ∧ ∃ gs2 t2 gs', (∀ g ∈ gs2, okG g) ∧ (∀ g ∈ gs', okG g) ∧ s = picG gs2 t2 ∧ s.length ≤ 200000 ∧ gs2.length + 1 ≤ 200 ∧ a = picG gs' t2 ∧ a.length ≤ 200000 ∧ gs'.length + 1 ≤ 200 ∧
  ∃ k, ∃ hk : k < (Qn gs' t2).length, (Qn gs' t2)[k]'hk = Un f ∧ (∀ j (hj : j < (Qn gs' t2).length), j < k → isM ((Qn gs' t2)[j]'hj) = false) ∧
   (gs' = Un f :: gs2 ∨ ∃ hll : (Qn gs' t2).length = (Qn gs2 t2).length, (∀ j (hj : j < (Qn gs2 t2).length), ((Qn gs2 t2)[j]'hj).Kind = ((Qn gs' t2)[j]'(by omega)).Kind) ∧ ∀ j (hj : j < (Qn gs2 t2).length), j ≠ k → (Qn gs2 t2)[j]'hj = (Qn gs' t2)[j]'(by omega)))) := by
  intro gs' hok' hrest
  unfold Yz
  have htl := pic_t gs t
  obtain ⟨a, e', j1, j2, j3⟩ := Joined_sound (l := Qn gs' t) (gs_texts hok' (by rw [← hpic] at htl; omega))
  rw [j1, Je]
  refine ⟨a, e', rfl, ?_⟩
  by_cases hz : e' ≠ 0
  ·exact .inl ⟨hz, j2 hz⟩
  ·obtain ⟨q1, q2, gs1, t1, q3, q4, q5⟩ := j3 (by omega)
   obtain ⟨e1, e2⟩ := allG_inj q4
   subst e1 e2
   refine .inr ⟨by omega, he0, gs, t, gs', hok, hok', hpic, hs, by omega, q5, q2, ?_, hrest⟩
   unfold Qn at q1; simp at q1; omega
 rcases md_cases (Qn gs t) with hm | ⟨k, hk, hm, hlow⟩
 ·rw [md_none (by omega) hm, Je, cI, if_neg (by decide)]
  have hins : gInsN 24 (Qn gs t) 0 (⟨225, [69, 120, 105, 102, 0, 0] ++ Uc f⟩ : T_tag_Segment) = some (Qn (Un f :: gs) t) := by
   unfold gInsN
   rw [if_pos (by omega)]; rfl
  rw [hins, Je]
  refine Yn (Un f :: gs) (fun g hg => ?_) ⟨0, by unfold Qn; simp, rfl, fun j hj h => absurd h (by omega), .inl rfl⟩
  rcases List.mem_cons.1 hg with h | h
  ·rw [h]; exact hpo
  ·exact hok g h
 ·rw [md_at (by omega) hk hm hlow, Je, cI, if_pos (by omega)]
  show ∃ a e, J2 (Zh (Qn gs t) (k : Int)) _ = _ ∧ _
  rw [X5 hk, Je]
  show ∃ a e, J2 (gSet (Qn gs t) (k : Int) (Un f)) _ = _ ∧ _
  have hkg : k < gs.length := by
   rcases Nat.lt_or_ge k gs.length with h | h
   ·exact h
   ·exfalso
    have : (Qn gs t)[k]'hk = ⟨218, t⟩ := allG_last hk h
    rw [this] at hm
    unfold isM at hm
    rw [decide_eq_true_iff] at hm
    exact absurd hm.1 (by simp)
  have hset : (Qn gs t).set k (Un f) = Qn (gs.set k (Un f)) t := by
   unfold Qn; rw [List.set_append_left _ _ hkg]
  rw [gSet_ok (by omega) (by omega), Je, Int.toNat_natCast, hset]
  have hl' : (Qn (gs.set k (Un f)) t).length = (Qn gs t).length := by unfold Qn; simp
  have hget : ∀ j (hj : j < (Qn gs t).length), (Qn (gs.set k (Un f)) t)[j]'(by omega) = if k = j then Un f else (Qn gs t)[j]'hj := by
   intro j hj
   have : (Qn (gs.set k (Un f)) t)[j]'(by omega) = ((Qn gs t).set k (Un f))[j]'(by rw [List.length_set]; exact hj) := by simp only [hset]
   rw [this, List.getElem_set]
  refine Yn (gs.set k (Un f)) (fun g hg => ?_) ⟨k, by omega, by rw [hget k hk, if_pos rfl], fun j hj h => ?_, .inr ⟨hl', fun j hj => ?_, fun j hj h => ?_⟩⟩
  ·rcases List.mem_or_eq_of_mem_set hg with h | h
   ·exact hok g h
   ·rw [h]; exact hpo
  ·rw [hget j (by omega), if_neg (by omega)]; exact hlow j (by omega) h
  ·rw [hget j hj]
   split
   ·rename_i h; subst h
    unfold isM at hm
    rw [decide_eq_true_iff] at hm
    exact hm.1
   ·rfl
  ·rw [hget j hj, if_neg (fun e => h e.symm)]
theorem tagPictures {f : T_tag_File} (hb : fileB f) (s : List UInt8) : Ww s f = some true := by
 unfold Ww
 rw [awake_eq, Je, Bool.not_true, Qp]
 obtain ⟨a, e, hw, hc⟩ := with_eq hb s
 rw [hw, Je, cI]
 rcases hc with ⟨h0, ha⟩ | ⟨h0, he, gs, t, gs', hok, hok', hs, hsl, hgl, ha, hal, hgl', k, hk, hp, hlow, hor⟩
 ·rw [if_pos h0, ha]; simp
 ·have hlen : (Qn gs t).length = gs.length + 1 := by unfold Qn; simp
  have hlen' : (Qn gs' t).length = gs'.length + 1 := by unfold Qn; simp
  have hM : Wz a = some (f, 0) := by rw [ha]; exact read_it hb he hok' (by rw [← ha]; exact hal) hgl' hk hp hlow
  have hS : Yi s = some (Qn gs t, 0) := by rw [hs]; exact Ur hok (by rw [← hs]; exact hsl) hgl
  have hT : Yi a = some (Qn gs' t, 0) := by rw [ha]; exact Ur hok' (by rw [← ha]; exact hal) hgl'
  have hJ : Vn (Qn gs t) = some (s, 0) := by rw [hs]; exact Joined_complete hok (by omega) (by rw [← hs]; exact hsl)
  rw [if_neg (by simp [h0])]
  show J2 (Wz a) _ = _
  rw [hM, Je, Write_ok hb he, Je, Je, hS, Je]
  show J2 (Yi a) _ = _
  rw [hT, Je, cI, if_neg (by simp), cI, if_neg (by simp), cI, if_neg (by simp), cI, if_neg (by simp), cI, if_neg (by simp), cI, if_neg (by simp), J9 (by show -9223372036854775808 ≤ ((Qn gs t).length : Int) + 1 ∧ ((Qn gs t).length : Int) + 1 ≤ 9223372036854775807; omega), Je, cI]
  rcases hor with hor | ⟨hll, hkind, hsame⟩
  ·have hcons : Qn gs' t = Un f :: Qn gs t := by rw [hor]; rfl
   rw [if_pos (by rw [hcons]; simp)]
   show J2 (Zo (Qn gs' t) 1 ((Qn gs' t).length : Nat)) _ = _
   rw [Vd (by omega), Je, show (1 : Int).toNat = 1 from rfl, hcons]
   show J2 (X8 (Qn gs t) (Qn gs t)) _ = _
   rw [equal_self _ (by omega), Je]
  ·rw [if_neg (by show ¬ (((Qn gs' t).length : Int) = ((Qn gs t).length : Int) + 1); omega)]
   exact many_loop s (Qn gs t) (Qn gs' t) 0 0 (k := k) hll (by omega) hkind hsame hJ (Qn gs t).length 0 0 (by omega) (by omega) (fun _ => rfl)
theorem tagPicturesS (s : List UInt8) (f : T_tag_File) {P : Prop} (_ : P) (hb : fileB f) : Ww s f = some true := tagPictures hb s
end Go.M

/- What a claim says of a call's arguments, as rows: slices, arrays, structs, strings. Conditions: none. -/
namespace Go.Vc
open Go
variable {H : Type} {enc : TypeId × Value → H} {P : Program} {w : World} {base : Nat} {spare : Nat → Bool} {held : Bool}
theorem V7 {w : World} {base k : Nat} {a : Addr} {cs : List Value} (h : w.cells? base a k = some cs) : cs.length = k ∧ ∀ i, i < k → w.cell? (a.add i) = cs[i]? :=
 (World.cells?_some h).2
theorem cell_spot {w : World} {a : Addr} {v : Value} (h : w.cell? a = some v) : a.spot = none := by
 unfold World.cell? at h
 split at h
 ·split at h
  ·cases h
  ·rename_i hs; simpa using hs
 ·cases h
theorem op_int {t fuel : Nat} {k : IntKind} {cs : List Value} {x : DataW H × List MemPlace} (ht : P.underlying t = some (.int k)) (h : DataW.trod enc P w base spare held fuel t cs = some x) : ∃ n : Int, cs = [.int k n] ∧ (Lit.int k n).wf = true := by
 obtain ⟨n, h1, _, h2⟩ := DataW.trod_int ht h
 exact ⟨n, h1, h2⟩
theorem op_bool {t fuel : Nat} {cs : List Value} {x : DataW H × List MemPlace} (ht : P.underlying t = some .bool) (h : DataW.trod enc P w base spare held fuel t cs = some x) : ∃ b : Bool, cs = [.bool b] := by
 obtain ⟨n, h1, _⟩ := DataW.trod_bool ht h
 exact ⟨n, h1⟩
end Go.Vc

/- What a claim says of a call's arguments, as values of plain types: parts of structs, arrays, slices. Conditions: none. -/
namespace Go.Lx
open Go Go.Vc Go.Md
variable {H : Type} {enc : TypeId × Value → H} {P : Program} {w : World} {base : Nat} {spare : Nat → Bool} {held : Bool}
theorem piece {cs l : List Value} {o s : Nat} (h : (cs.drop o).take s = l) (hl : l.length = s) : cs.drop o = l ++ cs.drop (o + s) := by
 have := List.take_append_drop s (cs.drop o)
 rw [h, List.drop_drop] at this
 exact this.symm
theorem Row.snap {w : World} {a : Option Addr} {sz : Nat} {xs : List (List Value)} (h : Row w a sz xs) (hsz : 0 < sz) : RowH (fun b => w.heap[b]?) a sz xs := by
 rcases h with h | ⟨b, off, ha, h⟩
 ·exact .inl h
 ·cases xs with
  | nil => exact .inl rfl
  | cons x r =>
   have h0 := h 0 x rfl
   have hv := h0.2 0 x[0] (by simp [h0.1, hsz])
   unfold World.cell? at hv
   split at hv
   ·rename_i c T m hb
    refine .inr ⟨b, off, c, T, m, ha, hb, fun i y hy => ⟨(h i y hy).1, fun j v hj => ?_⟩⟩
    have := (h i y hy).2 j v hj
    unfold World.cell? at this
    rw [hb] at this
    simpa using this
   ·cases hv
theorem val_struct {r : Reach} {b0 t : Nat} {v : Value} {fs : Array Field} (ht : P.underlying t = some (.struct fs)) (hval : Value.okWide P w r b0 t v) : ∃ cs : List Value, v = .agg cs.toArray ∧ v.cells.toList = cs ∧ cs.length = P.cellsOf t := by
 unfold Value.okWide at hval
 rw [ht] at hval
 obtain ⟨cs, rfl, h, _⟩ := hval; exact ⟨cs.toList, by simp, rfl, by simpa using h⟩
theorem val_cell {r : Reach} {b0 t : Nat} {v : Value} (ht : (match P.underlying t with | some (.int _) | some (.slice _) | some .string | some .bool => true | _ => false) = true) (hval : Value.okWide P w r b0 t v) : v.cells.toList = [v] := by
 unfold Value.okWide at hval
 split at hval
 ·rename_i h; rw [h] at ht; cases ht
 ·rename_i h; rw [h] at ht; cases ht
 ·cases v with
  | agg cs =>
   exfalso
   unfold Cell.okWide at hval
   split at ht <;> simp_all [Cell.ok]
  | _ => rfl
end Go.Lx

/- What a claim says of a call's arguments, where their bulk is bounded. Conditions: none. -/
namespace Go.Vc
open Go Go.Lx
variable {H : Type} {enc : TypeId × Value → H} {P : Program} {w : World} {base : Nat} {spare : Nat → Bool} {held : Bool}
structure BK (bk : DataW H → Nat) : Prop where
 slice : ∀ (es rs : List (DataW H)) (d : DataW H), d ∈ es → bk d ≤ bk (.slice es rs)
 agg : ∀ (es : List (DataW H)) (d : DataW H), d ∈ es → bk d ≤ bk (.agg es)
 str : ∀ bs : List UInt8, bs.length ≤ bk (.lit (.string bs))
theorem op_stringB {bk : DataW H → Nat} (K : BK bk) {t fuel : Nat} {cs : List Value} {x : DataW H × List MemPlace} (ht : P.underlying t = some .string) (h : DataW.trod enc P w base spare held fuel t cs = some x) : ∃ s : List UInt8, cs = [str s] ∧ s.length ≤ 9223372036854775807 ∧ s.length ≤ bk x.1 := by
 obtain ⟨s, h1, h3, h2⟩ := DataW.trod_string ht h
 refine ⟨s.data.toList, by rw [h1], ?_, ?_⟩
 ·have e : s.data.toList.length = s.size := by rw [Array.length_toList]; rfl
  rw [e]
  unfold maxLen at h2
  omega
 ·rw [h3]; exact K.str _
theorem op_fieldB {bk : DataW H → Nat} (K : BK bk) {t fuel i ft fo sz bo : Nat} {nm tg pk : String} {em : Bool} {fs : Array Field} {cs : List Value} {x : DataW H × List MemPlace} (ht : P.underlying t = some (.struct fs)) (hf : fs[i]? = some ⟨nm, ft, fo, em, tg, pk, bo⟩) (hc : P.cellsOf ft = sz) (h : DataW.trod enc P w base spare held fuel t cs = some x) :
  ∃ n y, DataW.trod enc P w base spare held n ft ((cs.drop fo).take sz) = some y ∧ bk y.1 ≤ bk x.1 := by
 subst hc
 obtain ⟨xs, n, _, hx, _, hl, hp⟩ := DataW.trod_struct ht h
 have h1 := hp i _ hf
 have hi : i < fs.size := by
  rcases Nat.lt_or_ge i fs.size with h | h
  ·exact h
  ·rw [Array.getElem?_eq_none h] at hf; cases hf
 rw [List.getElem?_eq_getElem (by omega)] at h1
 refine ⟨n, _, h1, ?_⟩
 rw [hx]
 exact K.agg _ _ (List.mem_map.2 ⟨_, List.getElem_mem _, rfl⟩)
theorem op_sliceB {bk : DataW H → Nat} (K : BK bk) {B : Nat} {α : Type} {f : α → List Value} {good : α → Prop} {t e sz fuel : Nat} {cs : List Value} {x : DataW H × List MemPlace} (hB : bk x.1 ≤ B) (ht : P.underlying t = some (.slice e)) (hc : P.cellsOf e = sz) (hsz : Nat.blt 0 sz = true)
  (hD : ∀ n cs x, bk x.1 ≤ B → cs.length = sz → DataW.trod enc P w base spare held n e cs = some x → ∃ a, cs = f a ∧ good a) (h : DataW.trod enc P w base spare held fuel t cs = some x) :
  ∃ (v : Value) (xs : List α), cs = [v] ∧ FrS (fun b => w.heap[b]?) sz v (xs.map f) ∧ xs.length ≤ 9223372036854775807 ∧ ∀ x ∈ xs, good x := by
 have h' := h
 rcases DataW.trod_slice ht h with ⟨rfl, _⟩ | ⟨a, len, cap, elems, rest, n, _, rfl, hx, _, hl, hm, hlen, hel, _⟩
 ·exact ⟨_, [], rfl, FrS.nil _ _, by simp, by simp⟩
 ·-- the elements, and no others
  have each : ∀ i : Fin len, ∃ a' : α, w.cells? base (a.add (i * sz)) sz = some (f a') ∧ good a' := by
   intro i
   have hi := hel i i.2
   rw [hc] at hi
   have hlt : (i : Nat) < elems.length := by rw [hlen]; exact i.2
   rw [List.getElem?_eq_getElem hlt, Option.bind_eq_some_iff] at hi
   obtain ⟨cs', h1, h2⟩ := hi
   have hb : bk (elems[(i : Nat)]).1 ≤ B := by
    refine Nat.le_trans ?_ hB
    rw [hx]
    exact K.slice _ _ _ (List.mem_map.2 ⟨_, List.getElem_mem _, rfl⟩)
   obtain ⟨a', rfl, hg⟩ := hD _ _ _ hb (V7 h1).1 h2
   exact ⟨a', h1, hg⟩
  have hsz' : 0 < sz := by simpa using hsz
  have hch : ∃ g : Fin len → α, ∀ i : Fin len, w.cells? base (a.add (i * sz)) sz = some (f (g i)) ∧ good (g i) := ⟨fun i => (each i).choose, fun i => (each i).choose_spec⟩
  obtain ⟨g, hg⟩ := hch
  have hrow : Row w (some a) sz ((List.ofFn g).map f) := by
   cases len with
   | zero => left; simp
   | succ k =>
    have h0 := hg 0
    have hsp : a.spot = none := by
     have := (V7 h0.1).2 0 hsz'
     have hln := (V7 h0.1).1
     rw [List.getElem?_eq_getElem (by omega)] at this
     have hs := cell_spot this
     simpa [Addr.add] using hs
    obtain ⟨b, off, spot⟩ := a
    simp only at hsp
    subst hsp
    refine .inr ⟨b, off, rfl, fun i x hx => ?_⟩
    have hi : i < k + 1 := by
     rcases Nat.lt_or_ge i (k + 1) with h | h
     ·exact h
     ·rw [List.getElem?_eq_none (by simpa using h)] at hx; cases hx
    have hx' : x = f (g ⟨i, hi⟩) := by
     rw [List.getElem?_map, List.getElem?_ofFn, dif_pos hi] at hx
     exact (Option.some.inj hx).symm
    subst hx'
    obtain ⟨c1, c2⟩ := V7 (hg ⟨i, hi⟩).1
    refine ⟨c1, fun j v hv => ?_⟩
    have hj : j < sz := by
     rcases Nat.lt_or_ge j sz with h | h
     ·exact h
     ·rw [List.getElem?_eq_none (by omega)] at hv; cases hv
    have := c2 j hj
    rw [hv, Addr.add_lit, Addr.add_lit] at this
    exact this
  have hm' : cap ≤ 9223372036854775807 := by simpa [maxLen] using hm
  refine ⟨_, List.ofFn g, rfl, ⟨⟨some a, cap, by simp, by simpa using hl, hm', Row.snap hrow hsz'⟩⟩, by simp; omega, ?_⟩
  intro x hx
  rw [List.mem_ofFn] at hx
  obtain ⟨i, rfl⟩ := hx
  exact (hg i).2
end Go.Vc

/- What a claim says of a call's arguments, where their bulk is bounded and package variables are laid. Conditions: none. -/
namespace Go.Vc
open Go Go.Lx
section
variable {H : Type} {enc : TypeId × Value → H} {P : Program} {w : World} {base : Nat} {spare : Nat → Bool} {held : Bool}
structure BKL (bk : DataW H → Nat) : Prop extends BK bk where
 len : ∀ es rs : List (DataW H), es.length ≤ bk (.slice es rs)
theorem op_sliceL {bk : DataW H → Nat} (K : BKL bk) {B : Nat} {α : Type} {f : α → List Value} {good : α → Prop} {t e sz fuel : Nat} {cs : List Value} {x : DataW H × List MemPlace} (hB : bk x.1 ≤ B) (ht : P.underlying t = some (.slice e)) (hc : P.cellsOf e = sz) (hsz : Nat.blt 0 sz = true)
  (hD : ∀ n cs x, bk x.1 ≤ B → cs.length = sz → DataW.trod enc P w base spare held n e cs = some x → ∃ a, cs = f a ∧ good a) (h : DataW.trod enc P w base spare held fuel t cs = some x) :
  ∃ (v : Value) (xs : List α), cs = [v] ∧ FrS (fun b => w.heap[b]?) sz v (xs.map f) ∧ (xs.length ≤ 9223372036854775807 ∧ xs.length ≤ B) ∧ ∀ x ∈ xs, good x := by
 obtain ⟨v, xs, e1, fr, hn, hg⟩ := op_sliceB K.toBK hB ht hc hsz hD h
 refine ⟨v, xs, e1, fr, ⟨hn, ?_⟩, hg⟩
 obtain ⟨a, c, rfl, _⟩ := fr.out
 rcases DataW.trod_slice ht h with ⟨e2, _⟩ | ⟨a', len, cap, elems, rest, n, _, e2, hx, _, _, _, hlen, _⟩
 ·rw [e1] at e2
  injection e2 with e2 _
  injection e2 with _ e2 _
  rw [List.length_map] at e2; omega
 ·rw [e1] at e2
  injection e2 with e2 _
  injection e2 with _ e2 _
  rw [List.length_map] at e2
  rw [hx] at hB
  have := K.len (elems.map (·.1)) (rest.map (·.1))
  rw [List.length_map] at this
  simp only at hB
  omega
end
section
variable {H : Type} {enc : TypeId × Value → H}
end
end Go.Vc

/- What a claim says of a call's arguments, with the reach of the claim's form: no string and no slice is larger than it. Conditions: none. -/
namespace Go.Vc
open Go Go.Lx
variable {H : Type} {enc : TypeId × Value → H} {P : Program} {w : World} {base : Nat} {spare : Nat → Bool} {held : Bool}
end Go.Vc

/- Opening arguments whose elements hold slices. Conditions: none. -/
namespace Go.Lx
open Go Go.Vc Go.Md Go.ChangeShapes Go.WideShapes Go.ChangeAt
theorem Ux {cs l : List Value} {o s q : Nat} (h : (cs.drop o).take s = l) (hq : q < l.length) : cs.getD (o + q) undef = l.getD q undef := by
 subst h
 have hs : q < s := by rw [List.length_take] at hq; omega
 simp only [List.getD_eq_getElem?_getD, List.getElem?_take, List.getElem?_drop, if_pos hs]
section
variable {P : Program} {H : Type} {enc : TypeId × Value → H} {w : World} {base : Nat} {spare : Nat → Bool} {held : Bool}
end
end Go.Lx

/- Opening arguments whose bulk is bounded: sums over the parts, for types that hold themselves. Conditions: none. -/
namespace Go.Lx
open Go Go.Vc Go.Md Go.ChangeShapes Go.WideShapes Go.ChangeAt
theorem mem_le_sum {a : Nat} : ∀ {l : List Nat}, a ∈ l → a ≤ l.sum
 | [], h => by cases h
 | x :: l, h => by
  rw [List.sum_cons]
  rcases List.mem_cons.1 h with h | h
  ·omega
  ·have := mem_le_sum h; omega
theorem sum_le_sum {α β : Type} {f : α → Nat} {g : β → Nat} : ∀ {xs : List α} {ys : List β}, xs.length = ys.length → (∀ (i : Nat) x y, xs[i]? = some x → ys[i]? = some y → f x ≤ g y) → (xs.map f).sum ≤ (ys.map g).sum
 | [], [], _, _ => Nat.le_refl _
 | [], _ :: _, h, _ => by simp at h
 | _ :: _, [], h, _ => by simp at h
 | x :: xs, y :: ys, h, k => by
  rw [List.map_cons, List.map_cons, List.sum_cons, List.sum_cons]
  have h1 := k 0 x y rfl rfl
  have h2 := sum_le_sum (f := f) (g := g) (xs := xs) (ys := ys) (by simpa using h) (fun i a b ha hb => k (i + 1) a b (by simpa using ha) (by simpa using hb))
  omega
theorem len_le_sum {α : Type} {f : α → Nat} (h : ∀ x, 1 ≤ f x) : ∀ xs : List α, xs.length ≤ (xs.map f).sum
 | [] => Nat.zero_le _
 | x :: xs => by rw [List.map_cons, List.sum_cons, List.length_cons]; have := h x; have := len_le_sum h xs; omega
section
variable {H : Type} {enc : TypeId × Value → H} {P : Program} {w : World} {base : Nat} {spare : Nat → Bool} {held : Bool}
structure BKS (bk : DataW H → Nat) : Prop where
 slice : ∀ es rs : List (DataW H), (es.map bk).sum ≤ bk (.slice es rs)
 agg : ∀ es : List (DataW H), (es.map bk).sum ≤ bk (.agg es)
 str : ∀ bs : List UInt8, bs.length ≤ bk (.lit (.string bs))
 one : ∀ d : DataW H, 1 ≤ bk d
theorem BKS.toBK {bk : DataW H → Nat} (K : BKS bk) : BK bk :=
 ⟨fun es rs d h => Nat.le_trans (mem_le_sum (List.mem_map.2 ⟨d, h, rfl⟩)) (K.slice es rs), fun es d h => Nat.le_trans (mem_le_sum (List.mem_map.2 ⟨d, h, rfl⟩)) (K.agg es), K.str⟩
theorem BKS.toBKL {bk : DataW H → Nat} (K : BKS bk) : BKL bk := { toBK := K.toBK, len := fun es rs => Nat.le_trans (len_le_sum K.one es) (K.slice es rs) }
theorem op_structS {bk : DataW H → Nat} (K : BKS bk) {t fuel : Nat} {fs : Array Field} {cs : List Value} {x : DataW H × List MemPlace} (ht : P.underlying t = some (.struct fs)) (h : DataW.trod enc P w base spare held fuel t cs = some x) :
  ∃ (n : Nat) (xs : List (DataW H × List MemPlace)), n < fuel ∧ xs.length = fs.size ∧ (xs.map fun y => bk y.1).sum ≤ bk x.1 ∧ ∀ (i : Nat) (f : Field) (sz : Nat), fs[i]? = some f → P.cellsOf f.type = sz → DataW.trod enc P w base spare held n f.type ((cs.drop f.offset).take sz) = xs[i]? := by
 obtain ⟨xs, n, hn, hx, _, hl, hp⟩ := DataW.trod_struct ht h
 refine ⟨n, xs, by omega, hl, ?_, fun i f sz hf hc => by subst hc; exact hp i f hf⟩
 rw [hx]
 have := K.agg (xs.map (·.1))
 rw [List.map_map] at this
 exact this
theorem op_sliceS {bk : DataW H → Nat} (K : BKS bk) {α δ : Type} {G : J3 → (Nat → Value) → α → Prop} {m : δ → α → Nat} {t e sz fuel : Nat} {cs : List Value} {x : DataW H × List MemPlace} (ht : P.underlying t = some (.slice e)) (hc : P.cellsOf e = sz) (hsz : Nat.blt 0 sz = true)
  (hD : ∀ n cs x, n < fuel → cs.length = sz → DataW.trod enc P w base spare held n e cs = some x → ∃ a : α, G (fun b => w.heap[b]?) (fun j => cs.getD j undef) a ∧ ∀ d, m d a ≤ bk x.1) (h : DataW.trod enc P w base spare held fuel t cs = some x) :
  ∃ (v : Value) (xs : List α), cs = [v] ∧ FrN (fun b => w.heap[b]?) sz v G xs ∧ xs.length ≤ bk x.1 ∧ ∀ d, (xs.map (m d)).sum ≤ bk x.1 := by
 rcases DataW.trod_slice ht h with ⟨rfl, _⟩ | ⟨a, len, cap, elems, rest, n, hn, rfl, hx, _, hl, hm, hlen, hel, _⟩
 ·exact ⟨_, [], rfl, FrN.nil _ _ _, by simp, by simp⟩
 ·have each : ∀ i : Fin len, ∃ p : List Value × α, w.cells? base (a.add (i * sz)) sz = some p.1 ∧ p.1.length = sz ∧ G (fun b => w.heap[b]?) (fun j => p.1.getD j undef) p.2 ∧ ∀ d y, elems[(i : Nat)]? = some y → m d p.2 ≤ bk y.1 := by
   intro i
   have hi := hel i i.2
   rw [hc] at hi
   have hlt : (i : Nat) < elems.length := by rw [hlen]; exact i.2
   rw [List.getElem?_eq_getElem hlt, Option.bind_eq_some_iff] at hi
   obtain ⟨cs', h1, h2⟩ := hi
   obtain ⟨a', hg, hmm⟩ := hD _ _ _ (by omega) (V7 h1).1 h2
   refine ⟨(cs', a'), h1, (V7 h1).1, hg, fun d y hy => ?_⟩
   rw [List.getElem?_eq_getElem hlt] at hy
   cases hy
   exact hmm d
  have hsz' : 0 < sz := by simpa using hsz
  have hch : ∃ g : Fin len → List Value × α, ∀ i : Fin len, w.cells? base (a.add (i * sz)) sz = some (g i).1 ∧ (g i).1.length = sz ∧ G (fun b => w.heap[b]?) (fun j => (g i).1.getD j undef) (g i).2 ∧ ∀ d y, elems[(i : Nat)]? = some y → m d (g i).2 ≤ bk y.1 := ⟨fun i => (each i).choose, fun i => (each i).choose_spec⟩
  obtain ⟨g, hg⟩ := hch
  have hrow : Row w (some a) sz ((List.ofFn g).map fun p => p.1) := by
   cases len with
   | zero => left; simp
   | succ k =>
    have h0 := hg 0
    have hsp : a.spot = none := by
     have := (V7 h0.1).2 0 hsz'
     have hln := (V7 h0.1).1
     rw [List.getElem?_eq_getElem (by omega)] at this
     have hs := cell_spot this
     simpa [Addr.add] using hs
    obtain ⟨b, off, spot⟩ := a
    simp only at hsp
    subst hsp
    refine .inr ⟨b, off, rfl, fun i x hx => ?_⟩
    have hi : i < k + 1 := by
     rcases Nat.lt_or_ge i (k + 1) with h | h
     ·exact h
     ·rw [List.getElem?_eq_none (by simpa using h)] at hx; cases hx
    have hx' : x = (g ⟨i, hi⟩).1 := by
     rw [List.getElem?_map, List.getElem?_ofFn, dif_pos hi] at hx
     exact (Option.some.inj hx).symm
    subst hx'
    obtain ⟨c1, c2⟩ := V7 (hg ⟨i, hi⟩).1
    refine ⟨c1, fun j v hv => ?_⟩
    have hj : j < sz := by
     rcases Nat.lt_or_ge j sz with h | h
     ·exact h
     ·rw [List.getElem?_eq_none (by omega)] at hv; cases hv
    have := c2 j hj
    rw [hv, Addr.add_lit, Addr.add_lit] at this
    exact this
  have hm' : cap ≤ 9223372036854775807 := by simpa [maxLen] using hm
  have hfr : FrS (fun b => w.heap[b]?) sz (.slice (some a) len cap) ((List.ofFn g).map fun p => p.1) := ⟨⟨some a, cap, by simp, by simpa using hl, hm', Row.snap hrow hsz'⟩⟩
  refine ⟨_, (List.ofFn g).map Prod.snd, rfl, ?_, ?_, fun d => ?_⟩
  ·refine Uv (css := (List.ofFn g).map Prod.fst) ?_ ⟨by simp, fun i c y hc hy => ?_⟩
   ·have : ((List.ofFn g).map Prod.fst).map idC = (List.ofFn g).map fun p => p.1 := by rw [List.map_map]; rfl
    rw [this]; exact hfr
   ·simp only [List.getElem?_map, Option.map_eq_some_iff] at hc hy
    obtain ⟨p, hp, rfl⟩ := hc
    obtain ⟨q, hq, rfl⟩ := hy
    rw [hp] at hq
    cases hq
    have hpm := List.mem_of_getElem? hp
    rw [List.mem_ofFn] at hpm
    obtain ⟨j, rfl⟩ := hpm
    exact ⟨(hg j).2.1, (hg j).2.2.1⟩
  ·have h1 := len_le_sum K.one (elems.map (·.1))
   have h2 := K.slice (elems.map (·.1)) (rest.map (·.1))
   rw [hx]
   simp only [List.length_map, List.length_ofFn] at h1 ⊢
   omega
  ·have h2 := K.slice (elems.map (·.1)) (rest.map (·.1))
   rw [hx]
   refine Nat.le_trans (sum_le_sum (by simp [hlen]) fun i a y ha hy => ?_) h2
   rw [List.getElem?_map, Option.map_eq_some_iff] at ha hy
   obtain ⟨p, hp, rfl⟩ := ha
   obtain ⟨y, hy, rfl⟩ := hy
   have hi : i < len := by
    rcases Nat.lt_or_ge i len with h | h
    ·exact h
    ·rw [List.getElem?_eq_none (by simpa using h)] at hp; cases hp
   rw [List.getElem?_ofFn, dif_pos hi] at hp
   cases hp
   exact (hg ⟨i, hi⟩).2.2.2 d y hy
end
end Go.Lx
