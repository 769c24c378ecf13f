/- TagDiffers, in plain Lean: the reference's list is the program's, and the law. Conditions: sizes. -/
import Derived.Test.YtpljknglodhcnaaKTg
import Derived.Test.YtpljknglodhcnaaMd
import Derived.ProofKit
import Derived.OpenShut
import Derived.ChangeArms
import Derived.DataReads
import Derived.JoinedCond
import Derived.LaidLaws
import Derived.SizedLaws
import Derived.Test.YtpljknglodhcnaaLx11
namespace Go.M
open Go.Md Go.Pl
set_option linter.unusedVariables false
theorem lk_none {l : List T_tag_Entry} {t : Int} (h : lk l t = none) : ∀ x ∈ l, x.Tag ≠ t := by
 induction l with
 | nil => intro x hx; cases hx
 | cons y l ih =>
  rw [lk] at h
  split at h
  ·cases h
  ·rename_i h1
   intro x hx
   rcases List.mem_cons.1 hx with e | e
   ·subst e; exact h1
   ·exact ih h x e
theorem range_eq {a b : List T_tag_Entry} {path : List Int} {self : List T_tag_Entry × List T_tag_Entry × List Int → Option (List (List Int))} {R : List (List Int)} (ha : Ris a) (hb : Ris b) (la : a.length ≤ 200) (lb : b.length ≤ 200)
  (h : Z5 (fun next3 s => Zl a b path self (tg a b) next3 s.1 s.2) (0, ([] : List (List Int))) = some R) : Vr a b path self (keysM (a ++ b) []) = some R := by
 have hK := keys_perm ha hb
 have hT := tg_len _ a b (Nat.le_refl _)
 unfold Vr
 refine fix_of (F := fun next6 s => Z6 a b path self next6 s.1 s.2) (fun _ => some R) (fun s : List (Int × Bool) × List Int => (s.1.map (·.1) ++ s.2).Perm (tg a b)) (fun s => s.1.length) ?_ (keysM (a ++ b) [], []) (by simpa using hK)
 rintro next ⟨rs, l⟩ hI ih
 simp only at hI ih
 show Z6 a b path self next rs l = some R
 have hlen : rs.length + l.length ≤ 400 := by
  have := hI.length_eq
  rw [List.length_append, List.length_map] at this; omega
 unfold Z6
 by_cases h0 : rs = []
 ·subst h0
  show Qp false _ _ = _
  rw [Qo]
  unfold R_unlike_j2
  have hs : gSortI l = some (tg a b) := by
   unfold gSortI
   rw [if_pos (by simp only [List.length_nil] at hlen; omega), sort_tg ha hb (by simpa using hI)]
  rw [hs, Je]
  exact h
 ·have hne : (!rs.isEmpty) = true := by simpa using h0
  rw [hne, Qv]
  refine gAll_ok (fun p l' hp => ?_) h0
  have hlt : l'.length < rs.length := by have := hp.len; omega
  rw [Wo (by simp only [List.length_cons, List.length_nil]; omega), Je]
  refine ih (l', l ++ [p.1]) ?_ hlt
  refine List.Perm.trans ?_ hI
  have h1 := (hp.perm.map (·.1))
  rw [List.map_cons] at h1
  refine List.Perm.trans ?_ (h1.symm.append_right l)
  rw [← List.append_assoc]
  exact (List.perm_append_comm (l₁ := l'.map (·.1) ++ l) (l₂ := [p.1]))
theorem keys_eq {a b : List T_tag_Entry} {path : List Int} {self : List T_tag_Entry × List T_tag_Entry × List Int → Option (List (List Int))} (l : List T_tag_Entry) (hl : l.length ≤ 400) :
  Z5 (fun next7 s => Yl a b path self l next7 s.1 s.2) (0, ([] : List (Int × Bool))) = Vr a b path self (keysM l []) := by
 have key : ∀ m i : Nat, i + m = l.length → ∀ mp, Z5 (fun next7 s => Yl a b path self l next7 s.1 s.2) ((i : Int), mp) = Vr a b path self (keysM (l.drop i) mp) := by
  intro m
  induction m with
  | zero =>
   intro i hi mp
   rw [List.drop_eq_nil_of_le (by omega)]
   refine Q8 fun next => ?_
   show Yl a b path self l next (i : Int) mp = _
   unfold Yl
   rw [cI, if_neg (by omega)]; rfl
  | succ m ih =>
   intro i hi mp
   have hlt : i < l.length := by omega
   rw [List.drop_eq_getElem_cons hlt]
   refine Eq.trans (X0 (((i + 1 : Nat) : Int), mSet mp l[i].Tag true) fun next => ?_) (ih (i + 1) (by omega) _)
   show Yl a b path self l next (i : Int) mp = _
   unfold Yl
   rw [cI, if_pos (by omega), Ql hlt, Je, Qm (by omega), Je]; rfl
 exact key l.length 0 (by omega) []
theorem unlike_eq (d : Nat) (a b : List T_tag_Entry) (path : List Int) (h1 : okR d a) (h2 : okR d b) (h3 : szD d a ≤ 2000000) (h4 : szD d b ≤ 2000000) (h5 : path.length + d ≤ 100) : R_unlike a b path = some (dif d a b path) := by
 unfold R_unlike
 refine fix_ofG (fun (g : Nat) (s : List T_tag_Entry × List T_tag_Entry × List Int) => some (dif g s.1 s.2.1 s.2.2))
  (fun g s => okR g s.1 ∧ okR g s.2.1 ∧ szD g s.1 ≤ 2000000 ∧ szD g s.2.1 ≤ 2000000 ∧ s.2.2.length + g ≤ 100) (fun g => g) ?_ d (a, b, path) ⟨h1, h2, h3, h4, h5⟩
 clear h1 h2 h3 h4 h5 a b path d
 classical
 rintro next g ⟨a, b, path⟩ ⟨h1, h2, h3, h4, h5⟩ ih
 simp only at h1 h2 h3 h4 h5 ih
 show Yx next a b path = some (dif g a b path)
 cases g with
 | zero => exact absurd h1 id
 | succ d =>
  have hlen := dif_len (d + 1) a b path
  obtain ⟨la, ra, ea⟩ := h1
  obtain ⟨lb, rb, eb⟩ := h2
  rw [dif_succ] at hlen ⊢
  rw [dm_flat _ a b (Nat.le_refl _) ra rb] at hlen ⊢
  unfold Yx
  rw [concat_eq a b la lb, Je, keys_eq (a ++ b) (by rw [List.length_append]; omega)]
  refine range_eq ra rb la lb ?_
  have hT := tg_len _ a b (Nat.le_refl _)
  refine (fix_of (F := fun next3 s => Zl a b path next (tg a b) next3 s.1 s.2) (fun s => some (s.2 ++ ((tg a b).drop s.1.toNat).flatMap (stp (Y3 d path) path a b)))
   (fun s : Int × List (List Int) => ∃ k : Nat, s.1 = k ∧ k ≤ (tg a b).length ∧ s.2.length + (((tg a b).drop k).flatMap (stp (Y3 d path) path a b)).length ≤ 1000000000000) (fun s => (tg a b).length - s.1.toNat) ?_ (0, []) ⟨0, rfl, Nat.zero_le _, ?_⟩).trans ?_
  ·rintro nx ⟨x, l⟩ ⟨k, hx, hk, hl⟩ ih2
   simp only at hx hl ih2
   subst hx
   simp only [Int.toNat_natCast]
   show Zl a b path next (tg a b) nx (k : Int) l = _
   unfold Zl
   rw [cI]
   rcases Nat.lt_or_ge k (tg a b).length with hk' | hk'
   ·have gp : ∀ t : Int, X6 8 path ([t] : List Int) = some (path ++ [t]) := fun t => Wo (by simp only [List.length_cons, List.length_nil]; omega)
    have hd := List.drop_eq_getElem_cons hk'
    have hm : (tg a b)[k] ∈ tg a b := List.getElem_mem hk'
    rw [if_pos (by omega), Ql hk', Je, clone_eq _ (by omega), Je]
    rw [hd, List.flatMap_cons] at hl ⊢
    generalize (tg a b)[k] = t at hd hl hm ⊢
    rw [List.length_append] at hl
    rw [gp, Je]
    have step : ∀ l' : List (List Int), l' = l ++ stp (Y3 d path) path a b t → Zk (k : Int) nx l' = some (l ++ (stp (Y3 d path) path a b t ++ ((tg a b).drop (k + 1)).flatMap (stp (Y3 d path) path a b))) := fun l' hl' => by
     unfold Zk
     rw [Qm (by omega), Je]
     refine (ih2 (((k + 1 : Nat) : Int), l') ⟨k + 1, rfl, hk', ?_⟩ ?_).trans ?_
     ·show l'.length + _ ≤ _
      rw [hl', List.length_append]; omega
     ·simp only [Int.toNat_natCast]; omega
     ·simp only [Int.toNat_natCast]; rw [hl', List.append_assoc]
    have oneP : stp (Y3 d path) path a b t = [path ++ [t]] → ∀ (y z : Option (List (List Int))), Qp true (Qg (X6 24 l ([path ++ [t]] : List (List Int))) fun l76 => Zk (k : Int) nx l76) z = some (l ++ (stp (Y3 d path) path a b t ++ ((tg a b).drop (k + 1)).flatMap (stp (Y3 d path) path a b))) := fun e _ z => by
     rw [e, List.length_singleton] at hl
     rw [Qv, Wo (by simp only [List.length_cons, List.length_nil]; omega), Je]
     exact step _ (by rw [e])
    rcases find_eq a t ra la with ⟨fa, na, za⟩ | ⟨i, hi, fa, na, za⟩
    ·rcases find_eq b t rb lb with ⟨fb, nb, zb⟩ | ⟨j, hj, fb, nb, zb⟩
     ·exfalso
      rcases tg_m.1 hm with ⟨x, hx, e⟩ | ⟨x, hx, e⟩
      ·exact lk_none na x hx e
      ·exact lk_none nb x hx e
     ·rw [fa, Je, fb, Je, za]
      refine oneP ?_ none _
      unfold stp; rw [na]
    ·rcases find_eq b t rb lb with ⟨fb, nb, zb⟩ | ⟨j, hj, fb, nb, zb⟩
     ·rw [fa, Je, fb, Je, zb]
      refine oneP ?_ none _
      unfold stp; rw [nb]; cases lk a t <;> rfl
     ·have es : stp (Y3 d path) path a b t = Y3 d path a[i] b[j] := by unfold stp; rw [na, nb]
      have mi : a[i] ∈ a := List.getElem_mem hi
      have mj : b[j] ∈ b := List.getElem_mem hj
      obtain ⟨va, sa⟩ := vB_of h3 mi
      obtain ⟨vb, sb⟩ := vB_of h4 mj
      rw [fa, Je, fb, Je]
      show Qp false _ _ = _
      rw [Qo]
      show Qg (Qj a (i : Int)) _ = _
      rw [Ql hi, Je]
      have plain : ¬ (a[i].Value.Kind = 13 ∧ b[j].Value.Kind = 13) → Vt a b next (k : Int) l nx (path ++ [t]) ((i : Int), true) ((j : Int), true) false = some (l ++ (stp (Y3 d path) path a b t ++ ((tg a b).drop (k + 1)).flatMap (stp (Y3 d path) path a b))) := fun hn => by
       unfold Vt
       rw [Qo]
       show Qg (Qj a (i : Int)) _ = _
       rw [Ql hi, Je]
       show Qg (Qj b (j : Int)) _ = _
       rw [Ql hj, Je, SameValue_eq _ _ va (ea _ mi).1 (eb _ mj).1 hn, Je]
       by_cases hs : same a[i].Value b[j].Value
       ·rw [decide_eq_true hs]
        show Qp false _ _ = _
        rw [Qo]
        refine step l ?_
        rw [es]; unfold Y3; rw [if_neg hn, if_pos hs, List.append_nil]
       ·rw [decide_eq_false hs]
        show Qp true _ _ = _
        refine oneP ?_ none _
        rw [es]; unfold Y3; rw [if_neg hn, if_neg hs, za]
      rw [cI]
      by_cases ha13 : a[i].Value.Kind = 13
      ·rw [if_pos ha13]
       show Qg (Qj b (j : Int)) _ = _
       rw [Ql hj, Je]
       by_cases hb13 : b[j].Value.Kind = 13
       ·have eh : Y3 d path a[i] b[j] = dif d a[i].Value.Entries b[j].Value.Entries (path ++ [t]) := by unfold Y3; rw [if_pos ⟨ha13, hb13⟩, za]
        rw [decide_eq_true hb13]
        unfold Vt
        rw [Qv]
        show Qg (Qj a (i : Int)) _ = _
        rw [Ql hi, Je]
        show Qg (Qj b (j : Int)) _ = _
        rw [Ql hj, Je]
        have := ih d (a[i].Value.Entries, b[j].Value.Entries, path ++ [t]) ⟨(ea _ mi).2 ha13, (eb _ mj).2 hb13, sa, sb, by rw [List.length_append, List.length_singleton]; omega⟩ (by omega)
        simp only at this
        rw [this, Je, ← eh, ← es, Wo (by omega), Je]
        exact step _ rfl
       ·rw [decide_eq_false hb13]
        exact plain fun h => hb13 h.2
      ·rw [if_neg ha13]
       exact plain fun h => ha13 h.1
   ·rw [if_neg (by omega), List.drop_eq_nil_of_le hk', List.flatMap_nil, List.append_nil]
  ·simp only [List.drop_zero, List.length_nil]; omega
  ·simp
noncomputable def difs : List (List T_tag_Entry) → List (List T_tag_Entry) → Nat → List (List Int)
 | a :: az, b :: bs, i => dif 5 a b [(i : Int)] ++ difs az bs (i + 1)
 | _, _, _ => []
def okF (ls : List (List T_tag_Entry)) : Prop := ∀ l ∈ ls, okR 5 l ∧ szD 5 l ≤ 2000000
theorem difs_len : ∀ (az bs : List (List T_tag_Entry)) (i : Nat), okF az → okF bs → (difs az bs i).length ≤ 4000000 * az.length
 | [], _, _, _, _ => by rw [difs]; exact Nat.zero_le _; intros; contradiction
 | a :: az, [], _, _, _ => by rw [difs]; exact Nat.zero_le _; intros; contradiction
 | a :: az, b :: bs, i, h1, h2 => by
  have := difs_len az bs (i + 1) (fun l h => h1 l (.tail _ h)) fun l h => h2 l (.tail _ h)
  have h3 := dif_len 5 a b [(i : Int)]
  have h4 := (h1 a (.head _)).2
  have h5 := (h2 b (.head _)).2
  rw [difs, List.length_append, List.length_cons]; omega
theorem difs_mem : ∀ (az bs : List (List T_tag_Entry)) (i : Nat), ∀ q ∈ difs az bs i, q.length ≤ 6
 | [], _, _, q, h => by rw [difs] at h; cases h; intros; contradiction
 | a :: az, [], _, q, h => by rw [difs] at h; cases h; intros; contradiction
 | a :: az, b :: bs, i, q, h => by
  rw [difs] at h
  rcases List.mem_append.1 h with h | h
  ·have := dif_mem 5 a b [(i : Int)] q h
   rw [List.length_singleton] at this; omega
  ·exact difs_mem az bs (i + 1) q h
theorem Unlike_eq {f g : T_tag_File} (h1 : okF f.Dirs) (h2 : okF g.Dirs) (hl : f.Dirs.length = g.Dirs.length) (hn : f.Dirs.length ≤ 20) : R_Unlike f g = some (difs f.Dirs g.Dirs 0) := by
 have key : ∀ m i : Nat, i + m = f.Dirs.length → ∀ l : List (List Int), l.length ≤ 4000000 * i → Z5 (fun next1 s => Y2 f g next1 s.1 s.2) ((i : Int), l) = some (l ++ difs (f.Dirs.drop i) (g.Dirs.drop i) i) := by
  intro m
  induction m with
  | zero =>
   intro i hi l _
   rw [List.drop_eq_nil_of_le (by omega)]
   refine Q8 fun next => ?_
   show Y2 f g next (i : Int) l = _
   unfold Y2
   rw [cI, if_neg (by omega), difs, List.append_nil]
   intros; contradiction
  | succ m ih =>
   intro i hi l hll
   have hf : i < f.Dirs.length := by omega
   have hg : i < g.Dirs.length := by omega
   obtain ⟨a1, a2⟩ := h1 _ (List.getElem_mem hf)
   obtain ⟨b1, b2⟩ := h2 _ (List.getElem_mem hg)
   have h3 := dif_len 5 f.Dirs[i] g.Dirs[i] [(i : Int)]
   rw [List.drop_eq_getElem_cons hf, List.drop_eq_getElem_cons hg, difs, ← List.append_assoc]
   refine Eq.trans (X0 (((i + 1 : Nat) : Int), l ++ dif 5 f.Dirs[i] g.Dirs[i] [(i : Int)]) fun next => ?_) (ih (i + 1) (by omega) _ (by rw [List.length_append]; omega))
   show Y2 f g next (i : Int) l = _
   unfold Y2
   rw [cI, if_pos (by omega), Ql hf, Je, Ql hg, Je, unlike_eq 5 _ _ _ a1 b1 a2 b2 (by rw [List.length_singleton]; omega), Je, Wo (by omega), Je, Qm (by omega), Je]; rfl
 exact key f.Dirs.length 0 (by omega) [] (Nat.zero_le _)
theorem Differ_j1_eq {f g : T_tag_File} (h1 : okF f.Dirs) (h2 : okF g.Dirs) (hl : f.Dirs.length = g.Dirs.length) (hn : f.Dirs.length ≤ 20) : Zu f g = some (difs f.Dirs g.Dirs 0, 0) := by
 have key : ∀ m i : Nat, i + m = f.Dirs.length → ∀ l : List (List Int), l.length ≤ 4000000 * i → Z5 (fun next3 s => X3 f g next3 s.1 s.2) ((i : Int), l) = some (l ++ difs (f.Dirs.drop i) (g.Dirs.drop i) i, 0) := by
  intro m
  induction m with
  | zero =>
   intro i hi l _
   rw [List.drop_eq_nil_of_le (by omega)]
   refine Q8 fun next => ?_
   show X3 f g next (i : Int) l = _
   unfold X3
   rw [cI, if_neg (by omega), difs, List.append_nil]
   ·rfl
   ·intros; contradiction
  | succ m ih =>
   intro i hi l hll
   have hf : i < f.Dirs.length := by omega
   have hg : i < g.Dirs.length := by omega
   obtain ⟨a1, a2⟩ := h1 _ (List.getElem_mem hf)
   obtain ⟨b1, b2⟩ := h2 _ (List.getElem_mem hg)
   have h3 := dif_len 5 f.Dirs[i] g.Dirs[i] [(i : Int)]
   rw [List.drop_eq_getElem_cons hf, List.drop_eq_getElem_cons hg, difs, ← List.append_assoc]
   refine Eq.trans (X0 (((i + 1 : Nat) : Int), l ++ dif 5 f.Dirs[i] g.Dirs[i] [(i : Int)]) fun next => ?_) (ih (i + 1) (by omega) _ (by rw [List.length_append]; omega))
   show X3 f g next (i : Int) l = _
   unfold X3
   rw [cI, if_pos (by omega), Ql hf, Je, Ql hg, Je, differ_eq 5 _ _ _ _ a1 b1 a2 b2 (by rw [List.length_singleton]; omega) (by omega), Je, Qm (by omega), Je]; rfl
 unfold Zu
 rw [cI, if_neg (by omega)]
 exact key f.Dirs.length 0 (by omega) [] (Nat.zero_le _)
theorem Differ_eq {f g : T_tag_File} (hf : fileB f) (hg : fileB g) : tag_Differ f g = if Uf f ≠ 0 then some ([], Uf f) else if Uf g ≠ 0 then some ([], Uf g) else Zu f g := by
 have g0 : Qj [f, g] (0 : Int) = some f := Ql (xs := [f, g]) (k := 0) (by simp)
 have g1 : Qj [f, g] (1 : Int) = some g := Ql (xs := [f, g]) (k := 1) (by simp)
 unfold tag_Differ
 by_cases h1 : Uf f = 0
 ·rw [if_neg (fun hh => hh h1)]
  refine (X0 1 fun next => ?_).trans ?_
  ·show Q1 f g next 0 = _
   unfold Q1
   rw [cI, if_pos (by omega), g0, Je, Check_eq hf, Je, cI, if_neg (fun hh => hh h1), Qm (by omega), Je]; rfl
  by_cases h2 : Uf g = 0
  ·rw [if_neg (fun hh => hh h2)]
   refine (X0 2 fun next => ?_).trans (Q8 fun next => ?_)
   ·show Q1 f g next 1 = _
    unfold Q1
    rw [cI, if_pos (by omega), g1, Je, Check_eq hg, Je, cI, if_neg (fun hh => hh h2), Qm (by omega), Je]; rfl
   ·show Q1 f g next 2 = _
    unfold Q1
    rw [cI, if_neg (by omega)]
  ·rw [if_pos h2]
   refine Q8 fun next => ?_
   show Q1 f g next 1 = _
   unfold Q1
   rw [cI, if_pos (by omega), g1, Je, Check_eq hg, Je, cI, if_pos h2]
 ·rw [if_pos h1]
  refine Q8 fun next => ?_
  show Q1 f g next 0 = _
  unfold Q1
  rw [cI, if_pos (by omega), g0, Je, Check_eq hf, Je, cI, if_pos h1]
theorem equal_lists (l : List (List Int)) (hl : l.length ≤ 1000000000000) (hg : ∀ g ∈ l, g.length ≤ 2000000) : Xj l l Xo = some true := by
 unfold Xj
 rw [cI, if_neg (fun h => h rfl)]
 refine (up (F := fun next1 s => J9 l l Xo next1 s) l.length (fun _ => some true) fun next k hk ih => ?_)
 show J9 l l Xo next (k : Int) = _
 unfold J9
 rw [cI]
 by_cases h : k < l.length
 ·rw [if_pos (by omega), Ql h, Je, Je, eqInts _ _ (hg _ (List.getElem_mem h)), Je, decide_eq_true rfl]
  show Qp false _ _ = _
  rw [Qo, Qm (by omega), Je, ih h]
 ·rw [if_neg (by omega)]
theorem lists_ok {a c : List (List Int)} {b d : Int} (h : a = (if d = 0 then c else [])) (hb : b = d) (hl : a.length ≤ 1000000000000) (hg : ∀ g ∈ a, g.length ≤ 2000000) : W2 a b c d = some true := by
 subst hb
 have he := equal_lists a hl hg
 unfold W2 Z1
 rw [cI]
 by_cases h0 : b = 0
 ·rw [if_pos h0] at h
  rw [if_neg (fun hh => hh h0), ← h, he, Je, Qv]; simp
 ·rw [if_neg h0] at h
  rw [if_pos h0, ← h, he, Je, Qv]; simp
theorem okF_of {f : T_tag_File} (hf : fileB f) (h : Uf f = 0) : okF f.Dirs ∧ f.Dirs.length ≤ 20 := by
 have h2 := (fileE_zero hf h).2
 unfold Uf at h
 split at h
 ·omega
 split at h
 ·rename_i h1; exact absurd h h1
 rename_i h1
 have h0 : Vf f.Dirs = 0 := by simpa using h1
 exact ⟨fun l hl => ⟨dE_okR (firstD_ok h0 l hl), hf.1 l hl⟩, h2⟩
theorem tagDiffers_all (f g : T_tag_File) (hf : fileB f) (hg : fileB g) : Wi f g = some true := by
 have none_of : ∀ (e : Int) (x : List (List Int)), e ≠ 0 → tag_Differ f g = some ([], e) → Xt f g e = some true := fun e x he ht => by
  unfold Xt
  rw [cI, if_neg he]
  unfold Yq
  rw [ht, Je, lists_ok (by rw [if_neg he]) rfl (by simp) (by simp), Je]
 have hd := Differ_eq hf hg
 unfold Wi
 rw [FileFault_eq hf, Je, cI]
 by_cases h1 : Uf f = 0
 ·rw [if_pos h1, FileFault_eq hg, Je]
  rw [if_neg (fun hh => hh h1)] at hd
  unfold Yr
  rw [cI]
  by_cases h2 : Uf g = 0
  ·rw [if_neg (fun hh => hh h2)] at hd
   rw [if_pos h2, cI]
   obtain ⟨o1, n1⟩ := okF_of hf h1
   obtain ⟨o2, n2⟩ := okF_of hg h2
   by_cases hl : f.Dirs.length = g.Dirs.length
   ·rw [if_neg (by omega), h2]
    rw [Differ_j1_eq o1 o2 hl n1] at hd
    unfold Xt
    rw [cI, if_pos rfl, Unlike_eq o1 o2 hl n1, Je]
    unfold Yq
    have hle := difs_len f.Dirs g.Dirs 0 o1 o2
    rw [hd, Je, lists_ok (by rw [if_pos rfl]) rfl (by show (difs f.Dirs g.Dirs 0).length ≤ _; omega) (fun q hq => by have := difs_mem _ _ _ q hq; omega), Je]
   ·rw [if_pos (by omega)]
    refine none_of 1 [] (by omega) ?_
    rw [hd]
    unfold Zu
    rw [cI, if_pos (by omega)]
  ·rw [if_neg h2]
   exact none_of _ [] h2 (by rw [hd, if_pos h2])
 ·rw [if_neg h1]
  unfold Yr
  rw [cI, if_neg h1]
  exact none_of _ [] h1 (by rw [hd, if_pos h1])
theorem tagDiffersS (f g : T_tag_File) (hf : fileB f) (hg : fileB g) : Wi f g = some true := tagDiffers_all f g hf hg
end Go.M

/- What a claim says of a call's arguments, as rows: slices, arrays, structs, strings. Conditions: none. -/
namespace Go.Vc
open Go
variable {H : Type} {enc : TypeId × Value → H} {P : Program} {w : World} {base : Nat} {spare : Nat → Bool} {held : Bool}
theorem Va {w : World} {base k : Nat} {a : Addr} {cs : List Value} (h : w.cells? base a k = some cs) : cs.length = k ∧ ∀ i, i < k → w.cell? (a.add i) = cs[i]? :=
 (World.cells?_some h).2
theorem cell_spot {w : World} {a : Addr} {v : Value} (h : w.cell? a = some v) : a.spot = none := by
 unfold World.cell? at h
 split at h
 ·split at h
  ·cases h
  ·rename_i hs; simpa using hs
 ·cases h
theorem op_int {t fuel : Nat} {k : IntKind} {cs : List Value} {x : DataW H × List MemPlace} (ht : P.underlying t = some (.int k)) (h : DataW.trod enc P w base spare held fuel t cs = some x) : ∃ n : Int, cs = [.int k n] ∧ (Lit.int k n).wf = true := by
 obtain ⟨n, h1, _, h2⟩ := DataW.trod_int ht h
 exact ⟨n, h1, h2⟩
theorem op_bool {t fuel : Nat} {cs : List Value} {x : DataW H × List MemPlace} (ht : P.underlying t = some .bool) (h : DataW.trod enc P w base spare held fuel t cs = some x) : ∃ b : Bool, cs = [.bool b] := by
 obtain ⟨n, h1, _⟩ := DataW.trod_bool ht h
 exact ⟨n, h1⟩
end Go.Vc

/- What a claim says of a call's arguments, as values of plain types: parts of structs, arrays, slices. Conditions: none. -/
namespace Go.Lx
open Go Go.Vc Go.Md
variable {H : Type} {enc : TypeId × Value → H} {P : Program} {w : World} {base : Nat} {spare : Nat → Bool} {held : Bool}
theorem piece {cs l : List Value} {o s : Nat} (h : (cs.drop o).take s = l) (hl : l.length = s) : cs.drop o = l ++ cs.drop (o + s) := by
 have := List.take_append_drop s (cs.drop o)
 rw [h, List.drop_drop] at this
 exact this.symm
theorem Row.snap {w : World} {a : Option Addr} {sz : Nat} {xs : List (List Value)} (h : Row w a sz xs) (hsz : 0 < sz) : RowH (fun b => w.heap[b]?) a sz xs := by
 rcases h with h | ⟨b, off, ha, h⟩
 ·exact .inl h
 ·cases xs with
  | nil => exact .inl rfl
  | cons x r =>
   have h0 := h 0 x rfl
   have hv := h0.2 0 x[0] (by simp [h0.1, hsz])
   unfold World.cell? at hv
   split at hv
   ·rename_i c T m hb
    refine .inr ⟨b, off, c, T, m, ha, hb, fun i y hy => ⟨(h i y hy).1, fun j v hj => ?_⟩⟩
    have := (h i y hy).2 j v hj
    unfold World.cell? at this
    rw [hb] at this
    simpa using this
   ·cases hv
theorem val_struct {r : Reach} {b0 t : Nat} {v : Value} {fs : Array Field} (ht : P.underlying t = some (.struct fs)) (hval : Value.okWide P w r b0 t v) : ∃ cs : List Value, v = .agg cs.toArray ∧ v.cells.toList = cs ∧ cs.length = P.cellsOf t := by
 unfold Value.okWide at hval
 rw [ht] at hval
 obtain ⟨cs, rfl, h, _⟩ := hval; exact ⟨cs.toList, by simp, rfl, by simpa using h⟩
end Go.Lx

/- What a claim says of a call's arguments, where their bulk is bounded. Conditions: none. -/
namespace Go.Vc
open Go Go.Lx
variable {H : Type} {enc : TypeId × Value → H} {P : Program} {w : World} {base : Nat} {spare : Nat → Bool} {held : Bool}
structure BK (bk : DataW H → Nat) : Prop where
 slice : ∀ (es rs : List (DataW H)) (d : DataW H), d ∈ es → bk d ≤ bk (.slice es rs)
 agg : ∀ (es : List (DataW H)) (d : DataW H), d ∈ es → bk d ≤ bk (.agg es)
 str : ∀ bs : List UInt8, bs.length ≤ bk (.lit (.string bs))
theorem op_stringB {bk : DataW H → Nat} (K : BK bk) {t fuel : Nat} {cs : List Value} {x : DataW H × List MemPlace} (ht : P.underlying t = some .string) (h : DataW.trod enc P w base spare held fuel t cs = some x) : ∃ s : List UInt8, cs = [str s] ∧ s.length ≤ 9223372036854775807 ∧ s.length ≤ bk x.1 := by
 obtain ⟨s, h1, h3, h2⟩ := DataW.trod_string ht h
 refine ⟨s.data.toList, by rw [h1], ?_, ?_⟩
 ·have e : s.data.toList.length = s.size := by rw [Array.length_toList]; rfl
  rw [e]
  unfold maxLen at h2
  omega
 ·rw [h3]; exact K.str _
theorem op_fieldB {bk : DataW H → Nat} (K : BK bk) {t fuel i ft fo sz bo : Nat} {nm tg pk : String} {em : Bool} {fs : Array Field} {cs : List Value} {x : DataW H × List MemPlace} (ht : P.underlying t = some (.struct fs)) (hf : fs[i]? = some ⟨nm, ft, fo, em, tg, pk, bo⟩) (hc : P.cellsOf ft = sz) (h : DataW.trod enc P w base spare held fuel t cs = some x) :
  ∃ n y, DataW.trod enc P w base spare held n ft ((cs.drop fo).take sz) = some y ∧ bk y.1 ≤ bk x.1 := by
 subst hc
 obtain ⟨xs, n, _, hx, _, hl, hp⟩ := DataW.trod_struct ht h
 have h1 := hp i _ hf
 have hi : i < fs.size := by
  rcases Nat.lt_or_ge i fs.size with h | h
  ·exact h
  ·rw [Array.getElem?_eq_none h] at hf; cases hf
 rw [List.getElem?_eq_getElem (by omega)] at h1
 refine ⟨n, _, h1, ?_⟩
 rw [hx]
 exact K.agg _ _ (List.mem_map.2 ⟨_, List.getElem_mem _, rfl⟩)
theorem op_sliceB {bk : DataW H → Nat} (K : BK bk) {B : Nat} {α : Type} {f : α → List Value} {good : α → Prop} {t e sz fuel : Nat} {cs : List Value} {x : DataW H × List MemPlace} (hB : bk x.1 ≤ B) (ht : P.underlying t = some (.slice e)) (hc : P.cellsOf e = sz) (hsz : Nat.blt 0 sz = true)
  (hD : ∀ n cs x, bk x.1 ≤ B → cs.length = sz → DataW.trod enc P w base spare held n e cs = some x → ∃ a, cs = f a ∧ good a) (h : DataW.trod enc P w base spare held fuel t cs = some x) :
  ∃ (v : Value) (xs : List α), cs = [v] ∧ FrS (fun b => w.heap[b]?) sz v (xs.map f) ∧ xs.length ≤ 9223372036854775807 ∧ ∀ x ∈ xs, good x := by
 have h' := h
 rcases DataW.trod_slice ht h with ⟨rfl, _⟩ | ⟨a, len, cap, elems, rest, n, _, rfl, hx, _, hl, hm, hlen, hel, _⟩
 ·exact ⟨_, [], rfl, FrS.nil _ _, by simp, by simp⟩
 ·-- the elements, and no others
  have each : ∀ i : Fin len, ∃ a' : α, w.cells? base (a.add (i * sz)) sz = some (f a') ∧ good a' := by
   intro i
   have hi := hel i i.2
   rw [hc] at hi
   have hlt : (i : Nat) < elems.length := by rw [hlen]; exact i.2
   rw [List.getElem?_eq_getElem hlt, Option.bind_eq_some_iff] at hi
   obtain ⟨cs', h1, h2⟩ := hi
   have hb : bk (elems[(i : Nat)]).1 ≤ B := by
    refine Nat.le_trans ?_ hB
    rw [hx]
    exact K.slice _ _ _ (List.mem_map.2 ⟨_, List.getElem_mem _, rfl⟩)
   obtain ⟨a', rfl, hg⟩ := hD _ _ _ hb (Va h1).1 h2
   exact ⟨a', h1, hg⟩
  have hsz' : 0 < sz := by simpa using hsz
  have hch : ∃ g : Fin len → α, ∀ i : Fin len, w.cells? base (a.add (i * sz)) sz = some (f (g i)) ∧ good (g i) := ⟨fun i => (each i).choose, fun i => (each i).choose_spec⟩
  obtain ⟨g, hg⟩ := hch
  have hrow : Row w (some a) sz ((List.ofFn g).map f) := by
   cases len with
   | zero => left; simp
   | succ k =>
    have h0 := hg 0
    have hsp : a.spot = none := by
     have := (Va h0.1).2 0 hsz'
     have hln := (Va h0.1).1
     rw [List.getElem?_eq_getElem (by omega)] at this
     have hs := cell_spot this
     simpa [Addr.add] using hs
    obtain ⟨b, off, spot⟩ := a
    simp only at hsp
    subst hsp
    refine .inr ⟨b, off, rfl, fun i x hx => ?_⟩
    have hi : i < k + 1 := by
     rcases Nat.lt_or_ge i (k + 1) with h | h
     ·exact h
     ·rw [List.getElem?_eq_none (by simpa using h)] at hx; cases hx
    have hx' : x = f (g ⟨i, hi⟩) := by
     rw [List.getElem?_map, List.getElem?_ofFn, dif_pos hi] at hx
     exact (Option.some.inj hx).symm
    subst hx'
    obtain ⟨c1, c2⟩ := Va (hg ⟨i, hi⟩).1
    refine ⟨c1, fun j v hv => ?_⟩
    have hj : j < sz := by
     rcases Nat.lt_or_ge j sz with h | h
     ·exact h
     ·rw [List.getElem?_eq_none (by omega)] at hv; cases hv
    have := c2 j hj
    rw [hv, Addr.add_lit, Addr.add_lit] at this
    exact this
  have hm' : cap ≤ 9223372036854775807 := by simpa [maxLen] using hm
  refine ⟨_, List.ofFn g, rfl, ⟨⟨some a, cap, by simp, by simpa using hl, hm', Row.snap hrow hsz'⟩⟩, by simp; omega, ?_⟩
  intro x hx
  rw [List.mem_ofFn] at hx
  obtain ⟨i, rfl⟩ := hx
  exact (hg i).2
end Go.Vc

/- What a claim says of a call's arguments, where their bulk is bounded and package variables are laid. Conditions: none. -/
namespace Go.Vc
open Go Go.Lx
section
variable {H : Type} {enc : TypeId × Value → H} {P : Program} {w : World} {base : Nat} {spare : Nat → Bool} {held : Bool}
structure BKL (bk : DataW H → Nat) : Prop extends BK bk where
 len : ∀ es rs : List (DataW H), es.length ≤ bk (.slice es rs)
theorem op_sliceL {bk : DataW H → Nat} (K : BKL bk) {B : Nat} {α : Type} {f : α → List Value} {good : α → Prop} {t e sz fuel : Nat} {cs : List Value} {x : DataW H × List MemPlace} (hB : bk x.1 ≤ B) (ht : P.underlying t = some (.slice e)) (hc : P.cellsOf e = sz) (hsz : Nat.blt 0 sz = true)
  (hD : ∀ n cs x, bk x.1 ≤ B → cs.length = sz → DataW.trod enc P w base spare held n e cs = some x → ∃ a, cs = f a ∧ good a) (h : DataW.trod enc P w base spare held fuel t cs = some x) :
  ∃ (v : Value) (xs : List α), cs = [v] ∧ FrS (fun b => w.heap[b]?) sz v (xs.map f) ∧ (xs.length ≤ 9223372036854775807 ∧ xs.length ≤ B) ∧ ∀ x ∈ xs, good x := by
 obtain ⟨v, xs, e1, fr, hn, hg⟩ := op_sliceB K.toBK hB ht hc hsz hD h
 refine ⟨v, xs, e1, fr, ⟨hn, ?_⟩, hg⟩
 obtain ⟨a, c, rfl, _⟩ := fr.out
 rcases DataW.trod_slice ht h with ⟨e2, _⟩ | ⟨a', len, cap, elems, rest, n, _, e2, hx, _, _, _, hlen, _⟩
 ·rw [e1] at e2
  injection e2 with e2 _
  injection e2 with _ e2 _
  rw [List.length_map] at e2; omega
 ·rw [e1] at e2
  injection e2 with e2 _
  injection e2 with _ e2 _
  rw [List.length_map] at e2
  rw [hx] at hB
  have := K.len (elems.map (·.1)) (rest.map (·.1))
  rw [List.length_map] at this
  simp only at hB
  omega
end
section
variable {H : Type} {enc : TypeId × Value → H}
end
end Go.Vc

/- What a claim says of a call's arguments, with the reach of the claim's form: no string and no slice is larger than it. Conditions: none. -/
namespace Go.Vc
open Go Go.Lx
variable {H : Type} {enc : TypeId × Value → H} {P : Program} {w : World} {base : Nat} {spare : Nat → Bool} {held : Bool}
end Go.Vc

/- Opening arguments whose elements hold slices. Conditions: none. -/
namespace Go.Lx
open Go Go.Vc Go.Md Go.ChangeShapes Go.WideShapes Go.ChangeAt
theorem Wu {cs l : List Value} {o s q : Nat} (h : (cs.drop o).take s = l) (hq : q < l.length) : cs.getD (o + q) undef = l.getD q undef := by
 subst h
 have hs : q < s := by rw [List.length_take] at hq; omega
 simp only [List.getD_eq_getElem?_getD, List.getElem?_take, List.getElem?_drop, if_pos hs]
section
variable {P : Program} {H : Type} {enc : TypeId × Value → H} {w : World} {base : Nat} {spare : Nat → Bool} {held : Bool}
end
end Go.Lx

/- Opening arguments whose bulk is bounded: sums over the parts, for types that hold themselves. Conditions: none. -/
namespace Go.Lx
open Go Go.Vc Go.Md Go.ChangeShapes Go.WideShapes Go.ChangeAt
theorem mem_le_sum {a : Nat} : ∀ {l : List Nat}, a ∈ l → a ≤ l.sum
 | [], h => by cases h
 | x :: l, h => by
  rw [List.sum_cons]
  rcases List.mem_cons.1 h with h | h
  ·omega
  ·have := mem_le_sum h; omega
theorem sum_le_sum {α β : Type} {f : α → Nat} {g : β → Nat} : ∀ {xs : List α} {ys : List β}, xs.length = ys.length → (∀ (i : Nat) x y, xs[i]? = some x → ys[i]? = some y → f x ≤ g y) → (xs.map f).sum ≤ (ys.map g).sum
 | [], [], _, _ => Nat.le_refl _
 | [], _ :: _, h, _ => by simp at h
 | _ :: _, [], h, _ => by simp at h
 | x :: xs, y :: ys, h, k => by
  rw [List.map_cons, List.map_cons, List.sum_cons, List.sum_cons]
  have h1 := k 0 x y rfl rfl
  have h2 := sum_le_sum (f := f) (g := g) (xs := xs) (ys := ys) (by simpa using h) (fun i a b ha hb => k (i + 1) a b (by simpa using ha) (by simpa using hb))
  omega
theorem len_le_sum {α : Type} {f : α → Nat} (h : ∀ x, 1 ≤ f x) : ∀ xs : List α, xs.length ≤ (xs.map f).sum
 | [] => Nat.zero_le _
 | x :: xs => by rw [List.map_cons, List.sum_cons, List.length_cons]; have := h x; have := len_le_sum h xs; omega
section
variable {H : Type} {enc : TypeId × Value → H} {P : Program} {w : World} {base : Nat} {spare : Nat → Bool} {held : Bool}
structure BKS (bk : DataW H → Nat) : Prop where
 slice : ∀ es rs : List (DataW H), (es.map bk).sum ≤ bk (.slice es rs)
 agg : ∀ es : List (DataW H), (es.map bk).sum ≤ bk (.agg es)
 str : ∀ bs : List UInt8, bs.length ≤ bk (.lit (.string bs))
 one : ∀ d : DataW H, 1 ≤ bk d
theorem BKS.toBK {bk : DataW H → Nat} (K : BKS bk) : BK bk :=
 ⟨fun es rs d h => Nat.le_trans (mem_le_sum (List.mem_map.2 ⟨d, h, rfl⟩)) (K.slice es rs), fun es d h => Nat.le_trans (mem_le_sum (List.mem_map.2 ⟨d, h, rfl⟩)) (K.agg es), K.str⟩
theorem BKS.toBKL {bk : DataW H → Nat} (K : BKS bk) : BKL bk := { toBK := K.toBK, len := fun es rs => Nat.le_trans (len_le_sum K.one es) (K.slice es rs) }
theorem op_structS {bk : DataW H → Nat} (K : BKS bk) {t fuel : Nat} {fs : Array Field} {cs : List Value} {x : DataW H × List MemPlace} (ht : P.underlying t = some (.struct fs)) (h : DataW.trod enc P w base spare held fuel t cs = some x) :
  ∃ (n : Nat) (xs : List (DataW H × List MemPlace)), n < fuel ∧ xs.length = fs.size ∧ (xs.map fun y => bk y.1).sum ≤ bk x.1 ∧ ∀ (i : Nat) (f : Field) (sz : Nat), fs[i]? = some f → P.cellsOf f.type = sz → DataW.trod enc P w base spare held n f.type ((cs.drop f.offset).take sz) = xs[i]? := by
 obtain ⟨xs, n, hn, hx, _, hl, hp⟩ := DataW.trod_struct ht h
 refine ⟨n, xs, by omega, hl, ?_, fun i f sz hf hc => by subst hc; exact hp i f hf⟩
 rw [hx]
 have := K.agg (xs.map (·.1))
 rw [List.map_map] at this
 exact this
theorem op_sliceS {bk : DataW H → Nat} (K : BKS bk) {α δ : Type} {G : Jy → (Nat → Value) → α → Prop} {m : δ → α → Nat} {t e sz fuel : Nat} {cs : List Value} {x : DataW H × List MemPlace} (ht : P.underlying t = some (.slice e)) (hc : P.cellsOf e = sz) (hsz : Nat.blt 0 sz = true)
  (hD : ∀ n cs x, n < fuel → cs.length = sz → DataW.trod enc P w base spare held n e cs = some x → ∃ a : α, G (fun b => w.heap[b]?) (fun j => cs.getD j undef) a ∧ ∀ d, m d a ≤ bk x.1) (h : DataW.trod enc P w base spare held fuel t cs = some x) :
  ∃ (v : Value) (xs : List α), cs = [v] ∧ FrN (fun b => w.heap[b]?) sz v G xs ∧ xs.length ≤ bk x.1 ∧ ∀ d, (xs.map (m d)).sum ≤ bk x.1 := by
 rcases DataW.trod_slice ht h with ⟨rfl, _⟩ | ⟨a, len, cap, elems, rest, n, hn, rfl, hx, _, hl, hm, hlen, hel, _⟩
 ·exact ⟨_, [], rfl, FrN.nil _ _ _, by simp, by simp⟩
 ·have each : ∀ i : Fin len, ∃ p : List Value × α, w.cells? base (a.add (i * sz)) sz = some p.1 ∧ p.1.length = sz ∧ G (fun b => w.heap[b]?) (fun j => p.1.getD j undef) p.2 ∧ ∀ d y, elems[(i : Nat)]? = some y → m d p.2 ≤ bk y.1 := by
   intro i
   have hi := hel i i.2
   rw [hc] at hi
   have hlt : (i : Nat) < elems.length := by rw [hlen]; exact i.2
   rw [List.getElem?_eq_getElem hlt, Option.bind_eq_some_iff] at hi
   obtain ⟨cs', h1, h2⟩ := hi
   obtain ⟨a', hg, hmm⟩ := hD _ _ _ (by omega) (Va h1).1 h2
   refine ⟨(cs', a'), h1, (Va h1).1, hg, fun d y hy => ?_⟩
   rw [List.getElem?_eq_getElem hlt] at hy
   cases hy
   exact hmm d
  have hsz' : 0 < sz := by simpa using hsz
  have hch : ∃ g : Fin len → List Value × α, ∀ i : Fin len, w.cells? base (a.add (i * sz)) sz = some (g i).1 ∧ (g i).1.length = sz ∧ G (fun b => w.heap[b]?) (fun j => (g i).1.getD j undef) (g i).2 ∧ ∀ d y, elems[(i : Nat)]? = some y → m d (g i).2 ≤ bk y.1 := ⟨fun i => (each i).choose, fun i => (each i).choose_spec⟩
  obtain ⟨g, hg⟩ := hch
  have hrow : Row w (some a) sz ((List.ofFn g).map fun p => p.1) := by
   cases len with
   | zero => left; simp
   | succ k =>
    have h0 := hg 0
    have hsp : a.spot = none := by
     have := (Va h0.1).2 0 hsz'
     have hln := (Va h0.1).1
     rw [List.getElem?_eq_getElem (by omega)] at this
     have hs := cell_spot this
     simpa [Addr.add] using hs
    obtain ⟨b, off, spot⟩ := a
    simp only at hsp
    subst hsp
    refine .inr ⟨b, off, rfl, fun i x hx => ?_⟩
    have hi : i < k + 1 := by
     rcases Nat.lt_or_ge i (k + 1) with h | h
     ·exact h
     ·rw [List.getElem?_eq_none (by simpa using h)] at hx; cases hx
    have hx' : x = (g ⟨i, hi⟩).1 := by
     rw [List.getElem?_map, List.getElem?_ofFn, dif_pos hi] at hx
     exact (Option.some.inj hx).symm
    subst hx'
    obtain ⟨c1, c2⟩ := Va (hg ⟨i, hi⟩).1
    refine ⟨c1, fun j v hv => ?_⟩
    have hj : j < sz := by
     rcases Nat.lt_or_ge j sz with h | h
     ·exact h
     ·rw [List.getElem?_eq_none (by omega)] at hv; cases hv
    have := c2 j hj
    rw [hv, Addr.add_lit, Addr.add_lit] at this
    exact this
  have hm' : cap ≤ 9223372036854775807 := by simpa [maxLen] using hm
  have hfr : FrS (fun b => w.heap[b]?) sz (.slice (some a) len cap) ((List.ofFn g).map fun p => p.1) := ⟨⟨some a, cap, by simp, by simpa using hl, hm', Row.snap hrow hsz'⟩⟩
  refine ⟨_, (List.ofFn g).map Prod.snd, rfl, ?_, ?_, fun d => ?_⟩
  ·refine frn_of (css := (List.ofFn g).map Prod.fst) ?_ ⟨by simp, fun i c y hc hy => ?_⟩
   ·have : ((List.ofFn g).map Prod.fst).map V3 = (List.ofFn g).map fun p => p.1 := by rw [List.map_map]; rfl
    rw [this]; exact hfr
   ·simp only [List.getElem?_map, Option.map_eq_some_iff] at hc hy
    obtain ⟨p, hp, rfl⟩ := hc
    obtain ⟨q, hq, rfl⟩ := hy
    rw [hp] at hq
    cases hq
    have hpm := List.mem_of_getElem? hp
    rw [List.mem_ofFn] at hpm
    obtain ⟨j, rfl⟩ := hpm
    exact ⟨(hg j).2.1, (hg j).2.2.1⟩
  ·have h1 := len_le_sum K.one (elems.map (·.1))
   have h2 := K.slice (elems.map (·.1)) (rest.map (·.1))
   rw [hx]
   simp only [List.length_map, List.length_ofFn] at h1 ⊢
   omega
  ·have h2 := K.slice (elems.map (·.1)) (rest.map (·.1))
   rw [hx]
   refine Nat.le_trans (sum_le_sum (by simp [hlen]) fun i a y ha hy => ?_) h2
   rw [List.getElem?_map, Option.map_eq_some_iff] at ha hy
   obtain ⟨p, hp, rfl⟩ := ha
   obtain ⟨y, hy, rfl⟩ := hy
   have hi : i < len := by
    rcases Nat.lt_or_ge i len with h | h
    ·exact h
    ·rw [List.getElem?_eq_none (by simpa using h)] at hp; cases hp
   rw [List.getElem?_ofFn, dif_pos hi] at hp
   cases hp
   exact (hg ⟨i, hi⟩).2.2.2 d y hy
end
end Go.Lx
