/- Searches and deletions in lists. Conditions: few elements. -/
import Derived.Test.YtajcmignhnbmiaaGreatDoorKSc
import Derived.Test.YtajcmignhnbmiaaGreatDoorLx5
import Derived.Test.YtajcmignhnbmiaaGreatDoorMd
import Derived.ProofKit
import Derived.OpenShut
import Derived.ChangeArms
import Derived.DataReads
import Derived.SizedLaws
namespace Go.M
open Go.Md Go.Pl
set_option linter.unusedVariables false
theorem index_sync_Fact (l : List T_sync_Fact) (f : T_sync_Fact → Option Bool) (g : T_sync_Fact → Bool) (hl : l.length ≤ 9223372036854775000) (hf : ∀ x ∈ l, f x = some (g x)) : Zr l f = some (idx g l) := indexFunc_of hl hf fun _ _ => rfl
theorem contains_sync_Fact (l : List T_sync_Fact) (f : T_sync_Fact → Option Bool) (g : T_sync_Fact → Bool) (hl : l.length ≤ 9223372036854775000) (hf : ∀ x ∈ l, f x = some (g x)) : Y4 l f = some (l.any g) := by
 unfold Y4
 rw [index_sync_Fact l f g hl hf, Jh, idx_nn]
theorem delete_sync_Fact (a : List T_sync_Fact) (f : T_sync_Fact → Option Bool) (g : T_sync_Fact → Bool) (hl : a.length ≤ 17592186044010) (hf : ∀ x ∈ a, f x = some (g x)) : Zi a f = some (a.filter fun x => !g x) := by
 unfold Zi
 rw [index_sync_Fact a f g (by omega) hf, Jh]
 unfold idx
 cases hi : a.findIdx? g with
 | none =>
  rw [List.findIdx?_eq_none_iff] at hi
  show Qt (decide ((-1 : Int) = -1)) (some a) _ = _
  rw [Yu rfl, Ju, List.filter_eq_self.2 fun x hx => by simp [hi x hx]]
 | some k0 =>
  obtain ⟨hk0, hg0, hlt⟩ := List.findIdx?_eq_some_iff_getElem.1 hi
  simp only
  rw [Yi (by omega), Jn, Y9 (by omega), Jh]
  have h0 : (a.take k0).filter (fun x => !g x) = a.take k0 := List.filter_eq_self.2 fun x hx => by
   obtain ⟨j, hj, hj2, rfl⟩ : ∃ (j : Nat) (hj : j < a.length), j < k0 ∧ a[j] = x := by
    obtain ⟨j, hj, rfl⟩ := List.getElem_of_mem hx
    simp only [List.length_take] at hj
    exact ⟨j, by omega, by omega, by rw [List.getElem_take]⟩
   have := hlt j hj2
   simpa using this
  have key := fix_run (F := fun next2 s => Qs f next2 s.1 s.2.1 s.2.2)
   (fun s : Int × Int × List T_sync_Fact => ∃ (j : Nat) (M : List T_sync_Fact), s.1 = (((a.take j).filter fun x => !g x).length : Int) ∧ s.2.1 = (j : Int) ∧ j ≤ a.length ∧ s.2.2 = (a.take j).filter (fun x => !g x) ++ (M ++ a.drop j) ∧ ((a.take j).filter fun x => !g x).length + M.length = j ∧ 0 < M.length)
   (fun s => a.length - s.2.1.toNat) (fun r => r = a.filter fun x => !g x)
   (by
    rintro ⟨_, _, _⟩ ⟨j, M, rfl, rfl, hj, rfl, hFM, hM⟩
    generalize hF : (a.take j).filter (fun x => !g x) = Fl at *
    simp only [Qs, Xp]
    have hlen : (Fl ++ (M ++ a.drop j)).length = a.length := by simp; omega
    rcases Nat.lt_or_ge j a.length with h | h
    ·have hd : a.drop j = a[j] :: a.drop (j + 1) := List.drop_eq_getElem_cons h
     have ht : (a.take (j + 1)).filter (fun x => !g x) = Fl ++ [a[j]].filter fun x => !g x := by rw [List.take_succ_eq_append_getElem h, List.filter_append, hF]
     have e1 : Q1 (Fl ++ (M ++ a.drop j)) (j : Int) = some a[j] := by
      rw [hd, ← List.append_assoc]
      unfold Q1
      rw [if_pos (by omega), Int.toNat_natCast, List.getElem?_append_right (by rw [List.length_append]; omega), List.length_append, hFM, Nat.sub_self]; rfl
     have hfx := hf _ (List.getElem_mem h)
     cases hgx : g a[j] with
     | true =>
      refine .inr ⟨((Fl.length : Int), (j : Int) + 1, Fl ++ ((M ++ [a[j]]) ++ a.drop (j + 1))), ⟨j + 1, M ++ [a[j]], ?_, by simp, h, ?_, ?_, by simp⟩, by simp only; omega, fun next => ?_⟩
      ·rw [ht]; simp [hgx]
      ·rw [ht]; simp [hgx]
      ·rw [ht]; simp [hgx]; omega
      ·rw [Yu (by rw [hlen]; omega), Ju, e1, Jh, hfx, Jh, hgx, Bool.not_true, Jn, Y9 (by omega), Jh, hd]
       simp
     | false =>
      match M, hM with
      | m0 :: M, _ =>
       refine .inr ⟨((Fl.length : Int) + 1, (j : Int) + 1, (Fl ++ [a[j]]) ++ ((M ++ [a[j]]) ++ a.drop (j + 1))), ⟨j + 1, M ++ [a[j]], ?_, by simp, h, ?_, ?_, by simp⟩, by simp only; omega, fun next => ?_⟩
       ·rw [ht]; simp [hgx]
       ·rw [ht]; simp [hgx]
       ·rw [ht]; simp [hgx]; simp at hFM; omega
       ·have e2 : ∃ z, Q1 (Fl ++ (m0 :: M ++ a.drop j)) (Fl.length : Int) = some z := ⟨m0, by unfold Q1; rw [if_pos (by omega), Int.toNat_natCast, List.getElem?_append_right (Nat.le_refl _), Nat.sub_self]; rfl⟩
        have e3 : gSet (Fl ++ (m0 :: M ++ a.drop j)) (Fl.length : Int) a[j] = some ((Fl ++ [a[j]]) ++ ((M ++ [a[j]]) ++ a.drop (j + 1))) := by
         rw [gSet_ok (by omega) (by rw [Int.toNat_natCast]; simp), Int.toNat_natCast, List.set_append_right _ _ (Nat.le_refl _), Nat.sub_self, hd]
         simp
        obtain ⟨z, e2⟩ := e2
        rw [Yu (by rw [hlen]; omega), Ju, e1, Jh, hfx, Jh, hgx, Bool.not_false, Ju, e2, Jh, e3, Jh, Y9 (by omega), Jh, Y9 (by omega), Jh]
    ·have hj' : j = a.length := by omega
     subst hj'
     rw [List.take_length] at hF
     rw [List.drop_length, List.append_nil] at hlen ⊢
     refine .inl ⟨_, hF.symm, fun next => ?_⟩
     rw [Yi (by rw [hlen]; omega), Jn]
     simp only [Yt]
     rw [gCut_ok (by rw [hlen]; omega), Jh]
     have hc : (clrL (Fl ++ M) (Fl.length : Int) ((Fl ++ M).length : Nat) (⟨(⟨0, 0⟩ : T_sync_Dot), 0, 0, 0, [], 0, []⟩ : T_sync_Fact)).length = (Fl ++ M).length := clrL_len (gCut_ok (by rw [List.length_append]; omega))
     rw [gCut_to (by rw [hc, List.length_append]; omega), Jh]
     unfold clrL
     simp)
   ((k0 : Int), (k0 : Int) + 1, a) ⟨k0 + 1, [a[k0]], ?_, by simp, hk0, ?_, ?_, by simp⟩
  ·obtain ⟨r, h1, rfl⟩ := key
   exact h1
  ·rw [List.take_succ_eq_append_getElem hk0, List.filter_append, h0]; simp [hg0]; omega
  ·rw [List.take_succ_eq_append_getElem hk0, List.filter_append, h0]
   simp [hg0]
  ·rw [List.take_succ_eq_append_getElem hk0, List.filter_append, h0]; simp [hg0]; omega
theorem index_sync_spot (l : List T_sync_spot) (f : T_sync_spot → Option Bool) (g : T_sync_spot → Bool) (hl : l.length ≤ 9223372036854775000) (hf : ∀ x ∈ l, f x = some (g x)) : Zn l f = some (idx g l) := indexFunc_of hl hf fun _ _ => rfl
theorem contains_sync_spot (l : List T_sync_spot) (f : T_sync_spot → Option Bool) (g : T_sync_spot → Bool) (hl : l.length ≤ 9223372036854775000) (hf : ∀ x ∈ l, f x = some (g x)) : Y3 l f = some (l.any g) := by
 unfold Y3
 rw [index_sync_spot l f g hl hf, Jh, idx_nn]
theorem delete_sync_spot (a : List T_sync_spot) (f : T_sync_spot → Option Bool) (g : T_sync_spot → Bool) (hl : a.length ≤ 17592186044010) (hf : ∀ x ∈ a, f x = some (g x)) : Zk a f = some (a.filter fun x => !g x) := by
 unfold Zk
 rw [index_sync_spot a f g (by omega) hf, Jh]
 unfold idx
 cases hi : a.findIdx? g with
 | none =>
  rw [List.findIdx?_eq_none_iff] at hi
  show Qt (decide ((-1 : Int) = -1)) (some a) _ = _
  rw [Yu rfl, Ju, List.filter_eq_self.2 fun x hx => by simp [hi x hx]]
 | some k0 =>
  obtain ⟨hk0, hg0, hlt⟩ := List.findIdx?_eq_some_iff_getElem.1 hi
  simp only
  rw [Yi (by omega), Jn, Y9 (by omega), Jh]
  have h0 : (a.take k0).filter (fun x => !g x) = a.take k0 := List.filter_eq_self.2 fun x hx => by
   obtain ⟨j, hj, hj2, rfl⟩ : ∃ (j : Nat) (hj : j < a.length), j < k0 ∧ a[j] = x := by
    obtain ⟨j, hj, rfl⟩ := List.getElem_of_mem hx
    simp only [List.length_take] at hj
    exact ⟨j, by omega, by omega, by rw [List.getElem_take]⟩
   have := hlt j hj2
   simpa using this
  have key := fix_run (F := fun next2 s => Qr f next2 s.1 s.2.1 s.2.2)
   (fun s : Int × Int × List T_sync_spot => ∃ (j : Nat) (M : List T_sync_spot), s.1 = (((a.take j).filter fun x => !g x).length : Int) ∧ s.2.1 = (j : Int) ∧ j ≤ a.length ∧ s.2.2 = (a.take j).filter (fun x => !g x) ++ (M ++ a.drop j) ∧ ((a.take j).filter fun x => !g x).length + M.length = j ∧ 0 < M.length)
   (fun s => a.length - s.2.1.toNat) (fun r => r = a.filter fun x => !g x)
   (by
    rintro ⟨_, _, _⟩ ⟨j, M, rfl, rfl, hj, rfl, hFM, hM⟩
    generalize hF : (a.take j).filter (fun x => !g x) = Fl at *
    simp only [Qr, Xq]
    have hlen : (Fl ++ (M ++ a.drop j)).length = a.length := by simp; omega
    rcases Nat.lt_or_ge j a.length with h | h
    ·have hd : a.drop j = a[j] :: a.drop (j + 1) := List.drop_eq_getElem_cons h
     have ht : (a.take (j + 1)).filter (fun x => !g x) = Fl ++ [a[j]].filter fun x => !g x := by rw [List.take_succ_eq_append_getElem h, List.filter_append, hF]
     have e1 : Q1 (Fl ++ (M ++ a.drop j)) (j : Int) = some a[j] := by
      rw [hd, ← List.append_assoc]
      unfold Q1
      rw [if_pos (by omega), Int.toNat_natCast, List.getElem?_append_right (by rw [List.length_append]; omega), List.length_append, hFM, Nat.sub_self]; rfl
     have hfx := hf _ (List.getElem_mem h)
     cases hgx : g a[j] with
     | true =>
      refine .inr ⟨((Fl.length : Int), (j : Int) + 1, Fl ++ ((M ++ [a[j]]) ++ a.drop (j + 1))), ⟨j + 1, M ++ [a[j]], ?_, by simp, h, ?_, ?_, by simp⟩, by simp only; omega, fun next => ?_⟩
      ·rw [ht]; simp [hgx]
      ·rw [ht]; simp [hgx]
      ·rw [ht]; simp [hgx]; omega
      ·rw [Yu (by rw [hlen]; omega), Ju, e1, Jh, hfx, Jh, hgx, Bool.not_true, Jn, Y9 (by omega), Jh, hd]
       simp
     | false =>
      match M, hM with
      | m0 :: M, _ =>
       refine .inr ⟨((Fl.length : Int) + 1, (j : Int) + 1, (Fl ++ [a[j]]) ++ ((M ++ [a[j]]) ++ a.drop (j + 1))), ⟨j + 1, M ++ [a[j]], ?_, by simp, h, ?_, ?_, by simp⟩, by simp only; omega, fun next => ?_⟩
       ·rw [ht]; simp [hgx]
       ·rw [ht]; simp [hgx]
       ·rw [ht]; simp [hgx]; simp at hFM; omega
       ·have e2 : ∃ z, Q1 (Fl ++ (m0 :: M ++ a.drop j)) (Fl.length : Int) = some z := ⟨m0, by unfold Q1; rw [if_pos (by omega), Int.toNat_natCast, List.getElem?_append_right (Nat.le_refl _), Nat.sub_self]; rfl⟩
        have e3 : gSet (Fl ++ (m0 :: M ++ a.drop j)) (Fl.length : Int) a[j] = some ((Fl ++ [a[j]]) ++ ((M ++ [a[j]]) ++ a.drop (j + 1))) := by
         rw [gSet_ok (by omega) (by rw [Int.toNat_natCast]; simp), Int.toNat_natCast, List.set_append_right _ _ (Nat.le_refl _), Nat.sub_self, hd]
         simp
        obtain ⟨z, e2⟩ := e2
        rw [Yu (by rw [hlen]; omega), Ju, e1, Jh, hfx, Jh, hgx, Bool.not_false, Ju, e2, Jh, e3, Jh, Y9 (by omega), Jh, Y9 (by omega), Jh]
    ·have hj' : j = a.length := by omega
     subst hj'
     rw [List.take_length] at hF
     rw [List.drop_length, List.append_nil] at hlen ⊢
     refine .inl ⟨_, hF.symm, fun next => ?_⟩
     rw [Yi (by rw [hlen]; omega), Jn]
     simp only [Yw]
     rw [gCut_ok (by rw [hlen]; omega), Jh]
     have hc : (clrL (Fl ++ M) (Fl.length : Int) ((Fl ++ M).length : Nat) (⟨0, 0⟩ : T_sync_spot)).length = (Fl ++ M).length := clrL_len (gCut_ok (by rw [List.length_append]; omega))
     rw [gCut_to (by rw [hc, List.length_append]; omega), Jh]
     unfold clrL
     simp)
   ((k0 : Int), (k0 : Int) + 1, a) ⟨k0 + 1, [a[k0]], ?_, by simp, hk0, ?_, ?_, by simp⟩
  ·obtain ⟨r, h1, rfl⟩ := key
   exact h1
  ·rw [List.take_succ_eq_append_getElem hk0, List.filter_append, h0]; simp [hg0]; omega
  ·rw [List.take_succ_eq_append_getElem hk0, List.filter_append, h0]
   simp [hg0]
  ·rw [List.take_succ_eq_append_getElem hk0, List.filter_append, h0]; simp [hg0]; omega
end Go.M

/- SyncStays in plain Lean: the order of facts, and the loops over facts. Conditions: few elements. -/
namespace Go.M
open Go.Md Go.Pl
set_option linter.unusedVariables false
theorem ltB_no {a b : List UInt8} (h : ltB a b = true) : ltB b a = false := by
 have := Go.Lx.ltB_gt a b
 rw [h] at this
 simpa using this.symm
theorem ltB_tri {a b : List UInt8} (h : ltB a b = false) (h2 : ltB b a = false) : a = b := by
 have := Go.Lx.ltB_gt a b
 rw [h, h2] at this
 simpa using this
theorem ltB_trans : ∀ {a b c : List UInt8}, ltB a b = true → ltB b c = true → ltB a c = true
 | [], [], _, h, _ => by cases h
 | _ :: _, [], _, h, _ => by cases h
 | _, _ :: _, [], _, h => by cases h
 | [], _ :: _, _ :: _, _, _ => rfl
 | a :: s1, b :: s2, c :: s3, h1, h2 => by
  rw [ltB] at h1 h2 ⊢
  simp only [Bool.or_eq_true, decide_eq_true_eq, Bool.and_eq_true, beq_iff_eq] at h1 h2 ⊢
  rcases h1 with h1 | ⟨rfl, h1⟩
  ·rcases h2 with h2 | ⟨rfl, h2⟩
   ·exact .inl (UInt8.lt_trans h1 h2)
   ·exact .inl h1
  ·rcases h2 with h2 | ⟨rfl, h2⟩
   ·exact .inl h2
   ·exact .inr ⟨rfl, ltB_trans h1 h2⟩
structure Cmp {α : Type} (c : α → α → Int) : Prop where
 flip : ∀ x y, c x y < 0 ↔ 0 < c y x
 trans : ∀ x y z, c x y ≤ 0 → c y z ≤ 0 → c x z ≤ 0
theorem Cmp.lex {α : Type} {a b : α → α → Int} (ha : Cmp a) (hb : Cmp b) : Cmp fun x y => if a x y ≠ 0 then a x y else b x y := by
 refine ⟨fun x y => ?_, fun x y z => ?_⟩
 ·have h1 := ha.flip x y
  have h2 := ha.flip y x
  have h3 := hb.flip x y
  simp only [ne_eq, ite_not]
  split <;> split <;> omega
 ·have h1 := ha.flip x y
  have h2 := ha.flip y x
  have h3 := ha.flip y z
  have h4 := ha.flip z y
  have h5 := ha.flip x z
  have h6 := ha.flip z x
  have t1 := ha.trans x y z
  have t2 := ha.trans z x y
  have t3 := ha.trans y z x
  have t4 := hb.trans x y z
  simp only [ne_eq, ite_not]
  split <;> split <;> split <;> omega
theorem Cmp.int {α : Type} (k : α → Int) : Cmp fun x y => Lib.compareInt (k x) (k y) := by
 refine ⟨fun x y => ?_, fun x y z => ?_⟩
 ·simp only [Lib.compareInt]; split <;> split <;> (try split) <;> (try split) <;> omega
 ·simp only [Lib.compareInt]; split <;> split <;> (try split) <;> (try split) <;> (try split) <;> omega
theorem cS_zero {a b : List UInt8} (h : Go.Proofs.cS a b = 0) : a = b := by
 unfold Go.Proofs.cS at h
 split at h
 ·omega
 ·split at h
  ·omega
  ·exact ltB_tri (by simp_all) (by simp_all)
theorem cS_le {a b : List UInt8} : Go.Proofs.cS a b ≤ 0 ↔ ltB b a = false := by
 unfold Go.Proofs.cS
 cases h1 : ltB a b
 ·cases h2 : ltB b a <;> simp
 ·simp [ltB_no h1]
theorem cS_lt {a b : List UInt8} : Go.Proofs.cS a b < 0 ↔ ltB a b = true := by
 unfold Go.Proofs.cS
 cases h1 : ltB a b
 ·cases h2 : ltB b a <;> simp
 ·simp
theorem cS_gt {a b : List UInt8} : 0 < Go.Proofs.cS a b ↔ ltB b a = true := by
 have := @cS_le a b
 cases h : ltB b a
 ·have := this.2 h; simp; omega
 ·simp [h] at this; simp; omega
theorem Cmp.str {α : Type} (k : α → List UInt8) : Cmp fun x y => Go.Proofs.cS (k x) (k y) := by
 refine ⟨fun x y => cS_lt.trans cS_gt.symm, fun x y z h1 h2 => ?_⟩
 rw [cS_le] at h1 h2 ⊢
 cases h : ltB (k z) (k x) with
 | false => rfl
 | true =>
  exfalso
  cases h3 : ltB (k x) (k y) with
  | true => rw [ltB_trans h h3] at h2; cases h2
  | false => rw [ltB_tri h1 h3] at h2; rw [h2] at h; cases h
theorem Cmp.pre {α : Type} {c : α → α → Int} (h : Cmp c) {f : α → α → Option Int} (hf : ∀ x y, f x y = some (c x y)) : CmpPre f := by
 refine ⟨fun x y => ⟨_, hf x y⟩, fun x y => ?_, fun x y z => ?_⟩
 ·rw [hf, hf]; exact h.flip x y
 ·rw [hf, hf, hf]; exact h.trans x y z
theorem V2 {a b : Int} (h : Lib.compareInt a b = 0) : a = b := by
 unfold Lib.compareInt at h
 split at h
 ·omega
 ·split at h <;> omega
def Wf (f : T_sync_Fact) : T_sync_Fact := ⟨f.Dot, 0, f.Kind, f.Id, f.Name, 0, []⟩
theorem one_eq (f : T_sync_Fact) : sync_one f = some (Wf f) := rfl
theorem facts_pre : CmpPre Xs :=
 Cmp.pre ((Cmp.int fun x : T_sync_Fact => x.Kind).lex ((Cmp.int fun x => x.Id).lex ((Cmp.str fun x => x.Name).lex ((Cmp.int fun x => x.Dot.Device).lex (Cmp.int fun x => x.Dot.N))))) Go.Proofs.Tryz.facts_model
theorem facts_zero {x y : T_sync_Fact} (h : (Xs x y).getD 0 = 0) : Wf x = Wf y := by
 rw [Go.Proofs.Tryz.facts_model] at h
 simp only [Option.getD_some, ne_eq, ite_not] at h
 split at h
 ·rename_i h1
  split at h
  ·rename_i h2
   split at h
   ·rename_i h3
    split at h
    ·rename_i h4
     have e1 := V2 h1
     have e2 := V2 h2
     have e3 := cS_zero h3
     have e4 := V2 h4
     have e5 := V2 h
     obtain ⟨⟨d, n⟩, t, k, i, m, u, v⟩ := x
     obtain ⟨⟨d', n'⟩, t', k', i', m', u', v'⟩ := y
     simp only at e1 e2 e3 e4 e5
     subst e1 e2 e3 e4 e5
     rfl
    ·omega
   ·omega
  ·omega
 ·omega
def Dist (l : List T_sync_Fact) : Prop := ∀ x ∈ l, ∀ y ∈ l, Wf x = Wf y → x = y
noncomputable def sortF (l : List T_sync_Fact) : List T_sync_Fact := l.mergeSort (leC Xs)
theorem sortF_perm (l : List T_sync_Fact) : (sortF l).Perm l := List.mergeSort_perm l _
theorem sortF_mem {l : List T_sync_Fact} {x : T_sync_Fact} : x ∈ sortF l ↔ x ∈ l := (sortF_perm l).mem_iff
theorem sortF_len (l : List T_sync_Fact) : (sortF l).length = l.length := (sortF_perm l).length_eq
theorem sort_eq {l : List T_sync_Fact} (hl : l.length ≤ 17592186044010) (hd : Dist l) : gSortU l Xs = some (sortF l) :=
 gSortU_ok ⟨by omega, facts_pre, fun x hx y hy h => hd x hx y hy (facts_zero h)⟩
theorem Dist.sub {l m : List T_sync_Fact} (h : Dist l) (hm : ∀ x ∈ m, x ∈ l) : Dist m := fun x hx y hy => h x (hm x hx) y (hm y hy)
theorem spots_ok : CmpOk Xa := by
 have h := Cmp.pre ((Cmp.int fun x : T_sync_spot => x.at_).lex (Cmp.int fun x => x.id_)) Go.Proofs.Tryz.spots_model
 refine ⟨h.tot, h.flip, h.trans, fun x y h => ?_⟩
 rw [Go.Proofs.Tryz.spots_model] at h
 simp only [Option.getD_some, ne_eq, ite_not] at h
 split at h
 ·rename_i h1
  have e1 := V2 h1
  have e2 := V2 h
  obtain ⟨a, b⟩ := x
  obtain ⟨c, d⟩ := y
  simp only at e1 e2
  subst e1 e2
  rfl
 ·omega
theorem foldl_filter {α : Type} (g : α → Bool) : ∀ (xs s : List α), xs.foldl (fun s x => if g x = true then s ++ [x] else s) s = s ++ xs.filter g
 | [], s => by simp
 | x :: xs, s => by
  rw [List.foldl_cons, foldl_filter g xs]
  by_cases h : g x = true <;> simp [h]
theorem where_eq (r : T_sync_Replica) (f : T_sync_Fact → Option Bool) (g : T_sync_Fact → Bool) (hl : r.facts_.length ≤ 100000) (hf : ∀ x ∈ r.facts_, f x = some (g x)) : Qb r f = some (r.facts_.filter g) := by
 unfold Qb
 refine (fix_list r.facts_ (fun s x => if g x = true then s ++ [x] else s) some (fun k s => s.length ≤ k) (fun next k s hk hI => ?_) (fun next s _ => ?_) [] (Nat.le_refl _)).trans ?_
 ·simp only [Yc, Zx]
  rw [Yu (by omega), Ju, Zs hk, Jh, hf _ (List.getElem_mem hk), Jh]
  by_cases h : g r.facts_[k] = true
  ·rw [h, Ju, Jac (by simp; omega), Jh, Y9 (by omega), Jh, if_pos rfl]
   exact ⟨rfl, by simp; omega⟩
  ·rw [(by simpa using h : g r.facts_[k] = false), Jn, Y9 (by omega), Jh, if_neg (by simp)]
   exact ⟨rfl, by omega⟩
 ·simp only [Yc]
  rw [Yi (by omega), Jn]
 ·rw [foldl_filter]; rfl
theorem of_eq (r : T_sync_Replica) (k i : Int) (hl : r.facts_.length ≤ 100000) : Ys r k i = some (r.facts_.filter fun f => decide (f.Kind = k) && decide (f.Id = i)) := by
 unfold Ys
 rw [where_eq r _ (fun f => decide (f.Kind = k) && decide (f.Id = i)) hl (fun x _ => by
  unfold Jam
  by_cases h : x.Kind = k <;> simp [h]), Jh]
def Ub (r : T_sync_Replica) (i : Int) : Prop := ∃ f ∈ r.facts_, f.Kind = 1 ∧ f.Id = i
open Classical in
theorem Jau (r : T_sync_Replica) (i : Int) (hl : r.facts_.length ≤ 100000) : X0 r i = some (decide (Ub r i)) := by
 unfold X0
 rw [of_eq r 1 i hl, Jh]
 congr 1
 rw [decide_eq_decide]
 unfold Ub
 rw [show (0 < ((r.facts_.filter fun f => decide (f.Kind = 1) && decide (f.Id = i)).length : Int)) ↔ 0 < (r.facts_.filter fun f => decide (f.Kind = 1) && decide (f.Id = i)).length by omega, List.length_pos_iff_exists_mem]
 simp [List.mem_filter]
end Go.M

/- SyncStays in plain Lean: what an event makes of a replica. Conditions: a replica in order. -/
namespace Go.M
open Go.Md Go.Pl
set_option linter.unusedVariables false
def zeroF : T_sync_Fact := ⟨⟨0, 0⟩, 0, 0, 0, [], 0, []⟩
theorem later_tot (x y : T_sync_Fact) : ∃ v, sync_later x y = some v := by
 unfold sync_later
 rw [Go.Proofs.Tryz.compare_model, Jh, Go.Proofs.Tryz.compare_model, Jh, Go.Proofs.Tryz.compare_model, Jh, Go.Proofs.Tryz.or_model3, Jh]
 exact ⟨_, rfl⟩
theorem latest_ok (l : List T_sync_Fact) (hl : l.length ≤ 100000) : ∃ f, Qu l = some f ∧ (l ≠ [] → f ∈ l) ∧ (l = [] → f = zeroF) := by
 unfold Qu
 by_cases h0 : l.length = 0
 ·rw [Yu (by omega), Ju]
  have := List.length_eq_zero_iff.1 h0
  exact ⟨_, rfl, fun h => absurd this h, fun _ => rfl⟩
 ·rw [Yi (by omega), Jn]
  have key := fix_run (F := fun next2 s => Q2 l sync_later next2 s.1 s.2.1 s.2.2.1 s.2.2.2.1 s.2.2.2.2.1 s.2.2.2.2.2.1 s.2.2.2.2.2.2.1 s.2.2.2.2.2.2.2.1 s.2.2.2.2.2.2.2.2)
   (fun s => ∃ k : Nat, s.1 = (k : Int) ∧ k ≤ l.length ∧ (⟨⟨s.2.1, s.2.2.1⟩, s.2.2.2.1, s.2.2.2.2.1, s.2.2.2.2.2.1, s.2.2.2.2.2.2.1, s.2.2.2.2.2.2.2.1, s.2.2.2.2.2.2.2.2⟩ : T_sync_Fact) ∈ l) (fun s => l.length - s.1.toNat) (fun f => f ∈ l)
   (by
    rintro ⟨_, a1, a2, a3, a4, a5, a6, a7, a8⟩ ⟨k, rfl, hk, hm⟩
    simp only at hm ⊢
    simp only [Q2, Ye, Zl]
    rcases Nat.lt_or_ge k l.length with h | h
    ·obtain ⟨v, hv⟩ := later_tot l[k] ⟨⟨a1, a2⟩, a3, a4, a5, a6, a7, a8⟩
     by_cases h2 : 0 < v
     ·refine .inr ⟨((k : Int) + 1, l[k].Dot.Device, l[k].Dot.N, l[k].Time, l[k].Kind, l[k].Id, l[k].Name, l[k].Num, l[k].Text), ⟨k + 1, rfl, h, List.getElem_mem h⟩, by simp only; omega, fun next => ?_⟩
      rw [Yu (by omega), Ju, Zs h, Jh, hv, Jh, Yu h2, Ju, Jh, Y9 (by omega), Jh]
     ·refine .inr ⟨((k : Int) + 1, a1, a2, a3, a4, a5, a6, a7, a8), ⟨k + 1, rfl, h, hm⟩, by simp only; omega, fun next => ?_⟩
      rw [Yu (by omega), Ju, Zs h, Jh, hv, Jh, Yi h2, Jn, Y9 (by omega), Jh]
    ·refine .inl ⟨_, hm, fun next => ?_⟩
     rw [Yi (by omega), Jn])
   (1, l[0].Dot.Device, l[0].Dot.N, l[0].Time, l[0].Kind, l[0].Id, l[0].Name, l[0].Num, l[0].Text) ⟨1, rfl, by omega, List.getElem_mem (by omega)⟩
  obtain ⟨f, h1, h2⟩ := key
  refine ⟨f, ?_, fun _ => h2, fun h => by rw [h] at h0; simp at h0⟩
  unfold Wg
  have e0 : Q1 l 0 = some l[0] := Zs (xs := l) (k := 0) (by omega)
  rw [Yi (by omega), Jn, e0, Jh, h1, Jh]
theorem again_ok (r : T_sync_Replica) (i : Int) (hl : r.facts_.length ≤ 100000) : ∃ t, Jj r i = some ⟨⟨0, 0⟩, 0, 1, i, [], 0, t⟩ := by
 unfold Jj
 obtain ⟨f, h1, _⟩ := latest_ok (r.facts_.filter fun f => decide (f.Kind = 1) && decide (f.Id = i)) (Nat.le_trans (List.length_filter_le ..) hl)
 rw [of_eq r 1 i hl, Jh, h1, Jh]
 exact ⟨_, rfl⟩
structure Inv (n : Nat) (r : T_sync_Replica) : Prop where
 dev : 0 ≤ r.device_ ∧ r.device_ < 16
 kn : ∀ j, j < 16 → 0 ≤ r.knows_ j ∧ r.knows_ j ≤ n
 len : r.facts_.length ≤ 5000
 dist : Dist r.facts_
 dot : ∀ f ∈ r.facts_, 0 ≤ f.Dot.Device ∧ f.Dot.Device < 16 ∧ f.Dot.N ≤ r.knows_ f.Dot.Device.toNat
 time : ∀ f ∈ r.facts_, 0 ≤ f.Time ∧ f.Time ≤ 1000000
 num : ∀ f ∈ r.facts_, f.Kind = 6 → 0 ≤ f.Num ∧ f.Num ≤ 6311433599
def nextN (r : T_sync_Replica) : Int := r.knows_ r.device_.toNat + 1
structure Made (r : T_sync_Replica) (made : List T_sync_Fact) : Prop where
 dot : ∀ f ∈ made, f.Dot = ⟨r.device_, nextN r⟩
 time : ∀ f ∈ made, 0 ≤ f.Time ∧ f.Time ≤ 1000000
 num : ∀ f ∈ made, f.Kind = 6 → 0 ≤ f.Num ∧ f.Num ≤ 6311433599
 dist : Dist made
theorem Made.nil (r : T_sync_Replica) : Made r [] := ⟨by simp, by simp, by simp, by intro x h; simp at h⟩
noncomputable def Ud (r : T_sync_Replica) (gone : T_sync_Fact → Bool) (made : List T_sync_Fact) : T_sync_Replica :=
 ⟨r.device_, Q7 r.knows_ r.device_.toNat (nextN r), sortF ((r.facts_.filter fun f => !gone f) ++ made)⟩
variable {n : Nat} {r : T_sync_Replica}
theorem one_dot {x y : T_sync_Fact} (h : Wf x = Wf y) : x.Dot = y.Dot ∧ x.Kind = y.Kind ∧ x.Id = y.Id ∧ x.Name = y.Name := by
 unfold Wf at h
 simp only [T_sync_Fact.mk.injEq] at h
 exact ⟨h.1, h.2.2.1, h.2.2.2.1, h.2.2.2.2.1⟩
theorem Inv.distE (hi : Inv n r) {made : List T_sync_Fact} (hm : Made r made) (g : T_sync_Fact → Bool) : Dist ((r.facts_.filter g) ++ made) := by
 have cross : ∀ x ∈ r.facts_, ∀ y ∈ made, Wf x ≠ Wf y := fun x hx y hy h => by
  have h1 := (one_dot h).1
  have h2 := hi.dot x hx
  rw [h1, hm.dot y hy] at h2
  unfold nextN at h2
  simp only at h2
  omega
 intro x hx y hy h
 rw [List.mem_append, List.mem_filter] at hx hy
 rcases hx with hx | hx <;> rcases hy with hy | hy
 ·exact hi.dist x hx.1 y hy.1 h
 ·exact absurd h (cross x hx.1 y hy)
 ·exact absurd h.symm (cross y hy.1 x hx)
 ·exact hm.dist x hx y hy h
theorem event_eq (hi : Inv n r) (hn : n ≤ 9000000000000000000) {f : T_sync_Fact → Option Bool} (g : T_sync_Fact → Bool) {made : List T_sync_Fact} (hm : Made r made) (hl : made.length ≤ 100000) (hf : ∀ x ∈ r.facts_, f x = some (g x)) :
  Xy r f made = some (Ud r g made) := by
 unfold Xy
 have hd := hi.dev
 have hk := hi.kn r.device_.toNat (by omega)
 have hlen := hi.len
 have h1 : (r.facts_.filter fun f => !g f).length ≤ 5000 := Nat.le_trans (List.length_filter_le ..) hlen
 rw [gIx_ok (by omega), Jh, Y9 (by omega), Jh, Jh, delete_sync_Fact r.facts_ f g (by omega) hf, Jh, Jac (by omega), Jh, sort_eq (by rw [List.length_append]; omega) (hi.distE hm fun f => !g f), Jh]
 rfl
theorem setA_at (v : Nat → Int) (i : Nat) (x : Int) : Q7 v i x i = x := by unfold Q7; simp
theorem eventL_mem {g : T_sync_Fact → Bool} {made : List T_sync_Fact} {f : T_sync_Fact} : f ∈ (Ud r g made).facts_ ↔ (f ∈ r.facts_ ∧ g f = false) ∨ f ∈ made := by
 unfold Ud
 rw [sortF_mem, List.mem_append, List.mem_filter]
 simp
theorem Inv.event (hi : Inv n r) {made : List T_sync_Fact} (hm : Made r made) (g : T_sync_Fact → Bool) (hl : (r.facts_.filter fun f => !g f).length + made.length ≤ 5000) : Inv (n + 1) (Ud r g made) := by
 have hd := hi.dev
 refine ⟨hd, fun j hj => ?_, ?_, ?_, fun f hf => ?_, fun f hf => ?_, fun f hf => ?_⟩
 ·show 0 ≤ Q7 _ _ _ j ∧ Q7 _ _ _ j ≤ _
  have := hi.kn j hj
  unfold Q7 nextN
  split
  ·rename_i h; rw [← h]; omega
  ·omega
 ·unfold Ud; rw [sortF_len, List.length_append]; exact hl
 ·exact (hi.distE hm fun f => !g f).sub fun x hx => sortF_mem.1 hx
 ·rcases eventL_mem.1 hf with h | h
  ·have := hi.dot f h.1
   refine ⟨this.1, this.2.1, ?_⟩
   show f.Dot.N ≤ Q7 _ _ _ _
   unfold Q7 nextN
   split
   ·rename_i h2; rw [← h2]; omega
   ·exact this.2.2
  ·rw [hm.dot f h]
   refine ⟨hd.1, hd.2, ?_⟩
   show _ ≤ Q7 _ _ _ _
   rw [setA_at]; exact Int.le_refl _
 ·rcases eventL_mem.1 hf with h | h
  ·exact hi.time f h.1
  ·exact hm.time f h
 ·rcases eventL_mem.1 hf with h | h
  ·exact hi.num f h.1
  ·exact hm.num f h
def Wx (r : T_sync_Replica) (t : Int) (f : T_sync_Fact) : T_sync_Fact := ⟨⟨r.device_, nextN r⟩, t, f.Kind, f.Id, f.Name, f.Num, f.Text⟩
def repl (g f : T_sync_Fact) : Bool := decide (g.Kind = f.Kind) && decide (g.Id = f.Id) && decide (g.Name = f.Name)
theorem repl_eq (g f : T_sync_Fact) : Jaa g f = some (repl g f) := by
 unfold Jaa repl
 by_cases h1 : g.Kind = f.Kind <;> by_cases h2 : g.Id = f.Id <;> simp [h1, h2]
def goneL (l : List T_sync_Fact) (f : T_sync_Fact) : Bool := l.any fun g => repl g f
theorem gone_eq (l : List T_sync_Fact) (hl : l.length ≤ 100000) (f : T_sync_Fact) : Qe l f = some (goneL l f) := by
 unfold Qe goneL
 rw [contains_sync_Fact l (Vx f) (fun g => repl g f) (by omega) (fun g _ => by unfold Vx; rw [repl_eq, Jh]), Jh]
theorem gone_stamp (r : T_sync_Replica) (t : Int) (l : List T_sync_Fact) : goneL (l.map (Wx r t)) = goneL l := by
 funext f
 unfold goneL
 rw [List.any_map]
 rfl
theorem filter_both {α : Type} (g : α → Bool) : ∀ l : List α, l.length = (l.filter g).length + (l.filter fun f => !g f).length
 | [] => rfl
 | x :: l => by
  have := filter_both g l
  cases h : g x <;> simp [h] <;> omega
theorem make_ok (hi : Inv n r) (hn : n ≤ 9000000000000000000) (l : List T_sync_Fact) (hl : l.length ≤ 1000) (hd : ∀ x ∈ l, ∀ y ∈ l, x.Kind = y.Kind → x.Id = y.Id → x.Name = y.Name → x = y) (hnum : ∀ f ∈ l, f.Kind = 6 → 0 ≤ f.Num ∧ f.Num ≤ 6311433599) :
  ∃ e r', Jm r l = some (e, r') ∧ ((e = 4 ∧ r' = r) ∨ (e = 0 ∧ ∃ t, Made r (l.map (Wx r t)) ∧ r' = Ud r (goneL l) (l.map (Wx r t)) ∧ (r.facts_.filter fun f => !goneL l f).length + (l.map (Wx r t)).length ≤ 5000)) := by
 have hdv := hi.dev
 have hk := hi.kn r.device_.toNat (by omega)
 have hlen := hi.len
 unfold Jm
 rw [gIx_ok (by omega), Jh, Y9 (by omega), Jh]
 change ∃ e r', fix (fun next4 s => Xv r l (nextN r) next4 s.1 s.2) (1, 0) = some (e, r') ∧ _
 obtain ⟨t, ⟨ht1, ht2⟩, hloop⟩ := fix_runP (F := fun (_ : Unit) next4 s => Xv r l (nextN r) next4 s.1 s.2) (fun _ t => Z8 r l (nextN r) t)
  (fun s : Int × Int => ∃ k : Nat, s.2 = (k : Int) ∧ k ≤ r.facts_.length ∧ 1 ≤ s.1 ∧ s.1 ≤ 1000001) (fun s => r.facts_.length - s.2.toNat) (fun t => 1 ≤ t ∧ t ≤ 1000001)
  (by
   rintro ⟨x, _⟩ ⟨k, rfl, hk, h1, h2⟩
   simp only at h1 h2 ⊢
   simp only [Xv]
   rcases Nat.lt_or_ge k r.facts_.length with h | h
   ·have ht := hi.time _ (List.getElem_mem h)
    refine .inr ⟨(max x (r.facts_[k].Time + 1), (k : Int) + 1), ⟨k + 1, rfl, h, by simp only; omega, by simp only; omega⟩, by simp only; omega, fun _ next => ?_⟩
    rw [Yu (by omega), Ju, Zs h, Jh, Y9 (by omega), Jh, Y9 (by omega), Jh]
   ·refine .inl ⟨x, ⟨h1, h2⟩, fun _ next => ?_⟩
    rw [Yi (by omega), Jn])
  (1, 0) ⟨0, rfl, Nat.zero_le _, by simp, by simp⟩
 rw [hloop ()]
 unfold Z8
 have hclone : Yy l = some l := by
  unfold Yy
  first
   | (rw [Jac (by simp; omega), Jh, List.nil_append])
   | (rw [Jac (by simp; omega), Jh, Jh, List.nil_append])
 rw [hclone, Jh]
 obtain ⟨l', rfl, hloop2⟩ := fix_runP (F := fun (_ : Unit) next3 s => Yp r (nextN r) t l next3 s.1 s.2) (fun _ l' => Vb r (nextN r) t l')
  (fun s : Int × List T_sync_Fact => ∃ k : Nat, s.1 = (k : Int) ∧ k ≤ l.length ∧ s.2 = (l.take k).map (Wx r t) ++ l.drop k) (fun s => l.length - s.1.toNat) (fun l' => l' = l.map (Wx r t))
  (by
   rintro ⟨_, _⟩ ⟨k, rfl, hk, rfl⟩
   simp only [Yp]
   rcases Nat.lt_or_ge k l.length with h | h
   ·have hlen1 : ((l.take k).map (Wx r t)).length = k := by rw [List.length_map, List.length_take]; omega
    have hlen2 : ((l.take k).map (Wx r t) ++ l.drop k).length = l.length := by rw [List.length_append, hlen1, List.length_drop]; omega
    have e1 : Q1 ((l.take k).map (Wx r t) ++ l.drop k) (k : Int) = some l[k] := by
     unfold Q1
     rw [if_pos (by omega), Int.toNat_natCast, List.getElem?_append_right (by omega), hlen1, Nat.sub_self, List.drop_eq_getElem_cons h]; rfl
    have e2 : ∀ z y : T_sync_Fact, ((l.take k).map (Wx r t) ++ z :: l.drop (k + 1)).set k y = (l.take k).map (Wx r t) ++ y :: l.drop (k + 1) := fun z y => by
     rw [List.set_append_right _ _ (by omega), hlen1, Nat.sub_self]; rfl
    refine .inr ⟨((k : Int) + 1, (l.take (k + 1)).map (Wx r t) ++ l.drop (k + 1)), ⟨k + 1, rfl, h, rfl⟩, by simp only; omega, fun _ next => ?_⟩
    rw [Yu (by omega), Ju, e1, Jh, gSet_ok (by omega) (by rw [hlen2]; omega), Jh, Int.toNat_natCast, List.drop_eq_getElem_cons h, e2]
    have e3 : ∀ y : T_sync_Fact, Q1 ((l.take k).map (Wx r t) ++ y :: l.drop (k + 1)) (k : Int) = some y := fun y => by
     unfold Q1
     rw [if_pos (by omega), Int.toNat_natCast, List.getElem?_append_right (by omega), hlen1, Nat.sub_self]; rfl
    rw [e3, Jh, gSet_ok (by omega) (by rw [List.length_append, hlen1, List.length_cons, List.length_drop, Int.toNat_natCast]; omega), Jh, Int.toNat_natCast, e2, Y9 (by omega), Jh, List.take_succ_eq_append_getElem h, List.map_append, List.append_assoc]
    rfl
   ·have : k = l.length := by omega
    subst this
    refine .inl ⟨l.map (Wx r t), rfl, fun _ next => ?_⟩
    rw [Yi (by omega), Jn, List.take_length, List.drop_length, List.append_nil])
  (0, l) ⟨0, rfl, Nat.zero_le _, by simp⟩
 rw [hloop2 ()]
 unfold Vb
 have hg : ∀ f ∈ r.facts_, Qe (l.map (Wx r t)) f = some (goneL l f) := fun f _ => by rw [gone_eq _ (by rw [List.length_map]; omega), gone_stamp]
 have hsum := filter_both (goneL l) r.facts_
 rw [where_eq r _ (goneL l) (by omega) hg, Jh, Y9 (by omega), Jh, Y9 (by rw [List.length_map]; omega), Jh]
 by_cases c1 : 5000 < ((r.facts_.length : Int) - ((r.facts_.filter (goneL l)).length : Int)) + ((l.map (Wx r t)).length : Int)
 ·rw [Yu c1, Ju]; exact ⟨4, r, rfl, .inl ⟨rfl, rfl⟩⟩
 rw [Yi c1, Jn]
 by_cases c2 : 1000000 < nextN r
 ·rw [Yu c2, Ju]; exact ⟨4, r, rfl, .inl ⟨rfl, rfl⟩⟩
 rw [Yi c2, Jn]
 by_cases c3 : 1000000 < t
 ·rw [Yu c3, Ju]; exact ⟨4, r, rfl, .inl ⟨rfl, rfl⟩⟩
 rw [Yi c3, Jn]
 have hm : Made r (l.map (Wx r t)) := by
  refine ⟨fun f hf => ?_, fun f hf => ?_, fun f hf => ?_, fun x hx y hy h => ?_⟩
  ·obtain ⟨g, _, rfl⟩ := List.mem_map.1 hf; rfl
  ·obtain ⟨g, _, rfl⟩ := List.mem_map.1 hf; exact ⟨by show 0 ≤ t; omega, by show t ≤ _; omega⟩
  ·obtain ⟨g, hg, rfl⟩ := List.mem_map.1 hf; exact hnum g hg
  ·obtain ⟨a, ha, rfl⟩ := List.mem_map.1 hx
   obtain ⟨b, hb, rfl⟩ := List.mem_map.1 hy
   have := one_dot h
   rw [hd a ha b hb this.2.1 this.2.2.1 this.2.2.2]
 rw [event_eq hi hn (goneL l) hm (by rw [List.length_map]; omega) hg, Jh]
 refine ⟨0, _, rfl, .inr ⟨rfl, t, hm, rfl, ?_⟩⟩
 omega
end Go.M

/- SyncStays in plain Lean: what a deed makes of a replica. Conditions: a replica in order. -/
namespace Go.M
open Go.Md Go.Pl
set_option linter.unusedVariables false
variable {n : Nat} {r : T_sync_Replica}
noncomputable instance (r : T_sync_Replica) (i : Int) : Decidable (Ub r i) := Classical.propDecidable _
theorem Inv.up (h : Inv n r) : Inv (n + 1) r := { h with kn := fun j hj => ⟨(h.kn j hj).1, by have := (h.kn j hj).2; omega⟩ }
def Does (n : Nat) (r : T_sync_Replica) (o : Option (Int × T_sync_Replica)) : Prop := ∃ e r', o = some (e, r') ∧ Inv (n + 1) r' ∧ r'.device_ = r.device_
theorem Vt (hi : Inv n r) (e : Int) : Does n r (some (e, r)) := ⟨e, r, rfl, hi.up, rfl⟩
theorem Z7 {o : Option (Int × T_sync_Replica)} (h : Does n r o) : Does n r (J9 o fun t => some (t.1, t.2)) := by
 obtain ⟨e, r', rfl, h1⟩ := h
 exact ⟨e, r', rfl, h1⟩
theorem make_does (hi : Inv n r) (hn : n ≤ 9000000000000000000) (l : List T_sync_Fact) (hl : l.length ≤ 1000) (hd : ∀ x ∈ l, ∀ y ∈ l, x.Kind = y.Kind → x.Id = y.Id → x.Name = y.Name → x = y) (hnum : ∀ f ∈ l, f.Kind = 6 → 0 ≤ f.Num ∧ f.Num ≤ 6311433599) : Does n r (Jm r l) := by
 obtain ⟨e, r', h, h1 | ⟨_, t, hm, hr, hl⟩⟩ := make_ok hi hn l hl hd hnum
 ·exact ⟨e, r', h, by rw [h1.2]; exact hi.up, by rw [h1.2]⟩
 ·exact ⟨e, r', h, by rw [hr]; exact hi.event hm _ hl, by rw [hr]; rfl⟩
theorem gone_does (hi : Inv n r) (hn : n ≤ 9000000000000000000) {f : T_sync_Fact → Option Bool} (g : T_sync_Fact → Bool) (hf : ∀ x ∈ r.facts_, f x = some (g x)) (e : Int) : Does n r (J9 (Xy r f []) fun t => some (e, t)) := by
 rw [event_eq hi hn g (Made.nil r) (by simp) hf, Jh]
 have h1 := hi.len
 have h2 := filter_both g r.facts_
 exact ⟨e, _, rfl, hi.event (Made.nil r) g (by rw [List.length_nil]; omega), rfl⟩
def agn (i : Int) (t : List UInt8) : T_sync_Fact := ⟨⟨0, 0⟩, 0, 1, i, [], 0, t⟩
theorem pair_dist {f g : T_sync_Fact} (h : f.Kind ≠ g.Kind) : ∀ x ∈ [f, g], ∀ y ∈ [f, g], x.Kind = y.Kind → x.Id = y.Id → x.Name = y.Name → x = y := by
 intro x hx y hy hk _ _
 simp only [List.mem_cons, List.not_mem_nil, or_false] at hx hy
 rcases hx with hx | hx <;> rcases hy with hy | hy
 ·rw [hx, hy]
 ·rw [hx, hy] at hk; exact absurd hk h
 ·rw [hx, hy] at hk; exact absurd hk.symm h
 ·rw [hx, hy]
theorem say_ok (hi : Inv n r) (hn : n ≤ 9000000000000000000) (f : T_sync_Fact) (hk : f.Kind ≠ 1) (hk6 : f.Kind ≠ 6) :
  ∃ e r', Zg r f = some (e, r') ∧ ((e ≠ 0 ∧ r' = r) ∨ (e = 0 ∧ Ub r f.Id ∧ ∃ t x, Made r ([f, agn f.Id x].map (Wx r t)) ∧ r' = Ud r (goneL [f, agn f.Id x]) ([f, agn f.Id x].map (Wx r t)) ∧ (r.facts_.filter fun y => !goneL [f, agn f.Id x] y).length + ([f, agn f.Id x].map (Wx r t)).length ≤ 5000)) := by
 have hlen := hi.len
 unfold Zg
 rw [Jau r f.Id (by omega), Jh]
 by_cases hs : Ub r f.Id
 ·rw [Yu hs, Bool.not_true, Jn, checkValue_eq, Jh]
  by_cases hv : valE f = 0
  ·rw [Yi (by simpa using hv), Jn]
   obtain ⟨x, hx⟩ := again_ok r f.Id (by omega)
   obtain ⟨e, r', h, h1⟩ := make_ok hi hn [f, agn f.Id x] (by simp) (pair_dist hk) (fun g hg h6 => by
    simp only [List.mem_cons, List.not_mem_nil, or_false] at hg
    rcases hg with hg | hg
    ·rw [hg] at h6; exact absurd h6 hk6
    ·rw [hg] at h6; exact absurd h6 (by unfold agn; simp))
   rw [hx, Jh, show ([f, (⟨⟨0, 0⟩, 0, 1, f.Id, [], 0, x⟩ : T_sync_Fact)] : List T_sync_Fact) = [f, agn f.Id x] from rfl, h, Jh]
   refine ⟨e, r', rfl, ?_⟩
   rcases h1 with ⟨he, hr⟩ | ⟨he, t, hm, hr, hl⟩
   ·exact .inl ⟨by omega, hr⟩
   ·exact .inr ⟨he, hs, t, x, hm, hr, hl⟩
  ·rw [Yu hv, Ju]; exact ⟨_, r, rfl, .inl ⟨hv, rfl⟩⟩
 ·rw [Yi hs, Bool.not_false, Ju]; exact ⟨7, r, rfl, .inl ⟨by omega, rfl⟩⟩
theorem say_does (hi : Inv n r) (hn : n ≤ 9000000000000000000) (f : T_sync_Fact) (hk : f.Kind ≠ 1) (hk6 : f.Kind ≠ 6) : Does n r (Zg r f) := by
 obtain ⟨e, r', h, h1 | ⟨_, _, t, x, hm, hr, hl⟩⟩ := say_ok hi hn f hk hk6
 ·exact ⟨e, r', h, by rw [h1.2]; exact hi.up, by rw [h1.2]⟩
 ·exact ⟨e, r', h, by rw [hr]; exact hi.event hm _ hl, by rw [hr]; rfl⟩
theorem put_does (hi : Inv n r) (hn : n ≤ 9000000000000000000) (i : Int) (w : List UInt8) : Does n r (Uy r i w) := by
 unfold Uy
 rw [checkValue_eq, Jh]
 by_cases hv : valE (⟨⟨0, 0⟩, 0, 1, i, [], 0, w⟩ : T_sync_Fact) = 0
 ·rw [Yi (by simpa using hv), Jn]
  refine Z7 (make_does hi hn _ (by simp) (fun x hx y hy _ _ _ => ?_) (fun f hf h6 => ?_))
  ·simp only [List.mem_cons, List.not_mem_nil, or_false] at hx hy; rw [hx, hy]
  ·simp only [List.mem_cons, List.not_mem_nil, or_false] at hf; rw [hf] at h6; exact absurd h6 (by simp)
 ·rw [Yu hv, Ju]; exact Vt hi _
theorem untag_does (hi : Inv n r) (hn : n ≤ 9000000000000000000) (i : Int) (w : List UInt8) : Does n r (W2 r i w) := by
 have hlen := hi.len
 have hf : ∀ x ∈ r.facts_, Va i w x = some (decide (x.Kind = 5) && (decide (x.Id = i) && decide (x.Name = w))) := fun x _ => by
  unfold Va
  by_cases h : x.Kind = 5 <;> by_cases h2 : x.Id = i <;> simp [h, h2]
 unfold W2
 rw [Jau r i (by omega), Jh]
 by_cases hs : Ub r i
 ·rw [Yu hs, Bool.not_true, Jn, IsName_eq, Jh]
  cases nameB w
  ·rw [Bool.not_false, Ju]; exact Vt hi _
  ·rw [Bool.not_true, Jn, where_eq r _ _ (by omega) hf, Jh]
   generalize List.filter _ r.facts_ = L
   by_cases h0 : (L.length : Int) = 0
   ·rw [Yu h0, Ju]; exact Vt hi _
   ·rw [Yi h0, Jn]; exact gone_does hi hn _ hf 0
 ·rw [Yi hs, Bool.not_false, Ju]; exact Vt hi _
theorem remove_does (hi : Inv n r) (hn : n ≤ 9000000000000000000) (i : Int) : Does n r (Y1 r i) := by
 have hlen := hi.len
 unfold Y1
 rw [Jau r i (by omega), Jh]
 by_cases hs : Ub r i
 ·rw [Yu hs, Bool.not_true, Jn]; exact gone_does hi hn (fun x => decide (x.Id = i)) (fun x _ => rfl) 0
 ·rw [Yi hs, Bool.not_false, Ju]; exact Vt hi _
def okS (l : List T_sync_spot) : Prop := ∀ s ∈ l, 0 ≤ s.at_ ∧ s.at_ ≤ 6311433599
theorem album_ok (hi : Inv n r) (nm : List UInt8) : ∃ l, Z4 r nm = some l ∧ l.length ≤ 5000 ∧ okS l := by
 have hlen := hi.len
 unfold Z4
 rw [where_eq r _ (fun f => decide (f.Kind = 6) && decide (f.Name = nm)) (by omega) (fun x _ => by unfold Ui; by_cases h : x.Kind = 6 <;> simp [h]), Jh]
 have hL1 : (r.facts_.filter fun f => decide (f.Kind = 6) && decide (f.Name = nm)).length ≤ 5000 := Nat.le_trans (List.length_filter_le ..) hlen
 have hL2 : ∀ f ∈ (r.facts_.filter fun f => decide (f.Kind = 6) && decide (f.Name = nm)), f.Kind = 6 := fun f hf => by
  have := (List.mem_filter.1 hf).2
  simp only [Bool.and_eq_true, decide_eq_true_eq] at this
  exact this.1
 generalize (r.facts_.filter fun f => decide (f.Kind = 6) && decide (f.Name = nm)) = L at hL1 hL2
 obtain ⟨l, h, h1⟩ := fix_run (F := fun next2 s => Yb r L next2 s.1 s.2)
  (fun s : Int × List T_sync_spot => ∃ k : Nat, s.1 = (k : Int) ∧ k ≤ L.length ∧ s.2.length ≤ k ∧ okS s.2) (fun s => L.length - s.1.toNat) (fun l => l.length ≤ 5000 ∧ okS l)
  (by
   rintro ⟨_, l⟩ ⟨k, rfl, hk, hl, hs⟩
   simp only at hl hs ⊢
   simp only [Yb]
   rcases Nat.lt_or_ge k L.length with h | h
   ·have hx := hL2 _ (List.getElem_mem h)
    have skip : ∀ next2, Xl (k : Int) next2 l = next2 ((k : Int) + 1, l) := fun next2 => by unfold Xl; rw [Y9 (by omega), Jh]
    have take : ∃ v : Int, (0 ≤ v ∧ v ≤ 6311433599) ∧ ∀ next2 b c, Y5 r (k : Int) l next2 L[k] b c = next2 ((k : Int) + 1, l ++ [⟨L[k].Id, v⟩]) := by
     obtain ⟨f, hf1, hf2, hf3⟩ := latest_ok (r.facts_.filter fun y => repl L[k] y) (Nat.le_trans (List.length_filter_le ..) (by omega))
     refine ⟨f.Num, ?_, fun next2 b c => ?_⟩
     ·by_cases he : (r.facts_.filter fun y => repl L[k] y) = []
      ·rw [hf3 he]; exact ⟨by decide, by decide⟩
      ·have hm := List.mem_filter.1 (hf2 he)
       refine hi.num f hm.1 ?_
       have := hm.2
       unfold repl at this
       simp only [Bool.and_eq_true, decide_eq_true_eq] at this
       rw [← this.1.1, hx]
     ·unfold Y5 Xl
      rw [where_eq r _ (fun y => repl L[k] y) (by omega) (fun y _ => by unfold Uk; rw [repl_eq, Jh]), Jh, hf1, Jh, Jac (by simp; omega), Jh, Y9 (by omega), Jh]
    obtain ⟨v, hv, take⟩ := take
    have goSkip : ∃ b : Int × List T_sync_spot, (∃ j : Nat, b.1 = (j : Int) ∧ j ≤ L.length ∧ b.2.length ≤ j ∧ okS b.2) ∧ L.length - b.1.toNat < L.length - (k : Int).toNat ∧ b = ((k : Int) + 1, l) := ⟨_, ⟨k + 1, rfl, h, by simp only; omega, hs⟩, by simp only; omega, rfl⟩
    have goTake : ∃ b : Int × List T_sync_spot, (∃ j : Nat, b.1 = (j : Int) ∧ j ≤ L.length ∧ b.2.length ≤ j ∧ okS b.2) ∧ L.length - b.1.toNat < L.length - (k : Int).toNat ∧ b = ((k : Int) + 1, l ++ [⟨L[k].Id, v⟩]) := ⟨_, ⟨k + 1, rfl, h, by simp only [List.length_append, List.length_cons, List.length_nil]; omega, fun s hm => by
     rcases List.mem_append.1 hm with hm | hm
     ·exact hs s hm
     ·simp only [List.mem_cons, List.not_mem_nil, or_false] at hm; rw [hm]; exact hv⟩, by simp only; omega, rfl⟩
    obtain ⟨bs, s1, s2, s3⟩ := goSkip
    obtain ⟨bt, t1, t2, t3⟩ := goTake
    by_cases hsh : Ub r L[k].Id
    ·by_cases hl0 : 0 < (l.length : Int)
     ·have hlast : Q1 l ((l.length : Int) - 1) = some l[l.length - 1] := by
       rw [show ((l.length : Int) - 1) = ((l.length - 1 : Nat) : Int) by omega, Zs (by omega)]
      by_cases hid : l[l.length - 1].id_ = L[k].Id
      ·refine .inr ⟨bs, s1, s2, fun next => ?_⟩
       rw [s3, Yu (by omega), Ju, Zs h, Jh, Jau r _ (by omega), Jh, Yu hsh, Bool.not_true, Jn, Yu hl0, Ju, Y9 (by omega), Jh, hlast, Jh, Yu hid, Ju, skip]
      ·refine .inr ⟨bt, t1, t2, fun next => ?_⟩
       rw [t3, Yu (by omega), Ju, Zs h, Jh, Jau r _ (by omega), Jh, Yu hsh, Bool.not_true, Jn, Yu hl0, Ju, Y9 (by omega), Jh, hlast, Jh, Yi hid, Jn, take]
     ·refine .inr ⟨bt, t1, t2, fun next => ?_⟩
      rw [t3, Yu (by omega), Ju, Zs h, Jh, Jau r _ (by omega), Jh, Yu hsh, Bool.not_true, Jn, Yi hl0, Jn, take]
    ·refine .inr ⟨bs, s1, s2, fun next => ?_⟩
     rw [s3, Yu (by omega), Ju, Zs h, Jh, Jau r _ (by omega), Jh, Yi hsh, Bool.not_false, Ju, skip]
   ·refine .inl ⟨l.mergeSort (leC Xa), ⟨by rw [List.length_mergeSort]; omega, fun s hm => hs s ((List.mergeSort_perm l _).mem_iff.1 hm)⟩, fun next => ?_⟩
    have hsort : gSortF l Xa = some (l.mergeSort (leC Xa)) := if_pos ⟨by omega, spots_ok⟩
    rw [Yi (by omega), Jn]
    unfold Vw
    rw [hsort, Jh])
  (0, []) ⟨0, rfl, Nat.zero_le _, Nat.le_refl _, fun s hm => by cases hm⟩
 exact ⟨l, h, h1⟩
theorem position_ok {l : List T_sync_spot} (hl : l.length ≤ 5000) (hs : okS l) {a : Int} (ha : 0 ≤ a ∧ a ≤ l.length) : ∃ p b, Jaw l a = some (p, b) ∧ (b = true → 0 ≤ p ∧ p ≤ 6311433599) := by
 have j2 : ∀ x y : Int, 0 ≤ y → ∃ p b, Vs x y = some (p, b) ∧ (b = true → 0 ≤ p ∧ p ≤ 6311433599) := fun x y hy => by
  unfold Vs
  by_cases h : y ≠ x
  ·rw [Yu h, Ju]; exact ⟨_, _, rfl, fun e => ⟨hy, of_decide_eq_true e⟩⟩
  ·rw [Yi h, Jn]; exact ⟨_, _, rfl, fun e => by cases e⟩
 have j1 : ∀ x : Int, 0 ≤ x → x ≤ 6311433599 → ∃ p b, Vq l a x = some (p, b) ∧ (b = true → 0 ≤ p ∧ p ≤ 6311433599) := fun x h0 h1 => by
  unfold Vq
  rw [Y9 (by omega), Jh]
  by_cases h : a < (l.length : Int)
  ·obtain ⟨k, rfl⟩ := Int.eq_ofNat_of_zero_le ha.1
   have hk : k < l.length := by omega
   have := hs _ (List.getElem_mem hk)
   rw [Yu h, Ju, Zs hk, Jh, Y9 (by omega), Jh, gQuo_nn (by omega) ⟨by omega, by omega⟩, Jh]
   exact j2 _ _ (by omega)
  ·rw [Yi h, Jn]; exact j2 _ _ (by omega)
 unfold Jaw
 by_cases h : 0 < a
 ·have hk : (a - 1).toNat < l.length := by omega
  have := hs _ (List.getElem_mem hk)
  rw [Yu h, Ju, Y9 (by omega), Jh, gAt_ok (by omega) hk, Jh]
  exact j1 _ this.1 this.2
 ·rw [Yi h, Jn]; exact j1 0 (by omega) (by omega)
theorem add_does (hi : Inv n r) (hn : n ≤ 9000000000000000000) (nm : List UInt8) (i a : Int) : Does n r (Uw r nm i a) := by
 have hlen := hi.len
 unfold Uw
 rw [IsName_eq, Jh]
 cases nameB nm
 ·rw [Bool.not_false, Ju]; exact Vt hi _
 rw [Bool.not_true, Jn, Jau r i (by omega), Jh]
 by_cases hs : Ub r i
 ·obtain ⟨l, h1, h2, h3⟩ := album_ok hi nm
  rw [Yu hs, Bool.not_true, Jn, h1, Jh, delete_sync_spot l (Jag i) (fun s => decide (s.id_ = i)) (by omega) (fun s _ => rfl), Jh, Un, Jh]
  have g2 : (l.filter fun s => !decide (s.id_ = i)).length ≤ 5000 := Nat.le_trans (List.length_filter_le ..) h2
  have g3 : okS (l.filter fun s => !decide (s.id_ = i)) := fun s hm => h3 s (List.mem_filter.1 hm).1
  generalize (l.filter fun s => !decide (s.id_ = i)) = L at g2 g3
  by_cases ho : a < 0 ∨ (L.length : Int) < a
  ·rw [Yu ho, Ju]; exact Vt hi _
  ·obtain ⟨p, b, hp1, hp2⟩ := position_ok g2 g3 (a := a) (by omega)
   rw [Yi ho, Jn, hp1, Jh]
   cases b
   ·exact Vt hi _
   ·obtain ⟨x, hx⟩ := again_ok r i (by omega)
    have hp := hp2 rfl
    show Does n r (J9 (Jj r i) fun t45 => _)
    rw [hx, Jh]
    refine Z7 (make_does hi hn _ (by simp) (pair_dist (by simp)) (fun f hf h6 => ?_))
    simp only [List.mem_cons, List.not_mem_nil, or_false] at hf
    rcases hf with hf | hf
    ·rw [hf]; exact hp
    ·rw [hf] at h6; exact absurd h6 (by simp)
 ·rw [Yi hs, Bool.not_false, Ju]; exact Vt hi _
theorem take_does (hi : Inv n r) (hn : n ≤ 9000000000000000000) (nm : List UInt8) (i : Int) : Does n r (Ue r nm i) := by
 have hf : ∀ x ∈ r.facts_, Wn nm i x = some (decide (x.Kind = 6) && (decide (x.Name = nm) && decide (x.Id = i))) := fun x _ => by
  unfold Wn
  by_cases h : x.Kind = 6 <;> by_cases h2 : x.Name = nm <;> simp [h, h2]
 unfold Ue
 rw [IsName_eq, Jh]
 cases nameB nm
 ·rw [Bool.not_false, Ju]; exact Vt hi _
 obtain ⟨l, h1, h2, h3⟩ := album_ok hi nm
 rw [Bool.not_true, Jn, h1, Jh, contains_sync_spot l (U2 i) (fun s => decide (s.id_ = i)) (by omega) (fun s _ => rfl), Jh]
 cases l.any fun s => decide (s.id_ = i)
 ·rw [Bool.not_false, Ju]; exact Vt hi _
 ·rw [Bool.not_true, Jn]; exact gone_does hi hn _ hf 0
theorem drop_does (hi : Inv n r) (hn : n ≤ 9000000000000000000) (nm : List UInt8) : Does n r (Ug r nm) := by
 have hf : ∀ x ∈ r.facts_, Wm nm x = some (decide (x.Kind = 6) && decide (x.Name = nm)) := fun x _ => by
  unfold Wm
  by_cases h : x.Kind = 6 <;> simp [h]
 unfold Ug
 rw [IsName_eq, Jh]
 cases nameB nm
 ·rw [Bool.not_false, Ju]; exact Vt hi _
 obtain ⟨l, h1, h2, h3⟩ := album_ok hi nm
 rw [Bool.not_true, Jn, h1, Jh]
 by_cases h0 : (l.length : Int) = 0
 ·rw [Yu h0, Ju]; exact Vt hi _
 ·rw [Yi h0, Jn]; exact gone_does hi hn _ hf 0
theorem done_does (hi : Inv n r) (hn : n ≤ 9000000000000000000) (d : T_tintkeep2_Deed) : Does n r (Keep_done r d) := by
 unfold Keep_done
 by_cases h0 : d.Kind = 0
 ·rw [Yu h0, Ju]; exact Z7 (put_does hi hn _ _)
 rw [Yi h0, Jn]
 by_cases h1 : d.Kind = 1
 ·rw [Yu h1, Ju]; unfold Z0; exact Z7 (Z7 (say_does hi hn _ (by simp) (by simp)))
 rw [Yi h1, Jn]
 by_cases h2 : d.Kind = 2
 ·rw [Yu h2, Ju]; unfold Um; exact Z7 (Z7 (say_does hi hn _ (by simp) (by simp)))
 rw [Yi h2, Jn]
 by_cases h3 : d.Kind = 3
 ·rw [Yu h3, Ju]; unfold Jao
  refine Z7 ?_
  cases decide (d.N = 1)
  ·rw [Jn]; unfold Zf; exact Z7 (say_does hi hn _ (by simp) (by simp))
  ·rw [Ju]; unfold Zf; exact Z7 (say_does hi hn _ (by simp) (by simp))
 rw [Yi h3, Jn]
 by_cases h4 : d.Kind = 4
 ·rw [Yu h4, Ju]; unfold Jav; exact Z7 (Z7 (say_does hi hn _ (by simp) (by simp)))
 rw [Yi h4, Jn]
 by_cases h5 : d.Kind = 5
 ·rw [Yu h5, Ju]; exact Z7 (untag_does hi hn _ _)
 rw [Yi h5, Jn]
 by_cases h6 : d.Kind = 6
 ·rw [Yu h6, Ju]; exact Z7 (add_does hi hn _ _ _)
 rw [Yi h6, Jn]
 by_cases h7 : d.Kind = 7
 ·rw [Yu h7, Ju]; exact Z7 (take_does hi hn _ _)
 rw [Yi h7, Jn]
 by_cases h8 : d.Kind = 8
 ·rw [Yu h8, Ju]; exact Z7 (drop_does hi hn _)
 rw [Yi h8, Jn]; exact Z7 (remove_does hi hn _)
theorem copy_eq (r : T_sync_Replica) (d : Int) (hd : 0 ≤ d ∧ d ≤ 15) (hl : r.facts_.length ≤ 100000) : Wb r d = some (some ⟨d, r.knows_, r.facts_⟩, 0) := by
 unfold Wb Qk Yy
 rw [Un, Jh, Yi (by omega), Jn, Jac (by simp; omega), Jh, Jh, Jh, List.nil_append]
theorem eqF_refl (x : T_sync_Fact) : Us x x = true := by unfold Us; exact decide_eq_true ⟨⟨rfl, rfl⟩, rfl, rfl, rfl, rfl, rfl, rfl⟩
theorem equal_refl (l : List T_sync_Fact) (hl : l.length ≤ 100000) : X2 l l = some true := by
 unfold X2
 rw [Yi (by simp), Jn]
 refine fix_upto (F := fun next1 s => Qz l l next1 s) (o := some true) 0 l.length (Nat.zero_le _) (fun next k _ h => ?_) (fun next => ?_)
 ·simp only [Qz]
  rw [Yu (by omega), Ju, Zs h, Jh, Jh, eqF_refl, Bool.not_true, Jn, Y9 (by omega), Jh]
 ·simp only [Qz]
  rw [Yi (by omega), Jn]
theorem alike_same (k : Nat → Int) (f : List T_sync_Fact) (a b : Int) (hl : f.length ≤ 100000) : sync_Alike ⟨a, k, f⟩ ⟨b, k, f⟩ = some true := by
 unfold sync_Alike
 rw [knows_refl, Ju, equal_refl f hl, Jh]
theorem inv_new : Inv 0 ⟨0, (fun _ => 0), []⟩ :=
 ⟨⟨by decide, by decide⟩, fun _ _ => ⟨Int.le_refl 0, Int.le_refl 0⟩, Nat.zero_le _, fun _ hx => absurd hx List.not_mem_nil, fun _ hx => absurd hx List.not_mem_nil, fun _ hx => absurd hx List.not_mem_nil, fun _ hx => absurd hx List.not_mem_nil⟩
theorem replicas_ok (l : List T_tintkeep2_Deed) (hl : l.length ≤ 9000000000000000000) : ∃ (n : Nat) (k : Nat → Int) (f : List T_sync_Fact), n ≤ l.length ∧ Inv n ⟨0, k, f⟩ ∧ Jay l [] = some (some (⟨0, k, f⟩, ⟨1, k, f⟩, ⟨2, k, f⟩), true) := by
 unfold Jay
 rw [New_eq, Jh, if_neg (by omega), Yi (by simp), Jn]
 show ∃ n k f, n ≤ l.length ∧ Inv n ⟨0, k, f⟩ ∧ fix (fun next3 s => Zc l [] next3 s.1 s.2.1 s.2.2.1 s.2.2.2) (0, 0, (fun _ => 0), []) = _
 obtain ⟨o, h, n, k, f, h1, h2, h3⟩ := fix_run (F := fun next3 s => Zc l [] next3 s.1 s.2.1 s.2.2.1 s.2.2.2)
  (fun s : Int × Int × (Nat → Int) × List T_sync_Fact => ∃ j : Nat, s.1 = (j : Int) ∧ j ≤ l.length ∧ s.2.1 = 0 ∧ Inv j ⟨0, s.2.2.1, s.2.2.2⟩) (fun s => l.length - s.1.toNat)
  (fun o => ∃ (n : Nat) (k : Nat → Int) (f : List T_sync_Fact), n ≤ l.length ∧ Inv n ⟨0, k, f⟩ ∧ o = (some (⟨0, k, f⟩, ⟨1, k, f⟩, ⟨2, k, f⟩), true))
  (by
   rintro ⟨_, _, k, f⟩ ⟨j, rfl, hj, rfl, hi⟩
   simp only at hi ⊢
   simp only [Zc]
   rcases Nat.lt_or_ge j l.length with h | h
   ·obtain ⟨e, r', h1, h2, h3⟩ := done_does hi (by omega) l[j]
    refine .inr ⟨((j : Int) + 1, r'.device_, r'.knows_, r'.facts_), ⟨j + 1, rfl, h, h3, ?_⟩, by simp only; omega, fun next => ?_⟩
    ·have h3 : r'.device_ = 0 := h3
     rw [← h3]; exact h2
    ·rw [Yu (by omega), Ju, Zs h, Jh, h1, Jh, Y9 (by omega), Jh]
   ·have hlen : f.length ≤ 5000 := hi.len
    refine .inl ⟨(some (⟨0, k, f⟩, ⟨1, k, f⟩, ⟨2, k, f⟩), true), ⟨j, k, f, hj, hi, rfl⟩, fun next => ?_⟩
    rw [Yi (by omega), Jn]
    unfold Uv
    rw [copy_eq _ 1 (by omega) (by simp only; omega), Jh, Yi (by simp), Jn, Jh, alike_same k f 1 0 (by omega), Jh, Bool.not_true, Jn, copy_eq _ 2 (by omega) (by simp only; omega), Jh, Yi (by simp), Jn, Jh, alike_same k f 2 0 (by omega), Jh, Bool.not_true, Jn]
    refine Y7 fun next => ?_
    simp only [Vp]
    rw [Yi (by simp), Jn])
  (0, 0, (fun _ => 0), []) ⟨0, rfl, Nat.zero_le _, rfl, inv_new⟩
 exact ⟨n, k, f, h1, h2, by rw [h, h3]⟩
end Go.M

/- SyncStays in plain Lean: two replicas that meet, and what is shown. Conditions: few facts. -/
namespace Go.M
open Go.Md Go.Pl
set_option linter.unusedVariables false
theorem mGet_mSetG {κ ν : Type} [DecidableEq κ] (m : List (κ × ν)) (k : κ) (v : ν) (x : κ) : mGet (mSet m k v) x = if x = k then some v else mGet m x := by
 unfold mGet mSet mHas
 induction m with
 | nil =>
  by_cases h : x = k
  ·subst h; simp
  ·have : ¬ k = x := fun e => h e.symm
   simp [h, this]
 | cons a m ih =>
  by_cases ha : a.1 = k
  ·have e1 : ((a :: m).any fun p => decide (p.1 = k)) = true := by simp [ha]
   rw [if_pos e1, List.map_cons, if_pos ha, List.find?_cons, List.find?_cons]
   by_cases h : x = k
   ·subst h; simp
   ·have hk : ¬ k = x := fun e => h e.symm
    rw [Yi hk, if_neg h, Yi (show ¬ a.1 = x by rw [ha]; exact hk)]
    simp only
    clear ih e1
    induction m with
    | nil => rfl
    | cons b m ih2 =>
     rw [List.map_cons, List.find?_cons, List.find?_cons]
     by_cases hb : b.1 = k
     ·rw [if_pos hb, Yi hk, Yi (show ¬ b.1 = x by rw [hb]; exact hk)]; exact ih2
     ·rw [if_neg hb]
      by_cases hbx : b.1 = x
      ·rw [Yu hbx]
      ·rw [Yi hbx]; exact ih2
  ·have e1 : ((a :: m).any fun p => decide (p.1 = k)) = (m.any fun p => decide (p.1 = k)) := by simp [ha]
   rw [e1]
   by_cases hm : (m.any fun p => decide (p.1 = k)) = true
   ·rw [if_pos hm] at ih ⊢
    rw [List.map_cons, if_neg ha, List.find?_cons]
    by_cases hx : a.1 = x
    ·rw [Yu hx]
     have : ¬ x = k := fun e => ha (hx.trans e)
     rw [if_neg this, List.find?_cons, Yu hx]
    ·rw [Yi hx, List.find?_cons, Yi hx]; exact ih
   ·rw [if_neg hm] at ih ⊢
    rw [List.cons_append, List.find?_cons]
    by_cases hx : a.1 = x
    ·rw [Yu hx]
     have : ¬ x = k := fun e => ha (hx.trans e)
     rw [if_neg this, List.find?_cons, Yu hx]
    ·rw [Yi hx, List.find?_cons, Yi hx]; exact ih
def inF (m : List (T_sync_Fact × Bool)) (k : T_sync_Fact) : Bool := (mGet m k).getD false
theorem inF_set (m : List (T_sync_Fact × Bool)) (k x : T_sync_Fact) : inF (mSet m k true) x = (decide (x = k) || inF m x) := by
 unfold inF
 rw [mGet_mSetG]
 by_cases h : x = k <;> simp [h]
def Ur (m : List (T_sync_Fact × Bool)) (l : List T_sync_Fact) : List (T_sync_Fact × Bool) := l.foldl (fun m f => mSet m (Wf f) true) m
theorem inF_setM : ∀ (l : List T_sync_Fact) (m : List (T_sync_Fact × Bool)) (x : T_sync_Fact), inF (Ur m l) x = true ↔ (∃ f ∈ l, Wf f = x) ∨ inF m x = true
 | [], m, x => by simp [Ur]
 | f :: l, m, x => by
  have := inF_setM l (mSet m (Wf f) true) x
  rw [show Ur m (f :: l) = Ur (mSet m (Wf f) true) l from rfl, this, inF_set]
  simp only [Bool.or_eq_true, decide_eq_true_eq, List.mem_cons]
  constructor
  ·rintro (⟨g, h1, h2⟩ | h | h)
   ·exact .inl ⟨g, .inr h1, h2⟩
   ·exact .inl ⟨f, .inl rfl, h.symm⟩
   ·exact .inr h
  ·rintro (⟨g, h1 | h1, h2⟩ | h)
   ·rw [h1] at h2; exact .inr (.inl h2.symm)
   ·exact .inl ⟨g, h1, h2⟩
   ·exact .inr (.inr h)
theorem setF_eq (l : List T_sync_Fact) (hl : l.length ≤ 100000) : Q6 l = some (Ur [] l) := by
 unfold Q6
 refine fix_list (F := fun next1 s => Wz l next1 s.1 s.2) l (fun m f => mSet m (Wf f) true) some (fun _ _ => True) (fun next k s hk _ => ?_) (fun next s _ => ?_) [] trivial
 ·simp only [Wz]
  rw [Yu (by omega), Ju, Zs hk, Jh, one_eq, Jh, Y9 (by omega), Jh]
  exact ⟨rfl, trivial⟩
 ·simp only [Wz]
  rw [Yi (by omega), Jn]
def knowsB (k : Nat → Int) (d : T_sync_Dot) : Bool := decide (0 ≤ d.Device ∧ d.Device < 16 ∧ d.N ≤ k d.Device.toNat)
theorem knows_eq (k : Nat → Int) (d : T_sync_Dot) : Z1 k d = some (knowsB k d) := by
 unfold Z1 knowsB
 rw [Un, Jh]
 by_cases h : d.Device < 0 ∨ 15 < d.Device
 ·rw [Yu h, Bool.not_true, Jn]
  congr 1; symm; rw [decide_eq_false_iff_not]; omega
 ·rw [Yi h, Bool.not_false, Ju, gIx_ok (by omega), Jh]
  congr 1; rw [decide_eq_decide]
  exact ⟨fun x => ⟨by omega, by omega, x⟩, fun x => x.2.2⟩
def Wy (m : List (T_sync_Fact × Bool)) (k : Nat → Int) (f : T_sync_Fact) : Bool := inF m (Wf f) || !knowsB k f.Dot
theorem kept_eq (l : List T_sync_Fact) (m : List (T_sync_Fact × Bool)) (k : Nat → Int) (hl : l.length ≤ 100000) : V3 l m k = some (l.filter (Wy m k)) := by
 unfold V3
 refine (fix_list (F := fun next1 s => Wc l m k next1 s.1 s.2) l (fun s x => if Wy m k x = true then s ++ [x] else s) some (fun k s => s.length ≤ k) (fun next j s hk hI => ?_) (fun next s _ => ?_) [] (Nat.le_refl _)).trans ?_
 ·simp only [Wc]
  have put : J9 (gApp 80 s [l[j]]) (fun l30 => Vk (j : Int) next l30) = next ((j : Int) + 1, s ++ [l[j]]) := by
   rw [Jac (by simp; omega), Jh]; unfold Vk; rw [Y9 (by omega), Jh]
  have skip : Vk (j : Int) next s = next ((j : Int) + 1, s) := by unfold Vk; rw [Y9 (by omega), Jh]
  have ha : (mGet m (Wf l[j])).getD false = inF m (Wf l[j]) := rfl
  rw [Yu (by omega), Ju, Zs hk, Jh, one_eq, Jh, ha]
  cases h1 : inF m (Wf l[j])
  ·rw [Jn, knows_eq, Jh]
   cases h2 : knowsB k l[j].Dot
   ·have : Wy m k l[j] = true := by unfold Wy; rw [h1, h2]; rfl
    rw [Bool.not_false, Ju, put, if_pos this]; exact ⟨rfl, by simp; omega⟩
   ·have : ¬ Wy m k l[j] = true := by unfold Wy; rw [h1, h2]; simp
    rw [Bool.not_true, Jn, skip, if_neg this]; exact ⟨rfl, by omega⟩
  ·have : Wy m k l[j] = true := by unfold Wy; rw [h1]; rfl
   rw [Ju, put, if_pos this]; exact ⟨rfl, by simp; omega⟩
 ·simp only [Wc]
  rw [Yi (by omega), Jn]
 ·rw [foldl_filter]; rfl
theorem filter_sub {α : Type} {p q : α → Bool} (h : ∀ x, p x = true → q x = true) : ∀ l : List α, (l.filter p).Sublist (l.filter q)
 | [] => List.Sublist.slnil
 | x :: l => by
  rw [List.filter_cons, List.filter_cons]
  by_cases hp : p x = true
  ·rw [if_pos hp, if_pos (h x hp)]; exact (filter_sub h l).cons_cons x
  ·rw [if_neg hp]
   split
   ·exact (filter_sub h l).cons x
   ·exact filter_sub h l
def V1 (k : Nat → Int) (m : List (T_sync_Fact × Bool)) (f : T_sync_Fact) : Bool := !inF m (Wf f) && !knowsB k f.Dot
def addS (k : Nat → Int) (s : List (T_sync_Fact × Bool) × List T_sync_Fact) (f : T_sync_Fact) : List (T_sync_Fact × Bool) × List T_sync_Fact := if V1 k s.1 f = true then (mSet s.1 (Wf f) true, s.2 ++ [f]) else s
theorem fresh_set {k : Nat → Int} {m : List (T_sync_Fact × Bool)} {x y : T_sync_Fact} : V1 k (mSet m (Wf x) true) y = true ↔ Wf y ≠ Wf x ∧ V1 k m y = true := by
 unfold V1
 rw [inF_set]
 by_cases h : Wf y = Wf x <;> simp [h]
theorem adds (k : Nat → Int) : ∀ (xs : List T_sync_Fact) (m : List (T_sync_Fact × Bool)) (l : List T_sync_Fact), ∃ add, (xs.foldl (addS k) (m, l)).2 = l ++ add ∧ add.Sublist (xs.filter (V1 k m)) ∧ ∀ x ∈ xs, V1 k m x = true → ∃ y ∈ add, Wf y = Wf x
 | [], m, l => ⟨[], by simp, by simp, by simp⟩
 | x :: xs, m, l => by
  by_cases h : V1 k m x = true
  ·obtain ⟨add, h1, h2, h3⟩ := adds k xs (mSet m (Wf x) true) (l ++ [x])
   have e : addS k (m, l) x = (mSet m (Wf x) true, l ++ [x]) := if_pos h
   refine ⟨x :: add, ?_, ?_, fun y hy hf => ?_⟩
   ·rw [List.foldl_cons, e, h1, List.append_assoc]; rfl
   ·rw [List.filter_cons, if_pos h]
    exact (h2.trans (filter_sub (fun y hy => (fresh_set.1 hy).2) xs)).cons_cons x
   ·by_cases he : Wf y = Wf x
    ·exact ⟨x, by simp, he.symm⟩
    ·rcases List.mem_cons.1 hy with hy | hy
     ·rw [hy] at he; exact absurd rfl he
     ·obtain ⟨z, hz, hz2⟩ := h3 y hy (fresh_set.2 ⟨he, hf⟩)
      exact ⟨z, by simp [hz], hz2⟩
  ·obtain ⟨add, h1, h2, h3⟩ := adds k xs m l
   have e : addS k (m, l) x = (m, l) := if_neg h
   refine ⟨add, by rw [List.foldl_cons, e, h1], by rw [List.filter_cons, if_neg h]; exact h2, fun y hy hf => ?_⟩
   rcases List.mem_cons.1 hy with hy | hy
   ·rw [hy] at hf; exact absurd hf h
   ·exact h3 y hy hf
def maxU (n : Nat) (a b : Nat → Int) (i : Nat) : Int := if i < n then max (a i) (b i) else a i
theorem maxU_step (n : Nat) (a b : Nat → Int) : Q7 (maxU n a b) n (max (maxU n a b n) (b n)) = maxU (n + 1) a b := by
 funext i
 unfold Q7 maxU
 by_cases h : i = n
 ·subst h; simp
 ·rw [if_neg h]
  by_cases h2 : i < n
  ·rw [if_pos h2, if_pos (by omega)]
  ·rw [if_neg h2, if_neg (by omega)]
theorem merge_ok (r : T_sync_Replica) (their : List T_sync_Fact) (both : List (T_sync_Fact × Bool)) (k : Nat → Int) (hr : r.facts_.length ≤ 5000) (ht : their.length ≤ 5000)
  (hd : Dist (r.facts_.filter (Wy both k) ++ their.filter (V1 r.knows_ (Ur [] r.facts_)))) :
  ∃ add, add.Sublist (their.filter (V1 r.knows_ (Ur [] r.facts_))) ∧ (∀ x ∈ their, V1 r.knows_ (Ur [] r.facts_) x = true → ∃ y ∈ add, Wf y = Wf x) ∧
   Jy r their both k = (if 5000 < ((r.facts_.filter (Wy both k) ++ add).length : Int) then some (4, r) else some (0, ⟨r.device_, maxU 16 r.knows_ k, sortF (r.facts_.filter (Wy both k) ++ add)⟩)) := by
 obtain ⟨add, h1, h2, h3⟩ := adds r.knows_ their (Ur [] r.facts_) (r.facts_.filter (Wy both k))
 refine ⟨add, h2, h3, ?_⟩
 have hk : (r.facts_.filter (Wy both k)).length ≤ 5000 := Nat.le_trans (List.length_filter_le ..) hr
 have ha : add.length ≤ 5000 := Nat.le_trans h2.length_le (Nat.le_trans (List.length_filter_le ..) ht)
 unfold Jy
 rw [setF_eq _ (by omega), Jh, kept_eq _ _ _ (by omega), Jh]
 have hloop := fix_list (F := fun next3 s => Xj r their k next3 s.1 s.2.1 s.2.2) their (addS r.knows_) (fun s => Zy r k s.2) (fun j s => s.2.length ≤ 100000 + j) (fun next j s hj hI => by
   obtain ⟨m, l⟩ := s
   simp only at hI ⊢
   simp only [Xj]
   have skip : ∀ m' l', X9 (j : Int) next m' l' = next ((j : Int) + 1, m', l') := fun m' l' => by unfold X9; rw [Y9 (by omega), Jh]
   have hb : (mGet m (Wf their[j])).getD false = inF m (Wf their[j]) := rfl
   rw [Yu (by omega), Ju, Zs hj, Jh, one_eq, Jh, hb]
   cases e1 : inF m (Wf their[j])
   ·rw [Bool.not_false, Ju, knows_eq, Jh]
    cases e2 : knowsB r.knows_ their[j].Dot
    ·have e : addS r.knows_ (m, l) their[j] = (mSet m (Wf their[j]) true, l ++ [their[j]]) := if_pos (show V1 r.knows_ m their[j] = true by unfold V1; rw [e1, e2]; rfl)
     rw [Bool.not_false, Ju, Jac (by simp; omega), Jh, Jh, skip, e]
     exact ⟨rfl, by simp; omega⟩
    ·have e : addS r.knows_ (m, l) their[j] = (m, l) := if_neg (show ¬ V1 r.knows_ m their[j] = true by unfold V1; rw [e1, e2]; simp)
     rw [Bool.not_true, Jn, skip, e]
     exact ⟨rfl, by simp only; omega⟩
   ·have e : addS r.knows_ (m, l) their[j] = (m, l) := if_neg (show ¬ V1 r.knows_ m their[j] = true by unfold V1; rw [e1]; simp)
    rw [Bool.not_true, Jn, skip, e]
    exact ⟨rfl, by simp only; omega⟩)
  (fun next s _ => by
   simp only [Xj]
   rw [Yi (by omega), Jn])
  (Ur [] r.facts_, r.facts_.filter (Wy both k)) (by simp only; omega)
 rw [show (((0 : Int), Ur [] r.facts_, r.facts_.filter (Wy both k)) : Int × List (T_sync_Fact × Bool) × List T_sync_Fact) = (0, (Ur [] r.facts_, r.facts_.filter (Wy both k))) from rfl, hloop, h1]
 unfold Zy
 rw [cI]
 by_cases hL : 5000 < ((r.facts_.filter (Wy both k) ++ add).length : Int)
 ·rw [if_pos hL, if_pos hL]
 ·rw [if_neg hL, if_neg hL, sort_eq (by rw [List.length_append]; omega) (hd.sub fun x hx => by
   rcases List.mem_append.1 hx with h | h
   ·exact List.mem_append_left _ h
   ·exact List.mem_append_right _ (h2.subset h)), Jh]
  generalize sortF _ = S
  obtain ⟨o, h4, h5⟩ := fix_run (F := fun next2 s => X8 r k S next2 s.1 s.2) (fun s : Int × (Nat → Int) => ∃ j : Nat, s.1 = (j : Int) ∧ j ≤ 16 ∧ s.2 = maxU j r.knows_ k) (fun s => 16 - s.1.toNat) (fun o => o = ((0 : Int), (⟨r.device_, maxU 16 r.knows_ k, S⟩ : T_sync_Replica)))
   (by
    rintro ⟨_, _⟩ ⟨j, rfl, hj, rfl⟩
    simp only [X8]
    rcases Nat.lt_or_ge j 16 with h | h
    ·refine .inr ⟨((j : Int) + 1, maxU (j + 1) r.knows_ k), ⟨j + 1, rfl, h, rfl⟩, by simp only; omega, fun next => ?_⟩
     rw [Yu (by omega), Ju, gIx_nat h, Jh, Jh, Jh, Y9 (by omega), Jh, maxU_step]
    ·have : j = 16 := by omega
     subst this
     refine .inl ⟨_, rfl, fun next => ?_⟩
     rw [Yi (by omega), Jn])
   (0, r.knows_) ⟨0, rfl, by omega, by funext i; unfold maxU; simp⟩
  rw [h4, h5]
theorem meet_ok (r o : T_sync_Replica) (hr : r.facts_.length ≤ 5000) (ht : o.facts_.length ≤ 5000)
  (hd : Dist (r.facts_.filter (Wy (Ur [] o.facts_) o.knows_) ++ o.facts_.filter (V1 r.knows_ (Ur [] r.facts_)))) :
  ∃ add, add.Sublist (o.facts_.filter (V1 r.knows_ (Ur [] r.facts_))) ∧ (∀ x ∈ o.facts_, V1 r.knows_ (Ur [] r.facts_) x = true → ∃ y ∈ add, Wf y = Wf x) ∧
   Yh r o = (if 5000 < ((r.facts_.filter (Wy (Ur [] o.facts_) o.knows_) ++ add).length : Int) then some (4, r) else some (0, ⟨r.device_, maxU 16 r.knows_ o.knows_, sortF (r.facts_.filter (Wy (Ur [] o.facts_) o.knows_) ++ add)⟩)) := by
 obtain ⟨add, h1, h2, h3⟩ := merge_ok r o.facts_ (Ur [] o.facts_) o.knows_ hr ht hd
 refine ⟨add, h1, h2, ?_⟩
 unfold Yh
 rw [setF_eq _ (by omega), Jh, h3]
 split <;> rfl
theorem cmpFrom_memS {α : Type} [DecidableEq α] : ∀ (l : List α) (p k : α), k ∈ p :: Wd p l ↔ k ∈ p :: l
 | [], p, k => Iff.rfl
 | y :: l, p, k => by
  unfold Wd
  by_cases h : y = p
  ·rw [if_pos h, cmpFrom_memS l p k, h]; simp
  ·have := cmpFrom_memS l y k
   rw [if_neg h]
   simp only [List.mem_cons] at this ⊢
   rw [this]
theorem cmpL_memS {α : Type} [DecidableEq α] (l : List α) (k : α) : k ∈ cmpL l ↔ k ∈ l := by
 cases l with
 | nil => rfl
 | cons y l => exact cmpFrom_memS l y k
theorem cmpFrom_lenS {α : Type} [DecidableEq α] (p : α) : ∀ l : List α, (Wd p l).length ≤ l.length
 | [] => Nat.le_refl _
 | y :: l => by
  unfold Wd
  split
  ·have := cmpFrom_lenS p l; simp; omega
  ·have := cmpFrom_lenS y l; simp; omega
theorem cmpL_lenS {α : Type} [DecidableEq α] (l : List α) : (cmpL l).length ≤ l.length := by
 cases l with
 | nil => exact Nat.le_refl _
 | cons y l => have := cmpFrom_lenS y l; simp [cmpL]; omega
theorem ids_ok (r : T_sync_Replica) (hl : r.facts_.length ≤ 100000) : ∃ ids, Uz r = some ids ∧ ids.length ≤ 100000 ∧ ∀ i, i ∈ ids ↔ Ub r i := by
 unfold Uz
 rw [where_eq r Jah (fun f => decide (f.Kind = 1)) hl (fun x _ => rfl), Jh]
 have h1 : (r.facts_.filter fun f => decide (f.Kind = 1)).length ≤ 100000 := Nat.le_trans (List.length_filter_le ..) hl
 have e := fix_list (F := fun next2 s => X7 (r.facts_.filter fun f => decide (f.Kind = 1)) next2 s.1 s.2) (r.facts_.filter fun f => decide (f.Kind = 1)) (fun s x => s ++ [x.Id]) Vj (fun k s => s.length = k) (fun next k s hk hI => by
   simp only [X7]
   rw [Yu (by omega), Ju, Zs hk, Jh, Jac (by simp; omega), Jh, Y9 (by omega), Jh]
   exact ⟨rfl, by simp; omega⟩) (fun next s _ => by
   simp only [X7]
   rw [Yi (by omega), Jn]) [] rfl
 rw [e, foldl_app, List.nil_append]
 unfold Vj
 have hc : gCmpI ((r.facts_.filter fun f => decide (f.Kind = 1)).map (·.Id)) = some (cmpL ((r.facts_.filter fun f => decide (f.Kind = 1)).map (·.Id))) := if_pos (by rw [List.length_map]; omega)
 refine ⟨cmpL ((r.facts_.filter fun f => decide (f.Kind = 1)).map (·.Id)), by rw [hc, Jh], Nat.le_trans (cmpL_lenS _) (by rw [List.length_map]; exact h1), fun i => ?_⟩
 rw [cmpL_memS]
 unfold Ub
 simp only [List.mem_map, List.mem_filter, decide_eq_true_eq, and_assoc]
def starsOf (r : T_sync_Replica) (i : Int) : List T_sync_Fact := r.facts_.filter fun f => decide (f.Kind = 2) && decide (f.Id = i)
theorem Shown_ok (r : T_sync_Replica) (hl : r.facts_.length ≤ 100000) : ∃ out, X3 r = some out ∧ out.length ≤ 100000 ∧ (∀ s ∈ out, Ub r s.Id ∧ ∃ f, Qu (starsOf r s.Id) = some f ∧ s.Stars = f.Num) ∧ ∀ i, Ub r i → ∃ s ∈ out, s.Id = i := by
 obtain ⟨ids, h1, h2, h3⟩ := ids_ok r hl
 unfold X3
 rw [h1, Jh]
 obtain ⟨out, g1, g2, g3, g4⟩ := fix_run (F := fun next2 s => Ya r ids next2 s.1 s.2.1 s.2.2)
  (fun s : Int × Int × List T_sync_Shown => s.1 = (ids.length : Int) ∧ ∃ k : Nat, s.2.1 = (k : Int) ∧ k ≤ ids.length ∧ s.2.2.length ≤ k ∧ (∀ x ∈ s.2.2, Ub r x.Id ∧ ∃ f, Qu (starsOf r x.Id) = some f ∧ x.Stars = f.Num) ∧ ∀ i ∈ ids.take k, ∃ x ∈ s.2.2, x.Id = i)
  (fun s => ids.length - s.2.1.toNat) (fun out => out.length ≤ 100000 ∧ (∀ s ∈ out, Ub r s.Id ∧ ∃ f, Qu (starsOf r s.Id) = some f ∧ s.Stars = f.Num) ∧ ∀ i ∈ ids, ∃ s ∈ out, s.Id = i)
  (by
   rintro ⟨_, _, l⟩ ⟨rfl, k, rfl, hk, hn, ha, hb⟩
   simp only at hn ha hb ⊢
   simp only [Ya]
   rcases Nat.lt_or_ge k ids.length with h | h
   ·have fl : ∀ kd : Int, (r.facts_.filter fun f => decide (f.Kind = kd) && decide (f.Id = ids[k])).length ≤ 100000 := fun kd => Nat.le_trans (List.length_filter_le ..) hl
    obtain ⟨f1, e1, _⟩ := latest_ok _ (fl 1)
    obtain ⟨f2, e2, _⟩ := latest_ok _ (fl 2)
    obtain ⟨f3, e3, _⟩ := latest_ok _ (fl 3)
    obtain ⟨f4, e4, _⟩ := latest_ok _ (fl 4)
    refine .inr ⟨((ids.length : Int), (k : Int) + 1, l ++ [⟨ids[k], f1.Text, f2.Num, f3.Text, decide (f4.Num = 1), cmpL ((r.facts_.filter fun f => decide (f.Kind = 5) && decide (f.Id = ids[k])).map (·.Name))⟩]), ⟨rfl, k + 1, rfl, h, by simp; omega, fun x hx => ?_, fun i hi => ?_⟩, by simp only; omega, fun next => ?_⟩
    ·rcases List.mem_append.1 hx with hx | hx
     ·exact ha x hx
     ·simp only [List.mem_cons, List.not_mem_nil, or_false] at hx
      rw [hx]
      exact ⟨(h3 _).1 (List.getElem_mem h), f2, e2, rfl⟩
    ·rw [List.take_succ_eq_append_getElem h, List.mem_append] at hi
     rcases hi with hi | hi
     ·obtain ⟨x, hx, hx2⟩ := hb i hi; exact ⟨x, List.mem_append_left _ hx, hx2⟩
     ·simp only [List.mem_cons, List.not_mem_nil, or_false] at hi
      exact ⟨_, List.mem_append_right _ (List.mem_singleton.2 rfl), hi.symm⟩
    ·rw [Yu (by omega), Ju, Zs h, Jh, of_eq r 1 _ hl, Jh, e1, Jh, of_eq r 2 _ hl, Jh, e2, Jh, of_eq r 3 _ hl, Jh, e3, Jh, of_eq r 4 _ hl, Jh, e4, Jh, of_eq r 5 _ hl, Jh]
     have h5 := fl 5
     generalize (r.facts_.filter fun f => decide (f.Kind = 5) && decide (f.Id = ids[k])) = T at h5
     refine (fix_list (F := fun next5 s => Xk (ids.length : Int) (k : Int) l next ids[k] f1 f2 f3 f4 T next5 s.1 s.2) T (fun s x => s ++ [x.Name]) (fun s => Zz (ids.length : Int) (k : Int) l next ids[k] f1 f2 f3 f4 s) (fun j s => s.length = j) (fun nx j s hj hI => ?_) (fun nx s _ => ?_) [] rfl).trans ?_
     ·simp only [Xk]
      rw [Yu (by omega), Ju, Zs hj, Jh, Jac (by simp; omega), Jh, Y9 (by omega), Jh]
      exact ⟨rfl, by simp; omega⟩
     ·simp only [Xk]
      rw [Yi (by omega), Jn]
     ·rw [foldl_app, List.nil_append]
      have hc : gCmpS (T.map (·.Name)) = some (cmpL (T.map (·.Name))) := if_pos (by rw [List.length_map]; omega)
      unfold Zz Vy
      rw [hc, Jh, Jac (by simp; omega), Jh, Y9 (by omega), Jh]
   ·have : k = ids.length := by omega
    subst this
    rw [List.take_length] at hb
    refine .inl ⟨l, ⟨by omega, ha, hb⟩, fun next => ?_⟩
    rw [Yi (by omega), Jn]; rfl)
  ((ids.length : Int), 0, []) ⟨rfl, 0, rfl, Nat.zero_le _, Nat.le_refl _, (fun x hx => absurd hx List.not_mem_nil), (fun i hi => by simp at hi)⟩
 exact ⟨out, g1, g2, g3, fun i hi => g4 i ((h3 i).2 hi)⟩
end Go.M

/- SyncStays in plain Lean: the law. Conditions: none but the list's length. -/
namespace Go.M
open Go.Md Go.Pl
set_option linter.unusedVariables false
theorem awake_eq : Jan = some true := by
 unfold Jan sync_CheckFact
 rw [Un, Jh, Yi (by simp), Jn, Un, Jh, Yu (by simp), Ju, Jh]
 rfl
theorem Inv.at {n : Nat} {d d' : Int} {k : Nat → Int} {f : List T_sync_Fact} (h : Inv n ⟨d, k, f⟩) (hd : 0 ≤ d' ∧ d' < 16) : Inv n ⟨d', k, f⟩ := ⟨hd, h.kn, h.len, h.dist, h.dot, h.time, h.num⟩
theorem eventL_dist {n : Nat} {r : T_sync_Replica} (hi : Inv n r) {made : List T_sync_Fact} (hm : Made r made) (g : T_sync_Fact → Bool) : Dist (Ud r g made).facts_ := (hi.distE hm fun f => !g f).sub fun x hx => sortF_mem.1 hx
theorem index_Shown (l : List T_sync_Shown) (i : Int) (hl : l.length ≤ 9223372036854775000) {f : T_sync_Shown → Option Bool} (hf : ∀ x ∈ l, f x = some (decide (x.Id = i))) : Yf l f = some (idx (fun x => decide (x.Id = i)) l) := indexFunc_of hl hf fun _ _ => rfl
theorem idx_spec {α : Type} {g : α → Bool} {l : List α} (h : ∃ x ∈ l, g x = true) : ∃ (k : Nat) (hk : k < l.length), idx g l = (k : Int) ∧ g l[k] = true := by
 unfold idx
 cases hi : l.findIdx? g with
 | none =>
  rw [List.findIdx?_eq_none_iff] at hi
  obtain ⟨x, hx, hg⟩ := h
  rw [hi x hx] at hg; cases hg
 | some k =>
  obtain ⟨h1, h2, _⟩ := List.findIdx?_eq_some_iff_getElem.1 hi
  exact ⟨k, h1, rfl, h2⟩
theorem inF_iff (l : List T_sync_Fact) (x : T_sync_Fact) : inF (Ur [] l) x = true ↔ ∃ f ∈ l, Wf f = x := by
 rw [inF_setM]
 constructor
 ·rintro (h | h)
  ·exact h
  ·cases h
 ·exact .inl
section
variable {n : Nat} {K : Nat → Int} {F : List T_sync_Fact} (hi : Inv n ⟨0, K, F⟩) (hn : n ≤ 9000000000000000000) (id s : Int)
noncomputable def repA (K : Nat → Int) (F : List T_sync_Fact) (id : Int) : T_sync_Replica := Ud ⟨0, K, F⟩ (fun x => decide (x.Id = id)) []
noncomputable def U6 (K : Nat → Int) (F : List T_sync_Fact) (id : Int) : T_sync_Replica := ⟨1, maxU 16 K (repA K F id).knows_, sortF (F.filter fun x => !decide (x.Id = id))⟩
variable {t : Int} {w : List UInt8}
theorem repA_mem {x : T_sync_Fact} : x ∈ (repA K F id).facts_ ↔ x ∈ F ∧ x.Id ≠ id := by
 unfold repA
 rw [eventL_mem]
 simp
theorem repA_knows : (repA K F id).knows_ = Q7 K 0 (K 0 + 1) := rfl
theorem repB_mem {x : T_sync_Fact} : x ∈ (U6 K F id).facts_ ↔ x ∈ F ∧ x.Id ≠ id := by
 show x ∈ sortF _ ↔ _
 rw [sortF_mem, List.mem_filter]
 simp
theorem goneS_iff {x : T_sync_Fact} (h : x.Id ≠ id) : goneL [(⟨⟨0, 0⟩, 0, 2, id, [], s, []⟩ : T_sync_Fact), agn id w] x = false := by
 unfold goneL repl agn
 have : ¬ id = x.Id := fun e => h e.symm
 simp [this]
theorem repB_gone : ¬ Ub (U6 K F id) id := by
 rintro ⟨f, hf, _, h⟩
 exact ((repB_mem id).1 hf).2 h
include hi
theorem known_A {x : T_sync_Fact} (hx : x ∈ F) : knowsB (repA K F id).knows_ x.Dot = true := by
 have h := hi.dot x hx
 have h3 : x.Dot.N ≤ K x.Dot.Device.toNat := h.2.2
 unfold knowsB
 rw [decide_eq_true_eq]
 refine ⟨h.1, h.2.1, ?_⟩
 rw [repA_knows id]
 unfold Q7
 split
 ·rename_i e; rw [e] at h3; omega
 ·exact h3
theorem known_B {x : T_sync_Fact} (hx : x ∈ F) : knowsB (U6 K F id).knows_ x.Dot = true := by
 have h := hi.dot x hx
 have h3 : x.Dot.N ≤ K x.Dot.Device.toNat := h.2.2
 unfold knowsB
 rw [decide_eq_true_eq]
 refine ⟨h.1, h.2.1, ?_⟩
 show _ ≤ maxU 16 K _ _
 unfold maxU
 rw [if_pos (by omega)]
 omega
theorem meet_A : Yh ⟨1, K, F⟩ (repA K F id) = some (0, U6 K F id) := by
 have hlen : F.length ≤ 5000 := hi.len
 have e1 : F.filter (Wy (Ur [] (repA K F id).facts_) (repA K F id).knows_) = F.filter fun x => !decide (x.Id = id) := List.filter_congr fun x hx => by
  unfold Wy
  rw [known_A hi id hx, Bool.not_true, Bool.or_false, Bool.eq_iff_iff, inF_iff]
  constructor
  ·rintro ⟨f, hf, he⟩
   have hf := (repA_mem id).1 hf
   rw [hi.dist f hf.1 x hx he] at hf
   simpa using hf.2
  ·intro h
   exact ⟨x, (repA_mem id).2 ⟨hx, by simpa using h⟩, rfl⟩
 have e2 : (repA K F id).facts_.filter (V1 K (Ur [] F)) = [] := List.filter_eq_nil_iff.2 fun x hx => by
  have hx := (repA_mem id).1 hx
  have : inF (Ur [] F) (Wf x) = true := (inF_iff F _).2 ⟨x, hx.1, rfl⟩
  unfold V1
  rw [this]; simp
 have hl1 : (F.filter fun x => !decide (x.Id = id)).length ≤ 5000 := Nat.le_trans (List.length_filter_le ..) hlen
 have hA : (repA K F id).facts_.length ≤ 5000 := by
  unfold repA Ud
  rw [sortF_len, List.append_nil]; exact hl1
 obtain ⟨add, h1, _, h3⟩ := meet_ok ⟨1, K, F⟩ (repA K F id) hlen hA (by
  show Dist (F.filter _ ++ List.filter (V1 K (Ur [] F)) _)
  rw [e1, e2, List.append_nil]
  exact hi.dist.sub fun x hx => (List.mem_filter.1 hx).1)
 have h0 : add = [] := by
  have h1 : add.Sublist (List.filter (V1 K (Ur [] F)) (repA K F id).facts_) := h1
  rw [e2] at h1; exact List.sublist_nil.1 h1
 subst h0
 rw [h3, List.append_nil]
 show (if 5000 < ((F.filter (Wy (Ur [] (repA K F id).facts_) (repA K F id).knows_)).length : Int) then some (4, (⟨1, K, F⟩ : T_sync_Replica)) else some (0, ⟨1, maxU 16 K (repA K F id).knows_, sortF (F.filter (Wy (Ur [] (repA K F id).facts_) (repA K F id).knows_))⟩)) = _
 rw [e1, if_neg (by omega)]
 rfl
theorem repB_len : (U6 K F id).facts_.length ≤ 5000 := by
 have hlen : F.length ≤ 5000 := hi.len
 show (sortF _).length ≤ _
 rw [sortF_len]
 exact Nat.le_trans (List.length_filter_le ..) hlen
theorem meet_C (hm : Made ⟨2, K, F⟩ ([(⟨⟨0, 0⟩, 0, 2, id, [], s, []⟩ : T_sync_Fact), agn id w].map (Wx ⟨2, K, F⟩ t)))
  (hl : (F.filter fun y => !goneL [(⟨⟨0, 0⟩, 0, 2, id, [], s, []⟩ : T_sync_Fact), agn id w] y).length + ([(⟨⟨0, 0⟩, 0, 2, id, [], s, []⟩ : T_sync_Fact), agn id w].map (Wx ⟨2, K, F⟩ t)).length ≤ 5000) :
  ∃ D, Yh (U6 K F id) (Ud ⟨2, K, F⟩ (goneL [(⟨⟨0, 0⟩, 0, 2, id, [], s, []⟩ : T_sync_Fact), agn id w]) ([(⟨⟨0, 0⟩, 0, 2, id, [], s, []⟩ : T_sync_Fact), agn id w].map (Wx ⟨2, K, F⟩ t))) = some (0, D) ∧ D.facts_.length ≤ 5000 ∧ Ub D id ∧ ∃ f, Qu (starsOf D id) = some f ∧ f.Num = s := by
 have hlen : F.length ≤ 5000 := hi.len
 have hi2 : Inv n ⟨2, K, F⟩ := hi.at ⟨by omega, by omega⟩
 have hg : ∀ x : T_sync_Fact, x.Id ≠ id → goneL [(⟨⟨0, 0⟩, 0, 2, id, [], s, []⟩ : T_sync_Fact), agn id w] x = false := fun x h => goneS_iff id s h
 generalize hst : Wx (⟨2, K, F⟩ : T_sync_Replica) t ⟨⟨0, 0⟩, 0, 2, id, [], s, []⟩ = star
 generalize hph : Wx (⟨2, K, F⟩ : T_sync_Replica) t (agn id w) = photo
 have hst' : star.Kind = 2 ∧ star.Id = id ∧ star.Num = s := by rw [← hst]; exact ⟨rfl, rfl, rfl⟩
 have hph' : photo.Kind = 1 ∧ photo.Id = id := by rw [← hph]; exact ⟨rfl, rfl⟩
 have hmd : ([(⟨⟨0, 0⟩, 0, 2, id, [], s, []⟩ : T_sync_Fact), agn id w].map (Wx ⟨2, K, F⟩ t)) = [star, photo] := by rw [← hst, ← hph]; rfl
 rw [hmd] at hm hl ⊢
 generalize goneL [(⟨⟨0, 0⟩, 0, 2, id, [], s, []⟩ : T_sync_Fact), agn id w] = G at hl hg ⊢
 have hCm : ∀ {x}, x ∈ (Ud ⟨2, K, F⟩ G [star, photo]).facts_ ↔ (x ∈ F ∧ G x = false) ∨ x ∈ [star, photo] := eventL_mem
 have hCd : Dist (Ud ⟨2, K, F⟩ G [star, photo]).facts_ := eventL_dist hi2 hm G
 have hCl : (Ud ⟨2, K, F⟩ G [star, photo]).facts_.length ≤ 5000 := by unfold Ud; rw [sortF_len, List.length_append]; exact hl
 have hCp : (Ud ⟨2, K, F⟩ G [star, photo]).facts_.Perm ((F.filter fun f => !G f) ++ [star, photo]) := sortF_perm _
 generalize (Ud ⟨2, K, F⟩ G [star, photo]) = C at hCm hCd hCl hCp ⊢
 have hk2 : (U6 K F id).knows_ 2 = K 2 := by
  show maxU 16 K (repA K F id).knows_ 2 = _
  unfold maxU
  rw [if_pos (by omega), repA_knows id]
  unfold Q7
  rw [if_neg (by omega)]
  omega
 have hdot : ∀ x ∈ [star, photo], x.Dot = ⟨2, K 2 + 1⟩ := fun x hx => hm.dot x hx
 have hnew : ∀ x ∈ [star, photo], V1 (U6 K F id).knows_ (Ur [] (U6 K F id).facts_) x = true := fun x hx => by
  have hd := hdot x hx
  have h1 : inF (Ur [] (U6 K F id).facts_) (Wf x) = false := by
   rw [Bool.eq_false_iff]
   intro h
   obtain ⟨f, hf, he⟩ := (inF_iff _ _).1 h
   have hf := ((repB_mem id).1 hf).1
   have h2 := (hi.dot f hf).2.2
   rw [(one_dot he).1, hd] at h2
   have h2 : K 2 + 1 ≤ K 2 := h2
   omega
  have h2 : knowsB (U6 K F id).knows_ x.Dot = false := by
   unfold knowsB
   rw [decide_eq_false_iff_not, hd]
   rintro ⟨_, _, h⟩
   have h : K 2 + 1 ≤ (U6 K F id).knows_ 2 := h
   omega
  unfold V1
  rw [h1, h2]; rfl
 have hold : ∀ x ∈ F, V1 (U6 K F id).knows_ (Ur [] (U6 K F id).facts_) x = false := fun x hx => by
  unfold V1
  rw [known_B hi id hx]; simp
 have e1 : (U6 K F id).facts_.filter (Wy (Ur [] C.facts_) C.knows_) = (U6 K F id).facts_ := List.filter_eq_self.2 fun x hx => by
  have hx := (repB_mem id).1 hx
  unfold Wy
  rw [(inF_iff _ _).2 ⟨x, hCm.2 (.inl ⟨hx.1, hg x hx.2⟩), rfl⟩]; rfl
 have hfm : ∀ x ∈ C.facts_.filter (V1 (U6 K F id).knows_ (Ur [] (U6 K F id).facts_)), x ∈ [star, photo] := fun x hx => by
  have hx := List.mem_filter.1 hx
  rcases hCm.1 hx.1 with h | h
  ·rw [hold x h.1] at hx; exact absurd hx.2 (by simp)
  ·exact h
 have hfl : (C.facts_.filter (V1 (U6 K F id).knows_ (Ur [] (U6 K F id).facts_))).length ≤ 2 := by
  rw [(hCp.filter _).length_eq, List.filter_append, List.length_append, List.filter_eq_nil_iff.2 fun x hx => by rw [hold x (List.mem_filter.1 hx).1]; simp]
  have := List.length_filter_le (V1 (U6 K F id).knows_ (Ur [] (U6 K F id).facts_)) [star, photo]
  simp at this ⊢
  omega
 obtain ⟨add, h1, h2, h3⟩ := meet_ok (U6 K F id) C (repB_len hi id) hCl (by
  rw [e1]
  refine (hi2.distE hm fun _ => true).sub fun x hx => ?_
  rcases List.mem_append.1 hx with h | h
  ·exact List.mem_append_left _ (List.mem_filter.2 ⟨((repB_mem id).1 h).1, rfl⟩)
  ·exact List.mem_append_right _ (hfm x h))
 have hadd : ∀ x ∈ [star, photo], x ∈ add := fun x hx => by
  obtain ⟨y, hy, he⟩ := h2 x (hCm.2 (.inr hx)) (hnew x hx)
  have hy2 := (List.mem_filter.1 (h1.subset hy)).1
  rw [← hCd y hy2 x (hCm.2 (.inr hx)) he]; exact hy
 have hal : add.length ≤ 2 := Nat.le_trans h1.length_le hfl
 have hBl : (U6 K F id).facts_.length ≤ (F.filter fun y => !G y).length := by
  show (sortF _).length ≤ _
  rw [sortF_len]
  exact (filter_sub (fun x hx => by rw [hg x (by simpa using hx)]; rfl) F).length_le
 have hl : (F.filter fun y => !G y).length + 2 ≤ 5000 := hl
 have hfin : ((U6 K F id).facts_ ++ add).length ≤ 5000 := by rw [List.length_append]; omega
 rw [h3, e1, if_neg (by omega)]
 refine ⟨_, rfl, by show (sortF _).length ≤ _; rw [sortF_len]; exact hfin, ⟨photo, sortF_mem.2 (List.mem_append_right _ (hadd photo (by simp))), hph'.1, hph'.2⟩, ?_⟩
 obtain ⟨f, hf1, hf2, _⟩ := latest_ok (starsOf ⟨(U6 K F id).device_, maxU 16 (U6 K F id).knows_ C.knows_, sortF ((U6 K F id).facts_ ++ add)⟩ id) (by
  unfold starsOf
  refine Nat.le_trans (List.length_filter_le ..) ?_
  show (sortF _).length ≤ _
  rw [sortF_len]; omega)
 refine ⟨f, hf1, ?_⟩
 have hne : starsOf ⟨(U6 K F id).device_, maxU 16 (U6 K F id).knows_ C.knows_, sortF ((U6 K F id).facts_ ++ add)⟩ id ≠ [] := by
  refine List.ne_nil_of_mem (a := star) ?_
  unfold starsOf
  rw [List.mem_filter]
  refine ⟨sortF_mem.2 (List.mem_append_right _ (hadd star (by simp))), ?_⟩
  rw [hst'.1, hst'.2.1]; simp
 have hm2 := hf2 hne
 unfold starsOf at hm2
 obtain ⟨hm3, hm4⟩ := List.mem_filter.1 hm2
 simp only [Bool.and_eq_true, decide_eq_true_eq] at hm4
 rcases List.mem_append.1 (sortF_mem.1 hm3) with h | h
 ·exact absurd hm4.2 ((repB_mem id).1 h).2
 ·have := hfm f (h1.subset h)
  simp only [List.mem_cons, List.not_mem_nil, or_false] at this
  rcases this with h | h
  ·rw [h]; exact hst'.2.2
  ·rw [h, hph'.1] at hm4; exact absurd hm4.1 (by omega)
include hn in
theorem stays_from : (J9 (Y1 ⟨0, K, F⟩ id) fun t33 =>
 Qt (decide (t33.1 ≠ 0)) (some true) (J9 (Yh ⟨1, K, F⟩ t33.2) fun t37 =>
 Qt (decide (t37.1 ≠ 0)) (some false) (J9 (X3 t37.2) fun t41 =>
 J9 (Yx t41 (Ux id)) fun t43 =>
 Qt t43 (some false) (J9 (Z0 ⟨2, K, F⟩ id s) fun t48 =>
 Qt (decide (t48.1 ≠ 0)) (some true) (J9 (Yh t37.2 t48.2) fun t52 =>
 Qt (decide (t52.1 ≠ 0)) (some false) (J9 (X3 t52.2) fun t55 =>
 J9 (Yf t55 (Uu id)) fun t57 =>
 Qt (decide (0 ≤ t57)) (J9 (X3 t52.2) fun t62 =>
 J9 (Q1 t62 t57) fun t64 =>
 some (decide (t64.Stars = s))) (some false))))))) = some true := by
 have hlen : F.length ≤ 5000 := hi.len
 unfold Y1
 rw [Jau _ id (show F.length ≤ _ by omega), Jh]
 by_cases hs : Ub ⟨0, K, F⟩ id
 ·rw [Yu hs, Bool.not_true, Jn, event_eq (f := W8 id) hi hn (fun x => decide (x.Id = id)) (Made.nil _) (by simp) (fun x _ => rfl), Jh, Jh]
  dsimp only
  rw [Yi (by simp), Jn, show Ud ⟨0, K, F⟩ (fun x => decide (x.Id = id)) [] = repA K F id from rfl, meet_A hi id, Jh]
  dsimp only
  obtain ⟨o1, h1, h2, h3, _⟩ := Shown_ok (U6 K F id) (by have := repB_len hi id; omega)
  have hno : o1.any (fun x => decide (x.Id = id)) = false := by
   rw [List.any_eq_false]
   intro x hx h
   have h := of_decide_eq_true h
   have := (h3 x hx).1
   rw [h] at this
   exact repB_gone id this
  unfold Yx
  rw [Yi (by simp), Jn, h1, Jh, index_Shown (f := Ux id) o1 id (by omega) (fun x _ => rfl), Jh, idx_nn, hno, Jh, Jn]
  unfold Z0
  have hi2 : Inv n ⟨2, K, F⟩ := hi.at ⟨by omega, by omega⟩
  obtain ⟨e, r', g1, g2⟩ := say_ok hi2 hn ⟨⟨0, 0⟩, 0, 2, id, [], s, []⟩ (by simp) (by simp)
  rw [g1, Jh, Jh]
  dsimp only
  rcases g2 with ⟨he, _⟩ | ⟨he, _, t, w, hm, hr, hl⟩
  ·rw [Yu he, Ju]
  ·obtain ⟨D, d1, d2, d3, f, d4, d5⟩ := meet_C hi id s hm hl
   rw [Yi (by simpa using he), Jn, hr, d1, Jh]
   dsimp only
   obtain ⟨o2, k1, k2, k3, k4⟩ := Shown_ok D (by omega)
   obtain ⟨x, hx, hx2⟩ := k4 id d3
   obtain ⟨k, hk, e1, e2⟩ := idx_spec (g := fun x : T_sync_Shown => decide (x.Id = id)) (l := o2) ⟨x, hx, decide_eq_true hx2⟩
   rw [Yi (by simp), Jn, k1, Jh, index_Shown (f := Uu id) o2 id (by omega) (fun x _ => rfl), Jh, e1, Yu (by omega), Ju, Jh, Zs hk, Jh]
   have e2 := of_decide_eq_true e2
   obtain ⟨_, f', m1, m2⟩ := k3 _ (List.getElem_mem hk)
   rw [e2, d4] at m1
   cases m1
   rw [Yu (m2.trans d5)]
 ·rw [Yi hs, Bool.not_false, Ju, Jh]
  dsimp only
  rw [Yu (by simp), Ju]
end
theorem syncStays_all (l : List T_tintkeep2_Deed) (hl : l.length ≤ 9000000000000000000) (id s : Int) : Jaq l id s = some true := by
 unfold Jaq
 obtain ⟨n, K, F, hn, hi, hrep⟩ := replicas_ok l hl
 rw [awake_eq, Jh, Bool.not_true, Jn, hrep, Jh]
 dsimp only
 rw [Bool.not_true, Jn, Jh]
 exact stays_from hi (by omega) id s
theorem syncStaysS (l : List T_tintkeep2_Deed) (id s : Int) {φ ψ χ : Prop} (h : (l.length ≤ 9223372036854775807 ∧ l.length * 48 ≤ 140737488351232) ∧ φ) (_ : ψ) (_ : χ) : Jaq l id s = some true := syncStays_all l (by omega) id s
end Go.M

/- What a claim says of a call's arguments, as rows: slices, arrays, structs, strings. Conditions: none. -/
namespace Go.Vc
open Go
variable {H : Type} {enc : TypeId × Value → H} {P : Program} {w : World} {base : Nat} {spare : Nat → Bool} {held : Bool}
theorem cells_addr {w : World} {base k : Nat} {a : Addr} {cs : List Value} (h : w.cells? base a k = some cs) : cs.length = k ∧ ∀ i, i < k → w.cell? (a.add i) = cs[i]? :=
 (World.cells?_some h).2
theorem cell_spot {w : World} {a : Addr} {v : Value} (h : w.cell? a = some v) : a.spot = none := by
 unfold World.cell? at h
 split at h
 ·split at h
  ·cases h
  ·rename_i hs; simpa using hs
 ·cases h
theorem op_int {t fuel : Nat} {k : IntKind} {cs : List Value} {x : DataW H × List MemPlace} (ht : P.underlying t = some (.int k)) (h : DataW.trod enc P w base spare held fuel t cs = some x) : ∃ n : Int, cs = [.int k n] ∧ (Lit.int k n).wf = true := by
 obtain ⟨n, h1, _, h2⟩ := DataW.trod_int ht h
 exact ⟨n, h1, h2⟩
end Go.Vc

/- What a claim says of a call's arguments, as values of plain types: parts of structs, arrays, slices. Conditions: none. -/
namespace Go.Lx
open Go Go.Vc Go.Md
variable {H : Type} {enc : TypeId × Value → H} {P : Program} {w : World} {base : Nat} {spare : Nat → Bool} {held : Bool}
theorem piece {cs l : List Value} {o s : Nat} (h : (cs.drop o).take s = l) (hl : l.length = s) : cs.drop o = l ++ cs.drop (o + s) := by
 have := List.take_append_drop s (cs.drop o)
 rw [h, List.drop_drop] at this
 exact this.symm
theorem Row.snap {w : World} {a : Option Addr} {sz : Nat} {xs : List (List Value)} (h : Row w a sz xs) (hsz : 0 < sz) : RowH (fun b => w.heap[b]?) a sz xs := by
 rcases h with h | ⟨b, off, ha, h⟩
 ·exact .inl h
 ·cases xs with
  | nil => exact .inl rfl
  | cons x r =>
   have h0 := h 0 x rfl
   have hv := h0.2 0 x[0] (by simp [h0.1, hsz])
   unfold World.cell? at hv
   split at hv
   ·rename_i c T m hb
    refine .inr ⟨b, off, c, T, m, ha, hb, fun i y hy => ⟨(h i y hy).1, fun j v hj => ?_⟩⟩
    have := (h i y hy).2 j v hj
    unfold World.cell? at this
    rw [hb] at this
    simpa using this
   ·cases hv
theorem val_cell {r : Reach} {b0 t : Nat} {v : Value} (ht : (match P.underlying t with | some (.int _) | some (.slice _) | some .string | some .bool => true | _ => false) = true) (hval : Value.okWide P w r b0 t v) : v.cells.toList = [v] := by
 unfold Value.okWide at hval
 split at hval
 ·rename_i h; rw [h] at ht; cases ht
 ·rename_i h; rw [h] at ht; cases ht
 ·cases v with
  | agg cs =>
   exfalso
   unfold Cell.okWide at hval
   split at ht <;> simp_all [Cell.ok]
  | _ => rfl
end Go.Lx

/- What a claim says of a call's arguments, where their bulk is bounded. Conditions: none. -/
namespace Go.Vc
open Go Go.Lx
variable {H : Type} {enc : TypeId × Value → H} {P : Program} {w : World} {base : Nat} {spare : Nat → Bool} {held : Bool}
structure BK (bk : DataW H → Nat) : Prop where
 slice : ∀ (es rs : List (DataW H)) (d : DataW H), d ∈ es → bk d ≤ bk (.slice es rs)
 agg : ∀ (es : List (DataW H)) (d : DataW H), d ∈ es → bk d ≤ bk (.agg es)
 str : ∀ bs : List UInt8, bs.length ≤ bk (.lit (.string bs))
end Go.Vc

/- What a claim says of a call's arguments, with the reach of the claim's form: no string and no slice is larger than it. Conditions: none. -/
namespace Go.Vc
open Go Go.Lx
variable {H : Type} {enc : TypeId × Value → H} {P : Program} {w : World} {base : Nat} {spare : Nat → Bool} {held : Bool}
def Wt (P : Program) (B : Nat) (t : TypeId) (d : DataW H) : Prop := ∀ n ∈ DataW.weights P t d, n ≤ B
theorem mem_each {n : Nat} : ∀ (ts : List TypeId) (ds : List (DataW H)) (i : Nat) (t : TypeId) (d : DataW H), ts[i]? = some t → ds[i]? = some d → n ∈ DataW.weights P t d → n ∈ DataW.weightsEach P ts ds
 | [], _, i, t, d, h, _, _ => by simp at h
 | t' :: ts, [], i, t, d, _, h, _ => by simp at h
 | t' :: ts, d' :: ds, 0, t, d, h1, h2, h3 => by
  simp at h1 h2; subst h1 h2
  simp only [DataW.weightsEach, List.mem_append]; exact .inl h3
 | t' :: ts, d' :: ds, i + 1, t, d, h1, h2, h3 => by
  simp only [DataW.weightsEach, List.mem_append]
  exact .inr (mem_each ts ds i t d (by simpa using h1) (by simpa using h2) h3)
theorem mem_all {n : Nat} {e : TypeId} : ∀ (ds : List (DataW H)) (d : DataW H), d ∈ ds → n ∈ DataW.weights P e d → n ∈ DataW.weightsAll P e ds
 | [], _, h, _ => by cases h
 | d' :: ds, d, h, h3 => by
  simp only [DataW.weightsAll, List.mem_append]
  rcases List.mem_cons.1 h with rfl | h
  ·exact .inl h3
  ·exact .inr (mem_all ds d h h3)
theorem wt_arg {B : Nat} {ts : List TypeId} {ds : List (DataW H)} (h : (DataW.weightsEach P ts ds).all (· ≤ B) = true) (i : Nat) {t : TypeId} {d : DataW H} (ht : ts[i]? = some t) (hd : ds[i]? = some d) : Wt P B t d := fun n hn => by
 have := List.all_eq_true.1 h n (mem_each ts ds i t d ht hd hn)
 simpa using this
theorem op_stringW {B t fuel : Nat} {cs : List Value} {x : DataW H × List MemPlace} (hB : Wt P B t x.1) (ht : P.underlying t = some .string) (h : DataW.trod enc P w base spare held fuel t cs = some x) : ∃ s : List UInt8, cs = [str s] ∧ s.length ≤ 9223372036854775807 ∧ s.length ≤ B := by
 obtain ⟨s, h1, h3, h2⟩ := DataW.trod_string ht h
 have e : s.data.toList.length = s.size := by rw [Array.length_toList]; rfl
 refine ⟨s.data.toList, by rw [h1], by rw [e]; unfold maxLen at h2; omega, ?_⟩
 rw [h3] at hB
 exact hB _ (by simp [DataW.weights])
theorem op_fieldW {B t fuel i ft fo sz bo : Nat} {nm tg pk : String} {em : Bool} {fs : Array Field} {cs : List Value} {x : DataW H × List MemPlace} (hB : Wt P B t x.1) (ht : P.underlying t = some (.struct fs)) (hf : fs[i]? = some ⟨nm, ft, fo, em, tg, pk, bo⟩) (hc : P.cellsOf ft = sz) (h : DataW.trod enc P w base spare held fuel t cs = some x) :
  ∃ n y, DataW.trod enc P w base spare held n ft ((cs.drop fo).take sz) = some y ∧ Wt P B ft y.1 := by
 subst hc
 obtain ⟨xs, n, _, hx, _, hl, hp⟩ := DataW.trod_struct ht h
 have h1 := hp i _ hf
 have hi : i < fs.size := by
  rcases Nat.lt_or_ge i fs.size with h | h
  ·exact h
  ·rw [Array.getElem?_eq_none h] at hf; cases hf
 rw [List.getElem?_eq_getElem (by omega)] at h1
 refine ⟨n, _, h1, fun k hk => hB k ?_⟩
 rw [hx]
 simp only [DataW.weights, ht]
 have hft : (fs.toList.map (·.type))[i]? = some ft := by rw [List.getElem?_map, Array.getElem?_toList, hf]; rfl
 exact mem_each _ _ i ft _ hft (by rw [List.getElem?_map, List.getElem?_eq_getElem (by omega)]; rfl) hk
theorem op_sliceW {B by_ : Nat} {α : Type} {f : α → List Value} {good : α → Prop} {t e sz fuel : Nat} {cs : List Value} {x : DataW H × List MemPlace} (hB : Wt P B t x.1) (ht : P.underlying t = some (.slice e)) (hc : P.cellsOf e = sz) (hsz : Nat.blt 0 sz = true) (hby : P.bytesOf e = by_)
  (hD : ∀ n cs x, Wt P B e x.1 → cs.length = sz → DataW.trod enc P w base spare held n e cs = some x → ∃ a, cs = f a ∧ good a) (h : DataW.trod enc P w base spare held fuel t cs = some x) :
  ∃ (v : Value) (xs : List α), cs = [v] ∧ FrS (fun b => w.heap[b]?) sz v (xs.map f) ∧ (xs.length ≤ 9223372036854775807 ∧ xs.length * by_ ≤ B) ∧ ∀ x ∈ xs, good x := by
 subst hby
 have h' := h
 rcases DataW.trod_slice ht h with ⟨rfl, _⟩ | ⟨a, len, cap, elems, rest, n, _, rfl, hx, _, hl, hm, hlen, hel, _⟩
 ·exact ⟨_, [], rfl, FrS.nil _ _, ⟨by simp, by simp⟩, by simp⟩
 ·-- the elements, and no others
  have each : ∀ i : Fin len, ∃ a' : α, w.cells? base (a.add (i * sz)) sz = some (f a') ∧ good a' := by
   intro i
   have hi := hel i i.2
   rw [hc] at hi
   have hlt : (i : Nat) < elems.length := by rw [hlen]; exact i.2
   rw [List.getElem?_eq_getElem hlt, Option.bind_eq_some_iff] at hi
   obtain ⟨cs', h1, h2⟩ := hi
   have hb : Wt P B e (elems[(i : Nat)]).1 := fun k hk => hB k (by
    rw [hx]
    simp only [DataW.weights, ht, List.mem_cons, List.mem_append]
    exact .inr (.inl (mem_all _ _ (List.mem_map.2 ⟨_, List.getElem_mem _, rfl⟩) hk)))
   obtain ⟨a', rfl, hg⟩ := hD _ _ _ hb (cells_addr h1).1 h2
   exact ⟨a', h1, hg⟩
  have hsz' : 0 < sz := by simpa using hsz
  have hch : ∃ g : Fin len → α, ∀ i : Fin len, w.cells? base (a.add (i * sz)) sz = some (f (g i)) ∧ good (g i) := ⟨fun i => (each i).choose, fun i => (each i).choose_spec⟩
  obtain ⟨g, hg⟩ := hch
  have hrow : Row w (some a) sz ((List.ofFn g).map f) := by
   cases len with
   | zero => left; simp
   | succ k =>
    have h0 := hg 0
    have hsp : a.spot = none := by
     have := (cells_addr h0.1).2 0 hsz'
     have hln := (cells_addr h0.1).1
     rw [List.getElem?_eq_getElem (by omega)] at this
     have hs := cell_spot this
     simpa [Addr.add] using hs
    obtain ⟨b, off, spot⟩ := a
    simp only at hsp
    subst hsp
    refine .inr ⟨b, off, rfl, fun i x hx => ?_⟩
    have hi : i < k + 1 := by
     rcases Nat.lt_or_ge i (k + 1) with h | h
     ·exact h
     ·rw [List.getElem?_eq_none (by simpa using h)] at hx; cases hx
    have hx' : x = f (g ⟨i, hi⟩) := by
     rw [List.getElem?_map, List.getElem?_ofFn, dif_pos hi] at hx
     exact (Option.some.inj hx).symm
    subst hx'
    obtain ⟨c1, c2⟩ := cells_addr (hg ⟨i, hi⟩).1
    refine ⟨c1, fun j v hv => ?_⟩
    have hj : j < sz := by
     rcases Nat.lt_or_ge j sz with h | h
     ·exact h
     ·rw [List.getElem?_eq_none (by omega)] at hv; cases hv
    have := c2 j hj
    rw [hv, Addr.add_lit, Addr.add_lit] at this
    exact this
  have hm' : cap ≤ 9223372036854775807 := by simpa [maxLen] using hm
  refine ⟨_, List.ofFn g, rfl, ⟨⟨some a, cap, by simp, by simpa using hl, hm', Row.snap hrow hsz'⟩⟩, ⟨by simp; omega, ?_⟩, ?_⟩
  ·have := hB ((elems.length + rest.length) * P.bytesOf e) (by rw [hx]; simp [DataW.weights, ht])
   rw [List.length_ofFn]
   refine Nat.le_trans (Nat.mul_le_mul_right _ ?_) this
   omega
  intro x hx
  rw [List.mem_ofFn] at hx
  obtain ⟨i, rfl⟩ := hx
  exact (hg i).2
end Go.Vc
