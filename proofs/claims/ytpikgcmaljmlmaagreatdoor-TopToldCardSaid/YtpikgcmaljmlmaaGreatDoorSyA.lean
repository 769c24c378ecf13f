/- The order of facts, and the loops over facts, in plain Lean. Conditions: few elements. -/
import Derived.Test.YtpikgcmaljmlmaaGreatDoorLx4
import Derived.Test.YtpikgcmaljmlmaaGreatDoorKTc
import Derived.Test.YtpikgcmaljmlmaaGreatDoorMd
import Derived.ProofKit
import Derived.OpenShut
import Derived.ChangeArms
import Derived.DataReads
import Derived.SizedLaws
namespace Go.M
open Go.Md Go.Pl
set_option linter.unusedVariables false
theorem ltB_no {a b : List UInt8} (h : ltB a b = true) : ltB b a = false := by
 have := Go.Lx.ltB_gt a b
 rw [h] at this
 simpa using this.symm
theorem ltB_tri {a b : List UInt8} (h : ltB a b = false) (h2 : ltB b a = false) : a = b := by
 have := Go.Lx.ltB_gt a b
 rw [h, h2] at this
 simpa using this
theorem ltB_trans : ∀ {a b c : List UInt8}, ltB a b = true → ltB b c = true → ltB a c = true
 | [], [], _, h, _ => by cases h
 | _ :: _, [], _, h, _ => by cases h
 | _, _ :: _, [], _, h => by cases h
 | [], _ :: _, _ :: _, _, _ => rfl
 | a :: s1, b :: s2, c :: s3, h1, h2 => by
  rw [ltB] at h1 h2 ⊢
  simp only [Bool.or_eq_true, decide_eq_true_eq, Bool.and_eq_true, beq_iff_eq] at h1 h2 ⊢
  rcases h1 with h1 | ⟨rfl, h1⟩
  ·rcases h2 with h2 | ⟨rfl, h2⟩
   ·exact .inl (UInt8.lt_trans h1 h2)
   ·exact .inl h1
  ·rcases h2 with h2 | ⟨rfl, h2⟩
   ·exact .inl h2
   ·exact .inr ⟨rfl, ltB_trans h1 h2⟩
structure Cmp {α : Type} (c : α → α → Int) : Prop where
 flip : ∀ x y, c x y < 0 ↔ 0 < c y x
 trans : ∀ x y z, c x y ≤ 0 → c y z ≤ 0 → c x z ≤ 0
theorem Cmp.lex {α : Type} {a b : α → α → Int} (ha : Cmp a) (hb : Cmp b) : Cmp fun x y => if a x y ≠ 0 then a x y else b x y := by
 refine ⟨fun x y => ?_, fun x y z => ?_⟩
 ·have h1 := ha.flip x y
  have h2 := ha.flip y x
  have h3 := hb.flip x y
  simp only [ne_eq, ite_not]
  split <;> split <;> omega
 ·have h1 := ha.flip x y
  have h2 := ha.flip y x
  have h3 := ha.flip y z
  have h4 := ha.flip z y
  have h5 := ha.flip x z
  have h6 := ha.flip z x
  have t1 := ha.trans x y z
  have t2 := ha.trans z x y
  have t3 := ha.trans y z x
  have t4 := hb.trans x y z
  simp only [ne_eq, ite_not]
  split <;> split <;> split <;> omega
theorem Cmp.int {α : Type} (k : α → Int) : Cmp fun x y => Lib.compareInt (k x) (k y) := by
 refine ⟨fun x y => ?_, fun x y z => ?_⟩
 ·simp only [Lib.compareInt]; split <;> split <;> (try split) <;> (try split) <;> omega
 ·simp only [Lib.compareInt]; split <;> split <;> (try split) <;> (try split) <;> (try split) <;> omega
theorem cS_zero {a b : List UInt8} (h : Go.Proofs.cS a b = 0) : a = b := by
 unfold Go.Proofs.cS at h
 split at h
 ·omega
 ·split at h
  ·omega
  ·exact ltB_tri (by simp_all) (by simp_all)
theorem cS_le {a b : List UInt8} : Go.Proofs.cS a b ≤ 0 ↔ ltB b a = false := by
 unfold Go.Proofs.cS
 cases h1 : ltB a b
 ·cases h2 : ltB b a <;> simp
 ·simp [ltB_no h1]
theorem cS_lt {a b : List UInt8} : Go.Proofs.cS a b < 0 ↔ ltB a b = true := by
 unfold Go.Proofs.cS
 cases h1 : ltB a b
 ·cases h2 : ltB b a <;> simp
 ·simp
theorem cS_gt {a b : List UInt8} : 0 < Go.Proofs.cS a b ↔ ltB b a = true := by
 have := @cS_le a b
 cases h : ltB b a
 ·have := this.2 h; simp; omega
 ·simp [h] at this; simp; omega
theorem Cmp.str {α : Type} (k : α → List UInt8) : Cmp fun x y => Go.Proofs.cS (k x) (k y) := by
 refine ⟨fun x y => cS_lt.trans cS_gt.symm, fun x y z h1 h2 => ?_⟩
 rw [cS_le] at h1 h2 ⊢
 cases h : ltB (k z) (k x) with
 | false => rfl
 | true =>
  exfalso
  cases h3 : ltB (k x) (k y) with
  | true => rw [ltB_trans h h3] at h2; cases h2
  | false => rw [ltB_tri h1 h3] at h2; rw [h2] at h; cases h
theorem Cmp.pre {α : Type} {c : α → α → Int} (h : Cmp c) {f : α → α → Option Int} (hf : ∀ x y, f x y = some (c x y)) : CmpPre f := by
 refine ⟨fun x y => ⟨_, hf x y⟩, fun x y => ?_, fun x y z => ?_⟩
 ·rw [hf, hf]; exact h.flip x y
 ·rw [hf, hf, hf]; exact h.trans x y z
theorem Jab {a b : Int} (h : Lib.compareInt a b = 0) : a = b := by
 unfold Lib.compareInt at h
 split at h
 ·omega
 ·split at h <;> omega
def Vz (f : T_sync_Fact) : T_sync_Fact := ⟨f.Dot, 0, f.Kind, f.Id, f.Name, 0, []⟩
theorem one_eq (f : T_sync_Fact) : sync_one f = some (Vz f) := rfl
theorem facts_pre : CmpPre Xk :=
 Cmp.pre ((Cmp.int fun x : T_sync_Fact => x.Kind).lex ((Cmp.int fun x => x.Id).lex ((Cmp.str fun x => x.Name).lex ((Cmp.int fun x => x.Dot.Device).lex (Cmp.int fun x => x.Dot.N))))) Go.Proofs.Tryz.facts_model
theorem facts_zero {x y : T_sync_Fact} (h : (Xk x y).getD 0 = 0) : Vz x = Vz y := by
 rw [Go.Proofs.Tryz.facts_model] at h
 simp only [Option.getD_some, ne_eq, ite_not] at h
 split at h
 ·rename_i h1
  split at h
  ·rename_i h2
   split at h
   ·rename_i h3
    split at h
    ·rename_i h4
     have e1 := Jab h1
     have e2 := Jab h2
     have e3 := cS_zero h3
     have e4 := Jab h4
     have e5 := Jab h
     obtain ⟨⟨d, n⟩, t, k, i, m, u, v⟩ := x
     obtain ⟨⟨d', n'⟩, t', k', i', m', u', v'⟩ := y
     simp only at e1 e2 e3 e4 e5
     subst e1 e2 e3 e4 e5
     rfl
    ·omega
   ·omega
  ·omega
 ·omega
def Dist (l : List T_sync_Fact) : Prop := ∀ x ∈ l, ∀ y ∈ l, Vz x = Vz y → x = y
noncomputable def Wh (l : List T_sync_Fact) : List T_sync_Fact := l.mergeSort (leC Xk)
theorem sortF_perm (l : List T_sync_Fact) : (Wh l).Perm l := List.mergeSort_perm l _
theorem sortF_mem {l : List T_sync_Fact} {x : T_sync_Fact} : x ∈ Wh l ↔ x ∈ l := (sortF_perm l).mem_iff
theorem sortF_len (l : List T_sync_Fact) : (Wh l).length = l.length := (sortF_perm l).length_eq
theorem sort_eq {l : List T_sync_Fact} (hl : l.length ≤ 17592186044010) (hd : Dist l) : gSortU l Xk = some (Wh l) :=
 gSortU_ok ⟨by omega, facts_pre, fun x hx y hy h => hd x hx y hy (facts_zero h)⟩
theorem Dist.sub {l m : List T_sync_Fact} (h : Dist l) (hm : ∀ x ∈ m, x ∈ l) : Dist m := fun x hx y hy => h x (hm x hx) y (hm y hy)
theorem foldl_filter {α : Type} (g : α → Bool) : ∀ (xs s : List α), xs.foldl (fun s x => if g x = true then s ++ [x] else s) s = s ++ xs.filter g
 | [], s => by simp
 | x :: xs, s => by
  rw [List.foldl_cons, foldl_filter g xs]
  by_cases h : g x = true <;> simp [h]
theorem where_eq (r : T_sync_Replica) (f : T_sync_Fact → Option Bool) (g : T_sync_Fact → Bool) (hl : r.facts_.length ≤ 100000) (hf : ∀ x ∈ r.facts_, f x = some (g x)) : Qp r f = some (r.facts_.filter g) := by
 unfold Qp
 refine (fix_list r.facts_ (fun s x => if g x = true then s ++ [x] else s) some (fun k s => s.length ≤ k) (fun next k s hk hI => ?_) (fun next s _ => ?_) [] (Nat.le_refl _)).trans ?_
 ·simp only [Yd, Zr]
  rw [Xv (by omega), Js, Q9 hk, Jg, hf _ (List.getElem_mem hk), Jg]
  by_cases h : g r.facts_[k] = true
  ·rw [h, Js, Uh (by simp; omega), Jg, Xg (by omega), Jg, if_pos rfl]
   exact ⟨rfl, by simp; omega⟩
  ·rw [(by simpa using h : g r.facts_[k] = false), Jk, Xg (by omega), Jg, if_neg (by simp)]
   exact ⟨rfl, by omega⟩
 ·simp only [Yd]
  rw [Q6 (by omega), Jk]
 ·rw [foldl_filter]; rfl
theorem of_eq (r : T_sync_Replica) (k i : Int) (hl : r.facts_.length ≤ 100000) : Y1 r k i = some (r.facts_.filter fun f => decide (f.Kind = k) && decide (f.Id = i)) := by
 unfold Y1
 rw [where_eq r _ (fun f => decide (f.Kind = k) && decide (f.Id = i)) hl (fun x _ => by
  unfold Jal
  by_cases h : x.Kind = k <;> simp [h]), Jg]
def shownP (r : T_sync_Replica) (i : Int) : Prop := ∃ f ∈ r.facts_, f.Kind = 1 ∧ f.Id = i
open Classical in
theorem shown_eq (r : T_sync_Replica) (i : Int) (hl : r.facts_.length ≤ 100000) : W4 r i = some (decide (shownP r i)) := by
 unfold W4
 rw [of_eq r 1 i hl, Jg]
 congr 1
 rw [decide_eq_decide]
 unfold shownP
 rw [show (0 < ((r.facts_.filter fun f => decide (f.Kind = 1) && decide (f.Id = i)).length : Int)) ↔ 0 < (r.facts_.filter fun f => decide (f.Kind = 1) && decide (f.Id = i)).length by omega, List.length_pos_iff_exists_mem]
 simp [List.mem_filter]
end Go.M

/- What an event makes of a replica, in plain Lean. Conditions: a replica in order. -/
namespace Go.M
open Go.Md Go.Pl
set_option linter.unusedVariables false
def zeroF : T_sync_Fact := ⟨⟨0, 0⟩, 0, 0, 0, [], 0, []⟩
theorem later_tot (x y : T_sync_Fact) : ∃ v, sync_later x y = some v := by
 unfold sync_later
 rw [Go.Proofs.Tryz.compare_model, Jg, Go.Proofs.Tryz.compare_model, Jg, Go.Proofs.Tryz.compare_model, Jg, Go.Proofs.Tryz.or_model3, Jg]
 exact ⟨_, rfl⟩
theorem latest_ok (l : List T_sync_Fact) (hl : l.length ≤ 100000) : ∃ f, Vj l = some f ∧ (l ≠ [] → f ∈ l) ∧ (l = [] → f = zeroF) := by
 unfold Vj
 by_cases h0 : l.length = 0
 ·rw [Xv (by omega), Js]
  have := List.length_eq_zero_iff.1 h0
  exact ⟨_, rfl, fun h => absurd this h, fun _ => rfl⟩
 ·rw [Q6 (by omega), Jk]
  have key := fix_run (F := fun next2 s => Q5 l sync_later next2 s.1 s.2.1 s.2.2.1 s.2.2.2.1 s.2.2.2.2.1 s.2.2.2.2.2.1 s.2.2.2.2.2.2.1 s.2.2.2.2.2.2.2.1 s.2.2.2.2.2.2.2.2)
   (fun s => ∃ k : Nat, s.1 = (k : Int) ∧ k ≤ l.length ∧ (⟨⟨s.2.1, s.2.2.1⟩, s.2.2.2.1, s.2.2.2.2.1, s.2.2.2.2.2.1, s.2.2.2.2.2.2.1, s.2.2.2.2.2.2.2.1, s.2.2.2.2.2.2.2.2⟩ : T_sync_Fact) ∈ l) (fun s => l.length - s.1.toNat) (fun f => f ∈ l)
   (by
    rintro ⟨_, a1, a2, a3, a4, a5, a6, a7, a8⟩ ⟨k, rfl, hk, hm⟩
    simp only at hm ⊢
    simp only [Q5, Yj, Ze]
    rcases Nat.lt_or_ge k l.length with h | h
    ·obtain ⟨v, hv⟩ := later_tot l[k] ⟨⟨a1, a2⟩, a3, a4, a5, a6, a7, a8⟩
     by_cases h2 : 0 < v
     ·refine .inr ⟨((k : Int) + 1, l[k].Dot.Device, l[k].Dot.N, l[k].Time, l[k].Kind, l[k].Id, l[k].Name, l[k].Num, l[k].Text), ⟨k + 1, rfl, h, List.getElem_mem h⟩, by simp only; omega, fun next => ?_⟩
      rw [Xv (by omega), Js, Q9 h, Jg, hv, Jg, Xv h2, Js, Jg, Xg (by omega), Jg]
     ·refine .inr ⟨((k : Int) + 1, a1, a2, a3, a4, a5, a6, a7, a8), ⟨k + 1, rfl, h, hm⟩, by simp only; omega, fun next => ?_⟩
      rw [Xv (by omega), Js, Q9 h, Jg, hv, Jg, Q6 h2, Jk, Xg (by omega), Jg]
    ·refine .inl ⟨_, hm, fun next => ?_⟩
     rw [Q6 (by omega), Jk])
   (1, l[0].Dot.Device, l[0].Dot.N, l[0].Time, l[0].Kind, l[0].Id, l[0].Name, l[0].Num, l[0].Text) ⟨1, rfl, by omega, List.getElem_mem (by omega)⟩
  obtain ⟨f, h1, h2⟩ := key
  refine ⟨f, ?_, fun _ => h2, fun h => by rw [h] at h0; simp at h0⟩
  unfold Wc
  have e0 : Qn l 0 = some l[0] := Q9 (xs := l) (k := 0) (by omega)
  rw [Q6 (by omega), Jk, e0, Jg, h1, Jg]
structure Inv (n : Nat) (r : T_sync_Replica) : Prop where
 dev : 0 ≤ r.device_ ∧ r.device_ < 16
 kn : ∀ j, j < 16 → 0 ≤ r.knows_ j ∧ r.knows_ j ≤ n
 len : r.facts_.length ≤ 5000
 dist : Dist r.facts_
 dot : ∀ f ∈ r.facts_, 0 ≤ f.Dot.Device ∧ f.Dot.Device < 16 ∧ f.Dot.N ≤ r.knows_ f.Dot.Device.toNat
 time : ∀ f ∈ r.facts_, 0 ≤ f.Time ∧ f.Time ≤ 1000000
 num : ∀ f ∈ r.facts_, f.Kind = 6 → 0 ≤ f.Num ∧ f.Num ≤ 6311433599
def nextN (r : T_sync_Replica) : Int := r.knows_ r.device_.toNat + 1
structure Made (r : T_sync_Replica) (made : List T_sync_Fact) : Prop where
 dot : ∀ f ∈ made, f.Dot = ⟨r.device_, nextN r⟩
 time : ∀ f ∈ made, 0 ≤ f.Time ∧ f.Time ≤ 1000000
 num : ∀ f ∈ made, f.Kind = 6 → 0 ≤ f.Num ∧ f.Num ≤ 6311433599
 dist : Dist made
theorem Made.nil (r : T_sync_Replica) : Made r [] := ⟨by simp, by simp, by simp, by intro x h; simp at h⟩
noncomputable def eventL (r : T_sync_Replica) (gone : T_sync_Fact → Bool) (made : List T_sync_Fact) : T_sync_Replica :=
 ⟨r.device_, Xe r.knows_ r.device_.toNat (nextN r), Wh ((r.facts_.filter fun f => !gone f) ++ made)⟩
variable {n : Nat} {r : T_sync_Replica}
theorem one_dot {x y : T_sync_Fact} (h : Vz x = Vz y) : x.Dot = y.Dot ∧ x.Kind = y.Kind ∧ x.Id = y.Id ∧ x.Name = y.Name := by
 unfold Vz at h
 simp only [T_sync_Fact.mk.injEq] at h
 exact ⟨h.1, h.2.2.1, h.2.2.2.1, h.2.2.2.2.1⟩
theorem Inv.distE (hi : Inv n r) {made : List T_sync_Fact} (hm : Made r made) (g : T_sync_Fact → Bool) : Dist ((r.facts_.filter g) ++ made) := by
 have cross : ∀ x ∈ r.facts_, ∀ y ∈ made, Vz x ≠ Vz y := fun x hx y hy h => by
  have h1 := (one_dot h).1
  have h2 := hi.dot x hx
  rw [h1, hm.dot y hy] at h2
  unfold nextN at h2
  simp only at h2
  omega
 intro x hx y hy h
 rw [List.mem_append, List.mem_filter] at hx hy
 rcases hx with hx | hx <;> rcases hy with hy | hy
 ·exact hi.dist x hx.1 y hy.1 h
 ·exact absurd h (cross x hx.1 y hy)
 ·exact absurd h.symm (cross y hy.1 x hx)
 ·exact hm.dist x hx y hy h
theorem event_eq (hi : Inv n r) (hn : n ≤ 9000000000000000000) {f : T_sync_Fact → Option Bool} (g : T_sync_Fact → Bool) {made : List T_sync_Fact} (hm : Made r made) (hl : made.length ≤ 100000) (hf : ∀ x ∈ r.facts_, f x = some (g x)) :
  Vs r f made = some (eventL r g made) := by
 unfold Vs
 have hd := hi.dev
 have hk := hi.kn r.device_.toNat (by omega)
 have hlen := hi.len
 have h1 : (r.facts_.filter fun f => !g f).length ≤ 5000 := Nat.le_trans (List.length_filter_le ..) hlen
 rw [gIx_ok (by omega), Jg, Xg (by omega), Jg, Jg, delete_sync_Fact r.facts_ f g (by omega) hf, Jg, Uh (by omega), Jg, sort_eq (by rw [List.length_append]; omega) (hi.distE hm fun f => !g f), Jg]
 rfl
theorem setA_at (v : Nat → Int) (i : Nat) (x : Int) : Xe v i x i = x := by unfold Xe; simp
theorem eventL_mem {g : T_sync_Fact → Bool} {made : List T_sync_Fact} {f : T_sync_Fact} : f ∈ (eventL r g made).facts_ ↔ (f ∈ r.facts_ ∧ g f = false) ∨ f ∈ made := by
 unfold eventL
 rw [sortF_mem, List.mem_append, List.mem_filter]
 simp
theorem Inv.event (hi : Inv n r) {made : List T_sync_Fact} (hm : Made r made) (g : T_sync_Fact → Bool) (hl : (r.facts_.filter fun f => !g f).length + made.length ≤ 5000) : Inv (n + 1) (eventL r g made) := by
 have hd := hi.dev
 refine ⟨hd, fun j hj => ?_, ?_, ?_, fun f hf => ?_, fun f hf => ?_, fun f hf => ?_⟩
 ·show 0 ≤ Xe _ _ _ j ∧ Xe _ _ _ j ≤ _
  have := hi.kn j hj
  unfold Xe nextN
  split
  ·rename_i h; rw [← h]; omega
  ·omega
 ·unfold eventL; rw [sortF_len, List.length_append]; exact hl
 ·exact (hi.distE hm fun f => !g f).sub fun x hx => sortF_mem.1 hx
 ·rcases eventL_mem.1 hf with h | h
  ·have := hi.dot f h.1
   refine ⟨this.1, this.2.1, ?_⟩
   show f.Dot.N ≤ Xe _ _ _ _
   unfold Xe nextN
   split
   ·rename_i h2; rw [← h2]; omega
   ·exact this.2.2
  ·rw [hm.dot f h]
   refine ⟨hd.1, hd.2, ?_⟩
   show _ ≤ Xe _ _ _ _
   rw [setA_at]; exact Int.le_refl _
 ·rcases eventL_mem.1 hf with h | h
  ·exact hi.time f h.1
  ·exact hm.time f h
 ·rcases eventL_mem.1 hf with h | h
  ·exact hi.num f h.1
  ·exact hm.num f h
def stamp (r : T_sync_Replica) (t : Int) (f : T_sync_Fact) : T_sync_Fact := ⟨⟨r.device_, nextN r⟩, t, f.Kind, f.Id, f.Name, f.Num, f.Text⟩
def repl (g f : T_sync_Fact) : Bool := decide (g.Kind = f.Kind) && decide (g.Id = f.Id) && decide (g.Name = f.Name)
theorem repl_eq (g f : T_sync_Fact) : Jay g f = some (repl g f) := by
 unfold Jay repl
 by_cases h1 : g.Kind = f.Kind <;> by_cases h2 : g.Id = f.Id <;> simp [h1, h2]
def goneL (l : List T_sync_Fact) (f : T_sync_Fact) : Bool := l.any fun g => repl g f
theorem gone_eq (l : List T_sync_Fact) (hl : l.length ≤ 100000) (f : T_sync_Fact) : Qh l f = some (goneL l f) := by
 unfold Qh goneL
 rw [contains_sync_Fact l (Vy f) (fun g => repl g f) (by omega) (fun g _ => by unfold Vy; rw [repl_eq, Jg]), Jg]
theorem gone_stamp (r : T_sync_Replica) (t : Int) (l : List T_sync_Fact) : goneL (l.map (stamp r t)) = goneL l := by
 funext f
 unfold goneL
 rw [List.any_map]
 rfl
theorem filter_both {α : Type} (g : α → Bool) : ∀ l : List α, l.length = (l.filter g).length + (l.filter fun f => !g f).length
 | [] => rfl
 | x :: l => by
  have := filter_both g l
  cases h : g x <;> simp [h] <;> omega
theorem make_ok (hi : Inv n r) (hn : n ≤ 9000000000000000000) (l : List T_sync_Fact) (hl : l.length ≤ 1000) (hd : ∀ x ∈ l, ∀ y ∈ l, x.Kind = y.Kind → x.Id = y.Id → x.Name = y.Name → x = y) (hnum : ∀ f ∈ l, f.Kind = 6 → 0 ≤ f.Num ∧ f.Num ≤ 6311433599) :
  ∃ e r', Ug r l = some (e, r') ∧ ((e = 4 ∧ r' = r) ∨ (e = 0 ∧ ∃ t, Made r (l.map (stamp r t)) ∧ r' = eventL r (goneL l) (l.map (stamp r t)) ∧ (r.facts_.filter fun f => !goneL l f).length + (l.map (stamp r t)).length ≤ 5000)) := by
 have hdv := hi.dev
 have hk := hi.kn r.device_.toNat (by omega)
 have hlen := hi.len
 unfold Ug
 rw [gIx_ok (by omega), Jg, Xg (by omega), Jg]
 change ∃ e r', W5 (fun next4 s => Xz r l (nextN r) next4 s.1 s.2) (1, 0) = some (e, r') ∧ _
 obtain ⟨t, ⟨ht1, ht2⟩, hloop⟩ := fix_runP (F := fun (_ : Unit) next4 s => Xz r l (nextN r) next4 s.1 s.2) (fun _ t => Z3 r l (nextN r) t)
  (fun s : Int × Int => ∃ k : Nat, s.2 = (k : Int) ∧ k ≤ r.facts_.length ∧ 1 ≤ s.1 ∧ s.1 ≤ 1000001) (fun s => r.facts_.length - s.2.toNat) (fun t => 1 ≤ t ∧ t ≤ 1000001)
  (by
   rintro ⟨x, _⟩ ⟨k, rfl, hk, h1, h2⟩
   simp only at h1 h2 ⊢
   simp only [Xz]
   rcases Nat.lt_or_ge k r.facts_.length with h | h
   ·have ht := hi.time _ (List.getElem_mem h)
    refine .inr ⟨(max x (r.facts_[k].Time + 1), (k : Int) + 1), ⟨k + 1, rfl, h, by simp only; omega, by simp only; omega⟩, by simp only; omega, fun _ next => ?_⟩
    rw [Xv (by omega), Js, Q9 h, Jg, Xg (by omega), Jg, Xg (by omega), Jg]
   ·refine .inl ⟨x, ⟨h1, h2⟩, fun _ next => ?_⟩
    rw [Q6 (by omega), Jk])
  (1, 0) ⟨0, rfl, Nat.zero_le _, by simp, by simp⟩
 rw [hloop ()]
 unfold Z3
 have hclone : Vh l = some l := by
  unfold Vh
  first
   | (rw [Uh (by simp; omega), Jg, List.nil_append])
   | (rw [Uh (by simp; omega), Jg, Jg, List.nil_append])
 rw [hclone, Jg]
 obtain ⟨l', rfl, hloop2⟩ := fix_runP (F := fun (_ : Unit) next3 s => Yp r (nextN r) t l next3 s.1 s.2) (fun _ l' => Z9 r (nextN r) t l')
  (fun s : Int × List T_sync_Fact => ∃ k : Nat, s.1 = (k : Int) ∧ k ≤ l.length ∧ s.2 = (l.take k).map (stamp r t) ++ l.drop k) (fun s => l.length - s.1.toNat) (fun l' => l' = l.map (stamp r t))
  (by
   rintro ⟨_, _⟩ ⟨k, rfl, hk, rfl⟩
   simp only [Yp]
   rcases Nat.lt_or_ge k l.length with h | h
   ·have hlen1 : ((l.take k).map (stamp r t)).length = k := by rw [List.length_map, List.length_take]; omega
    have hlen2 : ((l.take k).map (stamp r t) ++ l.drop k).length = l.length := by rw [List.length_append, hlen1, List.length_drop]; omega
    have e1 : Qn ((l.take k).map (stamp r t) ++ l.drop k) (k : Int) = some l[k] := by
     unfold Qn
     rw [if_pos (by omega), Int.toNat_natCast, List.getElem?_append_right (by omega), hlen1, Nat.sub_self, List.drop_eq_getElem_cons h]; rfl
    have e2 : ∀ z y : T_sync_Fact, ((l.take k).map (stamp r t) ++ z :: l.drop (k + 1)).set k y = (l.take k).map (stamp r t) ++ y :: l.drop (k + 1) := fun z y => by
     rw [List.set_append_right _ _ (by omega), hlen1, Nat.sub_self]; rfl
    refine .inr ⟨((k : Int) + 1, (l.take (k + 1)).map (stamp r t) ++ l.drop (k + 1)), ⟨k + 1, rfl, h, rfl⟩, by simp only; omega, fun _ next => ?_⟩
    rw [Xv (by omega), Js, e1, Jg, gSet_ok (by omega) (by rw [hlen2]; omega), Jg, Int.toNat_natCast, List.drop_eq_getElem_cons h, e2]
    have e3 : ∀ y : T_sync_Fact, Qn ((l.take k).map (stamp r t) ++ y :: l.drop (k + 1)) (k : Int) = some y := fun y => by
     unfold Qn
     rw [if_pos (by omega), Int.toNat_natCast, List.getElem?_append_right (by omega), hlen1, Nat.sub_self]; rfl
    rw [e3, Jg, gSet_ok (by omega) (by rw [List.length_append, hlen1, List.length_cons, List.length_drop, Int.toNat_natCast]; omega), Jg, Int.toNat_natCast, e2, Xg (by omega), Jg, List.take_succ_eq_append_getElem h, List.map_append, List.append_assoc]
    rfl
   ·have : k = l.length := by omega
    subst this
    refine .inl ⟨l.map (stamp r t), rfl, fun _ next => ?_⟩
    rw [Q6 (by omega), Jk, List.take_length, List.drop_length, List.append_nil])
  (0, l) ⟨0, rfl, Nat.zero_le _, by simp⟩
 rw [hloop2 ()]
 unfold Z9
 have hg : ∀ f ∈ r.facts_, Qh (l.map (stamp r t)) f = some (goneL l f) := fun f _ => by rw [gone_eq _ (by rw [List.length_map]; omega), gone_stamp]
 have hsum := filter_both (goneL l) r.facts_
 rw [where_eq r _ (goneL l) (by omega) hg, Jg, Xg (by omega), Jg, Xg (by rw [List.length_map]; omega), Jg]
 by_cases c1 : 5000 < ((r.facts_.length : Int) - ((r.facts_.filter (goneL l)).length : Int)) + ((l.map (stamp r t)).length : Int)
 ·rw [Xv c1, Js]; exact ⟨4, r, rfl, .inl ⟨rfl, rfl⟩⟩
 rw [Q6 c1, Jk]
 by_cases c2 : 1000000 < nextN r
 ·rw [Xv c2, Js]; exact ⟨4, r, rfl, .inl ⟨rfl, rfl⟩⟩
 rw [Q6 c2, Jk]
 by_cases c3 : 1000000 < t
 ·rw [Xv c3, Js]; exact ⟨4, r, rfl, .inl ⟨rfl, rfl⟩⟩
 rw [Q6 c3, Jk]
 have hm : Made r (l.map (stamp r t)) := by
  refine ⟨fun f hf => ?_, fun f hf => ?_, fun f hf => ?_, fun x hx y hy h => ?_⟩
  ·obtain ⟨g, _, rfl⟩ := List.mem_map.1 hf; rfl
  ·obtain ⟨g, _, rfl⟩ := List.mem_map.1 hf; exact ⟨by show 0 ≤ t; omega, by show t ≤ _; omega⟩
  ·obtain ⟨g, hg, rfl⟩ := List.mem_map.1 hf; exact hnum g hg
  ·obtain ⟨a, ha, rfl⟩ := List.mem_map.1 hx
   obtain ⟨b, hb, rfl⟩ := List.mem_map.1 hy
   have := one_dot h
   rw [hd a ha b hb this.2.1 this.2.2.1 this.2.2.2]
 rw [event_eq hi hn (goneL l) hm (by rw [List.length_map]; omega) hg, Jg]
 refine ⟨0, _, rfl, .inr ⟨rfl, t, hm, rfl, ?_⟩⟩
 omega
end Go.M

/- What a deed makes of a replica, in plain Lean. Conditions: a replica in order. -/
namespace Go.M
open Go.Md Go.Pl
set_option linter.unusedVariables false
variable {n : Nat} {r : T_sync_Replica}
noncomputable instance (r : T_sync_Replica) (i : Int) : Decidable (shownP r i) := Classical.propDecidable _
theorem Inv.up (h : Inv n r) : Inv (n + 1) r := { h with kn := fun j hj => ⟨(h.kn j hj).1, by have := (h.kn j hj).2; omega⟩ }
def Does (n : Nat) (r : T_sync_Replica) (o : Option (Int × T_sync_Replica)) : Prop := ∃ e r', o = some (e, r') ∧ Inv (n + 1) r' ∧ r'.device_ = r.device_
theorem eqF_refl (x : T_sync_Fact) : Uv x x = true := by unfold Uv; exact decide_eq_true ⟨⟨rfl, rfl⟩, rfl, rfl, rfl, rfl, rfl, rfl⟩
theorem equal_refl (l : List T_sync_Fact) (hl : l.length ≤ 100000) : X0 l l = some true := by
 unfold X0
 rw [Q6 (by simp), Jk]
 refine fix_upto (F := fun next1 s => Qw l l next1 s) (o := some true) 0 l.length (Nat.zero_le _) (fun next k _ h => ?_) (fun next => ?_)
 ·simp only [Qw]
  rw [Xv (by omega), Js, Q9 h, Jg, Jg, eqF_refl, Bool.not_true, Jk, Xg (by omega), Jg]
 ·simp only [Qw]
  rw [Q6 (by omega), Jk]
theorem inv_new : Inv 0 ⟨0, (fun _ => 0), []⟩ :=
 ⟨⟨by decide, by decide⟩, fun _ _ => ⟨Int.le_refl 0, Int.le_refl 0⟩, Nat.zero_le _, fun _ hx => absurd hx List.not_mem_nil, fun _ hx => absurd hx List.not_mem_nil, fun _ hx => absurd hx List.not_mem_nil, fun _ hx => absurd hx List.not_mem_nil⟩
end Go.M

/- SyncStays in plain Lean: two replicas that meet, and what is shown. Conditions: few facts. -/
namespace Go.M
open Go.Md Go.Pl
set_option linter.unusedVariables false
theorem mGet_mSetG {κ ν : Type} [DecidableEq κ] (m : List (κ × ν)) (k : κ) (v : ν) (x : κ) : mGet (Un m k v) x = if x = k then some v else mGet m x := by
 unfold mGet Un mHas
 induction m with
 | nil =>
  by_cases h : x = k
  ·subst h; simp
  ·have : ¬ k = x := fun e => h e.symm
   simp [h, this]
 | cons a m ih =>
  by_cases ha : a.1 = k
  ·have e1 : ((a :: m).any fun p => decide (p.1 = k)) = true := by simp [ha]
   rw [if_pos e1, List.map_cons, if_pos ha, List.find?_cons, List.find?_cons]
   by_cases h : x = k
   ·subst h; simp
   ·have hk : ¬ k = x := fun e => h e.symm
    rw [Q6 hk, if_neg h, Q6 (show ¬ a.1 = x by rw [ha]; exact hk)]
    simp only
    clear ih e1
    induction m with
    | nil => rfl
    | cons b m ih2 =>
     rw [List.map_cons, List.find?_cons, List.find?_cons]
     by_cases hb : b.1 = k
     ·rw [if_pos hb, Q6 hk, Q6 (show ¬ b.1 = x by rw [hb]; exact hk)]; exact ih2
     ·rw [if_neg hb]
      by_cases hbx : b.1 = x
      ·rw [Xv hbx]
      ·rw [Q6 hbx]; exact ih2
  ·have e1 : ((a :: m).any fun p => decide (p.1 = k)) = (m.any fun p => decide (p.1 = k)) := by simp [ha]
   rw [e1]
   by_cases hm : (m.any fun p => decide (p.1 = k)) = true
   ·rw [if_pos hm] at ih ⊢
    rw [List.map_cons, if_neg ha, List.find?_cons]
    by_cases hx : a.1 = x
    ·rw [Xv hx]
     have : ¬ x = k := fun e => ha (hx.trans e)
     rw [if_neg this, List.find?_cons, Xv hx]
    ·rw [Q6 hx, List.find?_cons, Q6 hx]; exact ih
   ·rw [if_neg hm] at ih ⊢
    rw [List.cons_append, List.find?_cons]
    by_cases hx : a.1 = x
    ·rw [Xv hx]
     have : ¬ x = k := fun e => ha (hx.trans e)
     rw [if_neg this, List.find?_cons, Xv hx]
    ·rw [Q6 hx, List.find?_cons, Q6 hx]; exact ih
def inF (m : List (T_sync_Fact × Bool)) (k : T_sync_Fact) : Bool := (mGet m k).getD false
theorem inF_set (m : List (T_sync_Fact × Bool)) (k x : T_sync_Fact) : inF (Un m k true) x = (decide (x = k) || inF m x) := by
 unfold inF
 rw [mGet_mSetG]
 by_cases h : x = k <;> simp [h]
def Us (m : List (T_sync_Fact × Bool)) (l : List T_sync_Fact) : List (T_sync_Fact × Bool) := l.foldl (fun m f => Un m (Vz f) true) m
theorem inF_setM : ∀ (l : List T_sync_Fact) (m : List (T_sync_Fact × Bool)) (x : T_sync_Fact), inF (Us m l) x = true ↔ (∃ f ∈ l, Vz f = x) ∨ inF m x = true
 | [], m, x => by simp [Us]
 | f :: l, m, x => by
  have := inF_setM l (Un m (Vz f) true) x
  rw [show Us m (f :: l) = Us (Un m (Vz f) true) l from rfl, this, inF_set]
  simp only [Bool.or_eq_true, decide_eq_true_eq, List.mem_cons]
  constructor
  ·rintro (⟨g, h1, h2⟩ | h | h)
   ·exact .inl ⟨g, .inr h1, h2⟩
   ·exact .inl ⟨f, .inl rfl, h.symm⟩
   ·exact .inr h
  ·rintro (⟨g, h1 | h1, h2⟩ | h)
   ·rw [h1] at h2; exact .inr (.inl h2.symm)
   ·exact .inl ⟨g, h1, h2⟩
   ·exact .inr (.inr h)
theorem setF_eq (l : List T_sync_Fact) (hl : l.length ≤ 100000) : Xa l = some (Us [] l) := by
 unfold Xa
 refine fix_list (F := fun next1 s => Wy l next1 s.1 s.2) l (fun m f => Un m (Vz f) true) some (fun _ _ => True) (fun next k s hk _ => ?_) (fun next s _ => ?_) [] trivial
 ·simp only [Wy]
  rw [Xv (by omega), Js, Q9 hk, Jg, one_eq, Jg, Xg (by omega), Jg]
  exact ⟨rfl, trivial⟩
 ·simp only [Wy]
  rw [Q6 (by omega), Jk]
def knowsB (k : Nat → Int) (d : T_sync_Dot) : Bool := decide (0 ≤ d.Device ∧ d.Device < 16 ∧ d.N ≤ k d.Device.toNat)
theorem knows_eq (k : Nat → Int) (d : T_sync_Dot) : Zx k d = some (knowsB k d) := by
 unfold Zx knowsB
 rw [Jao, Jg]
 by_cases h : d.Device < 0 ∨ 15 < d.Device
 ·rw [Xv h, Bool.not_true, Jk]
  congr 1; symm; rw [decide_eq_false_iff_not]; omega
 ·rw [Q6 h, Bool.not_false, Js, gIx_ok (by omega), Jg]
  congr 1; rw [decide_eq_decide]
  exact ⟨fun x => ⟨by omega, by omega, x⟩, fun x => x.2.2⟩
def Wu (m : List (T_sync_Fact × Bool)) (k : Nat → Int) (f : T_sync_Fact) : Bool := inF m (Vz f) || !knowsB k f.Dot
theorem kept_eq (l : List T_sync_Fact) (m : List (T_sync_Fact × Bool)) (k : Nat → Int) (hl : l.length ≤ 100000) : V1 l m k = some (l.filter (Wu m k)) := by
 unfold V1
 refine (fix_list (F := fun next1 s => V6 l m k next1 s.1 s.2) l (fun s x => if Wu m k x = true then s ++ [x] else s) some (fun k s => s.length ≤ k) (fun next j s hk hI => ?_) (fun next s _ => ?_) [] (Nat.le_refl _)).trans ?_
 ·simp only [V6]
  have put : J2 (gApp 80 s [l[j]]) (fun l30 => Vg (j : Int) next l30) = next ((j : Int) + 1, s ++ [l[j]]) := by
   rw [Uh (by simp; omega), Jg]; unfold Vg; rw [Xg (by omega), Jg]
  have skip : Vg (j : Int) next s = next ((j : Int) + 1, s) := by unfold Vg; rw [Xg (by omega), Jg]
  have ha : (mGet m (Vz l[j])).getD false = inF m (Vz l[j]) := rfl
  rw [Xv (by omega), Js, Q9 hk, Jg, one_eq, Jg, ha]
  cases h1 : inF m (Vz l[j])
  ·rw [Jk, knows_eq, Jg]
   cases h2 : knowsB k l[j].Dot
   ·have : Wu m k l[j] = true := by unfold Wu; rw [h1, h2]; rfl
    rw [Bool.not_false, Js, put, if_pos this]; exact ⟨rfl, by simp; omega⟩
   ·have : ¬ Wu m k l[j] = true := by unfold Wu; rw [h1, h2]; simp
    rw [Bool.not_true, Jk, skip, if_neg this]; exact ⟨rfl, by omega⟩
  ·have : Wu m k l[j] = true := by unfold Wu; rw [h1]; rfl
   rw [Js, put, if_pos this]; exact ⟨rfl, by simp; omega⟩
 ·simp only [V6]
  rw [Q6 (by omega), Jk]
 ·rw [foldl_filter]; rfl
theorem filter_sub {α : Type} {p q : α → Bool} (h : ∀ x, p x = true → q x = true) : ∀ l : List α, (l.filter p).Sublist (l.filter q)
 | [] => List.Sublist.slnil
 | x :: l => by
  rw [List.filter_cons, List.filter_cons]
  by_cases hp : p x = true
  ·rw [if_pos hp, if_pos (h x hp)]; exact (filter_sub h l).cons_cons x
  ·rw [if_neg hp]
   split
   ·exact (filter_sub h l).cons x
   ·exact filter_sub h l
def V9 (k : Nat → Int) (m : List (T_sync_Fact × Bool)) (f : T_sync_Fact) : Bool := !inF m (Vz f) && !knowsB k f.Dot
def addS (k : Nat → Int) (s : List (T_sync_Fact × Bool) × List T_sync_Fact) (f : T_sync_Fact) : List (T_sync_Fact × Bool) × List T_sync_Fact := if V9 k s.1 f = true then (Un s.1 (Vz f) true, s.2 ++ [f]) else s
theorem fresh_set {k : Nat → Int} {m : List (T_sync_Fact × Bool)} {x y : T_sync_Fact} : V9 k (Un m (Vz x) true) y = true ↔ Vz y ≠ Vz x ∧ V9 k m y = true := by
 unfold V9
 rw [inF_set]
 by_cases h : Vz y = Vz x <;> simp [h]
theorem adds (k : Nat → Int) : ∀ (xs : List T_sync_Fact) (m : List (T_sync_Fact × Bool)) (l : List T_sync_Fact), ∃ add, (xs.foldl (addS k) (m, l)).2 = l ++ add ∧ add.Sublist (xs.filter (V9 k m)) ∧ ∀ x ∈ xs, V9 k m x = true → ∃ y ∈ add, Vz y = Vz x
 | [], m, l => ⟨[], by simp, by simp, by simp⟩
 | x :: xs, m, l => by
  by_cases h : V9 k m x = true
  ·obtain ⟨add, h1, h2, h3⟩ := adds k xs (Un m (Vz x) true) (l ++ [x])
   have e : addS k (m, l) x = (Un m (Vz x) true, l ++ [x]) := if_pos h
   refine ⟨x :: add, ?_, ?_, fun y hy hf => ?_⟩
   ·rw [List.foldl_cons, e, h1, List.append_assoc]; rfl
   ·rw [List.filter_cons, if_pos h]
    exact (h2.trans (filter_sub (fun y hy => (fresh_set.1 hy).2) xs)).cons_cons x
   ·by_cases he : Vz y = Vz x
    ·exact ⟨x, by simp, he.symm⟩
    ·rcases List.mem_cons.1 hy with hy | hy
     ·rw [hy] at he; exact absurd rfl he
     ·obtain ⟨z, hz, hz2⟩ := h3 y hy (fresh_set.2 ⟨he, hf⟩)
      exact ⟨z, by simp [hz], hz2⟩
  ·obtain ⟨add, h1, h2, h3⟩ := adds k xs m l
   have e : addS k (m, l) x = (m, l) := if_neg h
   refine ⟨add, by rw [List.foldl_cons, e, h1], by rw [List.filter_cons, if_neg h]; exact h2, fun y hy hf => ?_⟩
   rcases List.mem_cons.1 hy with hy | hy
   ·rw [hy] at hf; exact absurd hf h
   ·exact h3 y hy hf
def maxU (n : Nat) (a b : Nat → Int) (i : Nat) : Int := if i < n then max (a i) (b i) else a i
theorem maxU_step (n : Nat) (a b : Nat → Int) : Xe (maxU n a b) n (max (maxU n a b n) (b n)) = maxU (n + 1) a b := by
 funext i
 unfold Xe maxU
 by_cases h : i = n
 ·subst h; simp
 ·rw [if_neg h]
  by_cases h2 : i < n
  ·rw [if_pos h2, if_pos (by omega)]
  ·rw [if_neg h2, if_neg (by omega)]
theorem merge_ok (r : T_sync_Replica) (their : List T_sync_Fact) (both : List (T_sync_Fact × Bool)) (k : Nat → Int) (hr : r.facts_.length ≤ 5000) (ht : their.length ≤ 5000)
  (hd : Dist (r.facts_.filter (Wu both k) ++ their.filter (V9 r.knows_ (Us [] r.facts_)))) :
  ∃ add, add.Sublist (their.filter (V9 r.knows_ (Us [] r.facts_))) ∧ (∀ x ∈ their, V9 r.knows_ (Us [] r.facts_) x = true → ∃ y ∈ add, Vz y = Vz x) ∧
   Jv r their both k = (if 5000 < ((r.facts_.filter (Wu both k) ++ add).length : Int) then some (4, r) else some (0, ⟨r.device_, maxU 16 r.knows_ k, Wh (r.facts_.filter (Wu both k) ++ add)⟩)) := by
 obtain ⟨add, h1, h2, h3⟩ := adds r.knows_ their (Us [] r.facts_) (r.facts_.filter (Wu both k))
 refine ⟨add, h2, h3, ?_⟩
 have hk : (r.facts_.filter (Wu both k)).length ≤ 5000 := Nat.le_trans (List.length_filter_le ..) hr
 have ha : add.length ≤ 5000 := Nat.le_trans h2.length_le (Nat.le_trans (List.length_filter_le ..) ht)
 unfold Jv
 rw [setF_eq _ (by omega), Jg, kept_eq _ _ _ (by omega), Jg]
 have hloop := fix_list (F := fun next3 s => Xr r their k next3 s.1 s.2.1 s.2.2) their (addS r.knows_) (fun s => Zs r k s.2) (fun j s => s.2.length ≤ 100000 + j) (fun next j s hj hI => by
   obtain ⟨m, l⟩ := s
   simp only at hI ⊢
   simp only [Xr]
   have skip : ∀ m' l', Ye (j : Int) next m' l' = next ((j : Int) + 1, m', l') := fun m' l' => by unfold Ye; rw [Xg (by omega), Jg]
   have hb : (mGet m (Vz their[j])).getD false = inF m (Vz their[j]) := rfl
   rw [Xv (by omega), Js, Q9 hj, Jg, one_eq, Jg, hb]
   cases e1 : inF m (Vz their[j])
   ·rw [Bool.not_false, Js, knows_eq, Jg]
    cases e2 : knowsB r.knows_ their[j].Dot
    ·have e : addS r.knows_ (m, l) their[j] = (Un m (Vz their[j]) true, l ++ [their[j]]) := if_pos (show V9 r.knows_ m their[j] = true by unfold V9; rw [e1, e2]; rfl)
     rw [Bool.not_false, Js, Uh (by simp; omega), Jg, Jg, skip, e]
     exact ⟨rfl, by simp; omega⟩
    ·have e : addS r.knows_ (m, l) their[j] = (m, l) := if_neg (show ¬ V9 r.knows_ m their[j] = true by unfold V9; rw [e1, e2]; simp)
     rw [Bool.not_true, Jk, skip, e]
     exact ⟨rfl, by simp only; omega⟩
   ·have e : addS r.knows_ (m, l) their[j] = (m, l) := if_neg (show ¬ V9 r.knows_ m their[j] = true by unfold V9; rw [e1]; simp)
    rw [Bool.not_true, Jk, skip, e]
    exact ⟨rfl, by simp only; omega⟩)
  (fun next s _ => by
   simp only [Xr]
   rw [Q6 (by omega), Jk])
  (Us [] r.facts_, r.facts_.filter (Wu both k)) (by simp only; omega)
 rw [show (((0 : Int), Us [] r.facts_, r.facts_.filter (Wu both k)) : Int × List (T_sync_Fact × Bool) × List T_sync_Fact) = (0, (Us [] r.facts_, r.facts_.filter (Wu both k))) from rfl, hloop, h1]
 unfold Zs
 rw [cI]
 by_cases hL : 5000 < ((r.facts_.filter (Wu both k) ++ add).length : Int)
 ·rw [if_pos hL, if_pos hL]
 ·rw [if_neg hL, if_neg hL, sort_eq (by rw [List.length_append]; omega) (hd.sub fun x hx => by
   rcases List.mem_append.1 hx with h | h
   ·exact List.mem_append_left _ h
   ·exact List.mem_append_right _ (h2.subset h)), Jg]
  generalize Wh _ = S
  obtain ⟨o, h4, h5⟩ := fix_run (F := fun next2 s => Yf r k S next2 s.1 s.2) (fun s : Int × (Nat → Int) => ∃ j : Nat, s.1 = (j : Int) ∧ j ≤ 16 ∧ s.2 = maxU j r.knows_ k) (fun s => 16 - s.1.toNat) (fun o => o = ((0 : Int), (⟨r.device_, maxU 16 r.knows_ k, S⟩ : T_sync_Replica)))
   (by
    rintro ⟨_, _⟩ ⟨j, rfl, hj, rfl⟩
    simp only [Yf]
    rcases Nat.lt_or_ge j 16 with h | h
    ·refine .inr ⟨((j : Int) + 1, maxU (j + 1) r.knows_ k), ⟨j + 1, rfl, h, rfl⟩, by simp only; omega, fun next => ?_⟩
     rw [Xv (by omega), Js, gIx_nat h, Jg, Jg, Jg, Xg (by omega), Jg, maxU_step]
    ·have : j = 16 := by omega
     subst this
     refine .inl ⟨_, rfl, fun next => ?_⟩
     rw [Q6 (by omega), Jk])
   (0, r.knows_) ⟨0, rfl, by omega, by funext i; unfold maxU; simp⟩
  rw [h4, h5]
theorem meet_ok (r o : T_sync_Replica) (hr : r.facts_.length ≤ 5000) (ht : o.facts_.length ≤ 5000)
  (hd : Dist (r.facts_.filter (Wu (Us [] o.facts_) o.knows_) ++ o.facts_.filter (V9 r.knows_ (Us [] r.facts_)))) :
  ∃ add, add.Sublist (o.facts_.filter (V9 r.knows_ (Us [] r.facts_))) ∧ (∀ x ∈ o.facts_, V9 r.knows_ (Us [] r.facts_) x = true → ∃ y ∈ add, Vz y = Vz x) ∧
   Xx r o = (if 5000 < ((r.facts_.filter (Wu (Us [] o.facts_) o.knows_) ++ add).length : Int) then some (4, r) else some (0, ⟨r.device_, maxU 16 r.knows_ o.knows_, Wh (r.facts_.filter (Wu (Us [] o.facts_) o.knows_) ++ add)⟩)) := by
 obtain ⟨add, h1, h2, h3⟩ := merge_ok r o.facts_ (Us [] o.facts_) o.knows_ hr ht hd
 refine ⟨add, h1, h2, ?_⟩
 unfold Xx
 rw [setF_eq _ (by omega), Jg, h3]
 split <;> rfl
theorem cmpFrom_memS {α : Type} [DecidableEq α] : ∀ (l : List α) (p k : α), k ∈ p :: Zg p l ↔ k ∈ p :: l
 | [], p, k => Iff.rfl
 | y :: l, p, k => by
  unfold Zg
  by_cases h : y = p
  ·rw [if_pos h, cmpFrom_memS l p k, h]; simp
  ·have := cmpFrom_memS l y k
   rw [if_neg h]
   simp only [List.mem_cons] at this ⊢
   rw [this]
theorem cmpL_memS {α : Type} [DecidableEq α] (l : List α) (k : α) : k ∈ cmpL l ↔ k ∈ l := by
 cases l with
 | nil => rfl
 | cons y l => exact cmpFrom_memS l y k
theorem cmpFrom_lenS {α : Type} [DecidableEq α] (p : α) : ∀ l : List α, (Zg p l).length ≤ l.length
 | [] => Nat.le_refl _
 | y :: l => by
  unfold Zg
  split
  ·have := cmpFrom_lenS p l; simp; omega
  ·have := cmpFrom_lenS y l; simp; omega
theorem cmpL_lenS {α : Type} [DecidableEq α] (l : List α) : (cmpL l).length ≤ l.length := by
 cases l with
 | nil => exact Nat.le_refl _
 | cons y l => have := cmpFrom_lenS y l; simp [cmpL]; omega
theorem ids_ok (r : T_sync_Replica) (hl : r.facts_.length ≤ 100000) : ∃ ids, Vp r = some ids ∧ ids.length ≤ 100000 ∧ ∀ i, i ∈ ids ↔ shownP r i := by
 unfold Vp
 rw [where_eq r Jae (fun f => decide (f.Kind = 1)) hl (fun x _ => rfl), Jg]
 have h1 : (r.facts_.filter fun f => decide (f.Kind = 1)).length ≤ 100000 := Nat.le_trans (List.length_filter_le ..) hl
 have e := fix_list (F := fun next2 s => X9 (r.facts_.filter fun f => decide (f.Kind = 1)) next2 s.1 s.2) (r.facts_.filter fun f => decide (f.Kind = 1)) (fun s x => s ++ [x.Id]) Ve (fun k s => s.length = k) (fun next k s hk hI => by
   simp only [X9]
   rw [Xv (by omega), Js, Q9 hk, Jg, Uh (by simp; omega), Jg, Xg (by omega), Jg]
   exact ⟨rfl, by simp; omega⟩) (fun next s _ => by
   simp only [X9]
   rw [Q6 (by omega), Jk]) [] rfl
 rw [e, foldl_app, List.nil_append]
 unfold Ve
 have hc : gCmpI ((r.facts_.filter fun f => decide (f.Kind = 1)).map (·.Id)) = some (cmpL ((r.facts_.filter fun f => decide (f.Kind = 1)).map (·.Id))) := if_pos (by rw [List.length_map]; omega)
 refine ⟨cmpL ((r.facts_.filter fun f => decide (f.Kind = 1)).map (·.Id)), by rw [hc, Jg], Nat.le_trans (cmpL_lenS _) (by rw [List.length_map]; exact h1), fun i => ?_⟩
 rw [cmpL_memS]
 unfold shownP
 simp only [List.mem_map, List.mem_filter, decide_eq_true_eq, and_assoc]
def starsOf (r : T_sync_Replica) (i : Int) : List T_sync_Fact := r.facts_.filter fun f => decide (f.Kind = 2) && decide (f.Id = i)
theorem Shown_ok (r : T_sync_Replica) (hl : r.facts_.length ≤ 100000) : ∃ out, X1 r = some out ∧ out.length ≤ 100000 ∧ (∀ s ∈ out, shownP r s.Id ∧ ∃ f, Vj (starsOf r s.Id) = some f ∧ s.Stars = f.Num) ∧ ∀ i, shownP r i → ∃ s ∈ out, s.Id = i := by
 obtain ⟨ids, h1, h2, h3⟩ := ids_ok r hl
 unfold X1
 rw [h1, Jg]
 obtain ⟨out, g1, g2, g3, g4⟩ := fix_run (F := fun next2 s => Yc r ids next2 s.1 s.2.1 s.2.2)
  (fun s : Int × Int × List T_sync_Shown => s.1 = (ids.length : Int) ∧ ∃ k : Nat, s.2.1 = (k : Int) ∧ k ≤ ids.length ∧ s.2.2.length ≤ k ∧ (∀ x ∈ s.2.2, shownP r x.Id ∧ ∃ f, Vj (starsOf r x.Id) = some f ∧ x.Stars = f.Num) ∧ ∀ i ∈ ids.take k, ∃ x ∈ s.2.2, x.Id = i)
  (fun s => ids.length - s.2.1.toNat) (fun out => out.length ≤ 100000 ∧ (∀ s ∈ out, shownP r s.Id ∧ ∃ f, Vj (starsOf r s.Id) = some f ∧ s.Stars = f.Num) ∧ ∀ i ∈ ids, ∃ s ∈ out, s.Id = i)
  (by
   rintro ⟨_, _, l⟩ ⟨rfl, k, rfl, hk, hn, ha, hb⟩
   simp only at hn ha hb ⊢
   simp only [Yc]
   rcases Nat.lt_or_ge k ids.length with h | h
   ·have fl : ∀ kd : Int, (r.facts_.filter fun f => decide (f.Kind = kd) && decide (f.Id = ids[k])).length ≤ 100000 := fun kd => Nat.le_trans (List.length_filter_le ..) hl
    obtain ⟨f1, e1, _⟩ := latest_ok _ (fl 1)
    obtain ⟨f2, e2, _⟩ := latest_ok _ (fl 2)
    obtain ⟨f3, e3, _⟩ := latest_ok _ (fl 3)
    obtain ⟨f4, e4, _⟩ := latest_ok _ (fl 4)
    refine .inr ⟨((ids.length : Int), (k : Int) + 1, l ++ [⟨ids[k], f1.Text, f2.Num, f3.Text, decide (f4.Num = 1), cmpL ((r.facts_.filter fun f => decide (f.Kind = 5) && decide (f.Id = ids[k])).map (·.Name))⟩]), ⟨rfl, k + 1, rfl, h, by simp; omega, fun x hx => ?_, fun i hi => ?_⟩, by simp only; omega, fun next => ?_⟩
    ·rcases List.mem_append.1 hx with hx | hx
     ·exact ha x hx
     ·simp only [List.mem_cons, List.not_mem_nil, or_false] at hx
      rw [hx]
      exact ⟨(h3 _).1 (List.getElem_mem h), f2, e2, rfl⟩
    ·rw [List.take_succ_eq_append_getElem h, List.mem_append] at hi
     rcases hi with hi | hi
     ·obtain ⟨x, hx, hx2⟩ := hb i hi; exact ⟨x, List.mem_append_left _ hx, hx2⟩
     ·simp only [List.mem_cons, List.not_mem_nil, or_false] at hi
      exact ⟨_, List.mem_append_right _ (List.mem_singleton.2 rfl), hi.symm⟩
    ·rw [Xv (by omega), Js, Q9 h, Jg, of_eq r 1 _ hl, Jg, e1, Jg, of_eq r 2 _ hl, Jg, e2, Jg, of_eq r 3 _ hl, Jg, e3, Jg, of_eq r 4 _ hl, Jg, e4, Jg, of_eq r 5 _ hl, Jg]
     have h5 := fl 5
     generalize (r.facts_.filter fun f => decide (f.Kind = 5) && decide (f.Id = ids[k])) = T at h5
     refine (fix_list (F := fun next5 s => Xs (ids.length : Int) (k : Int) l next ids[k] f1 f2 f3 f4 T next5 s.1 s.2) T (fun s x => s ++ [x.Name]) (fun s => Zq (ids.length : Int) (k : Int) l next ids[k] f1 f2 f3 f4 s) (fun j s => s.length = j) (fun nx j s hj hI => ?_) (fun nx s _ => ?_) [] rfl).trans ?_
     ·simp only [Xs]
      rw [Xv (by omega), Js, Q9 hj, Jg, Uh (by simp; omega), Jg, Xg (by omega), Jg]
      exact ⟨rfl, by simp; omega⟩
     ·simp only [Xs]
      rw [Q6 (by omega), Jk]
     ·rw [foldl_app, List.nil_append]
      have hc : gCmpS (T.map (·.Name)) = some (cmpL (T.map (·.Name))) := if_pos (by rw [List.length_map]; omega)
      unfold Zq Vw
      rw [hc, Jg, Uh (by simp; omega), Jg, Xg (by omega), Jg]
   ·have : k = ids.length := by omega
    subst this
    rw [List.take_length] at hb
    refine .inl ⟨l, ⟨by omega, ha, hb⟩, fun next => ?_⟩
    rw [Q6 (by omega), Jk]; rfl)
  ((ids.length : Int), 0, []) ⟨rfl, 0, rfl, Nat.zero_le _, Nat.le_refl _, (fun x hx => absurd hx List.not_mem_nil), (fun i hi => by simp at hi)⟩
 exact ⟨out, g1, g2, g3, fun i hi => g4 i ((h3 i).2 hi)⟩
end Go.M

/- TopTold in plain Lean. Conditions: as many elements as a list can have. -/
namespace Go.M
open Go.Md Go.Pl
set_option linter.unusedVariables false
theorem sub_eq {α : Type} : ∀ {s l : List α}, s.Sublist l → l.Nodup → (∀ x ∈ l, x ∈ s) → s = l
 | _, _, .slnil, _, _ => rfl
 | s, a :: l, .cons _ h, hn, hc => absurd (h.subset (hc a List.mem_cons_self)) (List.nodup_cons.1 hn).1
 | a :: s, _ :: l, .cons_cons _ h, hn, hc => by
  rw [sub_eq h (List.nodup_cons.1 hn).2 fun x hx => ?_]
  rcases List.mem_cons.1 (hc x (List.mem_cons_of_mem _ hx)) with e | e
  ·rw [e] at hx; exact absurd hx (List.nodup_cons.1 hn).1
  ·exact e
theorem sortF_congr {l m : List T_sync_Fact} (hd : Dist m) (h : l.Perm m) : Wh l = Wh m :=
 sortU_is facts_pre (fun x hx y hy h => hd x hx y hy (facts_zero h)) ((sortF_perm l).trans h) (List.pairwise_mergeSort (le := leC Xk) (fun a b c => facts_pre.letrans a b c) (fun a b => facts_pre.total a b) l)
structure Own (d : Int) (r : T_sync_Replica) : Prop where
 dev : r.device_ = d
 dot : ∀ f ∈ r.facts_, f.Dot.Device = d ∧ 1 ≤ f.Dot.N
 kn : ∀ j : Nat, j < 16 → (j : Int) ≠ d → r.knows_ j = 0
 nodup : r.facts_.Nodup
variable {n : Nat} {d : Int} {r : T_sync_Replica}
theorem Own.event (hi : Inv n r) (ho : Own d r) {made : List T_sync_Fact} (hm : Made r made) (hn : made.Nodup) (g : T_sync_Fact → Bool) : Own d (eventL r g made) := by
 have hd := hi.dev
 refine ⟨ho.dev, fun f hf => ?_, fun j hj hjd => ?_, ?_⟩
 ·rcases eventL_mem.1 hf with h | h
  ·exact ho.dot f h.1
  ·rw [hm.dot f h]
   have := hi.kn r.device_.toNat (by omega)
   exact ⟨ho.dev, by show 1 ≤ nextN r; unfold nextN; omega⟩
 ·show Xe _ _ _ j = 0
  unfold Xe
  rw [if_neg (by have := ho.dev; omega)]
  exact ho.kn j hj hjd
 ·show (Wh _).Nodup
  rw [(sortF_perm _).nodup_iff, List.nodup_append]
  refine ⟨ho.nodup.filter _, hn, fun x hx y hy e => ?_⟩
  have h1 := (hi.dot x (List.mem_filter.1 hx).1).2.2
  rw [e, hm.dot y hy] at h1
  unfold nextN at h1
  simp only at h1
  omega
def fileL : List UInt8 := [48, 49, 50, 51, 52, 53, 54, 55, 56, 57, 97, 98, 99, 100, 101, 102]
theorem put_own (hi : Inv n r) (ho : Own d r) (hn : n ≤ 9000000000000000000) (i : Int) (w : List UInt8) : ∃ e r', Vn r i w = some (e, r') ∧ Inv (n + 1) r' ∧ Own d r' := by
 unfold Vn
 rw [checkValue_eq, Jg]
 by_cases hv : valE (⟨⟨0, 0⟩, 0, 1, i, [], 0, w⟩ : T_sync_Fact) = 0
 ·rw [Q6 (by simpa using hv), Jk]
  obtain ⟨e, r', h, h1 | ⟨_, t, hm, hr, hl⟩⟩ := make_ok hi hn [(⟨⟨0, 0⟩, 0, 1, i, [], 0, w⟩ : T_sync_Fact)] (by simp) (fun x hx y hy _ _ _ => by simp only [List.mem_cons, List.not_mem_nil, or_false] at hx hy; rw [hx, hy]) (fun f hf h6 => by simp only [List.mem_cons, List.not_mem_nil, or_false] at hf; rw [hf] at h6; exact absurd h6 (by simp))
  ·exact ⟨e, r', by rw [h, Jg], by rw [h1.2]; exact hi.up, by rw [h1.2]; exact ho⟩
  ·exact ⟨e, r', by rw [h, Jg], by rw [hr]; exact hi.event hm _ hl, by rw [hr]; exact ho.event hi hm (by simp) _⟩
 ·rw [Xv hv, Js]; exact ⟨_, r, rfl, hi.up, ho⟩
theorem remove_own (hi : Inv n r) (ho : Own d r) (hn : n ≤ 9000000000000000000) (i : Int) : ∃ e r', Zk r i = some (e, r') ∧ Inv (n + 1) r' ∧ Own d r' := by
 have hlen := hi.len
 unfold Zk
 rw [shown_eq r i (by omega), Jg]
 by_cases hs : shownP r i
 ·rw [Xv hs, Bool.not_true, Jk, event_eq (f := Uc i) hi hn (fun x => decide (x.Id = i)) (Made.nil r) (by simp) (fun x _ => rfl), Jg]
  have h2 := filter_both (fun x : T_sync_Fact => decide (x.Id = i)) r.facts_
  exact ⟨0, _, rfl, hi.event (Made.nil r) _ (by rw [List.length_nil]; omega), ho.event hi (Made.nil r) List.nodup_nil _⟩
 ·rw [Q6 hs, Bool.not_false, Js]; exact ⟨7, r, rfl, hi.up, ho⟩
theorem deed_own (hi : Inv n r) (ho : Own d r) (hn : n ≤ 9000000000000000000) (x : Int) : ∃ r', (Inv (n + 1) r' ∧ Own d r') ∧ ∀ {ρ : Type} (G : T_sync_Replica → Option ρ), Qi (decide (x < 0)) (J2 (Zk r (wI64 (0 - x))) fun t => G t.2) (J2 (Vn r x fileL) fun t => G t.2) = G r' := by
 by_cases h : x < 0
 ·obtain ⟨e, r', h1, h2⟩ := remove_own hi ho hn (wI64 (0 - x))
  exact ⟨r', h2, fun G => by rw [Xv h, Js, h1, Jg]⟩
 ·obtain ⟨e, r', h1, h2⟩ := put_own hi ho hn x fileL
  exact ⟨r', h2, fun G => by rw [Q6 h, Jk, h1, Jg]⟩
theorem loop5 (a0 : List T_face_Likeness) (a1 : List T_face_Person) (a2 a3 l : List Int) (z : T_sync_Replica) (hl : l.length ≤ 9000000000000000000) :
  ∃ r : T_sync_Replica, (∃ n : Nat, n ≤ l.length ∧ Inv n r ∧ Own 0 r) ∧ W5 (fun next5 s => Z8 a0 a1 a2 a3 l z next5 s.1 s.2.1 s.2.2.1 s.2.2.2) (0, 0, (fun _ => 0), []) = Wl a0 a1 a2 a3 r.device_ r.knows_ z.device_ z.knows_ r.facts_ z.facts_ := by
 obtain ⟨r, h1, h2⟩ := fix_runP (F := fun (_ : Unit) next5 s => Z8 a0 a1 a2 a3 l z next5 s.1 s.2.1 s.2.2.1 s.2.2.2) (fun _ (r : T_sync_Replica) => Wl a0 a1 a2 a3 r.device_ r.knows_ z.device_ z.knows_ r.facts_ z.facts_)
  (fun s : Int × Int × (Nat → Int) × List T_sync_Fact => ∃ j : Nat, s.1 = (j : Int) ∧ j ≤ l.length ∧ Inv j ⟨s.2.1, s.2.2.1, s.2.2.2⟩ ∧ Own 0 ⟨s.2.1, s.2.2.1, s.2.2.2⟩) (fun s => l.length - s.1.toNat) (fun r => ∃ n : Nat, n ≤ l.length ∧ Inv n r ∧ Own 0 r)
  (by
   rintro ⟨_, dv, k, f⟩ ⟨j, rfl, hj, hi, ho⟩
   simp only at hi ho ⊢
   simp only [Z8]
   rcases Nat.lt_or_ge j l.length with h | h
   ·obtain ⟨r', hr, hG⟩ := deed_own hi ho (by omega) l[j]
    refine .inr ⟨((j : Int) + 1, r'.device_, r'.knows_, r'.facts_), ⟨j + 1, rfl, h, hr⟩, by simp only; omega, fun _ next => ?_⟩
    rw [Xv (by omega), Js, Q9 h, Jg]
    refine (hG fun r => Wv (j : Int) next r.device_ r.knows_ r.facts_).trans ?_
    unfold Wv
    rw [Xg (by omega), Jg]
   ·refine .inl ⟨⟨dv, k, f⟩, ⟨j, hj, hi, ho⟩, fun _ next => ?_⟩
    rw [Q6 (by omega), Jk])
  (0, 0, (fun _ => 0), []) ⟨0, rfl, Nat.zero_le _, inv_new, ⟨rfl, fun f hf => absurd hf List.not_mem_nil, fun _ _ _ => rfl, List.nodup_nil⟩⟩
 exact ⟨r, h1, h2 ()⟩
theorem inv_new1 : Inv 0 ⟨1, (fun _ => 0), []⟩ :=
 ⟨⟨by decide, by decide⟩, fun _ _ => ⟨Int.le_refl 0, Int.le_refl 0⟩, Nat.zero_le _, fun _ hx => absurd hx List.not_mem_nil, fun _ hx => absurd hx List.not_mem_nil, fun _ hx => absurd hx List.not_mem_nil, fun _ hx => absurd hx List.not_mem_nil⟩
theorem loop3 (a0 : List T_face_Likeness) (a1 : List T_face_Person) (l : List Int) (a : T_sync_Replica) (hl : l.length ≤ 9000000000000000000) :
  ∃ r : T_sync_Replica, (∃ n : Nat, n ≤ l.length ∧ Inv n r ∧ Own 1 r) ∧ W5 (fun next3 s => Z5 a0 a1 a.device_ a.knows_ a.facts_ l next3 s.1 s.2.1 s.2.2.1 s.2.2.2) (0, 1, (fun _ => 0), []) = Wx a0 a1 a.device_ a.knows_ a.facts_ r.device_ r.knows_ r.facts_ := by
 obtain ⟨r, h1, h2⟩ := fix_runP (F := fun (_ : Unit) next3 s => Z5 a0 a1 a.device_ a.knows_ a.facts_ l next3 s.1 s.2.1 s.2.2.1 s.2.2.2) (fun _ (r : T_sync_Replica) => Wx a0 a1 a.device_ a.knows_ a.facts_ r.device_ r.knows_ r.facts_)
  (fun s : Int × Int × (Nat → Int) × List T_sync_Fact => ∃ j : Nat, s.1 = (j : Int) ∧ j ≤ l.length ∧ Inv j ⟨s.2.1, s.2.2.1, s.2.2.2⟩ ∧ Own 1 ⟨s.2.1, s.2.2.1, s.2.2.2⟩) (fun s => l.length - s.1.toNat) (fun r => ∃ n : Nat, n ≤ l.length ∧ Inv n r ∧ Own 1 r)
  (by
   rintro ⟨_, dv, k, f⟩ ⟨j, rfl, hj, hi, ho⟩
   simp only at hi ho ⊢
   simp only [Z5]
   rcases Nat.lt_or_ge j l.length with h | h
   ·obtain ⟨r', hr, hG⟩ := deed_own hi ho (by omega) l[j]
    refine .inr ⟨((j : Int) + 1, r'.device_, r'.knows_, r'.facts_), ⟨j + 1, rfl, h, hr⟩, by simp only; omega, fun _ next => ?_⟩
    rw [Xv (by omega), Js, Q9 h, Jg]
    refine (hG fun r => Wr (j : Int) next r.device_ r.knows_ r.facts_).trans ?_
    unfold Wr
    rw [Xg (by omega), Jg]
   ·refine .inl ⟨⟨dv, k, f⟩, ⟨j, hj, hi, ho⟩, fun _ next => ?_⟩
    rw [Q6 (by omega), Jk])
  (0, 1, (fun _ => 0), []) ⟨0, rfl, Nat.zero_le _, inv_new1, ⟨rfl, fun f hf => absurd hf List.not_mem_nil, fun _ _ _ => rfl, List.nodup_nil⟩⟩
 exact ⟨r, h1, h2 ()⟩
theorem inF_iff (l : List T_sync_Fact) (x : T_sync_Fact) : inF (Us [] l) x = true ↔ ∃ f ∈ l, Vz f = x := by
 rw [inF_setM]
 constructor
 ·rintro (h | h)
  ·exact h
  ·cases h
 ·exact .inl
section
variable {n m : Nat} {a b : T_sync_Replica} (ha : Inv n a) (hb : Inv m b) (oa : Own 0 a) (ob : Own 1 b)
include oa ob in
theorem one_apart {x y : T_sync_Fact} (hx : x ∈ a.facts_) (hy : y ∈ b.facts_) : Vz x ≠ Vz y := fun e => by
 have h := (one_dot e).1
 have h1 := (oa.dot x hx).1
 rw [h, (ob.dot y hy).1] at h1
 omega
include ha hb oa ob
theorem dist_both : Dist (a.facts_ ++ b.facts_) := by
 intro x hx y hy h
 rcases List.mem_append.1 hx with hx | hx <;> rcases List.mem_append.1 hy with hy | hy
 ·exact ha.dist x hx y hy h
 ·exact absurd h (one_apart oa ob hx hy)
 ·exact absurd h.symm (one_apart oa ob hy hx)
 ·exact hb.dist x hx y hy h
theorem meet_one : Xx a b = if 5000 < ((a.facts_ ++ b.facts_).length : Int) then some (4, a) else some (0, ⟨a.device_, maxU 16 a.knows_ b.knows_, Wh (a.facts_ ++ b.facts_)⟩) := by
 have e1 : a.facts_.filter (Wu (Us [] b.facts_) b.knows_) = a.facts_ := List.filter_eq_self.2 fun x hx => by
  have h := oa.dot x hx
  have : knowsB b.knows_ x.Dot = false := by
   unfold knowsB
   rw [decide_eq_false_iff_not, h.1]
   rintro ⟨_, _, h3⟩
   have := ob.kn 0 (by omega) (by omega)
   have h3 : x.Dot.N ≤ b.knows_ 0 := h3
   omega
  unfold Wu
  rw [this]; simp
 have e2 : b.facts_.filter (V9 a.knows_ (Us [] a.facts_)) = b.facts_ := List.filter_eq_self.2 fun x hx => by
  have h := ob.dot x hx
  have h1 : knowsB a.knows_ x.Dot = false := by
   unfold knowsB
   rw [decide_eq_false_iff_not, h.1]
   rintro ⟨_, _, h3⟩
   have := oa.kn 1 (by omega) (by omega)
   have h3 : x.Dot.N ≤ a.knows_ 1 := h3
   omega
  have h2 : inF (Us [] a.facts_) (Vz x) = false := by
   rw [Bool.eq_false_iff]
   intro h
   obtain ⟨f, hf, he⟩ := (inF_iff _ _).1 h
   exact one_apart oa ob hf hx he
  unfold V9
  rw [h1, h2]; rfl
 obtain ⟨add, h1, h2, h3⟩ := meet_ok a b ha.len hb.len (by rw [e1, e2]; exact dist_both ha hb oa ob)
 have h0 : add = b.facts_ := by
  rw [e2] at h1
  refine sub_eq h1 ob.nodup fun x hx => ?_
  have hx2 := hx
  rw [← e2] at hx2
  obtain ⟨y, hy, he⟩ := h2 x hx (List.mem_filter.1 hx2).2
  rw [← hb.dist y (h1.subset hy) x hx he]; exact hy
 subst h0
 rw [h3, e1]
theorem meet_two (hl : (a.facts_ ++ b.facts_).length ≤ 5000) : Xx b ⟨a.device_, maxU 16 a.knows_ b.knows_, Wh (a.facts_ ++ b.facts_)⟩ = some (0, ⟨b.device_, maxU 16 b.knows_ (maxU 16 a.knows_ b.knows_), Wh (a.facts_ ++ b.facts_)⟩) := by
 have e1 : b.facts_.filter (Wu (Us [] (Wh (a.facts_ ++ b.facts_))) (maxU 16 a.knows_ b.knows_)) = b.facts_ := List.filter_eq_self.2 fun x hx => by
  unfold Wu
  rw [(inF_iff _ _).2 ⟨x, sortF_mem.2 (List.mem_append_right _ hx), rfl⟩]; rfl
 have hf : ∀ x ∈ a.facts_, V9 b.knows_ (Us [] b.facts_) x = true := fun x hx => by
  have h := oa.dot x hx
  have h1 : knowsB b.knows_ x.Dot = false := by
   unfold knowsB
   rw [decide_eq_false_iff_not, h.1]
   rintro ⟨_, _, h3⟩
   have := ob.kn 0 (by omega) (by omega)
   have h3 : x.Dot.N ≤ b.knows_ 0 := h3
   omega
  have h2 : inF (Us [] b.facts_) (Vz x) = false := by
   rw [Bool.eq_false_iff]
   intro h
   obtain ⟨f, hf, he⟩ := (inF_iff _ _).1 h
   exact one_apart oa ob hx hf he.symm
  unfold V9
  rw [h1, h2]; rfl
 have hg : ∀ x ∈ b.facts_, V9 b.knows_ (Us [] b.facts_) x = false := fun x hx => by
  have : inF (Us [] b.facts_) (Vz x) = true := (inF_iff _ _).2 ⟨x, hx, rfl⟩
  unfold V9
  rw [this]; rfl
 have e2 : ((Wh (a.facts_ ++ b.facts_)).filter (V9 b.knows_ (Us [] b.facts_))).Perm a.facts_ := by
  refine ((sortF_perm (a.facts_ ++ b.facts_)).filter _).trans ?_
  rw [List.filter_append, List.filter_eq_self.2 hf, List.filter_eq_nil_iff.2 fun x hx => by rw [hg x hx]; simp, List.append_nil]
 have hd := dist_both ha hb oa ob
 obtain ⟨add, h1, h2, h3⟩ := meet_ok b ⟨a.device_, maxU 16 a.knows_ b.knows_, Wh (a.facts_ ++ b.facts_)⟩ hb.len (by show (Wh _).length ≤ _; rw [sortF_len]; exact hl) (by
  show Dist (b.facts_.filter (Wu (Us [] (Wh (a.facts_ ++ b.facts_))) (maxU 16 a.knows_ b.knows_)) ++ (Wh (a.facts_ ++ b.facts_)).filter (V9 b.knows_ (Us [] b.facts_)))
  rw [e1]
  refine hd.sub fun x hx => ?_
  rcases List.mem_append.1 hx with h | h
  ·exact List.mem_append_right _ h
  ·exact sortF_mem.1 (List.mem_filter.1 h).1)
 have h1 : add.Sublist ((Wh (a.facts_ ++ b.facts_)).filter (V9 b.knows_ (Us [] b.facts_))) := h1
 have h0 : add = (Wh (a.facts_ ++ b.facts_)).filter (V9 b.knows_ (Us [] b.facts_)) := by
  refine sub_eq h1 ((e2.nodup_iff).2 oa.nodup) fun x hx => ?_
  have hx2 := List.mem_filter.1 hx
  obtain ⟨y, hy, he⟩ := h2 x hx2.1 hx2.2
  have hy2 := sortF_mem.1 (List.mem_filter.1 (h1.subset hy)).1
  rw [← hd y hy2 x (sortF_mem.1 hx2.1) he]; exact hy
 have hp : (b.facts_ ++ add).Perm (a.facts_ ++ b.facts_) := by
  rw [h0]
  exact (List.Perm.append_left _ e2).trans List.perm_append_comm
 have h3 : Xx b ⟨a.device_, maxU 16 a.knows_ b.knows_, Wh (a.facts_ ++ b.facts_)⟩ = (if 5000 < ((b.facts_.filter (Wu (Us [] (Wh (a.facts_ ++ b.facts_))) (maxU 16 a.knows_ b.knows_)) ++ add).length : Int) then some (4, b) else some (0, ⟨b.device_, maxU 16 b.knows_ (maxU 16 a.knows_ b.knows_), Wh (b.facts_.filter (Wu (Us [] (Wh (a.facts_ ++ b.facts_))) (maxU 16 a.knows_ b.knows_)) ++ add)⟩)) := h3
 rw [h3, e1, if_neg (by rw [hp.length_eq]; omega), sortF_congr hd hp]
end
theorem people_cases (l : List T_face_Likeness) (ps : List T_face_Person) (hl : l.length ≤ 9223372036854775807) (hsz : ∀ p ∈ ps, PSz p) (hn : ps.length ≤ 9223372036854775000) : ∃ e, Ys l ps = some e ∧ (e = 0 → Good l ∧ Right l ps) := by
 have hc := check_eq l hl
 by_cases h0 : (if 300 < l.length then (4 : Int) else firstE (likeF l) l.length 0) = 0
 ·have h3 : ¬ 300 < l.length := fun h => by rw [if_pos h] at h0; omega
  have hg : Good l := good_of l (by omega) (by rw [if_neg h3] at h0; exact h0)
  rw [h0] at hc
  obtain ⟨e, h1, h2⟩ := check_right hg hc ps hsz hn
  exact ⟨e, h1, fun h => ⟨hg, h2.1 h⟩⟩
 ·refine ⟨_, ?_, fun h => absurd h h0⟩
  unfold Ys
  rw [hc, Jg, Xv h0, Js]
theorem peopleOf_ok {l : List T_face_Likeness} {ps : List T_face_Person} (hg : Good l) (hr : Right l ps) (hsz : ∀ p ∈ ps, PSz p) (hc : Ys l ps = some 0) (i : Int) : ∃ ids, Ja0 l ps i = some (ids, 0) ∧ ids.length ≤ 100 := by
 unfold Ja0
 rw [hc, Jg, Q6 (by simp), Jk]
 obtain ⟨o, h1, ids, rfl, h2⟩ := fix_run (F := fun next2 s => Z1 l ps i next2 s.1 s.2) (fun s : Int × List Int => ∃ k : Nat, s.1 = (k : Int) ∧ k ≤ ps.length ∧ s.2.length ≤ k) (fun s => ps.length - s.1.toNat) (fun o => ∃ ids : List Int, o = (ids, (0 : Int)) ∧ ids.length ≤ 100)
  (by
   rintro ⟨_, s⟩ ⟨k, rfl, hk, hs⟩
   simp only at hs ⊢
   have hlen := hr.len
   simp only [Z1]
   rcases Nat.lt_or_ge k ps.length with h | h
   ·have hp := hr.all _ (List.getElem_mem h)
    have hz := (hsz _ (List.getElem_mem h)).1
    have e1 := photosOf_eq hg ps[k].Likes (by omega) hp.likes.all
    have e2 := contains_eq (Ul l ps[k].Likes) i (by unfold Ul; rw [List.length_map]; omega)
    by_cases hm : i ∈ Ul l ps[k].Likes
    ·refine .inr ⟨((k : Int) + 1, s ++ [ps[k].Id]), ⟨k + 1, rfl, h, by simp; omega⟩, by simp only; omega, fun next => ?_⟩
     rw [Xv (by omega), Js, Q9 h, Jg, e1, Jg, e2, Jg, Xv hm, Js, Uh (by simp; omega), Jg]
     unfold Vo
     rw [Xg (by omega), Jg]
    ·refine .inr ⟨((k : Int) + 1, s), ⟨k + 1, rfl, h, by simp only; omega⟩, by simp only; omega, fun next => ?_⟩
     rw [Xv (by omega), Js, Q9 h, Jg, e1, Jg, e2, Jg, Q6 hm, Jk]
     unfold Vo
     rw [Xg (by omega), Jg]
   ·refine .inl ⟨(s, 0), ⟨s, rfl, by omega⟩, fun next => ?_⟩
    rw [Q6 (by omega), Jk]; rfl)
  (0, []) ⟨0, rfl, Nat.zero_le _, Nat.le_refl _⟩
 exact ⟨ids, h1, h2⟩
theorem told_ok {l : List T_face_Likeness} {ps : List T_face_Person} (hg : Good l) (hr : Right l ps) (hsz : ∀ p ∈ ps, PSz p) (hc : Ys l ps = some 0) (r : T_sync_Replica) (hf : r.facts_.length ≤ 100000) :
  ∃ out T, X1 r = some out ∧ Z2 l ps r = some T ∧ T.length = out.length ∧ out.length ≤ 100000 ∧ ∀ x ∈ T, x.length ≤ 1000 := by
 obtain ⟨out, h1, h2, _, _⟩ := Shown_ok r hf
 unfold Z2
 rw [h1, Jg]
 obtain ⟨T, h3, h4, h5⟩ := fix_run (F := fun next1 s => Zv l ps out next1 s.1 s.2) (fun s : Int × List (List Int) => ∃ k : Nat, s.1 = (k : Int) ∧ k ≤ out.length ∧ s.2.length = k ∧ ∀ x ∈ s.2, x.length ≤ 1000) (fun s => out.length - s.1.toNat) (fun T => T.length = out.length ∧ ∀ x ∈ T, x.length ≤ 1000)
  (by
   rintro ⟨_, T⟩ ⟨k, rfl, hk, hT, hx⟩
   simp only at hT hx ⊢
   simp only [Zv]
   rcases Nat.lt_or_ge k out.length with h | h
   ·obtain ⟨ids, e1, e2⟩ := peopleOf_ok hg hr hsz hc out[k].Id
    refine .inr ⟨((k : Int) + 1, T ++ [[out[k].Id] ++ ids]), ⟨k + 1, rfl, h, by simp; omega, fun x hm => ?_⟩, by simp only; omega, fun next => ?_⟩
    ·rcases List.mem_append.1 hm with hm | hm
     ·exact hx x hm
     ·rw [List.mem_singleton.1 hm]; simp; omega
    ·rw [Xv (by omega), Js, Q9 h, Jg, e1, Jg]
     dsimp only
     rw [Q6 (by simp), Jk, Uh (by simp; omega), Jg, Uh (by simp; omega), Jg, Xg (by omega), Jg]
   ·refine .inl ⟨T, ⟨by omega, hx⟩, fun next => ?_⟩
    rw [Q6 (by omega), Jk])
  (0, []) ⟨0, rfl, Nat.zero_le _, rfl, fun x hx => absurd hx List.not_mem_nil⟩
 exact ⟨out, T, rfl, h3, h4, h2, h5⟩
theorem eqInt_refl (x : List Int) (hx : x.length ≤ 1000) : Vm x x = some true := by
 unfold Vm
 rw [Q6 (by simp), Jk]
 refine fix_upto (F := fun next1 s => Yb x x next1 s) (o := some true) 0 x.length (Nat.zero_le _) (fun next k _ h => ?_) (fun next => ?_)
 ·simp only [Yb]
  rw [Xv (by omega), Js, Q9 h, Jg, Jg, Q6 (by simp), Jk, Xg (by omega), Jg]
 ·simp only [Yb]
  rw [Q6 (by omega), Jk]
theorem eqInts_refl (T : List (List Int)) (hT : T.length ≤ 100000) (hx : ∀ x ∈ T, x.length ≤ 1000) : Yh T T Vm = some true := by
 unfold Yh
 rw [Q6 (by simp), Jk]
 refine fix_upto (F := fun next1 s => J6 T T Vm next1 s) (o := some true) 0 T.length (Nat.zero_le _) (fun next k _ h => ?_) (fun next => ?_)
 ·simp only [J6]
  rw [Xv (by omega), Js, Q9 h, Jg, Jg, eqInt_refl _ (hx _ (List.getElem_mem h)), Jg, Bool.not_true, Jk, Xg (by omega), Jg]
 ·simp only [J6]
  rw [Q6 (by omega), Jk]
theorem ids_dev (d d' : Int) (k k' : Nat → Int) (F : List T_sync_Fact) : Vp ⟨d, k, F⟩ = Vp ⟨d', k', F⟩ := rfl
theorem shown_dev (d d' : Int) (k k' : Nat → Int) (F : List T_sync_Fact) : X1 ⟨d, k, F⟩ = X1 ⟨d', k', F⟩ := by
 unfold X1
 rw [ids_dev d d' k k' F]
 rfl
theorem told_dev (l : List T_face_Likeness) (ps : List T_face_Person) (d d' : Int) (k k' : Nat → Int) (F : List T_sync_Fact) : Z2 l ps ⟨d, k, F⟩ = Z2 l ps ⟨d', k', F⟩ := by
 unfold Z2
 rw [shown_dev d d' k k' F]
theorem alike_two (F : List T_sync_Fact) (hF : F.length ≤ 100000) (a b : Int) (k k' : Nat → Int) (hk : ∀ j, j < 16 → k j = k' j) : sync_Alike ⟨a, k, F⟩ ⟨b, k', F⟩ = some true := by
 have e : Jaa k k' = true := by
  unfold Jaa
  rw [decide_eq_true_eq]
  exact List.map_congr_left fun j hj => hk j (List.mem_range.1 hj)
 unfold sync_Alike
 rw [e, Js, equal_refl F hF, Jg]
theorem awake_eq : Jav = some true := by
 unfold Jav sync_CheckFact
 rw [Jao, Jg, Q6 (by simp), Jk, Jao, Jg, Xv (by simp), Js, Jg]
 rfl
theorem topTold_all (l : List T_face_Likeness) (ps : List T_face_Person) (x y : List Int) (hl : l.length ≤ 9223372036854775807) (hsz : ∀ p ∈ ps, PSz p) (hn : ps.length ≤ 9223372036854775000) (hx : x.length ≤ 9000000000000000000) (hy : y.length ≤ 9000000000000000000) : Top_TopTold l ps x y = some true := by
 unfold Top_TopTold
 obtain ⟨e, hc, hok⟩ := people_cases l ps hl hsz hn
 rw [awake_eq, Jg, Bool.not_true, Jk, hc, Jg]
 by_cases he : e = 0
 ·subst he
  obtain ⟨hg, hr⟩ := hok rfl
  rw [Q6 (by simp), Jk, New_eq, Jg, if_neg (by omega), New_eq, Jg, if_neg (by omega)]
  dsimp only
  rw [Q6 (by simp), Jk, Jk, show Qn ([x, y] : List (List Int)) 0 = some x from rfl, Jg, Jg, Jg]
  dsimp only
  obtain ⟨a, ⟨n, hna, ha, oa⟩, hA⟩ := loop5 l ps x y x ⟨1, (fun _ => 0), []⟩ hx
  rw [hA]
  unfold Wl
  rw [show Qn ([x, y] : List (List Int)) 1 = some y from rfl, Jg]
  dsimp only
  obtain ⟨b, ⟨m, hmb, hb, ob⟩, hB⟩ := loop3 l ps y a hy
  rw [hB]
  unfold Wx
  show J2 (Xx a b) (fun t73 => Qi (decide (t73.1 ≠ 0)) (some true) (J2 (Xx b t73.2) _)) = _
  rw [meet_one ha hb oa ob]
  by_cases hL : 5000 < ((a.facts_ ++ b.facts_).length : Int)
  ·rw [if_pos hL, Jg]
   dsimp only
   rw [Xv (by simp), Js]
  ·rw [if_neg hL, Jg]
   dsimp only
   rw [Q6 (by simp), Jk, meet_two ha hb oa ob (by omega), Jg]
   dsimp only
   have hF : (Wh (a.facts_ ++ b.facts_)).length ≤ 100000 := by rw [sortF_len]; omega
   obtain ⟨out, T, t1, t2, t3, t4, t5⟩ := told_ok hg hr hsz hc ⟨a.device_, maxU 16 a.knows_ b.knows_, Wh (a.facts_ ++ b.facts_)⟩ hF
   rw [Q6 (by simp), Jk, told_dev l ps b.device_ a.device_ (maxU 16 b.knows_ (maxU 16 a.knows_ b.knows_)) (maxU 16 a.knows_ b.knows_), t2, Jg, Jg, eqInts_refl T (by omega) t5, Jg, Js, Jg, t1, Jg, Xv (by rw [t3]), Js, alike_two _ hF _ _ _ _ (fun j hj => ?_), Jg]
   unfold maxU
   simp only [if_pos hj]
   omega
 ·rw [Xv he, Js]
theorem topToldS (l : List T_face_Likeness) (ps : List T_face_Person) (x y : List Int) {φ ψ χ : Prop} {α β γ δ : T_face_Person → Prop} (h1 : (l.length ≤ 9223372036854775807 ∧ l.length * 112 ≤ 140737488351232) ∧ φ)
  (h2 : (ps.length ≤ 9223372036854775807 ∧ ps.length * 72 ≤ 140737488351232) ∧ ∀ a ∈ ps, α a ∧ β a ∧ ((a.Likes.length ≤ 9223372036854775807 ∧ a.Likes.length * 8 ≤ 140737488351232) ∧ γ a) ∧ ((a.Nots.length ≤ 9223372036854775807 ∧ a.Nots.length * 8 ≤ 140737488351232) ∧ δ a))
  (h3 : (x.length ≤ 9223372036854775807 ∧ x.length * 8 ≤ 140737488351232) ∧ ψ) (h4 : (y.length ≤ 9223372036854775807 ∧ y.length * 8 ≤ 140737488351232) ∧ χ) : Top_TopTold l ps x y = some true :=
 topTold_all l ps x y (by omega) (fun p hp => by have := h2.2 p hp; exact ⟨by omega, by omega⟩) (by omega) (by omega) (by omega)
end Go.M

/- What a claim says of a call's arguments, as rows: slices, arrays, structs, strings. Conditions: none. -/
namespace Go.Vc
open Go
variable {H : Type} {enc : TypeId × Value → H} {P : Program} {w : World} {base : Nat} {spare : Nat → Bool} {held : Bool}
theorem cells_addr {w : World} {base k : Nat} {a : Addr} {cs : List Value} (h : w.cells? base a k = some cs) : cs.length = k ∧ ∀ i, i < k → w.cell? (a.add i) = cs[i]? :=
 (World.cells?_some h).2
theorem cell_spot {w : World} {a : Addr} {v : Value} (h : w.cell? a = some v) : a.spot = none := by
 unfold World.cell? at h
 split at h
 ·split at h
  ·cases h
  ·rename_i hs; simpa using hs
 ·cases h
theorem op_int {t fuel : Nat} {k : IntKind} {cs : List Value} {x : DataW H × List MemPlace} (ht : P.underlying t = some (.int k)) (h : DataW.trod enc P w base spare held fuel t cs = some x) : ∃ n : Int, cs = [.int k n] ∧ (Lit.int k n).wf = true := by
 obtain ⟨n, h1, _, h2⟩ := DataW.trod_int ht h
 exact ⟨n, h1, h2⟩
theorem op_elem {t fuel i m e : Nat} {cs : List Value} {x : DataW H × List MemPlace} (ht : P.underlying t = some (.array m e)) (hi : i < m) (h : DataW.trod enc P w base spare held fuel t cs = some x) :
  ∃ n y, DataW.trod enc P w base spare held n e ((cs.drop (i * P.cellsOf e)).take (P.cellsOf e)) = some y := by
 obtain ⟨xs, n, _, _, _, hl, hp⟩ := DataW.trod_array ht h
 have h1 := hp i hi
 rw [List.getElem?_eq_getElem (by omega)] at h1
 exact ⟨n, _, h1⟩
end Go.Vc

/- What a claim says of a call's arguments, as values of plain types: parts of structs, arrays, slices. Conditions: none. -/
namespace Go.Lx
open Go Go.Vc Go.Md
variable {H : Type} {enc : TypeId × Value → H} {P : Program} {w : World} {base : Nat} {spare : Nat → Bool} {held : Bool}
theorem piece {cs l : List Value} {o s : Nat} (h : (cs.drop o).take s = l) (hl : l.length = s) : cs.drop o = l ++ cs.drop (o + s) := by
 have := List.take_append_drop s (cs.drop o)
 rw [h, List.drop_drop] at this
 exact this.symm
theorem op_arr {α : Type} [Inhabited α] {f : α → List Value} {good : α → Prop} {t e sz m fuel : Nat} {cs : List Value} {x : DataW H × List MemPlace} (ht : P.underlying t = some (.array m e)) (hc : P.cellsOf e = sz) (hf : ∀ a, (f a).length = sz)
  (hD : ∀ n cs x, cs.length = sz → DataW.trod enc P w base spare held n e cs = some x → ∃ a, cs = f a ∧ good a) (hlen : cs.length = m * sz) (h : DataW.trod enc P w base spare held fuel t cs = some x) :
  ∃ g : Nat → α, cs = (List.range m).flatMap (fun j => f (g j)) ∧ ∀ j, j < m → good (g j) := by
 have each : ∀ i : Fin m, ∃ a : α, (cs.drop (i * sz)).take sz = f a ∧ good a := by
  intro i
  obtain ⟨n, y, hy⟩ := op_elem ht i.2 h
  rw [hc] at hy
  have hle : (i + 1) * sz ≤ m * sz := Nat.mul_le_mul_right _ i.2
  rw [Nat.succ_mul] at hle
  exact hD _ _ _ (by rw [List.length_take, List.length_drop]; omega) hy
 have hch : ∃ g : Fin m → α, ∀ i : Fin m, (cs.drop (i * sz)).take sz = f (g i) ∧ good (g i) := ⟨fun i => (each i).choose, fun i => (each i).choose_spec⟩
 obtain ⟨g, hg⟩ := hch
 refine ⟨fun j => if h : j < m then g ⟨j, h⟩ else default, ?_, fun j hj => by show good (if h : j < m then g ⟨j, h⟩ else default); rw [dif_pos hj]; exact (hg ⟨j, hj⟩).2⟩
 have key : ∀ k, k ≤ m → cs = ((List.range k).flatMap fun j => f (if h : j < m then g ⟨j, h⟩ else default)) ++ cs.drop (k * sz) := by
  intro k
  induction k with
  | zero => intro _; simp
  | succ k ih =>
   intro hk
   have h1 := ih (by omega)
   have h2 := piece (hg ⟨k, by omega⟩).1 (hf _)
   rw [List.range_succ, List.flatMap_append, List.flatMap_singleton, dif_pos (show k < m by omega), List.append_assoc, Nat.succ_mul]
   rw [← h2]
   exact h1
 have := key m (Nat.le_refl _)
 rwa [List.drop_of_length_le (by omega), List.append_nil] at this
theorem Row.snap {w : World} {a : Option Addr} {sz : Nat} {xs : List (List Value)} (h : Row w a sz xs) (hsz : 0 < sz) : RowH (fun b => w.heap[b]?) a sz xs := by
 rcases h with h | ⟨b, off, ha, h⟩
 ·exact .inl h
 ·cases xs with
  | nil => exact .inl rfl
  | cons x r =>
   have h0 := h 0 x rfl
   have hv := h0.2 0 x[0] (by simp [h0.1, hsz])
   unfold World.cell? at hv
   split at hv
   ·rename_i c T m hb
    refine .inr ⟨b, off, c, T, m, ha, hb, fun i y hy => ⟨(h i y hy).1, fun j v hj => ?_⟩⟩
    have := (h i y hy).2 j v hj
    unfold World.cell? at this
    rw [hb] at this
    simpa using this
   ·cases hv
theorem val_cell {r : Reach} {b0 t : Nat} {v : Value} (ht : (match P.underlying t with | some (.int _) | some (.slice _) | some .string | some .bool => true | _ => false) = true) (hval : Value.okWide P w r b0 t v) : v.cells.toList = [v] := by
 unfold Value.okWide at hval
 split at hval
 ·rename_i h; rw [h] at ht; cases ht
 ·rename_i h; rw [h] at ht; cases ht
 ·cases v with
  | agg cs =>
   exfalso
   unfold Cell.okWide at hval
   split at ht <;> simp_all [Cell.ok]
  | _ => rfl
end Go.Lx

/- What a claim says of a call's arguments, where their bulk is bounded. Conditions: none. -/
namespace Go.Vc
open Go Go.Lx
variable {H : Type} {enc : TypeId × Value → H} {P : Program} {w : World} {base : Nat} {spare : Nat → Bool} {held : Bool}
structure BK (bk : DataW H → Nat) : Prop where
 slice : ∀ (es rs : List (DataW H)) (d : DataW H), d ∈ es → bk d ≤ bk (.slice es rs)
 agg : ∀ (es : List (DataW H)) (d : DataW H), d ∈ es → bk d ≤ bk (.agg es)
 str : ∀ bs : List UInt8, bs.length ≤ bk (.lit (.string bs))
end Go.Vc

/- What a claim says of a call's arguments, with the reach of the claim's form: no string and no slice is larger than it. Conditions: none. -/
namespace Go.Vc
open Go Go.Lx
variable {H : Type} {enc : TypeId × Value → H} {P : Program} {w : World} {base : Nat} {spare : Nat → Bool} {held : Bool}
def Wt (P : Program) (B : Nat) (t : TypeId) (d : DataW H) : Prop := ∀ n ∈ DataW.weights P t d, n ≤ B
theorem mem_each {n : Nat} : ∀ (ts : List TypeId) (ds : List (DataW H)) (i : Nat) (t : TypeId) (d : DataW H), ts[i]? = some t → ds[i]? = some d → n ∈ DataW.weights P t d → n ∈ DataW.weightsEach P ts ds
 | [], _, i, t, d, h, _, _ => by simp at h
 | t' :: ts, [], i, t, d, _, h, _ => by simp at h
 | t' :: ts, d' :: ds, 0, t, d, h1, h2, h3 => by
  simp at h1 h2; subst h1 h2
  simp only [DataW.weightsEach, List.mem_append]; exact .inl h3
 | t' :: ts, d' :: ds, i + 1, t, d, h1, h2, h3 => by
  simp only [DataW.weightsEach, List.mem_append]
  exact .inr (mem_each ts ds i t d (by simpa using h1) (by simpa using h2) h3)
theorem mem_all {n : Nat} {e : TypeId} : ∀ (ds : List (DataW H)) (d : DataW H), d ∈ ds → n ∈ DataW.weights P e d → n ∈ DataW.weightsAll P e ds
 | [], _, h, _ => by cases h
 | d' :: ds, d, h, h3 => by
  simp only [DataW.weightsAll, List.mem_append]
  rcases List.mem_cons.1 h with rfl | h
  ·exact .inl h3
  ·exact .inr (mem_all ds d h h3)
theorem wt_arg {B : Nat} {ts : List TypeId} {ds : List (DataW H)} (h : (DataW.weightsEach P ts ds).all (· ≤ B) = true) (i : Nat) {t : TypeId} {d : DataW H} (ht : ts[i]? = some t) (hd : ds[i]? = some d) : Wt P B t d := fun n hn => by
 have := List.all_eq_true.1 h n (mem_each ts ds i t d ht hd hn)
 simpa using this
theorem op_stringW {B t fuel : Nat} {cs : List Value} {x : DataW H × List MemPlace} (hB : Wt P B t x.1) (ht : P.underlying t = some .string) (h : DataW.trod enc P w base spare held fuel t cs = some x) : ∃ s : List UInt8, cs = [str s] ∧ s.length ≤ 9223372036854775807 ∧ s.length ≤ B := by
 obtain ⟨s, h1, h3, h2⟩ := DataW.trod_string ht h
 have e : s.data.toList.length = s.size := by rw [Array.length_toList]; rfl
 refine ⟨s.data.toList, by rw [h1], by rw [e]; unfold maxLen at h2; omega, ?_⟩
 rw [h3] at hB
 exact hB _ (by simp [DataW.weights])
theorem op_fieldW {B t fuel i ft fo sz bo : Nat} {nm tg pk : String} {em : Bool} {fs : Array Field} {cs : List Value} {x : DataW H × List MemPlace} (hB : Wt P B t x.1) (ht : P.underlying t = some (.struct fs)) (hf : fs[i]? = some ⟨nm, ft, fo, em, tg, pk, bo⟩) (hc : P.cellsOf ft = sz) (h : DataW.trod enc P w base spare held fuel t cs = some x) :
  ∃ n y, DataW.trod enc P w base spare held n ft ((cs.drop fo).take sz) = some y ∧ Wt P B ft y.1 := by
 subst hc
 obtain ⟨xs, n, _, hx, _, hl, hp⟩ := DataW.trod_struct ht h
 have h1 := hp i _ hf
 have hi : i < fs.size := by
  rcases Nat.lt_or_ge i fs.size with h | h
  ·exact h
  ·rw [Array.getElem?_eq_none h] at hf; cases hf
 rw [List.getElem?_eq_getElem (by omega)] at h1
 refine ⟨n, _, h1, fun k hk => hB k ?_⟩
 rw [hx]
 simp only [DataW.weights, ht]
 have hft : (fs.toList.map (·.type))[i]? = some ft := by rw [List.getElem?_map, Array.getElem?_toList, hf]; rfl
 exact mem_each _ _ i ft _ hft (by rw [List.getElem?_map, List.getElem?_eq_getElem (by omega)]; rfl) hk
theorem op_sliceW {B by_ : Nat} {α : Type} {f : α → List Value} {good : α → Prop} {t e sz fuel : Nat} {cs : List Value} {x : DataW H × List MemPlace} (hB : Wt P B t x.1) (ht : P.underlying t = some (.slice e)) (hc : P.cellsOf e = sz) (hsz : Nat.blt 0 sz = true) (hby : P.bytesOf e = by_)
  (hD : ∀ n cs x, Wt P B e x.1 → cs.length = sz → DataW.trod enc P w base spare held n e cs = some x → ∃ a, cs = f a ∧ good a) (h : DataW.trod enc P w base spare held fuel t cs = some x) :
  ∃ (v : Value) (xs : List α), cs = [v] ∧ FrS (fun b => w.heap[b]?) sz v (xs.map f) ∧ (xs.length ≤ 9223372036854775807 ∧ xs.length * by_ ≤ B) ∧ ∀ x ∈ xs, good x := by
 subst hby
 have h' := h
 rcases DataW.trod_slice ht h with ⟨rfl, _⟩ | ⟨a, len, cap, elems, rest, n, _, rfl, hx, _, hl, hm, hlen, hel, _⟩
 ·exact ⟨_, [], rfl, FrS.nil _ _, ⟨by simp, by simp⟩, by simp⟩
 ·-- the elements, and no others
  have each : ∀ i : Fin len, ∃ a' : α, w.cells? base (a.add (i * sz)) sz = some (f a') ∧ good a' := by
   intro i
   have hi := hel i i.2
   rw [hc] at hi
   have hlt : (i : Nat) < elems.length := by rw [hlen]; exact i.2
   rw [List.getElem?_eq_getElem hlt, Option.bind_eq_some_iff] at hi
   obtain ⟨cs', h1, h2⟩ := hi
   have hb : Wt P B e (elems[(i : Nat)]).1 := fun k hk => hB k (by
    rw [hx]
    simp only [DataW.weights, ht, List.mem_cons, List.mem_append]
    exact .inr (.inl (mem_all _ _ (List.mem_map.2 ⟨_, List.getElem_mem _, rfl⟩) hk)))
   obtain ⟨a', rfl, hg⟩ := hD _ _ _ hb (cells_addr h1).1 h2
   exact ⟨a', h1, hg⟩
  have hsz' : 0 < sz := by simpa using hsz
  have hch : ∃ g : Fin len → α, ∀ i : Fin len, w.cells? base (a.add (i * sz)) sz = some (f (g i)) ∧ good (g i) := ⟨fun i => (each i).choose, fun i => (each i).choose_spec⟩
  obtain ⟨g, hg⟩ := hch
  have hrow : Row w (some a) sz ((List.ofFn g).map f) := by
   cases len with
   | zero => left; simp
   | succ k =>
    have h0 := hg 0
    have hsp : a.spot = none := by
     have := (cells_addr h0.1).2 0 hsz'
     have hln := (cells_addr h0.1).1
     rw [List.getElem?_eq_getElem (by omega)] at this
     have hs := cell_spot this
     simpa [Addr.add] using hs
    obtain ⟨b, off, spot⟩ := a
    simp only at hsp
    subst hsp
    refine .inr ⟨b, off, rfl, fun i x hx => ?_⟩
    have hi : i < k + 1 := by
     rcases Nat.lt_or_ge i (k + 1) with h | h
     ·exact h
     ·rw [List.getElem?_eq_none (by simpa using h)] at hx; cases hx
    have hx' : x = f (g ⟨i, hi⟩) := by
     rw [List.getElem?_map, List.getElem?_ofFn, dif_pos hi] at hx
     exact (Option.some.inj hx).symm
    subst hx'
    obtain ⟨c1, c2⟩ := cells_addr (hg ⟨i, hi⟩).1
    refine ⟨c1, fun j v hv => ?_⟩
    have hj : j < sz := by
     rcases Nat.lt_or_ge j sz with h | h
     ·exact h
     ·rw [List.getElem?_eq_none (by omega)] at hv; cases hv
    have := c2 j hj
    rw [hv, Addr.add_lit, Addr.add_lit] at this
    exact this
  have hm' : cap ≤ 9223372036854775807 := by simpa [maxLen] using hm
  refine ⟨_, List.ofFn g, rfl, ⟨⟨some a, cap, by simp, by simpa using hl, hm', Row.snap hrow hsz'⟩⟩, ⟨by simp; omega, ?_⟩, ?_⟩
  ·have := hB ((elems.length + rest.length) * P.bytesOf e) (by rw [hx]; simp [DataW.weights, ht])
   rw [List.length_ofFn]
   refine Nat.le_trans (Nat.mul_le_mul_right _ ?_) this
   omega
  intro x hx
  rw [List.mem_ofFn] at hx
  obtain ⟨i, rfl⟩ := hx
  exact (hg i).2
end Go.Vc

/- Opening arguments whose elements hold slices. Conditions: none. -/
namespace Go.Lx
open Go Go.Vc Go.Md Go.ChangeShapes Go.WideShapes Go.ChangeAt
theorem piece_get {cs l : List Value} {o s q : Nat} (h : (cs.drop o).take s = l) (hq : q < l.length) : cs.getD (o + q) undef = l.getD q undef := by
 subst h
 have hs : q < s := by rw [List.length_take] at hq; omega
 simp only [List.getD_eq_getElem?_getD, List.getElem?_take, List.getElem?_drop, if_pos hs]
theorem fr_piece {h : J3} {cs : List Value} {u : Value} {o s sz : Nat} {xs : List (List Value)} (e : (cs.drop o).take s = [u]) (f : FrS h sz u xs) : FrS h sz (cs.getD (o + 0) undef) xs := by
 rw [piece_get e (q := 0) (by simp)]; exact f
section
variable {P : Program} {H : Type} {enc : TypeId × Value → H} {w : World} {base : Nat} {spare : Nat → Bool} {held : Bool}
theorem op_sliceN {B by_ : Nat} {α : Type} {G : J3 → (Nat → Value) → α → Prop} {good : α → Prop} {t e sz fuel : Nat} {cs : List Value} {x : DataW H × List MemPlace} (hB : Wt P B t x.1) (ht : P.underlying t = some (.slice e)) (hc : P.cellsOf e = sz) (hsz : Nat.blt 0 sz = true) (hby : P.bytesOf e = by_)
  (hD : ∀ n cs x, Wt P B e x.1 → cs.length = sz → DataW.trod enc P w base spare held n e cs = some x → ∃ a : α, G (fun b => w.heap[b]?) (fun j => cs.getD j undef) a ∧ good a) (h : DataW.trod enc P w base spare held fuel t cs = some x) :
  ∃ (v : Value) (xs : List α), cs = [v] ∧ FrN (fun b => w.heap[b]?) sz v G xs ∧ (xs.length ≤ 9223372036854775807 ∧ xs.length * by_ ≤ B) ∧ ∀ x ∈ xs, good x := by
 obtain ⟨v, ps, h1, h2, h3, h4⟩ := op_sliceW (f := fun p : List Value × α => p.1) (good := fun p => p.1.length = sz ∧ G (fun b => w.heap[b]?) (fun j => p.1.getD j undef) p.2 ∧ good p.2) hB ht hc hsz hby
  (fun n cs x hb hl hx => by
   obtain ⟨a, g1, g2⟩ := hD n cs x hb hl hx
   exact ⟨(cs, a), rfl, hl, g1, g2⟩) h
 refine ⟨v, ps.map Prod.snd, h1, ?_, by simpa using h3, fun y hy => ?_⟩
 ·refine frn_of (css := ps.map Prod.fst) ?_ ⟨by simp, fun i c y hc hy => ?_⟩
  ·have : (ps.map Prod.fst).map idC = ps.map fun p => p.1 := by unfold idC; simp
   rw [this]; exact h2
  ·simp only [List.getElem?_map, Option.map_eq_some_iff] at hc hy
   obtain ⟨p, hp, rfl⟩ := hc
   obtain ⟨q, hq, rfl⟩ := hy
   rw [hp] at hq
   cases hq
   have := h4 p (List.mem_of_getElem? hp)
   exact ⟨this.1, this.2.1⟩
 ·obtain ⟨p, hp, rfl⟩ := List.mem_map.1 hy
  exact (h4 p hp).2.2
end
end Go.Lx
