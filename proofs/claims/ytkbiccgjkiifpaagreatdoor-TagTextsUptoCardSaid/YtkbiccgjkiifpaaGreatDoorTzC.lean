/- The reference's reading of entries does what the program's lines do, in plain Lean. Conditions: sizes. -/
import Derived.Test.YtkbiccgjkiifpaaGreatDoorTyB
import Derived.Test.YtkbiccgjkiifpaaGreatDoorLx2
import Derived.Lib.LaidTab
import Derived.MakeChecks
import Derived.Test.YtkbiccgjkiifpaaGreatDoorMd
import Derived.ProofKit
import Derived.OpenShut
import Derived.ChangeArms
import Derived.DataReads
import Derived.JoinedCond
import Derived.LaidLaws
import Derived.SizedLaws
set_option linter.unusedVariables false
namespace Go.M
open Go.Md Go.Pl
def endL (deep : Nat) (s : List UInt8) : Prop := (deep = 1 ∧ s = [100, 105, 114]) ∨ (1 < deep ∧ s = sp2 (deep - 1) ++ [125])
instance (deep : Nat) (s : List UInt8) : Decidable (endL deep s) := by unfold endL; infer_instance
theorem here_eq {lines : List (List UInt8)} {a : Int} {deep : Nat} {s : List UInt8} (h : Yv lines a = some s) (h1 : 1 ≤ deep) (hd : deep ≤ 600000) : Jjm lines a (deep : Int) (sp2 deep) = some (decide (endL deep s)) := by
 unfold Jjm
 rw [h, Jb, Jb]
 by_cases hd1 : deep = 1
 ·rw [cI, if_pos (by omega), Jb]
  by_cases hs : s = [100, 105, 114]
  ·rw [decide_eq_true hs, Qh, decide_eq_true (show endL deep s from .inl ⟨hd1, hs⟩)]
  ·rw [decide_eq_false hs, Jy, cI, if_neg (by omega), decide_eq_false]
   rintro (⟨_, e⟩ | ⟨e, _⟩)
   ·exact hs e
   ·omega
 ·have hl := Jcu deep
  have hr : Xx (sp2 deep) 2 (sp2 deep).length = some (sp2 (deep - 1)) := by
   obtain ⟨m, rfl⟩ : ∃ m, deep = m + 1 := ⟨deep - 1, by omega⟩
   rw [V6 (by omega)]
   unfold sp2
   rw [List.replicate_succ]
   simp
  have hl1 := Jcu (deep - 1)
  rw [cI, if_neg (by omega), Jb, Jy, cI, if_pos (by omega), hr, Jb, Xb (by rw [List.length_singleton]; omega), Jb]
  congr 1
  rw [decide_eq_decide]
  exact ⟨fun e => .inr ⟨by omega, e⟩, fun e => by rcases e with ⟨e, _⟩ | ⟨_, e⟩; exact absurd e hd1; exact e⟩
theorem Jky {K : List Ta → TxR} {deep : Nat} (hK : Ctx K (deep - 1)) (h1 : 1 ≤ deep) (hd : deep ≤ 600000) (l : List Ta) {s : List UInt8} (hs : ¬ endL deep s) : Zd (K l) s = Ja8 (K l) s := by
 have ho := hK.op l
 unfold Zd
 rw [ho]
 have e1 : (decide (s = [100, 105, 114]) && decide (((deep - 1 : Nat) : Int) = 0)) = false := by
  rw [← Bool.not_eq_true, Bool.and_eq_true, decide_eq_true_iff, decide_eq_true_iff]
  rintro ⟨a, b⟩
  exact hs (.inl ⟨by omega, a⟩)
 rw [e1, Jy]
 unfold Jew
 rw [cI, ho]
 by_cases h0 : 0 < ((deep - 1 : Nat) : Int)
 ·have hl := Jcu (deep - 1)
  rw [if_pos h0, Jd6 (by omega), Jb, Xb (by rw [List.length_singleton]; omega), Jb, Jb]
  rw [decide_eq_false (fun e => hs (.inr ⟨by omega, e⟩)), Jy]
 ·rw [if_neg h0, Jb, Jy]
def ocN (lines : List (List UInt8)) (j : Nat) : Nat := (unl (lines.take j)).length
theorem Jkq {lines : List (List UInt8)} {j : Nat} (h : j < lines.length) : ocN lines (j + 1) = ocN lines j + lines[j].length + 1 := by
 unfold ocN
 rw [List.take_add_one, List.getElem?_eq_getElem h, Jcw, List.length_append]
 show _ + (unl [lines[j]]).length = _
 rw [Zb, Jd8]; simp; omega
theorem Jgo {lines : List (List UInt8)} {i j : Nat} (h : i ≤ j) : ocN lines i ≤ ocN lines j := by
 unfold ocN
 rw [show lines.take j = lines.take i ++ (lines.take j).drop i from by
  conv => lhs; rw [← List.take_append_drop i (lines.take j), List.take_take, Nat.min_eq_left h], Jcw, List.length_append]
 omega
theorem szD_app1 (d : Nat) (l : List Ta) (e : Ta) : szD (d + 1) (l ++ [e]) = szD (d + 1) l + szE d e := by
 induction l with
 | nil => rw [List.nil_append, Jdk, szD_nil]; omega
 | cons x l ih => rw [List.cons_append, Jdk, ih, Jdk]; omega
theorem szD_emp (d : Nat) : szD d [] = 0 := by cases d <;> rfl
def PostE (lines : List (List UInt8)) (deep a : Nat) (l : List Ta) (y : RtA) : Prop :=
 ∃ a' : Nat, y.2.2 = (a' : Int) ∧ a ≤ a' ∧ a' ≤ lines.length ∧
  (∀ K, Ctx K (deep - 1) → (y.2.1 = 0 → Wo (K l) a (lines.drop a) = Wo (K y.1) a' (lines.drop a')) ∧ (y.2.1 ≠ 0 → Wo (K l) a (lines.drop a) = some (noF, (a' : Int) + 1, y.2.1))) ∧
  (y.2.1 = 0 → (∀ h : a' < lines.length, endL deep lines[a']) ∧ y.1.length ≤ l.length + (a' - a) ∧ ∀ d, szD d y.1 + ocN lines a ≤ szD d l + ocN lines a')
theorem Jiq {lines : List (List UInt8)} {deep a : Nat} {l : List Ta} (ha : a ≤ lines.length) (he : ∀ h : a < lines.length, endL deep lines[a]) : PostE lines deep a l (l, 0, (a : Int)) :=
 ⟨a, rfl, Nat.le_refl _, ha, fun K hK => ⟨fun _ => rfl, fun h => absurd rfl h⟩, fun _ => ⟨he, by simp, fun d => Nat.le_refl _⟩⟩
theorem Jh7 {lines : List (List UInt8)} {deep a a' : Nat} {l : List Ta} {e : Int} (h1 : a ≤ a') (h2 : a' ≤ lines.length) (h0 : e ≠ 0) (h : ∀ K, Ctx K (deep - 1) → Wo (K l) a (lines.drop a) = some (noF, (a' : Int) + 1, e)) : PostE lines deep a l ([], e, (a' : Int)) :=
 ⟨a', rfl, h1, h2, fun K hK => ⟨fun hh => absurd hh h0, fun _ => h K hK⟩, fun hh => absurd hh h0⟩
theorem Jc8 {r : TxR} {lines : List (List UInt8)} {a : Nat} (h : a < lines.length) : Wo r a (lines.drop a) = Js (Zd r lines[a]) fun q => J2 (decide (q.1 ≠ 0)) (some (noF, (a : Int) + 1, q.1)) (Wo q.2 (a + 1) (lines.drop (a + 1))) := by
 rw [List.drop_eq_getElem_cons h]; rfl
theorem ent_sim (lines : List (List UInt8)) (hL : ∀ s ∈ lines, s.length ≤ 1000001) (hN : lines.length ≤ 1000002) : ∀ (m deep a : Nat) (l : List Ta), lines.length - a ≤ m → a ≤ lines.length → 1 ≤ deep → deep ≤ 600000 → l.length ≤ a →
  ∃ y : RtA, (∀ k, m ≤ k → Yz (Jad lines (deep : Int) (sp2 deep) (it (Y4 lines) k)) ((a : Int), l) = some y) ∧ PostE lines deep a l y := by
 intro m
 induction m with
 | zero =>
  intro deep a l hm ha h1 hd hla
  refine ⟨(l, 0, (a : Int)), fun k _ => Ql fun next => ?_, Jiq ha (fun h => by omega)⟩
  unfold Jad
  show J2 (decide ((a : Int) < (lines.length : Int))) _ (some (l, 0, (a : Int))) = _
  rw [cI, if_neg (by omega)]
 | succ m ih =>
  intro deep a l hm ha h1 hd hla
  by_cases hnl : ¬ a < lines.length
  ·have hlt := hnl
   refine ⟨(l, 0, (a : Int)), fun k _ => Ql fun next => ?_, Jiq ha (fun h => absurd h hlt)⟩
   unfold Jad
   show J2 (decide ((a : Int) < (lines.length : Int))) _ (some (l, 0, (a : Int))) = _
   rw [cI, if_neg (by omega)]
  have hlt := Classical.not_not.1 hnl
  have hs := hL _ (List.getElem_mem hlt)
  have hat : Yv lines (a : Int) = some lines[a] := Qs hlt
  have hsp := Jcu deep
  have hoc := Jkq hlt
  obtain ⟨q, q1, q2, q3⟩ := Jhn (a := lines[a]) (p := sp2 deep) (by omega)
  have hql : q.1.length ≤ 1000001 := by
   cases hq : q.2 with
   | true => have := congrArg List.length (q2 hq); rw [List.length_append] at this; omega
   | false => rw [q3 hq]; omega
  have head : ∀ k next, Jad lines (deep : Int) (sp2 deep) (it (Y4 lines) k) next ((a : Int), l) = (J2 (decide (endL deep lines[a])) (some (l, 0, (a : Int))) (J2 (!q.2 || (!(Qk 32 q.1).2.2 || !(whT false (Qk 32 q.1).1).2)) (some ([], 8, (a : Int))) (J2 (decide ((Qk 32 q.1).2.1 = [123])) (Jgs lines (deep : Int) (whT false (Qk 32 q.1).1).1 (it (Y4 lines) k) next (a : Int) l) (Jfe (whT false (Qk 32 q.1).1).1 next (a : Int) l (Qk 32 q.1).2.1)))) := fun k next => by
   unfold Jad
   show J2 (decide ((a : Int) < (lines.length : Int))) (Js (Yv lines (a : Int)) fun s => _) _ = _
   rw [cI, if_pos (by omega), hat, Jb, q1, Jb, here_eq hat h1 hd, Jb, Jfr (by omega), Jb, (Jbp false _).2.1, Jb]
  by_cases hend : endL deep lines[a]
  ·refine ⟨(l, 0, (a : Int)), fun k _ => Ql fun next => ?_, Jiq ha (fun _ => hend)⟩
   rw [head, decide_eq_true hend, Qh]
  have prog : ∀ K, Ctx K (deep - 1) → Zd (K l) lines[a] = J2 (!q.2 || (!(Qk 32 q.1).2.2 || !(whT false (Qk 32 q.1).1).2)) (some (8, K l)) (J2 (decide ((Qk 32 q.1).2.1 = [123])) (Js (Wz 104 (K l).op [⟨(pnT false (Qk 32 q.1).1).1, ⟨13, [], [], [], []⟩⟩]) fun op => some (0, ⟨(K l).big, (K l).dirs, op⟩)) (Jfd (K l) (pnT false (Qk 32 q.1).1).1 (Qk 32 q.1).2.1)) := fun K hK => by
   have ho := hK.op l
   rw [Jky hK h1 hd l hend]
   unfold Ja8
   rw [ho, J7 (by omega), Jb, show (((deep - 1 : Nat) : Int) + 1) = (deep : Int) from by omega, Jd6 (by omega), Jb, q1, Jb, Jfr (by omega), Jb, (Jbp false _).1, Jb]
   have hdl : decide (((K l).dirs.length : Int) = 0) = false := decide_eq_false (by have := List.length_pos_iff.2 (hK.dirs l); omega)
   rw [hdl, Bool.or_false, (Jbp false (Qk 32 q.1).1).2.2.1]
  by_cases hbad : (!q.2 || (!(Qk 32 q.1).2.2 || !(whT false (Qk 32 q.1).1).2)) = true
  ·refine ⟨([], 8, (a : Int)), fun k _ => Ql fun next => ?_, Jh7 (Nat.le_refl _) ha (by decide) fun K hK => ?_⟩
   ·rw [head, decide_eq_false hend, Jy, hbad, Qh]
   ·rw [Jc8 hlt, prog K hK, hbad, Qh, Jb]; rfl
  have hbf : (!q.2 || (!(Qk 32 q.1).2.2 || !(whT false (Qk 32 q.1).1).2)) = false := by simpa using hbad
  have hq : q.2 = true := by cases h : q.2 with | true => rfl | false => rw [h] at hbf; cases hbf
  have hc : (Qk 32 q.1).2.2 = true := by cases h : (Qk 32 q.1).2.2 with | true => rfl | false => rw [hq, h] at hbf; cases hbf
  have hw : (whT false (Qk 32 q.1).1).2 = true := by cases h : (whT false (Qk 32 q.1).1).2 with | true => rfl | false => rw [hq, hc, h] at hbf; cases hbf
  have hpn : (pnT false (Qk 32 q.1).1).1 = (whT false (Qk 32 q.1).1).1 := (Jbp false _).2.2.2 (by rw [(Jbp false _).2.2.1]; exact hw)
  have elen : lines[a].length = 2 * deep + ((Qk 32 q.1).1.length + 1 + (Qk 32 q.1).2.1.length) := by
   have e1 := congrArg List.length (q2 hq)
   have e2 := congrArg List.length (Ua hc)
   rw [List.length_append] at e1
   rw [List.length_append, List.length_cons] at e2
   omega
  generalize hb : (Qk 32 q.1).2.1 = b at *
  generalize htg : (whT false (Qk 32 q.1).1).1 = tag at *
  rw [hpn] at prog
  by_cases hbr : b = [123]
  ·-- a directory
   obtain ⟨y', y1, ⟨a', y2, y3, y4, y5, y6⟩⟩ := ih (deep + 1) (a + 1) [] (by omega) (by omega) (by omega) (by omega) (by simp)
   have self : ∀ k, m + 1 ≤ k → it (Y4 lines) k ((a : Int) + 1, (deep : Int) + 1) = some y' := fun k hk => by
    obtain ⟨k, rfl⟩ : ∃ k', k = k' + 1 := ⟨k - 1, by omega⟩
    show Y4 lines (it (Y4 lines) k) ((a : Int) + 1, (deep : Int) + 1) = _
    unfold Y4
    show Js (gRep [32, 32] ((deep : Int) + 1)) _ = _
    rw [show ((deep : Int) + 1) = ((deep + 1 : Nat) : Int) from by omega, Jd6 (by omega), Jb]
    exact y1 k (by omega)
   have step : ∀ k next, m + 1 ≤ k → Jad lines (deep : Int) (sp2 deep) (it (Y4 lines) k) next ((a : Int), l) = J2 (decide (y'.2.1 ≠ 0)) (some ([], y'.2.1, y'.2.2)) (J2 (decide (y'.2.2 = (lines.length : Int))) (some ([], 8, y'.2.2)) (Js (Wz 104 l [⟨tag, ⟨13, [], [], [], y'.1⟩⟩]) fun l' => Js (gI (y'.2.2 + 1)) fun a2 => next (a2, l'))) := fun k next hk => by
    rw [head, decide_eq_false hend, Jy, hbf, Jy, cI, if_pos hbr]
    unfold Jgs
    rw [J7 (by omega), Jb, J7 (by omega), Jb, self k hk, Jb]
   have popen : ∀ K, Ctx K (deep - 1) → Wo (K l) a (lines.drop a) = Wo ⟨(K l).big, (K l).dirs, (K l).op ++ [W6 ⟨tag, ⟨13, [], [], [], []⟩⟩ []]⟩ (a + 1) (lines.drop (a + 1)) := fun K hK => by
    have ho := hK.op l
    rw [Jc8 hlt, prog K hK, hbf, Jy, cI, if_pos hbr, Yk (by rw [List.length_singleton]; omega), Jb, Jb]
    rfl
   have cin : ∀ K, Ctx K (deep - 1) → Ctx (fun ys => (⟨(K l).big, (K l).dirs, (K l).op ++ [W6 ⟨tag, ⟨13, [], [], [], []⟩⟩ ys]⟩ : TxR)) (deep + 1 - 1) := fun K hK => by
    have := ctx_in hK (by omega) l ⟨tag, ⟨13, [], [], [], []⟩⟩
    rwa [show deep - 1 + 1 = deep + 1 - 1 from by omega] at this
   by_cases he : y'.2.1 ≠ 0
   ·refine ⟨([], y'.2.1, y'.2.2), fun k hk => Ql fun next => ?_, ?_⟩
    ·rw [step k next hk, cI, if_pos he]
    ·rw [y2]
     exact Jh7 (by omega) y4 he fun K hK => (popen K hK).trans ((y5 _ (cin K hK)).2 he)
   have he0 : y'.2.1 = 0 := Classical.not_not.1 he
   obtain ⟨z1, z2, z3⟩ := y6 he0
   by_cases hfin : a' = lines.length
   ·refine ⟨([], 8, y'.2.2), fun k hk => Ql fun next => ?_, ?_⟩
    ·rw [step k next hk, cI, if_neg he, cI, if_pos (by rw [y2, hfin])]
    ·rw [y2]
     refine Jh7 (by omega) y4 (by decide) fun K hK => ?_
     have ho := hK.op l
     rw [popen K hK, (y5 _ (cin K hK)).1 he0, hfin, List.drop_length]
     show endR _ _ = _
     unfold endR
     rw [cI, if_pos (by simp), J7 (by omega), Jb]
   have hlt' : a' < lines.length := by omega
   have hshut : lines[a'] = sp2 deep ++ [125] := by
    rcases z1 hlt' with ⟨e, _⟩ | ⟨_, e⟩
    ·omega
    ·exact e
   have hoc' := Jkq hlt'
   have hmo := Jgo (lines := lines) y3
   rw [List.length_nil] at z2
   obtain ⟨y, w1, ⟨a2, w2, w3, w4, w5, w6⟩⟩ := ih deep (a' + 1) (l ++ [⟨tag, ⟨13, [], [], [], y'.1⟩⟩]) (by omega) (by omega) h1 hd (by rw [List.length_append, List.length_singleton]; omega)
   have pshut : ∀ K, Ctx K (deep - 1) → Wo (K l) a (lines.drop a) = Wo (K (l ++ [⟨tag, ⟨13, [], [], [], y'.1⟩⟩])) (a' + 1) (lines.drop (a' + 1)) := fun K hK => by
    rw [popen K hK, (y5 _ (cin K hK)).1 he0, Jc8 hlt', hshut]
    have := line_shut hK (by omega) l (by omega) ⟨tag, ⟨13, [], [], [], []⟩⟩ y'.1
    rw [show deep - 1 + 1 = deep from by omega] at this
    rw [this, Jb]
    rfl
   refine ⟨y, fun k hk => ?_, a2, w2, by omega, w4, fun K hK => ⟨fun h => (pshut K hK).trans ((w5 K hK).1 h), fun h => (pshut K hK).trans ((w5 K hK).2 h)⟩, fun h => ?_⟩
   ·rw [← w1 k (by omega)]
    refine X2 _ fun next => ?_
    rw [step k next hk, cI, if_neg he, cI, if_neg (by rw [y2]; omega), Yk (by rw [List.length_singleton]; omega), Jb, y2, J7 (by omega), Jb]
    rfl
   ·obtain ⟨v1, v2, v3⟩ := w6 h
    rw [List.length_append, List.length_singleton] at v2
    refine ⟨v1, by omega, fun d => ?_⟩
    have hm2 := Jgo (lines := lines) w3
    cases d with
    | zero => show 0 + _ ≤ 0 + _; omega
    | succ d =>
     have e1 := v3 (d + 1)
     have e2 := z3 d
     rw [szD_app1] at e1
     rw [szD_emp] at e2
     unfold szE at e1
     simp only [List.length_nil] at e1
     omega
  ·-- a value
   obtain ⟨v, r1, r2, r3, r4, _⟩ := Jga b (by omega)
   have pval : ∀ K, Ctx K (deep - 1) → Zd (K l) lines[a] = J2 (decide (v.2 = 0)) (some (v.2, K (l ++ [⟨tag, v.1⟩]))) (some (v.2, K l)) := fun K hK => by
    rw [prog K hK, hbf, Jy, cI, if_neg hbr]
    unfold Jfd
    rw [r1, Jb, hK.put l _ (by omega), Jb]
   have step : ∀ k next, Jad lines (deep : Int) (sp2 deep) (it (Y4 lines) k) next ((a : Int), l) = J2 (decide (v.2 ≠ 0)) (some ([], v.2, (a : Int))) (Js (Wz 104 l [⟨tag, v.1⟩]) fun l' => Js (gI ((a : Int) + 1)) fun a2 => next (a2, l')) := fun k next => by
    rw [head, decide_eq_false hend, Jy, hbf, Jy, cI, if_neg hbr]
    unfold Jfe
    rw [r2, Jb, show v.1.kab.isEmpty = true from by rw [r3]; rfl, Qh]
   by_cases he : v.2 ≠ 0
   ·refine ⟨([], v.2, (a : Int)), fun k _ => Ql fun next => ?_, Jh7 (Nat.le_refl _) ha he fun K hK => ?_⟩
    ·rw [step, cI, if_pos he]
    ·rw [Jc8 hlt, pval K hK, cI, if_neg he, Jb, cI, if_pos he]
   have he0 : v.2 = 0 := Classical.not_not.1 he
   obtain ⟨y, w1, ⟨a2, w2, w3, w4, w5, w6⟩⟩ := ih deep (a + 1) (l ++ [⟨tag, v.1⟩]) (by omega) (by omega) h1 hd (by rw [List.length_append, List.length_singleton]; omega)
   have pput : ∀ K, Ctx K (deep - 1) → Wo (K l) a (lines.drop a) = Wo (K (l ++ [⟨tag, v.1⟩])) (a + 1) (lines.drop (a + 1)) := fun K hK => by
    rw [Jc8 hlt, pval K hK, cI, if_pos he0, Jb, cI, if_neg he]
   refine ⟨y, fun k hk => ?_, a2, w2, by omega, w4, fun K hK => ⟨fun h => (pput K hK).trans ((w5 K hK).1 h), fun h => (pput K hK).trans ((w5 K hK).2 h)⟩, fun h => ?_⟩
   ·rw [← w1 k (by omega)]
    refine X2 _ fun next => ?_
    rw [step k next, cI, if_neg he, Yk (by rw [List.length_singleton]; omega), Jb, J7 (by omega), Jb]
    rfl
   ·obtain ⟨v1, v2, v3⟩ := w6 h
    rw [List.length_append, List.length_singleton] at v2
    refine ⟨v1, by omega, fun d => ?_⟩
    have hm2 := Jgo (lines := lines) w3
    cases d with
    | zero => show 0 + _ ≤ 0 + _; omega
    | succ d =>
     have e1 := v3 (d + 1)
     rw [szD_app1] at e1
     unfold szE at e1
     have e2 : szD d v.1.kab = 0 := by rw [r3]; exact szD_emp d
     simp only at e1
     omega
theorem entries_sim (lines : List (List UInt8)) (hL : ∀ s ∈ lines, s.length ≤ 1000001) (hN : lines.length ≤ 1000002) (a : Nat) (ha : a ≤ lines.length) : ∃ y : RtA, Jen lines ((a : Int), 1) = some y ∧ PostE lines 1 a [] y := by
 obtain ⟨y, h1, h2⟩ := ent_sim lines hL hN (lines.length - a) 1 a [] (Nat.le_refl _) ha (by omega) (by omega) (by simp)
 refine ⟨y, ?_, h2⟩
 unfold Jen
 refine Jfp (k := lines.length - a + 1) fun n hn => ?_
 obtain ⟨n, rfl⟩ : ∃ k, n = k + 1 := ⟨n - 1, by omega⟩
 show Y4 lines (it (Y4 lines) n) ((a : Int), 1) = _
 unfold Y4
 show Js (gRep [32, 32] ((1 : Nat) : Int)) _ = _
 rw [Jd6 (by omega), Jb]
 exact h1 n (by omega)
end Go.M

namespace Go.M
open Go.Md Go.Pl
def ResT (o : Option (Td × Int × Int)) : Prop := ∃ g n e, o = some (g, n, e) ∧ (e ≠ 0 → g = noF) ∧ (e = 0 → Je1 g ∧ Jcd g = 0)
theorem Jij {n e : Int} (h : e ≠ 0) : ResT (some (noF, n, e)) := ⟨_, _, _, rfl, fun _ => rfl, fun h' => absurd h' h⟩
theorem no_dirs {r : TxR} {s : List UInt8} (hs : s.length ≤ 1000001) (h1 : s ≠ [100, 105, 114]) (hd : r.dirs = []) (ho : r.op = []) : Zd r s = some (8, r) := by
 unfold Zd
 rw [decide_eq_false h1, Bool.false_and, Jy]
 unfold Jew
 rw [ho, cI, if_neg (by simp), Jb, Jy]
 unfold Ja8
 rw [ho, hd]
 show Js (gI ((0 : Int) + 1)) _ = _
 rw [J7 (by omega), Jb, show ((0 : Int) + 1) = ((1 : Nat) : Int) from rfl, Jd6 (by omega), Jb]
 obtain ⟨q, q1, q2, q3⟩ := Jhn (a := s) (p := sp2 1) (by rw [Jcu]; omega)
 have hql : q.1.length ≤ 1000001 := by
  cases hq : q.2 with
  | true => have := congrArg List.length (q2 hq); rw [List.length_append] at this; omega
  | false => rw [q3 hq]; omega
 rw [q1, Jb, Jfr (by omega), Jb, (Jbp false _).1, Jb]
 show J2 (!q.2 || (!(Qk 32 q.1).2.2 || (!(pnT false (Qk 32 q.1).1).2 || true))) _ _ = _
 rw [Bool.or_true, Bool.or_true, Bool.or_true, Qh]
theorem file_end {big : Bool} {ds : List (List Ta)} (n : Nat) (h1 : ds.length ≤ 1048576) (h2 : (ds.map (szD 5)).sum ≤ 1048576) :
  (Js (Uy ⟨big, ds⟩) fun e => J2 (decide (e ≠ 0)) (some (noF, 0, e)) (some ((⟨big, ds⟩ : Td), (0 : Int), (0 : Int)))) = endR ⟨big, ds, []⟩ n ∧ ResT (endR ⟨big, ds, []⟩ n) := by
 have hB : Je1 (⟨big, ds⟩ : Td) := fileB_of (by show ds.length ≤ _; omega) (by show (ds.map (szD 5)).sum ≤ _; omega)
 have he : endR ⟨big, ds, []⟩ n = if Jcd (⟨big, ds⟩ : Td) ≠ 0 then some (noF, 0, Jcd (⟨big, ds⟩ : Td)) else some ((⟨big, ds⟩ : Td), 0, 0) := by
  unfold endR
  show J2 (decide (0 < (([] : List Ta).length : Int))) _ (Js (Jc1 ⟨big, ds⟩) _) = _
  rw [cI, if_neg (by simp), Jjv hB, Jb, cI]
  by_cases h : Jcd (⟨big, ds⟩ : Td) ≠ 0
  ·rw [if_pos h, if_pos h]
  ·rw [if_neg h, if_neg h]
   obtain ⟨h20, hdirs, _⟩ := Jhg (Classical.not_not.1 h)
   exact if_pos ⟨by have h20' : ds.length ≤ 20 := h20; show ds.length ≤ _; omega, fun l hm => fits_okQ 5 l (dE_okQ (hdirs l hm)) (hB.1 l hm) 8 (by omega)⟩
 rw [he, Jic hB, Jb, cI]
 refine ⟨rfl, ?_⟩
 by_cases h : Jcd (⟨big, ds⟩ : Td) ≠ 0
 ·rw [if_pos h]; exact Jij h
 ·rw [if_neg h]; exact ⟨_, _, _, rfl, fun h' => absurd rfl h', fun _ => ⟨hB, Classical.not_not.1 h⟩⟩
theorem dirs_sim (lines : List (List UInt8)) (hL : ∀ s ∈ lines, s.length ≤ 1000001) (hN : lines.length ≤ 1000002) (hO : ocN lines lines.length ≤ 1048576) (big : Bool) : ∀ (m a : Nat) (ds : List (List Ta)), lines.length - a ≤ m → a ≤ lines.length → (ds = [] ∨ ∀ h : a < lines.length, lines[a] = [100, 105, 114]) → ds.length ≤ a → (ds.map (szD 5)).sum ≤ ocN lines a →
  Yz (Jd5 lines big) ((a : Int), ds) = Wo ⟨big, ds, []⟩ a (lines.drop a) ∧ ResT (Wo ⟨big, ds, []⟩ a (lines.drop a)) := by
 intro m
 induction m with
 | zero =>
  intro a ds hm ha hd hl hz
  have hma := Jgo (lines := lines) ha
  obtain ⟨e1, e2⟩ := file_end (big := big) (ds := ds) a (by omega) (by omega)
  rw [show lines.drop a = [] from List.drop_of_length_le (by omega)]
  refine ⟨Ql fun next => ?_, e2⟩
  unfold Jd5
  show J2 (decide ((a : Int) < (lines.length : Int))) _ (Js (Uy ⟨big, ds⟩) _) = _
  rw [cI, if_neg (by omega)]
  exact e1
 | succ m ih =>
  intro a ds hm ha hd hl hz
  have hma := Jgo (lines := lines) ha
  by_cases hlt : a < lines.length
  ·have hat : Yv lines (a : Int) = some lines[a] := Qs hlt
   have hs := hL _ (List.getElem_mem hlt)
   have hoc := Jkq hlt
   have head : ∀ next, Jd5 lines big next ((a : Int), ds) = J2 (decide (lines[a] ≠ [100, 105, 114])) (some (noF, (a : Int) + 1, 8)) (Js (Jen lines ((a : Int) + 1, 1)) fun r => J2 (decide (r.2.1 ≠ 0)) (Js (gI (r.2.2 + 1)) fun n => some (noF, n, r.2.1)) (Js (Wz 24 ds [r.1]) fun ds => next (r.2.2, ds))) := fun next => by
    unfold Jd5
    show J2 (decide ((a : Int) < (lines.length : Int))) (Js (Yv lines (a : Int)) _) _ = _
    rw [cI, if_pos (by omega), hat, Jb, J7 (by omega), Jb, Jb]
   by_cases hdir : lines[a] = [100, 105, 114]
   ·obtain ⟨y, y1, ⟨a', y2, y3, y4, y5, y6⟩⟩ := entries_sim lines hL hN (a + 1) (by omega)
    have y1' : Jen lines ((a : Int) + 1, 1) = some y := y1
    have prog : Wo ⟨big, ds, []⟩ a (lines.drop a) = Wo ⟨big, ds ++ [[]], []⟩ (a + 1) (lines.drop (a + 1)) := by
     rw [Jc8 hlt, hdir, line_dir big ds (by omega), Jb]; rfl
    have hK := ctx0 big ds (by omega)
    have p5 := y5 _ hK
    rw [prog]
    by_cases he : y.2.1 ≠ 0
    ·have e1 := p5.2 he
     replace e1 : Wo ⟨big, ds ++ [[]], []⟩ (a + 1) (lines.drop (a + 1)) = some (noF, (a' : Int) + 1, y.2.1) := e1
     rw [e1]
     refine ⟨Ql fun next => ?_, Jij he⟩
     rw [head, cI, if_neg (fun h => h hdir), y1', Jb, cI, if_pos he, y2, J7 (by omega), Jb]
    ·have he0 := Classical.not_not.1 he
     have e1 := p5.1 he0
     replace e1 : Wo ⟨big, ds ++ [[]], []⟩ (a + 1) (lines.drop (a + 1)) = Wo ⟨big, ds ++ [y.1], []⟩ a' (lines.drop a') := e1
     obtain ⟨z1, z2, z3⟩ := y6 he0
     have z5 := z3 5
     rw [szD_emp] at z5
     rw [e1]
     obtain ⟨i1, i2⟩ := ih a' (ds ++ [y.1]) (by omega) y4 (.inr fun h => by
      rcases z1 h with ⟨_, e⟩ | ⟨e, _⟩
      ·exact e
      ·omega) (by rw [List.length_append, List.length_singleton]; omega) (by
      rw [List.map_append, List.sum_append]
      simp only [List.map_cons, List.map_nil, List.sum_cons, List.sum_nil]
      omega)
     refine ⟨?_, i2⟩
     rw [← i1]
     refine X2 _ fun next => ?_
     rw [head, cI, if_neg (fun h => h hdir), y1', Jb, cI, if_neg he, Yk (by rw [List.length_singleton]; omega), Jb, y2]
   ·have hds : ds = [] := hd.resolve_right fun h => hdir (h hlt)
    subst hds
    have e1 : Wo ⟨big, [], []⟩ a (lines.drop a) = some (noF, (a : Int) + 1, 8) := by
     rw [Jc8 hlt, no_dirs hs hdir rfl rfl, Jb]; rfl
    rw [e1]
    refine ⟨Ql fun next => ?_, Jij (by decide)⟩
    rw [head, cI, if_pos hdir]
  ·obtain ⟨e1, e2⟩ := file_end (big := big) (ds := ds) a (by omega) (by omega)
   rw [show lines.drop a = [] from List.drop_of_length_le (by omega)]
   refine ⟨Ql fun next => ?_, e2⟩
   unfold Jd5
   show J2 (decide ((a : Int) < (lines.length : Int))) _ (Js (Uy ⟨big, ds⟩) _) = _
   rw [cI, if_neg (by omega)]
   exact e1
theorem lines_sim (lines : List (List UInt8)) (hL : ∀ s ∈ lines, s.length ≤ 1000001) (hN : lines.length ≤ 1000002) (hO : ocN lines lines.length ≤ 1048576) : Jdh lines = specT lines ∧ ResT (specT lines) := by
 cases lines with
 | nil => exact ⟨rfl, Jij (by decide)⟩
 | cons h T =>
  unfold Jdh
  show J2 (decide ((((h :: T).length : Nat) : Int) = 0)) _ (Js (Yv (h :: T) 0) _) = (if h ≠ [98, 105, 103] ∧ h ≠ [108, 105, 116, 116, 108, 101] then some (noF, 1, 8) else Wo ⟨decide (h = [98, 105, 103]), [], []⟩ 1 T) ∧ ResT (if h ≠ [98, 105, 103] ∧ h ≠ [108, 105, 116, 116, 108, 101] then some (noF, 1, 8) else Wo ⟨decide (h = [98, 105, 103]), [], []⟩ 1 T)
  rw [cI, if_neg (by rw [List.length_cons]; omega), show Yv (h :: T) 0 = some h from rfl, Jb]
  by_cases hh : h ≠ [98, 105, 103] ∧ h ≠ [108, 105, 116, 116, 108, 101]
  ·rw [if_pos hh, decide_eq_true hh.1, decide_eq_true hh.2, Bool.true_and, Qh]
   exact ⟨rfl, Jij (by decide)⟩
  ·rw [if_neg hh, show (decide (h ≠ [108, 105, 116, 116, 108, 101]) && decide (h ≠ [98, 105, 103])) = false from by
    rw [← Bool.not_eq_true, Bool.and_eq_true, decide_eq_true_iff, decide_eq_true_iff]; exact fun e => hh ⟨e.2, e.1⟩, Jy]
   exact dirs_sim (h :: T) hL hN hO (decide (h = [98, 105, 103])) T.length 1 [] (by simp) (by simp) (.inl rfl) (by simp) (by simp)
theorem texts_sim (x : List UInt8) : ∃ g n e, U6 x = some (g, n, e) ∧ V8 x = some (g, n, e) ∧ (e ≠ 0 → g = noF) ∧ (e = 0 → Je1 g ∧ Jcd g = 0) := by
 by_cases hx : 1000000 < (x.length : Int)
 ·refine ⟨noF, 0, 4, ?_, ?_, fun _ => rfl, fun h => by cases h⟩
  ·unfold U6; rw [cI, if_pos hx]
  ·unfold V8; rw [cI, if_pos hx]
 ·obtain ⟨ls, last, h1, h2, h3, h4⟩ := Ji7 x
  have hlen := congrArg List.length h2
  rw [List.length_append] at hlen
  have hll := lines_le ls
  have hp := Jk1 h3 h4 (by rw [← h2]; omega)
  rw [← h2] at hp
  have hmem := split_mem 10 x
  have hlines : (Js (J2 (decide (last ≠ [])) (Js (Xh last [0]) fun u => Wz 16 ls [u]) (some ls)) fun lines => Jdh lines) = Jdh (ls ++ Jdz last) := by
   unfold Jdz
   rw [cI]
   by_cases hz : last = []
   ·rw [if_neg (fun h => h hz), if_pos hz, Jb, List.append_nil]
   ·rw [if_pos hz, if_neg hz, Xb (by rw [List.length_singleton]; omega), Jb, Yk (by rw [List.length_singleton]; omega), Jb]
  have hTl : (Jdz last).length ≤ 1 := by unfold Jdz; split <;> simp
  obtain ⟨e1, e2⟩ := lines_sim (ls ++ Jdz last) (fun s hs => by
   rcases List.mem_append.1 hs with h | h
   ·have := hmem s (by rw [h1]; simp [h]); omega
   ·unfold Jdz at h
    split at h
    ·cases h
    ·rw [List.mem_singleton.1 h, List.length_append, List.length_singleton]; omega) (by rw [List.length_append]; omega) (by
   unfold ocN
   rw [List.take_length, Jcw, List.length_append]
   have : (unl (Jdz last)).length ≤ last.length + 2 := by unfold Jdz; split <;> simp [unl]
   omega)
  have hR : V8 x = specT (ls ++ Jdz last) := by
   unfold V8
   have hne : (ls ++ [last]).length = ls.length + 1 := by simp
   rw [cI, if_neg hx, Split_eq 10 x (by omega), Jb, h1, hne, J7 (by omega), Jb, show (((ls.length + 1 : Nat) : Int) - 1) = ((ls.length : Nat) : Int) from by omega, Qs (by omega), Jb, Jbm (by omega), Jb, Int.toNat_natCast, List.take_left' rfl, show (ls ++ [last])[ls.length]'(by omega) = last from by simp, hlines, e1]
  obtain ⟨g, n, e, r1, r2, r3⟩ := e2
  exact ⟨g, n, e, hp.trans r1, hR.trans r1, r2, r3⟩
end Go.M

namespace Go.M
open Go.Md Go.Pl
theorem sameInts {l : List Int} (hl : l.length ≤ 2000000) : Jbj l l = some true := by
 unfold Jbj
 rw [cI, if_neg (by simp)]
 refine Jhy 0 l.length (by omega) (fun next k _ hk => ?_) (fun next => ?_)
 ·show Y2 _ _ next (k : Int) = _
  unfold Y2
  rw [cI, if_pos (by omega), Qs hk, Jb, Jb, cI, if_neg (by simp), J7 (by omega), Jb]
 ·show Y2 _ _ next (l.length : Int) = _
  unfold Y2
  rw [cI, if_neg (by omega)]
theorem sameRats {l : List Tc} (hl : l.length ≤ 2000000) : Vs l l = some true := by
 unfold Vs
 rw [cI, if_neg (by simp)]
 refine Jhy 0 l.length (by omega) (fun next k _ hk => ?_) (fun next => ?_)
 ·show Xq _ _ next (k : Int) = _
  unfold Xq
  rw [cI, if_pos (by omega), Qs hk, Jb, Jb, show Jcj l[k] l[k] = true from by unfold Jcj; simp]
  show J2 false _ _ = _
  rw [Jy, J7 (by omega), Jb]
 ·show Xq _ _ next (l.length : Int) = _
  unfold Xq
  rw [cI, if_neg (by omega)]
theorem sameL {l : List Ta} {g : Ta → Ta → Option Bool} (hl : l.length ≤ 2000000) (h : ∀ e ∈ l, g e e = some true) : Q5 l l g = some true := by
 unfold Q5
 rw [cI, if_neg (by simp)]
 refine Jhy 0 l.length (by omega) (fun next k _ hk => ?_) (fun next => ?_)
 ·show J5 l l g next (k : Int) = _
  unfold J5
  rw [cI, if_pos (by omega), Qs hk, Jb, Jb, h _ (List.getElem_mem hk), Jb]
  show J2 false _ _ = _
  rw [Jy, J7 (by omega), Jb]
 ·show J5 l l g next (l.length : Int) = _
  unfold J5
  rw [cI, if_neg (by omega)]
abbrev SameS := (List Ta × List Ta) → Option Bool
theorem sameDir_it : ∀ (d n : Nat) (l : List Ta), d < n → okD d l ∨ l = [] → szD d l ≤ 2000000 → it (fun (self : SameS) (s : List Ta × List Ta) => Xz self s.1 s.2) n (l, l) = some true := by
 intro d
 induction d with
 | zero =>
  intro n l hn h hz
  obtain ⟨n, rfl⟩ : ∃ k, n = k + 1 := ⟨n - 1, by omega⟩
  rcases h with h | rfl
  ·exact h.elim
  ·show Xz _ [] [] = _
   unfold Xz
   rw [sameL (by simp) (fun e he => by simp at he), Jb]
 | succ d ih =>
  intro n l hn h hz
  obtain ⟨n, rfl⟩ : ∃ k, n = k + 1 := ⟨n - 1, by omega⟩
  show Xz (it _ n) l l = _
  have hall : ∀ e ∈ l, it (fun (self : SameS) (s : List Ta × List Ta) => Xz self s.1 s.2) n (e.Value.kab, e.Value.kab) = some true ∧ vB e.Value := by
   intro e he
   obtain ⟨hv, hz'⟩ := vB_of hz he
   rcases h with h | h
   ·obtain ⟨hok, h13⟩ := h.2 e he
    refine ⟨ih n e.Value.kab (by omega) ?_ hz', hv⟩
    by_cases hk : e.Value.kad = 13
    ·exact .inl (h13 hk)
    ·exact .inr (Classical.byContradiction fun hne => hok.2 (.inr (.inr (.inr ⟨hk, hne⟩))))
   ·rw [h] at he; simp at he
  generalize it (fun (self : SameS) (s : List Ta × List Ta) => Xz self s.1 s.2) n = self at hall ⊢
  unfold Xz
  rw [sameL (Nat.le_trans (szD_len l) hz) (fun e he => ?_), Jb]
  obtain ⟨hself, hv⟩ := hall e he
  unfold Jc4 Jc7
  rw [cI, if_pos rfl, cI, if_pos rfl, cI, if_pos rfl, sameInts hv.2.1, Jb, Qh, sameRats hv.2.2, Jb, Qh, hself, Jb, Jb]
theorem sameDir_self {l : List Ta} (h : okD 5 l) (hz : szD 5 l ≤ 2000000) : Jeb l l = some true := by
 unfold Jeb
 exact Jfp (k := 6) fun n hn => sameDir_it 5 n l (by omega) (.inl h) hz
theorem Jhb {f : Td} (h : ∀ l ∈ f.kag, Jeb l l = some true) (hl : f.kag.length ≤ 2000000) : Jbf f f = some true := by
 unfold Jbf Q6
 rw [cI, if_pos rfl, cI, if_neg (by simp)]
 have key : Yz (fun next1 s => Jt f.kag f.kag Jeb next1 s) 0 = some true := by
  refine Jhy 0 f.kag.length (by omega) (fun next k _ hk => ?_) (fun next => ?_)
  ·show Jt _ _ _ next (k : Int) = _
   unfold Jt
   rw [cI, if_pos (by omega), Qs hk, Jb, Jb, h _ (List.getElem_mem hk), Jb]
   show J2 false _ _ = _
   rw [Jy, J7 (by omega), Jb]
  ·show Jt _ _ _ next (f.kag.length : Int) = _
   unfold Jt
   rw [cI, if_neg (by omega)]
 rw [key, Jb]
theorem sameFile_ok {f : Td} (hb : Je1 f) (he : Jcd f = 0) : Jbf f f = some true := by
 obtain ⟨h1, h2⟩ := fileE_zero hb he
 exact Jhb (fun l hl => sameDir_self (h1 l hl).1 (h1 l hl).2) (by omega)
theorem Jg7 : Jbf ⟨false, []⟩ ⟨false, []⟩ = some true := Jhb (fun l hl => by simp at hl) (by simp)
theorem file_self {f : Td} {e : Int} (h : Jbf f f = some true) (h0 : e ≠ 0 → f = ⟨false, []⟩) : Jgc f e f e = some true := by
 unfold Jgc
 rw [cI]
 by_cases he : e = 0
 ·rw [if_neg (by simp [he])]
  unfold Jdr
  rw [h, Jb, Qh, decide_eq_true rfl]
 ·rw [if_pos he]
  unfold Jdr
  rw [h0 he, Jg7, Jb, Qh, decide_eq_true rfl]
end Go.M

namespace Go.M
open Go.Md Go.Pl
theorem rtext_eq {v : Tb} (hb : vB v) (hv : Jcp v = 0) (h13 : v.kad ≠ 13) : Jar v = some (vtS v) := by
 obtain ⟨s, h1, h2⟩ := text_sim hb hv h13
 rw [text_eq (okW_of hb hv h13)] at h1
 rw [h2, h1]
noncomputable abbrev dirRF : (List Ta × Int → Option (List UInt8)) → List Ta × Int → Option (List UInt8) := fun self s => Zv self s.1 s.2
theorem rdir_text : ∀ (d k : Nat), d < k → ∀ (n : Nat) (l : List Ta), n + d ≤ 10 → okQ d l → szD d l ≤ 2000000 → it dirRF k (l, (n : Int)) = some (unl (Y1 d n l)) := by
 intro d
 induction d with
 | zero => intro k _ n l _ h; exact h.elim
 | succ d ih =>
  intro k hk n l hn hq hz
  cases k with
  | zero => omega
  | succ k =>
  show Zv (it dirRF k) l (n : Int) = _
  have hsp := Jcu n
  have htot := Jcz (d + 1) n l hn hq hz
  obtain ⟨hl, hq⟩ := hq
  unfold Zv
  rw [Jd6 (by omega), Jb]
  have key := Jgt (F := fun next1 (s : List UInt8 × Int) => Wy l (n : Int) (it dirRF k) (sp2 n) next1 s.1 s.2) l (fun m e => m ++ unl (entG (Y1 d (n + 1)) n e)) (fun m => some m) (fun k s => s.length + 100 * szD (d + 1) (l.drop k) ≤ 100 * szD (d + 1) l) (fun next i s hi hI => ?_) (fun next s hI => ?_) [] (by simp)
  ·rw [key]
   have fold : ∀ (l : List Ta) (m : List UInt8), l.foldl (fun m e => m ++ unl (entG (Y1 d (n + 1)) n e)) m = m ++ unl (Y1 (d + 1) n l) := by
    intro l
    induction l with
    | nil => intro m; simp [Y1, unl]
    | cons e l ihl => intro m; rw [List.foldl_cons, ihl, Jge, Jcw, List.append_assoc]
   rw [fold, List.nil_append]
  ·obtain ⟨h1, h2, h3⟩ := hq _ (List.getElem_mem hi)
   obtain ⟨t1, t2⟩ := tag11 h1
   have hze := Jh3 (d := d) (List.getElem_mem hi)
   have hel := ent_len (f := Y1 d (n + 1)) (d := d) (n := n) (by omega) h1 h2 (by omega) fun h13 => Jcz d (n + 1) _ (by omega) (h3 h13).2 (by unfold szE at hze; omega)
   have hI0 := hI
   rw [szD_drop hi] at hI
   refine ⟨?_, by show (s ++ _).length + _ ≤ _; rw [List.length_append]; omega⟩
   show Wy l (n : Int) (it dirRF k) (sp2 n) next s (i : Int) = _
   unfold Wy
   rw [cI, if_pos (by omega), Qs hi, Jb, Jdg t1, Jb, Xb (by omega), Jb, Xb (by rw [List.length_append, List.length_singleton]; omega), Jb, Xb (by simp only [List.length_append, List.length_singleton]; omega), Jb, cI]
   by_cases h13 : l[i].Value.kad = 13
   ·have hzd : szD d l[i].Value.kab ≤ szE d l[i] := by unfold szE; omega
    have hin := Jcz d (n + 1) _ (by omega) (h3 h13).2 (by omega)
    rw [if_pos h13, J7 (by omega), Jb, show ((n : Int) + 1) = ((n + 1 : Nat) : Int) from by omega, ih k (by omega) (n + 1) _ (by omega) (h3 h13).2 (by omega), Jb, Xb (by simp only [List.length_cons, List.length_nil]; omega), Jb, Xb (by simp only [List.length_append, List.length_cons, List.length_nil]; omega), Jb, Xb (by simp only [List.length_append, List.length_cons, List.length_nil]; omega), Jb, Xb (by simp only [List.length_append, List.length_singleton, List.length_cons, List.length_nil]; omega), Jb]
    unfold Jcs
    rw [J7 (by omega), Jb]
    congr 2
    unfold entG
    rw [if_neg (fun h => h h13), Zb, Jcw, Zb, Jd8]
    simp
   ·have hv := okW_of (szE_vB (d := d) (by omega)) (h2 h13) h13
    have hvl := vt_len hv
    have hsz : 24 * (l[i].Value.kae.length + l[i].Value.kaf.length + l[i].Value.kac.length) ≤ 24 * 2000000 := by unfold szE at hze; omega
    rw [if_neg h13, rtext_eq (szE_vB (d := d) (by omega)) (h2 h13) h13, Jb, Xb (by rw [List.length_singleton]; omega), Jb, Xb (by
     simp only [List.length_append, List.length_singleton]; omega), Jb]
    unfold Jcs
    rw [J7 (by omega), Jb]
    congr 2
    unfold entG
    rw [if_pos h13, Zb, Jd8]
    simp
  ·show Wy l (n : Int) (it dirRF k) (sp2 n) next s (l.length : Int) = _
   unfold Wy
   rw [cI, if_neg (by omega)]
theorem FileText_eq {f : Td} (hb : Je1 f) (he : Jcd f = 0) : Jf0 f = some (Jgb f) := by
 obtain ⟨h20, hdirs, _⟩ := Jhg he
 have j1 : ∀ m : List UInt8, m.length ≤ 10 → Jby f m = some (m ++ unl (f.kag.flatMap fun l => [100, 105, 114] :: Y1 5 1 l)) := by
  intro m hm
  unfold Jby
  have key := Jgt (F := fun next2 (s : List UInt8 × Int) => Vy f next2 s.1 s.2) f.kag (fun m l => m ++ unl ([100, 105, 114] :: Y1 5 1 l)) (fun m => some m) (fun k s => s.length ≤ 10 + 300000000 * k) (fun next i s hi hI => ?_) (fun next s hI => ?_) m (by show m.length ≤ 10 + 300000000 * 0; omega)
  ·rw [key]
   have fold : ∀ (ls : List (List Ta)) (m : List UInt8), ls.foldl (fun m l => m ++ unl ([100, 105, 114] :: Y1 5 1 l)) m = m ++ unl (ls.flatMap fun l => [100, 105, 114] :: Y1 5 1 l) := by
    intro ls
    induction ls with
    | nil => intro m; simp [unl]
    | cons l ls ih => intro m; rw [List.foldl_cons, ih, List.flatMap_cons, Jcw, List.append_assoc]
   rw [fold]
  ·have hm2 := List.getElem_mem hi
   have hq := dE_okQ (hdirs _ hm2)
   have hz := hb.1 _ hm2
   have hlen := Jcz 5 1 _ (by omega) hq hz
   have hI' : s.length ≤ 10 + 300000000 * i := hI
   refine ⟨?_, by show (s ++ unl _).length ≤ _; rw [List.length_append, Zb, List.length_append, List.length_cons]; simp only [List.length_cons, List.length_nil]; omega⟩
   show Vy f next s (i : Int) = _
   unfold Vy
   have hd : Ji0 f.kag[i] 1 = some (unl (Y1 5 1 f.kag[i])) :=
    Jfp (k := 6) fun k hk => rdir_text 5 k (by omega) 1 _ (by omega) hq hz
   rw [cI, if_pos (by omega), Qs hi, Jb, hd, Jb, Xb (by simp only [List.length_cons, List.length_nil]; omega), Jb, Xb (by simp only [List.length_append, List.length_cons, List.length_nil]; omega), Jb, J7 (by omega), Jb]
   congr 2
  ·show Vy f next s (f.kag.length : Int) = _
   unfold Vy
   rw [cI, if_neg (by omega)]
 have fin : ∀ m : List UInt8, m = hdL f.Big ++ [10] → m ++ unl (f.kag.flatMap fun l => [100, 105, 114] :: Y1 5 1 l) = Jgb f := by
  intro m hm
  unfold Jgb linesF; rw [Zb, hm]; simp
 unfold Jf0
 cases hbig : f.Big with
 | true => rw [Qh, j1 _ (by simp), fin _ (by rw [hbig]; rfl)]
 | false => rw [Jy, j1 _ (by simp), fin _ (by rw [hbig]; rfl)]
theorem round_one {a1 x6 : List UInt8} (next : Int → Option Bool) {i : Nat} (hi : i < 2) : Xs a1 x6 next (i : Int) = next ((i : Int) + 1) := by
 unfold Xs
 obtain ⟨x, hx⟩ : ∃ x, Yv ([a1, x6] : List (List UInt8)) (i : Int) = some x := ⟨_, Qs (by simpa using hi)⟩
 obtain ⟨g, n, e, h1, h2, h3, h4⟩ := texts_sim x
 have hs : Jbf g g = some true := by
  by_cases he : e = 0
  ·exact sameFile_ok (h4 he).1 (h4 he).2
  ·rw [h3 he]; exact Jg7
 rw [cI, if_pos (by omega), hx, Jb, h1, Jb, h2, Jb]
 show J2 (decide (n ≠ n)) _ (Js (Jgc g e g e) _) = _
 rw [cI, if_neg (fun h => h rfl), file_self hs (fun he => h3 he), Jb]
 show J2 false _ _ = _
 rw [Jy, J7 (by omega), Jb]
theorem rounds (a1 x6 : List UInt8) : Yz (fun next2 s => Xs a1 x6 next2 s) 0 = some true := by
 have e1 : Yz (fun next2 s => Xs a1 x6 next2 s) ((0 : Nat) : Int) = Yz (fun next2 s => Xs a1 x6 next2 s) (((0 : Nat) : Int) + 1) := X2 _ fun next => round_one next (by omega)
 have e2 : Yz (fun next2 s => Xs a1 x6 next2 s) ((1 : Nat) : Int) = Yz (fun next2 s => Xs a1 x6 next2 s) (((1 : Nat) : Int) + 1) := X2 _ fun next => round_one next (by omega)
 have e3 : Yz (fun next2 s => Xs a1 x6 next2 s) 2 = some true := Ql fun next => by
  show Xs a1 x6 next 2 = _
  unfold Xs
  rw [cI, if_neg (by omega)]
 exact e1.trans (e2.trans e3)
theorem Jj4 {f : Td} {s x : List UInt8} {e : Int} {t : List UInt8 × Int} (ht : Jek f = some t) (h0 : e = 0 → t.1 = x) (h1 : e ≠ 0 → t.1 = []) (he : t.2 = e) : Wu f s e x = some true := by
 unfold Wu
 rw [ht, Jb, told_str h0 h1 he, Jb]
 show J2 false _ _ = _
 rw [Jy, rounds]
theorem Text_err {f : Td} (hb : Je1 f) (he : Jcd f ≠ 0) : Jek f = some ([], Jcd f) := by
 unfold Jek
 rw [Jjv hb, Jb, cI, if_pos he]
theorem tagTexts {f : Td} (hb : Je1 f) (s : List UInt8) : Jd2 f s = some true := by
 unfold Jd2
 rw [Jic hb, Jb, cI]
 by_cases he : Jcd f = 0
 ·have ht := Text_eq hb he
  rw [if_pos he, FileText_eq hb he, Jb, cI]
  by_cases hl : 1000000 < (Jgb f).length
  ·rw [if_pos hl] at ht
   rw [if_pos (by omega)]
   exact Jj4 ht (fun h => by cases h) (fun _ => rfl) rfl
  ·rw [if_neg hl] at ht
   rw [if_neg (by omega)]
   exact Jj4 ht (fun _ => rfl) (fun h => absurd he h) he.symm
 ·rw [if_neg he]
  exact Jj4 (Text_err hb he) (fun h => absurd h he) (fun _ => rfl) rfl
theorem tagTextsS (f : Td) (s : List UInt8) (hb : Je1 f) {P : Prop} (_ : P) : Jd2 f s = some true := tagTexts hb s
end Go.M

namespace Go.Lx
open Go Go.Vc Go.Md
theorem tab_vars {P : Program} {W : World} {name : String} {k : IntKind} {zs : List Int} {g : Nat} {t e : TypeId} {n : Nat}
  (hg : P.globalNamed name = some g) (hty : (P.globals[g]?).map (·.type) = some t) (ht : P.underlying t = some (.array n e)) (he : P.underlying e = some (.int k)) (hce : P.cellsOf e = 1) (hct : P.cellsOf t = n) :
  ∀ (l : List (String × DataW Unit)) (ps : List MemPlace) (i : Nat), DataW.LaidVars P W l ps → l[i]? = some (name, Lib.tabData k zs) → Lib.TabIs P W name k zs
 | [], _, i, _, h => by simp at h
 | (n', d) :: r, ps, 0, hv, h => by
  simp only [List.getElem?_cons_zero, Option.some.injEq, Prod.mk.injEq] at h
  obtain ⟨rfl, rfl⟩ := h
  obtain ⟨g', t', cs, fuel, p, q, hg', ht', hvar, hd, _, _⟩ := hv
  obtain rfl := Option.some.inj (hg.symm.trans hg')
  obtain rfl := Option.some.inj (hty.symm.trans ht')
  unfold Lib.TabIs
  rw [hvar, ← Lib.cells_of_tab ht he hce hct hd]
 | _ :: r, ps, i + 1, hv, h => by
  obtain ⟨_, _, _, _, _, q, _, _, _, _, h2, _⟩ := hv
  exact tab_vars hg hty ht he hce hct r q i h2 (by simpa using h)
theorem tab_at {P : Program} {W : World} {name : String} {k : IntKind} {zs : List Int} {g : Nat} {t e : TypeId} {n : Nat} {l : List (String × DataW Unit)} (i : Nat)
  (hg : P.globalNamed name = some g) (hty : (P.globals[g]?).map (·.type) = some t) (ht : P.underlying t = some (.array n e)) (he : P.underlying e = some (.int k)) (hce : P.cellsOf e = 1) (hct : P.cellsOf t = n)
  (hL : laidMetH P l W) (hp : (l.all fun x => x.2.handleName?.isNone) = true) (hi : l[i]? = some (name, Lib.tabData k zs)) : TabH P (fun b => W.heap[b]?) name k zs := by
 rw [MakeChecks.laidMetH_plain _ _ _ hp] at hL
 obtain ⟨ps, hv, _⟩ := hL
 exact tabH_of (tab_vars hg hty ht he hce hct l ps i hv hi)
end Go.Lx

namespace Go.Vc
open Go
variable {H : Type} {enc : TypeId × Value → H} {P : Program} {w : World} {base : Nat} {spare : Nat → Bool} {held : Bool}
theorem Jab {w : World} {base k : Nat} {a : Addr} {cs : List Value} (h : w.cells? base a k = some cs) : cs.length = k ∧ ∀ i, i < k → w.cell? (a.add i) = cs[i]? :=
 (World.cells?_some h).2
theorem cell_spot {w : World} {a : Addr} {v : Value} (h : w.cell? a = some v) : a.spot = none := by
 unfold World.cell? at h
 split at h
 ·split at h
  ·cases h
  ·rename_i hs; simpa using hs
 ·cases h
theorem op_int {t fuel : Nat} {k : IntKind} {cs : List Value} {x : DataW H × List MemPlace} (ht : P.underlying t = some (.int k)) (h : DataW.trod enc P w base spare held fuel t cs = some x) : ∃ n : Int, cs = [.int k n] ∧ (Lit.int k n).wf = true := by
 obtain ⟨n, h1, _, h2⟩ := DataW.trod_int ht h
 exact ⟨n, h1, h2⟩
theorem op_bool {t fuel : Nat} {cs : List Value} {x : DataW H × List MemPlace} (ht : P.underlying t = some .bool) (h : DataW.trod enc P w base spare held fuel t cs = some x) : ∃ b : Bool, cs = [.bool b] := by
 obtain ⟨n, h1, _⟩ := DataW.trod_bool ht h
 exact ⟨n, h1⟩
end Go.Vc

namespace Go.Lx
open Go Go.Vc Go.Md
variable {H : Type} {enc : TypeId × Value → H} {P : Program} {w : World} {base : Nat} {spare : Nat → Bool} {held : Bool}
theorem piece {cs l : List Value} {o s : Nat} (h : (cs.drop o).take s = l) (hl : l.length = s) : cs.drop o = l ++ cs.drop (o + s) := by
 have := List.take_append_drop s (cs.drop o)
 rw [h, List.drop_drop] at this
 exact this.symm
theorem Row.snap {w : World} {a : Option Addr} {sz : Nat} {xs : List (List Value)} (h : Row w a sz xs) (hsz : 0 < sz) : RowH (fun b => w.heap[b]?) a sz xs := by
 rcases h with h | ⟨b, off, ha, h⟩
 ·exact .inl h
 ·cases xs with
  | nil => exact .inl rfl
  | cons x r =>
   have h0 := h 0 x rfl
   have hv := h0.2 0 x[0] (by simp [h0.1, hsz])
   unfold World.cell? at hv
   split at hv
   ·rename_i c T m hb
    refine .inr ⟨b, off, c, T, m, ha, hb, fun i y hy => ⟨(h i y hy).1, fun j v hj => ?_⟩⟩
    have := (h i y hy).2 j v hj
    unfold World.cell? at this
    rw [hb] at this
    simpa using this
   ·cases hv
theorem val_struct {r : Reach} {b0 t : Nat} {v : Value} {fs : Array Field} (ht : P.underlying t = some (.struct fs)) (hval : Value.okWide P w r b0 t v) : ∃ cs : List Value, v = .agg cs.toArray ∧ v.cells.toList = cs ∧ cs.length = P.cellsOf t := by
 unfold Value.okWide at hval
 rw [ht] at hval
 obtain ⟨cs, rfl, h, _⟩ := hval; exact ⟨cs.toList, by simp, rfl, by simpa using h⟩
theorem val_cell {r : Reach} {b0 t : Nat} {v : Value} (ht : (match P.underlying t with | some (.int _) | some (.slice _) | some .string | some .bool => true | _ => false) = true) (hval : Value.okWide P w r b0 t v) : v.cells.toList = [v] := by
 unfold Value.okWide at hval
 split at hval
 ·rename_i h; rw [h] at ht; cases ht
 ·rename_i h; rw [h] at ht; cases ht
 ·cases v with
  | agg cs =>
   exfalso
   unfold Cell.okWide at hval
   split at ht <;> simp_all [Cell.ok]
  | _ => rfl
end Go.Lx

namespace Go.Vc
open Go Go.Lx
variable {H : Type} {enc : TypeId × Value → H} {P : Program} {w : World} {base : Nat} {spare : Nat → Bool} {held : Bool}
structure BK (bk : DataW H → Nat) : Prop where
 slice : ∀ (es rs : List (DataW H)) (d : DataW H), d ∈ es → bk d ≤ bk (.slice es rs)
 agg : ∀ (es : List (DataW H)) (d : DataW H), d ∈ es → bk d ≤ bk (.agg es)
 str : ∀ bs : List UInt8, bs.length ≤ bk (.lit (.string bs))
theorem Jj5 {bk : DataW H → Nat} (K : BK bk) {t fuel : Nat} {cs : List Value} {x : DataW H × List MemPlace} (ht : P.underlying t = some .string) (h : DataW.trod enc P w base spare held fuel t cs = some x) : ∃ s : List UInt8, cs = [str s] ∧ s.length ≤ 9223372036854775807 ∧ s.length ≤ bk x.1 := by
 obtain ⟨s, h1, h3, h2⟩ := DataW.trod_string ht h
 refine ⟨s.data.toList, by rw [h1], ?_, ?_⟩
 ·have e : s.data.toList.length = s.size := by rw [Array.length_toList]; rfl
  rw [e]
  unfold maxLen at h2
  omega
 ·rw [h3]; exact K.str _
theorem op_fieldB {bk : DataW H → Nat} (K : BK bk) {t fuel i ft fo sz bo : Nat} {nm tg pk : String} {em : Bool} {fs : Array Field} {cs : List Value} {x : DataW H × List MemPlace} (ht : P.underlying t = some (.struct fs)) (hf : fs[i]? = some ⟨nm, ft, fo, em, tg, pk, bo⟩) (hc : P.cellsOf ft = sz) (h : DataW.trod enc P w base spare held fuel t cs = some x) :
  ∃ n y, DataW.trod enc P w base spare held n ft ((cs.drop fo).take sz) = some y ∧ bk y.1 ≤ bk x.1 := by
 subst hc
 obtain ⟨xs, n, _, hx, _, hl, hp⟩ := DataW.trod_struct ht h
 have h1 := hp i _ hf
 have hi : i < fs.size := by
  rcases Nat.lt_or_ge i fs.size with h | h
  ·exact h
  ·rw [Array.getElem?_eq_none h] at hf; cases hf
 rw [List.getElem?_eq_getElem (by omega)] at h1
 refine ⟨n, _, h1, ?_⟩
 rw [hx]
 exact K.agg _ _ (List.mem_map.2 ⟨_, List.getElem_mem _, rfl⟩)
theorem op_sliceB {bk : DataW H → Nat} (K : BK bk) {B : Nat} {α : Type} {f : α → List Value} {good : α → Prop} {t e sz fuel : Nat} {cs : List Value} {x : DataW H × List MemPlace} (hB : bk x.1 ≤ B) (ht : P.underlying t = some (.slice e)) (hc : P.cellsOf e = sz) (hsz : Nat.blt 0 sz = true)
  (hD : ∀ n cs x, bk x.1 ≤ B → cs.length = sz → DataW.trod enc P w base spare held n e cs = some x → ∃ a, cs = f a ∧ good a) (h : DataW.trod enc P w base spare held fuel t cs = some x) :
  ∃ (v : Value) (xs : List α), cs = [v] ∧ FrS (fun b => w.heap[b]?) sz v (xs.map f) ∧ xs.length ≤ 9223372036854775807 ∧ ∀ x ∈ xs, good x := by
 have h' := h
 rcases DataW.trod_slice ht h with ⟨rfl, _⟩ | ⟨a, len, cap, elems, rest, n, _, rfl, hx, _, hl, hm, hlen, hel, _⟩
 ·exact ⟨_, [], rfl, FrS.nil _ _, by simp, by simp⟩
 ·-- the elements, and no others
  have each : ∀ i : Fin len, ∃ a' : α, w.cells? base (a.add (i * sz)) sz = some (f a') ∧ good a' := by
   intro i
   have hi := hel i i.2
   rw [hc] at hi
   have hlt : (i : Nat) < elems.length := by rw [hlen]; exact i.2
   rw [List.getElem?_eq_getElem hlt, Option.bind_eq_some_iff] at hi
   obtain ⟨cs', h1, h2⟩ := hi
   have hb : bk (elems[(i : Nat)]).1 ≤ B := by
    refine Nat.le_trans ?_ hB
    rw [hx]
    exact K.slice _ _ _ (List.mem_map.2 ⟨_, List.getElem_mem _, rfl⟩)
   obtain ⟨a', rfl, hg⟩ := hD _ _ _ hb (Jab h1).1 h2
   exact ⟨a', h1, hg⟩
  have hsz' : 0 < sz := by simpa using hsz
  have hch : ∃ g : Fin len → α, ∀ i : Fin len, w.cells? base (a.add (i * sz)) sz = some (f (g i)) ∧ good (g i) := ⟨fun i => (each i).choose, fun i => (each i).choose_spec⟩
  obtain ⟨g, hg⟩ := hch
  have hrow : Row w (some a) sz ((List.ofFn g).map f) := by
   cases len with
   | zero => left; simp
   | succ k =>
    have h0 := hg 0
    have hsp : a.spot = none := by
     have := (Jab h0.1).2 0 hsz'
     have hln := (Jab h0.1).1
     rw [List.getElem?_eq_getElem (by omega)] at this
     have hs := cell_spot this
     simpa [Addr.add] using hs
    obtain ⟨b, off, spot⟩ := a
    simp only at hsp
    subst hsp
    refine .inr ⟨b, off, rfl, fun i x hx => ?_⟩
    have hi : i < k + 1 := by
     rcases Nat.lt_or_ge i (k + 1) with h | h
     ·exact h
     ·rw [List.getElem?_eq_none (by simpa using h)] at hx; cases hx
    have hx' : x = f (g ⟨i, hi⟩) := by
     rw [List.getElem?_map, List.getElem?_ofFn, dif_pos hi] at hx
     exact (Option.some.inj hx).symm
    subst hx'
    obtain ⟨c1, c2⟩ := Jab (hg ⟨i, hi⟩).1
    refine ⟨c1, fun j v hv => ?_⟩
    have hj : j < sz := by
     rcases Nat.lt_or_ge j sz with h | h
     ·exact h
     ·rw [List.getElem?_eq_none (by omega)] at hv; cases hv
    have := c2 j hj
    rw [hv, Addr.add_lit, Addr.add_lit] at this
    exact this
  have hm' : cap ≤ 9223372036854775807 := by simpa [maxLen] using hm
  refine ⟨_, List.ofFn g, rfl, ⟨⟨some a, cap, by simp, by simpa using hl, hm', Row.snap hrow hsz'⟩⟩, by simp; omega, ?_⟩
  intro x hx
  rw [List.mem_ofFn] at hx
  obtain ⟨i, rfl⟩ := hx
  exact (hg i).2
end Go.Vc

namespace Go.Vc
open Go Go.Lx
section
variable {H : Type} {enc : TypeId × Value → H} {P : Program} {w : World} {base : Nat} {spare : Nat → Bool} {held : Bool}
structure BKL (bk : DataW H → Nat) : Prop extends BK bk where
 len : ∀ es rs : List (DataW H), es.length ≤ bk (.slice es rs)
theorem op_sliceL {bk : DataW H → Nat} (K : BKL bk) {B : Nat} {α : Type} {f : α → List Value} {good : α → Prop} {t e sz fuel : Nat} {cs : List Value} {x : DataW H × List MemPlace} (hB : bk x.1 ≤ B) (ht : P.underlying t = some (.slice e)) (hc : P.cellsOf e = sz) (hsz : Nat.blt 0 sz = true)
  (hD : ∀ n cs x, bk x.1 ≤ B → cs.length = sz → DataW.trod enc P w base spare held n e cs = some x → ∃ a, cs = f a ∧ good a) (h : DataW.trod enc P w base spare held fuel t cs = some x) :
  ∃ (v : Value) (xs : List α), cs = [v] ∧ FrS (fun b => w.heap[b]?) sz v (xs.map f) ∧ (xs.length ≤ 9223372036854775807 ∧ xs.length ≤ B) ∧ ∀ x ∈ xs, good x := by
 obtain ⟨v, xs, e1, fr, hn, hg⟩ := op_sliceB K.toBK hB ht hc hsz hD h
 refine ⟨v, xs, e1, fr, ⟨hn, ?_⟩, hg⟩
 obtain ⟨a, c, rfl, _⟩ := fr.out
 rcases DataW.trod_slice ht h with ⟨e2, _⟩ | ⟨a', len, cap, elems, rest, n, _, e2, hx, _, _, _, hlen, _⟩
 ·rw [e1] at e2
  injection e2 with e2 _
  injection e2 with _ e2 _
  rw [List.length_map] at e2; omega
 ·rw [e1] at e2
  injection e2 with e2 _
  injection e2 with _ e2 _
  rw [List.length_map] at e2
  rw [hx] at hB
  have := K.len (elems.map (·.1)) (rest.map (·.1))
  rw [List.length_map] at this
  simp only at hB
  omega
end
section
variable {H : Type} {enc : TypeId × Value → H}
theorem Jiv {a : Assume} {C : Checked} {os : Os} {f : FuncId} {fn : Func} {s : OpenSpec} {k : (H : Type) → List (DataW H) → Bool} (hk : s.cond = some k) {F : Stop.Interp} {conds : List PathCond} {apart fresh handsOn again : Bool} {X : World → Prop}
  (hX : ∀ w w' : World, w.heap = w'.heap → X w → X w')
  (own : ownKnob C.prog.godebug = none) (started : os.Started) (noInit : C.prog.inits.idxOf? f = none) (hfn : C.prog.funcs[f]? = some fn)
  (witness : ∃ (w : World) (tape : Tape) (i : Input), w.os = os ∧ (w.forCall tape i).Shaped C.prog ∧ i.vars = [] ∧ Input.okWide C.prog (w.forCall tape i) .any w.heap.size f i ∧
   ((s.pre enc C.prog fn conds apart (w.forCall tape i).memory i.args ∧ X (w.forCall tape i).memory) ∧ sizedMet enc C.prog fn s apart (w.forCall tape i).memory i.args) ∧ a.holds C.prog (lone (Frame.enter C.prog f i.args .normal) [] (w.forCall tape i)))
  (contract : ∀ (W : World) (base : Nat) (args : Array Value) (ds gs : List (DataW H)) (before : List MemPlace),
   (∀ (j : Nat) t v, fn.params[j]? = some t → args[j]? = some v → Value.okWide C.prog W .any base t v) →
   DataW.Whole enc C.prog fn.params.toList s.vars apart W args.toList ds gs before →
   conds.all (PathCond.test C.prog ⟨fn.params.toList, ds, s.bare.plain.varTypes C.prog, gs⟩) = true → k H (ds ++ gs) = true → X W →
   a.holds C.prog (lone (Frame.enter C.prog f args .normal) [] W) →
   Calls C.prog f args W fun e W' => ∃ v, e = .returned v ∧ (s.at F).post enc C.prog fn apart fresh handsOn again W args v W') :
  ReturnsInHanded a C os f .any (fun w args => (s.pre enc C.prog fn conds apart w args ∧ X w) ∧ sizedMet enc C.prog fn s apart w args) ((s.at F).post enc C.prog fn apart fresh handsOn again) := by
 refine returnsInHanded_of_calls own started noInit witness ?_
 intro w tape i _ _ _ hok hpre hholds
 obtain ⟨_, _, _, fn', hfn', _, _, _, _, hval⟩ := hok
 obtain rfl : fn' = fn := Option.some.inj (hfn'.symm.trans hfn)
 obtain ⟨⟨hp, hx⟩, _⟩ := hpre
 obtain ⟨ds, gs, before, hw, hc, hkk⟩ := (OpenSpec.pre_some hk conds apart _ _).1 hp
 have hw' := DataW.Whole.of_heap (w' := w.forCall tape i) (by rfl) hw
 refine (contract (w.forCall tape i) w.heap.size i.args ds gs before hval hw' hc hkk (hX _ _ (by rfl) hx) hholds).mono fun e W' ⟨v, he, hp⟩ => ?_
 subst he
 exact ChangeSpec.post_blind hp
theorem Jhw {C : Checked} {os : Os} {f : FuncId} {fn : Func} {s : OpenSpec} {k : (H : Type) → List (DataW H) → Bool} (hk : s.cond = some k) {conds : List PathCond} {apart : Bool} {X : World → Prop} (modest : Bool) (w0 : World) (args : Array Value) (fuel : Nat) (hos : w0.os = os)
  (hsh : (w0.forCall (fun _ _ => 0) ⟨#[], args, []⟩).Shaped C.prog)
  (hok : Input.okWideB C.prog (w0.forCall (fun _ _ => 0) ⟨#[], args, []⟩) f ⟨#[], args, []⟩ = true)
  {x : List (DataW H) × List (DataW H) × List MemPlace} (hx : DataW.whole enc C.prog (w0.forCall (fun _ _ => 0) ⟨#[], args, []⟩).memory fn.params.toList s.vars apart args.toList fuel = some x)
  (hconds : conds.all (PathCond.test C.prog ⟨fn.params.toList, x.1, s.bare.plain.varTypes C.prog, x.2.1⟩) = true) (hkk : k H (x.1 ++ x.2.1) = true)
  (hsz : s.bare.sizedB enc C.prog fn apart (w0.forCall (fun _ _ => 0) ⟨#[], args, []⟩).memory args fuel = true)
  (hX : X (w0.forCall (fun _ _ => 0) ⟨#[], args, []⟩).memory) :
  ∃ (w : World) (tape : Tape) (i : Input), w.os = os ∧ (w.forCall tape i).Shaped C.prog ∧ i.vars = [] ∧ Input.okWide C.prog (w.forCall tape i) .any w.heap.size f i ∧
   ((s.pre enc C.prog fn conds apart (w.forCall tape i).memory i.args ∧ X (w.forCall tape i).memory) ∧ sizedMet enc C.prog fn s apart (w.forCall tape i).memory i.args) ∧ ({ modest := modest } : Assume).holds C.prog (lone (Frame.enter C.prog f i.args .normal) [] (w.forCall tape i)) :=
 ⟨w0, fun _ _ => 0, ⟨#[], args, []⟩, hos, hsh, (Input.okWide_of_okWideB (base := 0) hok).1, (Input.okWide_of_okWideB hok).2,
  ⟨⟨(OpenSpec.pre_some hk conds apart _ _).2 ⟨x.1, x.2.1, x.2.2, DataW.Whole_of_whole hx, hconds, hkk⟩, hX⟩, sizedMet_of_sizedB hsz⟩, by
  simp only [Assume.holds]
  exact ⟨by simp, by simp, fun _ => Modest.zero, by simp, by simp⟩⟩
end
end Go.Vc

namespace Go.Vc
open Go Go.Lx
variable {H : Type} {enc : TypeId × Value → H} {P : Program} {w : World} {base : Nat} {spare : Nat → Bool} {held : Bool}
end Go.Vc

namespace Go.Lx
open Go Go.Vc Go.Md Go.ChangeShapes Go.WideShapes Go.ChangeAt
theorem Jc0 {cs l : List Value} {o s q : Nat} (h : (cs.drop o).take s = l) (hq : q < l.length) : cs.getD (o + q) undef = l.getD q undef := by
 subst h
 have hs : q < s := by rw [List.length_take] at hq; omega
 simp only [List.getD_eq_getElem?_getD, List.getElem?_take, List.getElem?_drop, if_pos hs]
section
variable {P : Program} {H : Type} {enc : TypeId × Value → H} {w : World} {base : Nat} {spare : Nat → Bool} {held : Bool}
end
end Go.Lx

namespace Go.Lx
open Go Go.Vc Go.Md Go.ChangeShapes Go.WideShapes Go.ChangeAt
theorem Jhh {a : Nat} : ∀ {l : List Nat}, a ∈ l → a ≤ l.sum
 | [], h => by cases h
 | x :: l, h => by
  rw [List.sum_cons]
  rcases List.mem_cons.1 h with h | h
  ·omega
  ·have := Jhh h; omega
theorem Jkr {α β : Type} {f : α → Nat} {g : β → Nat} : ∀ {xs : List α} {ys : List β}, xs.length = ys.length → (∀ (i : Nat) x y, xs[i]? = some x → ys[i]? = some y → f x ≤ g y) → (xs.map f).sum ≤ (ys.map g).sum
 | [], [], _, _ => Nat.le_refl _
 | [], _ :: _, h, _ => by simp at h
 | _ :: _, [], h, _ => by simp at h
 | x :: xs, y :: ys, h, k => by
  rw [List.map_cons, List.map_cons, List.sum_cons, List.sum_cons]
  have h1 := k 0 x y rfl rfl
  have h2 := Jkr (f := f) (g := g) (xs := xs) (ys := ys) (by simpa using h) (fun i a b ha hb => k (i + 1) a b (by simpa using ha) (by simpa using hb))
  omega
theorem Jhf {α : Type} {f : α → Nat} (h : ∀ x, 1 ≤ f x) : ∀ xs : List α, xs.length ≤ (xs.map f).sum
 | [] => Nat.zero_le _
 | x :: xs => by rw [List.map_cons, List.sum_cons, List.length_cons]; have := h x; have := Jhf h xs; omega
section
variable {H : Type} {enc : TypeId × Value → H} {P : Program} {w : World} {base : Nat} {spare : Nat → Bool} {held : Bool}
structure BKS (bk : DataW H → Nat) : Prop where
 slice : ∀ es rs : List (DataW H), (es.map bk).sum ≤ bk (.slice es rs)
 agg : ∀ es : List (DataW H), (es.map bk).sum ≤ bk (.agg es)
 str : ∀ bs : List UInt8, bs.length ≤ bk (.lit (.string bs))
 one : ∀ d : DataW H, 1 ≤ bk d
theorem BKS.toBK {bk : DataW H → Nat} (K : BKS bk) : BK bk :=
 ⟨fun es rs d h => Nat.le_trans (Jhh (List.mem_map.2 ⟨d, h, rfl⟩)) (K.slice es rs), fun es d h => Nat.le_trans (Jhh (List.mem_map.2 ⟨d, h, rfl⟩)) (K.agg es), K.str⟩
theorem BKS.toBKL {bk : DataW H → Nat} (K : BKS bk) : BKL bk := { toBK := K.toBK, len := fun es rs => Nat.le_trans (Jhf K.one es) (K.slice es rs) }
theorem Jhq {bk : DataW H → Nat} (K : BKS bk) {t fuel : Nat} {fs : Array Field} {cs : List Value} {x : DataW H × List MemPlace} (ht : P.underlying t = some (.struct fs)) (h : DataW.trod enc P w base spare held fuel t cs = some x) :
  ∃ (n : Nat) (xs : List (DataW H × List MemPlace)), n < fuel ∧ xs.length = fs.size ∧ (xs.map fun y => bk y.1).sum ≤ bk x.1 ∧ ∀ (i : Nat) (f : Field) (sz : Nat), fs[i]? = some f → P.cellsOf f.type = sz → DataW.trod enc P w base spare held n f.type ((cs.drop f.offset).take sz) = xs[i]? := by
 obtain ⟨xs, n, hn, hx, _, hl, hp⟩ := DataW.trod_struct ht h
 refine ⟨n, xs, by omega, hl, ?_, fun i f sz hf hc => by subst hc; exact hp i f hf⟩
 rw [hx]
 have := K.agg (xs.map (·.1))
 rw [List.map_map] at this
 exact this
theorem Ji2 {bk : DataW H → Nat} (K : BKS bk) {α δ : Type} {G : Jw → (Nat → Value) → α → Prop} {m : δ → α → Nat} {t e sz fuel : Nat} {cs : List Value} {x : DataW H × List MemPlace} (ht : P.underlying t = some (.slice e)) (hc : P.cellsOf e = sz) (hsz : Nat.blt 0 sz = true)
  (hD : ∀ n cs x, n < fuel → cs.length = sz → DataW.trod enc P w base spare held n e cs = some x → ∃ a : α, G (fun b => w.heap[b]?) (fun j => cs.getD j undef) a ∧ ∀ d, m d a ≤ bk x.1) (h : DataW.trod enc P w base spare held fuel t cs = some x) :
  ∃ (v : Value) (xs : List α), cs = [v] ∧ FrN (fun b => w.heap[b]?) sz v G xs ∧ xs.length ≤ bk x.1 ∧ ∀ d, (xs.map (m d)).sum ≤ bk x.1 := by
 rcases DataW.trod_slice ht h with ⟨rfl, _⟩ | ⟨a, len, cap, elems, rest, n, hn, rfl, hx, _, hl, hm, hlen, hel, _⟩
 ·exact ⟨_, [], rfl, FrN.nil _ _ _, by simp, by simp⟩
 ·have each : ∀ i : Fin len, ∃ p : List Value × α, w.cells? base (a.add (i * sz)) sz = some p.1 ∧ p.1.length = sz ∧ G (fun b => w.heap[b]?) (fun j => p.1.getD j undef) p.2 ∧ ∀ d y, elems[(i : Nat)]? = some y → m d p.2 ≤ bk y.1 := by
   intro i
   have hi := hel i i.2
   rw [hc] at hi
   have hlt : (i : Nat) < elems.length := by rw [hlen]; exact i.2
   rw [List.getElem?_eq_getElem hlt, Option.bind_eq_some_iff] at hi
   obtain ⟨cs', h1, h2⟩ := hi
   obtain ⟨a', hg, hmm⟩ := hD _ _ _ (by omega) (Jab h1).1 h2
   refine ⟨(cs', a'), h1, (Jab h1).1, hg, fun d y hy => ?_⟩
   rw [List.getElem?_eq_getElem hlt] at hy
   cases hy
   exact hmm d
  have hsz' : 0 < sz := by simpa using hsz
  have hch : ∃ g : Fin len → List Value × α, ∀ i : Fin len, w.cells? base (a.add (i * sz)) sz = some (g i).1 ∧ (g i).1.length = sz ∧ G (fun b => w.heap[b]?) (fun j => (g i).1.getD j undef) (g i).2 ∧ ∀ d y, elems[(i : Nat)]? = some y → m d (g i).2 ≤ bk y.1 := ⟨fun i => (each i).choose, fun i => (each i).choose_spec⟩
  obtain ⟨g, hg⟩ := hch
  have hrow : Row w (some a) sz ((List.ofFn g).map fun p => p.1) := by
   cases len with
   | zero => left; simp
   | succ k =>
    have h0 := hg 0
    have hsp : a.spot = none := by
     have := (Jab h0.1).2 0 hsz'
     have hln := (Jab h0.1).1
     rw [List.getElem?_eq_getElem (by omega)] at this
     have hs := cell_spot this
     simpa [Addr.add] using hs
    obtain ⟨b, off, spot⟩ := a
    simp only at hsp
    subst hsp
    refine .inr ⟨b, off, rfl, fun i x hx => ?_⟩
    have hi : i < k + 1 := by
     rcases Nat.lt_or_ge i (k + 1) with h | h
     ·exact h
     ·rw [List.getElem?_eq_none (by simpa using h)] at hx; cases hx
    have hx' : x = (g ⟨i, hi⟩).1 := by
     rw [List.getElem?_map, List.getElem?_ofFn, dif_pos hi] at hx
     exact (Option.some.inj hx).symm
    subst hx'
    obtain ⟨c1, c2⟩ := Jab (hg ⟨i, hi⟩).1
    refine ⟨c1, fun j v hv => ?_⟩
    have hj : j < sz := by
     rcases Nat.lt_or_ge j sz with h | h
     ·exact h
     ·rw [List.getElem?_eq_none (by omega)] at hv; cases hv
    have := c2 j hj
    rw [hv, Addr.add_lit, Addr.add_lit] at this
    exact this
  have hm' : cap ≤ 9223372036854775807 := by simpa [maxLen] using hm
  have hfr : FrS (fun b => w.heap[b]?) sz (.slice (some a) len cap) ((List.ofFn g).map fun p => p.1) := ⟨⟨some a, cap, by simp, by simpa using hl, hm', Row.snap hrow hsz'⟩⟩
  refine ⟨_, (List.ofFn g).map Prod.snd, rfl, ?_, ?_, fun d => ?_⟩
  ·refine frn_of (css := (List.ofFn g).map Prod.fst) ?_ ⟨by simp, fun i c y hc hy => ?_⟩
   ·have : ((List.ofFn g).map Prod.fst).map Vp = (List.ofFn g).map fun p => p.1 := by rw [List.map_map]; rfl
    rw [this]; exact hfr
   ·simp only [List.getElem?_map, Option.map_eq_some_iff] at hc hy
    obtain ⟨p, hp, rfl⟩ := hc
    obtain ⟨q, hq, rfl⟩ := hy
    rw [hp] at hq
    cases hq
    have hpm := List.mem_of_getElem? hp
    rw [List.mem_ofFn] at hpm
    obtain ⟨j, rfl⟩ := hpm
    exact ⟨(hg j).2.1, (hg j).2.2.1⟩
  ·have h1 := Jhf K.one (elems.map (·.1))
   have h2 := K.slice (elems.map (·.1)) (rest.map (·.1))
   rw [hx]
   simp only [List.length_map, List.length_ofFn] at h1 ⊢
   omega
  ·have h2 := K.slice (elems.map (·.1)) (rest.map (·.1))
   rw [hx]
   refine Nat.le_trans (Jkr (by simp [hlen]) fun i a y ha hy => ?_) h2
   rw [List.getElem?_map, Option.map_eq_some_iff] at ha hy
   obtain ⟨p, hp, rfl⟩ := ha
   obtain ⟨y, hy, rfl⟩ := hy
   have hi : i < len := by
    rcases Nat.lt_or_ge i len with h | h
    ·exact h
    ·rw [List.getElem?_eq_none (by simpa using h)] at hp; cases hp
   rw [List.getElem?_ofFn, dif_pos hi] at hp
   cases hp
   exact (hg ⟨i, hi⟩).2.2.2 d y hy
end
end Go.Lx
