/- Directories checked, values as octets, in plain Lean. Conditions: none. -/
import Derived.Test.YthljoadplekgnaaGreatDoorKHs
import Derived.Test.YthljoadplekgnaaGreatDoorLx2
import Derived.Lib.LaidTab
import Derived.MakeChecks
import Derived.Test.YthljoadplekgnaaGreatDoorMd
import Derived.ProofKit
import Derived.OpenShut
import Derived.ChangeArms
import Derived.DataReads
namespace Go.M
open Go.Md Go.Pl
def szD : Nat → List Ta → Nat
 | 0, _ => 0
 | d + 1, l => (l.map fun e => 1 + e.Value.kaj.length + e.Value.kak.length + e.Value.kah.length + szD d e.Value.kag).sum
def szE (d : Nat) (e : Ta) : Nat := 1 + e.Value.kaj.length + e.Value.kak.length + e.Value.kah.length + szD d e.Value.kag
theorem Jci (d : Nat) : szD (d + 1) [] = 0 := rfl
theorem Je8 (d : Nat) (e : Ta) (l : List Ta) : szD (d + 1) (e :: l) = szE d e + szD (d + 1) l := by
 simp only [szD, szE, List.map_cons, List.sum_cons]
theorem Jha {d : Nat} {e : Ta} : ∀ {l : List Ta}, e ∈ l → szE d e ≤ szD (d + 1) l
 | [], h => by cases h
 | x :: l, h => by
  rw [Je8]
  rcases List.mem_cons.1 h with h | h
  ·subst h; omega
  ·have := Jha (d := d) h; omega
theorem vB_of {d : Nat} {e : Ta} {l : List Ta} (h : szD (d + 1) l ≤ 2000000) (he : e ∈ l) : vB e.Value ∧ szD d e.Value.kag ≤ 2000000 := by
 have := Jha (d := d) he
 unfold szE at this
 unfold vB
 omega
def prevT (l : List Ta) : Nat → Option Int
 | 0 => none
 | k + 1 => (l[k]?).map (·.Tag)
def lowP (pr : Option Int) (e : Ta) : Prop := ∃ t, pr = some t ∧ e.Tag ≤ t
noncomputable def Jhp (f : Ta → Int) : Option Int → List Ta → Int
 | _, [] => 0
 | pr, e :: l => open Classical in if e.Tag < 0 ∨ 65535 < e.Tag then 2 else if lowP pr e then 5 else if f e ≠ 0 then f e else Jhp f (some e.Tag) l
theorem list_loop {G : (Int → Option Int) → Int → Option Int} (l : List Ta) (f : Ta → Int)
  (more : ∀ (next : Int → Option Int) (k : Nat) (hk : k < l.length), G next (k : Int) = open Classical in if l[k].Tag < 0 ∨ 65535 < l[k].Tag then some 2 else if lowP (prevT l k) l[k] then some 5 else if f l[k] ≠ 0 then some (f l[k]) else next ((k : Int) + 1))
  (stop : ∀ next, G next (l.length : Int) = some 0) : Vv G 0 = some (Jhp f none l) := by
 have key : ∀ m i : Nat, i + m = l.length → Vv G (i : Int) = some (Jhp f (prevT l i) (l.drop i)) := by
  intro m
  induction m with
  | zero =>
   intro i hi
   have : i = l.length := by omega
   subst this
   rw [List.drop_length]
   exact Qr stop
  | succ m ih =>
   intro i hi
   have hlt : i < l.length := by omega
   rw [List.drop_eq_getElem_cons hlt]
   unfold Jhp
   by_cases h1 : l[i].Tag < 0 ∨ 65535 < l[i].Tag
   ·rw [if_pos h1]
    exact Qr fun next => by rw [more next i hlt, if_pos h1]
   rw [if_neg h1]
   by_cases h2 : lowP (prevT l i) l[i]
   ·rw [if_pos h2]
    exact Qr fun next => by rw [more next i hlt, if_neg h1, if_pos h2]
   rw [if_neg h2]
   by_cases h3 : f l[i] ≠ 0
   ·rw [if_pos h3]
    exact Qr fun next => by rw [more next i hlt, if_neg h1, if_neg h2, if_pos h3]
   rw [if_neg h3, Xu ((i : Int) + 1) (fun next => by rw [more next i hlt, if_neg h1, if_neg h2, if_neg h3])]
   have := ih (i + 1) (by omega)
   have e1 : prevT l (i + 1) = some l[i].Tag := by show (l[i]?).map _ = _; rw [List.getElem?_eq_getElem hlt]; rfl
   rw [e1] at this
   exact this
 have := key l.length 0 (by omega)
 rw [List.drop_zero] at this
 exact this
theorem Jgl {f : Ta → Int} : ∀ {l : List Ta} {pr : Option Int}, Jhp f pr l = 0 → ∀ e ∈ l, f e = 0
 | [], _, _, e, he => by cases he
 | x :: l, pr, h, e, he => by
  unfold Jhp at h
  split at h
  ·omega
  split at h
  ·omega
  split at h
  ·rename_i h1; exact absurd h h1
  ·rename_i h1
   rcases List.mem_cons.1 he with h' | h'
   ·subst h'; simpa using h1
   ·exact Jgl h e h'
noncomputable def dE : Nat → List Ta → Int
 | 0, _ => 4
 | d + 1, l => if 200 < l.length then 4 else Jhp (fun e => if e.Value.kai ≠ 13 then Jen e.Value else if Wd e.Value ≠ 0 then Wd e.Value else dE d e.Value.kag) none l
theorem low_step {α : Type} {l : List Ta} {k : Nat} (hk : k < l.length) (hl : l.length ≤ 1000) (J : Option α) (x : α) :
  Qe (decide (0 < (k : Int))) (Js (gI ((k : Int) - 1)) fun t => Js (Zb l t) fun t35 => Qe (decide (l[k].Tag ≤ t35.Tag)) (some x) J) J = open Classical in if lowP (prevT l k) l[k] then some x else J := by
 rw [cI]
 cases k with
 | zero =>
  rw [if_neg (by omega), if_neg]
  rintro ⟨t, h, _⟩
  cases h
 | succ k =>
  have e : prevT l (k + 1) = some l[k].Tag := by show (l[k]?).map _ = _; rw [List.getElem?_eq_getElem (by omega)]; rfl
  rw [if_pos (by omega), Ju (by omega), Jb, show (((k + 1 : Nat) : Int) - 1) = (k : Int) from by omega, Xa (by omega), Jb, cI, e]
  by_cases h : l[k + 1].Tag ≤ l[k].Tag
  ·rw [if_pos h, if_pos ⟨_, rfl, h⟩]
  ·rw [if_neg h, if_neg]
   rintro ⟨t, ht, h'⟩
   cases ht
   exact h h'
theorem Jic (d : Nat) (l : List Ta) (deep : Int) (hd : deep = 6 - (d : Int)) (h5 : d ≤ 5) (hz : szD d l ≤ 2000000) : Jbz l deep = some (dE d l) := by
 unfold Jbz
 refine Jio (fun d (a : List Ta × Int) => some (dE d a.1)) (fun d a => a.2 = 6 - (d : Int) ∧ d ≤ 5 ∧ szD d a.1 ≤ 2000000) (fun d => d) ?_ d (l, deep) ⟨hd, h5, hz⟩
 rintro next d ⟨l, deep⟩ ⟨hd, h5, hz⟩ ih
 simp only at hd hz
 show Zk next l deep = some (dE d l)
 unfold Zk
 rw [cI, cI]
 cases d with
 | zero => rw [if_pos (by omega)]; rfl
 | succ d =>
  rw [if_neg (by omega)]
  unfold dE
  by_cases hl : 200 < l.length
  ·rw [if_pos (by omega), if_pos hl]
  rw [if_neg (by omega), if_neg hl]
  refine list_loop l _ (fun nx k hk => ?_) (fun nx => ?_)
  ·obtain ⟨hb, hzn⟩ := vB_of hz (List.getElem_mem hk)
   unfold Jac
   rw [cI, if_pos (by omega), Xa hk, Jb, Jhh, Jb, cI]
   by_cases h1 : l[k].Tag < 0 ∨ 65535 < l[k].Tag
   ·rw [if_pos h1, if_pos h1]
   rw [if_neg h1, if_neg h1, low_step hk (by omega)]
   congr 1
   unfold Jbl
   have e3 : ∀ x : Int, W5 (k : Int) nx x = if x ≠ 0 then some x else nx ((k : Int) + 1) := fun x => by
    unfold W5; rw [cI, Ju (by omega), Jb]
   rw [cI]
   by_cases h13 : l[k].Value.kai ≠ 13
   ·rw [if_pos h13, Jgf hb, Jb, e3]; simp only [if_pos h13]
   ·rw [if_neg h13, Jdj, Jb, cI]
    simp only [if_neg h13]
    by_cases hf : Wd l[k].Value = 0
    ·have := ih d (l[k].Value.kag, deep + 1) ⟨by show deep + 1 = _; omega, by omega, hzn⟩ (by omega)
     rw [if_pos hf, Ju (by omega), Jb, this, Jb, e3, if_neg (show ¬ Wd l[k].Value ≠ 0 from fun h => h hf)]
    ·rw [if_neg hf, e3]; simp [hf]
  ·unfold Jac
   rw [cI, if_neg (by omega)]
theorem fields13 {v : Te} (h : v.kai = 13) : Wd v = open Classical in if v.kaj ≠ [] ∨ v.kak ≠ [] ∨ v.kah ≠ [] then 1 else 0 := by
 unfold Wd
 rw [if_neg (show ¬ ¬ Jfk v.kai from fun x => x (.inr (.inr (.inr h))))]
 congr 1
 apply propext
 unfold Jhf Jb7 Jcy
 rw [h]
 constructor
 ·rintro (⟨_, a⟩ | ⟨_, a⟩ | ⟨_, a⟩ | ⟨a, _⟩)
  ·exact .inr (.inl a)
  ·exact .inl a
  ·exact .inr (.inr a)
  ·exact absurd rfl a
 ·rintro (a | a | a)
  ·exact .inr (.inl ⟨by omega, a⟩)
  ·exact .inl ⟨by omega, a⟩
  ·exact .inr (.inr (.inl ⟨by omega, a⟩))
theorem Jif (d : Nat) (l : List Ta) (deep : Int) (hd : deep = 6 - (d : Int)) (h5 : d ≤ 5) (hz : szD d l ≤ 2000000) : Jda l deep = some (dE d l) := by
 unfold Jda
 refine Jio (fun d (a : List Ta × Int) => some (dE d a.1)) (fun d a => a.2 = 6 - (d : Int) ∧ d ≤ 5 ∧ szD d a.1 ≤ 2000000) (fun d => d) ?_ d (l, deep) ⟨hd, h5, hz⟩
 rintro next d ⟨l, deep⟩ ⟨hd, h5, hz⟩ ih
 simp only at hd hz
 show Vj next l deep = some (dE d l)
 unfold Vj
 rw [cI, cI]
 cases d with
 | zero => rw [if_pos (by omega)]; rfl
 | succ d =>
  rw [if_neg (by omega)]
  unfold dE
  by_cases hl : 200 < l.length
  ·rw [if_pos (by omega), if_pos hl]
  rw [if_neg (by omega), if_neg hl]
  refine list_loop l _ (fun nx k hk => ?_) (fun nx => ?_)
  ·obtain ⟨hb, hzn⟩ := vB_of hz (List.getElem_mem hk)
   unfold Jbg
   rw [cI, if_pos (by omega), Xa hk, Jb, cI, cI]
   by_cases h1 : l[k].Tag < 0
   ·rw [if_pos h1, if_pos (.inl h1)]
   by_cases h2 : 65535 < l[k].Tag
   ·rw [if_neg h1, if_pos h2, if_pos (.inr h2)]
   rw [if_neg h1, if_neg h2, if_neg (show ¬ (l[k].Tag < 0 ∨ 65535 < l[k].Tag) by omega), low_step hk (by omega)]
   congr 1
   unfold Jcj
   have e3 : ∀ a b c g i j m o, Jbf (k : Int) nx a b c g i j m o = nx ((k : Int) + 1) := fun a b c g i j m o => by
    unfold Jbf; rw [Ju (by omega), Jb]
   simp only [e3]
   rw [cI]
   by_cases h13 : l[k].Value.kai ≠ 13
   ·rw [if_pos h13, Jf9 hb h13, Jb, cI]; simp only [if_pos h13]
   ·have h13' : l[k].Value.kai = 13 := by simpa using h13
    rw [if_neg h13, cI, cI, cI]
    simp only [if_neg h13]
    rw [fields13 h13']
    by_cases a1 : l[k].Value.kaj = []
    ·by_cases a2 : l[k].Value.kak = []
     ·by_cases a3 : l[k].Value.kah = []
      ·have := ih d (l[k].Value.kag, deep + 1) ⟨by show deep + 1 = _; omega, by omega, hzn⟩ (by omega)
       rw [if_neg (show ¬ (l[k].Value.kaj ≠ []) by simpa using a1), if_neg (by rw [Jav]; simpa using a2), if_neg (by rw [Jav]; simpa using a3), Ju (by omega), Jb, this, Jb, cI]
       simp [a1, a2, a3]
      ·rw [if_neg (show ¬ (l[k].Value.kaj ≠ []) by simpa using a1), if_neg (by rw [Jav]; simpa using a2), if_pos ((Jav _).2 a3)]
       simp [a3]
     ·rw [if_neg (show ¬ (l[k].Value.kaj ≠ []) by simpa using a1), if_pos ((Jav _).2 a2)]
      simp [a2]
    ·rw [if_pos a1]
     simp [a1]
  ·unfold Jbg
   rw [cI, if_neg (by omega)]
def okV (v : Te) : Prop := Jfk v.kai ∧ ¬ Jhf v
def okD : Nat → List Ta → Prop
 | 0, _ => False
 | d + 1, l => l.length ≤ 200 ∧ ∀ e ∈ l, okV e.Value ∧ (e.Value.kai = 13 → okD d e.Value.kag)
theorem Jfo {v : Te} (h : Wd v = 0) : okV v := by
 unfold Wd at h
 split at h
 ·omega
 split at h
 ·omega
 rename_i h1 h2
 exact ⟨Classical.byContradiction h1, h2⟩
theorem dE_ok : ∀ {d : Nat} {l : List Ta}, dE d l = 0 → okD d l := by
 intro d
 induction d with
 | zero => intro l h; unfold dE at h; omega
 | succ d ih =>
  intro l h
  unfold dE at h
  split at h
  ·omega
  rename_i hl
  refine ⟨by omega, fun e he => ?_⟩
  have := Jgl h e he
  split at this
  ·rename_i h13
   refine ⟨?_, fun h => absurd h h13⟩
   unfold Jen at this
   split at this
   ·rename_i h1; exact absurd this h1
   ·rename_i h1; exact Jfo (by simpa using h1)
  ·split at this
   ·rename_i h1; exact absurd this h1
   ·rename_i h1; exact ⟨Jfo (by simpa using h1), fun _ => ih this⟩
theorem fix_listR {α ρ σ : Type} {F : (σ × Int → Option ρ) → σ × Int → Option ρ} (xs : List α) (f : σ → α → σ) (J : σ → Option ρ) (I : Nat → σ → Prop)
  (more : ∀ (next : σ × Int → Option ρ) (k : Nat) (s : σ) (hk : k < xs.length), I k s → F next (s, (k : Int)) = next (f s xs[k], (k : Int) + 1) ∧ I (k + 1) (f s xs[k]))
  (stop : ∀ (next : σ × Int → Option ρ) (s : σ), I xs.length s → F next (s, (xs.length : Int)) = J s) (s : σ) (hs : I 0 s) : Vv F (s, 0) = J (xs.foldl f s) := by
 have key : ∀ n k s, k ≤ xs.length → xs.length - k < n → I k s → Vv F (s, (k : Int)) = J ((xs.drop k).foldl f s) := by
  intro n
  induction n with
  | zero => intro k s _ h; omega
  | succ n ih =>
   intro k s hk h hI
   rcases Nat.lt_or_ge k xs.length with h1 | h1
   ·rw [Xu (f s xs[k], (k : Int) + 1) (fun next => (more next k s h1 hI).1), List.drop_eq_getElem_cons h1, List.foldl_cons]
    exact ih (k + 1) _ (by omega) (by omega) (more (fun _ => none) k s h1 hI).2
   ·have : k = xs.length := by omega
    subst this
    rw [List.drop_length]
    exact Qr fun next => stop next s hI
 have := key (xs.length + 1) 0 s (Nat.zero_le _) (by omega) hs
 simpa using this
theorem Jhy {α : Type} (g : α → List UInt8) : ∀ (xs : List α) (a : List UInt8), xs.foldl (fun s x => s ++ g x) a = a ++ xs.flatMap g
 | [], a => by simp
 | x :: xs, a => by rw [List.foldl_cons, Jhy g xs]; simp
theorem Jgm {α : Type} (g : α → List UInt8) : ∀ (xs : List α) (a : List UInt8), xs.foldl (fun s x => s ++ X2 (g x)) (X2 a) = X2 (a ++ xs.flatMap g)
 | [], a => by simp
 | x :: xs, a => by rw [List.foldl_cons, ← Jbv, Jgm g xs]; simp
noncomputable def ratS (big : Bool) (r : Tg) : List UInt8 := Yj big r.Num 4 ++ Yj big r.Den 4
noncomputable def Vz (big : Bool) (v : Te) : List UInt8 :=
 if v.kai = 2 then v.kaj ++ [0] else if v.kai = 7 then v.kaj else if v.kai = 5 then v.kah.flatMap (ratS big) else v.kak.flatMap fun n => Yj big n (J3 v.kai)
def Jbn (v : Te) : Nat := if v.kai = 2 then v.kaj.length + 1 else if v.kai = 7 then v.kaj.length else if v.kai = 5 then v.kah.length else if v.kai = 13 then 1 else v.kak.length
theorem Jbr {α : Type} {g : α → List UInt8} {w : Nat} (h : ∀ x, (g x).length = w) : ∀ xs : List α, (xs.flatMap g).length = xs.length * w
 | [] => by simp
 | x :: xs => by rw [List.flatMap_cons, List.length_append, h, Jbr h xs, List.length_cons, Nat.add_mul]; omega
theorem Jg3 (big : Bool) (r : Tg) : (ratS big r).length = 8 := by
 unfold ratS; rw [List.length_append, Ye _ _ (by omega), Ye _ _ (by omega)]
theorem Jhd (big : Bool) {v : Te} (hv : okV v) (h13 : v.kai ≠ 13) : (Vz big v).length = Jbn v * J3 v.kai := by
 unfold Vz Jbn
 by_cases h2 : v.kai = 2
 ·rw [if_pos h2, if_pos h2, List.length_append, h2]; simp [J3]
 rw [if_neg h2, if_neg h2]
 by_cases h7 : v.kai = 7
 ·rw [if_pos h7, if_pos h7, h7]; simp [J3]
 rw [if_neg h7, if_neg h7]
 by_cases h5 : v.kai = 5
 ·rw [if_pos h5, if_pos h5, h5, Jbr (Jg3 big)]; rfl
 rw [if_neg h5, if_neg h5, if_neg h13, Jbr (w := J3 v.kai) (fun n => Ye _ _ (Jax _))]
theorem Jir (big : Bool) (v : Te) : (Vz big v).length ≤ 1 + v.kaj.length + 8 * v.kak.length + 8 * v.kah.length := by
 unfold Vz
 split
 ·rw [List.length_append, List.length_singleton]; omega
 split
 ·omega
 split
 ·rw [Jbr (Jg3 big)]; omega
 ·rw [Jbr (w := J3 v.kai) (fun n => Ye _ _ (Jax _))]
  have := Nat.mul_le_mul_left v.kak.length (Jax v.kai)
  omega
theorem count_eq {v : Te} (hb : vB v) : Qu v = some (Jbn v : Int) := by
 unfold Qu Jbn
 have := hb.1
 rw [cI, cI, cI, cI]
 by_cases h2 : v.kai = 2
 ·rw [if_pos h2, if_pos h2, Ju (by omega), Jb]; rfl
 by_cases h7 : v.kai = 7
 ·rw [if_neg h2, if_pos h7, if_neg h2, if_pos h7]
 by_cases h5 : v.kai = 5
 ·rw [if_neg h2, if_neg h7, if_pos h5, if_neg h2, if_neg h7, if_pos h5]
 by_cases h13 : v.kai = 13
 ·rw [if_neg h2, if_neg h7, if_neg h5, if_pos h13, if_neg h2, if_neg h7, if_neg h5, if_pos h13]; rfl
 rw [if_neg h2, if_neg h7, if_neg h5, if_neg h13, if_neg h2, if_neg h7, if_neg h5, if_neg h13]
theorem ok_parts {v : Te} (hv : okV v) : (¬ Jb7 v.kai → v.kak = []) ∧ (¬ Jcy v.kai → v.kaj = []) ∧ (v.kai ≠ 5 → v.kah = []) := by
 obtain ⟨_, hf⟩ := hv
 unfold Jhf at hf
 refine ⟨fun h => ?_, fun h => ?_, fun h => ?_⟩
 ·exact Classical.byContradiction fun e => hf (.inl ⟨h, e⟩)
 ·exact Classical.byContradiction fun e => hf (.inr (.inl ⟨h, e⟩))
 ·exact Classical.byContradiction fun e => hf (.inr (.inr (.inl ⟨h, e⟩)))
theorem tag_ratios {big : Bool} {v : Te} (hb : vB v) (a : List UInt8) (ha : a.length ≤ 16000000) : Jbb big v (X2 a) = some (X2 (a ++ v.kah.flatMap (ratS big))) := by
 unfold Jbb
 have hr := hb.2.2
 rw [← Jgm]
 refine Je5 (F := fun next2 s => We big v next2 s.1 s.2) v.kah (fun s r => s ++ X2 (ratS big r)) some (fun k s => s.length ≤ a.length + 8 * k) (fun next k s hk hs => ?_) (fun next s hs => ?_) _ (by rw [Yn]; omega)
 ·refine ⟨?_, by show (s ++ _).length ≤ _; rw [List.length_append, Yn, Jg3]; omega⟩
  show We big v next (k : Int) s = _
  unfold We
  have l1 : (X2 (Yj big v.kah[k].Num 4)).length = 4 := by rw [Yn, Ye _ _ (by omega)]
  have l2 : (X2 (Yj big v.kah[k].Den 4)).length = 4 := by rw [Yn, Ye _ _ (by omega)]
  rw [cI, if_pos (by omega), Xa hk, Jb, tag4, Jb, Yw (by omega), Jb, tag4, Jb, Yw (by rw [List.length_append]; omega), Jb, Ju (by omega), Jb]
  unfold ratS
  rw [Jbv, List.append_assoc]
 ·show We big v next (v.kah.length : Int) s = _
  unfold We
  rw [cI, if_neg (by omega)]
theorem octets_eq {big : Bool} {v : Te} (hb : vB v) (hv : okV v) (h13 : v.kai ≠ 13) : Jei big v = some (X2 (Vz big v)) := by
 have hb' := hb
 obtain ⟨b1, b2, b3⟩ := hb'
 obtain ⟨p1, p2, p3⟩ := ok_parts hv
 unfold Jei Vz
 rw [cI, cI]
 by_cases h2 : v.kai = 2
 ·rw [if_pos h2, if_pos h2, gByt_ok (by omega), Jb]; first | (rw [gApL_ok (by rw [Yn, List.length_singleton]; omega), Jb, Jbv]; rfl) | (rw [Yw (by rw [Yn, List.length_singleton]; omega), Jb, Jbv]; rfl)
 by_cases h7 : v.kai = 7
 ·rw [if_neg h2, if_pos h7, if_neg h2, if_pos h7, gByt_ok (by omega), Jb]
 rw [if_neg h2, if_neg h7, if_neg h2, if_neg h7]
 have hloop := Je5 (F := fun next3 s => Wh big v next3 s.1 s.2) v.kak (fun s n => s ++ X2 (Yj big n (J3 v.kai))) (Jbb big v) (fun k s => s.length ≤ 8 * k) (fun next k s hk hs => by
   have hw := Jax v.kai
   have l1 : (X2 (Yj big v.kak[k] (J3 v.kai))).length = J3 v.kai := by rw [Yn, Ye _ _ hw]
   refine ⟨?_, by show (s ++ _).length ≤ _; rw [List.length_append, l1]; omega⟩
   show Wh big v next (k : Int) s = _
   unfold Wh
   rw [cI, if_pos (by omega), Xa hk, Jb, Jcc, Jb, if_neg h13, num_tag _ _ hw, Jb, Yw (by omega), Jb, Ju (by omega), Jb]) (fun next s hs => by
   show Wh big v next (v.kak.length : Int) s = _
   unfold Wh
   rw [cI, if_neg (by omega)]) [] (by simp)
 rw [hloop, show ([] : List Int) = X2 [] from rfl, Jgm, List.nil_append]
 have hlen : (v.kak.flatMap fun n => Yj big n (J3 v.kai)).length ≤ 16000000 := by
  rw [Jbr (w := J3 v.kai) (fun n => Ye _ _ (Jax _))]
  have := Nat.mul_le_mul_left v.kak.length (Jax v.kai)
  omega
 rw [tag_ratios hb _ hlen]
 by_cases h5 : v.kai = 5
 ·rw [if_pos h5, p1 (by rw [h5]; unfold Jb7; omega)]; rfl
 ·rw [if_neg h5, p3 h5, List.flatMap_nil, List.append_nil]
theorem Jfj {big : Bool} {v : Te} (hb : vB v) (hv : okV v) (h13 : v.kai ≠ 13) : Zp big v = some (Vz big v) := by
 have hb' := hb
 obtain ⟨b1, b2, b3⟩ := hb'
 obtain ⟨p1, p2, p3⟩ := ok_parts hv
 have j2 : ∀ a : List UInt8, a.length ≤ 32000000 → Jck big v a = some (a ++ v.kah.flatMap (ratS big)) := fun a ha => by
  unfold Jck
  rw [← Jhy]
  refine fix_listR (F := fun next3 s => Ux big v next3 s.1 s.2) v.kah (fun s r => s ++ ratS big r) some (fun k s => s.length ≤ a.length + 8 * k) (fun next k s hk hs => ?_) (fun next s hs => ?_) _ (by omega)
  ·refine ⟨?_, by show (s ++ _).length ≤ _; rw [List.length_append, Jg3]; omega⟩
   show Ux big v next s (k : Int) = _
   unfold Ux
   have l1 : (Yj big v.kah[k].Num 4).length = 4 := Ye _ _ (by omega)
   have l2 : (Yj big v.kah[k].Den 4).length = 4 := Ye _ _ (by omega)
   rw [cI, if_pos (by omega), Xa hk, Jb, R4, Jb, R4, Jb, Z6 (by omega), Jb, Z6 (by rw [List.length_append]; omega), Jb, Ju (by omega), Jb]
   rfl
  ·show Ux big v next s (v.kah.length : Int) = _
   unfold Ux
   rw [cI, if_neg (by omega)]
 have j1 : ∀ a : List UInt8, a.length ≤ 4000000 → Jcm big v a = some (a ++ (v.kak.flatMap fun n => Yj big n (J3 v.kai)) ++ v.kah.flatMap (ratS big)) := fun a ha => by
  unfold Jcm
  have hloop := fix_listR (F := fun next4 s => Uu big v next4 s.1 s.2) v.kak (fun s n => s ++ Yj big n (J3 v.kai)) (Jck big v) (fun k s => s.length ≤ a.length + 8 * k) (fun next k s hk hs => by
   have hw := Jax v.kai
   have l1 : (Yj big v.kak[k] (J3 v.kai)).length = J3 v.kai := Ye _ _ hw
   refine ⟨?_, by show (s ++ _).length ≤ _; rw [List.length_append, l1]; omega⟩
   show Uu big v next s (k : Int) = _
   unfold Uu
   rw [cI, if_pos (by omega), Xa hk, Jb, Jee, Jb, if_neg h13, num_R _ _ hw, Jb, Z6 (by omega), Jb, Ju (by omega), Jb]) (fun next s hs => by
   show Uu big v next s (v.kak.length : Int) = _
   unfold Uu
   rw [cI, if_neg (by omega)]) a (by omega)
  rw [hloop, Jhy, j2]
  rw [List.length_append, Jbr (w := J3 v.kai) (fun n => Ye _ _ (Jax _))]
  have := Nat.mul_le_mul_left v.kak.length (Jax v.kai)
  omega
 unfold Zp Vz
 rw [cI]
 by_cases h2 : v.kai = 2
 ·rw [if_pos h2, if_pos h2, Z6 (by rw [List.length_singleton]; omega), Jb, j1 _ (by rw [List.length_append, List.length_singleton]; omega), p1 (by rw [h2]; unfold Jb7; omega), p3 (by omega)]
  simp
 rw [if_neg h2, if_neg h2, j1 _ (by omega)]
 by_cases h7 : v.kai = 7
 ·rw [if_pos h7, p1 (by rw [h7]; unfold Jb7; omega), p3 (by omega)]
  simp
 rw [if_neg h7, p2 (by unfold Jcy; omega), List.nil_append]
 by_cases h5 : v.kai = 5
 ·rw [if_pos h5, p1 (by rw [h5]; unfold Jb7; omega)]; rfl
 ·rw [if_neg h5, p3 h5, List.flatMap_nil, List.append_nil]
theorem Jiw {v : Te} (hb : vB v) (hv : okV v) : Qx v = some (Jbn v : Int) := by
 unfold Qx
 rw [cI]
 by_cases h13 : v.kai = 13
 ·rw [if_pos h13]; unfold Jbn; rw [h13]; rfl
 ·rw [if_neg h13, Jfj hb hv h13, Jb, Jee, Jb, if_neg h13, Jhd false hv h13]
  have hw : J3 v.kai ≠ 0 := fun e => (Jdy _ h13).1 (by rw [e]; rfl) hv.1
  have hle := Jir false v
  rw [Jhd false hv h13] at hle
  have hb1 := hb.1; have hb2 := hb.2.1; have hb3 := hb.2.2
  have e : (((Jbn v * J3 v.kai : Nat) : Int)).tdiv (J3 v.kai : Int) = (Jbn v : Int) := by
   rw [Int.natCast_mul, Int.mul_tdiv_cancel _ (by omega)]
  have hc : Jbn v ≤ Jbn v * J3 v.kai := Nat.le_mul_of_pos_right _ (by omega)
  unfold gQuo
  rw [if_neg (by omega), e, Ju (by omega), Jb]
end Go.M

namespace Go.M
open Go.Md Go.Pl
def Uz (n : Nat) : List UInt8 := List.replicate n 0
def ev (p : Nat) : Nat := p + p % 2
def pad (p : Nat) : List UInt8 := Uz (p % 2)
def put (s : List UInt8) (at_ : Nat) (b : List UInt8) : List UInt8 := s.take at_ ++ b ++ s.drop (at_ + b.length)
theorem Zi (n : Nat) : (Uz n).length = n := List.length_replicate
theorem Jf0 (p : Nat) : (pad p).length = p % 2 := Zi _
theorem Jef (a b : Nat) : Uz (a + b) = Uz a ++ Uz b := List.replicate_append_replicate.symm
theorem Jf1 {s : List UInt8} {a : Nat} {b : List UInt8} (h : a + b.length ≤ s.length) : (put s a b).length = s.length := by
 unfold put
 simp only [List.length_append, List.length_take, List.length_drop]; omega
theorem Jfa (A B C b : List UInt8) (h : b.length = B.length) {a : Nat} (ha : a = A.length) : put (A ++ B ++ C) a b = A ++ b ++ C := by
 subst ha
 unfold put
 rw [h, List.append_assoc A B C, List.take_left' rfl, ← List.append_assoc A B C, List.drop_left' (by rw [List.length_append])]
theorem ofStr_take (s : List UInt8) (n : Nat) : (X2 s).take n = X2 (s.take n) := List.map_take.symm
theorem ofStr_drop (s : List UInt8) (n : Nat) : (X2 s).drop n = X2 (s.drop n) := List.map_drop.symm
theorem cpy_put {s b : List UInt8} {a : Int} {m : Nat} {p : Nat} (ha : a = (p : Int)) (hm : b.length ≤ m) : Vn (X2 s) a m (X2 b) = X2 (put s p b) := by
 subst ha
 unfold Vn put
 have h1 : (X2 b).take m = X2 b := List.take_of_length_le (by rw [Yn]; exact hm)
 rw [Int.toNat_natCast, Yn, Nat.min_eq_right hm, h1, ofStr_take, ofStr_drop, Jbv, Jbv, List.append_assoc]
theorem set_eq4 {big : Bool} {s : List UInt8} {a n : Int} {p : Nat} (ha : a = (p : Int)) (h : p + 4 ≤ s.length) : J0 ⟨big, X2 s⟩ a n = some ⟨big, X2 (put s p (Yj big n 4))⟩ := by
 unfold J0
 dsimp only
 rw [Ja0 (by rw [Yn]; omega), Jb, tag4, Jb]
 rw [cpy_put ha (by rw [Ye _ _ (by omega), List.length_drop, Yn]; omega)]
theorem Jcr {big : Bool} {s : List UInt8} {a n : Int} {p k : Nat} {k' : Int} (ha : a = (p : Int)) (hk' : k' = (k : Int)) (hk : k ≤ 8) (h : p + k ≤ s.length) (hs : s.length ≤ 4611686018427387904) : Jk ⟨s, big⟩ a n k' = some ⟨put s p (Yj big n k), big⟩ := by
 subst ha hk'
 unfold Jk
 dsimp only
 have hl := Ye big n hk
 rw [Jb6 (by omega), Jb, num_R _ _ hk, Jb, Z6 (by rw [List.length_take]; omega), Jb, Ju (by omega), Jb, Ja0 (by omega), Jb, Z6 (by rw [List.length_append, List.length_take, List.length_drop]; omega), Jb]
 unfold put
 rw [hl, Int.toNat_natCast, show ((p : Int) + (k : Int)).toNat = p + k from by omega]
theorem R_add_eq {big : Bool} {s a : List UInt8} (hs : s.length + a.length ≤ 4611686018427387904) : Qo ⟨s, big⟩ a = some (((ev s.length : Nat) : Int), ⟨s ++ pad s.length ++ a, big⟩) := by
 unfold Qo Wn ev pad
 dsimp only
 rw [gRem_ok (by omega), Jb, cI]
 have e : ((s.length : Int)).tmod 2 = ((s.length % 2 : Nat) : Int) := by rw [Int.tmod_eq_emod_of_nonneg (by omega)]; omega
 by_cases h : s.length % 2 = 0
 ·rw [e, if_neg (by omega), h, Z6 (by omega), Jb]
  simp [Uz]
 ·have h1 : s.length % 2 = 1 := by omega
  rw [e, if_pos (by omega), Z6 (by rw [List.length_singleton]; omega), Jb, h1, Z6 (by rw [List.length_append, List.length_singleton]; omega), Jb]
  simp [Uz]
noncomputable def Jbw (big : Bool) (e : Ta) : List UInt8 := Yj big e.Tag 2 ++ Yj big e.Value.kai 2 ++ Yj big (Jbn e.Value) 4
theorem Jfs (big : Bool) (e : Ta) : (Jbw big e).length = 8 := by
 unfold Jbw; rw [List.length_append, List.length_append, Ye _ _ (by omega), Ye _ _ (by omega), Ye _ _ (by omega)]
noncomputable def entF (G : List Ta → Nat → List UInt8) (big : Bool) (e : Ta) (q : Nat) : List UInt8 × List UInt8 :=
 if e.Value.kai = 13 then (Yj big (ev q) 4, G e.Value.kag q)
 else if (Vz big e.Value).length ≤ 4 then (Vz big e.Value ++ Uz (4 - (Vz big e.Value).length), [])
 else (Yj big (ev q) 4, pad q ++ Vz big e.Value)
theorem entF_len (G : List Ta → Nat → List UInt8) (big : Bool) (e : Ta) (q : Nat) : (entF G big e q).1.length = 4 := by
 unfold entF
 split
 ·exact Ye _ _ (by omega)
 split
 ·rw [List.length_append, Zi]; omega
 ·exact Ye _ _ (by omega)
noncomputable def bods (G : List Ta → Nat → List UInt8) (big : Bool) : List Ta → Nat → List UInt8 × List UInt8
 | [], _ => ([], [])
 | e :: l, q => (Jbw big e ++ (entF G big e q).1 ++ (bods G big l (q + (entF G big e q).2.length)).1, (entF G big e q).2 ++ (bods G big l (q + (entF G big e q).2.length)).2)
theorem bods_len (G : List Ta → Nat → List UInt8) (big : Bool) : ∀ (l : List Ta) (q : Nat), (bods G big l q).1.length = 12 * l.length
 | [], _ => rfl
 | e :: l, q => by
  unfold bods
  rw [List.length_append, List.length_append, Jfs, entF_len, bods_len G big l, List.length_cons]; omega
noncomputable def dirB (G : List Ta → Nat → List UInt8) (big : Bool) (l : List Ta) (p : Nat) : List UInt8 :=
 pad p ++ Yj big l.length 2 ++ (bods G big l (ev p + 2 + 12 * l.length + 4)).1 ++ Uz 4 ++ (bods G big l (ev p + 2 + 12 * l.length + 4)).2
noncomputable def U1 : Nat → Bool → List Ta → Nat → List UInt8
 | 0, _ => fun _ _ => []
 | d + 1, big => dirB (U1 d big) big
theorem Jho (G : List Ta → Nat → List UInt8) (big : Bool) (l : List Ta) (p : Nat) : p + (dirB G big l p).length = ev p + 2 + 12 * l.length + 4 + (bods G big l (ev p + 2 + 12 * l.length + 4)).2.length := by
 unfold dirB ev
 simp only [List.length_append, Jf0, Ye _ _ (show 2 ≤ 8 by omega), bods_len, Zi]; omega
theorem dirS_le (big : Bool) : ∀ (d : Nat) (l : List Ta) (p : Nat), (U1 d big l p).length ≤ 8 + 32 * szD d l := by
 intro d
 induction d with
 | zero => intro l p; exact Nat.zero_le _
 | succ d ih =>
  intro l p
  have hb : ∀ (l : List Ta) (q : Nat), (bods (U1 d big) big l q).2.length + 12 * l.length ≤ 32 * szD (d + 1) l := by
   intro l
   induction l with
   | nil => intro q; exact Nat.zero_le _
   | cons e l ih2 =>
    intro q
    unfold bods
    rw [List.length_append, List.length_cons, Je8]
    have h1 := ih2 (q + (entF (U1 d big) big e q).2.length)
    have h2 : (entF (U1 d big) big e q).2.length + 12 ≤ 32 * szE d e := by
     unfold entF szE
     split
     ·have := ih e.Value.kag q; simp only; omega
     split
     ·simp only [List.length_nil]; omega
     ·have := Jir big e.Value
      simp only [List.length_append, Jf0]; omega
    omega
  have h1 := Jho (U1 d big) big l p
  have h2 := hb l (ev p + 2 + 12 * l.length + 4)
  show (dirB (U1 d big) big l p).length ≤ _
  have h3 : ev p ≤ p + 1 := by unfold ev; omega
  omega
end Go.M

namespace Go.M
open Go.Md Go.Pl
theorem zer_mul (n : Nat) : Uz (12 * (n + 1)) = Uz 2 ++ Uz 2 ++ Uz 4 ++ Uz 4 ++ Uz (12 * n) := by
 rw [← Jef, ← Jef, ← Jef, ← Jef]; congr 1; omega
theorem spec_loop {big : Bool} {l : List Ta} (hl : l.length ≤ 200) (hv : ∀ e ∈ l, okV e.Value ∧ vB e.Value) {G : List Ta → Nat → List UInt8} {self : Ti × List Ta → Option (Int × Ti)}
  (hself : ∀ e ∈ l, e.Value.kai = 13 → ∀ s : List UInt8, s.length + (G e.Value.kag s.length).length ≤ 1099511627776 → self (⟨s, big⟩, e.Value.kag) = some (((ev s.length : Nat) : Int), ⟨s ++ G e.Value.kag s.length, big⟩))
  {t17 : Int × Ti} {at_ : Nat} (ht : t17.1 = (at_ : Int)) :
  ∀ (l2 : List Ta) (i : Nat) (X Y : List UInt8), i + l2.length = l.length → l.drop i = l2 → X.length = at_ + 2 + 12 * i → X.length + 12 * l2.length + 4 + Y.length + (bods G big l2 (X.length + 12 * l2.length + 4 + Y.length)).2.length ≤ 1099511627776 →
   Vv (fun next1 a => Zt l self t17 next1 a.1 a.2.1 a.2.2) ((i : Int), X ++ Uz (12 * l2.length) ++ Uz 4 ++ Y, big) = some (t17.1, ⟨X ++ (bods G big l2 (X.length + 12 * l2.length + 4 + Y.length)).1 ++ Uz 4 ++ Y ++ (bods G big l2 (X.length + 12 * l2.length + 4 + Y.length)).2, big⟩) := by
 intro l2
 induction l2 with
 | nil =>
  intro i X Y hi _ hX hM
  refine Qr fun next => ?_
  show Zt l self t17 next (i : Int) _ big = _
  unfold Zt
  rw [cI, if_neg (by rw [List.length_nil] at hi; omega)]
  unfold bods
  simp [Uz]
 | cons e l2 ih =>
  intro i X Y hi hd hX hM
  have hlt : i < l.length := by rw [List.length_cons] at hi; omega
  have he : l[i] = e := by have := List.drop_eq_getElem_cons hlt; rw [hd] at this; injection this with h1 h2; exact h1.symm
  have hd' : l.drop (i + 1) = l2 := by have := List.drop_eq_getElem_cons hlt; rw [hd] at this; injection this with h1 h2; exact h2.symm
  have hmem : e ∈ l := he ▸ List.getElem_mem hlt
  obtain ⟨hok, hvb⟩ := hv e hmem
  generalize hp : X.length + 12 * (e :: l2).length + 4 + Y.length = p at hM ⊢
  rw [List.length_cons] at hp hi ⊢
  unfold bods at hM ⊢
  simp only at hM ⊢
  generalize hF : entF G big e p = F at hM ⊢
  obtain ⟨f, b⟩ := F
  have hf4 : f.length = 4 := by have := entF_len G big e p; rw [hF] at this; exact this
  simp only at hM ⊢
  rw [List.length_append] at hM
  have n2 : ∀ n, (Yj big n 2).length = 2 := fun n => Ye _ _ (by omega)
  have n4 : ∀ n, (Yj big n 4).length = 4 := fun n => Ye _ _ (by omega)
  generalize hR : Uz (12 * l2.length) ++ Uz 4 ++ Y = R
  have hRl : R.length = 12 * l2.length + 4 + Y.length := by rw [← hR]; simp only [List.length_append, Zi]
  have s0 : X ++ Uz (12 * (l2.length + 1)) ++ Uz 4 ++ Y = X ++ Uz 2 ++ (Uz 2 ++ Uz 4 ++ Uz 4 ++ R) := by
   rw [zer_mul, ← hR]; simp only [List.append_assoc]
  have e1 : put (X ++ Uz 2 ++ (Uz 2 ++ Uz 4 ++ Uz 4 ++ R)) X.length (Yj big e.Tag 2) = (X ++ Yj big e.Tag 2) ++ Uz 2 ++ (Uz 4 ++ Uz 4 ++ R) := by
   rw [Jfa _ _ _ _ (by rw [n2, Zi]) rfl]; simp only [List.append_assoc]
  have e2 : put ((X ++ Yj big e.Tag 2) ++ Uz 2 ++ (Uz 4 ++ Uz 4 ++ R)) (X.length + 2) (Yj big e.Value.kai 2) = (X ++ Yj big e.Tag 2 ++ Yj big e.Value.kai 2) ++ Uz 4 ++ (Uz 4 ++ R) := by
   rw [Jfa _ _ _ _ (by rw [n2, Zi]) (by rw [List.length_append, n2])]; simp only [List.append_assoc]
  have e3 : put ((X ++ Yj big e.Tag 2 ++ Yj big e.Value.kai 2) ++ Uz 4 ++ (Uz 4 ++ R)) (X.length + 4) (Yj big (Jbn e.Value) 4) = (X ++ Jbw big e) ++ Uz 4 ++ R := by
   rw [Jfa _ _ _ _ (by rw [n4, Zi]) (by rw [List.length_append, List.length_append, n2, n2])]
   unfold Jbw; simp only [List.append_assoc]
  have hS : ((X ++ Jbw big e) ++ Uz 4 ++ R).length = p := by
   simp only [List.length_append, Jfs, Zi, hRl]; omega
  have hpos : (at_ : Int) + 2 + 12 * (i : Int) + 8 = ((X ++ Jbw big e).length : Int) := by
   rw [List.length_append, Jfs]; omega
  have hround : ∀ next : Int × List UInt8 × Bool → Option (Int × Ti), Zt l self t17 next (i : Int) (X ++ Uz (12 * (l2.length + 1)) ++ Uz 4 ++ Y) big = next (((i + 1 : Nat) : Int), (X ++ Jbw big e ++ f) ++ Uz (12 * l2.length) ++ Uz 4 ++ (Y ++ b), big) := fun next => by
   unfold Zt
   have e5 : ∀ m a, Wk (i : Int) next m a = next (((i + 1 : Nat) : Int), m, a) := fun m a => by
    unfold Wk; rw [Ju (by omega), Jb]; rfl
   rw [cI, if_pos (by omega), Xa hlt, Jb, he, ht, Ju (by omega), Jb, Ju (by omega), Jb, Ju (by omega), Jb, s0]
   rw [Jcr (p := X.length) (k := 2) (k' := 2) (by omega) rfl (by omega) (by simp only [List.length_append, Zi]; omega) (by simp only [List.length_append, Zi, hRl]; omega), Jb, e1, Ju (by omega), Jb]
   rw [Jcr (p := X.length + 2) (k := 2) (k' := 2) (by omega) rfl (by omega) (by simp only [List.length_append, Zi, n2]; omega) (by simp only [List.length_append, Zi, hRl, n2]; omega), Jb, e2, Ju (by omega), Jb, Jiw hvb hok, Jb]
   rw [Jcr (p := X.length + 4) (k := 4) (k' := 4) (by omega) rfl (by omega) (by simp only [List.length_append, Zi, n2]; omega) (by simp only [List.length_append, Zi, hRl, n2]; omega), Jb, e3, cI]
   unfold entF at hF
   by_cases h13 : e.Value.kai = 13
   ·rw [if_pos h13] at hF ⊢
    obtain ⟨hF1, hF2⟩ := Prod.mk.inj hF
    rw [Ju (by omega), Jb, hself e hmem h13 ((X ++ Jbw big e) ++ Uz 4 ++ R) (by rw [hS, hF2]; omega), Jb]
    show Js (Jk ⟨(X ++ Jbw big e) ++ Uz 4 ++ R ++ G e.Value.kag ((X ++ Jbw big e) ++ Uz 4 ++ R).length, big⟩ _ _ 4) _ = _
    rw [hS, hF2, Jcr (p := (X ++ Jbw big e).length) (k := 4) (k' := 4) (by omega) rfl (by omega) (by simp only [List.length_append, Zi]; omega) (by rw [List.length_append, hS]; omega), Jb, e5, hF1]
    have : (X ++ Jbw big e) ++ Uz 4 ++ R ++ b = (X ++ Jbw big e) ++ Uz 4 ++ (R ++ b) := by simp only [List.append_assoc]
    rw [this, Jfa _ _ _ _ (by rw [hf4, Zi]) rfl, ← hR]
    simp only [List.append_assoc]
   ·rw [if_neg h13] at hF ⊢
    dsimp only
    rw [Jfj hvb hok h13, Jb, cI]
    by_cases ho : (Vz big e.Value).length ≤ 4
    ·rw [if_pos ho] at hF
     obtain ⟨hF1, hF2⟩ := Prod.mk.inj hF
     have hpn : ((at_ : Int) + 2 + 12 * (i : Int) + 8).toNat = (X ++ Jbw big e).length := by omega
     have hp2 : ((at_ : Int) + 2 + 12 * (i : Int) + 8 + ((Vz big e.Value).length : Int)).toNat = (X ++ Jbw big e).length + (Vz big e.Value).length := by omega
     have hXl : (X ++ Jbw big e).length = X.length + 8 := by rw [List.length_append, Jfs]
     rw [if_neg (by omega), Ju (by omega), Jb, Jb6 (by rw [hS]; omega), Jb, hpn]
     rw [Z6 (by rw [List.length_take]; omega), Jb, Jb, Ju (by omega), Jb, Ja0 (by rw [hS]; omega), Jb, hp2]
     rw [Z6 (by simp only [List.length_append, List.length_take, List.length_drop, hS]; omega), Jb, e5]
     have hput : List.take (X ++ Jbw big e).length ((X ++ Jbw big e) ++ Uz 4 ++ R) ++ Vz big e.Value ++ List.drop ((X ++ Jbw big e).length + (Vz big e.Value).length) ((X ++ Jbw big e) ++ Uz 4 ++ R) = put ((X ++ Jbw big e) ++ Uz 4 ++ R) (X ++ Jbw big e).length (Vz big e.Value) := rfl
     have hz : Uz 4 = Uz (Vz big e.Value).length ++ Uz (4 - (Vz big e.Value).length) := by rw [← Jef]; congr 1; omega
     have h1 : (X ++ Jbw big e) ++ Uz 4 ++ R = (X ++ Jbw big e) ++ Uz (Vz big e.Value).length ++ (Uz (4 - (Vz big e.Value).length) ++ R) := by
      rw [hz]
      simp only [List.append_assoc]
     rw [hput, h1, Jfa _ _ _ _ (by rw [Zi]) rfl, ← hF1, ← hF2, ← hR]
     simp only [List.append_assoc, List.append_nil]
    ·rw [if_neg ho] at hF
     obtain ⟨hF1, hF2⟩ := Prod.mk.inj hF
     have hbl : b.length = p % 2 + (Vz big e.Value).length := by rw [← hF2, List.length_append, Jf0]
     rw [if_pos (by omega), Ju (by omega), Jb, R_add_eq (by rw [hS]; omega), Jb]
     dsimp only
     rw [hS, Jcr (p := (X ++ Jbw big e).length) (k := 4) (k' := 4) (by omega) rfl (by omega) (by simp only [List.length_append, Zi]; omega) (by simp only [List.length_append, Jf0]; rw [← List.length_append, ← List.length_append, ← List.length_append, hS]; omega), Jb, e5]
     have : (X ++ Jbw big e) ++ Uz 4 ++ R ++ pad p ++ Vz big e.Value = (X ++ Jbw big e) ++ Uz 4 ++ (R ++ pad p ++ Vz big e.Value) := by simp only [List.append_assoc]
     rw [this, Jfa _ _ _ _ (by rw [n4, Zi]) rfl, ← hF1, ← hF2, ← hR]
     simp only [List.append_assoc]
  rw [Xu _ hround]
  have hq : (X ++ Jbw big e ++ f).length + 12 * l2.length + 4 + (Y ++ b).length = p + b.length := by
   simp only [List.length_append, Jfs, hf4]; omega
  have := ih (i + 1) (X ++ Jbw big e ++ f) (Y ++ b) (by omega) hd' (by simp only [List.length_append, Jfs, hf4]; omega) (by rw [hq]; omega)
  rw [this, hq]
  simp only [List.append_assoc]
end Go.M

namespace Go.M
open Go.Md Go.Pl
noncomputable section
theorem rep_zero (n : Nat) : (List.replicate n ([0] : List UInt8)).flatten = Uz n := by
 unfold Uz
 induction n with
 | zero => rfl
 | succ n ih => rw [List.replicate_succ, List.flatten_cons, ih, List.replicate_succ]; rfl
theorem R_dir_eq (d : Nat) (big : Bool) (s : List UInt8) (l : List Ta) (hok : okD d l) (hz : szD d l ≤ 2000000) (hM : s.length + (U1 d big l s.length).length ≤ 1099511627776) :
  Jcg ⟨s, big⟩ l = some (((ev s.length : Nat) : Int), ⟨s ++ U1 d big l s.length, big⟩) := by
 unfold Jcg
 have := Jio (F := fun (self : (Ti × List Ta) → Option (Int × Ti)) (s : Ti × List Ta) => Y1 self s.1 s.2)
  (fun (g : Nat × Bool × List UInt8) (a : Ti × List Ta) => some (((ev g.2.2.length : Nat) : Int), ⟨g.2.2 ++ U1 g.1 g.2.1 a.2 g.2.2.length, g.2.1⟩))
  (fun g a => a.1 = ⟨g.2.2, g.2.1⟩ ∧ okD g.1 a.2 ∧ szD g.1 a.2 ≤ 2000000 ∧ g.2.2.length + (U1 g.1 g.2.1 a.2 g.2.2.length).length ≤ 1099511627776) (fun g => g.1) ?_ (d, big, s) (⟨s, big⟩, l) ⟨rfl, hok, hz, hM⟩
 ·exact this
 rintro next ⟨d, big, s⟩ ⟨w, l⟩ ⟨hw, hok, hz, hM⟩ ih
 simp only at hw hok hz hM ih ⊢
 subst hw
 cases d with
 | zero => exact hok.elim
 | succ d =>
  obtain ⟨hl, hall⟩ := hok
  have hM' := Jho (U1 d big) big l s.length
  have hMM : s.length + (dirB (U1 d big) big l s.length).length ≤ 1099511627776 := hM
  have hev : ev s.length = (s ++ pad s.length).length := by rw [List.length_append, Jf0]; rfl
  unfold Y1
  have ht : (2 + 12 * (l.length : Int) + 4).toNat = 2 + 12 * l.length + 4 := by omega
  rw [Ju (by omega), Jb, Ju (by omega), Jb, Ju (by omega), Jb]
  have hrep : gRep [0] (2 + 12 * (l.length : Int) + 4) = some (Uz (2 + 12 * l.length + 4)) := by
   unfold gRep
   rw [if_pos (by rw [List.length_singleton]; omega), ht, rep_zero]
  rw [hrep, Jb, R_add_eq (by rw [Zi]; omega), Jb]
  have hsp : s ++ pad s.length ++ Uz (2 + 12 * l.length + 4) = (s ++ pad s.length) ++ Uz 2 ++ (Uz (12 * l.length) ++ Uz 4) := by
   rw [Jef, Jef]; simp only [List.append_assoc]
  show Js (Jk ⟨s ++ pad s.length ++ Uz (2 + 12 * l.length + 4), big⟩ _ _ 2) _ = _
  rw [Jcr (p := ev s.length) (k := 2) (k' := 2) rfl rfl (by omega) (by rw [List.length_append, ← hev, Zi]; omega) (by rw [List.length_append, ← hev, Zi]; omega), Jb, hsp, Jfa _ _ _ _ (by rw [Ye _ _ (by omega), Zi]) hev]
  have hX : (s ++ pad s.length ++ Yj big l.length 2).length = ev s.length + 2 := by rw [List.length_append, ← hev, Ye _ _ (by omega)]
  have := spec_loop (big := big) hl (fun e he => ⟨(hall e he).1, (vB_of hz he).1⟩) (G := U1 d big) (self := next) (fun e he h13 s' hs' => ih (d, big, s') (⟨s', big⟩, e.Value.kag) ⟨rfl, (hall e he).2 h13, (vB_of hz he).2, hs'⟩ (by simp))
   (t17 := (((ev s.length : Nat) : Int), ⟨s ++ pad s.length ++ Uz (2 + 12 * l.length + 4), big⟩)) (at_ := ev s.length) rfl l 0 (s ++ pad s.length ++ Yj big l.length 2) [] (by omega) rfl (by rw [hX]) (by rw [hX, List.length_nil, Nat.add_zero]; omega)
  rw [List.append_nil] at this
  have hst : s ++ pad s.length ++ Yj big l.length 2 ++ (Uz (12 * l.length) ++ Uz 4) = s ++ pad s.length ++ Yj big l.length 2 ++ Uz (12 * l.length) ++ Uz 4 := by simp only [List.append_assoc]
  rw [hst, ← hsp]
  refine this.trans ?_
  rw [hX, List.length_nil, Nat.add_zero, List.append_nil]
  show some _ = some (_, (⟨s ++ dirB (U1 d big) big l s.length, big⟩ : Ti))
  unfold dirB
  simp only [List.append_assoc]
theorem even_eq (p : Nat) (hp : p ≤ 4611686018427387904) : Jdn (p : Int) = some ((ev p : Nat) : Int) := by
 unfold Jdn ev
 have e : ((p : Int)).tmod 2 = ((p % 2 : Nat) : Int) := by rw [Int.tmod_eq_emod_of_nonneg (by omega)]; omega
 rw [gRem_ok (by omega), Jb, e, Ju (by omega), Jb]; rfl
theorem Jig {v : Te} (hb : vB v) (hok : okV v) (h13 : v.kai ≠ 13) (big : Bool) : Wc v = some ((Vz big v).length : Int) := by
 unfold Wc
 have h1 := Jir big v
 have h2 := Jhd big hok h13
 obtain ⟨b1, b2, b3⟩ := hb
 rw [count_eq ⟨b1, b2, b3⟩, Jb, Jcc, Jb, if_neg h13, ← Int.natCast_mul, ← h2, Ju (by omega), Jb]
theorem dirEnd_eq (big : Bool) (d : Nat) (l : List Ta) (p : Nat) (hok : okD d l) (hz : szD d l ≤ 2000000) (hM : p + (U1 d big l p).length ≤ 1099511627776) :
  Jeg l (p : Int) = some (((p + (U1 d big l p).length : Nat)) : Int) := by
 unfold Jeg
 have := Jio (F := fun (self : (List Ta × Int) → Option Int) (s : List Ta × Int) => Vm self s.1 s.2)
  (fun (g : Nat × Nat) (a : List Ta × Int) => some (((g.2 + (U1 g.1 big a.1 g.2).length : Nat)) : Int))
  (fun g a => a.2 = (g.2 : Int) ∧ okD g.1 a.1 ∧ szD g.1 a.1 ≤ 2000000 ∧ g.2 + (U1 g.1 big a.1 g.2).length ≤ 1099511627776) (fun g => g.1) ?_ (d, p) (l, (p : Int)) ⟨rfl, hok, hz, hM⟩
 ·exact this
 rintro next ⟨d, p⟩ ⟨l, a⟩ ⟨hw, hok, hz, hM⟩ ih
 simp only at hw hok hz hM ih ⊢
 subst hw
 cases d with
 | zero => exact hok.elim
 | succ d =>
  obtain ⟨hl, hall⟩ := hok
  have hM' := Jho (U1 d big) big l p
  have hMM : p + (dirB (U1 d big) big l p).length ≤ 1099511627776 := hM
  unfold Vm
  rw [even_eq p (by omega), Jb, Ju (by omega), Jb, Ju (by omega), Jb, Ju (by omega), Jb, Ju (by omega), Jb]
  have key : ∀ (l2 : List Ta) (i q : Nat), i + l2.length = l.length → l.drop i = l2 → q + (bods (U1 d big) big l2 q).2.length ≤ 1099511627776 → Vv (fun next1 s => Wi l next next1 s.1 s.2) ((q : Int), (i : Int)) = some (((q + (bods (U1 d big) big l2 q).2.length : Nat)) : Int) := by
   intro l2
   induction l2 with
   | nil =>
    intro i q hi _ _
    refine Qr fun nx => ?_
    show Wi l next nx (q : Int) (i : Int) = _
    unfold Wi
    rw [cI, if_neg (by rw [List.length_nil] at hi; omega)]
    rfl
   | cons e l2 ih2 =>
    intro i q hi hd hq
    have hlt : i < l.length := by rw [List.length_cons] at hi; omega
    have he : l[i] = e := by have := List.drop_eq_getElem_cons hlt; rw [hd] at this; injection this with h1 h2; exact h1.symm
    have hd' : l.drop (i + 1) = l2 := by have := List.drop_eq_getElem_cons hlt; rw [hd] at this; injection this with h1 h2; exact h2.symm
    have hmem : e ∈ l := he ▸ List.getElem_mem hlt
    have hvb := (vB_of hz hmem).1
    have hok := (hall e hmem).1
    rw [List.length_cons] at hi
    unfold bods at hq ⊢
    simp only at hq ⊢
    generalize hF : entF (U1 d big) big e q = F at hq ⊢
    obtain ⟨f, b⟩ := F
    simp only at hq ⊢
    rw [List.length_append] at hq ⊢
    have hround : ∀ nx : Int × Int → Option Int, Wi l next nx (q : Int) (i : Int) = nx (((q + b.length : Nat) : Int), ((i + 1 : Nat) : Int)) := fun nx => by
     unfold Wi
     have e2 : ∀ x, Jah (i : Int) nx x = nx (x, ((i + 1 : Nat) : Int)) := fun x => by
      unfold Jah; rw [Ju (by omega), Jb]; rfl
     rw [cI, if_pos (by omega), Xa hlt, Jb, he, cI]
     unfold entF at hF
     by_cases h13 : e.Value.kai = 13
     ·rw [if_pos h13] at hF ⊢
      obtain ⟨_, hF2⟩ := Prod.mk.inj hF
      have := ih (d, q) (e.Value.kag, (q : Int)) ⟨rfl, (hall e hmem).2 h13, (vB_of hz hmem).2, by show q + (U1 d big e.Value.kag q).length ≤ _; rw [hF2]; omega⟩ (by simp)
      rw [this, Jb, e2]
      show nx (((q + (U1 d big e.Value.kag q).length : Nat) : Int), _) = _
      rw [hF2]
     ·rw [if_neg h13] at hF ⊢
      rw [Jig hvb hok h13 big, Jb, cI, e2]
      by_cases ho : (Vz big e.Value).length ≤ 4
      ·rw [if_pos ho] at hF
       obtain ⟨_, hF2⟩ := Prod.mk.inj hF
       rw [if_neg (by omega), ← hF2]; rfl
      ·rw [if_neg ho] at hF
       obtain ⟨_, hF2⟩ := Prod.mk.inj hF
       have hbl : b.length = q % 2 + (Vz big e.Value).length := by rw [← hF2, List.length_append, Jf0]
       rw [if_pos (by omega), even_eq q (by omega), Jb, Jb, Ju (by unfold ev; omega), Jb, e2, hbl]
       congr 2
       unfold ev; omega
    rw [Xu _ hround, ih2 (i + 1) (q + b.length) (by omega) hd' (by omega)]
    congr 2
    omega
  have := key l 0 (ev p + 2 + 12 * l.length + 4) (by omega) rfl (by omega)
  have e0 : ((ev p : Nat) : Int) + 2 + 12 * (l.length : Int) + 4 = ((ev p + 2 + 12 * l.length + 4 : Nat) : Int) := by omega
  rw [e0]
  refine this.trans ?_
  rw [← hM']
  rfl
def filS (big : Bool) : List (List Ta) → List UInt8 → Nat → List UInt8
 | [], s, _ => s
 | l :: ls, s, link => filS big ls (put (s ++ U1 5 big l s.length) link (Yj big ((ev s.length : Nat) : Int) 4)) (ev s.length + 2 + 12 * l.length)
def lenF (big : Bool) : List (List Ta) → Nat → Nat
 | [], p => p
 | l :: ls, p => lenF big ls (p + (U1 5 big l p).length)
def szL : List (List Ta) → Nat
 | [] => 0
 | l :: ls => 8 + 32 * szD 5 l + szL ls
def dirsOk (ls : List (List Ta)) : Prop := ∀ l ∈ ls, okD 5 l ∧ szD 5 l ≤ 2000000
theorem dir5_len {big : Bool} {l : List Ta} {p : Nat} : ev p + 2 + 12 * l.length + 4 ≤ p + (U1 5 big l p).length := by
 have := Jho (U1 4 big) big l p
 show _ ≤ p + (dirB (U1 4 big) big l p).length
 omega
theorem filS_len (big : Bool) : ∀ (ls : List (List Ta)) (s : List UInt8) (link : Nat), link + 4 ≤ s.length → (filS big ls s link).length = lenF big ls s.length
 | [], _, _, _ => rfl
 | l :: ls, s, link, h => by
  unfold filS lenF
  have h5 := dir5_len (big := big) (l := l) (p := s.length)
  have hp : (put (s ++ U1 5 big l s.length) link (Yj big ((ev s.length : Nat) : Int) 4)).length = s.length + (U1 5 big l s.length).length := by
   rw [Jf1 (by rw [Ye _ _ (by omega), List.length_append]; omega), List.length_append]
  rw [filS_len big ls _ _ (by rw [hp]; omega), hp]
def headS (big : Bool) : List UInt8 := (if big then [77, 77] else [73, 73]) ++ Yj big 42 2 ++ Uz 4
theorem Jf4 (big : Bool) : (headS big).length = 8 := by
 unfold headS
 rw [List.length_append, List.length_append, Ye _ _ (by omega), Zi]
 cases big <;> rfl
def octF (f : Th) : List UInt8 := filS f.Big f.kap (headS f.Big) 4
theorem octF_len (f : Th) : (octF f).length = lenF f.Big f.kap 8 := by
 unfold octF; rw [filS_len _ _ _ _ (by rw [Jf4]; omega), Jf4]
theorem size_eq {f : Th} (hok : dirsOk f.kap) (hn : f.kap.length ≤ 20) (hsz : szL f.kap ≤ 274877906944) : Jhg f = some ((octF f).length : Int) := by
 rw [octF_len]
 unfold Jhg
 have key : ∀ (ls : List (List Ta)) (i p : Nat), i + ls.length = f.kap.length → f.kap.drop i = ls → p + szL ls ≤ 549755813888 → Vv (fun next1 s => Ut f next1 s.1 s.2) ((p : Int), (i : Int)) = some (lenF f.Big ls p : Int) := by
  intro ls
  induction ls with
  | nil =>
   intro i p hi _ _
   rw [List.length_nil] at hi
   refine Qr fun next => ?_
   show Ut f next (p : Int) (i : Int) = _
   unfold Ut
   rw [cI, if_neg (by omega)]; rfl
  | cons l ls ih =>
   intro i p hi hd hs
   rw [List.length_cons] at hi
   have hlt : i < f.kap.length := by omega
   have he : f.kap[i] = l := by have := List.drop_eq_getElem_cons hlt; rw [hd] at this; injection this with h1 h2; exact h1.symm
   have hd' : f.kap.drop (i + 1) = ls := by have := List.drop_eq_getElem_cons hlt; rw [hd] at this; injection this with h1 h2; exact h2.symm
   obtain ⟨o1, o2⟩ := hok l (he ▸ List.getElem_mem hlt)
   unfold szL at hs
   have hle := dirS_le f.Big 5 l p
   refine Eq.trans (Xu (((p + (U1 5 f.Big l p).length : Nat) : Int), ((i + 1 : Nat) : Int)) fun next => ?_) (ih (i + 1) (p + (U1 5 f.Big l p).length) (by omega) hd' (by omega))
   show Ut f next (p : Int) (i : Int) = _
   unfold Ut
   rw [cI, if_pos (by omega), Xa hlt, Jb, he, dirEnd_eq f.Big 5 l p o1 o2 (by omega), Jb, Ju (by omega), Jb]
   rfl
 exact key f.kap 0 8 (by omega) rfl (by omega)
def U2 : List (List Ta) → Int
 | [] => 0
 | l :: ls => if dE 5 l ≠ 0 then dE 5 l else U2 ls
theorem Jh5 : ∀ {ls : List (List Ta)}, U2 ls = 0 → ∀ l ∈ ls, dE 5 l = 0
 | [], _, l, hl => by cases hl
 | x :: ls, h, l, hl => by
  unfold U2 at h
  split at h
  ·rename_i h1; exact absurd h h1
  ·rename_i h1
   rcases List.mem_cons.1 hl with h' | h'
   ·subst h'; simpa using h1
   ·exact Jh5 h l h'
theorem scan_dirs {F : (Int → Option Int) → Int → Option Int} (ls : List (List Ta)) (o : Option Int) (more : ∀ (next : Int → Option Int) (k : Nat) (hk : k < ls.length), F next (k : Int) = if dE 5 ls[k] ≠ 0 then some (dE 5 ls[k]) else next ((k : Int) + 1)) (stop : U2 ls = 0 → ∀ next, F next (ls.length : Int) = o) :
  Vv F 0 = if U2 ls ≠ 0 then some (U2 ls) else o := by
 have key : ∀ m i : Nat, i + m = ls.length → (U2 ls = U2 (ls.drop i)) → Vv F (i : Int) = if U2 ls ≠ 0 then some (U2 ls) else o := by
  intro m
  induction m with
  | zero =>
   intro i hi hf
   have : i = ls.length := by omega
   subst this
   rw [List.drop_length] at hf
   have h0 : U2 ls = 0 := hf
   rw [if_neg (by simpa using h0)]
   exact Qr (stop h0)
  | succ m ih =>
   intro i hi hf
   have hlt : i < ls.length := by omega
   rw [List.drop_eq_getElem_cons hlt] at hf
   unfold U2 at hf
   by_cases h : dE 5 ls[i] ≠ 0
   ·rw [if_pos h] at hf
    have : Vv F (i : Int) = some (dE 5 ls[i]) := Qr fun next => by rw [more next i hlt, if_pos h]
    have hf' : U2 ls = dE 5 ls[i] := by unfold U2; exact hf
    rw [this, hf', if_pos h]
   ·rw [if_neg h] at hf
    rw [Xu ((i : Int) + 1) (fun next => by rw [more next i hlt, if_neg h])]
    exact ih (i + 1) (by omega) (by conv => lhs; unfold U2
                                    exact hf)
 exact key ls.length 0 (by omega) rfl
def Jhq (f : Th) : Prop := (∀ l ∈ f.kap, szD 5 l ≤ 2000000) ∧ szL f.kap ≤ 274877906944
def Je3 (f : Th) : Int := if 20 < f.kap.length then 4 else if U2 f.kap ≠ 0 then U2 f.kap else if 65000 < (octF f).length then 4 else 0
theorem dirs_ok {f : Th} (hb : Jhq f) (h : U2 f.kap = 0) : dirsOk f.kap := fun l hl => ⟨dE_ok (Jh5 h l hl), hb.1 l hl⟩
theorem Jiv {f : Th} (hb : Jhq f) : Jak f = some (Je3 f) := by
 unfold Jak Je3
 rw [cI]
 by_cases hn : 20 < f.kap.length
 ·rw [if_pos (by omega), if_pos hn]
 rw [if_neg (by omega), if_neg hn]
 rw [scan_dirs (F := fun next2 s => Ub f next2 s) f.kap (some (if 65000 < (octF f).length then 4 else 0)) (fun next k hk => ?_) (fun h0 next => ?_)]
 ·split <;> rfl
 ·show Ub f next (k : Int) = _
  unfold Ub
  rw [cI, if_pos (by omega), Xa hk, Jb, Jic 5 _ 1 (by omega) (by omega) (hb.1 _ (List.getElem_mem hk)), Jb, cI, Ju (by omega), Jb]
 ·show Ub f next (f.kap.length : Int) = _
  unfold Ub
  rw [cI, if_neg (by omega)]
  unfold Jek
  rw [size_eq (dirs_ok hb h0) (by omega) hb.2, Jb, cI]
  by_cases h : 65000 < (octF f).length
  ·rw [if_pos (by omega), if_pos h]
  ·rw [if_neg (by omega), if_neg h]
theorem fileE_zero {f : Th} (hb : Jhq f) (h : Je3 f = 0) : dirsOk f.kap ∧ f.kap.length ≤ 20 := by
 unfold Je3 at h
 split at h
 ·omega
 rename_i hn
 split at h
 ·rename_i h1; exact absurd h h1
 ·rename_i h1; exact ⟨dirs_ok hb (by simpa using h1), by omega⟩
theorem told_str {v w : List UInt8} {e f : Int} (h0 : f = 0 → v = w) (h1 : f ≠ 0 → v = []) (he : e = f) : Jbm v e w f = some true := by
 subst he
 have key : Wv v e e v = some true := by
  unfold Wv; simp [Qe]
 unfold Jbm
 rw [cI]
 by_cases h : e ≠ 0
 ·rw [if_pos h]; have := h1 h; subst this; exact key
 ·rw [if_neg h, ← h0 (by simpa using h)]; exact key
theorem szL_eq : ∀ ls : List (List Ta), szL ls = 8 * ls.length + 32 * (ls.map (szD 5)).sum
 | [] => rfl
 | l :: ls => by unfold szL; rw [szL_eq ls, List.map_cons, List.sum_cons, List.length_cons]; omega
theorem sz_in {l : List Ta} : ∀ {ls : List (List Ta)}, l ∈ ls → szD 5 l ≤ (ls.map (szD 5)).sum
 | [], h => by cases h
 | x :: ls, h => by
  rw [List.map_cons, List.sum_cons]
  rcases List.mem_cons.1 h with h | h
  ·subst h; omega
  ·have := sz_in h; omega
theorem fileB_of {f : Th} (h1 : f.kap.length ≤ 1048576) (h2 : (f.kap.map (szD 5)).sum ≤ 1048576) : Jhq f :=
 ⟨fun l hl => by have := sz_in hl; omega, by rw [szL_eq]; omega⟩
theorem oct_loop (f : Th) (hok : dirsOk f.kap) (hn : f.kap.length ≤ 20) : ∀ (ls : List (List Ta)) (i : Nat) (s : List UInt8) (link : Nat), i + ls.length = f.kap.length → f.kap.drop i = ls → link + 4 ≤ s.length → s.length + szL ls ≤ 549755813888 →
  Vv (fun next3 a => Uy f next3 a.1 a.2.1 a.2.2.1 a.2.2.2) ((link : Int), (i : Int), s, f.Big) = some (filS f.Big ls s link) := by
 intro ls
 induction ls with
 | nil =>
  intro i s link hi _ _ _
  rw [List.length_nil] at hi
  refine Qr fun next => ?_
  show Uy f next _ (i : Int) s f.Big = _
  unfold Uy
  rw [cI, if_neg (by omega)]; rfl
 | cons l ls ih =>
  intro i s link hi hd hlk hsz
  rw [List.length_cons] at hi
  have hlt : i < f.kap.length := by omega
  have he : f.kap[i] = l := by have := List.drop_eq_getElem_cons hlt; rw [hd] at this; injection this with h1 h2; exact h1.symm
  have hd' : f.kap.drop (i + 1) = ls := by have := List.drop_eq_getElem_cons hlt; rw [hd] at this; injection this with h1 h2; exact h2.symm
  obtain ⟨o1, o2⟩ := hok l (he ▸ List.getElem_mem hlt)
  unfold szL at hsz
  have hle := dirS_le f.Big 5 l s.length
  have h5 := dir5_len (big := f.Big) (l := l) (p := s.length)
  have hl200 : l.length ≤ 200 := o1.1
  have hp : (put (s ++ U1 5 f.Big l s.length) link (Yj f.Big ((ev s.length : Nat) : Int) 4)).length = s.length + (U1 5 f.Big l s.length).length := by
   rw [Jf1 (by rw [Ye _ _ (by omega), List.length_append]; omega), List.length_append]
  have a1 := ih (i + 1) (put (s ++ U1 5 f.Big l s.length) link (Yj f.Big ((ev s.length : Nat) : Int) 4)) (ev s.length + 2 + 12 * l.length) (by omega) hd' (by rw [hp]; omega) (by rw [hp]; omega)
  have hev : ev s.length ≤ s.length + 1 := by unfold ev; omega
  refine Eq.trans (Xu _ fun next => ?_) a1
  show Uy f next (link : Int) (i : Int) s f.Big = _
  unfold Uy
  rw [cI, if_pos (by omega), Xa hlt, Jb, he, R_dir_eq 5 f.Big s l o1 o2 (by omega), Jb]
  show Js (Jk ⟨s ++ U1 5 f.Big l s.length, f.Big⟩ _ _ 4) _ = _
  rw [Jcr (p := link) (k := 4) (k' := 4) rfl rfl (by omega) (by rw [List.length_append]; omega) (by rw [List.length_append]; omega), Jb]
  show Js (gI (((ev s.length : Nat) : Int) + 2)) _ = _
  rw [Ju (by omega), Jb, Ju (by omega), Jb, Ju (by omega), Jb, Ju (by omega), Jb]
  rfl
theorem Octets_eq {f : Th} (hok : dirsOk f.kap) (hn : f.kap.length ≤ 20) (hsz : szL f.kap ≤ 274877906944) : Jgw f = some (octF f) := by
 have key : ∀ m : List UInt8, m.length = 2 → m ++ Yj f.Big 42 2 ++ Uz 4 = headS f.Big → Jcl f m = some (octF f) := fun m hm hh => by
  unfold Jcl
  have hz : Yj f.Big 0 4 = Uz 4 := num_zero f.Big (by omega)
  rw [R2, Jb, R4, Jb, hz, Z6 (by rw [Ye _ _ (by omega), Zi]; omega), Jb, Z6 (by rw [List.length_append, Ye _ _ (by omega), Zi]; omega), Jb, ← List.append_assoc, hh]
  exact (oct_loop f hok hn f.kap 0 (headS f.Big) 4 (by omega) rfl (by rw [Jf4]; omega) (by rw [Jf4]; omega))
 unfold Jgw
 cases h : f.Big
 ·rw [Qa, key [73, 73] rfl (by rw [h]; rfl)]
 ·rw [Qq, key [77, 77] rfl (by rw [h]; rfl)]
theorem Jhi {f : Th} (hb : Jhq f) : Jdr f = some (Je3 f) := by
 unfold Jdr Je3
 rw [cI]
 by_cases hn : 20 < f.kap.length
 ·rw [if_pos (by omega), if_pos hn]
 rw [if_neg (by omega), if_neg hn]
 rw [scan_dirs (F := fun next2 s => Vy f next2 s) f.kap (some (if 65000 < (octF f).length then 4 else 0)) (fun next k hk => ?_) (fun h0 next => ?_)]
 ·split <;> rfl
 ·show Vy f next (k : Int) = _
  unfold Vy
  rw [cI, if_pos (by omega), Xa hk, Jb, Jif 5 _ 1 (by omega) (by omega) (hb.1 _ (List.getElem_mem hk)), Jb, cI, Ju (by omega), Jb]
 ·show Vy f next (f.kap.length : Int) = _
  unfold Vy
  rw [cI, if_neg (by omega)]
  unfold Jdg
  rw [Octets_eq (dirs_ok hb h0) (by omega) hb.2, Jb, cI]
  by_cases h : 65000 < (octF f).length
  ·rw [if_pos (by omega), if_pos h]
  ·rw [if_neg (by omega), if_neg h]
end
end Go.M

namespace Go.M
open Go.Md Go.Pl
def Jao (big : Bool) (bs : List UInt8) : Nat := (if big then bs else bs.reverse).foldl (fun v b => v * 256 + b.toNat) 0
theorem fold_bd : ∀ (L : List UInt8) (v : Nat), L.foldl (fun v b => v * 256 + b.toNat) v < (v + 1) * 256 ^ L.length
 | [], v => by simp
 | b :: L, v => by
  rw [List.foldl_cons, List.length_cons, Nat.pow_succ]
  have h := fold_bd L (v * 256 + b.toNat)
  have hb := b.toNat_lt
  have : (v * 256 + b.toNat + 1) * 256 ^ L.length ≤ ((v + 1) * 256) * 256 ^ L.length := Nat.mul_le_mul_right _ (by omega)
  calc _ < _ := h
   _ ≤ _ := this
   _ = _ := by rw [Nat.mul_assoc, Nat.mul_comm 256]
theorem valB_lt (big : Bool) (bs : List UInt8) : Jao big bs < 256 ^ bs.length := by
 unfold Jao
 have := fold_bd (if big then bs else bs.reverse) 0
 cases big <;> simpa using this
theorem valB4 (big : Bool) {bs : List UInt8} (h : bs.length ≤ 4) : Jao big bs ≤ 4294967295 := by
 have := valB_lt big bs
 have h2 : 256 ^ bs.length ≤ 256 ^ 4 := Nat.pow_le_pow_right (by omega) h
 omega
theorem valB2 (big : Bool) {bs : List UInt8} (h : bs.length ≤ 2) : Jao big bs ≤ 65535 := by
 have := valB_lt big bs
 have h2 : 256 ^ bs.length ≤ 256 ^ 2 := Nat.pow_le_pow_right (by omega) h
 omega
theorem or_byte {v b : Nat} (hv : v ≤ 16777216) (hb : b < 256) : Jap (bOr 64 ((v : Int) * 256) (b : Int)) = ((v * 256 + b : Nat) : Int) := by
 have e : bOr 64 ((v : Int) * 256) (b : Int) = ((v * 256 + b : Nat) : Int) := by
  unfold bOr
  rw [BitVec.toNat_or, show (v : Int) * 256 = ((v * 256 : Nat) : Int) by omega]
  have h1 : (BitVec.ofInt 64 ((v * 256 : Nat) : Int)).toNat = v * 256 := by rw [BitVec.ofInt_natCast, BitVec.toNat_ofNat, Nat.mod_eq_of_lt (by omega)]
  have h2 : (BitVec.ofInt 64 ((b : Nat) : Int)).toNat = b := by rw [BitVec.ofInt_natCast, BitVec.toNat_ofNat, Nat.mod_eq_of_lt (by omega)]
  rw [h1, h2]
  have := Nat.shiftLeft_add_eq_or_of_lt (i := 8) (b := b) (by omega) v
  rw [Nat.shiftLeft_eq] at this
  rw [← this]
 rw [e]
 unfold Jap; omega
theorem numAt_eq (big : Bool) (s : List UInt8) {a k : Nat} (h : a + k ≤ s.length) (hk : k ≤ 4) (hs : s.length ≤ 65000) : Yb big s (a : Int) (k : Int) = some (Jao big ((s.drop a).take k) : Int) := by
 let L := if big then (s.drop a).take k else ((s.drop a).take k).reverse
 have hL : L.length = k := by
  show (if big then (s.drop a).take k else ((s.drop a).take k).reverse).length = k
  cases big <;> simp <;> omega
 have hi : ∀ i (hik : i < k), ∃ q : Nat, ∃ hq : q < k, q = (if big then i else k - 1 - i) ∧ s[a + q]'(by omega) = L[i]'(by omega) := by
  intro i hik
  cases big
  ·refine ⟨k - 1 - i, by omega, rfl, ?_⟩
   show _ = (((s.drop a).take k).reverse)[i]'_
   rw [List.getElem_reverse, List.getElem_take, List.getElem_drop]
   congr 2; simp; omega
  ·refine ⟨i, by omega, rfl, ?_⟩
   show _ = ((s.drop a).take k)[i]'_
   rw [List.getElem_take, List.getElem_drop]
 have key : ∀ m i v : Nat, i + m = k → v < 256 ^ i → Vv (fun next1 s' => Vk big s a k next1 s'.1 s'.2) ((v : Int), (i : Int)) = some (((L.drop i).foldl (fun v b => v * 256 + b.toNat) v : Nat) : Int) := by
  intro m
  induction m with
  | zero =>
   intro i v him hv
   rw [List.drop_eq_nil_of_le (by omega)]
   refine Qr fun next => ?_
   show Vk big s a k next (v : Int) (i : Int) = _
   unfold Vk
   rw [cI, if_neg (by omega)]; rfl
  | succ m ih =>
   intro i v him hv
   obtain ⟨q, hq, hqe, hsq⟩ := hi i (by omega)
   have hv4 : v < 16777216 := Nat.lt_of_lt_of_le hv (Nat.le_trans (Nat.pow_le_pow_right (by omega) (show i ≤ 3 by omega)) (by decide))
   have hb := (s[a + q]'(by omega)).toNat_lt
   rw [List.drop_eq_getElem_cons (show i < L.length by omega), List.foldl_cons]
   have hlt : v * 256 + (L[i]'(by omega)).toNat < 256 ^ (i + 1) := by
    rw [← hsq, Nat.pow_succ]; omega
   refine Eq.trans (Xu _ fun next => ?_) (ih (i + 1) (v * 256 + (L[i]'(by omega)).toNat) (by omega) hlt)
   show Vk big s a k next (v : Int) (i : Int) = _
   unfold Vk
   rw [cI, if_pos (by omega), Ju (by omega), Jb, Ju (by omega), Jb]
   have go : ∀ x : Int, x = (q : Int) → Jab s a v i next x = next (((v * 256 + (L[i]'(by omega)).toNat : Nat) : Int), ((i + 1 : Nat) : Int)) := by
    intro x hx
    subst hx
    unfold Jab
    have e8 : (2 : Int) ^ (8 : Int).toNat = 256 := by decide
    have hsh : gShl (v : Int) 8 = some ((v : Int) * 256) := by
     unfold gShl
     rw [if_pos ⟨by decide, by decide⟩, e8]
     exact Ju (by omega)
    rw [hsh, Jb, Ju (by omega), Jb, show (a : Int) + (q : Int) = ((a + q : Nat) : Int) by omega, Jau (by omega), Jb]
    unfold gK
    rw [if_pos (by omega), Jb, Ju (by omega), Jb, or_byte (by omega) hb, hsq]
    rfl
   cases big
   ·rw [Qa]; exact go _ (by rw [hqe]; simp; omega)
   ·rw [Qq]; exact go _ (by rw [hqe]; simp)
 unfold Yb
 have := key k 0 0 (by omega) (by simp)
 rw [List.drop_zero] at this
 exact this
theorem Jc5 (r : Tb) {a k : Nat} (h : a + k ≤ r.s_.length) (hk : k ≤ 4) (hs : r.s_.length ≤ 65000) : Ji r (a : Int) (k : Int) = some (Jao r.kab ((r.s_.drop a).take k) : Int) := by
 unfold Ji
 rw [numAt_eq _ _ h hk hs]; rfl
theorem Jik (r : Tb) {a : Nat} (h : a + 4 ≤ r.s_.length) (hs : r.s_.length ≤ 65000) : Ji r (a : Int) 4 = some (Jao r.kab ((r.s_.drop a).take 4) : Int) := Jc5 (k := 4) r h (by omega) hs
theorem number2 (r : Tb) {a : Nat} (h : a + 2 ≤ r.s_.length) (hs : r.s_.length ≤ 65000) : Ji r (a : Int) 2 = some (Jao r.kab ((r.s_.drop a).take 2) : Int) := Jc5 (k := 2) r h (by omega) hs
def fl (r : Tb) (e : Int) : Tb := if r.no_ = 0 then ⟨r.s_, r.kab, r.kaa, r.kae, r.kad, r.kac, e⟩ else r
theorem Ym (r : Tb) (e : Int) : Qc r e = some (fl r e) := by
 unfold Qc fl
 rw [cI]; split <;> rfl
theorem fl_fl (r : Tb) {e : Int} (h : e ≠ 0) : fl (fl r e) e = fl r e := by
 unfold fl
 by_cases h0 : r.no_ = 0
 ·rw [if_pos h0, if_neg h]
 ·rw [if_neg h0, if_neg h0]
theorem Ys (r : Tb) {e : Int} (h : e ≠ 0) : (fl r e).no_ ≠ 0 := by
 unfold fl
 split
 ·exact h
 ·assumption
theorem Je1 (r : Tb) {p n : Nat} (hn : n ≤ 1099511627776) (hs : r.s_.length ≤ 65000) : Y6 r (p : Int) (n : Int) = some (decide (8 ≤ p ∧ p + n ≤ r.s_.length)) := by
 unfold Y6
 rw [cI, cI]
 by_cases h1 : 8 ≤ p
 ·rw [if_pos (by omega)]
  by_cases h2 : n ≤ r.s_.length
  ·rw [if_pos (by omega), Ju (by omega), Jb]
   congr 1
   rw [decide_eq_decide]; omega
  ·rw [if_neg (by omega)]
   congr 1; symm; rw [decide_eq_false_iff_not]; omega
 ·rw [if_neg (by omega)]
  congr 1; symm; rw [decide_eq_false_iff_not]; omega
def ratR (big : Bool) (b : List UInt8) (i : Nat) : Tg := ⟨(Jao big ((b.drop (8 * i)).take 4) : Nat), (Jao big ((b.drop (8 * i + 4)).take 4) : Nat)⟩
def intR (big : Bool) (k : Int) (b : List UInt8) (i : Nat) : Int := if k = 9 then Jap (wI32 (Jao big ((b.drop (i * J3 k)).take (J3 k)))) else Jao big ((b.drop (i * J3 k)).take (J3 k))
noncomputable def Jd9 (r : Tb) (k : Int) (c : Nat) (b : List UInt8) : Te × Tb := open Classical in
 if k = 2 then (if b = [] ∨ b.getLast? ≠ some 0 then (⟨2, [], [], [], []⟩, fl r 1) else (⟨2, b.dropLast, [], [], []⟩, if (0 : UInt8) ∈ b.dropLast then fl r 9 else r))
 else if k = 7 then (⟨7, b, [], [], []⟩, r)
 else if k = 5 then (⟨5, [], [], (List.range c).map (ratR r.kab b), []⟩, r)
 else (⟨k, [], (List.range c).map (intR r.kab k b), [], []⟩, r)
noncomputable def Jeb (r : Tb) (k : Int) (c a : Nat) : Te × Tb :=
 if 4 < c * J3 k then
  let p := Jao r.kab ((r.s_.drop a).take 4)
  if 8 ≤ p ∧ p + c * J3 k ≤ r.s_.length then Jd9 ⟨r.s_, r.kab, r.kaa ++ [⟨(p : Int), ((p + c * J3 k : Nat) : Int)⟩], r.kae, r.kad, r.kac, r.no_⟩ k c ((r.s_.drop p).take (c * J3 k))
  else (⟨0, [], [], [], []⟩, fl r 2)
 else Jd9 r k c ((r.s_.drop a).take (c * J3 k))
theorem ascii_loop (t : List UInt8) (ht : t.length ≤ 65000) : ∀ (m i : Nat) (r : Tb), i + m = t.length →
  Vv (fun next1 s => Xi t next1 s.1 s.2.1 s.2.2.1 s.2.2.2.1 s.2.2.2.2.1 s.2.2.2.2.2.1 s.2.2.2.2.2.2.1 s.2.2.2.2.2.2.2) ((i : Int), r.s_, r.kab, r.kad, r.kac, r.no_, r.kaa, r.kae) = some (t, open Classical in if (0 : UInt8) ∈ t.drop i then fl r 9 else r) := by
 intro m
 induction m with
 | zero =>
  intro i r hi
  rw [List.drop_eq_nil_of_le (by omega), if_neg (by simp)]
  refine Qr fun next => ?_
  show Xi t next (i : Int) _ _ _ _ _ _ _ = _
  unfold Xi
  rw [cI, if_neg (by omega)]
 | succ m ih =>
  intro i r hi
  have hb := (t[i]'(by omega)).toNat_lt
  rw [List.drop_eq_getElem_cons (show i < t.length by omega)]
  by_cases h0 : t[i]'(by omega) = 0
  ·have e : (open Classical in if (0 : UInt8) ∈ t[i]'(by omega) :: t.drop (i + 1) then fl r 9 else r) = (open Classical in if (0 : UInt8) ∈ t.drop (i + 1) then fl (fl r 9) 9 else fl r 9) := by
    rw [if_pos (by rw [h0]; simp), fl_fl _ (by decide)]; split <;> rfl
   rw [e]
   refine Eq.trans (Xu _ fun next => ?_) (ih (i + 1) (fl r 9) (by omega))
   show Xi t next (i : Int) _ _ _ _ _ _ _ = _
   unfold Xi
   rw [cI, if_pos (by omega), Jau (by omega), Jb, cI, if_pos (by rw [h0]; rfl), Ym, Jb]
   unfold Vg
   rw [Ju (by omega), Jb]; rfl
  ·have e : (open Classical in if (0 : UInt8) ∈ t[i]'(by omega) :: t.drop (i + 1) then fl r 9 else r) = (open Classical in if (0 : UInt8) ∈ t.drop (i + 1) then fl r 9 else r) := by
    simp only [List.mem_cons, show (0 : UInt8) = t[i]'(by omega) ↔ False from ⟨fun e => h0 e.symm, False.elim⟩, false_or]
   rw [e]
   refine Eq.trans (Xu _ fun next => ?_) (ih (i + 1) r (by omega))
   show Xi t next (i : Int) _ _ _ _ _ _ _ = _
   unfold Xi
   rw [cI, if_pos (by omega), Jau (by omega), Jb, cI, if_neg (fun e => h0 (UInt8.toNat_inj.1 (by have : ((t[i]'(by omega)).toNat : Int) = 0 := e; show _ = 0; omega)))]
   unfold Vg
   rw [Ju (by omega), Jb]; rfl
theorem ascii_eq (r : Tb) (t : List UInt8) (ht : t.length ≤ 65000) : Uq r t = some (open Classical in if t = [] ∨ t.getLast? ≠ some 0 then ([], fl r 1) else (t.dropLast, if (0 : UInt8) ∈ t.dropLast then fl r 9 else r)) := by
 unfold Uq
 rw [cI]
 by_cases h : t = []
 ·rw [if_pos h, if_pos (.inl h), Ym]; rfl
 ·have hl : 0 < t.length := List.length_pos_iff.2 h
  have hg : t.getLast? = some (t[t.length - 1]'(by omega)) := by rw [List.getLast?_eq_getElem?, List.getElem?_eq_getElem (by omega)]
  rw [if_neg h, Ju (by omega), Jb, show (t.length : Int) - 1 = ((t.length - 1 : Nat) : Int) by omega, Jau (by omega), Jb, cI]
  by_cases h0 : t[t.length - 1]'(by omega) = 0
  ·rw [if_neg (by rw [h0]; decide), if_neg (by rw [hg, h0]; simp [h]), Jb, Jb6 (by omega), Jb, Int.toNat_natCast, ← List.dropLast_eq_take]
   have := ascii_loop t.dropLast (by rw [List.length_dropLast]; omega) t.dropLast.length 0 r (by omega)
   rw [List.drop_zero] at this
   exact this
  ·rw [if_pos (fun e => h0 (UInt8.toNat_inj.1 (by have : ((t[t.length - 1]'(by omega)).toNat : Int) = 0 := e; show _ = 0; omega))), if_pos (.inr (by rw [hg]; simpa using h0)), Ym]; rfl
theorem drop_in (s : List UInt8) {p n o k : Nat} (h : o + k ≤ n) : ((s.drop p).take n |>.drop o).take k = (s.drop (p + o)).take k := by
 rw [List.drop_take, List.take_take, List.drop_drop, Nat.min_eq_left (by omega)]
theorem wide_pos {k : Int} (h : J3 k ≠ 0) (h2 : k ≠ 2) (h7 : k ≠ 7) (h5 : k ≠ 5) : J3 k ≤ 4 ∧ 1 ≤ J3 k := by
 refine ⟨?_, by omega⟩
 unfold J3
 (repeat' split) <;> omega
theorem value_j1 (r : Tb) {k : Int} {c p : Nat} (parts : List Tc) (hw : J3 k ≠ 0) (h13 : k ≠ 13) (hp : p + c * J3 k ≤ r.s_.length) (hs : r.s_.length ≤ 65000) :
  Ve r k (c : Int) ((c * J3 k : Nat) : Int) (p : Int) parts = some (Jd9 ⟨r.s_, r.kab, parts, r.kae, r.kad, r.kac, r.no_⟩ k c ((r.s_.drop p).take (c * J3 k))) := by
 have hcw : c ≤ c * J3 k := Nat.le_mul_of_pos_right _ (by omega)
 unfold Ve Jd9
 rw [cI, cI, cI]
 by_cases h2 : k = 2
 ·rw [if_pos h2, if_pos h2, Ju (by omega), Jb, Jc0 (by omega), Jb, show ((p : Int) + ((c * J3 k : Nat) : Int)).toNat - (p : Int).toNat = c * J3 k by omega, Int.toNat_natCast, ascii_eq _ _ (by rw [List.length_take, List.length_drop]; omega), Jb, h2]
  split <;> rfl
 rw [if_neg h2, if_neg h2]
 by_cases h7 : k = 7
 ·rw [if_pos h7, if_pos h7, Ju (by omega), Jb, Jc0 (by omega), Jb, show ((p : Int) + ((c * J3 k : Nat) : Int)).toNat - (p : Int).toNat = c * J3 k by omega, Int.toNat_natCast, h7]
  rfl
 rw [if_neg h7, if_neg h7]
 by_cases h5 : k = 5
 ·rw [if_pos h5, if_pos h5]
  have hw8 : J3 k = 8 := by rw [h5]; rfl
  rw [hw8] at hp ⊢
  have := Je5 (F := fun next3 s => X5 r k (c : Int) (p : Int) parts next3 s.1 s.2) (List.range c) (fun l i => l ++ [ratR r.kab ((r.s_.drop p).take (c * 8)) i]) (fun l => some ((⟨k, [], [], l, []⟩ : Te), (⟨r.s_, r.kab, parts, r.kae, r.kad, r.kac, r.no_⟩ : Tb))) (fun i l => l.length = i)
   (fun next i l hi hl => by
    have hic : i < c := by rw [List.length_range] at hi; exact hi
    refine ⟨?_, by rw [List.length_append, hl]; rfl⟩
    rw [List.getElem_range]
    show X5 r k (c : Int) (p : Int) parts next (i : Int) l = _
    unfold X5
    rw [cI, if_pos (by omega), Ju (by omega), Jb, Ju (by omega), Jb, show (p : Int) + 8 * (i : Int) = ((p + 8 * i : Nat) : Int) by omega, Jik ⟨r.s_, r.kab, parts, r.kae, r.kad, r.kac, r.no_⟩ (by show _ ≤ r.s_.length; omega) hs, Jb, Jb, Ju (by omega), Jb, Ju (by omega), Jb]
    rw [show (p : Int) + 8 * (i : Int) + 4 = ((p + (8 * i + 4) : Nat) : Int) by omega, Jik ⟨r.s_, r.kab, parts, r.kae, r.kad, r.kac, r.no_⟩ (by show _ ≤ r.s_.length; omega) hs, Jb, Yw (by rw [hl]; simp; omega), Jb, Ju (by omega), Jb]
    unfold ratR
    rw [drop_in _ (by omega), drop_in _ (by omega)])
   (fun next l hl => by
    rw [List.length_range]
    show X5 r k (c : Int) (p : Int) parts next (c : Int) l = _
    unfold X5
    rw [cI, if_neg (by omega)]; rfl) [] rfl
  rw [Jh2] at this
  rw [this, h5]; rfl
 ·rw [if_neg h5, if_neg h5]
  obtain ⟨w4, w1⟩ := wide_pos hw h2 h7 h5
  have := Je5 (F := fun next4 s => X6 r k (c : Int) (p : Int) parts next4 s.1 s.2) (List.range c) (fun l i => l ++ [intR r.kab k ((r.s_.drop p).take (c * J3 k)) i]) (fun l => some ((⟨k, [], l, [], []⟩ : Te), (⟨r.s_, r.kab, parts, r.kae, r.kad, r.kac, r.no_⟩ : Tb))) (fun i l => l.length = i)
   (fun next i l hi hl => by
    have hic : i < c := by rw [List.length_range] at hi; exact hi
    have hiw : i * J3 k + J3 k ≤ c * J3 k := by
     have := Nat.mul_le_mul_right (J3 k) (show i + 1 ≤ c by omega)
     rw [Nat.add_mul] at this; omega
    refine ⟨?_, by rw [List.length_append, hl]; rfl⟩
    rw [List.getElem_range]
    show X6 r k (c : Int) (p : Int) parts next (i : Int) l = _
    unfold X6
    have esz : Z4 k = some ((J3 k : Nat) : Int) := by rw [Jcc, if_neg h13]
    rw [cI, if_pos (by omega), esz, Jb, show (i : Int) * ((J3 k : Nat) : Int) = ((i * J3 k : Nat) : Int) by rw [Int.natCast_mul], Ju (by omega), Jb, Ju (by omega), Jb, Jb,
     show (p : Int) + ((i * J3 k : Nat) : Int) = ((p + i * J3 k : Nat) : Int) by omega, Jc5 ⟨r.s_, r.kab, parts, r.kae, r.kad, r.kac, r.no_⟩ (by show _ ≤ r.s_.length; omega) w4 hs, Jb, cI]
    have go : ∀ x : Int, x = intR r.kab k ((r.s_.drop p).take (c * J3 k)) i → Vi (i : Int) l next x = next ((i : Int) + 1, l ++ [intR r.kab k ((r.s_.drop p).take (c * J3 k)) i]) := by
     intro x hx
     unfold Vi
     rw [Yw (by rw [hl]; simp; omega), Jb, Ju (by omega), Jb, hx]
    have hd : ((r.s_.drop p).take (c * J3 k) |>.drop (i * J3 k)).take (J3 k) = (r.s_.drop (p + i * J3 k)).take (J3 k) := drop_in _ hiw
    by_cases h9 : k = 9
    ·rw [if_pos h9]; exact go _ (by unfold intR; rw [if_pos h9, hd])
    ·rw [if_neg h9]; exact go _ (by unfold intR; rw [if_neg h9, hd]))
   (fun next l hl => by
    rw [List.length_range]
    show X6 r k (c : Int) (p : Int) parts next (c : Int) l = _
    unfold X6
    rw [cI, if_neg (by omega)]; rfl) [] rfl
  rw [Jh2] at this
  rw [this]; rfl
theorem value_eq (r : Tb) {k : Int} {c a : Nat} (hw : J3 k ≠ 0) (h13 : k ≠ 13) (hc : c ≤ 4294967295) (ha : a + 4 ≤ r.s_.length) (hs : r.s_.length ≤ 65000) (hp : r.kaa.length ≤ 8000000000000) :
  Wl r k (c : Int) (a : Int) = some (Jeb r k c a) := by
 have hcw : c * J3 k ≤ 4294967295 * 8 := Nat.mul_le_mul hc (Jax k)
 unfold Wl Jeb
 rw [Jcc, if_neg h13, Jb, show (c : Int) * ((J3 k : Nat) : Int) = ((c * J3 k : Nat) : Int) by rw [Int.natCast_mul], Ju (by omega), Jb, cI]
 by_cases h4 : 4 < c * J3 k
 ·rw [if_pos (by omega), if_pos h4, Jik _ ha hs, Jb, Je1 _ (by omega) hs, Jb]
  have hv := valB4 r.kab (bs := (r.s_.drop a).take 4) (by rw [List.length_take]; omega)
  by_cases ht : 8 ≤ Jao r.kab ((r.s_.drop a).take 4) ∧ Jao r.kab ((r.s_.drop a).take 4) + c * J3 k ≤ r.s_.length
  ·rw [decide_eq_true ht, Bool.not_true, Qa, Ju (by omega), Jb, Yw (by simp; omega), Jb, value_j1 r _ hw h13 ht.2 hs]
   simp only [if_pos ht]
   rfl
  ·rw [decide_eq_false ht, Bool.not_false, Qq, Ym, Jb]
   simp only [if_neg ht]
 ·rw [if_neg (by omega), if_neg h4, value_j1 r _ hw h13 (by omega) hs]
end Go.M

namespace Go.M
open Go.Md Go.Pl
abbrev Wj := (Tb × Int × (List Int)) → Option ((List Ta) × Int × Tb)
abbrev Jr (r : Tb) (a k : Nat) : Nat := Jao r.kab ((r.s_.drop a).take k)
theorem n2 (r : Tb) {a : Nat} (h : a + 2 ≤ r.s_.length) (hs : r.s_.length ≤ 65000) : Ji r (a : Int) 2 = some (Jr r a 2 : Int) := number2 r h hs
theorem n4 (r : Tb) {a : Nat} (h : a + 4 ≤ r.s_.length) (hs : r.s_.length ≤ 65000) : Ji r (a : Int) 4 = some (Jr r a 4 : Int) := Jik r h hs
theorem v4 (r : Tb) (a : Nat) : Jr r a 4 ≤ 4294967295 := valB4 _ (by rw [List.length_take]; omega)
theorem v2 (r : Tb) (a : Nat) : Jr r a 2 ≤ 65535 := valB2 _ (by rw [List.length_take]; omega)
theorem found_ok {f : Nat} (h : f ≤ 0) : ∃ g, mft39 f = some g ∧ ∀ l a, g l a = some () := by
 match f, h with
 | 0, _ => exact ⟨_, rfl, fun _ _ => rfl⟩
theorem clone_eq {l : List Int} (h : l.length ≤ 1000) : Y5 l = some l := by
 unfold Y5
 rw [Yw (by simp; omega), Jb]; simp
theorem pack_eq (t : Int) (v : Te) (r : Tb) : Vd t v.kai v.kaj v.kak v.kah v.kag r.s_ r.kab r.kad r.kac r.no_ r.kaa r.kae = some (⟨t, v⟩, r) := by cases v; cases r; rfl
noncomputable def entR (self : Wj) (r : Tb) (a : Nat) (path : List Int) : Option (Ta × Tb) :=
 if (Jr r (a + 2) 2 : Int) = 13 then
  (if Jr r (a + 4) 4 = 1 then Js (self (r, (Jr r (a + 8) 4 : Int), path ++ [(Jr r a 2 : Int)])) fun t => some ((⟨(Jr r a 2 : Int), ⟨13, [], [], [], t.1⟩⟩ : Ta), t.2.2)
   else some (⟨(Jr r a 2 : Int), ⟨13, [], [], [], []⟩⟩, fl r 1))
 else if J3 (Jr r (a + 2) 2 : Int) = 0 then some (⟨(Jr r a 2 : Int), ⟨(Jr r (a + 2) 2 : Int), [], [], [], []⟩⟩, fl r 10)
 else some (⟨(Jr r a 2 : Int), (Jeb r (Jr r (a + 2) 2 : Int) (Jr r (a + 4) 4) (a + 8)).1⟩, (Jeb r (Jr r (a + 2) 2 : Int) (Jr r (a + 4) 4) (a + 8)).2)
theorem entry_eq (self : Wj) (r : Tb) {a : Nat} {path : List Int} (ha : a + 12 ≤ r.s_.length) (hs : r.s_.length ≤ 65000) (hp : r.kaa.length ≤ 8000000000000) (hf : r.kac ≤ 0) (hl : path.length ≤ 100) :
  X1 self r (a : Int) path = entR self r a path := by
 obtain ⟨g, hg, hg2⟩ := found_ok hf
 unfold X1 entR
 rw [n2 _ (by omega) hs, Jb, Ju (by omega), Jb, show (a : Int) + 2 = ((a + 2 : Nat) : Int) by omega, n2 _ (by omega) hs, Jb, Ju (by omega), Jb, show (a : Int) + 4 = ((a + 4 : Nat) : Int) by omega, n4 _ (by omega) hs, Jb, clone_eq (by omega), Jb, Yw (by simp; omega), Jb]
 unfold gFn
 rw [hg, Jb, hg2, Jb, Jcc, Jb, cI, cI]
 have h8 : (a : Int) + 8 = ((a + 8 : Nat) : Int) := by omega
 have hc4 := v4 r (a + 4)
 by_cases h13 : (Jr r (a + 2) 2 : Int) = 13
 ·rw [if_pos h13, if_pos h13, if_neg (by decide), if_pos h13]
  unfold Vf
  rw [cI]
  by_cases h1 : Jr r (a + 4) 4 = 1
  ·rw [if_neg (by omega), if_pos h1, cI, if_pos h13, Ju (by omega), Jb, h8, n4 _ (by omega) hs, Jb]
   refine Q8 fun t _ => ?_
   rw [h13]; rfl
  ·rw [if_pos (by omega), if_neg h1, Ym, Jb, h13]; rfl
 ·rw [if_neg h13, if_neg h13, if_neg h13]
  by_cases h0 : J3 (Jr r (a + 2) 2 : Int) = 0
  ·rw [if_pos (by omega), if_pos h0, Ym, Jb]; rfl
  ·rw [if_neg (by omega), if_neg h0]
   unfold Vf
   rw [Qa, cI, if_neg h13, Ju (by omega), Jb, h8, value_eq _ h0 h13 hc4 (by omega) hs hp, Jb, pack_eq]
noncomputable def Jch (self : Wj) (path : List Int) (pl nxt cnt i : Nat) (r : Tb) (l : List Ta) : Option ((List Ta) × Int × Tb) :=
 Vv (fun next4 s => Xo path self next4 s.1 s.2.1 s.2.2.1 s.2.2.2.1 s.2.2.2.2.1 s.2.2.2.2.2.1 s.2.2.2.2.2.2.1 s.2.2.2.2.2.2.2.1 s.2.2.2.2.2.2.2.2.1 s.2.2.2.2.2.2.2.2.2.1 s.2.2.2.2.2.2.2.2.2.2.1 s.2.2.2.2.2.2.2.2.2.2.2) ((pl : Int), (nxt : Int), (cnt : Int), (i : Int), r.s_, r.kab, r.kad, r.kac, r.no_, r.kaa, r.kae, l)
theorem Jaa (self : Wj) (path : List Int) (pl nxt cnt i : Nat) (r : Tb) (l : List Ta) (h : cnt ≤ i ∨ r.no_ ≠ 0) : Jch self path pl nxt cnt i r l = some (l, (nxt : Int), r) := by
 refine Qr fun next => ?_
 show Xo path self next (pl : Int) (nxt : Int) (cnt : Int) (i : Int) _ _ _ _ _ _ _ l = _
 unfold Xo
 rw [cI]
 by_cases h1 : cnt ≤ i
 ·rw [if_neg (by omega)]; rfl
 ·rw [if_pos (by omega), cI, if_neg (show ¬ r.no_ = 0 from h.resolve_left h1)]; rfl
theorem Jhe (self : Wj) (path : List Int) (pl nxt cnt i : Nat) (r : Tb) (l : List Ta) (hi : i < cnt) (hno : r.no_ = 0) (h0 : 0 < i) (hl : i ≤ l.length) (ha : pl + 2 + 12 * cnt ≤ r.s_.length) (hs : r.s_.length ≤ 65000)
  (hlow : (Jr r (pl + 2 + 12 * i) 2 : Int) ≤ (l[i - 1]'(by omega)).Tag) : Jch self path pl nxt cnt i r l = some (l, (nxt : Int), fl r 5) := by
 refine Qr fun next => ?_
 show Xo path self next (pl : Int) (nxt : Int) (cnt : Int) (i : Int) _ _ _ _ _ _ _ l = _
 unfold Xo
 rw [cI, if_pos (by omega), cI, if_pos hno, cI, if_pos (by omega), Ju (by omega), Jb, Ju (by omega), Jb, Ju (by omega), Jb, show (pl : Int) + 2 + 12 * (i : Int) = ((pl + 2 + 12 * i : Nat) : Int) by omega,
  n2 r (by omega) hs, Jb, Ju (by omega), Jb, show (i : Int) - 1 = ((i - 1 : Nat) : Int) by omega, Xa (by omega), Jb, cI, if_pos hlow, Ym r, Jb]
 rfl
theorem Jft (self : Wj) (path : List Int) (pl nxt cnt i : Nat) (r : Tb) (l : List Ta) (hi : i < cnt) (hno : r.no_ = 0) (hl : l.length = i) (hn : i ≤ 1000) (ha : pl + 2 + 12 * cnt ≤ r.s_.length) (hs : r.s_.length ≤ 65000)
  (hlow : ∀ (h : 0 < i), ¬ (Jr r (pl + 2 + 12 * i) 2 : Int) ≤ (l[i - 1]'(by omega)).Tag) (hp : r.kaa.length ≤ 8000000000000) (hf : r.kac ≤ 0) (hpl : path.length ≤ 100) {e : Ta} {r' : Tb} (he : entR self r (pl + 2 + 12 * i) path = some (e, r')) :
  Jch self path pl nxt cnt i r l = Jch self path pl nxt cnt (i + 1) r' (l ++ [e]) := by
 have go : ∀ next, V3 path self (pl : Int) (nxt : Int) (cnt : Int) (i : Int) r.s_ r.kab r.kad r.kac r.no_ r.kaa r.kae l next = next ((pl : Int), (nxt : Int), (cnt : Int), ((i + 1 : Nat) : Int), r'.s_, r'.kab, r'.kad, r'.kac, r'.no_, r'.kaa, r'.kae, l ++ [e]) := by
  intro next
  unfold V3
  rw [Ju (by omega), Jb, Ju (by omega), Jb, Ju (by omega), Jb, show (pl : Int) + 2 + 12 * (i : Int) = ((pl + 2 + 12 * i : Nat) : Int) by omega, entry_eq self r (by omega) hs hp hf hpl, he, Jb, Yw (by simp; omega), Jb, Ju (by omega), Jb]
  rfl
 refine Xu _ fun next => ?_
 show Xo path self next (pl : Int) (nxt : Int) (cnt : Int) (i : Int) _ _ _ _ _ _ _ l = _
 unfold Xo
 rw [cI, if_pos (by omega), cI, if_pos hno, cI]
 by_cases h0 : 0 < i
 ·rw [if_pos (by omega), Ju (by omega), Jb, Ju (by omega), Jb, Ju (by omega), Jb, show (pl : Int) + 2 + 12 * (i : Int) = ((pl + 2 + 12 * i : Nat) : Int) by omega,
   n2 r (by omega) hs, Jb, Ju (by omega), Jb, show (i : Int) - 1 = ((i - 1 : Nat) : Int) by omega, Xa (by omega), Jb, cI, if_neg (hlow h0)]
  exact go next
 ·rw [if_neg (by omega)]
  exact go next
noncomputable def dirR (self : Wj) (r : Tb) (pl : Nat) (path : List Int) : Option ((List Ta) × Int × Tb) :=
 if ¬ (8 ≤ pl ∧ pl + 2 ≤ r.s_.length) then some ([], 0, fl r 2)
 else if (Q2 r.kae (pl : Int)).getD false = true then some ([], 0, fl r 13)
 else if 20 < r.kad ∨ 5 < path.length ∨ 200 < Jr r pl 2 then some ([], 0, fl r 4)
 else if ¬ (pl + (2 + 12 * Jr r pl 2 + 4) ≤ r.s_.length) then some ([], 0, fl r 2)
 else if r.no_ ≠ 0 then some ([], 0, r)
 else Jch self path pl (Jr r (pl + 2 + 12 * Jr r pl 2) 4) (Jr r pl 2) 0
  (if 1 < path.length ∧ Jr r (pl + 2 + 12 * Jr r pl 2) 4 ≠ 0 then fl ⟨r.s_, r.kab, r.kaa ++ [⟨(pl : Int), ((pl + (2 + 12 * Jr r pl 2 + 4) : Nat) : Int)⟩], Yp r.kae (pl : Int) true, r.kad, r.kac, r.no_⟩ 1
   else ⟨r.s_, r.kab, r.kaa ++ [⟨(pl : Int), ((pl + (2 + 12 * Jr r pl 2 + 4) : Nat) : Int)⟩], Yp r.kae (pl : Int) true, r.kad, r.kac, r.no_⟩) []
theorem Jbh (pl cnt : Int) (path : List Int) (self : Wj) (r : Tb) (h : r.no_ ≠ 0) : Xp pl path self cnt r.s_ r.kab r.kad r.kac r.no_ r.kaa r.kae = some ([], 0, r) := by
 unfold Xp
 rw [cI, if_pos h]
theorem Jde (self : Wj) (r : Tb) {pl : Nat} {path : List Int} (hpl : pl ≤ 4294967295) (hs : r.s_.length ≤ 65000) (hp : r.kaa.length ≤ 7999999999999) :
  J6 self r (pl : Int) path = dirR self r pl path := by
 unfold J6 dirR
 rw [show (2 : Int) = ((2 : Nat) : Int) from rfl, Je1 _ (by omega) hs, Jb, show ((2 : Nat) : Int) = 2 from rfl]
 by_cases ht : 8 ≤ pl ∧ pl + 2 ≤ r.s_.length
 ·rw [decide_eq_true ht, Bool.not_true, Qa, if_neg (by simp [ht]), n2 _ ht.2 hs, Jb]
  have hv := v2 r pl
  by_cases hsn : (Q2 r.kae (pl : Int)).getD false = true
  ·rw [if_pos hsn, hsn, Qq, Ym, Jb, Jbh _ _ _ _ _ (Ys _ (by decide))]
  ·rw [if_neg hsn, Bool.not_eq_true _ |>.mp hsn, Qa, cI, cI, cI]
   by_cases h20 : 20 < r.kad
   ·rw [if_pos h20, if_pos (.inl h20), Ym, Jb, Jbh _ _ _ _ _ (Ys _ (by decide))]
   rw [if_neg h20]
   by_cases h5 : 5 < path.length
   ·rw [if_pos (by omega), if_pos (.inr (.inl h5)), Ym, Jb, Jbh _ _ _ _ _ (Ys _ (by decide))]
   rw [if_neg (by omega)]
   by_cases h200 : 200 < Jr r pl 2
   ·rw [if_pos (by omega), if_pos (.inr (.inr h200)), Ym, Jb, Jbh _ _ _ _ _ (Ys _ (by decide))]
   rw [if_neg (by omega), if_neg (by omega), Ju (by omega), Jb, Ju (by omega), Jb, Ju (by omega), Jb, show (2 : Int) + 12 * (Jr r pl 2 : Int) + 4 = ((2 + 12 * Jr r pl 2 + 4 : Nat) : Int) by omega, Je1 _ (by omega) hs, Jb]
   by_cases hb : pl + (2 + 12 * Jr r pl 2 + 4) ≤ r.s_.length
   ·rw [decide_eq_true ⟨ht.1, hb⟩, Bool.not_true, Qa, if_neg (by omega)]
    by_cases hno : r.no_ = 0
    ·rw [if_neg (by simp [hno])]
     unfold Xp
     have hb' : pl + (2 + 12 * Jr r pl 2 + 4) ≤ r.s_.length := hb
     rw [cI, if_neg (by simp [hno]), Ju (by omega), Jb, Ju (by omega), Jb, Ju (by omega), Jb, Ju (by omega), Jb, Yw (by simp; omega), Jb, Jb, Jb, Ju (by omega), Jb,
      show (pl : Int) + 2 + 12 * (Jr r pl 2 : Int) = ((pl + 2 + 12 * Jr r pl 2 : Nat) : Int) by omega,
      show ((pl + 2 + 12 * Jr r pl 2 : Nat) : Int) + 4 = ((pl + (2 + 12 * Jr r pl 2 + 4) : Nat) : Int) by omega,
      n4 (a := pl + 2 + 12 * Jr r pl 2) (⟨r.s_, r.kab, r.kaa ++ [(⟨(pl : Int), ((pl + (2 + 12 * Jr r pl 2 + 4) : Nat) : Int)⟩ : Tc)], Yp r.kae (pl : Int) true, r.kad, r.kac, r.no_⟩ : Tb) (by show _ ≤ r.s_.length; omega) hs, Jb, cI, cI]
     by_cases h1 : 1 < path.length
     ·rw [if_pos (by omega)]
      by_cases hn : Jr r (pl + 2 + 12 * Jr r pl 2) 4 = 0
      ·rw [if_neg (by show ¬ ((Jr r (pl + 2 + 12 * Jr r pl 2) 4 : Nat) : Int) ≠ 0; omega), if_neg (by omega)]; rfl
      ·rw [if_pos (by show ((Jr r (pl + 2 + 12 * Jr r pl 2) 4 : Nat) : Int) ≠ 0; omega), if_pos ⟨h1, hn⟩, Ym, Jb]; rfl
     ·rw [if_neg (by omega), if_neg (by omega)]; rfl
    ·rw [if_pos hno, Jbh _ _ _ _ _ hno]
   ·rw [decide_eq_false (by omega), Bool.not_false, Qq, if_pos hb, Ym, Jb, Jbh _ _ _ _ _ (Ys _ (by decide))]
 ·rw [decide_eq_false ht, Bool.not_false, Qq, if_pos ht, Ym, Jb]
end Go.M

namespace Go.M
open Go.Md Go.Pl
def okS (n : Nat) (x : Tc) : Prop := 8 ≤ x.From ∧ x.From < x.To ∧ x.To ≤ (n : Int)
def Jcx (l : List Tc) : Int := (l.map fun x => x.To - x.From).sum
theorem Jis (a b : List Tc) : Jcx (a ++ b) = Jcx a + Jcx b := by unfold Jcx; rw [List.map_append, List.sum_append]
theorem lenS_nil : Jcx [] = 0 := rfl
theorem lenS_one (x : Tc) : Jcx [x] = x.To - x.From := by unfold Jcx; simp
def Adds (r r' : Tb) (K : Nat) (z : Int) : Prop :=
 r'.s_ = r.s_ ∧ r'.kab = r.kab ∧ r'.kad = r.kad ∧ r'.kac = r.kac ∧ ∃ new, r'.kaa = r.kaa ++ new ∧ (∀ x ∈ new, okS r.s_.length x) ∧ new.length ≤ K ∧ z ≤ Jcx new
theorem Adds.same (r : Tb) {K : Nat} {z : Int} (hz : z ≤ 0) : Adds r r K z := ⟨rfl, rfl, rfl, rfl, [], by simp, by simp, Nat.zero_le _, hz⟩
theorem Adds.fail (r : Tb) (e : Int) {K : Nat} {z : Int} (hz : z ≤ 0) : Adds r (fl r e) K z := by
 unfold fl; split
 ·exact ⟨rfl, rfl, rfl, rfl, [], by simp, by simp, Nat.zero_le _, hz⟩
 ·exact Adds.same r hz
theorem Adds.trans {a b c : Tb} {K L : Nat} {y z : Int} (h : Adds a b K y) (g : Adds b c L z) : Adds a c (K + L) (y + z) := by
 obtain ⟨h1, h2, h3, h4, n, h5, h6, h7, h8⟩ := h
 obtain ⟨g1, g2, g3, g4, m, g5, g6, g7, g8⟩ := g
 refine ⟨g1.trans h1, g2.trans h2, g3.trans h3, g4.trans h4, n ++ m, by rw [g5, h5, List.append_assoc], ?_, by rw [List.length_append]; omega, by rw [Jis]; omega⟩
 intro x hx
 rcases List.mem_append.1 hx with hx | hx
 ·exact h6 x hx
 ·rw [← h1]; exact g6 x hx
theorem Adds.mono {a b : Tb} {K L : Nat} {y z : Int} (h : Adds a b K y) (hK : K ≤ L) (hz : z ≤ y) : Adds a b L z := by
 obtain ⟨h1, h2, h3, h4, n, h5, h6, h7, h8⟩ := h
 exact ⟨h1, h2, h3, h4, n, h5, h6, by omega, by omega⟩
theorem Adds.part (r : Tb) (x : Tc) (seen : List (Int × Bool)) (h : okS r.s_.length x) : Adds r ⟨r.s_, r.kab, r.kaa ++ [x], seen, r.kad, r.kac, r.no_⟩ 1 (x.To - x.From) :=
 ⟨rfl, rfl, rfl, rfl, [x], rfl, fun y hy => by rw [List.mem_singleton.1 hy]; exact h, by simp, by rw [lenS_one]; omega⟩
theorem Adds.parts {r r' : Tb} {K : Nat} {z : Int} (h : Adds r r' K z) : r'.kaa.length ≤ r.kaa.length + K := by
 obtain ⟨_, _, _, _, n, h5, _, h7, _⟩ := h
 rw [h5, List.length_append]; omega
theorem Adds.len {r r' : Tb} {K : Nat} {z : Int} (h : Adds r r' K z) : r'.s_.length = r.s_.length := by rw [h.1]
def szV (v : Te) : Nat := v.kaj.length + v.kak.length + v.kah.length
theorem valT_adds (r : Tb) {k : Int} {c : Nat} {b : List UInt8} (hw : J3 k ≠ 0) (hb : b.length ≤ c * J3 k) : Adds r (Jd9 r k c b).2 0 0 ∧ szV (Jd9 r k c b).1 ≤ c * J3 k ∧ (Jd9 r k c b).1.kag = [] := by
 have hcw : c ≤ c * J3 k := Nat.le_mul_of_pos_right _ (by omega)
 unfold Jd9
 by_cases h2 : k = 2
 ·rw [if_pos h2]
  split
  ·exact ⟨Adds.fail _ _ (by omega), by simp [szV], rfl⟩
  ·refine ⟨?_, by simp [szV]; omega, rfl⟩
   simp only
   split
   ·exact Adds.fail _ _ (by omega)
   ·exact Adds.same _ (by omega)
 rw [if_neg h2]
 by_cases h7 : k = 7
 ·rw [if_pos h7]; exact ⟨Adds.same _ (by omega), by simp [szV]; omega, rfl⟩
 rw [if_neg h7]
 by_cases h5 : k = 5
 ·rw [if_pos h5]; exact ⟨Adds.same _ (by omega), by simp [szV]; omega, rfl⟩
 rw [if_neg h5]; exact ⟨Adds.same _ (by omega), by simp [szV]; omega, rfl⟩
theorem valR_adds (r : Tb) {k : Int} {c a : Nat} (hw : J3 k ≠ 0) : Adds r (Jeb r k c a).2 1 ((szV (Jeb r k c a).1 : Int) - 4) ∧ (Jeb r k c a).1.kag = [] := by
 unfold Jeb
 by_cases h4 : 4 < c * J3 k
 ·rw [if_pos h4]
  simp only
  split
  ·rename_i h
   obtain ⟨a1, a2, a3⟩ := valT_adds ⟨r.s_, r.kab, r.kaa ++ [⟨(Jao r.kab ((r.s_.drop a).take 4) : Nat), ((Jao r.kab ((r.s_.drop a).take 4) + c * J3 k : Nat) : Int)⟩], r.kae, r.kad, r.kac, r.no_⟩ (k := k) (c := c) (b := (r.s_.drop (Jao r.kab ((r.s_.drop a).take 4))).take (c * J3 k)) hw (by rw [List.length_take]; omega)
   refine ⟨((Adds.part r ⟨(Jao r.kab ((r.s_.drop a).take 4) : Nat), ((Jao r.kab ((r.s_.drop a).take 4) + c * J3 k : Nat) : Int)⟩ r.kae ⟨by simp only; omega, by simp only; omega, by simp only; omega⟩).trans a1).mono (by omega) ?_, a3⟩
   simp only; omega
  ·exact ⟨Adds.fail _ _ (by simp [szV]), rfl⟩
 ·rw [if_neg h4]
  obtain ⟨a1, a2, a3⟩ := valT_adds r (k := k) (c := c) (b := (r.s_.drop a).take (c * J3 k)) hw (by rw [List.length_take]; omega)
  exact ⟨a1.mono (by omega) (by omega), a3⟩
def Y4 : Nat → Nat
 | 0 => 0
 | d + 1 => 1 + 200 * (1 + Y4 d)
def Jgg (d : Nat) (self : Wj) : Prop := ∀ (r : Tb) (pl : Nat) (path : List Int), path.length + d = 6 → pl ≤ 4294967295 → r.s_.length ≤ 65000 → r.kaa.length + Y4 d ≤ 7999999999999 → r.kac ≤ 0 →
 ∃ (l : List Ta) (nx : Nat) (r' : Tb), self (r, (pl : Int), path) = some (l, (nx : Int), r') ∧ nx ≤ 4294967295 ∧ Adds r r' (Y4 d) (szD d l : Nat) ∧ (20 < r.kad → r'.no_ ≠ 0)
theorem Jfv {d : Nat} {self : Wj} (H : Jgg d self) (r : Tb) {a : Nat} {path : List Int} (hpl : path.length + d + 1 = 6) (hs : r.s_.length ≤ 65000) (hp : r.kaa.length + (1 + Y4 d) ≤ 7999999999999) (hf : r.kac ≤ 0) :
  ∃ e r', entR self r a path = some (e, r') ∧ Adds r r' (1 + Y4 d) ((szE d e : Nat) - 5 : Int) := by
 unfold entR
 split
 ·split
  ·obtain ⟨l, nx, r', h1, h2, h3, _⟩ := H r (Jr r (a + 8) 4) (path ++ [(Jr r a 2 : Int)]) (by simp; omega) (v4 _ _) hs (by omega) hf
   rw [h1, Jb]
   exact ⟨_, _, rfl, h3.mono (by omega) (by simp only [szE, List.length_nil]; omega)⟩
  ·refine ⟨_, _, rfl, Adds.fail _ _ ?_⟩
   have : szD d [] = 0 := by cases d <;> rfl
   simp only [szE, List.length_nil, this]; omega
 ·split
  ·refine ⟨_, _, rfl, Adds.fail _ _ ?_⟩
   have : szD d [] = 0 := by cases d <;> rfl
   simp only [szE, List.length_nil, this]; omega
  ·rename_i h13 h0
   obtain ⟨a1, a2⟩ := valR_adds r (k := (Jr r (a + 2) 2 : Int)) (c := Jr r (a + 4) 4) (a := a + 8) h0
   refine ⟨_, _, rfl, a1.mono (by omega) ?_⟩
   have : szD d [] = 0 := by cases d <;> rfl
   simp only [szE, a2, this, szV]; omega
theorem Jfm (d : Nat) (e : Ta) : ∀ l : List Ta, szD (d + 1) (l ++ [e]) = szD (d + 1) l + szE d e
 | [] => by rw [List.nil_append, Je8, Jci]; omega
 | x :: l => by rw [List.cons_append, Je8, Je8, Jfm d e l]; omega
theorem loop_adds {d : Nat} {self : Wj} (H : Jgg d self) {path : List Int} (hpl : path.length + d + 1 = 6) (r : Tb) {pl nxt cnt : Nat} (hs : r.s_.length ≤ 65000) (hcnt : cnt ≤ 200) (hin : pl + 2 + 12 * cnt ≤ r.s_.length) (hp : r.kaa.length + Y4 (d + 1) ≤ 7999999999999) (hf : r.kac ≤ 0) :
  ∀ (m i : Nat) (rc : Tb) (l : List Ta), i + m = cnt → l.length = i → Adds r rc (1 + i * (1 + Y4 d)) ((szD (d + 1) l : Nat) + 12 * m : Int) →
   ∃ l' r', Jch self path pl nxt cnt i rc l = some (l', (nxt : Int), r') ∧ Adds r r' (Y4 (d + 1)) (szD (d + 1) l' : Nat) := by
 intro m
 have hcap : ∀ i, i ≤ 200 → 1 + i * (1 + Y4 d) ≤ Y4 (d + 1) := fun i hi => by
  show _ ≤ 1 + 200 * (1 + Y4 d)
  have := Nat.mul_le_mul_right (1 + Y4 d) hi; omega
 induction m with
 | zero =>
  intro i rc l him hl hA
  exact ⟨l, rc, Jaa _ _ _ _ _ _ _ _ (.inl (by omega)), hA.mono (hcap i (by omega)) (by omega)⟩
 | succ m ih =>
  intro i rc l him hl hA
  have hend : Adds r rc (Y4 (d + 1)) (szD (d + 1) l : Nat) := hA.mono (hcap i (by omega)) (by omega)
  have hsl := hA.len
  by_cases hno : rc.no_ = 0
  ·have hin' : pl + 2 + 12 * cnt ≤ rc.s_.length := by omega
   by_cases hlow : ∃ h : 0 < i, (Jr rc (pl + 2 + 12 * i) 2 : Int) ≤ (l[i - 1]'(by omega)).Tag
   ·obtain ⟨h0, hlow⟩ := hlow
    exact ⟨l, fl rc 5, Jhe _ _ _ _ _ _ _ _ (by omega) hno h0 (by omega) hin' (by omega) hlow, (hend.trans (Adds.fail rc 5 (K := 0) (z := 0) (by omega))).mono (by omega) (by omega)⟩
   ·have hi1 := hcap (i + 1) (by omega)
    rw [Nat.add_mul, Nat.one_mul] at hi1
    have hpr := hA.parts
    obtain ⟨e, r', he, hA'⟩ := Jfv H rc (a := pl + 2 + 12 * i) hpl (by omega) (by omega) (by rw [hA.2.2.2.1]; exact hf)
    rw [Jft self path pl nxt cnt i rc l (by omega) hno hl (by omega) hin' (by omega) (fun h hh => hlow ⟨h, hh⟩) (by omega) (by rw [hA.2.2.2.1]; exact hf) (by omega) he]
    refine ih (i + 1) r' (l ++ [e]) (by omega) (by simp; omega) ((hA.trans hA').mono (by rw [Nat.add_mul, Nat.one_mul]; omega) ?_)
    rw [Jfm]; omega
  ·exact ⟨l, rc, Jaa _ _ _ _ _ _ _ _ (.inr hno), hend⟩
theorem dirR_ok {d : Nat} {self : Wj} (H : Jgg d self) (r : Tb) (pl : Nat) (path : List Int) (hpl : path.length + d + 1 = 6) (hs : r.s_.length ≤ 65000) (hp : r.kaa.length + Y4 (d + 1) ≤ 7999999999999) (hf : r.kac ≤ 0) :
  ∃ (l : List Ta) (nx : Nat) (r' : Tb), dirR self r pl path = some (l, (nx : Int), r') ∧ nx ≤ 4294967295 ∧ Adds r r' (Y4 (d + 1)) (szD (d + 1) l : Nat) ∧ (20 < r.kad → r'.no_ ≠ 0) := by
 unfold dirR
 split
 ·exact ⟨[], 0, _, rfl, by omega, Adds.fail _ _ (by rw [Jci]; omega), fun _ => Ys _ (by decide)⟩
 rename_i h8
 split
 ·exact ⟨[], 0, _, rfl, by omega, Adds.fail _ _ (by rw [Jci]; omega), fun _ => Ys _ (by decide)⟩
 split
 ·exact ⟨[], 0, _, rfl, by omega, Adds.fail _ _ (by rw [Jci]; omega), fun _ => Ys _ (by decide)⟩
 rename_i hlim
 split
 ·exact ⟨[], 0, _, rfl, by omega, Adds.fail _ _ (by rw [Jci]; omega), fun _ => Ys _ (by decide)⟩
 rename_i hin
 split
 ·rename_i hno
  exact ⟨[], 0, _, rfl, by omega, Adds.same _ (by rw [Jci]; omega), fun _ => hno⟩
 have hpart := Adds.part r ⟨(pl : Int), ((pl + (2 + 12 * Jr r pl 2 + 4) : Nat) : Int)⟩ (Yp r.kae (pl : Int) true) ⟨by simp only; omega, by simp only; omega, by simp only; omega⟩
 have run : ∀ r2 : Tb, Adds r r2 1 ((2 + 12 * Jr r pl 2 + 4 : Nat) : Int) → ∃ (l : List Ta) (nx : Nat) (r' : Tb), Jch self path pl (Jr r (pl + 2 + 12 * Jr r pl 2) 4) (Jr r pl 2) 0 r2 [] = some (l, (nx : Int), r') ∧ nx ≤ 4294967295 ∧ Adds r r' (Y4 (d + 1)) (szD (d + 1) l : Nat) ∧ (20 < r.kad → r'.no_ ≠ 0) := by
  intro r2 h2
  obtain ⟨l, r', h3, h4⟩ := loop_adds (nxt := Jr r (pl + 2 + 12 * Jr r pl 2) 4) H hpl r hs (show Jr r pl 2 ≤ 200 by omega) (show pl + 2 + 12 * Jr r pl 2 ≤ r.s_.length by omega) hp hf (Jr r pl 2) 0 r2 [] (by omega) rfl (h2.mono (by omega) (by rw [Jci]; omega))
  exact ⟨l, _, r', h3, v4 _ _, h4, fun h => absurd h (by omega)⟩
 split
 ·exact run _ ((hpart.trans (Adds.fail _ 1 (K := 0) (z := 0) (by omega))).mono (by omega) (by simp only; omega))
 ·exact run _ (hpart.mono (by omega) (by simp only; omega))
theorem dirR_zero {self : Wj} (r : Tb) (pl : Nat) (path : List Int) (hpl : path.length = 6) : ∃ r', dirR self r pl path = some ([], 0, r') ∧ Adds r r' 0 0 ∧ r'.no_ ≠ 0 := by
 unfold dirR
 split
 ·exact ⟨_, rfl, Adds.fail _ _ (by omega), Ys _ (by decide)⟩
 split
 ·exact ⟨_, rfl, Adds.fail _ _ (by omega), Ys _ (by decide)⟩
 rw [if_pos (.inr (.inl (by omega)))]
 exact ⟨_, rfl, Adds.fail _ _ (by omega), Ys _ (by decide)⟩
theorem it_ok : ∀ (d n : Nat), d < n → Jgg d (it (fun (self : Wj) (s : Tb × Int × List Int) => J6 self s.1 s.2.1 s.2.2) n) := by
 intro d
 induction d with
 | zero =>
  intro n hn r pl path h6 hpl hs hp hf
  obtain ⟨n, rfl⟩ : ∃ m, n = m + 1 := ⟨n - 1, by omega⟩
  obtain ⟨r', h1, h2, h3⟩ := dirR_zero (self := it (fun (self : Wj) (s : Tb × Int × List Int) => J6 self s.1 s.2.1 s.2.2) n) r pl path (by omega)
  refine ⟨[], 0, r', ?_, by omega, h2, fun _ => h3⟩
  show J6 _ r (pl : Int) path = _
  rw [Jde _ r hpl hs (by omega), h1]; rfl
 | succ d ih =>
  intro n hn r pl path h6 hpl hs hp hf
  obtain ⟨n, rfl⟩ : ∃ m, n = m + 1 := ⟨n - 1, by omega⟩
  obtain ⟨l, nx, r', h1, h2⟩ := dirR_ok (ih n (by omega)) r pl path (by omega) hs hp hf
  refine ⟨l, nx, r', ?_, h2⟩
  show J6 _ r (pl : Int) path = _
  rw [Jde _ r hpl hs (by omega), h1]
theorem entry_congr {self self' : Wj} {path : List Int} (h : ∀ r pl p, p.length = path.length + 1 → self (r, pl, p) = self' (r, pl, p)) (r : Tb) (a : Int) : X1 self r a path = X1 self' r a path := by
 unfold X1
 refine Q8 fun t13 _ => Q8 fun _ _ => Q8 fun _ _ => Q8 fun _ _ => Q8 fun _ _ => Q8 fun t23 h23 => Q8 fun l26 h26 => ?_
 have hl : l26.length = path.length + 1 := by
  unfold Y5 at h23
  cases hg : Wb 8 ([] : List Int) path with
  | none => rw [hg] at h23; cases h23
  | some u => rw [hg, Jb] at h23; cases h23; rw [(Ja5 h26).1, (Ja5 hg).1]; simp
 have e : ∀ x y, self (x, y, l26) = self' (x, y, l26) := fun x y => h x y l26 hl
 unfold Vf
 simp only [e]
theorem loop_congr {self self' : Wj} {path : List Int} (h : ∀ r pl p, p.length = path.length + 1 → self (r, pl, p) = self' (r, pl, p)) (r : Tb) (pl : Int) : J6 self r pl path = J6 self' r pl path := by
 have e : ∀ r a, X1 self r a path = X1 self' r a path := entry_congr h
 have e4 : Xo path self = Xo path self' := by
  funext next x1 x7 x9 x10 m1 m2 m3 m4 m5 l1 mp l2
  unfold Xo V3
  simp only [e]
 have e1 : ∀ a1 t m m2 m3 m4 m5 l mp, Xp a1 path self t m m2 m3 m4 m5 l mp = Xp a1 path self' t m m2 m3 m4 m5 l mp := by
  intro a1 t m m2 m3 m4 m5 l mp
  unfold Xp Uf
  rw [e4]
 unfold J6
 simp only [e1]
theorem deep_congr {self self' : Wj} {path : List Int} (h : 5 < path.length) (r : Tb) (pl : Int) : J6 self r pl path = J6 self' r pl path := by
 unfold J6
 refine Q8 fun t _ => Wm (fun _ => rfl) fun _ => Q8 fun c _ => Wm (fun _ => ?_) fun _ => Wm (fun _ => ?_) fun _ => ?_
 ·rw [Ym, Jb, Jb, Jbh _ _ _ _ _ (Ys _ (by decide)), Jbh _ _ _ _ _ (Ys _ (by decide))]
 ·rw [Ym, Jb, Jb, Jbh _ _ _ _ _ (Ys _ (by decide)), Jbh _ _ _ _ _ (Ys _ (by decide))]
 ·rw [cI, if_pos (by omega), cI, if_pos (by omega), Ym, Jb, Jb, Jbh _ _ _ _ _ (Ys _ (by decide)), Jbh _ _ _ _ _ (Ys _ (by decide))]
noncomputable abbrev dirF : Wj → Wj := fun self s => J6 self s.1 s.2.1 s.2.2
theorem it_same : ∀ (d n m : Nat), d < n → d < m → ∀ (r : Tb) (pl : Int) (path : List Int), path.length + d = 6 → it dirF n (r, pl, path) = it dirF m (r, pl, path) := by
 intro d
 induction d with
 | zero =>
  intro n m hn hm r pl path h6
  obtain ⟨n, rfl⟩ : ∃ k, n = k + 1 := ⟨n - 1, by omega⟩
  obtain ⟨m, rfl⟩ : ∃ k, m = k + 1 := ⟨m - 1, by omega⟩
  exact deep_congr (path := path) (by omega) r pl
 | succ d ih =>
  intro n m hn hm r pl path h6
  obtain ⟨n, rfl⟩ : ∃ k, n = k + 1 := ⟨n - 1, by omega⟩
  obtain ⟨m, rfl⟩ : ∃ k, m = k + 1 := ⟨m - 1, by omega⟩
  exact loop_congr (path := path) (fun r pl p hp => ih n m (by omega) (by omega) r pl p (by omega)) r pl
theorem dir_it (r : Tb) (pl : Int) (path : List Int) (h1 : path.length = 1) : Vx r pl path = it dirF 6 (r, pl, path) := by
 unfold Vx
 exact Jdu (k := 6) fun n hn => it_same 5 n 6 (by omega) (by omega) r pl path (by omega)
theorem dir_ok (r : Tb) (pl : Nat) (path : List Int) (h6 : path.length = 1) (hpl : pl ≤ 4294967295) (hs : r.s_.length ≤ 65000) (hp : r.kaa.length + Y4 5 ≤ 7999999999999) (hf : r.kac ≤ 0) :
  ∃ (l : List Ta) (nx : Nat) (r' : Tb), Vx r (pl : Int) path = some (l, (nx : Int), r') ∧ nx ≤ 4294967295 ∧ Adds r r' (Y4 5) (szD 5 l : Nat) ∧ (20 < r.kad → r'.no_ ≠ 0) := by
 rw [dir_it _ _ _ h6]
 exact it_ok 5 6 (by omega) r pl path (by omega) hpl hs hp hf
end Go.M

namespace Go.M
open Go.Md Go.Pl
def cmpI (a b : Int) : Int := if a < b then -1 else if b < a then 1 else 0
theorem Jgv (a b : Int) : cmp_Compare_int a b = some (cmpI a b) := by
 unfold cmp_Compare_int Jam cmpI
 rw [Jb, Jb, decide_eq_false (by simp), decide_eq_false (by simp), Qa, Qa, cI, cI]
 split
 ·rfl
 split <;> rfl
theorem or2_eq (a b : Int) : Jdd [a, b] = some (if a ≠ 0 then a else b) := by
 unfold Jdd
 by_cases ha : a = 0
 ·rw [if_neg (by simp [ha])]
  rw [Xu (1 : Int) fun next => by
   unfold Zn
   rw [cI, if_pos (by simp), show Zb [a, b] 0 = some a from rfl, Jb, cI, if_neg (by simp [ha]), Ju (by omega), Jb]; rfl]
  by_cases hb : b = 0
  ·rw [Xu (2 : Int) fun next => by
    unfold Zn
    rw [cI, if_pos (by simp), show Zb [a, b] 1 = some b from rfl, Jb, cI, if_neg (by simp [hb]), Ju (by omega), Jb]; rfl]
   exact Qr fun next => by
    unfold Zn
    rw [cI, if_neg (by simp), hb]
  ·exact Qr fun next => by
    unfold Zn
    rw [cI, if_pos (by simp), show Zb [a, b] 1 = some b from rfl, Jb, cI, if_pos hb]
 ·rw [if_pos ha]
  exact Qr fun next => by
   unfold Zn
   rw [cI, if_pos (by simp), show Zb [a, b] 0 = some a from rfl, Jb, cI, if_pos ha]
theorem Jje (x y : Tc) : Qf x y = some (if cmpI x.From y.From ≠ 0 then cmpI x.From y.From else cmpI x.To y.To) := by
 unfold Qf
 rw [Jgv, Jb, Jgv, Jb, or2_eq, Jb]
theorem Jd7 (x y : Tc) : (Qf x y).getD 0 ≤ 0 ↔ x.From < y.From ∨ (x.From = y.From ∧ x.To ≤ y.To) := by
 rw [Jje, Option.getD_some]; unfold cmpI
 (repeat' split) <;> omega
theorem spans_lt (x y : Tc) : (Qf x y).getD 0 < 0 ↔ x.From < y.From ∨ (x.From = y.From ∧ x.To < y.To) := by
 rw [Jje, Option.getD_some]; unfold cmpI
 (repeat' split) <;> omega
theorem spans_ok : CmpOk Qf where
 tot x y := ⟨_, Jje x y⟩
 flip x y := by
  have h1 := spans_lt x y
  have h2 := Jd7 y x
  omega
 trans x y z := by
  rw [Jd7, Jd7, Jd7]; omega
 anti x y h := by
  have h1 := Jd7 x y
  have h2 := spans_lt x y
  have h3 : x.From = y.From ∧ x.To = y.To := by omega
  cases x; cases y; simp only at h3; rw [h3.1, h3.2]
theorem lenS_perm {a b : List Tc} (h : a.Perm b) : Jcx a = Jcx b := by
 unfold Jcx
 induction h with
 | nil => rfl
 | cons x _ ih => simp only [List.map_cons, List.sum_cons, ih]
 | swap x y l => simp only [List.map_cons, List.sum_cons]; omega
 | trans _ _ h1 h2 => exact h1.trans h2
def sepS (n : Int) : Int → List Tc → Prop
 | a, [] => a ≤ n
 | a, x :: l => a ≤ x.From ∧ x.From < x.To ∧ sepS n x.To l
theorem Jit {n : Int} : ∀ {l : List Tc} {a : Int}, sepS n a l → a ≤ n ∧ (l.length : Int) ≤ n - a ∧ Jcx l ≤ n - a
 | [], a, h => ⟨h, by simp; exact h, by rw [lenS_nil]; have : a ≤ n := h; omega⟩
 | x :: l, a, h => by
  obtain ⟨h1, h2, h3⟩ := Jit h.2.2
  have h4 := h.1
  have h5 := h.2.1
  refine ⟨by omega, by rw [List.length_cons]; omega, ?_⟩
  have : Jcx (x :: l) = x.To - x.From + Jcx l := by unfold Jcx; simp
  rw [this]; omega
def lapP (l : List Tc) : Prop := ∃ i : Nat, ∃ h : i + 1 < l.length, (l[i + 1]'h).From < (l[i]'(by omega)).To
open Classical in
theorem Ji2 (l : List Tc) (hl : l.length ≤ 1099511627776000) : Jaw l = some (decide (lapP l)) := by
 have key : ∀ m i : Nat, i + m = l.length → 1 ≤ i → Vv (fun next1 s => Vw l next1 s) (i : Int) = some (decide (∃ j : Nat, i ≤ j + 1 ∧ ∃ h : j + 1 < l.length, (l[j + 1]'h).From < (l[j]'(by omega)).To)) := by
  intro m
  induction m with
  | zero =>
   intro i hi h1
   refine Qr fun next => ?_
   unfold Vw
   rw [cI, if_neg (by omega)]
   congr 1; symm
   rw [decide_eq_false_iff_not]
   rintro ⟨j, h2, h3, _⟩; omega
  | succ m ih =>
   intro i hi h1
   have hh : ∀ next : Int → Option Bool, Vw l next (i : Int) = if (l[i]'(by omega)).From < (l[i - 1]'(by omega)).To then some true else next ((i + 1 : Nat) : Int) := by
    intro next
    unfold Vw
    rw [cI, if_pos (by omega), Xa (by omega), Jb, Ju (by omega), Jb, show (i : Int) - 1 = ((i - 1 : Nat) : Int) by omega, Xa (by omega), Jb, cI]
    split
    ·rfl
    ·rw [Ju (by omega), Jb]; rfl
   by_cases hlap : (l[i]'(by omega)).From < (l[i - 1]'(by omega)).To
   ·rw [Qr (o := some true) fun next => by rw [hh, if_pos hlap]]
    congr 1; symm
    rw [decide_eq_true_iff]
    obtain ⟨k, rfl⟩ : ∃ k, i = k + 1 := ⟨i - 1, by omega⟩
    exact ⟨k, by omega, by omega, hlap⟩
   ·rw [Xu (((i + 1 : Nat) : Int)) fun next => by rw [hh, if_neg hlap], ih (i + 1) (by omega) (by omega)]
    congr 1
    rw [decide_eq_decide]
    constructor
    ·rintro ⟨j, h2, h3⟩; exact ⟨j, by omega, h3⟩
    ·rintro ⟨j, h2, h3, h4⟩
     rcases Nat.lt_or_ge i (j + 1) with h5 | h5
     ·exact ⟨j, by omega, h3, h4⟩
     ·exfalso
      have : i = j + 1 := by omega
      subst this
      exact hlap h4
 unfold Jaw
 rcases Nat.lt_or_ge l.length 1 with h0 | h0
 ·rw [Qr (o := some false) fun next => by unfold Vw; rw [cI, if_neg (by omega)]]
  congr 1; symm
  rw [decide_eq_false_iff_not]
  rintro ⟨j, h3, _⟩; omega
 ·rw [show (1 : Int) = ((1 : Nat) : Int) from rfl, key (l.length - 1) 1 (by omega) (by omega)]
  congr 1
  rw [decide_eq_decide]
  constructor
  ·rintro ⟨j, _, h3⟩; exact ⟨j, h3⟩
  ·rintro ⟨j, h3⟩; exact ⟨j, by omega, h3⟩
theorem sep_of {n : Nat} : ∀ {l : List Tc} {a : Int}, (∀ x ∈ l, okS n x) → ¬ lapP l → (∀ x ∈ l.head?, a ≤ x.From) → a ≤ n → sepS n a l
 | [], a, _, _, _, ha => ha
 | x :: l, a, h, hl, hh, ha => by
  have hx := h x (by simp)
  refine ⟨hh x (by simp), hx.2.1, sep_of (fun y hy => h y (by simp [hy])) ?_ ?_ hx.2.2⟩
  ·rintro ⟨i, hi, hlt⟩
   exact hl ⟨i + 1, by simp at hi ⊢; omega, by simpa using hlt⟩
  ·intro y hy
   cases l with
   | nil => simp at hy
   | cons z l =>
    simp at hy; subst hy
    by_cases hz : x.To ≤ z.From
    ·exact hz
    ·exfalso
     exact hl ⟨0, by simp, by simp; omega⟩
theorem Jh8 (s : List UInt8) : ∃ b, U7 s = some b ∧ (b = true → 8 ≤ s.length) := by
 unfold U7
 rw [cI]
 by_cases h : (s.length : Int) < 8
 ·rw [if_pos h]; exact ⟨_, rfl, by simp⟩
 ·rw [if_neg h, Jb6 (by omega), Jb, cI, Jb]
  split <;> exact ⟨_, rfl, fun _ => by omega⟩
noncomputable def Je7 (t : Int) (nx : Nat) (r : Tb) (ls : List (List Ta)) : Option (Th × List Tc × Int) :=
 Vv (fun next4 s => Uv t next4 s.1 s.2.1 s.2.2.1 s.2.2.2.1 s.2.2.2.2.1 s.2.2.2.2.2.1 s.2.2.2.2.2.2.1 s.2.2.2.2.2.2.2.1 s.2.2.2.2.2.2.2.2) ((nx : Int), r.s_, r.kab, r.kad, r.kac, r.no_, r.kaa, ls, r.kae)
theorem Jh1 (t : Int) (nx : Nat) (r : Tb) (ls : List (List Ta)) (h : nx = 0 ∨ r.no_ ≠ 0) : Je7 t nx r ls = Zy t r.s_ r.kab r.kad r.kac r.no_ r.kaa ls r.kae := by
 refine Qr fun next => ?_
 show Uv t next (nx : Int) r.s_ r.kab r.kad r.kac r.no_ r.kaa ls r.kae = _
 unfold Uv
 rw [cI]
 by_cases h0 : nx = 0
 ·rw [if_neg (by simp [h0])]
 ·rw [if_pos (by simpa using h0), cI, if_neg (h.resolve_left h0)]
theorem rd_next (t : Int) (nx : Nat) (r : Tb) (ls : List (List Ta)) (h0 : nx ≠ 0) (hno : r.no_ = 0) (hd : 0 ≤ r.kad ∧ r.kad ≤ 1000) (hl : ls.length ≤ 1000) {l : List Ta} {nx' : Nat} {r' : Tb}
  (h : Vx ⟨r.s_, r.kab, r.kaa, r.kae, r.kad + 1, r.kac, r.no_⟩ (nx : Int) [(ls.length : Int)] = some (l, (nx' : Int), r')) : Je7 t nx r ls = Je7 t nx' r' (ls ++ [l]) := by
 refine Xu _ fun next => ?_
 show Uv t next (nx : Int) r.s_ r.kab r.kad r.kac r.no_ r.kaa ls r.kae = _
 unfold Uv
 rw [cI, if_pos (by simpa using h0), cI, if_pos hno, Ju (by omega), Jb, h, Jb, Yw (by simp; omega), Jb]
open Classical in
theorem read_j1 (t : Int) (r : Tb) (ls : List (List Ta)) (hs : 8 ≤ r.s_.length ∧ r.s_.length ≤ 65000) (hp : r.kaa.length ≤ 8000000000000) (hok : ∀ x ∈ r.kaa, okS r.s_.length x) (hsz : (((ls.map (szD 5)).sum : Nat) : Int) ≤ Jcx r.kaa) (hl : ls.length ≤ 1000) :
  ∃ f ps e, Zy t r.s_ r.kab r.kad r.kac r.no_ r.kaa ls r.kae = some (f, ps, e) ∧ (e = 0 → sepS r.s_.length 8 ps) := by
 unfold Zy
 have hperm := List.mergeSort_perm r.kaa (leC Qf)
 have hS : Jdv r.kaa Qf = some (r.kaa.mergeSort (leC Qf)) := if_pos ⟨by omega, spans_ok⟩
 rw [hS, Jb, cI]
 generalize r.kaa.mergeSort (leC Qf) = ps at hperm
 have hlen : Jcx ps = Jcx r.kaa := lenS_perm hperm
 have hfail : ∀ e : Int, e ≠ 0 → Ze t ls ps e = some (⟨false, []⟩, [], e) := fun e he => by unfold Ze; rw [cI, if_pos he]
 by_cases hno : r.no_ = 0
 ·rw [if_pos hno, Ji2 _ (by rw [hperm.length_eq]; omega), Jb, cI]
  by_cases hlap : lapP ps
  ·rw [if_pos hlap]
   unfold Zd
   rw [cI, if_neg (by decide), hfail 6 (by decide)]
   exact ⟨_, _, _, rfl, by simp⟩
  ·rw [if_neg hlap]
   have hsep : sepS r.s_.length 8 ps := by
    refine sep_of (fun x hx => hok x (hperm.mem_iff.1 hx)) hlap (fun x hx => ?_) (by omega)
    exact (hok x (hperm.mem_iff.1 (List.mem_of_mem_head? hx))).1
   have hsum := (Jit hsep).2.2
   have hB : Jhq (⟨decide (t = 77), ls⟩ : Th) := fileB_of (by show ls.length ≤ _; omega) (by show (ls.map (szD 5)).sum ≤ _; omega)
   unfold Zd
   rw [cI, if_pos hno, Jiv hB, Jb]
   by_cases he : Je3 (⟨decide (t = 77), ls⟩ : Th) = 0
   ·unfold Ze
    rw [cI, if_neg (by simp [he])]
    exact ⟨_, _, _, rfl, fun _ => hsep⟩
   ·rw [hfail _ he]
    exact ⟨_, _, _, rfl, fun h => absurd h he⟩
 ·rw [if_neg hno]
  unfold Zd
  rw [cI, if_neg hno, hfail _ hno]
  exact ⟨_, _, _, rfl, fun h => absurd h hno⟩
theorem rd_ok (t : Int) : ∀ (m D nx : Nat) (r : Tb) (ls : List (List Ta)), D + m = 21 → nx ≤ 4294967295 → r.kad = D → ls.length = D → (D ≤ 20 ∨ r.no_ ≠ 0) → (8 ≤ r.s_.length ∧ r.s_.length ≤ 65000) → r.kaa.length ≤ D * 323216080401 → (∀ x ∈ r.kaa, okS r.s_.length x) → (((ls.map (szD 5)).sum : Nat) : Int) ≤ Jcx r.kaa → r.kac ≤ 0 →
  ∃ f ps e, Je7 t nx r ls = some (f, ps, e) ∧ (e = 0 → sepS r.s_.length 8 ps) := by
 have hcap : Y4 5 = 323216080401 := by rfl
 intro m
 induction m with
 | zero =>
  intro D nx r ls hD hnx hd hl h20 hs hp hok hsz hf
  rw [Jh1 _ _ _ _ (.inr (h20.resolve_left (by omega)))]
  exact read_j1 t r ls hs (by omega) hok hsz (by omega)
 | succ m ih =>
  intro D nx r ls hD hnx hd hl h20 hs hp hok hsz hf
  by_cases hend : nx = 0 ∨ r.no_ ≠ 0
  ·rw [Jh1 _ _ _ _ hend]
   exact read_j1 t r ls hs (by omega) hok hsz (by omega)
  ·have h0 : nx ≠ 0 := fun h => hend (.inl h)
   have hno : r.no_ = 0 := Classical.byContradiction fun h => hend (.inr h)
   obtain ⟨l, nx', r', h1, h2, h3, h4⟩ := dir_ok ⟨r.s_, r.kab, r.kaa, r.kae, r.kad + 1, r.kac, r.no_⟩ nx [(ls.length : Int)] rfl hnx hs.2 (by show r.kaa.length + Y4 5 ≤ _; rw [hcap]; omega) hf
   rw [rd_next t nx r ls h0 hno (by omega) (by omega) h1]
   have hlen' := h3.len
   have hsl : r'.s_.length = r.s_.length := hlen'
   have hpa := h3.parts
   rw [hcap] at hpa
   have hpa' : r'.kaa.length ≤ r.kaa.length + 323216080401 := hpa
   obtain ⟨g1, g2, g3, g4, new, g5, g6, g7, g8⟩ := h3
   have g5' : r'.kaa = r.kaa ++ new := g5
   have := ih (D + 1) nx' r' (ls ++ [l]) (by omega) h2 (by have : r'.kad = r.kad + 1 := g3; omega) (by simp; omega) (by
    by_cases hh : D + 1 ≤ 20
    ·exact .inl hh
    ·exact .inr (h4 (by show 20 < r.kad + 1; omega))) (by omega) (by omega) (by
    intro x hx
    rw [g5'] at hx
    rw [hsl]
    rcases List.mem_append.1 hx with hx | hx
    ·exact hok x hx
    ·exact g6 x hx) (by
    rw [g5', Jis, List.map_append, List.sum_append]
    simp only [List.map_cons, List.map_nil, List.sum_cons, List.sum_nil]
    omega) (by have : r'.kac = r.kac := g4; omega)
   rw [hsl] at this
   exact this
theorem read_ok (s : List UInt8) {fd : Nat} (hfd : fd ≤ 0) : ∃ f ps e, Jb5 s fd = some (f, ps, e) ∧ (e = 0 → s.length ≤ 65000 ∧ sepS s.length 8 ps) := by
 unfold Jb5
 rw [cI]
 by_cases hl : (65000 : Int) < s.length
 ·rw [if_pos hl]; exact ⟨_, _, _, rfl, by simp⟩
 ·obtain ⟨b, hb, hb8⟩ := Jh8 s
  rw [if_neg hl, hb, Jb]
  cases b with
  | false => rw [Bool.not_false, Qq]; exact ⟨_, _, _, rfl, by simp⟩
  | true =>
   have h8 := hb8 rfl
   rw [Bool.not_true, Qa, show (0 : Int) = ((0 : Nat) : Int) from rfl, Jau (by omega), Jb, show (4 : Int) = ((4 : Nat) : Int) from rfl, Jc5 (a := 4) (k := 4) _ (by show 4 + 4 ≤ s.length; omega) (by omega) (by show s.length ≤ 65000; omega), Jb]
   obtain ⟨f, ps, e, h1, h2⟩ := rd_ok ((s[0]'(by omega)).toNat : Int) 21 0 (Jao (decide (((s[0]'(by omega)).toNat : Int) = 77)) ((s.drop 4).take 4)) ⟨s, decide (((s[0]'(by omega)).toNat : Int) = 77), [], [], 0, fd, 0⟩ [] (by omega) (valB4 _ (by rw [List.length_take]; omega)) rfl rfl (.inl (by omega)) ⟨h8, by show s.length ≤ 65000; omega⟩ (by simp) (by simp) (by simp [Jcx]) hfd
   exact ⟨f, ps, e, h1, fun h => ⟨by omega, h2 h⟩⟩
end Go.M

namespace Go.M
open Go.Md Go.Pl
end Go.M

namespace Go.M
open Go.Md Go.Pl
theorem Jil (big : Bool) (s : List UInt8) (hs : s.length ≤ 4) : Qs big s = some (Jao big s : Int) := by
 let L := if big then s else s.reverse
 have hL : L.length = s.length := by
  show (if big then s else s.reverse).length = s.length
  cases big <;> simp
 have hi : ∀ i (hik : i < s.length), ∃ q : Nat, ∃ hq : q < s.length, q = (if big then i else s.length - 1 - i) ∧ s[q]'hq = L[i]'(by omega) := by
  intro i hik
  cases big
  ·refine ⟨s.length - 1 - i, by omega, rfl, ?_⟩
   show _ = (s.reverse)[i]'_
   rw [List.getElem_reverse]
  ·exact ⟨i, by omega, rfl, rfl⟩
 have key : ∀ m i v : Nat, i + m = s.length → v < 256 ^ i → Vv (fun next1 s' => Wf big s next1 s'.1 s'.2) ((v : Int), (i : Int)) = some (((L.drop i).foldl (fun v b => v * 256 + b.toNat) v : Nat) : Int) := by
  intro m
  induction m with
  | zero =>
   intro i v him hv
   rw [List.drop_eq_nil_of_le (by omega)]
   refine Qr fun next => ?_
   show Wf big s next (v : Int) (i : Int) = _
   unfold Wf
   rw [cI, if_neg (by omega)]; rfl
  | succ m ih =>
   intro i v him hv
   obtain ⟨q, hq, hqe, hsq⟩ := hi i (by omega)
   have hv4 : v < 16777216 := Nat.lt_of_lt_of_le hv (Nat.le_trans (Nat.pow_le_pow_right (by omega) (show i ≤ 3 by omega)) (by decide))
   have hb := (s[q]'(by omega)).toNat_lt
   rw [List.drop_eq_getElem_cons (show i < L.length by omega), List.foldl_cons]
   have hlt : v * 256 + (L[i]'(by omega)).toNat < 256 ^ (i + 1) := by
    rw [← hsq, Nat.pow_succ]; omega
   refine Eq.trans (Xu _ fun next => ?_) (ih (i + 1) (v * 256 + (L[i]'(by omega)).toNat) (by omega) hlt)
   show Wf big s next (v : Int) (i : Int) = _
   unfold Wf
   rw [cI, if_pos (by omega), Ju (by omega), Jb, Ju (by omega), Jb]
   have go : ∀ x : Int, x = (q : Int) → Jbd s v i next x = next (((v * 256 + (L[i]'(by omega)).toNat : Nat) : Int), ((i + 1 : Nat) : Int)) := by
    intro x hx
    subst hx
    unfold Jbd
    have e8 : (2 : Int) ^ (8 : Int).toNat = 256 := by decide
    have hsh : gShl (v : Int) 8 = some ((v : Int) * 256) := by
     unfold gShl
     rw [if_pos ⟨by decide, by decide⟩, e8]
     exact Ju (by omega)
    rw [hsh, Jb, Jau (by omega), Jb]
    unfold gK
    rw [if_pos (by omega), Jb, Ju (by omega), Jb, or_byte (by omega) hb, hsq]
    rfl
   cases big
   ·rw [Qa]; exact go _ (by rw [hqe]; simp; omega)
   ·rw [Qq]; exact go _ (by rw [hqe]; simp)
 unfold Qs
 have := key s.length 0 0 (by omega) (by simp)
 rw [List.drop_zero] at this
 exact this
theorem Rat_eq (q : Tf) {a k : Nat} (h : a + k ≤ q.s_.length) (hk : k ≤ 4) (hs : q.s_.length ≤ 65000) : Q4 q (a : Int) (k : Int) = some (Jao q.kab ((q.s_.drop a).take k) : Int) := by
 unfold Q4
 rw [Ju (by omega), Jb, Jc0 (by omega), Jb, show ((a : Int) + (k : Int)).toNat - (a : Int).toNat = k by omega, Int.toNat_natCast, Jil _ _ (by rw [List.length_take]; omega), Jb]
theorem Rat2 (q : Tf) {a : Nat} (h : a + 2 ≤ q.s_.length) (hs : q.s_.length ≤ 65000) : Q4 q (a : Int) 2 = some (Jao q.kab ((q.s_.drop a).take 2) : Int) := Rat_eq (k := 2) q h (by omega) hs
theorem Rat4 (q : Tf) {a : Nat} (h : a + 4 ≤ q.s_.length) (hs : q.s_.length ≤ 65000) : Q4 q (a : Int) 4 = some (Jao q.kab ((q.s_.drop a).take 4) : Int) := Rat_eq (k := 4) q h (by omega) hs
theorem Rin_eq (q : Tf) {p n : Nat} (hs : q.s_.length ≤ 65000) : W6 q (p : Int) (n : Int) = some (decide (8 ≤ p ∧ p + n ≤ q.s_.length)) := by
 unfold W6
 rw [cI, cI]
 by_cases h8 : 8 ≤ p
 ·rw [if_pos (by omega)]
  by_cases hl : p ≤ q.s_.length
  ·rw [if_pos (by omega), Ju (by omega), Jb]
   congr 1
   rw [decide_eq_decide]; omega
  ·rw [if_neg (by omega), decide_eq_false (by omega)]
 ·rw [if_neg (by omega), decide_eq_false (by omega)]
def hdP : Tc := ⟨0, 8⟩
structure Same (r : Tb) (q : Tf) : Prop where
 s : q.s_ = r.s_
 big : q.kab = r.kab
 seen : q.kam = r.kae
 parts : q.kaa = hdP :: r.kaa
def vS (s : List UInt8) (big : Bool) (a k : Nat) : Nat := Jao big ((s.drop a).take k)
noncomputable def plE (s : List UInt8) (big : Bool) (a : Nat) : Td :=
 if 4 < vS s big (a + 4) 4 * J3 (vS s big (a + 2) 2 : Int) then ⟨(a : Int), (vS s big (a + 8) 4 : Int), (vS s big (a + 8) 4 : Int) + ((vS s big (a + 4) 4 * J3 (vS s big (a + 2) 2 : Int) : Nat) : Int)⟩ else ⟨(a : Int), 0, 0⟩
abbrev Trc := List Int × Nat × Ta
noncomputable def trL (G : List Int → Nat → List Ta → List Trc) (s : List UInt8) (big : Bool) (path : List Int) (pl : Nat) : Nat → List Ta → List Trc
 | _, [] => []
 | i, e :: l => (path ++ [e.Tag], pl + 2 + 12 * i, e) :: (if e.Value.kai = 13 then G (path ++ [e.Tag]) (vS s big (pl + 2 + 12 * i + 8) 4) e.Value.kag else []) ++ trL G s big path pl (i + 1) l
noncomputable def trD (s : List UInt8) (big : Bool) : Nat → List Int → Nat → List Ta → List Trc
 | 0, _, _, _ => []
 | d + 1, path, pl, l => trL (trD s big d) s big path pl 0 l
def keyS : List Int → List UInt8
 | [] => []
 | t :: ts => ts.foldl (fun k t => k ++ [32] ++ itoaL t) (itoaL t)
theorem keyS_snoc {p : List Int} (h : p ≠ []) (t : Int) : keyS (p ++ [t]) = keyS p ++ [32] ++ itoaL t := by
 cases p with
 | nil => exact absurd rfl h
 | cons x xs => show (xs ++ [t]).foldl _ _ = _; rw [List.foldl_append]; rfl
noncomputable def plS (s : List UInt8) (big : Bool) (P : List (List UInt8 × Td)) (x : Trc) : List (List UInt8 × Td) := Yp P (keyS x.1) (plE s big x.2.1)
noncomputable def plF (s : List UInt8) (big : Bool) (P : List (List UInt8 × Td)) (l : List Trc) : List (List UInt8 × Td) := l.foldl (plS s big) P
theorem Jfr (r : Tb) (k : Int) (c : Nat) (b : List UInt8) : (Jd9 r k c b).1.kai = k := by
 unfold Jd9
 split
 ·rename_i h; subst h; split <;> rfl
 ·split
  ·rename_i h; subst h; rfl
  ·split
   ·rename_i h; subst h; rfl
   ·rfl
theorem valR_kind (r : Tb) {k : Int} (c a : Nat) (h : k ≠ 13) : (Jeb r k c a).1.kai ≠ 13 := by
 unfold Jeb
 split
 ·dsimp only
  split
  ·rw [Jfr]; exact h
  ·show ¬ ((0 : Int) = 13); decide
 ·rw [Jfr]; exact h
theorem ratR_succ (big : Bool) (b : List UInt8) (i : Nat) : ratR big (b.drop 8) i = ratR big b (i + 1) := by
 unfold ratR
 rw [List.drop_drop, List.drop_drop, show 8 + 8 * i = 8 * (i + 1) by omega, show 8 + (8 * i + 4) = 8 * (i + 1) + 4 by omega]
theorem intR_succ (big : Bool) (k : Int) (b : List UInt8) (i : Nat) : intR big k (b.drop (J3 k)) i = intR big k b (i + 1) := by
 unfold intR
 rw [List.drop_drop, show J3 k + i * J3 k = (i + 1) * J3 k by rw [Nat.add_mul]; omega]
theorem Jfb {β : Type} (f : Nat → β) (m : Nat) : (List.range (m + 1)).map f = f 0 :: (List.range m).map fun i => f (i + 1) := by
 rw [List.range_succ_eq_map, List.map_cons, List.map_map]; rfl
theorem Rrat_loop (q : Tf) (a1 : Int) (key : List UInt8) (k : Int) (l : List Tc) (m1 m2 : Int) : ∀ (m : Nat) (b : List UInt8) (acc : List Tg), b.length = 8 * m → b.length ≤ 65000 → acc.length + m ≤ 100000 →
  Vv (fun next3 s => Zh q a1 key k l m1 m2 next3 s.1 s.2) (b, acc) = Z8 q a1 key k l m1 m2 [] [] (acc ++ (List.range m).map (ratR q.kab b)) := by
 intro m
 induction m with
 | zero =>
  intro b acc hb hs ha
  have : b = [] := List.eq_nil_of_length_eq_zero (by omega)
  subst this
  refine Qr fun next => ?_
  show Zh q a1 key k l m1 m2 next [] acc = _
  unfold Zh
  rw [cI, if_neg (by simp)]; simp
 | succ m ih =>
  intro b acc hb hs ha
  have hne : b ≠ [] := fun h => by subst h; simp at hb
  refine Eq.trans (Xu (b.drop 8, acc ++ [ratR q.kab b 0]) fun next => ?_) ?_
  ·show Zh q a1 key k l m1 m2 next b acc = _
   unfold Zh
   rw [cI, if_pos hne, Jb6 (by omega), Jb, Jil _ _ (by rw [List.length_take]; omega), Jb, Jc0 (by omega), Jb, Jil _ _ (by rw [List.length_take]; omega), Jb, Yw (by simp; omega), Jb, Ja0 (by omega), Jb]
   rfl
  ·rw [ih (b.drop 8) (acc ++ [ratR q.kab b 0]) (by rw [List.length_drop]; omega) (by rw [List.length_drop]; omega) (by simp; omega), Jfb, List.append_assoc]
   rw [List.singleton_append, List.map_congr_left fun i _ => ratR_succ q.kab b i]
theorem Rint_loop (q : Tf) (a1 : Int) (key : List UInt8) (k : Int) (l : List Tc) (m1 m2 : Int) (hw : 1 ≤ J3 k ∧ J3 k ≤ 4) : ∀ (m : Nat) (b : List UInt8) (acc : List Int), b.length = m * J3 k → b.length ≤ 65000 → acc.length + m ≤ 100000 →
  Vv (fun next4 s => Zf q a1 key k (J3 k : Int) l m1 m2 next4 s.1 s.2) (b, acc) = Z8 q a1 key k l m1 m2 [] (acc ++ (List.range m).map (intR q.kab k b)) [] := by
 intro m
 induction m with
 | zero =>
  intro b acc hb hs ha
  have : b = [] := List.eq_nil_of_length_eq_zero (by omega)
  subst this
  refine Qr fun next => ?_
  show Zf q a1 key k _ l m1 m2 next [] acc = _
  unfold Zf
  rw [cI, if_neg (by simp)]; simp
 | succ m ih =>
  intro b acc hb hs ha
  rw [Nat.add_mul, Nat.one_mul] at hb
  have hne : b ≠ [] := fun h => by subst h; simp at hb; omega
  refine Eq.trans (Xu (b.drop (J3 k), acc ++ [intR q.kab k b 0]) fun next => ?_) ?_
  ·show Zf q a1 key k _ l m1 m2 next b acc = _
   unfold Zf
   have hv := valB4 q.kab (bs := b.take (J3 k)) (by rw [List.length_take]; omega)
   have go : ∀ x : Int, x = intR q.kab k b 0 → V1 (J3 k : Int) b acc next x = next (b.drop (J3 k), acc ++ [intR q.kab k b 0]) := by
    intro x hx
    unfold V1
    rw [Yw (by simp; omega), Jb, Ja0 (by omega), Jb, hx, Int.toNat_natCast]
   have hi : intR q.kab k b 0 = if k = 9 then Jap (wI32 (Jao q.kab (b.take (J3 k)))) else Jao q.kab (b.take (J3 k)) := by
    unfold intR; rw [Nat.zero_mul, List.drop_zero]
   rw [cI, if_pos hne, Jb6 (by omega), Jb, Int.toNat_natCast, Jil _ _ (by rw [List.length_take]; omega), Jb, cI, cI]
   by_cases h9 : k = 9
   ·rw [if_pos h9]
    rw [if_pos h9] at hi
    by_cases hb31 : (2147483648 : Int) ≤ (Jao q.kab (b.take (J3 k)) : Int)
    ·rw [if_pos hb31, Ju (by omega), Jb]
     refine go _ ?_
     rw [hi]; unfold wI32
     rw [if_pos (by omega), wI64_in (by omega)]; omega
    ·rw [if_neg hb31]
     refine go _ ?_
     rw [hi]; unfold wI32
     rw [if_neg (by omega), wI64_in (by omega)]; omega
   ·rw [if_neg h9]
    rw [if_neg h9] at hi
    exact go _ hi.symm
  ·rw [ih (b.drop (J3 k)) (acc ++ [intR q.kab k b 0]) (by rw [List.length_drop]; omega) (by rw [List.length_drop]; omega) (by simp; omega), Jfb, List.append_assoc]
   rw [List.singleton_append, List.map_congr_left fun i _ => intR_succ q.kab k b i]
theorem Rval_j1 (r : Tb) (q : Tf) (hq : Same r q) (hno : r.no_ = 0) {k : Int} {c p : Nat} (a1 : Int) (key : List UInt8) (parts : List Tc) (m1 m2 : Int) (hw : J3 k ≠ 0) (h13 : k ≠ 13) (hp : p + c * J3 k ≤ r.s_.length) (hs : r.s_.length ≤ 65000) :
  ∃ v e q', Ue q a1 key k (J3 k : Int) ((c * J3 k : Nat) : Int) (p : Int) (hdP :: parts) m1 m2 = some (v, e, q') ∧
   e = (Jd9 ⟨r.s_, r.kab, parts, r.kae, r.kad, r.kac, r.no_⟩ k c ((r.s_.drop p).take (c * J3 k))).2.no_ ∧
   (e = 0 → v = (Jd9 ⟨r.s_, r.kab, parts, r.kae, r.kad, r.kac, r.no_⟩ k c ((r.s_.drop p).take (c * J3 k))).1 ∧ Same (Jd9 ⟨r.s_, r.kab, parts, r.kae, r.kad, r.kac, r.no_⟩ k c ((r.s_.drop p).take (c * J3 k))).2 q' ∧ q'.kaf = Yp q.kaf key (⟨a1, m1, m2⟩ : Td)) := by
 have hcw : c ≤ c * J3 k := Nat.le_mul_of_pos_right _ (by omega)
 have e1 := hq.s
 have e2 := hq.big
 have e3 := hq.seen
 have hbl : ((r.s_.drop p).take (c * J3 k)).length = c * J3 k := by rw [List.length_take, List.length_drop]; omega
 have hfl : ∀ e : Int, (fl ⟨r.s_, r.kab, parts, r.kae, r.kad, r.kac, r.no_⟩ e).no_ = e := fun e => by unfold fl; rw [if_pos hno]
 unfold Ue Jd9
 rw [Ju (by omega), Jb, Jc0 (by rw [e1]; omega), Jb, show ((p : Int) + ((c * J3 k : Nat) : Int)).toNat - (p : Int).toNat = c * J3 k by omega, Int.toNat_natCast, e1, cI, cI, cI, cI]
 generalize hb : (r.s_.drop p).take (c * J3 k) = b at hbl ⊢
 by_cases h2 : k = 2
 ·subst h2
  rw [if_pos rfl, if_pos rfl]
  by_cases h0 : b = []
  ·rw [if_pos h0, if_pos (.inl h0)]
   exact ⟨_, _, _, rfl, (hfl 1).symm, fun h => absurd h (by decide)⟩
  rw [if_neg h0, Ju (by omega), Jb, show (b.length : Int) - 1 = ((b.length - 1 : Nat) : Int) by have := List.length_pos_iff.2 h0; omega, Jau (by have := List.length_pos_iff.2 h0; omega), Jb, cI]
  have hlast : b.getLast? = some (b[b.length - 1]'(by have := List.length_pos_iff.2 h0; omega)) := by
   rw [List.getLast?_eq_getElem?, List.getElem?_eq_getElem]
  by_cases hz : b[b.length - 1]'(by have := List.length_pos_iff.2 h0; omega) = 0
  ·rw [if_neg (by rw [hz]; decide), Jb, Jb6 (by omega), Jb]
   have ht : b.take ((b.length - 1 : Nat) : Int).toNat = b.dropLast := by
    rw [Int.toNat_natCast, List.dropLast_eq_take]
   rw [ht]
   unfold V0 Y7 gIxB
   rw [Jb, Jb, Jb, cI]
   have hm := (ixB_mem 0 b.dropLast).2
   have hcond : ¬ (b = [] ∨ b.getLast? ≠ some 0) := by
    rintro (h | h)
    ·exact h0 h
    ·exact h (by rw [hlast, hz])
   rw [if_neg hcond]
   by_cases hm0 : (0 : UInt8) ∈ b.dropLast
   ·rw [if_pos (show 0 ≤ ixB b.dropLast (Int.toNat 0).toUInt8 from hm.2 hm0)]
    simp only [if_pos hm0]
    exact ⟨_, _, _, rfl, (hfl 9).symm, fun h => absurd h (by decide)⟩
   ·rw [if_neg (show ¬ 0 ≤ ixB b.dropLast (Int.toNat 0).toUInt8 from fun h => hm0 (hm.1 h))]
    simp only [if_neg hm0]
    exact ⟨_, _, _, rfl, hno.symm, fun _ => ⟨rfl, ⟨e1, e2, e3, rfl⟩, rfl⟩⟩
  ·have hnz : ((b[b.length - 1]'(by have := List.length_pos_iff.2 h0; omega)).toNat : Int) ≠ 0 := fun h => hz (UInt8.toNat_inj.1 (by show _ = 0; omega))
   rw [if_pos hnz, if_pos (.inr (by rw [hlast]; simpa using hz))]
   exact ⟨_, _, _, rfl, (hfl 1).symm, fun h => absurd h (by decide)⟩
 rw [if_neg h2, if_neg h2]
 by_cases h7 : k = 7
 ·subst h7
  rw [if_pos rfl, if_pos rfl]
  exact ⟨_, _, _, rfl, hno.symm, fun _ => ⟨rfl, ⟨e1, e2, e3, rfl⟩, rfl⟩⟩
 rw [if_neg h7, if_neg h7]
 by_cases h5 : k = 5
 ·subst h5
  have hw8 : J3 5 = 8 := rfl
  rw [hw8] at hbl hp
  rw [if_pos rfl, if_pos rfl, Rrat_loop q a1 key 5 _ m1 m2 c b [] (by omega) (by omega) (by simp; omega), List.nil_append]
  exact ⟨_, _, _, rfl, hno.symm, fun _ => ⟨by rw [e2], ⟨e1, e2, e3, rfl⟩, rfl⟩⟩
 ·obtain ⟨w4, w1⟩ := wide_pos hw h2 h7 h5
  rw [if_neg h5, if_neg h5, Rint_loop q a1 key k _ m1 m2 ⟨w1, w4⟩ c b [] hbl (by omega) (by simp; omega), List.nil_append]
  exact ⟨_, _, _, rfl, hno.symm, fun _ => ⟨by rw [e2], ⟨e1, e2, e3, rfl⟩, rfl⟩⟩
abbrev Jew := (Tf × Int × Int × Int × Bool × List UInt8) → Option (List Ta × Int × Int × Tf)
theorem Jbi {r : Tb} (h : r.no_ = 0) (e : Int) : (fl r e).no_ = e := by unfold fl; rw [if_pos h]
theorem valR_far {r : Tb} {k : Int} {c a : Nat} (h : 4 < c * J3 k) : Jeb r k c a = if 8 ≤ Jr r a 4 ∧ Jr r a 4 + c * J3 k ≤ r.s_.length then Jd9 ⟨r.s_, r.kab, r.kaa ++ [⟨(Jr r a 4 : Int), ((Jr r a 4 + c * J3 k : Nat) : Int)⟩], r.kae, r.kad, r.kac, r.no_⟩ k c ((r.s_.drop (Jr r a 4)).take (c * J3 k)) else (⟨0, [], [], [], []⟩, fl r 2) := by
 unfold Jeb; rw [if_pos h]
theorem valR_near {r : Tb} {k : Int} {c a : Nat} (h : ¬ 4 < c * J3 k) : Jeb r k c a = Jd9 r k c ((r.s_.drop a).take (c * J3 k)) := by
 unfold Jeb; rw [if_neg h]
theorem Rval_eq (self : Jew) (r : Tb) (q : Tf) (hq : Same r q) (hno : r.no_ = 0) {a : Nat} (deep : Int) (key : List UInt8) (ha : a + 12 ≤ r.s_.length) (hs : r.s_.length ≤ 65000) (hp : r.kaa.length ≤ 7999999999999)
  (h13 : (Jr r (a + 2) 2 : Int) ≠ 13) (h0 : J3 (Jr r (a + 2) 2 : Int) ≠ 0) :
  ∃ v e q', Xt self q (a : Int) deep key = some (v, e, q') ∧ e = (Jeb r (Jr r (a + 2) 2 : Int) (Jr r (a + 4) 4) (a + 8)).2.no_ ∧
   (e = 0 → v = (Jeb r (Jr r (a + 2) 2 : Int) (Jr r (a + 4) 4) (a + 8)).1 ∧ Same (Jeb r (Jr r (a + 2) 2 : Int) (Jr r (a + 4) 4) (a + 8)).2 q' ∧ q'.kaf = Yp q.kaf key (plE r.s_ r.kab a)) := by
 have e1 := hq.s
 have e2 := hq.big
 have hc4 := v4 r (a + 4)
 have hk2 := v2 r (a + 2)
 have hf4 := v4 r (a + 8)
 have r2 : Q4 q ((a + 2 : Nat) : Int) 2 = some (Jr r (a + 2) 2 : Int) := by rw [Rat2 q (by rw [e1]; omega) (by rw [e1]; omega), e1, e2]
 have r4 : Q4 q ((a + 4 : Nat) : Int) 4 = some (Jr r (a + 4) 4 : Int) := by rw [Rat4 q (by rw [e1]; omega) (by rw [e1]; omega), e1, e2]
 have r8 : Q4 q ((a + 8 : Nat) : Int) 4 = some (Jr r (a + 8) 4 : Int) := by rw [Rat4 q (by rw [e1]; omega) (by rw [e1]; omega), e1, e2]
 unfold Xt
 rw [Ju (by omega), Jb, show (a : Int) + 2 = ((a + 2 : Nat) : Int) by omega, r2, Jb, Ju (by omega), Jb, show (a : Int) + 4 = ((a + 4 : Nat) : Int) by omega, r4, Jb, Ju (by omega), Jb, show (a : Int) + 8 = ((a + 8 : Nat) : Int) by omega, r8, Jb, Jee, Jb, if_neg h13, cI, if_neg (by omega), cI, if_neg h13, Jb]
 have hw8 := Jax (Jr r (a + 2) 2 : Int)
 have hcw : Jr r (a + 4) 4 * J3 (Jr r (a + 2) 2 : Int) ≤ 4294967295 * 8 := Nat.mul_le_mul hc4 hw8
 rw [show ((Jr r (a + 4) 4 : Nat) : Int) * ((J3 (Jr r (a + 2) 2 : Int) : Nat) : Int) = ((Jr r (a + 4) 4 * J3 (Jr r (a + 2) 2 : Int) : Nat) : Int) by rw [Int.natCast_mul], Ju (by omega), Jb, cI, hq.parts]
 by_cases h4 : 4 < Jr r (a + 4) 4 * J3 (Jr r (a + 2) 2 : Int)
 ·rw [if_pos (by omega), valR_far h4, Rin_eq q (by rw [e1]; omega), e1, Jb]
  by_cases ht : 8 ≤ Jr r (a + 8) 4 ∧ Jr r (a + 8) 4 + Jr r (a + 4) 4 * J3 (Jr r (a + 2) 2 : Int) ≤ r.s_.length
  ·rw [decide_eq_true ht, Bool.not_true, Qa, Ju (by omega), Jb, Yw (by simp; omega), Jb, Jb, if_pos ht]
   have hpl : plE r.s_ r.kab a = ⟨(a : Int), (Jr r (a + 8) 4 : Int), (Jr r (a + 8) 4 : Int) + ((Jr r (a + 4) 4 * J3 (Jr r (a + 2) 2 : Int) : Nat) : Int)⟩ := if_pos h4
   rw [hpl]
   exact Rval_j1 r q hq hno (a : Int) key (r.kaa ++ [⟨(Jr r (a + 8) 4 : Int), ((Jr r (a + 8) 4 + Jr r (a + 4) 4 * J3 (Jr r (a + 2) 2 : Int) : Nat) : Int)⟩]) (Jr r (a + 8) 4 : Int) ((Jr r (a + 8) 4 : Int) + ((Jr r (a + 4) 4 * J3 (Jr r (a + 2) 2 : Int) : Nat) : Int)) h0 h13 ht.2 hs
  ·rw [decide_eq_false ht, Bool.not_false, Qq, if_neg ht]
   exact ⟨_, _, _, rfl, (Jbi hno 2).symm, fun h => absurd h (by decide)⟩
 ·rw [if_neg (by omega), valR_near h4]
  have hpl : plE r.s_ r.kab a = ⟨(a : Int), 0, 0⟩ := if_neg h4
  rw [hpl]
  exact Rval_j1 r q hq hno (a : Int) key r.kaa 0 0 h0 h13 (by omega) hs
end Go.M

namespace Go.M
open Go.Md Go.Pl
theorem decD_len (u : Nat) (k : Nat) (h : u < 10 ^ (k + 1)) : (decD u).length ≤ k + 1 := by
 induction k generalizing u with
 | zero => unfold decD; rw [if_pos (by omega)]; simp
 | succ k ih =>
  unfold decD
  split
  ·simp
  ·rw [List.length_append]
   have := ih (u / 10) (by rw [Nat.pow_succ] at h; omega)
   simp; omega
theorem Jdm {n : Int} (h : 0 ≤ n ∧ n ≤ 99999) : gItoa n = some (itoaL n) ∧ (itoaL n).length ≤ 5 := by
 refine ⟨if_pos (by omega), ?_⟩
 unfold itoaL
 rw [if_neg (by omega)]
 exact decD_len _ 4 (by omega)
def SimD (d : Nat) (self : Wj) (selfQ : Jew) : Prop := ∀ (r : Tb) (q : Tf) (pl : Nat) (path : List Int) (number : Int) (inner : Bool) (key : List UInt8), Same r q → r.no_ = 0 → 0 < path.length → path.length + d = 6 → pl ≤ 4294967295 → r.s_.length ≤ 65000 → r.kaa.length + Y4 d ≤ 7999999999999 → r.kac ≤ 0 →
 (20 ≤ number ↔ 20 < r.kad) → inner = decide (1 < path.length) → key.length + 100 * d ≤ 10000 → key = keyS path → ∀ (l : List Ta) (nx : Int) (r' : Tb), self (r, (pl : Int), path) = some (l, nx, r') →
  ∃ l2 nx2 e q', selfQ (q, (pl : Int), (path.length : Int), number, inner, key) = some (l2, nx2, e, q') ∧ e = r'.no_ ∧ (e = 0 → l2 = l ∧ nx2 = nx ∧ Same r' q' ∧ q'.kaf = plF r.s_ r.kab q.kaf (trD r.s_ r.kab d path pl l))
theorem ent_sim {d : Nat} {self : Wj} {selfQ : Jew} (G : SimD d self selfQ) (r : Tb) (q : Tf) {a : Nat} {path : List Int} (hq : Same r q) (hno : r.no_ = 0) (hpl : path.length + d + 1 = 6) (ha : a + 12 ≤ r.s_.length) (hs : r.s_.length ≤ 65000) (hp : r.kaa.length + (1 + Y4 d) ≤ 7999999999999) (hf : r.kac ≤ 0)
  (h20 : r.kad ≤ 20) (key : List UInt8) (hk : key.length + 100 * d ≤ 10000) (hkey : key = keyS (path ++ [(Jr r a 2 : Int)])) (hpos : 0 < path.length) {en : Ta} {r' : Tb} (he : entR self r a path = some (en, r')) :
  en.Tag = (Jr r a 2 : Int) ∧ ∃ v e q', Xt selfQ q (a : Int) (path.length : Int) key = some (v, e, q') ∧ e = r'.no_ ∧ (e = 0 → v = en.Value ∧ Same r' q' ∧ q'.kaf = plF r.s_ r.kab q.kaf ((path ++ [en.Tag], a, en) :: (if en.Value.kai = 13 then trD r.s_ r.kab d (path ++ [en.Tag]) (vS r.s_ r.kab (a + 8) 4) en.Value.kag else []))) := by
 unfold entR at he
 by_cases h13 : (Jr r (a + 2) 2 : Int) = 13
 ·rw [if_pos h13] at he
  have e1 := hq.s
  have e2 := hq.big
  have r2 : Q4 q ((a + 2 : Nat) : Int) 2 = some (Jr r (a + 2) 2 : Int) := by rw [Rat2 q (by rw [e1]; omega) (by rw [e1]; omega), e1, e2]
  have r4 : Q4 q ((a + 4 : Nat) : Int) 4 = some (Jr r (a + 4) 4 : Int) := by rw [Rat4 q (by rw [e1]; omega) (by rw [e1]; omega), e1, e2]
  have r8 : Q4 q ((a + 8 : Nat) : Int) 4 = some (Jr r (a + 8) 4 : Int) := by rw [Rat4 q (by rw [e1]; omega) (by rw [e1]; omega), e1, e2]
  unfold Xt
  rw [Ju (by omega), Jb, show (a : Int) + 2 = ((a + 2 : Nat) : Int) by omega, r2, Jb, Ju (by omega), Jb, show (a : Int) + 4 = ((a + 4 : Nat) : Int) by omega, r4, Jb, Ju (by omega), Jb, show (a : Int) + 8 = ((a + 8 : Nat) : Int) by omega, r8, Jb, Jee, Jb, if_pos h13, cI, if_neg (by decide), cI, if_pos h13, cI]
  by_cases h1 : Jr r (a + 4) 4 = 1
  ·rw [if_pos h1] at he
   rw [if_neg (by omega), Ju (by omega), Jb]
   obtain ⟨⟨l, nx, rr⟩, h2, h3⟩ := Je he
   cases h3
   refine ⟨rfl, ?_⟩
   have hsame : Same r ⟨q.s_, q.kab, q.kam, q.kaa, Yp q.kaf key (⟨(a : Int), 0, 0⟩ : Td)⟩ := ⟨hq.s, hq.big, hq.seen, hq.parts⟩
   obtain ⟨l2, nx2, e, q', g1, g2, g3⟩ := G r _ (Jr r (a + 8) 4) (path ++ [(Jr r a 2 : Int)]) 0 true key hsame hno (by simp) (by simp; omega) (v4 _ _) hs (by omega) hf (by omega) (by simp; omega) hk hkey l nx _ h2
   rw [show (path.length : Int) + 1 = ((path ++ [(Jr r a 2 : Int)]).length : Int) by simp, g1, Jb]
   refine ⟨_, _, _, rfl, g2, fun h => ?_⟩
   obtain ⟨a1, _, a3, a4⟩ := g3 h
   refine ⟨by rw [a1, h13], a3, ?_⟩
   rw [a4]
   unfold plF
   rw [if_pos rfl, List.foldl_cons]
   have hpl : plE r.s_ r.kab a = ⟨(a : Int), 0, 0⟩ := by
    unfold plE
    rw [if_neg]
    show ¬ 4 < Jr r (a + 4) 4 * J3 (Jr r (a + 2) 2 : Int)
    rw [h13]; show ¬ 4 < _ * 0; omega
   unfold plS
   rw [hpl, hkey]; rfl
  ·rw [if_neg h1] at he
   cases he
   rw [if_pos (by omega)]
   exact ⟨rfl, _, _, _, rfl, (Jbi hno 1).symm, fun h => absurd h (by decide)⟩
 ·rw [if_neg h13] at he
  by_cases h0 : J3 (Jr r (a + 2) 2 : Int) = 0
  ·rw [if_pos h0] at he
   cases he
   have e1 := hq.s
   have e2 := hq.big
   have r2 : Q4 q ((a + 2 : Nat) : Int) 2 = some (Jr r (a + 2) 2 : Int) := by rw [Rat2 q (by rw [e1]; omega) (by rw [e1]; omega), e1, e2]
   have r4 : Q4 q ((a + 4 : Nat) : Int) 4 = some (Jr r (a + 4) 4 : Int) := by rw [Rat4 q (by rw [e1]; omega) (by rw [e1]; omega), e1, e2]
   have r8 : Q4 q ((a + 8 : Nat) : Int) 4 = some (Jr r (a + 8) 4 : Int) := by rw [Rat4 q (by rw [e1]; omega) (by rw [e1]; omega), e1, e2]
   unfold Xt
   rw [Ju (by omega), Jb, show (a : Int) + 2 = ((a + 2 : Nat) : Int) by omega, r2, Jb, Ju (by omega), Jb, show (a : Int) + 4 = ((a + 4 : Nat) : Int) by omega, r4, Jb, Ju (by omega), Jb, show (a : Int) + 8 = ((a + 8 : Nat) : Int) by omega, r8, Jb, Jee, Jb, if_neg h13, cI, if_pos (by omega)]
   exact ⟨rfl, _, _, _, rfl, (Jbi hno 10).symm, fun h => absurd h (by decide)⟩
  ·rw [if_neg h0] at he
   cases he
   refine ⟨rfl, ?_⟩
   obtain ⟨v, e, q', g1, g2, g3⟩ := Rval_eq selfQ r q hq hno (path.length : Int) key ha hs (by omega) h13 h0
   refine ⟨v, e, q', g1, g2, fun h => ?_⟩
   obtain ⟨a1, a2, a3⟩ := g3 h
   refine ⟨a1, a2, ?_⟩
   rw [a3]
   unfold plF
   rw [if_neg (valR_kind _ _ _ h13), List.foldl_cons, List.foldl_nil]
   unfold plS
   rw [hkey]
noncomputable def loopQ (self : Jew) (pl deep : Int) (key : List UInt8) (nxt cnt i : Int) (q : Tf) (l : List Ta) : Option (List Ta × Int × Int × Tf) :=
 Vv (fun next3 s => Xq self next3 s.1 s.2.1 s.2.2.1 s.2.2.2.1 s.2.2.2.2.1 s.2.2.2.2.2.1 s.2.2.2.2.2.2.1 s.2.2.2.2.2.2.2.1 s.2.2.2.2.2.2.2.2.1 s.2.2.2.2.2.2.2.2.2.1 s.2.2.2.2.2.2.2.2.2.2.1 s.2.2.2.2.2.2.2.2.2.2.2) (pl, deep, key, nxt, cnt, i, q.s_, q.kab, q.kam, q.kaa, q.kaf, l)
theorem loop_sim {d : Nat} {self : Wj} {selfQ : Jew} (H : Jgg d self) (G : SimD d self selfQ) {path : List Int} (hpl : path.length + d + 1 = 6) (hpos : 0 < path.length) (r : Tb) {pl nxt cnt : Nat} (hs : r.s_.length ≤ 65000) (hcnt : cnt ≤ 200) (hin : pl + 2 + 12 * cnt ≤ r.s_.length) (hp : r.kaa.length + Y4 (d + 1) ≤ 7999999999999) (hf : r.kac ≤ 0) (h20 : r.kad ≤ 20)
  (key : List UInt8) (hk : key.length + 100 * (d + 1) ≤ 10000) (hkey : key = keyS path) :
  ∀ (m i : Nat) (rc : Tb) (q : Tf) (l : List Ta), i + m = cnt → l.length = i → Adds r rc (1 + i * (1 + Y4 d)) ((szD (d + 1) l : Nat) + 12 * m : Int) → rc.no_ = 0 → Same rc q →
   ∀ l' nx r', Jch self path pl nxt cnt i rc l = some (l', nx, r') → ∃ l2 nx2 e q', loopQ selfQ (pl : Int) (path.length : Int) key (nxt : Int) (cnt : Int) (i : Int) q l = some (l2, nx2, e, q') ∧ e = r'.no_ ∧ (e = 0 → l2 = l' ∧ nx2 = nx ∧ Same r' q' ∧ ∃ rest, l' = l ++ rest ∧ q'.kaf = plF r.s_ r.kab q.kaf (trL (trD r.s_ r.kab d) r.s_ r.kab path pl i rest)) := by
 intro m
 have hcap : ∀ i, i ≤ 200 → 1 + i * (1 + Y4 d) ≤ Y4 (d + 1) := fun i hi => by
  show _ ≤ 1 + 200 * (1 + Y4 d)
  have := Nat.mul_le_mul_right (1 + Y4 d) hi; omega
 induction m with
 | zero =>
  intro i rc q l him hl hA hno hq l' nx r' hd
  rw [Jaa _ _ _ _ _ _ _ _ (.inl (by omega))] at hd
  cases hd
  refine ⟨l, (nxt : Int), 0, q, ?_, hno.symm, fun _ => ⟨rfl, rfl, hq, [], (List.append_nil _).symm, rfl⟩⟩
  refine Qr fun next => ?_
  show Xq selfQ next (pl : Int) (path.length : Int) key (nxt : Int) (cnt : Int) (i : Int) q.s_ q.kab q.kam q.kaa q.kaf l = _
  unfold Xq Jcw
  rw [cI, if_neg (by omega)]
 | succ m ih =>
  intro i rc q l him hl hA hno hq l' nx r' hd
  have hsl := hA.len
  have e1 := hq.s
  have e2 := hq.big
  have hin' : pl + 2 + 12 * cnt ≤ rc.s_.length := by omega
  have r2 : Q4 q ((pl + 2 + 12 * i : Nat) : Int) 2 = some (Jr rc (pl + 2 + 12 * i) 2 : Int) := by rw [Rat2 q (by rw [e1]; omega) (by rw [e1]; omega), e1, e2]
  have hv2 := v2 rc (pl + 2 + 12 * i)
  by_cases hlow : ∃ h : 0 < i, (Jr rc (pl + 2 + 12 * i) 2 : Int) ≤ (l[i - 1]'(by omega)).Tag
  ·obtain ⟨h0, hlow⟩ := hlow
   rw [Jhe _ _ _ _ _ _ _ _ (by omega) hno h0 (by omega) hin' (by omega) hlow] at hd
   cases hd
   refine ⟨[], 0, 5, q, ?_, (Jbi hno 5).symm, fun h => absurd h (by decide)⟩
   refine Qr fun next => ?_
   show Xq selfQ next (pl : Int) (path.length : Int) key (nxt : Int) (cnt : Int) (i : Int) q.s_ q.kab q.kam q.kaa q.kaf l = _
   unfold Xq
   rw [cI, if_pos (by omega), Ju (by omega), Jb, Ju (by omega), Jb, Ju (by omega), Jb, show (pl : Int) + 2 + 12 * (i : Int) = ((pl + 2 + 12 * i : Nat) : Int) by omega]
   show Js (Q4 q _ _) _ = _
   rw [r2, Jb, cI, if_pos (by omega), Ju (by omega), Jb, show (i : Int) - 1 = ((i - 1 : Nat) : Int) by omega, Xa (by omega), Jb, cI, if_pos hlow]
  ·have hi1 := hcap (i + 1) (by omega)
   rw [Nat.add_mul, Nat.one_mul] at hi1
   have hpr := hA.parts
   have hd20 : rc.kad ≤ 20 := by rw [hA.2.2.1]; exact h20
   have hff : rc.kac ≤ 0 := by rw [hA.2.2.2.1]; exact hf
   obtain ⟨en, r2', he, hA'⟩ := Jfv H rc (a := pl + 2 + 12 * i) hpl (by omega) (by omega) hff
   rw [Jft self path pl nxt cnt i rc l (by omega) hno hl (by omega) hin' (by omega) (fun h hh => hlow ⟨h, hh⟩) (by omega) hff (by omega) he] at hd
   obtain ⟨hit, hil⟩ := Jdm (n := (Jr rc (pl + 2 + 12 * i) 2 : Int)) (by omega)
   obtain ⟨hT, v, e, q', g1, g2, g3⟩ := ent_sim G rc q (a := pl + 2 + 12 * i) hq hno hpl (by omega) (by omega) (by omega) hff hd20 (key ++ [32] ++ itoaL (Jr rc (pl + 2 + 12 * i) 2 : Int)) (by simp only [List.length_append, List.length_cons, List.length_nil]; omega) (by rw [keyS_snoc (fun h => by rw [h] at hpos; exact absurd hpos (Nat.lt_irrefl 0)), hkey]) hpos he
   have step : ∀ next, Xq selfQ next (pl : Int) (path.length : Int) key (nxt : Int) (cnt : Int) (i : Int) q.s_ q.kab q.kam q.kaa q.kaf l =
     if e ≠ 0 then some ([], 0, e, q') else next ((pl : Int), (path.length : Int), key, (nxt : Int), (cnt : Int), ((i + 1 : Nat) : Int), q'.s_, q'.kab, q'.kam, q'.kaa, q'.kaf, l ++ [⟨(Jr rc (pl + 2 + 12 * i) 2 : Int), v⟩]) := by
    intro next
    have hj4 : Vl selfQ (pl : Int) (path.length : Int) key (nxt : Int) (cnt : Int) (i : Int) q.s_ q.kab q.kam q.kaa q.kaf l next ((pl + 2 + 12 * i : Nat) : Int) (Jr rc (pl + 2 + 12 * i) 2 : Int) =
      if e ≠ 0 then some ([], 0, e, q') else next ((pl : Int), (path.length : Int), key, (nxt : Int), (cnt : Int), ((i + 1 : Nat) : Int), q'.s_, q'.kab, q'.kam, q'.kaa, q'.kaf, l ++ [⟨(Jr rc (pl + 2 + 12 * i) 2 : Int), v⟩]) := by
     unfold Vl
     rw [Z6 (by simp; omega), Jb, hit, Jb, Z6 (by simp only [List.length_append, List.length_cons, List.length_nil]; omega), Jb]
     show Js (Xt selfQ q _ _ _) _ = _
     rw [g1, Jb, cI]
     split
     ·rfl
     ·rw [Yw (by rw [hl]; simp; omega), Jb, Ju (by omega), Jb]; rfl
    unfold Xq
    rw [cI, if_pos (by omega), Ju (by omega), Jb, Ju (by omega), Jb, Ju (by omega), Jb, show (pl : Int) + 2 + 12 * (i : Int) = ((pl + 2 + 12 * i : Nat) : Int) by omega]
    show Js (Q4 q _ _) _ = _
    rw [r2, Jb, cI]
    by_cases h0 : 0 < i
    ·rw [if_pos (by omega), Ju (by omega), Jb, show (i : Int) - 1 = ((i - 1 : Nat) : Int) by omega, Xa (by omega), Jb, cI, if_neg (fun h => hlow ⟨h0, h⟩), hj4]
    ·rw [if_neg (by omega), hj4]
   by_cases hz : e = 0
   ·obtain ⟨hv, hsame, hplc⟩ := g3 hz
    have hen : (⟨(Jr rc (pl + 2 + 12 * i) 2 : Int), v⟩ : Ta) = en := by
     rw [hv, ← hT]
     cases en; rfl
    have hno' : r2'.no_ = 0 := by rw [← g2, hz]
    obtain ⟨l2, nx2, e', q2, k1, k2, k3⟩ := ih (i + 1) r2' q' (l ++ [en]) (by omega) (by simp; omega) ((hA.trans hA').mono (by rw [Nat.add_mul, Nat.one_mul]; omega) (by rw [Jfm]; omega)) hno' hsame l' nx r' hd
    refine ⟨l2, nx2, e', q2, ?_, k2, fun he0 => ?_⟩
    rotate_left
    ·obtain ⟨b1, b2, b3, rest, b4, b5⟩ := k3 he0
     refine ⟨b1, b2, b3, en :: rest, by rw [b4]; simp, ?_⟩
     rw [b5, hplc, hA.1, hA.2.1]
     unfold plF
     rw [← List.foldl_append]; rfl
    rw [← k1]
    refine Xu _ fun next => ?_
    show Xq selfQ next (pl : Int) (path.length : Int) key (nxt : Int) (cnt : Int) (i : Int) q.s_ q.kab q.kam q.kaa q.kaf l = _
    rw [step, if_neg (by simp [hz]), hen]
   ·rw [Jaa _ _ _ _ _ _ _ _ (.inr (by rw [← g2]; exact hz))] at hd
    cases hd
    refine ⟨[], 0, e, q', ?_, g2, fun h => absurd h hz⟩
    refine Qr fun next => ?_
    show Xq selfQ next (pl : Int) (path.length : Int) key (nxt : Int) (cnt : Int) (i : Int) q.s_ q.kab q.kam q.kaa q.kaf l = _
    rw [step, if_pos hz]
theorem dir_sim {d : Nat} {self : Wj} {selfQ : Jew} (H : Jgg d self) (G : SimD d self selfQ) (r : Tb) (q : Tf) (pl : Nat) (path : List Int) (number : Int) (inner : Bool) (key : List UInt8) (hq : Same r q) (hno : r.no_ = 0) (hpl : path.length + d + 1 = 6) (hpos : 0 < path.length) (hb : pl ≤ 4294967295) (hs : r.s_.length ≤ 65000) (hp : r.kaa.length + Y4 (d + 1) ≤ 7999999999999) (hf : r.kac ≤ 0)
  (h20 : 20 ≤ number ↔ 20 < r.kad) (hin : inner = decide (1 < path.length)) (hk : key.length + 100 * (d + 1) ≤ 10000) (hkey : key = keyS path) {l : List Ta} {nx : Int} {r' : Tb} (hd : dirR self r pl path = some (l, nx, r')) :
  ∃ l2 nx2 e q', Qy selfQ q (pl : Int) (path.length : Int) number inner key = some (l2, nx2, e, q') ∧ e = r'.no_ ∧ (e = 0 → l2 = l ∧ nx2 = nx ∧ Same r' q' ∧ q'.kaf = plF r.s_ r.kab q.kaf (trD r.s_ r.kab (d + 1) path pl l)) := by
 have e1 := hq.s
 have e2 := hq.big
 have e3 := hq.seen
 unfold dirR at hd
 unfold Qy
 rw [show (2 : Int) = ((2 : Nat) : Int) from rfl, Rin_eq q (by rw [e1]; omega), e1, Jb, show ((2 : Nat) : Int) = 2 from rfl]
 by_cases ht : 8 ≤ pl ∧ pl + 2 ≤ r.s_.length
 rotate_left
 ·rw [if_pos ht] at hd
  cases hd
  rw [decide_eq_false ht, Bool.not_false, Qq]
  exact ⟨_, _, _, _, rfl, (Jbi hno 2).symm, fun h => absurd h (by decide)⟩
 rw [if_neg (by simp [ht])] at hd
 rw [decide_eq_true ht, Bool.not_true, Qa, e3]
 by_cases hsn : (Q2 r.kae (pl : Int)).getD false = true
 ·rw [if_pos hsn] at hd
  cases hd
  rw [hsn, Qq]
  exact ⟨_, _, _, _, rfl, (Jbi hno 13).symm, fun h => absurd h (by decide)⟩
 rw [if_neg hsn] at hd
 rw [Bool.not_eq_true _ |>.mp hsn, Qa]
 have hv := v2 r pl
 have r2 : ∀ (st : List (Int × Bool)), Q4 ⟨q.s_, q.kab, st, q.kaa, q.kaf⟩ (pl : Int) 2 = some (Jr r pl 2 : Int) := fun st => by
  rw [Rat2 _ (by show _ ≤ q.s_.length; rw [e1]; omega) (by show q.s_.length ≤ _; rw [e1]; omega)]
  show some ((Jao q.kab ((q.s_.drop pl).take 2) : Nat) : Int) = _
  rw [e1, e2]
 rw [show Q4 (⟨r.s_, q.kab, Yp r.kae (pl : Int) true, q.kaa, q.kaf⟩ : Tf) (pl : Int) 2 = some (Jr r pl 2 : Int) by rw [← e1]; exact r2 _, Jb, cI, cI, cI]
 by_cases hl : 20 < r.kad ∨ 5 < path.length ∨ 200 < Jr r pl 2
 ·rw [if_pos hl] at hd
  cases hd
  have hans : ∀ x : Tf, ∃ l2 nx2 e q', (some (([] : List Ta), (0 : Int), (4 : Int), x)) = some (l2, nx2, e, q') ∧ e = (fl r 4).no_ ∧ (e = 0 → l2 = [] ∧ nx2 = 0 ∧ Same (fl r 4) q' ∧ q'.kaf = plF r.s_ r.kab q.kaf (trD r.s_ r.kab (d + 1) path pl [])) := fun x => ⟨_, _, _, _, rfl, (Jbi hno 4).symm, fun h => absurd h (by decide)⟩
  by_cases h1 : 20 < r.kad
  ·rw [if_pos (h20.2 h1)]; exact hans _
  ·rw [if_neg (fun h => h1 (h20.1 h))]
   by_cases h2 : 5 < path.length
   ·rw [if_pos (by omega)]; exact hans _
   ·rw [if_neg (by omega), if_pos (by omega)]; exact hans _
 rw [if_neg hl] at hd
 rw [if_neg (fun h => hl (.inl (h20.1 h))), if_neg (by omega), if_neg (by omega), Ju (by omega), Jb, Ju (by omega), Jb, Ju (by omega), Jb,
  show (2 : Int) + 12 * (Jr r pl 2 : Int) + 4 = ((2 + 12 * Jr r pl 2 + 4 : Nat) : Int) by omega, Rin_eq _ hs, Jb]
 by_cases hb2 : pl + (2 + 12 * Jr r pl 2 + 4) ≤ r.s_.length
 rotate_left
 ·rw [if_pos hb2] at hd
  cases hd
  rw [decide_eq_false (by show ¬ (8 ≤ pl ∧ pl + (2 + 12 * Jr r pl 2 + 4) ≤ r.s_.length); omega), Bool.not_false, Qq]
  exact ⟨_, _, _, _, rfl, (Jbi hno 2).symm, fun h => absurd h (by decide)⟩
 rw [if_neg (by omega), if_neg (by simp [hno])] at hd
 rw [decide_eq_true (show 8 ≤ pl ∧ pl + (2 + 12 * Jr r pl 2 + 4) ≤ r.s_.length by omega), Bool.not_true, Qa, Ju (by omega), Jb, Jb, Ju (by omega), Jb, Ju (by omega), Jb,
  Yw (by rw [hq.parts]; simp; omega), Jb, Jb, Jb, Ju (by omega), Jb, show (pl : Int) + 2 + 12 * (Jr r pl 2 : Int) = ((pl + 2 + 12 * Jr r pl 2 : Nat) : Int) by omega,
  show ((pl + 2 + 12 * Jr r pl 2 : Nat) : Int) + 4 = ((pl + (2 + 12 * Jr r pl 2 + 4) : Nat) : Int) by omega]
 have r4 : ∀ (st : List (Int × Bool)) (ps : List Tc), Q4 ⟨r.s_, q.kab, st, ps, q.kaf⟩ ((pl + 2 + 12 * Jr r pl 2 : Nat) : Int) 4 = some (Jr r (pl + 2 + 12 * Jr r pl 2) 4 : Int) := fun st ps => by
  rw [Rat4 _ (by show _ ≤ r.s_.length; omega) (by show r.s_.length ≤ _; omega)]
  show some ((Jao q.kab ((r.s_.drop _).take 4) : Nat) : Int) = _
  rw [e2]
 rw [r4, Jb]
 have hpart := Adds.part r ⟨(pl : Int), ((pl + (2 + 12 * Jr r pl 2 + 4) : Nat) : Int)⟩ (Yp r.kae (pl : Int) true) ⟨by simp only; omega, by simp only; omega, by simp only; omega⟩
 generalize hnx : Jr r (pl + 2 + 12 * Jr r pl 2) 4 = nxt at hd ⊢
 by_cases hform : 1 < path.length ∧ nxt ≠ 0
 ·rw [if_pos hform, Jaa _ _ _ _ _ _ _ _ (.inr (Ys _ (by decide)))] at hd
  cases hd
  rw [hin, decide_eq_true hform.1, Qq, cI, if_pos (by omega)]
  exact ⟨_, _, _, _, rfl, by unfold fl; rw [if_pos hno], fun h => absurd h (by decide)⟩
 ·rw [if_neg hform] at hd
  have hj1 : Y3 q (pl : Int) (path.length : Int) key selfQ (Jr r pl 2 : Int) (q.kaa ++ [⟨(pl : Int), ((pl + (2 + 12 * Jr r pl 2 + 4) : Nat) : Int)⟩]) (nxt : Int) =
    loopQ selfQ (pl : Int) (path.length : Int) key (nxt : Int) (Jr r pl 2 : Int) ((0 : Nat) : Int) ⟨q.s_, q.kab, Yp q.kam (pl : Int) true, q.kaa ++ [⟨(pl : Int), ((pl + (2 + 12 * Jr r pl 2 + 4) : Nat) : Int)⟩], q.kaf⟩ [] := rfl
  have run := loop_sim H G hpl hpos r (pl := pl) (nxt := nxt) (cnt := Jr r pl 2) hs (by omega) (by omega) hp hf (by omega) key hk hkey (Jr r pl 2) 0 _ ⟨q.s_, q.kab, Yp q.kam (pl : Int) true, q.kaa ++ [⟨(pl : Int), ((pl + (2 + 12 * Jr r pl 2 + 4) : Nat) : Int)⟩], q.kaf⟩ [] (by omega) rfl
   (hpart.mono (by omega) (by rw [Jci]; simp only; omega)) hno ⟨hq.s, hq.big, by show Yp q.kam _ _ = Yp r.kae _ _; rw [e3], by show q.kaa ++ _ = hdP :: (r.kaa ++ _); rw [hq.parts]; rfl⟩ l nx r' hd
  rw [← hj1] at run
  have go : Qe inner (Qe (decide ((nxt : Int) ≠ 0)) (some (([] : List Ta), (0 : Int), (1 : Int), (⟨r.s_, q.kab, Yp r.kae (pl : Int) true, q.kaa ++ [⟨(pl : Int), ((pl + (2 + 12 * Jr r pl 2 + 4) : Nat) : Int)⟩], q.kaf⟩ : Tf))) (Y3 q (pl : Int) (path.length : Int) key selfQ (Jr r pl 2 : Int) (q.kaa ++ [⟨(pl : Int), ((pl + (2 + 12 * Jr r pl 2 + 4) : Nat) : Int)⟩]) (nxt : Int)))
    (Y3 q (pl : Int) (path.length : Int) key selfQ (Jr r pl 2 : Int) (q.kaa ++ [⟨(pl : Int), ((pl + (2 + 12 * Jr r pl 2 + 4) : Nat) : Int)⟩]) (nxt : Int)) =
    Y3 q (pl : Int) (path.length : Int) key selfQ (Jr r pl 2 : Int) (q.kaa ++ [⟨(pl : Int), ((pl + (2 + 12 * Jr r pl 2 + 4) : Nat) : Int)⟩]) (nxt : Int) := by
   cases inner with
   | false => rfl
   | true =>
    have h1 : 1 < path.length := of_decide_eq_true hin.symm
    rw [Qq, cI, if_neg (by have := hform; omega)]
  rw [go]
  obtain ⟨l2, nx2, e, q', k1, k2, k3⟩ := run
  refine ⟨l2, nx2, e, q', k1, k2, fun h => ?_⟩
  obtain ⟨b1, b2, b3, rest, b4, b5⟩ := k3 h
  refine ⟨b1, b2, b3, ?_⟩
  rw [b4, List.nil_append]
  exact b5
theorem dirQ_zero {selfQ : Jew} (self : Wj) (r : Tb) (q : Tf) (pl : Nat) (path : List Int) (number : Int) (inner : Bool) (key : List UInt8) (hq : Same r q) (hno : r.no_ = 0) (hpl : path.length = 6) (hb : pl ≤ 4294967295) (hs : r.s_.length ≤ 65000)
  (h20 : 20 ≤ number ↔ 20 < r.kad) {l : List Ta} {nx : Int} {r' : Tb} (hd : dirR self r pl path = some (l, nx, r')) :
  ∃ l2 nx2 e q', Qy selfQ q (pl : Int) (path.length : Int) number inner key = some (l2, nx2, e, q') ∧ e = r'.no_ ∧ (e = 0 → l2 = l ∧ nx2 = nx ∧ Same r' q' ∧ q'.kaf = plF r.s_ r.kab q.kaf (trD r.s_ r.kab 0 path pl l)) := by
 have e1 := hq.s
 have e2 := hq.big
 have e3 := hq.seen
 unfold dirR at hd
 unfold Qy
 rw [show (2 : Int) = ((2 : Nat) : Int) from rfl, Rin_eq q (by rw [e1]; omega), e1, Jb, show ((2 : Nat) : Int) = 2 from rfl]
 by_cases ht : 8 ≤ pl ∧ pl + 2 ≤ r.s_.length
 rotate_left
 ·rw [if_pos ht] at hd
  cases hd
  rw [decide_eq_false ht, Bool.not_false, Qq]
  exact ⟨_, _, _, _, rfl, (Jbi hno 2).symm, fun h => absurd h (by decide)⟩
 rw [if_neg (by simp [ht])] at hd
 rw [decide_eq_true ht, Bool.not_true, Qa, e3]
 by_cases hsn : (Q2 r.kae (pl : Int)).getD false = true
 ·rw [if_pos hsn] at hd
  cases hd
  rw [hsn, Qq]
  exact ⟨_, _, _, _, rfl, (Jbi hno 13).symm, fun h => absurd h (by decide)⟩
 rw [if_neg hsn, if_pos (.inr (.inl (by omega)))] at hd
 cases hd
 rw [Bool.not_eq_true _ |>.mp hsn, Qa]
 have r2 : Q4 ⟨r.s_, q.kab, Yp r.kae (pl : Int) true, q.kaa, q.kaf⟩ (pl : Int) 2 = some (Jr r pl 2 : Int) := by
  rw [Rat2 _ (by show _ ≤ r.s_.length; omega) (by show r.s_.length ≤ _; omega)]
  show some ((Jao q.kab ((r.s_.drop pl).take 2) : Nat) : Int) = _
  rw [e2]
 rw [r2, Jb, cI, cI]
 split
 ·exact ⟨_, _, _, _, rfl, (Jbi hno 4).symm, fun h => absurd h (by decide)⟩
 ·rw [if_pos (by omega)]
  exact ⟨_, _, _, _, rfl, (Jbi hno 4).symm, fun h => absurd h (by decide)⟩
noncomputable abbrev dirFQ : Jew → Jew := fun self s => Qy self s.1 s.2.1 s.2.2.1 s.2.2.2.1 s.2.2.2.2.1 s.2.2.2.2.2
theorem it_sim : ∀ (d n m : Nat), d < n → d < m → SimD d (it dirF n) (it dirFQ m) := by
 intro d
 induction d with
 | zero =>
  intro n m hn hm r q pl path number inner key hq hno hp0 h6 hpl hs hp hf h20 hin hk hkey l nx r' hd
  obtain ⟨n, rfl⟩ : ∃ k, n = k + 1 := ⟨n - 1, by omega⟩
  obtain ⟨m, rfl⟩ : ∃ k, m = k + 1 := ⟨m - 1, by omega⟩
  have hd : J6 (it dirF n) r (pl : Int) path = some (l, nx, r') := hd
  rw [Jde _ r hpl hs (by omega)] at hd
  exact dirQ_zero _ r q pl path number inner key hq hno (by omega) hpl hs h20 hd
 | succ d ih =>
  intro n m hn hm r q pl path number inner key hq hno hp0 h6 hpl hs hp hf h20 hin hk hkey l nx r' hd
  obtain ⟨n, rfl⟩ : ∃ k, n = k + 1 := ⟨n - 1, by omega⟩
  obtain ⟨m, rfl⟩ : ∃ k, m = k + 1 := ⟨m - 1, by omega⟩
  have hd : J6 (it dirF n) r (pl : Int) path = some (l, nx, r') := hd
  rw [Jde _ r hpl hs (by omega)] at hd
  exact dir_sim (it_ok d n (by omega)) (ih n m (by omega) (by omega)) r q pl path number inner key hq hno (by omega) hp0 hpl hs hp hf h20 hin hk hkey hd
theorem fix_cong {α ρ : Type} {F G : (α → Option ρ) → α → Option ρ} (I : α → Prop) (h : ∀ next next' a, I a → (∀ b, I b → next b = next' b) → F next a = G next' a) (a : α) (ha : I a) : Vv F a = Vv G a := by
 have key : ∀ n a, I a → it F n a = it G n a := by
  intro n
  induction n with
  | zero => intro a _; rfl
  | succ n ih => intro a ha; exact h _ _ a ha fun b hb => ih b hb
 by_cases hb : ∃ r k, ∀ n, k ≤ n → it F n a = some r
 ·obtain ⟨r, k, hk⟩ := hb
  rw [Jdu (o := some r) (k := k) hk, Jdu (o := some r) (k := k) fun n hn => by rw [← key n a ha]; exact hk n hn]
 ·have hg : ¬ ∃ r k, ∀ n, k ≤ n → it G n a = some r := by
   rintro ⟨r, k, hk⟩
   exact hb ⟨r, k, fun n hn => by rw [key n a ha]; exact hk n hn⟩
  unfold Vv
  rw [dif_neg hb, dif_neg hg]
theorem valueQ_congr {self self' : Jew} {deep : Int} (h : ∀ q f key, self (q, f, deep + 1, 0, true, key) = self' (q, f, deep + 1, 0, true, key)) (q : Tf) (a : Int) (key : List UInt8) : Xt self q a deep key = Xt self' q a deep key := by
 unfold Xt
 refine Q8 fun _ _ => Q8 fun _ _ => Q8 fun _ _ => Q8 fun _ _ => Q8 fun _ _ => Q8 fun _ _ => Q8 fun _ _ => Wm (fun _ => rfl) fun _ => Wm (fun _ => Wm (fun _ => rfl) fun _ => Q8 fun t ht => ?_) fun _ => rfl
 obtain ⟨rfl, _⟩ := Jf6 ht
 rw [h]
theorem dirQ_congr {self self' : Jew} {deep : Int} (h : ∀ q f key, self (q, f, deep + 1, 0, true, key) = self' (q, f, deep + 1, 0, true, key)) (q : Tf) (pl : Int) (number : Int) (inner : Bool) (key : List UInt8) :
  Qy self q pl deep number inner key = Qy self' q pl deep number inner key := by
 have hv := valueQ_congr h
 have hj : ∀ a0 a1 a5 t36 l69 t78, Y3 a0 a1 deep a5 self t36 l69 t78 = Y3 a0 a1 deep a5 self' t36 l69 t78 := by
  intro a0 a1 a5 t36 l69 t78
  unfold Y3
  refine fix_cong (fun s => s.2.1 = deep) (fun next next' s hs hn => ?_) _ rfl
  obtain ⟨x1, x2, x3, x4, x5, x6, x7, x8, x9, x10, x11, x12⟩ := s
  have hs : x2 = deep := hs
  subst hs
  show Xq self next x1 x2 x3 x4 x5 x6 x7 x8 x9 x10 x11 x12 = Xq self' next' x1 x2 x3 x4 x5 x6 x7 x8 x9 x10 x11 x12
  have h4 : ∀ a b, Vl self x1 x2 x3 x4 x5 x6 x7 x8 x9 x10 x11 x12 next a b = Vl self' x1 x2 x3 x4 x5 x6 x7 x8 x9 x10 x11 x12 next' a b := by
   intro a b
   unfold Vl
   simp only [hv]
   exact Q8 fun _ _ => Q8 fun _ _ => Q8 fun _ _ => Q8 fun _ _ => Wm (fun _ => rfl) fun _ => Q8 fun _ _ => Q8 fun _ _ => hn _ rfl
  unfold Xq
  simp only [h4]
 unfold Qy
 simp only [hj]
theorem deepQ_congr {self self' : Jew} {deep : Int} (h : 5 < deep) (q : Tf) (pl : Int) (number : Int) (inner : Bool) (key : List UInt8) : Qy self q pl deep number inner key = Qy self' q pl deep number inner key := by
 unfold Qy
 refine Q8 fun t _ => Wm (fun _ => rfl) fun _ => Wm (fun _ => rfl) fun _ => Q8 fun c _ => Wm (fun _ => rfl) fun _ => ?_
 rw [cI, if_pos h, cI, if_pos h]
theorem it_sameQ : ∀ (d n m : Nat), d < n → d < m → ∀ (q : Tf) (pl deep number : Int) (inner : Bool) (key : List UInt8), deep + d = 6 → it dirFQ n (q, pl, deep, number, inner, key) = it dirFQ m (q, pl, deep, number, inner, key) := by
 intro d
 induction d with
 | zero =>
  intro n m hn hm q pl deep number inner key h6
  obtain ⟨n, rfl⟩ : ∃ k, n = k + 1 := ⟨n - 1, by omega⟩
  obtain ⟨m, rfl⟩ : ∃ k, m = k + 1 := ⟨m - 1, by omega⟩
  exact deepQ_congr (show 5 < deep by omega) q pl number inner key
 | succ d ih =>
  intro n m hn hm q pl deep number inner key h6
  obtain ⟨n, rfl⟩ : ∃ k, n = k + 1 := ⟨n - 1, by omega⟩
  obtain ⟨m, rfl⟩ : ∃ k, m = k + 1 := ⟨m - 1, by omega⟩
  exact dirQ_congr (fun q f key => ih n m (by omega) (by omega) q f (deep + 1) 0 true key (by omega)) q pl number inner key
theorem dirQ_it (q : Tf) (pl number : Int) (inner : Bool) (key : List UInt8) : Jaz q pl 1 number inner key = it dirFQ 6 (q, pl, 1, number, inner, key) := by
 unfold Jaz
 exact Jdu (k := 6) fun n hn => it_sameQ 5 n 6 (by omega) (by omega) q pl 1 number inner key (by omega)
theorem loop_nextC {d : Nat} {self : Wj} (H : Jgg d self) {path : List Int} (hpl : path.length + d + 1 = 6) (r : Tb) {pl nxt cnt : Nat} (hs : r.s_.length ≤ 65000) (hcnt : cnt ≤ 200) (hin : pl + 2 + 12 * cnt ≤ r.s_.length) (hp : r.kaa.length + Y4 (d + 1) ≤ 7999999999999) (hf : r.kac ≤ 0) :
  ∀ (m i : Nat) (rc : Tb) (l : List Ta), i + m = cnt → l.length = i → Adds r rc (1 + i * (1 + Y4 d)) ((szD (d + 1) l : Nat) + 12 * m : Int) →
   ∀ l' nx r', Jch self path pl nxt cnt i rc l = some (l', nx, r') → nx = (nxt : Int) ∧ (r'.no_ = 0 → l'.length = cnt) := by
 intro m
 have hcap : ∀ i, i ≤ 200 → 1 + i * (1 + Y4 d) ≤ Y4 (d + 1) := fun i hi => by
  show _ ≤ 1 + 200 * (1 + Y4 d)
  have := Nat.mul_le_mul_right (1 + Y4 d) hi; omega
 induction m with
 | zero =>
  intro i rc l him hl hA l' nx r' hd
  rw [Jaa _ _ _ _ _ _ _ _ (.inl (by omega))] at hd
  cases hd
  exact ⟨rfl, fun _ => by omega⟩
 | succ m ih =>
  intro i rc l him hl hA l' nx r' hd
  have hsl := hA.len
  by_cases hno : rc.no_ = 0
  ·have hin' : pl + 2 + 12 * cnt ≤ rc.s_.length := by omega
   by_cases hlow : ∃ h : 0 < i, (Jr rc (pl + 2 + 12 * i) 2 : Int) ≤ (l[i - 1]'(by omega)).Tag
   ·obtain ⟨h0, hlow⟩ := hlow
    rw [Jhe _ _ _ _ _ _ _ _ (by omega) hno h0 (by omega) hin' (by omega) hlow] at hd
    cases hd
    exact ⟨rfl, fun h => absurd h (Ys rc (by decide))⟩
   ·have hi1 := hcap (i + 1) (by omega)
    rw [Nat.add_mul, Nat.one_mul] at hi1
    have hpr := hA.parts
    obtain ⟨e, r2, he, hA'⟩ := Jfv H rc (a := pl + 2 + 12 * i) hpl (by omega) (by omega) (by rw [hA.2.2.2.1]; exact hf)
    rw [Jft self path pl nxt cnt i rc l (by omega) hno hl (by omega) hin' (by omega) (fun h hh => hlow ⟨h, hh⟩) (by omega) (by rw [hA.2.2.2.1]; exact hf) (by omega) he] at hd
    exact ih (i + 1) r2 (l ++ [e]) (by omega) (by simp; omega) ((hA.trans hA').mono (by rw [Nat.add_mul, Nat.one_mul]; omega) (by rw [Jfm]; omega)) l' nx r' hd
  ·rw [Jaa _ _ _ _ _ _ _ _ (.inr hno)] at hd
   cases hd
   exact ⟨rfl, fun h => absurd h hno⟩
theorem dirR_next {d : Nat} {self : Wj} (H : Jgg d self) (r : Tb) (pl : Nat) (path : List Int) (hno : r.no_ = 0) (hpl : path.length + d + 1 = 6) (hs : r.s_.length ≤ 65000) (hp : r.kaa.length + Y4 (d + 1) ≤ 7999999999999) (hf : r.kac ≤ 0) {l : List Ta} {nx : Int} {r' : Tb}
  (hd : dirR self r pl path = some (l, nx, r')) (hno' : r'.no_ = 0) : nx = (vS r.s_ r.kab (pl + 2 + 12 * l.length) 4 : Int) ∧ l.length = vS r.s_ r.kab pl 2 := by
 unfold dirR at hd
 split at hd
 ·cases hd; exact absurd hno' (Ys _ (by decide))
 rename_i h8
 split at hd
 ·cases hd; exact absurd hno' (Ys _ (by decide))
 split at hd
 ·cases hd; exact absurd hno' (Ys _ (by decide))
 rename_i hlim
 split at hd
 ·cases hd; exact absurd hno' (Ys _ (by decide))
 rename_i hin
 split at hd
 ·rename_i h; exact absurd hno h
 have hpart := Adds.part r ⟨(pl : Int), ((pl + (2 + 12 * Jr r pl 2 + 4) : Nat) : Int)⟩ (Yp r.kae (pl : Int) true) ⟨by simp only; omega, by simp only; omega, by simp only; omega⟩
 split at hd
 ·rw [Jaa _ _ _ _ _ _ _ _ (.inr (Ys _ (by decide)))] at hd
  cases hd
  exact absurd hno' (Ys _ (by decide))
 ·obtain ⟨k1, k2⟩ := loop_nextC (nxt := Jr r (pl + 2 + 12 * Jr r pl 2) 4) H hpl r hs (show Jr r pl 2 ≤ 200 by omega) (show pl + 2 + 12 * Jr r pl 2 ≤ r.s_.length by omega) hp hf (Jr r pl 2) 0 _ [] (by omega) rfl (hpart.mono (by omega) (by rw [Jci]; simp only; omega)) l nx r' hd
  have k2 := k2 hno'
  rw [k1, k2]
  exact ⟨rfl, rfl⟩
theorem dir_next {r : Tb} {pl : Nat} {i : Int} {l : List Ta} {nx : Nat} {r' : Tb} (hd : Vx r (pl : Int) [i] = some (l, (nx : Int), r')) (hno : r.no_ = 0) (hb : pl ≤ 4294967295) (hs : r.s_.length ≤ 65000) (hp : r.kaa.length + Y4 5 ≤ 7999999999999) (hf : r.kac ≤ 0) (hno' : r'.no_ = 0) : vS r.s_ r.kab (pl + 2 + 12 * l.length) 4 = nx := by
 rw [dir_it _ _ _ rfl] at hd
 have hd : J6 (it dirF 5) r (pl : Int) [i] = some (l, (nx : Int), r') := hd
 rw [Jde _ r hb hs (by omega)] at hd
 have := (dirR_next (it_ok 4 5 (by omega)) r pl [i] hno rfl hs hp hf hd hno').1
 omega
theorem top_sim (r : Tb) (q : Tf) (pl : Nat) (path : List Int) (h1 : path.length = 1) (number : Int) (key : List UInt8) (hq : Same r q) (hno : r.no_ = 0) (hb : pl ≤ 4294967295) (hs : r.s_.length ≤ 65000) (hp : r.kaa.length + Y4 5 ≤ 7999999999999) (hf : r.kac ≤ 0)
  (h20 : 20 ≤ number ↔ 20 < r.kad) (hk : key.length ≤ 5) (hkey : key = keyS path) {l : List Ta} {nx : Int} {r' : Tb} (hd : Vx r (pl : Int) path = some (l, nx, r')) :
  ∃ l2 nx2 e q', Jaz q (pl : Int) 1 number false key = some (l2, nx2, e, q') ∧ e = r'.no_ ∧ (e = 0 → l2 = l ∧ nx2 = nx ∧ Same r' q' ∧ q'.kaf = plF r.s_ r.kab q.kaf (trD r.s_ r.kab 5 path pl l)) := by
 rw [dir_it _ _ _ h1] at hd
 rw [dirQ_it]
 have := it_sim 5 6 6 (by omega) (by omega) r q pl path number false key hq hno (by omega) (by omega) hb hs hp hf h20 (by rw [h1]; rfl) (by omega) hkey l nx r' hd
 rw [h1] at this
 exact this
end Go.M

namespace Go.M
open Go.Md Go.Pl
abbrev fromLe (x y : Tc) : Prop := x.From ≤ y.From
def apartP (x y : Tc) : Prop := x.To ≤ y.From ∨ y.To ≤ x.From
theorem apartP.symm {x y : Tc} (h : apartP x y) : apartP y x := h.elim .inr .inl
theorem Jiu {l : List Tc} (hs : l.Pairwise fromLe) (hne : ∀ x ∈ l, x.From < x.To) : ¬ lapP l ↔ l.Pairwise apartP := by
 rw [List.pairwise_iff_getElem] at hs ⊢
 constructor
 ·intro h i j hi hj hij
  refine .inl ?_
  have h1 : ¬ (l[i + 1]'(by omega)).From < l[i].To := fun hh => h ⟨i, by omega, hh⟩
  rcases Nat.lt_or_ge (i + 1) j with h2 | h2
  ·have := hs (i + 1) j (by omega) hj h2
   unfold fromLe at this; omega
  ·have : j = i + 1 := by omega
   subst this; omega
 ·rintro h ⟨i, hi, hlt⟩
  have a1 := hs i (i + 1) (by omega) hi (by omega)
  have a2 := hne _ (List.getElem_mem (show i < l.length by omega))
  have a3 := hne _ (List.getElem_mem hi)
  unfold fromLe at a1
  rcases h i (i + 1) (by omega) hi (by omega) with h | h <;> omega
theorem lap_perm {a b : List Tc} (p : a.Perm b) (ha : a.Pairwise fromLe) (hb : b.Pairwise fromLe) (hne : ∀ x ∈ a, x.From < x.To) : lapP a ↔ lapP b := by
 have h1 := Jiu ha hne
 have h2 := Jiu hb (fun x hx => hne x (p.mem_iff.2 hx))
 have h3 := p.pairwise_iff (R := apartP) (fun h => h.symm)
 have h4 : ¬ lapP a ↔ ¬ lapP b := by rw [h1, h2, h3]
 exact ⟨fun h => Classical.byContradiction fun hb => h4.2 hb h, fun h => Classical.byContradiction fun ha => h4.1 ha h⟩
theorem pw_ne {P : Tc → Tc → Prop} : ∀ {l : List Tc}, l.Pairwise P → ∀ {x y}, x ∈ l → y ∈ l → x ≠ y → P x y ∨ P y x
 | [], _, x, y, hx, _, _ => by simp at hx
 | z :: l, h, x, y, hx, hy, hne => by
  obtain ⟨h1, h2⟩ := List.pairwise_cons.1 h
  rcases List.mem_cons.1 hx with ex | ex <;> rcases List.mem_cons.1 hy with ey | ey
  ·exact absurd (ex.trans ey.symm) hne
  ·subst ex; exact .inl (h1 y ey)
  ·subst ey; exact .inr (h1 x ex)
  ·exact pw_ne h2 ex ey hne
theorem sorts_same {a b : List Tc} (p : a.Perm b) (ha : a.Pairwise fromLe) (hb : b.Pairwise fromLe) (hne : ∀ x ∈ a, x.From < x.To) (hl : ¬ lapP a) : a = b := by
 have hp := (Jiu ha hne).1 hl
 refine List.Perm.eq_of_pairwise (le := fromLe) (fun x y hx hy h1 h2 => ?_) ha hb p
 refine Classical.byContradiction fun hxy => ?_
 have hy' := p.mem_iff.2 hy
 have n1 := hne x hx
 have n2 := hne y hy'
 unfold fromLe at h1 h2
 rcases pw_ne hp hx hy' hxy with h | h <;> rcases h with h | h <;> omega
theorem Jhn (x y : Tc) : Zm x y = some (cmpI x.From y.From) := by
 unfold Zm
 rw [Jgv, Jb]
theorem Jg2 (x y : Tc) : (Zm x y).getD 0 ≤ 0 ↔ x.From ≤ y.From := by
 rw [Jhn, Option.getD_some]; unfold cmpI
 (repeat' split) <;> omega
theorem froms_pre : CmpPre Zm where
 tot x y := ⟨_, Jhn x y⟩
 flip x y := by
  rw [Jhn, Jhn, Option.getD_some, Option.getD_some]; unfold cmpI
  (repeat' split) <;> omega
 trans x y z := by
  rw [Jg2, Jg2, Jg2]; omega
theorem order_of {n : Nat} {l d : List Tc} (hok : ∀ x ∈ l, okS n x) (h : SortOf Zm (hdP :: l) d) : ∃ d', d = hdP :: d' ∧ d'.Perm l ∧ d'.Pairwise fromLe := by
 have hs : d.Pairwise fromLe := h.sorted.imp fun {x y} hxy => by
  unfold leC at hxy
  exact (Jg2 x y).1 (of_decide_eq_true hxy)
 have hm : hdP ∈ d := h.perm.mem_iff.2 (by simp)
 cases d with
 | nil => simp at hm
 | cons z t =>
  have hz : z = hdP := by
   have hzm : z ∈ hdP :: l := h.perm.mem_iff.1 (by simp)
   rcases List.mem_cons.1 hzm with e | e
   ·exact e
   ·have h8 := (hok z e).1
    rcases List.mem_cons.1 hm with e2 | e2
    ·exact e2.symm
    ·have := (List.pairwise_cons.1 hs).1 hdP e2
     unfold fromLe hdP at this
     simp only at this; omega
  subst hz
  exact ⟨t, rfl, (List.perm_cons _).1 h.perm, (List.pairwise_cons.1 hs).2⟩
theorem lap_head {n : Nat} {t : List Tc} (hok : ∀ x ∈ t, okS n x) : lapP (hdP :: t) ↔ lapP t := by
 constructor
 ·rintro ⟨i, hi, hlt⟩
  cases i with
  | zero =>
   have := (hok _ (List.getElem_mem (show 0 < t.length by simpa using hi))).1
   simp only [List.getElem_cons_succ, List.getElem_cons_zero] at hlt
   unfold hdP at hlt
   simp only at hlt; omega
  | succ i => exact ⟨i, by simpa using hi, by simpa using hlt⟩
 ·rintro ⟨i, hi, hlt⟩
  exact ⟨i + 1, by simpa using hi, by simpa using hlt⟩
abbrev AllR := Th × Int × Tf
open Classical in
theorem laps_loop {ρ : Type} (κ : AllR → Option ρ) (t : Int) (m : List UInt8) (m2 : Bool) (mp : List (Int × Bool)) (mp2 : List (List UInt8 × Td)) (ls : List (List Ta)) (d : List Tc) (hl : d.length ≤ 1099511627776000) :
  Vv (fun next4 s => Zq κ t m m2 mp mp2 ls d next4 s) 1 = if lapP d then κ (⟨false, []⟩, 6, ⟨m, m2, mp, d, mp2⟩) else V5 κ t m m2 mp mp2 ls d := by
 have key : ∀ k i : Nat, i + k = d.length → 1 ≤ i → Vv (fun next4 s => Zq κ t m m2 mp mp2 ls d next4 s) (i : Int) = if (∃ j : Nat, i ≤ j + 1 ∧ ∃ h : j + 1 < d.length, (d[j + 1]'h).From < (d[j]'(by omega)).To) then κ (⟨false, []⟩, 6, ⟨m, m2, mp, d, mp2⟩) else V5 κ t m m2 mp mp2 ls d := by
  intro k
  induction k with
  | zero =>
   intro i hi h1
   rw [if_neg (by rintro ⟨j, h2, h3, _⟩; omega)]
   refine Qr fun next => ?_
   unfold Zq
   rw [cI, if_neg (by omega)]
  | succ k ih =>
   intro i hi h1
   have hh : ∀ next : Int → Option ρ, Zq κ t m m2 mp mp2 ls d next (i : Int) = if (d[i]'(by omega)).From < (d[i - 1]'(by omega)).To then κ (⟨false, []⟩, 6, ⟨m, m2, mp, d, mp2⟩) else next ((i + 1 : Nat) : Int) := by
    intro next
    unfold Zq
    rw [cI, if_pos (by omega), Xa (by omega), Jb, Ju (by omega), Jb, show (i : Int) - 1 = ((i - 1 : Nat) : Int) by omega, Xa (by omega), Jb, cI]
    split
    ·rfl
    ·rw [Ju (by omega), Jb]; rfl
   by_cases hlap : (d[i]'(by omega)).From < (d[i - 1]'(by omega)).To
   ·rw [Qr (o := κ (⟨false, []⟩, 6, ⟨m, m2, mp, d, mp2⟩)) fun next => by rw [hh, if_pos hlap], if_pos]
    obtain ⟨k, rfl⟩ : ∃ k, i = k + 1 := ⟨i - 1, by omega⟩
    exact ⟨k, by omega, by omega, hlap⟩
   ·rw [Xu (((i + 1 : Nat) : Int)) fun next => by rw [hh, if_neg hlap], ih (i + 1) (by omega) (by omega)]
    congr 1
    rw [eq_iff_iff]
    constructor
    ·rintro ⟨j, h2, h3⟩; exact ⟨j, by omega, h3⟩
    ·rintro ⟨j, h2, h3, h4⟩
     rcases Nat.lt_or_ge i (j + 1) with h5 | h5
     ·exact ⟨j, by omega, h3, h4⟩
     ·exfalso
      have : i = j + 1 := by omega
      subst this
      exact hlap h4
 rcases Nat.lt_or_ge d.length 1 with h0 | h0
 ·rw [if_neg (by rintro ⟨j, h3, _⟩; omega)]
  refine Qr fun next => ?_
  unfold Zq
  rw [cI, if_neg (by omega)]
 ·rw [show (1 : Int) = ((1 : Nat) : Int) from rfl, key (d.length - 1) 1 (by omega) (by omega)]
  congr 1
  rw [eq_iff_iff]
  constructor
  ·rintro ⟨j, _, h3⟩; exact ⟨j, h3⟩
  ·rintro ⟨j, h3⟩; exact ⟨j, by omega, h3⟩
noncomputable def trF (s : List UInt8) (big : Bool) : Nat → Nat → List (List Ta) → List Trc
 | _, _, [] => []
 | i, nx, l :: ls => trD s big 5 [(i : Int)] nx l ++ trF s big (i + 1) (vS s big (nx + 2 + 12 * l.length) 4) ls
def Goes (G : List (List Ta) → List (List UInt8 × Td)) (X : (ρ : Type) → (AllR → Option ρ) → Option ρ) (f : Th) (ps : List Tc) (e : Int) : Prop :=
 (e = 0 ∧ Jhq f ∧ Je3 f = 0 ∧ ∀ (ρ : Type) (κ : AllR → Option ρ) (o : ρ), (∀ q, q.kaa = hdP :: ps → q.kaf = G f.kap → κ (f, 0, q) = some o) → X ρ κ = some o) ∨
 (e ≠ 0 ∧ f = ⟨false, []⟩ ∧ ps = [] ∧ ∀ (ρ : Type) (κ : AllR → Option ρ) (o : ρ), (∀ q, κ (⟨false, []⟩, e, q) = some o) → X ρ κ = some o)
theorem Goes.of_eq {X Y : (ρ : Type) → (AllR → Option ρ) → Option ρ} {G : List (List Ta) → List (List UInt8 × Td)} {f : Th} {ps : List Tc} {e : Int} (h : Goes G Y f ps e) (hxy : ∀ ρ κ, X ρ κ = Y ρ κ) : Goes G X f ps e := by
 have : X = Y := by funext ρ κ; exact hxy ρ κ
 rw [this]; exact h
open Classical in
theorem end_sim (t : Int) (r : Tb) (q : Tf) (ls : List (List Ta)) (hq : Same r q) (hno : r.no_ = 0) (hs : 8 ≤ r.s_.length ∧ r.s_.length ≤ 65000) (hp : r.kaa.length ≤ 8000000000000) (hok : ∀ x ∈ r.kaa, okS r.s_.length x) (hsz : (((ls.map (szD 5)).sum : Nat) : Int) ≤ Jcx r.kaa) (hl : ls.length ≤ 1000)
  {G : List (List Ta) → List (List UInt8 × Td)} (hG : q.kaf = G ls) {f : Th} {ps : List Tc} {e : Int} (h : Zy t r.s_ r.kab r.kad r.kac r.no_ r.kaa ls r.kae = some (f, ps, e)) :
  Goes G (fun ρ κ => Jae κ t q.s_ q.kab q.kam q.kaf q.kaa ls) f ps e := by
 unfold Zy at h
 have hperm := List.mergeSort_perm r.kaa (leC Qf)
 have hS : Jdv r.kaa Qf = some (r.kaa.mergeSort (leC Qf)) := if_pos ⟨by omega, spans_ok⟩
 have hsort : (r.kaa.mergeSort (leC Qf)).Pairwise fromLe := (List.pairwise_mergeSort (le := leC Qf) spans_ok.letrans spans_ok.total r.kaa).imp fun {x y} hxy => by
  unfold leC at hxy
  have := (Jd7 x y).1 (of_decide_eq_true hxy)
  unfold fromLe; omega
 rw [hS, Jb, cI] at h
 generalize r.kaa.mergeSort (leC Qf) = ps' at hperm hsort h
 have hlen : Jcx ps' = Jcx r.kaa := lenS_perm hperm
 have hne : ∀ x ∈ ps', x.From < x.To := fun x hx => (hok x (hperm.mem_iff.1 hx)).2.1
 have hfail : ∀ e : Int, e ≠ 0 → Ze t ls ps' e = some (⟨false, []⟩, [], e) := fun e he => by unfold Ze; rw [cI, if_pos he]
 have way : ∀ (ρ : Type) (κ : AllR → Option ρ) (o : ρ), (∀ d', d'.Perm r.kaa → d'.Pairwise fromLe → (if lapP d' then κ (⟨false, []⟩, 6, ⟨q.s_, q.kab, q.kam, hdP :: d', q.kaf⟩) else V5 κ t q.s_ q.kab q.kam q.kaf ls (hdP :: d')) = some o) →
   Jae κ t q.s_ q.kab q.kam q.kaf q.kaa ls = some o := by
  intro ρ κ o hd
  unfold Jae
  rw [hq.parts]
  refine gSortA_ok (by simp; omega) froms_pre fun d hsd => ?_
  obtain ⟨d', rfl, h1, h2⟩ := order_of hok hsd
  rw [laps_loop _ _ _ _ _ _ _ _ (by rw [List.length_cons, h1.length_eq]; omega)]
  rw [← hd d' h1 h2]
  congr 1
  exact propext (lap_head fun x hx => hok x (h1.mem_iff.1 hx))
 rw [if_pos hno, Ji2 _ (by rw [hperm.length_eq]; omega), Jb, cI] at h
 have hsame : ∀ d', d'.Perm r.kaa → d'.Pairwise fromLe → (lapP d' ↔ lapP ps') := fun d' h1 h2 => (lap_perm (hperm.trans h1.symm) hsort h2 hne).symm
 by_cases hlap : lapP ps'
 ·rw [if_pos hlap] at h
  unfold Zd at h
  rw [cI, if_neg (by decide), hfail 6 (by decide)] at h
  cases h
  refine .inr ⟨by decide, rfl, rfl, fun ρ κ o ho => way ρ κ o fun d' h1 h2 => ?_⟩
  rw [if_pos ((hsame d' h1 h2).2 hlap)]
  exact ho _
 ·rw [if_neg hlap] at h
  have hsep : sepS r.s_.length 8 ps' := by
   refine sep_of (fun x hx => hok x (hperm.mem_iff.1 hx)) hlap (fun x hx => ?_) (by omega)
   exact (hok x (hperm.mem_iff.1 (List.mem_of_mem_head? hx))).1
  have hsum := (Jit hsep).2.2
  have hB : Jhq (⟨decide (t = 77), ls⟩ : Th) := fileB_of (by show ls.length ≤ _; omega) (by show (ls.map (szD 5)).sum ≤ _; omega)
  have hd' : ∀ d', d'.Perm r.kaa → d'.Pairwise fromLe → d' = ps' := fun d' h1 h2 => (sorts_same (hperm.trans h1.symm) hsort h2 hne hlap).symm
  unfold Zd at h
  rw [cI, if_pos hno, Jiv hB, Jb] at h
  by_cases he : Je3 (⟨decide (t = 77), ls⟩ : Th) = 0
  ·unfold Ze at h
   rw [cI, if_neg (by simp [he])] at h
   cases h
   refine .inl ⟨rfl, hB, he, fun ρ κ o ho => way ρ κ o fun d' h1 h2 => ?_⟩
   rw [hd' d' h1 h2, if_neg hlap]
   unfold V5
   rw [Jhi hB, Jb, cI, if_neg (by simp [he])]
   exact ho _ rfl hG
  ·rw [hfail _ he] at h
   cases h
   refine .inr ⟨he, rfl, rfl, fun ρ κ o ho => way ρ κ o fun d' h1 h2 => ?_⟩
   rw [hd' d' h1 h2, if_neg hlap]
   unfold V5
   rw [Jhi hB, Jb, cI, if_pos he]
   exact ho _
noncomputable def rdLoopQ (ρ : Type) (κ : AllR → Option ρ) (t : Int) (nx : Int) (q : Tf) (ls : List (List Ta)) : Option ρ :=
 Vv (fun next5 s => Y2 κ t next5 s.1 s.2.1 s.2.2.1 s.2.2.2.1 s.2.2.2.2.1 s.2.2.2.2.2.1 s.2.2.2.2.2.2) (nx, q.s_, q.kab, q.kam, q.kaf, q.kaa, ls)
theorem rd_sim (t : Int) : ∀ (m D nx : Nat) (r : Tb) (q : Tf) (ls : List (List Ta)), D + m = 21 → nx ≤ 4294967295 → r.kad = D → ls.length = D → D ≤ 20 → (8 ≤ r.s_.length ∧ r.s_.length ≤ 65000) → r.kaa.length ≤ D * 323216080401 → (∀ x ∈ r.kaa, okS r.s_.length x) → (((ls.map (szD 5)).sum : Nat) : Int) ≤ Jcx r.kaa → r.kac ≤ 0 → Same r q → r.no_ = 0 →
  ∀ (P : List (List UInt8 × Td)) (nx0 : Nat), (∀ rest, trF r.s_ r.kab 0 nx0 (ls ++ rest) = trF r.s_ r.kab 0 nx0 ls ++ trF r.s_ r.kab ls.length nx rest) → q.kaf = plF r.s_ r.kab P (trF r.s_ r.kab 0 nx0 ls) → ∀ f ps e, Je7 t nx r ls = some (f, ps, e) → Goes (fun ls => plF r.s_ r.kab P (trF r.s_ r.kab 0 nx0 ls)) (fun ρ κ => rdLoopQ ρ κ t (nx : Int) q ls) f ps e := by
 have hcap : Y4 5 = 323216080401 := by rfl
 intro m
 induction m with
 | zero => intro D nx r q ls hD _ _ _ h20; omega
 | succ m ih =>
  intro D nx r q ls hD hnx hd hl h20 hs hp hok hsz hf hq hno P nx0 hT hP f ps e h
  by_cases h0 : nx = 0
  ·rw [Jh1 _ _ _ _ (.inl h0)] at h
   refine (end_sim t r q ls hq hno hs (by omega) hok hsz (by omega) (G := fun ls => plF r.s_ r.kab P (trF r.s_ r.kab 0 nx0 ls)) hP h).of_eq fun ρ κ => ?_
   refine Qr fun next => ?_
   show Y2 κ t next (nx : Int) q.s_ q.kab q.kam q.kaf q.kaa ls = _
   unfold Y2
   rw [cI, if_neg (by simp [h0])]
  ·obtain ⟨l, nx', r', h1, h2, h3, h4⟩ := dir_ok ⟨r.s_, r.kab, r.kaa, r.kae, r.kad + 1, r.kac, r.no_⟩ nx [(ls.length : Int)] rfl hnx hs.2 (by show r.kaa.length + Y4 5 ≤ _; rw [hcap]; omega) hf
   rw [rd_next t nx r ls h0 hno (by omega) (by omega) h1] at h
   obtain ⟨hit, hil⟩ := Jdm (n := (ls.length : Int)) (by omega)
   obtain ⟨l2, nx2, e', q', g1, g2, g3⟩ := top_sim ⟨r.s_, r.kab, r.kaa, r.kae, r.kad + 1, r.kac, r.no_⟩ q nx [(ls.length : Int)] rfl (ls.length : Int) (itoaL (ls.length : Int)) ⟨hq.s, hq.big, hq.seen, hq.parts⟩ hno hnx hs.2 (by show r.kaa.length + Y4 5 ≤ _; rw [hcap]; omega) hf (by show _ ↔ 20 < r.kad + 1; omega) hil rfl h1
   have step : ∀ (ρ : Type) (κ : AllR → Option ρ) next, Y2 κ t next (nx : Int) q.s_ q.kab q.kam q.kaf q.kaa ls = if e' ≠ 0 then κ (⟨false, []⟩, e', q') else next (nx2, q'.s_, q'.kab, q'.kam, q'.kaf, q'.kaa, ls ++ [l2]) := by
    intro ρ κ next
    unfold Y2
    rw [cI, if_pos (by simpa using h0), hit, Jb]
    show Js (Jaz q _ _ _ _ _) _ = _
    rw [g1, Jb, cI]
    split
    ·rfl
    ·rw [Yw (by simp; omega), Jb]
   by_cases hz : e' = 0
   ·obtain ⟨rfl, rfl, hsame, hplc⟩ := g3 hz
    have hlen' := h3.len
    have hsl : r'.s_.length = r.s_.length := hlen'
    have hpa := h3.parts
    rw [hcap] at hpa
    have hpa' : r'.kaa.length ≤ r.kaa.length + 323216080401 := hpa
    obtain ⟨k1, k2, k3, k4, new, k5, k6, k7, k8⟩ := h3
    have k5' : r'.kaa = r.kaa ++ new := k5
    have hno' : r'.no_ = 0 := by rw [← g2, hz]
    have hnxt : vS r.s_ r.kab (nx + 2 + 12 * l2.length) 4 = nx' := dir_next (r := ⟨r.s_, r.kab, r.kaa, r.kae, r.kad + 1, r.kac, r.no_⟩) h1 hno hnx hs.2 (by show r.kaa.length + Y4 5 ≤ _; rw [hcap]; omega) hf hno'
    have h20' : D + 1 ≤ 20 := by
     refine Classical.byContradiction fun hh => ?_
     exact h4 (by show 20 < r.kad + 1; omega) hno'
    have := ih (D + 1) nx' r' q' (ls ++ [l2]) (by omega) h2 (by have : r'.kad = r.kad + 1 := k3; omega) (by simp; omega) h20' (by omega) (by omega) (by
     intro x hx
     rw [k5'] at hx
     rw [hsl]
     rcases List.mem_append.1 hx with hx | hx
     ·exact hok x hx
     ·exact k6 x hx) (by
     rw [k5', Jis, List.map_append, List.sum_append]
     simp only [List.map_cons, List.map_nil, List.sum_cons, List.sum_nil]
     omega) (by have : r'.kac = r.kac := k4; omega) hsame hno' P nx0 (by
     have e1 : r'.s_ = r.s_ := k1
     have e2 : r'.kab = r.kab := k2
     intro rest
     rw [e1, e2, List.append_assoc, hT, hT]
     show trF r.s_ r.kab 0 nx0 ls ++ (trD r.s_ r.kab 5 [(ls.length : Int)] nx l2 ++ trF r.s_ r.kab (ls.length + 1) (vS r.s_ r.kab (nx + 2 + 12 * l2.length) 4) rest) = trF r.s_ r.kab 0 nx0 ls ++ (trD r.s_ r.kab 5 [(ls.length : Int)] nx l2 ++ []) ++ _
     rw [List.append_nil, List.append_assoc, List.length_append, List.length_singleton, hnxt]) (by
     have e1 : r'.s_ = r.s_ := k1
     have e2 : r'.kab = r.kab := k2
     rw [e1, e2, hT, hplc, hP]
     show plF r.s_ r.kab (plF r.s_ r.kab P _) (trD r.s_ r.kab 5 [(ls.length : Int)] nx l2) = plF r.s_ r.kab P (trF r.s_ r.kab 0 nx0 ls ++ (trD r.s_ r.kab 5 [(ls.length : Int)] nx l2 ++ []))
     unfold plF
     rw [List.append_nil, List.foldl_append]) f ps e h
    rw [show r'.s_ = r.s_ from k1, show r'.kab = r.kab from k2] at this
    refine this.of_eq fun ρ κ => ?_
    refine Xu _ fun next => ?_
    show Y2 κ t next (nx : Int) q.s_ q.kab q.kam q.kaf q.kaa ls = _
    rw [step, if_neg (by simp [hz])]
   ·have hno' : r'.no_ ≠ 0 := by rw [← g2]; exact hz
    have hX : ∀ (ρ : Type) (κ : AllR → Option ρ), rdLoopQ ρ κ t (nx : Int) q ls = κ (⟨false, []⟩, e', q') := fun ρ κ => by
     refine Qr fun next => ?_
     show Y2 κ t next (nx : Int) q.s_ q.kab q.kam q.kaf q.kaa ls = _
     rw [step, if_pos hz]
    rw [Jh1 _ _ _ _ (.inr hno')] at h
    have hpa := h3.parts
    rw [hcap] at hpa
    have hpa' : r'.kaa.length ≤ r.kaa.length + 323216080401 := hpa
    unfold Zy at h
    rw [show Jdv r'.kaa Qf = some (r'.kaa.mergeSort (leC Qf)) from if_pos ⟨by omega, spans_ok⟩, Jb, cI, if_neg hno'] at h
    unfold Zd Ze at h
    rw [cI, if_neg hno', cI, if_pos hno'] at h
    cases h
    refine .inr ⟨hno', rfl, rfl, fun ρ κ o ho => ?_⟩
    show rdLoopQ ρ κ t (nx : Int) q ls = _
    rw [hX, g2]; exact ho q'
def Vt (s : List UInt8) : Bool := decide (((s.headD 0).toNat : Int) = 77)
theorem bigS_eq {s : List UInt8} (h : 0 < s.length) : Vt s = decide (((s[0]'h).toNat : Int) = 77) := by
 cases s with
 | nil => simp at h
 | cons x s => rfl
theorem all_sim (s : List UInt8) {fd : Nat} (hfd : fd ≤ 0) {f : Th} {ps : List Tc} {e : Int} (h : Jb5 s fd = some (f, ps, e)) (pl : List (List UInt8 × Td)) : Goes (fun ls => plF s (Vt s) [] (trF s (Vt s) 0 (vS s (Vt s) 4 4) ls)) (fun ρ κ => Z7 (Rq := ρ) ⟨s, false, [], [], pl⟩ κ) f ps e := by
 unfold Jb5 at h
 rw [cI] at h
 by_cases hl : (65000 : Int) < s.length
 ·rw [if_pos hl] at h
  cases h
  refine .inr ⟨by decide, rfl, rfl, fun ρ κ o ho => ?_⟩
  show Z7 _ κ = _
  unfold Z7
  rw [cI, if_pos hl]
  exact ho _
 rw [if_neg hl] at h
 have hbad : ∀ (ρ : Type) (κ : AllR → Option ρ), U7 s = some false → ∃ q, Z7 ⟨s, false, [], [], pl⟩ κ = κ (⟨false, []⟩, 8, q) := by
  intro ρ κ hb
  unfold U7 at hb
  unfold Z7
  dsimp only
  rw [cI] at hb
  rw [cI, if_neg hl, cI]
  by_cases h8 : (s.length : Int) < 8
  ·rw [if_pos h8]; exact ⟨_, rfl⟩
  ·rw [if_neg h8] at hb ⊢
   rw [Jb6 (by omega), Jb, cI] at hb ⊢
   split at hb
   ·cases hb
   ·rename_i h1
    rw [if_pos h1, Jb, cI]
    rw [Jb] at hb
    have h2 := of_decide_eq_false (Option.some.inj hb)
    rw [if_pos h2]
    exact ⟨_, rfl⟩
 have hgood : ∀ (ρ : Type) (κ : AllR → Option ρ), U7 s = some true → Z7 ⟨s, false, [], [], pl⟩ κ = Jag ⟨s, false, [], [], pl⟩ κ := by
  intro ρ κ hb
  unfold U7 at hb
  unfold Z7
  dsimp only
  rw [cI] at hb
  rw [cI, if_neg hl, cI]
  by_cases h8 : (s.length : Int) < 8
  ·rw [if_pos h8] at hb; cases hb
  ·rw [if_neg h8] at hb ⊢
   rw [Jb6 (by omega), Jb, cI] at hb ⊢
   split at hb
   ·rename_i h1
    rw [if_neg (fun h => h h1)]
   ·rename_i h1
    rw [if_pos h1, Jb, cI]
    rw [Jb] at hb
    have h2 := of_decide_eq_true (Option.some.inj hb)
    rw [if_neg (fun h => h h2)]
 obtain ⟨b, hb, hb8⟩ := Jh8 s
 rw [hb, Jb] at h
 cases b with
 | false =>
  rw [Bool.not_false, Qq] at h
  cases h
  refine .inr ⟨by decide, rfl, rfl, fun ρ κ o ho => ?_⟩
  obtain ⟨q, hq⟩ := hbad ρ κ hb
  show Z7 _ κ = _
  rw [hq]; exact ho q
 | true =>
  have h8 := hb8 rfl
  rw [Bool.not_true, Qa, show (0 : Int) = ((0 : Nat) : Int) from rfl, Jau (by omega), Jb, show (4 : Int) = ((4 : Nat) : Int) from rfl, Jc5 (a := 4) (k := 4) _ (by show 4 + 4 ≤ s.length; omega) (by omega) (by show s.length ≤ 65000; omega), Jb] at h
  have key := rd_sim ((s[0]'(by omega)).toNat : Int) 21 0 (Jao (decide (((s[0]'(by omega)).toNat : Int) = 77)) ((s.drop 4).take 4)) ⟨s, decide (((s[0]'(by omega)).toNat : Int) = 77), [], [], 0, fd, 0⟩ ⟨s, decide (((s[0]'(by omega)).toNat : Int) = 77), [], [hdP], []⟩ [] (by omega) (valB4 _ (by rw [List.length_take]; omega)) rfl rfl (by omega) ⟨h8, by show s.length ≤ 65000; omega⟩ (by simp) (by simp) (by simp [Jcx]) hfd ⟨rfl, rfl, rfl, rfl⟩ rfl [] (Jao (decide (((s[0]'(by omega)).toNat : Int) = 77)) ((s.drop 4).take 4)) (fun rest => rfl) rfl f ps e h
  rw [bigS_eq (by omega)]
  refine key.of_eq fun ρ κ => ?_
  rw [hgood ρ κ hb]
  unfold Jag
  dsimp only
  rw [show (0 : Int) = ((0 : Nat) : Int) from rfl, Jau (by omega), Jb, show (4 : Int) = ((4 : Nat) : Int) from rfl, Rat_eq (a := 4) (k := 4) _ (by show 4 + 4 ≤ s.length; omega) (by omega) (by show s.length ≤ 65000; omega), Jb]
  rfl
end Go.M

namespace Go.M
open Go.Md Go.Pl
def Ris (l : List Ta) : Prop := l.Pairwise fun x y => x.Tag < y.Tag
def okR : Nat → List Ta → Prop
 | 0, _ => False
 | d + 1, l => l.length ≤ 200 ∧ Ris l ∧ ∀ e ∈ l, okV e.Value ∧ (e.Value.kai = 13 → okR d e.Value.kag)
theorem listE_rise {f : Ta → Int} : ∀ {l : List Ta} {pr : Option Int}, Jhp f pr l = 0 → (∀ t, pr = some t → ∀ e ∈ l, t < e.Tag) ∧ Ris l := by
 intro l
 induction l with
 | nil => intro pr _; exact ⟨fun _ _ _ h => (by cases h), List.Pairwise.nil⟩
 | cons e l ih =>
  intro pr h
  unfold Jhp at h
  split at h
  ·omega
  split at h
  ·omega
  rename_i h1 h2
  split at h
  ·rename_i h3; exact absurd h h3
  obtain ⟨a1, a2⟩ := ih h
  have key : ∀ t, pr = some t → t < e.Tag := fun t ht => Classical.byContradiction fun hh => h2 ⟨t, ht, by omega⟩
  refine ⟨fun t ht x hx => ?_, List.pairwise_cons.2 ⟨fun x hx => a1 _ rfl x hx, a2⟩⟩
  rcases List.mem_cons.1 hx with h | h
  ·subst h; exact key t ht
  ·have := key t ht; have := a1 _ rfl x h; omega
theorem dE_okR : ∀ {d : Nat} {l : List Ta}, dE d l = 0 → okR d l := by
 intro d
 induction d with
 | zero => intro l h; unfold dE at h; omega
 | succ d ih =>
  intro l h
  have hok := dE_ok h
  unfold dE at h
  split at h
  ·omega
  refine ⟨hok.1, (listE_rise h).2, fun e he => ⟨(hok.2 e he).1, fun h13 => ?_⟩⟩
  have := Jgl h e he
  rw [if_neg (fun hh => hh h13)] at this
  split at this
  ·rename_i h1; exact absurd this h1
  ·exact ih this
theorem eqInts (a b : List Int) (h : a.length ≤ 2000000) : Ja1 a b = some (decide (a = b)) := by
 unfold Ja1
 rw [cI]
 by_cases hl : a.length = b.length
 ·rw [if_neg (by omega)]
  refine (up (F := fun next1 s => Vh a b next1 s) a.length (fun k => some (decide (a.drop k = b.drop k))) fun next k hk ih => ?_)
  show Vh a b next (k : Int) = _
  unfold Vh
  rw [cI]
  by_cases h : k < a.length
  ·rw [if_pos (by omega), Xa h, Jb, Xa (by omega), Jb, cI]
   have q : (a.drop k = b.drop k) = (a[k] = b[k]'(by omega) ∧ a.drop (k + 1) = b.drop (k + 1)) := by
    rw [List.drop_eq_getElem_cons h, List.drop_eq_getElem_cons (show k < b.length by omega), List.cons.injEq]
   simp only [q]
   by_cases he : a[k] = b[k]'(by omega)
   ·rw [if_neg (fun hh => hh he), Ju (by omega), Jb, ih h]; simp [he]
   ·rw [if_pos he]; simp [he]
  ·rw [if_neg (by omega), List.drop_eq_nil_of_le (by omega), List.drop_eq_nil_of_le (by omega)]; simp
 ·rw [if_pos (by omega), decide_eq_false (fun hh => hl (by rw [hh]))]
theorem Jjm {v : Te} (h : okV v) (h13 : v.kai ≠ 13) : v.kag = [] :=
 Classical.byContradiction fun hh => h.2 (.inr (.inr (.inr ⟨h13, hh⟩)))
theorem half {x : Int} (h : 0 ≤ x ∧ x ≤ 4611686018427387904) : gShr 64 (wU64 x) 1 = some (x / 2) ∧ Jap (x / 2) = x / 2 := by
 refine ⟨?_, wI64_in (by omega)⟩
 rw [wU64_in (by omega)]
 unfold gShr
 rw [if_pos (by omega)]
 rfl
theorem bin_loop {α ρ : Type} {F : (Int × Int → Option ρ) → Int × Int → Option ρ} (l : List α) (p : α → Bool) (mono : ∀ (i j : Nat) (hi : i < l.length) (hj : j < l.length), i < j → p l[j] = true → p l[i] = true) (J : Int → Option ρ)
  (more : ∀ (next : Int × Int → Option ρ) (i j : Nat) (h : (i + j) / 2 < l.length), i < j → j ≤ l.length → F next ((i : Int), (j : Int)) = if p l[(i + j) / 2] = true then next (((i + j) / 2 : Nat) + 1, (j : Int)) else next ((i : Int), (((i + j) / 2 : Nat) : Int)))
  (stop : ∀ next (i : Nat), i ≤ l.length → F next ((i : Int), (i : Int)) = J i) :
  ∃ k : Nat, k ≤ l.length ∧ (∀ (i : Nat) (h : i < l.length), i < k → p l[i] = true) ∧ (∀ (i : Nat) (h : i < l.length), k ≤ i → p l[i] = false) ∧ Vv F (0, (l.length : Int)) = J k := by
 have key : ∀ n i j, i ≤ j → j ≤ l.length → j - i < n → (∀ (q : Nat) (h : q < l.length), q < i → p l[q] = true) → (∀ (q : Nat) (h : q < l.length), j ≤ q → p l[q] = false) →
   ∃ k : Nat, k ≤ l.length ∧ (∀ (i : Nat) (h : i < l.length), i < k → p l[i] = true) ∧ (∀ (i : Nat) (h : i < l.length), k ≤ i → p l[i] = false) ∧ Vv F ((i : Int), (j : Int)) = J k := by
  intro n
  induction n with
  | zero => intro i j _ _ h; omega
  | succ n ih =>
   intro i j h1 h2 h3 h4 h5
   rcases Nat.lt_or_ge i j with h | h
   ·have hb : (i + j) / 2 < l.length := by omega
    by_cases hp : p l[(i + j) / 2] = true
    ·rw [Xu ((((i + j) / 2 + 1 : Nat) : Int), (j : Int)) fun next => by rw [more next i j hb h h2, if_pos hp]; rfl]
     refine ih _ _ (by omega) h2 (by omega) (fun q hq hq2 => ?_) h5
     rcases Nat.lt_or_ge q ((i + j) / 2) with h6 | h6
     ·exact mono q _ hq hb h6 hp
     ·have : q = (i + j) / 2 := by omega
      subst this; exact hp
    ·rw [Xu ((i : Int), (((i + j) / 2 : Nat) : Int)) fun next => by rw [more next i j hb h h2, if_neg hp]]
     refine ih _ _ (by omega) (by omega) (by omega) h4 fun q hq hq2 => ?_
     rcases Nat.lt_or_ge ((i + j) / 2) q with h6 | h6
     ·cases h7 : p l[q] with
      | false => rfl
      | true => exact absurd (mono _ q hb hq h6 h7) hp
     ·have : q = (i + j) / 2 := by omega
      subst this; simpa using hp
   ·have : i = j := by omega
    subst this
    exact ⟨i, h2, h4, h5, Qr fun next => stop next i h2⟩
 simpa using key (l.length + 1) 0 l.length (Nat.zero_le _) (Nat.le_refl _) (by omega) (fun q _ h => by omega) (fun q h h' => by omega)
def lk : List Ta → Int → Option Ta
 | [], _ => none
 | e :: l, t => if e.Tag = t then some e else lk l t
theorem lk_ne {e : Ta} {l : List Ta} {t : Int} (h : e.Tag < t) : lk (e :: l) t = lk l t := by rw [lk, if_neg (by omega)]
theorem lk_at {l : List Ta} (hr : Ris l) {k : Nat} (hk : k < l.length) : lk l l[k].Tag = some l[k] := by
 induction l generalizing k with
 | nil => cases hk
 | cons e l ih =>
  obtain ⟨h1, h2⟩ := List.pairwise_cons.1 hr
  cases k with
  | zero => rw [lk]; exact if_pos rfl
  | succ k =>
   have hk' : k < l.length := by simpa using hk
   rw [show (e :: l)[k + 1] = l[k] from rfl, lk_ne (h1 _ (List.getElem_mem hk'))]
   exact ih h2 hk'
theorem lk_no {l : List Ta} {t : Int} (h : ∀ x ∈ l, x.Tag ≠ t) : lk l t = none := by
 induction l with
 | nil => rfl
 | cons x l ih => rw [lk, if_neg (h x (.head _)), ih fun y hy => h y (.tail _ hy)]
theorem cmp_eq (x y : Int) : cmp_Compare_int x y = some (if x < y then -1 else if y < x then 1 else 0) := by
 unfold cmp_Compare_int Jam
 rw [Jb, Jb, decide_eq_false (fun h => h rfl), Qa, decide_eq_false (fun h => h rfl), Qa, cI, cI]
 split
 ·rfl
 ·split <;> rfl
theorem Jjg (e : Ta) (t : Int) : Jco e t = some (if e.Tag < t then -1 else if t < e.Tag then 1 else 0) := by
 unfold Jco; rw [cmp_eq, Jb]
theorem find_eq (l : List Ta) (t : Int) (hr : Ris l) (hl : l.length ≤ 200) :
  (Jb2 l t = some (Jb2 l t |>.getD (0, false)) ∧ lk l t = none ∧ (Jb2 l t |>.getD (0, false)).2 = false) ∨ ∃ k, ∃ hk : k < l.length, Jb2 l t = some ((k : Int), true) ∧ lk l t = some l[k] ∧ l[k].Tag = t := by
 have hp := List.pairwise_iff_getElem.1 hr
 obtain ⟨k, h1, h2, h3, h4⟩ := bin_loop (F := fun next2 s => Qz l t Jco next2 s.1 s.2) l (fun x => decide (x.Tag < t)) (fun i j hi hj hij h => by have := hp i j hi hj hij; simp at h ⊢; omega) (Xe l t Jco)
  (fun next i j h hij hj => by
   obtain ⟨f1, f2⟩ := half (x := (i : Int) + j) (by omega)
   rw [show ((i : Int) + j) / 2 = (((i + j) / 2 : Nat) : Int) by omega] at f1 f2
   simp only [Qz]
   rw [cI, if_pos (by omega), Ju (by omega), Jb, f1, Jb, f2, Xa h, Jb, Jjg, Jb, cI]
   by_cases hlt : l[(i + j) / 2].Tag < t
   ·rw [if_pos hlt, if_pos (by omega), Ju (by omega), Jb, if_pos (by simpa using hlt)]
   ·rw [if_neg hlt, if_neg (by split <;> omega), if_neg (by simpa using hlt)])
  (fun next i hi => by
   simp only [Qz]
   rw [cI, if_neg (by omega)])
 have hfix : Jb2 l t = Js (Xe l t Jco k) fun t8 => some (t8.1, t8.2) := by
  unfold Jb2 Yc
  rw [h4]
 unfold Xe at hfix
 have out : ∀ j (hj : j < l.length), l[j].Tag = t → k < l.length ∧ j = k := fun j hj e => by
  rcases Nat.lt_or_ge j k with h | h
  ·have := h2 j hj h; simp at this; omega
  ·rcases Nat.lt_or_ge k j with h' | h'
   ·have g3 := h3 k (by omega) (Nat.le_refl _); simp at g3
    have := hp k j (by omega) hj h'; omega
   ·exact ⟨by omega, by omega⟩
 rw [cI] at hfix
 rcases Nat.lt_or_ge k l.length with hk | hk
 ·rw [if_pos (by omega), Xa hk, Jb, Jjg, Jb, Jb] at hfix
  by_cases he : l[k].Tag = t
  ·refine .inr ⟨k, hk, ?_, by rw [← he]; exact lk_at hr hk, he⟩
   rw [hfix, if_neg (by omega), if_neg (by omega)]; rfl
  ·refine .inl ⟨by rw [hfix]; rfl, lk_no fun x hx e => ?_, ?_⟩
   ·obtain ⟨j, hj, rfl⟩ := List.getElem_of_mem hx
    obtain ⟨_, rfl⟩ := out j hj e
    exact he e
   ·rw [hfix]
    show decide _ = false
    refine decide_eq_false ?_
    split
    ·omega
    ·rw [if_pos (by omega)]; omega
 ·rw [if_neg (by omega), Jb] at hfix
  refine .inl ⟨by rw [hfix]; rfl, lk_no fun x hx e => ?_, by rw [hfix]; rfl⟩
  obtain ⟨j, hj, rfl⟩ := List.getElem_of_mem hx
  have := out j hj e
  omega
noncomputable def valE (v : Te) : Int := if v.kai ≠ 13 then Jen v else if Wd v ≠ 0 then Wd v else dE 5 v.kag
theorem Jjx {v : Te} (hb : vB v) (hz : szD 5 v.kag ≤ 2000000) : Jb3 v = some (valE v) := by
 unfold Jb3 valE
 rw [cI]
 by_cases h : v.kai = 13
 ·rw [if_neg (fun hh => hh h), if_neg (fun hh => hh h), Jdj, Jb, cI]
  split
  ·rfl
  ·rw [Jic 5 _ 1 (by omega) (by omega) hz, Jb]
 ·rw [if_pos h, if_pos h, Jgf hb, Jb]
theorem faultq_plain {v : Te} (h13 : v.kai ≠ 13) : Wg v = U6 v := by
 have e5 : Wp v = W7 v := by
  unfold Wp W7
  rw [cI, cI, if_neg h13, if_neg h13]
 have e4 : Wo v = V6 v := by unfold Wo V6; rw [e5]
 have e6 : Vr v = Yl v := by funext n x; unfold Vr Yl; rw [e4]
 have e3 : Un v = V4 v := by unfold Un V4; rw [e6]
 have e7 : Vp v = Yk v := by funext t n x; unfold Vp Yk; rw [e3]
 have e2 : Yo v = X7 v := by unfold Yo X7; rw [e7]
 have e10 : Zg v = Vq v := by funext b; unfold Zg Vq; rw [e2]
 have e9 : Zu v = V9 v := by funext b; unfold Zu V9; rw [e2, e10]
 have e8 : Zx v = V7 v := by funext b c; unfold Zx V7; rw [e2, e9]
 have e1 : Xy v = X9 v := by funext b c; unfold Xy X9; rw [e8]
 unfold Wg U6
 rw [e1]
theorem faultq13 {v : Te} (h : v.kai = 13) (hz : szD 5 v.kag ≤ 2000000) : Wg v = some (if Wd v ≠ 0 then Wd v else dE 5 v.kag) := by
 have hj : v.kaj = [] → v.kak = [] → v.kah = [] → Yo v = some (dE 5 v.kag) := fun h1 h2 h3 => by
  have e4 : Wo v = some (dE 5 v.kag) := by
   unfold Wo Wp
   rw [cI, if_neg (by omega), cI, if_pos h, Jif 5 _ 1 (by omega) (by omega) hz, Jb]
  unfold Yo
  rw [limits_eq, Jb]
  refine Qr fun next => ?_
  show Vp v _ next 0 = _
  unfold Vp
  rw [cI, h2, if_neg (by simp)]
  unfold Un
  refine Qr fun next => ?_
  show Vr v next 0 = _
  unfold Vr
  rw [cI, h3, if_neg (by simp), e4]
 have e : Wg v = Xy v false false := by
  unfold Wg
  rw [h]; rfl
 rw [e]
 unfold Xy
 rw [Jee, Jb, if_pos h, cI, if_neg (by omega), fields13 h, cI]
 have e10 : v.kaj = [] → v.kak = [] → v.kah = [] → Zg v false = some (dE 5 v.kag) := fun h1 h2 h3 => by
  unfold Zg
  have hn : ¬ v.kai ≠ 13 := fun hh => hh h
  rw [Qa, cI, cI, hj h1 h2 h3, if_neg hn]
  split <;> rfl
 by_cases h1 : v.kaj = []
 ·rw [if_neg (fun hh => hh h1)]
  unfold Zx
  rw [Qa, cI]
  by_cases h2 : v.kak = []
  ·rw [if_neg (fun hh => (Jav _).1 hh h2)]
   unfold Zu
   rw [Qa, cI]
   by_cases h3 : v.kah = []
   ·rw [if_neg (fun hh => (Jav _).1 hh h3), e10 h1 h2 h3]
    simp [h1, h2, h3]
   ·rw [if_pos ((Jav _).2 h3), decide_eq_true (show v.kai ≠ 5 by omega)]
    unfold Zg
    rw [Qq, Qq]
    simp [h3]
  ·rw [if_pos ((Jav _).2 h2)]
   show Zu v true = _
   unfold Zu
   rw [Qq, Qq]
   simp [h2]
 ·rw [if_pos h1]
  show Zx v false true = _
  unfold Zx
  rw [Qq, Qq]
  simp [h1]
theorem Jjc {v : Te} (hb : vB v) (hz : szD 5 v.kag ≤ 2000000) : Wg v = some (valE v) := by
 unfold valE
 by_cases h : v.kai = 13
 ·rw [if_neg (fun hh => hh h), faultq13 h hz]
 ·rw [if_pos h, faultq_plain h, Jf9 hb h]
theorem plain_fields {v : Te} (h : Jen v = 0) : Wd v = 0 := by
 unfold Jen at h
 split at h
 ·exact h
 ·rename_i h1; simpa using h1
theorem val_ok {v : Te} (h : valE v = 0) : okV v ∧ (v.kai = 13 → okR 5 v.kag) := by
 unfold valE at h
 split at h
 ·rename_i h1; exact ⟨Jfo (plain_fields h), fun hh => absurd hh h1⟩
 ·split at h
  ·rename_i h1; exact absurd h h1
  ·rename_i h1; exact ⟨Jfo (by simpa using h1), fun _ => dE_okR h⟩
theorem fits_nil (d : Nat) : fits (d + 1) [] := ⟨Nat.zero_le _, fun x hx => by cases hx⟩
theorem fits_okR : ∀ (d : Nat) (l : List Ta), okR d l → szD d l ≤ 2000000 → fits (d + 1) l := by
 intro d
 induction d with
 | zero => intro l h _; exact absurd h id
 | succ d ih =>
  intro l ⟨h1, h2, h3⟩ hz
  refine ⟨by omega, fun x hx => ?_⟩
  have hm := Jha (d := d) hx
  unfold szE at hm
  refine ⟨by omega, by omega, ?_⟩
  by_cases hk : x.Value.kai = 13
  ·exact ih _ ((h3 x hx).2 hk) (by omega)
  ·rw [Jjm (h3 x hx).1 hk]; exact fits_nil d
theorem fits_mono : ∀ (d : Nat) (l : List Ta), fits d l → fits (d + 1) l := by
 intro d
 induction d with
 | zero => intro l h; exact absurd h id
 | succ d ih => intro l ⟨h1, h2⟩; exact ⟨h1, fun x hx => ⟨(h2 x hx).1, (h2 x hx).2.1, ih _ (h2 x hx).2.2⟩⟩
theorem fits_le {d k : Nat} (h : d ≤ k) {l : List Ta} (hf : fits d l) : fits k l := by
 induction k with
 | zero => rw [show d = 0 by omega] at hf; exact hf
 | succ k ih =>
  rcases Nat.lt_or_ge k d with hh | hh
  ·rw [show d = k + 1 by omega] at hf; exact hf
  ·exact fits_mono _ _ (ih hh)
theorem fits8 {d : Nat} {l : List Ta} (h : okR d l) (hz : szD d l ≤ 2000000) (hd : d ≤ 5) : fits 8 l := fits_le (by omega) (fits_okR d l h hz)
theorem fitV8 {v : Te} {d : Nat} (hd : d ≤ 5) (h : okV v) (h13 : v.kai = 13 → okR d v.kag) (h1 : v.kak.length ≤ 2000000) (h2 : v.kah.length ≤ 2000000) (hz : szD d v.kag ≤ 2000000) : fitV 8 v := by
 refine ⟨h1, h2, ?_⟩
 by_cases hk : v.kai = 13
 ·exact fits8 (h13 hk) hz hd
 ·rw [Jjm h hk]; exact fits_nil 7
theorem place1_eq : Jdp = Jco := by
 funext e t
 rw [Jjg]
 unfold Jdp
 rw [cI, cI]; (repeat' split) <;> rfl
theorem place_eq (l : List Ta) (t : Int) : Jd3 l t = Jb2 l t := by unfold Jd3 Jb2; rw [place1_eq]
theorem gAt_mid {α : Type} (pre : List α) (u : α) (rest : List α) : Zb (pre ++ u :: rest) (pre.length : Int) = some u := by
 rw [Xa (by simp)]; simp
def valueC (v : Te) : Prop := v.kaj.length + v.kak.length + v.kah.length ≤ 1048576 ∧ szD 5 v.kag ≤ 1048576
theorem valueC_of {v : Te} (h1 : v.kaj.length + v.kak.length + v.kah.length ≤ 1048576) (h2 : szD 5 v.kag ≤ 1048576) : valueC v := ⟨h1, h2⟩
end Go.M

namespace Go.M
open Go.Md Go.Pl
theorem decD_step (u : Nat) : decD u = if u < 10 then [UInt8.ofNat (48 + u)] else decD (u / 10) ++ [UInt8.ofNat (48 + u % 10)] := by rw [decD]
def valD (l : List UInt8) : Nat := l.foldl (fun v c => v * 10 + (c.toNat - 48)) 0
theorem Jiq {u : Nat} (h : u < 10) : (UInt8.ofNat (48 + u)).toNat = 48 + u := by rw [UInt8.toNat_ofNat']; omega
theorem Jd8 (u : Nat) : (∀ c ∈ decD u, 48 ≤ c.toNat ∧ c.toNat ≤ 57) ∧ valD (decD u) = u ∧ decD u ≠ [] := by
 induction u using Nat.strongRecOn with
 | ind u ih =>
  rw [decD_step]
  by_cases h : u < 10
  ·rw [if_pos h]
   refine ⟨fun c hc => ?_, ?_, by simp⟩
   ·rw [List.mem_singleton.1 hc, Jiq h]; omega
   ·show 0 * 10 + ((UInt8.ofNat (48 + u)).toNat - 48) = u
    rw [Jiq h]; omega
  ·rw [if_neg h]
   obtain ⟨h1, h2, _⟩ := ih (u / 10) (by omega)
   refine ⟨fun c hc => ?_, ?_, by simp⟩
   ·rcases List.mem_append.1 hc with hc | hc
    ·exact h1 c hc
    ·rw [List.mem_singleton.1 hc, Jiq (by omega)]; omega
   ·unfold valD at h2 ⊢
    rw [List.foldl_append, h2]
    show u / 10 * 10 + ((UInt8.ofNat (48 + u % 10)).toNat - 48) = u
    rw [Jiq (by omega)]; omega
theorem decD_inj {a b : Nat} (h : decD a = decD b) : a = b := by rw [← (Jd8 a).2.1, ← (Jd8 b).2.1, h]
theorem Jin (n : Int) : (32 : UInt8) ∉ itoaL n ∧ itoaL n ≠ [] := by
 unfold itoaL
 split
 ·refine ⟨fun h => ?_, by simp⟩
  rcases List.mem_cons.1 h with h | h
  ·exact absurd h (by decide)
  ·exact absurd ((Jd8 _).1 _ h).1 (by decide)
 ·exact ⟨fun h => absurd ((Jd8 _).1 _ h).1 (by decide), (Jd8 _).2.2⟩
theorem itoa_inj {a b : Int} (h : itoaL a = itoaL b) : a = b := by
 have key : ∀ x y : Nat, 45 :: decD x = decD y → False := fun x y e => by
  have := ((Jd8 y).1 45 (by rw [← e]; simp)).1
  exact absurd this (by decide)
 unfold itoaL at h
 split at h <;> split at h
 ·have := decD_inj (List.cons.inj h).2; omega
 ·exact (key _ _ h).elim
 ·exact (key _ _ h.symm).elim
 ·have := decD_inj h; omega
def keyT (ts : List Int) : List UInt8 := ts.flatMap fun t => 32 :: itoaL t
theorem Jfu (t : Int) (ts : List Int) : keyS (t :: ts) = itoaL t ++ keyT ts := by
 have : ∀ (ts : List Int) (a : List UInt8), ts.foldl (fun k t => k ++ [32] ++ itoaL t) a = a ++ keyT ts := by
  intro ts
  induction ts with
  | nil => intro a; simp [keyT]
  | cons u ts ih => intro a; rw [List.foldl_cons, ih]; simp [keyT]
 exact this ts _
theorem split32 : ∀ {a b x y : List UInt8}, a ++ x = b ++ y → (32 : UInt8) ∉ a → (32 : UInt8) ∉ b → (x = [] ∨ x.head? = some 32) → (y = [] ∨ y.head? = some 32) → a = b ∧ x = y
 | [], [], x, y, h, _, _, _, _ => ⟨rfl, h⟩
 | [], c :: b, x, y, h, _, hb, hx, _ => by
  have h : x = c :: (b ++ y) := h
  subst h
  rcases hx with hx | hx
  ·cases hx
  ·have : c = 32 := Option.some.inj hx
   subst this; simp at hb
 | c :: a, [], x, y, h, ha, _, _, hy => by
  have h : y = c :: (a ++ x) := h.symm
  subst h
  rcases hy with hy | hy
  ·cases hy
  ·have : c = 32 := Option.some.inj hy
   subst this; simp at ha
 | c :: a, d :: b, x, y, h, ha, hb, hx, hy => by
  have h : c :: (a ++ x) = d :: (b ++ y) := h
  obtain ⟨h1, h2⟩ := List.cons.inj h
  obtain ⟨h3, h4⟩ := split32 h2 (fun m => ha (.tail _ m)) (fun m => hb (.tail _ m)) hx hy
  exact ⟨by rw [h1, h3], h4⟩
theorem Jfq (ts : List Int) : keyT ts = [] ∨ (keyT ts).head? = some 32 := by
 cases ts with
 | nil => exact .inl rfl
 | cons t ts => exact .inr rfl
theorem keyT_inj : ∀ {p q : List Int}, keyT p = keyT q → p = q
 | [], [], _ => rfl
 | [], t :: q, h => by cases h
 | t :: p, [], h => by cases h
 | t :: p, u :: q, h => by
  have h : 32 :: (itoaL t ++ keyT p) = 32 :: (itoaL u ++ keyT q) := h
  obtain ⟨h1, h2⟩ := split32 (List.cons.inj h).2 (Jin t).1 (Jin u).1 (Jfq p) (Jfq q)
  rw [itoa_inj h1, keyT_inj h2]
theorem keyS_inj {p q : List Int} (hp : p ≠ []) (hq : q ≠ []) (h : keyS p = keyS q) : p = q := by
 cases p with
 | nil => exact absurd rfl hp
 | cons t p =>
  cases q with
  | nil => exact absurd rfl hq
  | cons u q =>
   rw [Jfu, Jfu] at h
   obtain ⟨h1, h2⟩ := split32 h (Jin t).1 (Jin u).1 (Jfq p) (Jfq q)
   rw [itoa_inj h1, keyT_inj h2]
theorem inter_cons (sep x : List UInt8) : ∀ xs : List (List UInt8), sep.intercalate (x :: xs) = x ++ xs.flatMap fun y => sep ++ y := by
 intro xs
 induction xs generalizing x with
 | nil => simp [List.intercalate]
 | cons y xs ih =>
  have := ih y
  unfold List.intercalate at this ⊢
  rw [List.intersperse_cons_cons, List.flatten_cons, List.flatten_cons, this]
  simp
theorem key_inter (p : List Int) : [(32 : UInt8)].intercalate (p.map itoaL) = keyS p := by
 cases p with
 | nil => rfl
 | cons t ts =>
  rw [List.map_cons, inter_cons, Jfu, List.flatMap_map]
  rfl
theorem key_eq {p : List Int} (h : ∀ t ∈ p, 0 ≤ t ∧ t ≤ 99999) (hl : p.length ≤ 100) : Q3 p = some (keyS p) := by
 unfold Q3
 have hall : ∀ q : List Int, (∀ t ∈ q, 0 ≤ t ∧ t ≤ 99999) → (keyS q).length ≤ 6 * q.length := by
  intro q hq
  cases q with
  | nil => exact Nat.zero_le _
  | cons t ts =>
   rw [Jfu, List.length_append]
   have h1 := (Jdm (hq t (by simp))).2
   have : ∀ ts : List Int, (∀ t ∈ ts, 0 ≤ t ∧ t ≤ 99999) → (keyT ts).length ≤ 6 * ts.length := by
    intro ts
    induction ts with
    | nil => intro _; exact Nat.zero_le _
    | cons u ts ih =>
     intro hu
     have h1 := (Jdm (hu u (by simp))).2
     have h2 := ih fun t ht => hu t (by simp [ht])
     show (32 :: itoaL u ++ keyT ts).length ≤ _
     rw [List.length_append, List.length_cons, List.length_cons]; omega
   have h2 := this ts fun t ht => hq t (by simp [ht])
   rw [List.length_cons]; omega
 refine (Je5 (F := fun next2 s => Jcp p next2 s.1 s.2) p (fun l t => l ++ [itoaL t]) Jg0 (fun k l => l.length = k) (fun next k l hk hI => ?_) (fun next l hI => ?_) [] rfl).trans ?_
 ·refine ⟨?_, by rw [List.length_append, hI]; rfl⟩
  show Jcp p next (k : Int) l = _
  unfold Jcp
  rw [cI, if_pos (by omega), Xa hk, Jb, (Jdm (h _ (List.getElem_mem hk))).1, Jb, Yw (by simp; omega), Jb, Ju (by omega), Jb]
 ·show Jcp p next (p.length : Int) l = _
  unfold Jcp
  rw [cI, if_neg (by omega)]
 ·have e : p.foldl (fun l t => l ++ [itoaL t]) [] = p.map itoaL := by
   have : ∀ (q : List Int) (l : List (List UInt8)), q.foldl (fun l t => l ++ [itoaL t]) l = l ++ q.map itoaL := by
    intro q
    induction q with
    | nil => intro l; simp
    | cons t q ih => intro l; rw [List.foldl_cons, ih]; simp
   exact (this p []).trans (List.nil_append _)
  rw [e]
  unfold Jg0 gJoin
  have := hall p h
  rw [key_inter, if_pos (by rw [List.length_map]; omega), Jb]
theorem Jfn {k k' : List UInt8} (h : k' ≠ k) (v : Td) : ∀ P : List (List UInt8 × Td), (P.map fun p => if p.1 = k' then (k', v) else p).find? (fun p => decide (p.1 = k)) = P.find? fun p => decide (p.1 = k)
 | [] => rfl
 | p :: P => by
  rw [List.map_cons, List.find?_cons, List.find?_cons, Jfn h v P]
  by_cases hp : p.1 = k'
  ·rw [if_pos hp]
   simp only [decide_eq_false h, decide_eq_false (show ¬ p.1 = k by rw [hp]; exact h)]
  ·rw [if_neg hp]
theorem mGet_ne {P : List (List UInt8 × Td)} {k k' : List UInt8} (h : k' ≠ k) (v : Td) : Q2 (Yp P k' v) k = Q2 P k := by
 unfold Q2 Yp
 split
 ·rw [Jfn h]
 ·rw [List.find?_append]
  simp [h]
theorem find_hit (k : List UInt8) (v : Td) : ∀ P : List (List UInt8 × Td), P.any (fun p => decide (p.1 = k)) = true → (P.map fun p => if p.1 = k then (k, v) else p).find? (fun p => decide (p.1 = k)) = some (k, v)
 | [], h => by cases h
 | p :: P, h => by
  rw [List.map_cons, List.find?_cons]
  by_cases hp : p.1 = k
  ·rw [if_pos hp]; simp
  ·rw [if_neg hp]
   simp only [decide_eq_false hp]
   refine find_hit k v P ?_
   rw [List.any_cons, decide_eq_false hp] at h
   exact h
theorem mGet_eq (P : List (List UInt8 × Td)) (k : List UInt8) (v : Td) : Q2 (Yp P k v) k = some v := by
 unfold Q2 Yp
 split
 ·rename_i h
  rw [find_hit k v P h]; rfl
 ·rename_i h
  have hn : P.find? (fun p => decide (p.1 = k)) = none := by
   rw [List.find?_eq_none]
   intro x hx hd
   exact h (by unfold mHas; exact List.any_eq_true.2 ⟨x, hx, hd⟩)
  rw [List.find?_append, hn]; simp
def Jas : List Ta → List Int → Option Ta
 | _, [] => none
 | l, [t] => lk l t
 | l, t :: u :: ts => match lk l t with
  | some e => if e.Value.kai = 13 then Jas e.Value.kag (u :: ts) else none
  | none => none
theorem gotD_ne {e : Ta} {l : List Ta} {t : Int} (ts : List Int) (h : e.Tag < t) : Jas (e :: l) (t :: ts) = Jas l (t :: ts) := by
 cases ts with
 | nil => exact lk_ne h
 | cons u ts => simp only [Jas, lk_ne h]
theorem gotD_at {e : Ta} {l : List Ta} {u : Int} {ts : List Int} (h : e.Value.kai = 13) : Jas (e :: l) (e.Tag :: u :: ts) = Jas e.Value.kag (u :: ts) := by
 simp only [Jas, lk, if_pos, h]
theorem lk_mem {l : List Ta} {t : Int} {e : Ta} (h : lk l t = some e) : e ∈ l ∧ e.Tag = t := by
 induction l with
 | nil => cases h
 | cons x l ih =>
  rw [lk] at h
  split at h
  ·rename_i ht; cases h; exact ⟨.head _, ht⟩
  ·obtain ⟨h1, h2⟩ := ih h; exact ⟨.tail _ h1, h2⟩
theorem gotD_mem {l : List Ta} {t : Int} {ts : List Int} {e : Ta} (h : Jas l (t :: ts) = some e) : ∃ x ∈ l, x.Tag = t := by
 cases ts with
 | nil => have := lk_mem (l := l) (t := t) h; exact ⟨e, this⟩
 | cons u ts =>
  simp only [Jas] at h
  cases hl : lk l t with
  | none => rw [hl] at h; cases h
  | some x => exact ⟨x, lk_mem hl⟩
variable (s : List UInt8) (big : Bool)
def TrOk (G : List Int → Nat → List Ta → List Trc) (P : List Ta → Prop) : Prop :=
 ∀ path pl l, P l → (∀ x ∈ G path pl l, ∃ rest, rest ≠ [] ∧ x.1 = path ++ rest ∧ Jas l rest = some x.2.2) ∧ ∀ rest e, Jas l rest = some e → ∃ a, (path ++ rest, a, e) ∈ G path pl l
theorem trL_ok {G : List Int → Nat → List Ta → List Trc} {P : List Ta → Prop} (H : TrOk G P) (path : List Int) (pl : Nat) : ∀ (l : List Ta) (i : Nat), Ris l → (∀ e ∈ l, e.Value.kai = 13 → P e.Value.kag) →
  (∀ x ∈ trL G s big path pl i l, ∃ rest, rest ≠ [] ∧ x.1 = path ++ rest ∧ Jas l rest = some x.2.2) ∧ ∀ rest e, Jas l rest = some e → ∃ a, (path ++ rest, a, e) ∈ trL G s big path pl i l := by
 intro l
 induction l with
 | nil =>
  intro i _ _
  refine ⟨fun x hx => by simp [trL] at hx, fun rest e h => ?_⟩
  cases rest with
  | nil => cases h
  | cons t ts => obtain ⟨x, hx, _⟩ := gotD_mem h; cases hx
 | cons e l ih =>
  intro i hr hP
  obtain ⟨hr1, hr2⟩ := List.pairwise_cons.1 hr
  obtain ⟨i1, i2⟩ := ih (i + 1) hr2 fun x hx => hP x (.tail _ hx)
  have hsub : e.Value.kai = 13 → _ := fun h13 => H (path ++ [e.Tag]) (vS s big (pl + 2 + 12 * i + 8) 4) e.Value.kag (hP e (.head _) h13)
  rw [trL]
  constructor
  ·intro x hx
   rcases List.mem_append.1 hx with hx | hx
   ·rcases List.mem_cons.1 hx with hx | hx
    ·subst hx
     exact ⟨[e.Tag], by simp, rfl, by show lk (e :: l) e.Tag = _; rw [lk, if_pos rfl]⟩
    ·split at hx
     ·rename_i h13
      obtain ⟨rest, h1, h2, h3⟩ := (hsub h13).1 x hx
      refine ⟨e.Tag :: rest, by simp, by rw [h2]; simp, ?_⟩
      cases rest with
      | nil => exact absurd rfl h1
      | cons u ts => rw [gotD_at h13]; exact h3
     ·simp at hx
   ·obtain ⟨rest, h1, h2, h3⟩ := i1 x hx
    refine ⟨rest, h1, h2, ?_⟩
    cases rest with
    | nil => exact absurd rfl h1
    | cons t ts =>
     obtain ⟨y, hy, hyt⟩ := gotD_mem h3
     rw [gotD_ne ts (by have := hr1 y hy; omega)]; exact h3
  ·intro rest x h
   cases rest with
   | nil => cases h
   | cons t ts =>
    by_cases ht : e.Tag = t
    ·subst ht
     cases ts with
     | nil =>
      have h : lk (e :: l) e.Tag = some x := h
      rw [lk, if_pos rfl] at h
      cases h
      exact ⟨_, List.mem_append_left _ (.head _)⟩
     | cons u ts =>
      by_cases h13 : e.Value.kai = 13
      ·rw [gotD_at h13] at h
       obtain ⟨a, ha⟩ := (hsub h13).2 _ _ h
       refine ⟨a, List.mem_append_left _ (.tail _ ?_)⟩
       rw [if_pos h13]
       rw [List.append_assoc] at ha; exact ha
      ·simp only [Jas, lk, if_pos, if_neg h13] at h
       cases h
    ·have hne : Jas (e :: l) (t :: ts) = Jas l (t :: ts) := by
      cases ts with
      | nil => show lk (e :: l) t = lk l t; rw [lk, if_neg ht]
      | cons u ts => simp only [Jas, lk, if_neg ht]
     rw [hne] at h
     obtain ⟨a, ha⟩ := i2 _ _ h
     exact ⟨a, List.mem_append_right _ ha⟩
theorem trD_ok : ∀ d, TrOk (trD s big d) (okR d) := by
 intro d
 induction d with
 | zero => intro path pl l h; exact absurd h id
 | succ d ih =>
  intro path pl l h
  obtain ⟨_, h2, h3⟩ := h
  exact trL_ok s big ih path pl l 0 h2 fun e he => (h3 e he).2
def gotF (ls : List (List Ta)) : List Int → Option Ta
 | [] => none
 | i :: ts => if 0 ≤ i then (match ls[i.toNat]? with | some l => Jas l ts | none => none) else none
theorem trF_ok : ∀ (ls : List (List Ta)) (i nx : Nat), (∀ l ∈ ls, okR 5 l) →
  (∀ x ∈ trF s big i nx ls, ∃ k rest, ∃ hk : k < ls.length, rest ≠ [] ∧ x.1 = ((i + k : Nat) : Int) :: rest ∧ Jas ls[k] rest = some x.2.2) ∧ ∀ k rest e, ∀ hk : k < ls.length, Jas ls[k] rest = some e → ∃ a, (((i + k : Nat) : Int) :: rest, a, e) ∈ trF s big i nx ls := by
 intro ls
 induction ls with
 | nil => intro i nx _; exact ⟨fun x hx => by simp [trF] at hx, fun k rest e hk => by cases hk⟩
 | cons l ls ih =>
  intro i nx h
  obtain ⟨h1, h2⟩ := trD_ok s big 5 [(i : Int)] nx l (h l (.head _))
  obtain ⟨i1, i2⟩ := ih (i + 1) (vS s big (nx + 2 + 12 * l.length) 4) fun x hx => h x (.tail _ hx)
  rw [trF]
  constructor
  ·intro x hx
   rcases List.mem_append.1 hx with hx | hx
   ·obtain ⟨rest, a1, a2, a3⟩ := h1 x hx
    exact ⟨0, rest, by simp, a1, a2, a3⟩
   ·obtain ⟨k, rest, hk, a1, a2, a3⟩ := i1 x hx
    exact ⟨k + 1, rest, by simp; omega, a1, by rw [a2]; congr 2; omega, a3⟩
  ·intro k rest e hk hg
   cases k with
   | zero =>
    obtain ⟨a, ha⟩ := h2 rest e hg
    exact ⟨a, List.mem_append_left _ ha⟩
   | succ k =>
    obtain ⟨a, ha⟩ := i2 k rest e (by simpa using hk) hg
    refine ⟨a, List.mem_append_right _ ?_⟩
    rw [show i + (k + 1) = i + 1 + k by omega]; exact ha
theorem trF_mem {ls : List (List Ta)} (h : ∀ l ∈ ls, okR 5 l) (nx : Nat) {path : List Int} {a : Nat} {e : Ta} (hx : (path, a, e) ∈ trF s big 0 nx ls) : gotF ls path = some e := by
 obtain ⟨k, rest, hk, h1, h2, h3⟩ := (trF_ok s big ls 0 nx h).1 _ hx
 have h2 : path = ((0 + k : Nat) : Int) :: rest := h2
 rw [h2, gotF, if_pos (by omega), show ((0 + k : Nat) : Int).toNat = k by omega, List.getElem?_eq_getElem hk]
 exact h3
theorem gotF_mem {ls : List (List Ta)} (h : ∀ l ∈ ls, okR 5 l) (nx : Nat) {path : List Int} {e : Ta} (hg : gotF ls path = some e) : ∃ a, (path, a, e) ∈ trF s big 0 nx ls := by
 cases path with
 | nil => cases hg
 | cons i ts =>
  rw [gotF] at hg
  split at hg
  ·rename_i hi
   split at hg
   ·rename_i l hl
    obtain ⟨hk, rfl⟩ := List.getElem?_eq_some_iff.1 hl
    obtain ⟨a, ha⟩ := (trF_ok s big ls 0 nx h).2 i.toNat ts e hk hg
    refine ⟨a, ?_⟩
    rw [show ((0 + i.toNat : Nat) : Int) = i by omega] at ha; exact ha
   ·cases hg
  ·cases hg
def Jb8 (q0 : List Int) (at_ : Int) (x : Trc) : Int := open Classical in if x.1 = q0 then (x.2.1 : Int) else at_
theorem both_at (q0 : List Int) (hq : q0 ≠ []) : ∀ (tr : List Trc) (at_ : Int) (P : List (List UInt8 × Td)), (∀ x ∈ tr, x.1 ≠ []) →
  (tr.foldl (Jb8 q0) at_ = at_ ∧ (∀ x ∈ tr, x.1 ≠ q0)) ∨ ∃ x ∈ tr, x.1 = q0 ∧ tr.foldl (Jb8 q0) at_ = (x.2.1 : Int) ∧ Q2 (plF s big P tr) (keyS q0) = some (plE s big x.2.1) := by
 intro tr
 induction tr with
 | nil => intro at_ P _; exact .inl ⟨rfl, fun x hx => by cases hx⟩
 | cons y tr ih =>
  intro at_ P hne
  have hpl : plF s big P (y :: tr) = plF s big (plS s big P y) tr := rfl
  rw [List.foldl_cons, hpl]
  rcases ih (Jb8 q0 at_ y) (plS s big P y) (fun x hx => hne x (.tail _ hx)) with ⟨h1, h2⟩ | ⟨x, hx, h1, h2, h3⟩
  ·by_cases hy : y.1 = q0
   ·right
    have keep : ∀ (tr : List Trc) (P : List (List UInt8 × Td)), (∀ x ∈ tr, x.1 ≠ [] ∧ x.1 ≠ q0) → Q2 (plF s big P tr) (keyS q0) = Q2 P (keyS q0) := by
     intro tr
     induction tr with
     | nil => intro P _; rfl
     | cons z tr ihz =>
      intro P hz
      show Q2 (plF s big (plS s big P z) tr) _ = _
      rw [ihz _ fun x hx => hz x (.tail _ hx)]
      obtain ⟨z1, z2⟩ := hz z (.head _)
      exact mGet_ne (fun hh => z2 (keyS_inj z1 hq hh)) _
    refine ⟨y, .head _, hy, ?_, ?_⟩
    ·rw [h1]; unfold Jb8; rw [if_pos hy]
    ·rw [keep tr _ fun x hx => ⟨hne x (.tail _ hx), h2 x hx⟩]
     unfold plS
     rw [hy]; exact mGet_eq _ _ _
   ·left
    refine ⟨by rw [h1]; unfold Jb8; rw [if_neg hy], fun x hx => ?_⟩
    rcases List.mem_cons.1 hx with hx | hx
    ·rw [hx]; exact hy
    ·exact h2 x hx
  ·exact .inr ⟨x, .tail _ hx, h1, h2, h3⟩
end Go.M

namespace Go.M
open Go.Md Go.Pl
abbrev Jc6 := (List Int × Int × Tb × Int × List Int) → Option (List Ta × Int × Int × Tb)
def entOk (s : List UInt8) (big : Bool) (x : Trc) : Prop :=
 (∀ t ∈ x.1, 0 ≤ t ∧ t ≤ 99999) ∧ x.1.length ≤ 6 ∧ 10 ≤ x.2.1 ∧ x.2.1 + 12 ≤ s.length ∧ x.2.2.Value.kai = (vS s big (x.2.1 + 2) 2 : Int) ∧
  (x.2.2.Value.kai ≠ 13 → Jbn x.2.2.Value = vS s big (x.2.1 + 4) 4 ∧ (4 < vS s big (x.2.1 + 4) 4 * J3 x.2.2.Value.kai → 8 ≤ vS s big (x.2.1 + 8) 4 ∧ vS s big (x.2.1 + 8) 4 + vS s big (x.2.1 + 4) 4 * J3 x.2.2.Value.kai ≤ s.length))
theorem valT_cnt (r : Tb) {k : Int} {c : Nat} {b : List UInt8} (hw : J3 k ≠ 0) (h13 : k ≠ 13) (hb : b.length = c * J3 k) (hno : (Jd9 r k c b).2.no_ = 0) : (Jd9 r k c b).1.kai = k ∧ Jbn (Jd9 r k c b).1 = c := by
 refine ⟨Jfr r k c b, ?_⟩
 unfold Jbn
 rw [Jfr]
 unfold Jd9 at hno ⊢
 by_cases h2 : k = 2
 ·rw [if_pos h2] at hno ⊢
  rw [if_pos h2]
  split at hno
  ·exact absurd hno (Ys _ (by decide))
  ·rename_i h
   rw [if_neg h]
   have h1 : J3 k = 1 := by rw [h2]; rfl
   rw [h1, Nat.mul_one] at hb
   show b.dropLast.length + 1 = c
   rw [List.length_dropLast]
   have : b ≠ [] := fun e => h (.inl e)
   have := List.length_pos_iff.2 this
   omega
 rw [if_neg h2, if_neg h2]
 by_cases h7 : k = 7
 ·have h1 : J3 k = 1 := by rw [h7]; rfl
  rw [if_pos h7, if_pos h7]
  show b.length = c
  rw [hb, h1]; omega
 rw [if_neg h7, if_neg h7]
 by_cases h5 : k = 5
 ·rw [if_pos h5, if_pos h5]
  show ((List.range c).map _).length = c
  simp
 ·rw [if_neg h5, if_neg h5, if_neg h13]
  show ((List.range c).map _).length = c
  simp
theorem valR_cnt (r : Tb) {k : Int} {c a : Nat} (hw : J3 k ≠ 0) (h13 : k ≠ 13) (ha : a + 4 ≤ r.s_.length) (hno : (Jeb r k c a).2.no_ = 0) :
  (Jeb r k c a).1.kai = k ∧ Jbn (Jeb r k c a).1 = c ∧ (4 < c * J3 k → 8 ≤ Jr r a 4 ∧ Jr r a 4 + c * J3 k ≤ r.s_.length) := by
 by_cases h4 : 4 < c * J3 k
 ·rw [valR_far h4] at hno ⊢
  split at hno
  ·rename_i h
   rw [if_pos h]
   obtain ⟨h1, h2⟩ := valT_cnt _ hw h13 (by rw [List.length_take, List.length_drop]; omega) hno
   exact ⟨h1, h2, fun _ => h⟩
  ·exact absurd hno (Ys _ (by decide))
 ·rw [valR_near h4] at hno ⊢
  obtain ⟨h1, h2⟩ := valT_cnt _ hw h13 (by rw [List.length_take, List.length_drop]; omega) hno
  exact ⟨h1, h2, fun h => absurd h h4⟩
theorem found_step (q0 : List Int) (at_ : Int) (p : List Int) (a : Nat) (e : Ta) (hp : p.length ≤ 2000000) : Jds q0 at_ p (a : Int) = some (Jb8 q0 at_ (p, a, e)) := by
 unfold Jds Jb8
 rw [eqInts _ _ hp, Jb, cI]
 split <;> rfl
theorem packC_eq (t : Int) (at_ : Int) (v : Te) (r : Tb) : Zv t at_ r.s_ r.kab r.kad r.kac r.no_ r.kaa r.kae v.kai v.kaj v.kak v.kah v.kag = some (⟨t, v⟩, at_, r) := by cases v; cases r; rfl
def SimC (d : Nat) (self : Wj) (selfC : Jc6) : Prop := ∀ (q0 : List Int) (at_ : Int) (r : Tb) (pl : Nat) (path : List Int), path.length + d = 6 → (∀ t ∈ path, 0 ≤ t ∧ t ≤ 99999) → pl ≤ 4294967295 → r.s_.length ≤ 65000 → r.kaa.length + Y4 d ≤ 7999999999999 → r.kac ≤ 0 →
 ∀ l nx r', self (r, (pl : Int), path) = some (l, nx, r') → ∃ at', selfC (q0, at_, r, (pl : Int), path) = some (l, nx, at', r') ∧ (r'.no_ = 0 → at' = (trD r.s_ r.kab d path pl l).foldl (Jb8 q0) at_ ∧ ∀ x ∈ trD r.s_ r.kab d path pl l, entOk r.s_ r.kab x)
noncomputable def trE (s : List UInt8) (big : Bool) (d : Nat) (path : List Int) (a : Nat) (e : Ta) : List Trc :=
 (path ++ [e.Tag], a, e) :: (if e.Value.kai = 13 then trD s big d (path ++ [e.Tag]) (vS s big (a + 8) 4) e.Value.kag else [])
theorem trL_cons (s : List UInt8) (big : Bool) (d : Nat) (path : List Int) (pl i : Nat) (e : Ta) (l : List Ta) : trL (trD s big d) s big path pl i (e :: l) = trE s big d path (pl + 2 + 12 * i) e ++ trL (trD s big d) s big path pl (i + 1) l := rfl
theorem ent_C {d : Nat} {self : Wj} {selfC : Jc6} (G : SimC d self selfC) (q0 : List Int) (at_ : Int) (r : Tb) {a : Nat} {path : List Int} (hpl : path.length + d + 1 = 6) (ht : ∀ t ∈ path, 0 ≤ t ∧ t ≤ 99999) (ha : a + 12 ≤ r.s_.length) (ha8 : 10 ≤ a) (hs : r.s_.length ≤ 65000) (hp : r.kaa.length + (1 + Y4 d) ≤ 7999999999999) (hf : r.kac ≤ 0)
  {e : Ta} {r' : Tb} (he : entR self r a path = some (e, r')) :
  ∃ at', Xk selfC q0 at_ r (a : Int) path = some (e, at', r') ∧ (r'.no_ = 0 → at' = (trE r.s_ r.kab d path a e).foldl (Jb8 q0) at_ ∧ ∀ x ∈ trE r.s_ r.kab d path a e, entOk r.s_ r.kab x) := by
 have hv2 := v2 r a
 have ht' : ∀ t ∈ path ++ [(Jr r a 2 : Int)], 0 ≤ t ∧ t ≤ 99999 := fun t htm => by
  rcases List.mem_append.1 htm with h | h
  ·exact ht t h
  ·rw [List.mem_singleton.1 h]; omega
 unfold Xk
 rw [n2 _ (by omega) hs, Jb, Ju (by omega), Jb, show (a : Int) + 2 = ((a + 2 : Nat) : Int) by omega, n2 _ (by omega) hs, Jb, Ju (by omega), Jb, show (a : Int) + 4 = ((a + 4 : Nat) : Int) by omega, n4 _ (by omega) hs, Jb, clone_eq (by omega), Jb, Yw (by simp; omega), Jb, found_step q0 at_ _ a e (by simp; omega), Jb, Jcc, Jb, cI, cI]
 have h8 : (a : Int) + 8 = ((a + 8 : Nat) : Int) := by omega
 have hc4 := v4 r (a + 4)
 unfold entR at he
 by_cases h13 : (Jr r (a + 2) 2 : Int) = 13
 ·rw [if_pos h13] at he
  rw [if_pos h13, if_neg (by decide), if_pos h13]
  unfold Zw
  rw [cI]
  by_cases h1 : Jr r (a + 4) 4 = 1
  ·rw [if_pos h1] at he
   rw [if_neg (by omega), cI, if_pos h13, Ju (by omega), Jb, h8, n4 _ (by omega) hs, Jb]
   cases hsf : self (r, (Jr r (a + 8) 4 : Int), path ++ [(Jr r a 2 : Int)]) with
   | none => rw [hsf] at he; cases he
   | some t =>
    obtain ⟨l, nx, r2⟩ := t
    rw [hsf, Jb] at he
    cases he
    obtain ⟨at', g1, g2⟩ := G q0 (Jb8 q0 at_ (path ++ [(Jr r a 2 : Int)], a, ⟨(Jr r a 2 : Int), ⟨13, [], [], [], l⟩⟩)) r (Jr r (a + 8) 4) (path ++ [(Jr r a 2 : Int)]) (by simp; omega) ht' (v4 _ _) hs (by omega) hf l nx _ hsf
    rw [g1, Jb, h13]
    refine ⟨at', rfl, fun hno => ?_⟩
    obtain ⟨k1, k2⟩ := g2 hno
    unfold trE
    rw [if_pos rfl, List.foldl_cons]
    refine ⟨k1, fun x hx => ?_⟩
    rcases List.mem_cons.1 hx with hx | hx
    ·subst hx
     exact ⟨ht', by simp; omega, ha8, ha, h13.symm, fun h => absurd rfl h⟩
    ·exact k2 x hx
  ·rw [if_neg h1] at he
   cases he
   rw [if_pos (by omega), Ym, Jb, h13]
   exact ⟨_, rfl, fun h => absurd h (Ys _ (by decide))⟩
 ·rw [if_neg h13] at he
  rw [if_neg h13, if_neg h13]
  by_cases h0 : J3 (Jr r (a + 2) 2 : Int) = 0
  ·rw [if_pos h0] at he
   cases he
   rw [if_pos (by omega), Ym, Jb]
   exact ⟨_, rfl, fun h => absurd h (Ys _ (by decide))⟩
  ·rw [if_neg h0] at he
   cases he
   rw [if_neg (by omega)]
   unfold Zw
   rw [Qa, cI, if_neg h13, Ju (by omega), Jb, h8, value_eq _ h0 h13 hc4 (by omega) hs (by omega), Jb, packC_eq]
   refine ⟨_, rfl, fun hno => ?_⟩
   obtain ⟨k1, k2, k3⟩ := valR_cnt r h0 h13 (by omega) hno
   unfold trE
   simp only
   rw [if_neg (by rw [k1]; exact h13), List.foldl_cons, List.foldl_nil]
   refine ⟨rfl, fun x hx => ?_⟩
   rw [List.mem_singleton.1 hx]
   refine ⟨ht', by simp; omega, ha8, ha, k1, fun _ => ⟨k2, fun h4 => ?_⟩⟩
   simp only at h4 ⊢
   rw [k1] at h4 ⊢
   exact k3 h4
noncomputable def Jed (self : Jc6) (q0 path : List Int) (pl nxt cnt i : Nat) (at_ : Int) (r : Tb) (l : List Ta) : Option (List Ta × Int × Int × Tb) :=
 Vv (fun next4 s => Xg q0 path self next4 s.1 s.2.1 s.2.2.1 s.2.2.2.1 s.2.2.2.2.1 s.2.2.2.2.2.1 s.2.2.2.2.2.2.1 s.2.2.2.2.2.2.2.1 s.2.2.2.2.2.2.2.2.1 s.2.2.2.2.2.2.2.2.2.1 s.2.2.2.2.2.2.2.2.2.2.1 s.2.2.2.2.2.2.2.2.2.2.2.1 s.2.2.2.2.2.2.2.2.2.2.2.2) ((pl : Int), (nxt : Int), (cnt : Int), (i : Int), at_, r.s_, r.kab, r.kad, r.kac, r.no_, r.kaa, r.kae, l)
theorem Jhs (self : Jc6) (q0 path : List Int) (pl nxt cnt i : Nat) (at_ : Int) (r : Tb) (l : List Ta) (h : cnt ≤ i ∨ r.no_ ≠ 0) : Jed self q0 path pl nxt cnt i at_ r l = some (l, (nxt : Int), at_, r) := by
 refine Qr fun next => ?_
 show Xg q0 path self next (pl : Int) (nxt : Int) (cnt : Int) (i : Int) at_ _ _ _ _ _ _ _ l = _
 unfold Xg
 rw [cI]
 by_cases h1 : cnt ≤ i
 ·rw [if_neg (by omega)]; rfl
 ·rw [if_pos (by omega), cI, if_neg (show ¬ r.no_ = 0 from h.resolve_left h1)]; rfl
theorem loopC_low (self : Jc6) (q0 path : List Int) (pl nxt cnt i : Nat) (at_ : Int) (r : Tb) (l : List Ta) (hi : i < cnt) (hno : r.no_ = 0) (h0 : 0 < i) (hl : i ≤ l.length) (ha : pl + 2 + 12 * cnt ≤ r.s_.length) (hs : r.s_.length ≤ 65000)
  (hlow : (Jr r (pl + 2 + 12 * i) 2 : Int) ≤ (l[i - 1]'(by omega)).Tag) : Jed self q0 path pl nxt cnt i at_ r l = some (l, (nxt : Int), at_, fl r 5) := by
 refine Qr fun next => ?_
 show Xg q0 path self next (pl : Int) (nxt : Int) (cnt : Int) (i : Int) at_ _ _ _ _ _ _ _ l = _
 unfold Xg
 rw [cI, if_pos (by omega), cI, if_pos hno, cI, if_pos (by omega), Ju (by omega), Jb, Ju (by omega), Jb, Ju (by omega), Jb, show (pl : Int) + 2 + 12 * (i : Int) = ((pl + 2 + 12 * i : Nat) : Int) by omega,
  n2 r (by omega) hs, Jb, Ju (by omega), Jb, show (i : Int) - 1 = ((i - 1 : Nat) : Int) by omega, Xa (by omega), Jb, cI, if_pos hlow, Ym r, Jb]
 rfl
theorem loopC_next (self : Jc6) (q0 path : List Int) (pl nxt cnt i : Nat) (at_ : Int) (r : Tb) (l : List Ta) (hi : i < cnt) (hno : r.no_ = 0) (hl : l.length = i) (hn : i ≤ 1000) (ha : pl + 2 + 12 * cnt ≤ r.s_.length) (hs : r.s_.length ≤ 65000)
  (hlow : ∀ (h : 0 < i), ¬ (Jr r (pl + 2 + 12 * i) 2 : Int) ≤ (l[i - 1]'(by omega)).Tag) {e : Ta} {at' : Int} {r' : Tb} (he : Xk self q0 at_ r ((pl + 2 + 12 * i : Nat) : Int) path = some (e, at', r')) :
  Jed self q0 path pl nxt cnt i at_ r l = Jed self q0 path pl nxt cnt (i + 1) at' r' (l ++ [e]) := by
 have go : ∀ next, Vs q0 path self (pl : Int) (nxt : Int) (cnt : Int) (i : Int) at_ r.s_ r.kab r.kad r.kac r.no_ r.kaa r.kae l next = next ((pl : Int), (nxt : Int), (cnt : Int), ((i + 1 : Nat) : Int), at', r'.s_, r'.kab, r'.kad, r'.kac, r'.no_, r'.kaa, r'.kae, l ++ [e]) := by
  intro next
  unfold Vs
  rw [Ju (by omega), Jb, Ju (by omega), Jb, Ju (by omega), Jb, show (pl : Int) + 2 + 12 * (i : Int) = ((pl + 2 + 12 * i : Nat) : Int) by omega, he, Jb, Yw (by simp; omega), Jb, Ju (by omega), Jb]
  rfl
 refine Xu _ fun next => ?_
 show Xg q0 path self next (pl : Int) (nxt : Int) (cnt : Int) (i : Int) at_ _ _ _ _ _ _ _ l = _
 unfold Xg
 rw [cI, if_pos (by omega), cI, if_pos hno, cI]
 by_cases h0 : 0 < i
 ·rw [if_pos (by omega), Ju (by omega), Jb, Ju (by omega), Jb, Ju (by omega), Jb, show (pl : Int) + 2 + 12 * (i : Int) = ((pl + 2 + 12 * i : Nat) : Int) by omega,
   n2 r (by omega) hs, Jb, Ju (by omega), Jb, show (i : Int) - 1 = ((i - 1 : Nat) : Int) by omega, Xa (by omega), Jb, cI, if_neg (hlow h0)]
  exact go next
 ·rw [if_neg (by omega)]
  exact go next
theorem loop_C {d : Nat} {self : Wj} {selfC : Jc6} (H : Jgg d self) (G : SimC d self selfC) (q0 : List Int) {path : List Int} (hpl : path.length + d + 1 = 6) (ht : ∀ t ∈ path, 0 ≤ t ∧ t ≤ 99999) (r : Tb) {pl nxt cnt : Nat} (hs : r.s_.length ≤ 65000) (hcnt : cnt ≤ 200) (hin : pl + 2 + 12 * cnt ≤ r.s_.length) (hp8 : 8 ≤ pl) (hp : r.kaa.length + Y4 (d + 1) ≤ 7999999999999) (hf : r.kac ≤ 0) :
  ∀ (m i : Nat) (rc : Tb) (l : List Ta) (at_ : Int), i + m = cnt → l.length = i → Adds r rc (1 + i * (1 + Y4 d)) ((szD (d + 1) l : Nat) + 12 * m : Int) →
   ∀ l' nx r', Jch self path pl nxt cnt i rc l = some (l', nx, r') → ∃ at', Jed selfC q0 path pl nxt cnt i at_ rc l = some (l', nx, at', r') ∧ (r'.no_ = 0 → ∃ rest, l' = l ++ rest ∧ at' = (trL (trD r.s_ r.kab d) r.s_ r.kab path pl i rest).foldl (Jb8 q0) at_ ∧ ∀ x ∈ trL (trD r.s_ r.kab d) r.s_ r.kab path pl i rest, entOk r.s_ r.kab x) := by
 intro m
 have hcap : ∀ i, i ≤ 200 → 1 + i * (1 + Y4 d) ≤ Y4 (d + 1) := fun i hi => by
  show _ ≤ 1 + 200 * (1 + Y4 d)
  have := Nat.mul_le_mul_right (1 + Y4 d) hi; omega
 induction m with
 | zero =>
  intro i rc l at_ him hl hA l' nx r' hd
  rw [Jaa _ _ _ _ _ _ _ _ (.inl (by omega))] at hd
  cases hd
  exact ⟨_, Jhs _ _ _ _ _ _ _ _ _ _ (.inl (by omega)), fun _ => ⟨[], (List.append_nil _).symm, rfl, fun x hx => by simp [trL] at hx⟩⟩
 | succ m ih =>
  intro i rc l at_ him hl hA l' nx r' hd
  have hsl := hA.len
  by_cases hno : rc.no_ = 0
  ·have hin' : pl + 2 + 12 * cnt ≤ rc.s_.length := by omega
   by_cases hlow : ∃ h : 0 < i, (Jr rc (pl + 2 + 12 * i) 2 : Int) ≤ (l[i - 1]'(by omega)).Tag
   ·obtain ⟨h0, hlow⟩ := hlow
    rw [Jhe _ _ _ _ _ _ _ _ (by omega) hno h0 (by omega) hin' (by omega) hlow] at hd
    cases hd
    exact ⟨_, loopC_low _ _ _ _ _ _ _ _ _ _ (by omega) hno h0 (by omega) hin' (by omega) hlow, fun h => absurd h (Ys rc (by decide))⟩
   ·have hi1 := hcap (i + 1) (by omega)
    rw [Nat.add_mul, Nat.one_mul] at hi1
    have hpr := hA.parts
    have hff : rc.kac ≤ 0 := by rw [hA.2.2.2.1]; exact hf
    obtain ⟨e, r2, he, hA'⟩ := Jfv H rc (a := pl + 2 + 12 * i) hpl (by omega) (by omega) hff
    rw [Jft self path pl nxt cnt i rc l (by omega) hno hl (by omega) hin' (by omega) (fun h hh => hlow ⟨h, hh⟩) (by omega) hff (by omega) he] at hd
    obtain ⟨at1, g1, g2⟩ := ent_C G q0 at_ rc (a := pl + 2 + 12 * i) hpl ht (by omega) (by omega) (by omega) (by omega) hff he
    rw [loopC_next selfC q0 path pl nxt cnt i at_ rc l (by omega) hno hl (by omega) hin' (by omega) (fun h hh => hlow ⟨h, hh⟩) g1]
    obtain ⟨at', k1, k2⟩ := ih (i + 1) r2 (l ++ [e]) at1 (by omega) (by simp; omega) ((hA.trans hA').mono (by rw [Nat.add_mul, Nat.one_mul]; omega) (by rw [Jfm]; omega)) l' nx r' hd
    refine ⟨at', k1, fun hno' => ?_⟩
    obtain ⟨rest, b1, b2, b3⟩ := k2 hno'
    have hno2 : r2.no_ = 0 := by
     refine Classical.byContradiction fun hh => ?_
     rw [Jaa _ _ _ _ _ _ _ _ (.inr hh)] at hd
     cases hd
     exact hh hno'
    obtain ⟨c1, c2⟩ := g2 hno2
    rw [hA.1, hA.2.1] at c1 c2
    refine ⟨e :: rest, by rw [b1]; simp, ?_, fun x hx => ?_⟩
    ·rw [trL_cons, List.foldl_append, ← c1, b2]
    ·rw [trL_cons] at hx
     rcases List.mem_append.1 hx with hx | hx
     ·exact c2 x hx
     ·exact b3 x hx
  ·rw [Jaa _ _ _ _ _ _ _ _ (.inr hno)] at hd
   cases hd
   exact ⟨_, Jhs _ _ _ _ _ _ _ _ _ _ (.inr hno), fun h => absurd h hno⟩
theorem Jaf (q0 : List Int) (at_ pl cnt : Int) (path : List Int) (self : Jc6) (r : Tb) (h : r.no_ ≠ 0) : Xh q0 at_ pl path self cnt r.s_ r.kab r.kad r.kac r.no_ r.kaa r.kae = some ([], 0, at_, r) := by
 unfold Xh
 rw [cI, if_pos h]
theorem dirC_of (selfC : Jc6) (q0 : List Int) (at_ : Int) (r : Tb) {pl : Nat} {path : List Int} (hpl : pl ≤ 4294967295) (hs : r.s_.length ≤ 65000) (hp : r.kaa.length ≤ 7999999999999) :
  Qn selfC q0 at_ r (pl : Int) path =
  if ¬ (8 ≤ pl ∧ pl + 2 ≤ r.s_.length) then some ([], 0, at_, fl r 2)
  else if (Q2 r.kae (pl : Int)).getD false = true then some ([], 0, at_, fl r 13)
  else if 20 < r.kad ∨ 5 < path.length ∨ 200 < Jr r pl 2 then some ([], 0, at_, fl r 4)
  else if ¬ (pl + (2 + 12 * Jr r pl 2 + 4) ≤ r.s_.length) then some ([], 0, at_, fl r 2)
  else if r.no_ ≠ 0 then some ([], 0, at_, r)
  else Jed selfC q0 path pl (Jr r (pl + 2 + 12 * Jr r pl 2) 4) (Jr r pl 2) 0 at_
   (if 1 < path.length ∧ Jr r (pl + 2 + 12 * Jr r pl 2) 4 ≠ 0 then fl ⟨r.s_, r.kab, r.kaa ++ [⟨(pl : Int), ((pl + (2 + 12 * Jr r pl 2 + 4) : Nat) : Int)⟩], Yp r.kae (pl : Int) true, r.kad, r.kac, r.no_⟩ 1
    else ⟨r.s_, r.kab, r.kaa ++ [⟨(pl : Int), ((pl + (2 + 12 * Jr r pl 2 + 4) : Nat) : Int)⟩], Yp r.kae (pl : Int) true, r.kad, r.kac, r.no_⟩) [] := by
 unfold Qn
 rw [show (2 : Int) = ((2 : Nat) : Int) from rfl, Je1 _ (by omega) hs, Jb, show ((2 : Nat) : Int) = 2 from rfl]
 by_cases ht : 8 ≤ pl ∧ pl + 2 ≤ r.s_.length
 ·rw [decide_eq_true ht, Bool.not_true, Qa, if_neg (by simp [ht]), n2 _ ht.2 hs, Jb]
  have hv := v2 r pl
  by_cases hsn : (Q2 r.kae (pl : Int)).getD false = true
  ·rw [if_pos hsn, hsn, Qq, Ym, Jb, Jaf _ _ _ _ _ _ _ (Ys _ (by decide))]
  ·rw [if_neg hsn, Bool.not_eq_true _ |>.mp hsn, Qa, cI, cI, cI]
   by_cases h20 : 20 < r.kad
   ·rw [if_pos h20, if_pos (.inl h20), Ym, Jb, Jaf _ _ _ _ _ _ _ (Ys _ (by decide))]
   rw [if_neg h20]
   by_cases h5 : 5 < path.length
   ·rw [if_pos (by omega), if_pos (.inr (.inl h5)), Ym, Jb, Jaf _ _ _ _ _ _ _ (Ys _ (by decide))]
   rw [if_neg (by omega)]
   by_cases h200 : 200 < Jr r pl 2
   ·rw [if_pos (by omega), if_pos (.inr (.inr h200)), Ym, Jb, Jaf _ _ _ _ _ _ _ (Ys _ (by decide))]
   rw [if_neg (by omega), if_neg (by omega), Ju (by omega), Jb, Ju (by omega), Jb, Ju (by omega), Jb, show (2 : Int) + 12 * (Jr r pl 2 : Int) + 4 = ((2 + 12 * Jr r pl 2 + 4 : Nat) : Int) by omega, Je1 _ (by omega) hs, Jb]
   by_cases hb : pl + (2 + 12 * Jr r pl 2 + 4) ≤ r.s_.length
   ·rw [decide_eq_true ⟨ht.1, hb⟩, Bool.not_true, Qa, if_neg (by omega)]
    by_cases hno : r.no_ = 0
    ·rw [if_neg (by simp [hno])]
     unfold Xh
     have hb' : pl + (2 + 12 * Jr r pl 2 + 4) ≤ r.s_.length := hb
     rw [cI, if_neg (by simp [hno]), Ju (by omega), Jb, Ju (by omega), Jb, Ju (by omega), Jb, Ju (by omega), Jb, Yw (by simp; omega), Jb, Jb, Jb, Ju (by omega), Jb,
      show (pl : Int) + 2 + 12 * (Jr r pl 2 : Int) = ((pl + 2 + 12 * Jr r pl 2 : Nat) : Int) by omega,
      show ((pl + 2 + 12 * Jr r pl 2 : Nat) : Int) + 4 = ((pl + (2 + 12 * Jr r pl 2 + 4) : Nat) : Int) by omega,
      n4 (a := pl + 2 + 12 * Jr r pl 2) (⟨r.s_, r.kab, r.kaa ++ [(⟨(pl : Int), ((pl + (2 + 12 * Jr r pl 2 + 4) : Nat) : Int)⟩ : Tc)], Yp r.kae (pl : Int) true, r.kad, r.kac, r.no_⟩ : Tb) (by show _ ≤ r.s_.length; omega) hs, Jb, cI, cI]
     by_cases h1 : 1 < path.length
     ·rw [if_pos (by omega)]
      by_cases hn : Jr r (pl + 2 + 12 * Jr r pl 2) 4 = 0
      ·rw [if_neg (by show ¬ ((Jr r (pl + 2 + 12 * Jr r pl 2) 4 : Nat) : Int) ≠ 0; omega), if_neg (by omega)]; rfl
      ·rw [if_pos (by show ((Jr r (pl + 2 + 12 * Jr r pl 2) 4 : Nat) : Int) ≠ 0; omega), if_pos ⟨h1, hn⟩, Ym, Jb]; rfl
     ·rw [if_neg (by omega), if_neg (by omega)]; rfl
    ·rw [if_pos hno, Jaf _ _ _ _ _ _ _ hno]
   ·rw [decide_eq_false (by omega), Bool.not_false, Qq, if_pos hb, Ym, Jb, Jaf _ _ _ _ _ _ _ (Ys _ (by decide))]
 ·rw [decide_eq_false ht, Bool.not_false, Qq, if_pos ht, Ym, Jb]
theorem dir_C {d : Nat} {self : Wj} {selfC : Jc6} (H : Jgg d self) (G : SimC d self selfC) (q0 : List Int) (at_ : Int) (r : Tb) {pl : Nat} {path : List Int} (hpl : path.length + d + 1 = 6) (ht : ∀ t ∈ path, 0 ≤ t ∧ t ≤ 99999) (hb : pl ≤ 4294967295) (hs : r.s_.length ≤ 65000) (hp : r.kaa.length + Y4 (d + 1) ≤ 7999999999999) (hf : r.kac ≤ 0)
  {l : List Ta} {nx : Int} {r' : Tb} (hd : dirR self r pl path = some (l, nx, r')) :
  ∃ at', Qn selfC q0 at_ r (pl : Int) path = some (l, nx, at', r') ∧ (r'.no_ = 0 → at' = (trD r.s_ r.kab (d + 1) path pl l).foldl (Jb8 q0) at_ ∧ ∀ x ∈ trD r.s_ r.kab (d + 1) path pl l, entOk r.s_ r.kab x) := by
 rw [dirC_of selfC q0 at_ r hb hs (by omega)]
 unfold dirR at hd
 split at hd
 ·rename_i h; cases hd; rw [if_pos h]; exact ⟨_, rfl, fun h => absurd h (Ys _ (by decide))⟩
 rename_i h8
 rw [if_neg h8]
 split at hd
 ·rename_i h; cases hd; rw [if_pos h]; exact ⟨_, rfl, fun h => absurd h (Ys _ (by decide))⟩
 rename_i hsn
 rw [if_neg hsn]
 split at hd
 ·rename_i h; cases hd; rw [if_pos h]; exact ⟨_, rfl, fun h => absurd h (Ys _ (by decide))⟩
 rename_i hlim
 rw [if_neg hlim]
 split at hd
 ·rename_i h; cases hd; rw [if_pos h]; exact ⟨_, rfl, fun h => absurd h (Ys _ (by decide))⟩
 rename_i hin
 rw [if_neg hin]
 split at hd
 ·rename_i h; cases hd; rw [if_pos h]; exact ⟨_, rfl, fun hh => absurd hh h⟩
 rename_i hno
 rw [if_neg hno]
 have hpart := Adds.part r ⟨(pl : Int), ((pl + (2 + 12 * Jr r pl 2 + 4) : Nat) : Int)⟩ (Yp r.kae (pl : Int) true) ⟨by simp only; omega, by simp only; omega, by simp only; omega⟩
 split at hd
 ·rename_i h
  rw [if_pos h, Jhs _ _ _ _ _ _ _ _ _ _ (.inr (Ys _ (by decide)))]
  rw [Jaa _ _ _ _ _ _ _ _ (.inr (Ys _ (by decide)))] at hd
  cases hd
  exact ⟨_, rfl, fun h => absurd h (Ys _ (by decide))⟩
 ·rename_i h
  rw [if_neg h]
  obtain ⟨at', k1, k2⟩ := loop_C H G q0 hpl ht r (nxt := Jr r (pl + 2 + 12 * Jr r pl 2) 4) hs (show Jr r pl 2 ≤ 200 by omega) (show pl + 2 + 12 * Jr r pl 2 ≤ r.s_.length by omega) (by omega) hp hf (Jr r pl 2) 0 _ [] at_ (by omega) rfl (hpart.mono (by omega) (by rw [Jci]; simp only; omega)) l nx r' hd
  refine ⟨at', k1, fun h => ?_⟩
  obtain ⟨rest, b1, b2, b3⟩ := k2 h
  rw [List.nil_append] at b1
  rw [b1]
  exact ⟨b2, b3⟩
theorem entC_congr {self self' : Jc6} {path : List Int} (h : ∀ q0 at_ r pl p, p.length = path.length + 1 → self (q0, at_, r, pl, p) = self' (q0, at_, r, pl, p)) (q0 : List Int) (at_ : Int) (r : Tb) (a : Int) : Xk self q0 at_ r a path = Xk self' q0 at_ r a path := by
 unfold Xk
 refine Q8 fun t13 _ => Q8 fun _ _ => Q8 fun _ _ => Q8 fun _ _ => Q8 fun _ _ => Q8 fun t23 h23 => Q8 fun l26 h26 => ?_
 have hl : l26.length = path.length + 1 := by
  unfold Y5 at h23
  cases hg : Wb 8 ([] : List Int) path with
  | none => rw [hg] at h23; cases h23
  | some u => rw [hg, Jb] at h23; cases h23; rw [(Ja5 h26).1, (Ja5 hg).1]; simp
 have e : ∀ q0 at_ x y, self (q0, at_, x, y, l26) = self' (q0, at_, x, y, l26) := fun q0 at_ x y => h q0 at_ x y l26 hl
 unfold Zw
 simp only [e]
theorem dirC_congr {self self' : Jc6} {path : List Int} (h : ∀ q0 at_ r pl p, p.length = path.length + 1 → self (q0, at_, r, pl, p) = self' (q0, at_, r, pl, p)) (q0 : List Int) (at_ : Int) (r : Tb) (pl : Int) : Qn self q0 at_ r pl path = Qn self' q0 at_ r pl path := by
 have e : ∀ q0 at_ r a, Xk self q0 at_ r a path = Xk self' q0 at_ r a path := entC_congr h
 have e4 : Xg q0 path self = Xg q0 path self' := by
  funext next x1 x7 x9 x10 m0 m1 m2 m3 m4 m5 l1 mp l2
  unfold Xg Vs
  simp only [e]
 have e1 : ∀ a1 t m m2 m3 m4 m5 l mp, Xh q0 at_ a1 path self t m m2 m3 m4 m5 l mp = Xh q0 at_ a1 path self' t m m2 m3 m4 m5 l mp := by
  intro a1 t m m2 m3 m4 m5 l mp
  unfold Xh Ww
  rw [e4]
 unfold Qn
 simp only [e1]
theorem deepC_congr {self self' : Jc6} {path : List Int} (h : 5 < path.length) (q0 : List Int) (at_ : Int) (r : Tb) (pl : Int) : Qn self q0 at_ r pl path = Qn self' q0 at_ r pl path := by
 unfold Qn
 refine Q8 fun t _ => Wm (fun _ => rfl) fun _ => Q8 fun c _ => Wm (fun _ => ?_) fun _ => Wm (fun _ => ?_) fun _ => ?_
 ·rw [Ym, Jb, Jb, Jaf _ _ _ _ _ _ _ (Ys _ (by decide)), Jaf _ _ _ _ _ _ _ (Ys _ (by decide))]
 ·rw [Ym, Jb, Jb, Jaf _ _ _ _ _ _ _ (Ys _ (by decide)), Jaf _ _ _ _ _ _ _ (Ys _ (by decide))]
 ·rw [cI, if_pos (by omega), cI, if_pos (by omega), Ym, Jb, Jb, Jaf _ _ _ _ _ _ _ (Ys _ (by decide)), Jaf _ _ _ _ _ _ _ (Ys _ (by decide))]
noncomputable abbrev dirFC : Jc6 → Jc6 := fun self s => Qn self s.1 s.2.1 s.2.2.1 s.2.2.2.1 s.2.2.2.2
theorem it_sameC : ∀ (d n m : Nat), d < n → d < m → ∀ (q0 : List Int) (at_ : Int) (r : Tb) (pl : Int) (path : List Int), path.length + d = 6 → it dirFC n (q0, at_, r, pl, path) = it dirFC m (q0, at_, r, pl, path) := by
 intro d
 induction d with
 | zero =>
  intro n m hn hm q0 at_ r pl path h6
  obtain ⟨n, rfl⟩ : ∃ k, n = k + 1 := ⟨n - 1, by omega⟩
  obtain ⟨m, rfl⟩ : ∃ k, m = k + 1 := ⟨m - 1, by omega⟩
  exact deepC_congr (path := path) (by omega) q0 at_ r pl
 | succ d ih =>
  intro n m hn hm q0 at_ r pl path h6
  obtain ⟨n, rfl⟩ : ∃ k, n = k + 1 := ⟨n - 1, by omega⟩
  obtain ⟨m, rfl⟩ : ∃ k, m = k + 1 := ⟨m - 1, by omega⟩
  exact dirC_congr (path := path) (fun q0 at_ r pl p hp => ih n m (by omega) (by omega) q0 at_ r pl p (by omega)) q0 at_ r pl
theorem dirC_it (q0 : List Int) (at_ : Int) (r : Tb) (pl : Int) (path : List Int) (h1 : path.length = 1) : Jbk q0 at_ r pl path = it dirFC 6 (q0, at_, r, pl, path) := by
 unfold Jbk
 exact Jdu (k := 6) fun n hn => it_sameC 5 n 6 (by omega) (by omega) q0 at_ r pl path (by omega)
theorem it_C : ∀ d n : Nat, d < n → SimC d (it dirF n) (it dirFC n) := by
 intro d
 induction d with
 | zero =>
  intro n hn q0 at_ r pl path h6 ht hb hs hp hf l nx r' hd
  obtain ⟨n, rfl⟩ : ∃ k, n = k + 1 := ⟨n - 1, by omega⟩
  have hd : J6 (it dirF n) r (pl : Int) path = some (l, nx, r') := hd
  rw [Jde _ r hb hs (by omega)] at hd
  obtain ⟨r2, h1, h2, h3⟩ := dirR_zero (self := it dirF n) r pl path (by omega)
  rw [h1] at hd
  cases hd
  show ∃ at', Qn (it dirFC n) q0 at_ r (pl : Int) path = _ ∧ _
  rw [dirC_of _ q0 at_ r hb hs (by omega)]
  unfold dirR at h1
  split at h1
  ·rename_i h; cases h1; rw [if_pos h]; exact ⟨_, rfl, fun h => absurd h h3⟩
  rename_i h8
  rw [if_neg h8]
  split at h1
  ·rename_i h; cases h1; rw [if_pos h]; exact ⟨_, rfl, fun h => absurd h h3⟩
  rename_i hsn
  rw [if_neg hsn]
  rw [if_pos (.inr (.inl (by omega)))] at h1
  cases h1
  rw [if_pos (.inr (.inl (by omega)))]
  exact ⟨_, rfl, fun h => absurd h h3⟩
 | succ d ih =>
  intro n hn q0 at_ r pl path h6 ht hb hs hp hf l nx r' hd
  obtain ⟨n, rfl⟩ : ∃ k, n = k + 1 := ⟨n - 1, by omega⟩
  have hd : J6 (it dirF n) r (pl : Int) path = some (l, nx, r') := hd
  rw [Jde _ r hb hs (by omega)] at hd
  exact dir_C (it_ok d n (by omega)) (ih n (by omega)) q0 at_ r (by omega) ht hb hs hp hf hd
theorem j3_at (t m : Int) (ls : List (List Ta)) (ps : List Tc) (e : Int) : Jby t m ls ps e = Js (Ze t ls ps e) fun x => some (x.1, x.2.1, x.2.2, m) := by
 unfold Jby Ze
 rw [cI, cI]
 split <;> rfl
theorem j2_at (t m : Int) (ls : List (List Ta)) (ps : List Tc) (e : Int) : Ja4 t m ls ps e = Js (Zd t ls ps e) fun x => some (x.1, x.2.1, x.2.2, m) := by
 unfold Ja4 Zd
 rw [cI, cI]
 split
 ·cases Jak ⟨decide (t = 77), ls⟩ with
  | none => rfl
  | some x => rw [Jb, Jb, j3_at]
 ·rw [j3_at]
theorem j1_at (t m : Int) (a : List UInt8) (b : Bool) (c : Int) (d : Nat) (e : Int) (l : List Tc) (ls : List (List Ta)) (mp : List (Int × Bool)) : Jb1 t m a b c d e l ls mp = Js (Zy t a b c d e l ls mp) fun x => some (x.1, x.2.1, x.2.2, m) := by
 unfold Jb1 Zy
 cases Jdv l Qf with
 | none => rfl
 | some ps =>
  rw [Jb, Jb, cI, cI]
  split
  ·cases Jaw ps with
   | none => rfl
   | some b => rw [Jb, Jb]; cases b with
   | true => rw [Qq, Qq]; exact j2_at _ _ _ _ _
   | false => rw [Qa, Qa]; exact j2_at _ _ _ _ _
  ·exact j2_at _ _ _ _ _
theorem j1_dirs {t : Int} {a : List UInt8} {b : Bool} {c : Int} {d : Nat} {no : Int} {l : List Tc} {ls : List (List Ta)} {mp : List (Int × Bool)} {f : Th} {ps : List Tc} {e : Int} (h : Zy t a b c d no l ls mp = some (f, ps, e)) (he : e = 0) : f.kap = ls ∧ no = 0 ∧ f.Big = decide (t = 77) := by
 have k3 : ∀ qs x, Ze t ls qs x = some (f, ps, e) → f.kap = ls ∧ x = 0 ∧ f.Big = decide (t = 77) := by
  intro qs x hx
  unfold Ze at hx
  rw [cI] at hx
  split at hx
  ·rename_i h1; cases hx; exact absurd he h1
  ·rename_i h1; cases hx; exact ⟨rfl, by simpa using h1, rfl⟩
 have k2 : ∀ qs x, Zd t ls qs x = some (f, ps, e) → f.kap = ls ∧ x = 0 ∧ f.Big = decide (t = 77) := by
  intro qs x hx
  unfold Zd at hx
  rw [cI] at hx
  split at hx
  ·rename_i h1
   cases hc : Jak ⟨decide (t = 77), ls⟩ with
   | none => rw [hc] at hx; cases hx
   | some y => rw [hc, Jb] at hx; exact ⟨(k3 _ _ hx).1, h1, (k3 _ _ hx).2.2⟩
  ·exact k3 _ _ hx
 unfold Zy at h
 cases hs : Jdv l Qf with
 | none => rw [hs] at h; cases h
 | some qs =>
  rw [hs, Jb, cI] at h
  split at h
  ·rename_i h1
   cases ho : Jaw qs with
   | none => rw [ho] at h; cases h
   | some o =>
    rw [ho, Jb] at h
    cases o with
    | true => rw [Qq] at h; exact absurd (k2 _ _ h).2.1 (by decide)
    | false => rw [Qa] at h; exact k2 _ _ h
  ·exact k2 _ _ h
noncomputable def rdLoopC (q0 : List Int) (t : Int) (nx : Nat) (at_ : Int) (r : Tb) (ls : List (List Ta)) : Option (Th × List Tc × Int × Int) :=
 Vv (fun next4 s => Ui q0 t next4 s.1 s.2.1 s.2.2.1 s.2.2.2.1 s.2.2.2.2.1 s.2.2.2.2.2.1 s.2.2.2.2.2.2.1 s.2.2.2.2.2.2.2.1 s.2.2.2.2.2.2.2.2.1 s.2.2.2.2.2.2.2.2.2) ((nx : Int), at_, r.s_, r.kab, r.kad, r.kac, r.no_, r.kaa, ls, r.kae)
theorem rdC_end (q0 : List Int) (t : Int) (nx : Nat) (at_ : Int) (r : Tb) (ls : List (List Ta)) (h : nx = 0 ∨ r.no_ ≠ 0) : rdLoopC q0 t nx at_ r ls = Js (Je7 t nx r ls) fun x => some (x.1, x.2.1, x.2.2, at_) := by
 rw [Jh1 _ _ _ _ h, ← j1_at]
 refine Qr fun next => ?_
 show Ui q0 t next (nx : Int) at_ r.s_ r.kab r.kad r.kac r.no_ r.kaa ls r.kae = _
 unfold Ui
 rw [cI]
 by_cases h0 : nx = 0
 ·rw [if_neg (by simp [h0])]
 ·rw [if_pos (by simpa using h0), cI, if_neg (h.resolve_left h0)]
theorem rd_C (q0 : List Int) (t : Int) : ∀ (m D nx : Nat) (at_ : Int) (r : Tb) (ls : List (List Ta)), D + m = 21 → nx ≤ 4294967295 → r.kad = D → ls.length = D → (D ≤ 20 ∨ r.no_ ≠ 0) → r.s_.length ≤ 65000 → r.kaa.length ≤ D * 323216080401 → r.kac ≤ 0 →
  ∀ f ps e, Je7 t nx r ls = some (f, ps, e) → ∃ at', rdLoopC q0 t nx at_ r ls = some (f, ps, e, at') ∧ (e = 0 → r.no_ = 0 ∧ f.Big = decide (t = 77) ∧ ∃ rest, f.kap = ls ++ rest ∧ at' = (trF r.s_ r.kab ls.length nx rest).foldl (Jb8 q0) at_ ∧ ∀ x ∈ trF r.s_ r.kab ls.length nx rest, entOk r.s_ r.kab x) := by
 have hcap : Y4 5 = 323216080401 := by rfl
 have stop : ∀ (nx : Nat) (at_ : Int) (r : Tb) (ls : List (List Ta)) f ps e, nx = 0 ∨ r.no_ ≠ 0 → Je7 t nx r ls = some (f, ps, e) → ∃ at', rdLoopC q0 t nx at_ r ls = some (f, ps, e, at') ∧ (e = 0 → r.no_ = 0 ∧ f.Big = decide (t = 77) ∧ ∃ rest, f.kap = ls ++ rest ∧ at' = (trF r.s_ r.kab ls.length nx rest).foldl (Jb8 q0) at_ ∧ ∀ x ∈ trF r.s_ r.kab ls.length nx rest, entOk r.s_ r.kab x) := by
  intro nx at_ r ls f ps e h0 h
  refine ⟨at_, by rw [rdC_end _ _ _ _ _ _ h0, h, Jb], fun he => ?_⟩
  rw [Jh1 _ _ _ _ h0] at h
  obtain ⟨k1, k2, k3⟩ := j1_dirs h he
  exact ⟨k2, k3, [], by rw [k1, List.append_nil], rfl, fun x hx => by simp [trF] at hx⟩
 intro m
 induction m with
 | zero =>
  intro D nx at_ r ls hD hnx hd hl h20 hs hp hf f ps e h
  exact stop nx at_ r ls f ps e (.inr (h20.resolve_left (by omega))) h
 | succ m ih =>
  intro D nx at_ r ls hD hnx hd hl h20 hs hp hf f ps e h
  by_cases hend : nx = 0 ∨ r.no_ ≠ 0
  ·exact stop nx at_ r ls f ps e hend h
  ·have h0 : nx ≠ 0 := fun h => hend (.inl h)
   have hno : r.no_ = 0 := Classical.byContradiction fun h => hend (.inr h)
   obtain ⟨l, nx', r', h1, h2, h3, h4⟩ := dir_ok ⟨r.s_, r.kab, r.kaa, r.kae, r.kad + 1, r.kac, r.no_⟩ nx [(ls.length : Int)] rfl hnx hs (by show r.kaa.length + Y4 5 ≤ _; rw [hcap]; omega) hf
   rw [rd_next t nx r ls h0 hno (by omega) (by omega) h1] at h
   have h1' := h1
   rw [dir_it _ _ _ rfl] at h1'
   obtain ⟨at1, g1, g2⟩ := it_C 5 6 (by omega) q0 at_ ⟨r.s_, r.kab, r.kaa, r.kae, r.kad + 1, r.kac, r.no_⟩ nx [(ls.length : Int)] rfl (fun t ht => by rw [List.mem_singleton.1 ht]; omega) hnx hs (by show r.kaa.length + Y4 5 ≤ _; rw [hcap]; omega) hf l _ r' h1'
   rw [← dirC_it _ _ _ _ _ rfl] at g1
   have hlen' := h3.len
   have hsl : r'.s_.length = r.s_.length := hlen'
   have hpa := h3.parts
   rw [hcap] at hpa
   have hpa' : r'.kaa.length ≤ r.kaa.length + 323216080401 := hpa
   obtain ⟨k1, k2, k3, k4, new, k5, k6, k7, k8⟩ := h3
   have k1' : r'.s_ = r.s_ := k1
   have k2' : r'.kab = r.kab := k2
   obtain ⟨at', b1, b2⟩ := ih (D + 1) nx' at1 r' (ls ++ [l]) (by omega) h2 (by have : r'.kad = r.kad + 1 := k3; omega) (by simp; omega) (by
    by_cases hh : D + 1 ≤ 20
    ·exact .inl hh
    ·exact .inr (h4 (by show 20 < r.kad + 1; omega))) (by omega) (by omega) (by have : r'.kac = r.kac := k4; omega) f ps e h
   refine ⟨at', ?_, fun he => ?_⟩
   ·rw [← b1]
    refine Xu _ fun next => ?_
    show Ui q0 t next (nx : Int) at_ r.s_ r.kab r.kad r.kac r.no_ r.kaa ls r.kae = _
    unfold Ui
    rw [cI, if_pos (by simpa using h0), cI, if_pos hno, Ju (by omega), Jb, g1, Jb, Yw (by simp; omega), Jb]
   ·obtain ⟨c0, cb, rest, c1, c2, c3⟩ := b2 he
    obtain ⟨d1, d2⟩ := g2 c0
    have hnxt : vS r.s_ r.kab (nx + 2 + 12 * l.length) 4 = nx' := dir_next (r := ⟨r.s_, r.kab, r.kaa, r.kae, r.kad + 1, r.kac, r.no_⟩) h1 hno hnx hs (by show r.kaa.length + Y4 5 ≤ _; rw [hcap]; omega) hf c0
    rw [k1', k2'] at c2 c3
    have hl1 : (ls ++ [l]).length = ls.length + 1 := by simp
    rw [hl1] at c2 c3
    refine ⟨hno, cb, l :: rest, by rw [c1]; simp, ?_, fun x hx => ?_⟩
    ·rw [trF, hnxt, List.foldl_append, c2, d1]
    ·rw [trF, hnxt] at hx
     rcases List.mem_append.1 hx with hx | hx
     ·exact d2 x hx
     ·exact c3 x hx
theorem read_C (q0 : List Int) (s : List UInt8) {f : Th} {ps : List Tc} {e : Int} (h : Jb5 s 0 = some (f, ps, e)) :
  ∃ at', Jfz q0 (-1) s 0 = some (f, ps, e, at') ∧ (e = 0 → f.Big = Vt s ∧ at' = (trF s (Vt s) 0 (vS s (Vt s) 4 4) f.kap).foldl (Jb8 q0) (-1) ∧ ∀ x ∈ trF s (Vt s) 0 (vS s (Vt s) 4 4) f.kap, entOk s (Vt s) x) := by
 unfold Jb5 at h
 unfold Jfz
 rw [cI] at h ⊢
 by_cases hl : (65000 : Int) < s.length
 ·rw [if_pos hl] at h ⊢
  cases h
  exact ⟨_, rfl, fun h => absurd h (by decide)⟩
 ·obtain ⟨b, hb, hb8⟩ := Jh8 s
  rw [if_neg hl, hb, Jb] at h ⊢
  cases b with
  | false =>
   rw [Bool.not_false, Qq] at h ⊢
   cases h
   exact ⟨_, rfl, fun h => absurd h (by decide)⟩
  | true =>
   have h8 := hb8 rfl
   rw [Bool.not_true, Qa, show (0 : Int) = ((0 : Nat) : Int) from rfl, Jau (by omega), Jb, show (4 : Int) = ((4 : Nat) : Int) from rfl, Jc5 (a := 4) (k := 4) _ (by show 4 + 4 ≤ s.length; omega) (by omega) (by show s.length ≤ 65000; omega), Jb] at h ⊢
   obtain ⟨at', h1, h2⟩ := rd_C q0 ((s[0]'(by omega)).toNat : Int) 21 0 (Jao (decide (((s[0]'(by omega)).toNat : Int) = 77)) ((s.drop 4).take 4)) (-1) ⟨s, decide (((s[0]'(by omega)).toNat : Int) = 77), [], [], 0, 0, 0⟩ [] (by omega) (valB4 _ (by rw [List.length_take]; omega)) rfl rfl (.inl (by omega)) (by show s.length ≤ 65000; omega) (by simp) (Nat.le_refl _) f ps e h
   refine ⟨at', h1, fun he => ?_⟩
   obtain ⟨_, cb, rest, c1, c2, c3⟩ := h2 he
   rw [List.nil_append] at c1
   rw [bigS_eq (by omega), c1]
   exact ⟨cb, c2, c3⟩
end Go.M

namespace Go.M
open Go.Md Go.Pl
theorem okFs {f : Th} (hf : Jhq f) (h : Je3 f = 0) : (∀ l ∈ f.kap, okR 5 l ∧ szD 5 l ≤ 2000000) ∧ f.kap.length ≤ 20 := by
 have h2 := (fileE_zero hf h).2
 unfold Je3 at h
 split at h
 ·omega
 split at h
 ·rename_i h1; exact absurd h h1
 rename_i h1
 have h0 : U2 f.kap = 0 := by simpa using h1
 exact ⟨fun l hl => ⟨dE_okR (Jh5 h0 l hl), hf.1 l hl⟩, h2⟩
theorem find_lk (l : List Ta) (t : Int) (hr : Ris l) (hl : l.length ≤ 200) : (∃ k : Int, Jb2 l t = some (k, false) ∧ lk l t = none) ∨ ∃ k, ∃ hk : k < l.length, Jb2 l t = some ((k : Int), true) ∧ lk l t = some l[k] := by
 rcases find_eq l t hr hl with ⟨h1, h2, h3⟩ | ⟨k, hk, h1, h2, _⟩
 ·refine .inl ⟨(Jb2 l t |>.getD (0, false)).1, ?_, h2⟩
  refine h1.trans (congrArg some ?_)
  generalize (Jb2 l t).getD (0, false) = x at h3
  cases x
  exact Prod.ext rfl h3
 ·exact .inr ⟨k, hk, h1, h2⟩
theorem got_loop (path q : List Int) (hlen : path.length ≤ 2000000) (hq : path.length = q.length + 1) : ∀ (rest : List Int) (d : Nat) (l : List Ta) (pre : List Int) (m : Int × List UInt8 × List Int × List Tg × List Ta), okR d l → q = pre ++ rest → rest ≠ [] →
  Vv (fun next2 s => Ur path q next2 s.1 s.2.1 s.2.2.1 s.2.2.2.1 s.2.2.2.2.1 s.2.2.2.2.2.1 s.2.2.2.2.2.2) (l, (pre.length : Int), m) = some (match Jas l rest with | some e => (e.Value, true) | none => (noV, false)) := by
 intro rest
 induction rest with
 | nil => intro d l pre m h hp hne; exact absurd rfl hne
 | cons t ts ih =>
  intro d l pre ⟨m1, m2, m3, m4, m5⟩ h hp _
  have hql : q.length = pre.length + ts.length + 1 := by rw [hp]; simp; omega
  cases d with
  | zero => exact absurd h id
  | succ d =>
   obtain ⟨hl, hr, hv⟩ := h
   have hg : Zb q (pre.length : Int) = some t := by rw [hp]; exact gAt_mid pre t ts
   rcases find_lk l t hr hl with ⟨k, hf, hk⟩ | ⟨k, hk', hf, hk⟩
   ·have e0 : Jas l (t :: ts) = none := by
     cases ts with
     | nil => exact hk
     | cons u ts => simp only [Jas, hk]
    rw [e0]
    refine Qr fun next => ?_
    show Ur path q next l (pre.length : Int) m1 m2 m3 m4 m5 = _
    unfold Ur
    rw [cI, if_pos (by omega), hg, Jb, hf, Jb]; rfl
   ·have st : ∀ next : ((List Ta) × Int × Int × (List UInt8) × (List Int) × (List Tg) × (List Ta)) → Option (Te × Bool), Ur path q next l (pre.length : Int) m1 m2 m3 m4 m5 = if ts ≠ [] ∧ l[k].Value.kai ≠ 13 then some (noV, false) else next (l[k].Value.kag, ((pre.length : Int) + 1), l[k].Value.kai, l[k].Value.kaj, l[k].Value.kak, l[k].Value.kah, l[k].Value.kag) := fun next => by
     unfold Ur
     rw [cI, if_pos (by omega), hg, Jb, hf, Jb]
     show Qe false _ _ = _
     rw [Qa]
     show Js (Zb l (k : Int)) _ = _
     rw [Xa hk', Jb, Ju (by omega), Jb, cI, cI]
     unfold Jhk
     rw [Ju (by omega), Jb]
     cases ts with
     | nil => rw [if_neg (by simp at hql; omega), if_neg (by simp)]
     | cons u ts =>
      rw [if_pos (by rw [List.length_cons] at hql; omega)]
      by_cases h13 : l[k].Value.kai = 13
      ·rw [if_neg (fun hh => hh h13), if_neg (fun hh => hh.2 h13)]
      ·rw [if_pos h13, if_pos ⟨by simp, h13⟩]; rfl
    cases ts with
    | nil =>
     rw [show Jas l [t] = some l[k] from hk]
     refine (Xu (l[k].Value.kag, ((pre.length : Int) + 1), l[k].Value.kai, l[k].Value.kaj, l[k].Value.kak, l[k].Value.kah, l[k].Value.kag) fun next => ?_).trans (Qr fun next => ?_)
     ·show Ur path q next l (pre.length : Int) m1 m2 m3 m4 m5 = _
      rw [st, if_neg (by simp)]
     ·show Ur path q next _ ((pre.length : Int) + 1) _ _ _ _ _ = _
      unfold Ur
      rw [cI, if_neg (by simp at hql; omega)]
      unfold Jjn
      dsimp only
      generalize l[k].Value = w
      cases w; rfl
    | cons u ts =>
     have hm : l[k] ∈ l := List.getElem_mem hk'
     by_cases h13 : l[k].Value.kai = 13
     ·rw [show Jas l (t :: u :: ts) = Jas l[k].Value.kag (u :: ts) by simp only [Jas, hk, if_pos h13]]
      have := ih d l[k].Value.kag (pre ++ [t]) (l[k].Value.kai, l[k].Value.kaj, l[k].Value.kak, l[k].Value.kah, l[k].Value.kag) ((hv _ hm).2 h13) (by rw [hp]; simp) (by simp)
      rw [List.length_append, List.length_singleton] at this
      refine (Xu (l[k].Value.kag, ((pre.length + 1 : Nat) : Int), l[k].Value.kai, l[k].Value.kaj, l[k].Value.kak, l[k].Value.kah, l[k].Value.kag) fun next => ?_).trans this
      show Ur path q next l (pre.length : Int) m1 m2 m3 m4 m5 = _
      rw [st, if_neg (fun hh => hh.2 h13)]; rfl
     ·rw [show Jas l (t :: u :: ts) = none by simp only [Jas, hk, if_neg h13]]
      refine Qr fun next => ?_
      show Ur path q next l (pre.length : Int) m1 m2 m3 m4 m5 = _
      rw [st, if_pos ⟨by simp, h13⟩]
theorem Ji5 {ls : List (List Ta)} {path : List Int} (h : path.length < 2) : gotF ls path = none := by
 cases path with
 | nil => rfl
 | cons i ts =>
  have : ts = [] := List.eq_nil_of_length_eq_zero (by simp at h; omega)
  subst this
  rw [gotF]
  split
  ·split <;> rfl
  ·rfl
theorem gotF_at {ls : List (List Ta)} {k : Nat} (hk : k < ls.length) (ts : List Int) : gotF ls ((k : Int) :: ts) = Jas ls[k] ts := by
 rw [gotF, if_pos (by omega), Int.toNat_natCast, List.getElem?_eq_getElem hk]
theorem Ji4 {ls : List (List Ta)} {i : Int} (h : i < 0 ∨ (ls.length : Int) ≤ i) (ts : List Int) : gotF ls (i :: ts) = none := by
 rw [gotF]
 split
 ·rw [List.getElem?_eq_none (by omega)]
 ·rfl
theorem Got_eq {f : Th} {path : List Int} (hok : ∀ l ∈ f.kap, okR 5 l) (hn : f.kap.length ≤ 20) (hp : path.length ≤ 1048576) : R_Got f path = some (match gotF f.kap path with | some e => (e.Value, true) | none => (noV, false)) := by
 unfold R_Got
 rw [cI]
 by_cases h2 : path.length < 2
 ·rw [if_pos (by omega), Ji5 h2]; rfl
 rw [if_neg (by omega)]
 cases path with
 | nil => simp at h2
 | cons i q =>
  have hq : q ≠ [] := fun hh => by rw [hh] at h2; simp at h2
  have g0 : Zb (i :: q) (0 : Int) = some i := Xa (xs := i :: q) (k := 0) (by simp)
  rw [g0, Jb, cI]
  by_cases h0 : i < 0
  ·rw [if_pos h0, Ji4 (.inl h0)]; rfl
  rw [if_neg h0, Jb, cI]
  by_cases h1 : (f.kap.length : Int) ≤ i
  ·rw [if_pos h1, Ji4 (.inr h1)]; rfl
  rw [if_neg h1, Jb]
  obtain ⟨k, rfl⟩ : ∃ k : Nat, i = k := ⟨i.toNat, by omega⟩
  have hk : k < f.kap.length := by omega
  rw [Xa hk, Jb, Ja0 (by rw [List.length_cons]; omega), Jb, gotF_at hk]
  exact got_loop ((k : Int) :: q) q (by omega) (by simp) q 5 f.kap[k] [] (0, [], [], [], []) (hok _ (List.getElem_mem hk)) rfl hq
theorem dirG : ∀ (inner : List Int) (d : Nat) (l : List Ta), okR d l → ∃ r, U0 l inner = some r ∧ (∀ t, Jas l (inner ++ [t]) = match r with | none => none | some ks => lk (Jcs ks l) t) ∧ (∀ ks, r = some ks → ∃ d', d' ≤ d ∧ okR d' (Jcs ks l) ∧ szD d' (Jcs ks l) ≤ szD d l) := by
 intro inner
 induction inner with
 | nil => intro d l h; exact ⟨some [], rfl, fun t => rfl, fun ks hk => by cases hk; exact ⟨d, Nat.le_refl _, h, Nat.le_refl _⟩⟩
 | cons u ts ih =>
  intro d l h
  cases d with
  | zero => exact absurd h id
  | succ d =>
   obtain ⟨hl, hr, hv⟩ := h
   have more : ∀ t, ∃ w ws, (u :: ts) ++ [t] = u :: w :: ws ∧ w :: ws = ts ++ [t] := fun t => by
    cases ts with
    | nil => exact ⟨t, [], rfl, rfl⟩
    | cons w ws => exact ⟨w, ws ++ [t], rfl, rfl⟩
   rw [U0, place_eq]
   rcases find_lk l u hr hl with ⟨k, hf, hk⟩ | ⟨k, hk', hf, hk⟩
   ·refine ⟨none, by rw [hf]; rfl, fun t => ?_, fun ks h => by cases h⟩
    obtain ⟨w, ws, e1, _⟩ := more t
    rw [e1]; simp only [Jas, hk]
   ·rw [hf, Jb]
    show ∃ r, (Js (Zb l (k : Int)) fun e => Qe (decide (e.Value.kai ≠ 13)) (some none) (Js (U0 e.Value.kag ts) fun r => some (r.map (k :: ·)))) = some r ∧ _
    rw [Xa hk', Jb, cI]
    have hm : l[k] ∈ l := List.getElem_mem hk'
    by_cases h13 : l[k].Value.kai = 13
    ·obtain ⟨r, h1, h2, h3⟩ := ih d l[k].Value.kag ((hv _ hm).2 h13)
     rw [if_neg (fun hh => hh h13), h1, Jb]
     refine ⟨_, rfl, fun t => ?_, fun ks hks => ?_⟩
     ·obtain ⟨w, ws, e1, e2⟩ := more t
      rw [e1]
      simp only [Jas, hk, if_pos h13]
      rw [e2, h2 t]
      cases r with
      | none => rfl
      | some ks => show _ = lk (Jcs (k :: ks) l) t; rw [Jcs, List.getElem?_eq_getElem hk']
     ·cases r with
      | none => cases hks
      | some ks' =>
       cases hks
       obtain ⟨d', a1, a2, a3⟩ := h3 ks' rfl
       rw [Jcs, List.getElem?_eq_getElem hk']
       refine ⟨d', by omega, a2, Nat.le_trans a3 ?_⟩
       have := Jha (d := d) hm
       unfold szE at this; omega
    ·rw [if_pos h13]
     refine ⟨none, rfl, fun t => ?_, fun ks h => by cases h⟩
     obtain ⟨w, ws, e1, _⟩ := more t
     rw [e1]; simp only [Jas, hk, if_neg h13]
theorem Get_eq {f : Th} {path : List Int} (hok : ∀ l ∈ f.kap, okR 5 l ∧ szD 5 l ≤ 2000000) (hn : f.kap.length ≤ 20) (hp : path.length ≤ 1048576) (hc : Jak f = some 0) : Jg8 f path = some (match gotF f.kap path with | some e => (e.Value, 0) | none => (noV, 7)) := by
 unfold Jg8
 rw [hc, Jb, cI, if_neg (fun hh => hh rfl)]
 by_cases h2 : path.length < 2
 ·unfold Jd6
  rw [cI, if_pos (by omega), Jb, Ji5 h2]
 obtain ⟨p0, inner, t, rfl⟩ : ∃ p0 inner t, path = p0 :: (inner ++ [t]) := by
  cases path with
  | nil => simp at h2
  | cons p0 q =>
   have hq : q ≠ [] := fun hh => by rw [hh] at h2; simp at h2
   exact ⟨p0, q.dropLast, q.getLast hq, by rw [List.dropLast_concat_getLast]⟩
 have hlen : (p0 :: (inner ++ [t])).length = inner.length + 2 := by simp
 have g0 : Zb (p0 :: (inner ++ [t])) (0 : Int) = some p0 := Xa (xs := p0 :: (inner ++ [t])) (k := 0) (by simp)
 have gl : Zb (p0 :: (inner ++ [t])) (((p0 :: (inner ++ [t])).length : Int) - 1) = some t := by
  have := gAt_mid (p0 :: inner) t []
  rw [hlen]
  rw [show ((p0 :: inner).length : Int) = ((inner.length + 2 : Nat) : Int) - 1 by simp; omega] at this
  exact this
 have c1 : Qp (p0 :: (inner ++ [t])) 1 (((p0 :: (inner ++ [t])).length : Int) - 1) = some inner := by
  rw [Jc0 (by omega), hlen]
  have e1 : (1 : Int).toNat = 1 := rfl
  have e2 : (((inner.length + 2 : Nat) : Int) - 1).toNat - 1 = inner.length := by omega
  rw [e1, e2]
  simp
 unfold Jd6
 rw [cI, if_neg (by omega), g0, Jb, Ju (by omega), Jb, Jhh, Jb, cI]
 by_cases h0 : p0 < 0 ∨ (f.kap.length : Int) - 1 < p0
 ·rw [if_pos h0, Jb, Ji4 (by omega)]
 rw [if_neg h0]
 obtain ⟨k, rfl⟩ : ∃ k : Nat, p0 = k := ⟨p0.toNat, by omega⟩
 have hk : k < f.kap.length := by omega
 obtain ⟨o1, o2⟩ := hok _ (List.getElem_mem hk)
 obtain ⟨r, r1, r2, r3⟩ := dirG inner 5 f.kap[k] o1
 rw [Ju (by omega), Xa hk, Jb, Jb, c1, Jb, r1, Jb, Jb, gotF_at hk, r2 t]
 cases r with
 | none => rfl
 | some ks =>
  obtain ⟨d, d1, d2, d3⟩ := r3 ks rfl
  simp only [Option.map_some, Int.toNat_natCast]
  have hgF : getF (k :: ks) f.kap = Jcs ks f.kap[k] := by rw [getF, List.getElem?_eq_getElem hk]
  rw [Jb, gl, Jb, hgF, place_eq]
  cases d with
  | zero => exact absurd d2 id
  | succ d =>
   obtain ⟨hl, hr, hv⟩ := d2
   rcases find_lk (Jcs ks f.kap[k]) t hr hl with ⟨j, hf, hj⟩ | ⟨j, hj', hf, hj⟩
   ·rw [hf, Jb]
    show Qe true _ _ = _
    rw [Qq]; simp only [hj]
   ·rw [hf, Jb]
    show Qe false _ _ = _
    rw [Qa]
    show Js (Zb (Jcs ks f.kap[k]) (j : Int)) _ = _
    have hm : (Jcs ks f.kap[k])[j] ∈ Jcs ks f.kap[k] := List.getElem_mem hj'
    have hs := Jha (d := d) hm
    unfold szE at hs
    have hfv : fitV 8 (Jcs ks f.kap[k])[j].Value := fitV8 (d := d) (by omega) (hv _ hm).1 (hv _ hm).2 (by omega) (by omega) (by omega)
    rw [Xa hj', Jb, if_pos hfv]; simp only [hj]
end Go.M

namespace Go.M
open Go.Md Go.Pl
theorem Jjr {s b : List UInt8} {a m : Nat} (h : a + b.length ≤ s.length) (hm : b.length ≤ m) : Vn (X2 s) (a : Int) m (X2 b) = X2 (put s a b) := cpy_put rfl hm
theorem Jix {s : List UInt8} {a : Nat} (h : a ≤ s.length) : Qp (X2 s) (a : Int) (X2 s).length = some ((X2 s).drop a) := by
 rw [Ja0 (by rw [Yn]; omega), Int.toNat_natCast]
theorem Jiy (s : List UInt8) (a : Nat) : ((X2 s).drop a).length = s.length - a := by rw [List.length_drop, Yn]
theorem set_tag {big : Bool} {s : List UInt8} {a : Nat} (n : Int) (h : a + 4 ≤ s.length) : J0 ⟨big, X2 s⟩ (a : Int) n = some ⟨big, X2 (put s a (Yj big n 4))⟩ := set_eq4 rfl h
theorem set_R {big : Bool} {s : List UInt8} {a : Nat} (n : Int) {k : Nat} (hk : k ≤ 8) (h : a + k ≤ s.length) (hs : s.length ≤ 1000000000) : Jk ⟨s, big⟩ (a : Int) n (k : Int) = some ⟨put s a (Yj big n k), big⟩ := Jcr rfl rfl hk h (by omega)
def padS (s : List UInt8) : List UInt8 := if s.length % 2 = 0 then s else s ++ [0]
theorem padS_len (s : List UInt8) : s.length ≤ (padS s).length ∧ (padS s).length ≤ s.length + 1 := by
 unfold padS; split <;> simp
theorem begin_tag {big : Bool} {s : List UInt8} (hs : s.length ≤ 1000000) : Ya ⟨big, X2 s⟩ = some (((padS s).length : Int), ⟨big, X2 (padS s)⟩) := by
 unfold Ya padS
 have hr : gRem ((X2 s).length : Int) 2 = some ((s.length % 2 : Nat) : Int) := by
  unfold gRem
  rw [Yn, if_neg (by omega), Int.tmod_eq_emod_of_nonneg (by omega), show ((s.length : Int) % 2) = ((s.length % 2 : Nat) : Int) by omega]
 rw [hr, Jb, cI]
 by_cases h : s.length % 2 = 0
 ·rw [if_neg (by omega), if_pos h]
  unfold Wa
  rw [Yn]
 ·rw [if_pos (by omega), if_neg h, Yw (by rw [Yn, List.length_singleton]; omega), Jb]
  unfold Wa
  rw [show X2 s ++ [0] = X2 (s ++ [0]) by rw [Jbv]; rfl, Yn]
theorem add_R {big : Bool} {s b : List UInt8} (hs : s.length ≤ 1000000) (hb : b.length ≤ 100000000) : Qo ⟨s, big⟩ b = some (((padS s).length : Int), ⟨padS s ++ b, big⟩) := by
 unfold Qo padS
 have hr : gRem (s.length : Int) 2 = some ((s.length % 2 : Nat) : Int) := by
  unfold gRem
  rw [if_neg (by omega), Int.tmod_eq_emod_of_nonneg (by omega), show ((s.length : Int) % 2) = ((s.length % 2 : Nat) : Int) by omega]
 dsimp only
 rw [hr, Jb, cI]
 by_cases h : s.length % 2 = 0
 ·rw [if_neg (by omega), if_pos h]
  unfold Wn
  rw [Z6 (by omega), Jb]
 ·rw [if_pos (by omega), if_neg h, Z6 (by simp; omega), Jb]
  unfold Wn
  rw [Z6 (by simp; omega), Jb]
theorem put_app {s b c : List UInt8} {a : Nat} (h : a + b.length ≤ s.length) : put s a b ++ c = put (s ++ c) a b := by
 unfold put
 rw [List.take_append_of_le_length (by omega), List.drop_append_of_le_length (by omega)]
 simp
theorem put_put {s z b w : List UInt8} {a : Nat} (h : a + z.length ≤ s.length) (hz : b.length + w.length = z.length) (hw : w = z.drop b.length) : put (put s a z) a b = put s a (b ++ w) := by
 have e : put s a z = s.take a ++ z.take b.length ++ (w ++ s.drop (a + z.length)) := by
  unfold put
  rw [hw, List.append_assoc, List.append_assoc, ← List.append_assoc (z.take b.length), List.take_append_drop]
 rw [e, Jfa _ _ _ _ (by rw [List.length_take]; omega) (by rw [List.length_take]; omega)]
 unfold put
 rw [List.length_append, hz]
 simp
theorem read_both (s : List UInt8) : ∃ f ps e, Jb5 s 0 = some (f, ps, e) ∧ Jeo s = some (f, e) := by
 obtain ⟨f, ps, e, h1, _⟩ := read_ok s (fd := 0) (by omega)
 refine ⟨f, ps, e, h1, ?_⟩
 unfold Jeo
 rcases all_sim s (by omega) h1 [] with ⟨he, _, _, h⟩ | ⟨he, hf, _, h⟩
 ·rw [he]; exact h _ _ _ fun q _ _ => rfl
 ·rw [hf]; exact h _ _ _ fun q => rfl
theorem Jh3 (t : List UInt8) (b b' : Bool) : ∃ o : List UInt8 × Int, Jay b (X2 t) = some o ∧ Y8 t b' = some o ∧ (o.2 ≠ 0 → o.1 = []) := by
 unfold Jay Y8
 rw [cI, cI, Yn, toStr_ofStr]
 by_cases hl : (65000 : Int) < t.length
 ·rw [if_pos hl, if_pos hl]; exact ⟨_, rfl, rfl, fun _ => rfl⟩
 rw [if_neg hl, if_neg hl]
 obtain ⟨f, ps, e, h1, h2⟩ := read_both t
 unfold Ji6
 rw [h1, Jb, Jb, h2, Jb, cI]
 dsimp only
 by_cases he : e = 0
 ·rw [if_neg (by simp [he])]; exact ⟨_, rfl, rfl, fun h => absurd rfl h⟩
 ·rw [if_pos he]; exact ⟨_, rfl, rfl, fun _ => rfl⟩
theorem gotD_ok : ∀ (rest : List Int) (d : Nat) (l : List Ta) (e : Ta), okR d l → szD d l ≤ 2000000 → Jas l rest = some e → okV e.Value ∧ vB e.Value := by
 intro rest
 induction rest with
 | nil => intro d l e _ _ h; cases h
 | cons t ts ih =>
  intro d l e h hz hg
  cases d with
  | zero => exact absurd h id
  | succ d =>
   obtain ⟨hl, hr, hv⟩ := h
   cases ts with
   | nil =>
    obtain ⟨h1, _⟩ := lk_mem (l := l) (t := t) hg
    exact ⟨(hv _ h1).1, (vB_of hz h1).1⟩
   | cons u ts =>
    simp only [Jas] at hg
    cases hk : lk l t with
    | none => rw [hk] at hg; cases hg
    | some x =>
     rw [hk] at hg
     simp only at hg
     split at hg
     ·rename_i h13
      obtain ⟨h1, _⟩ := lk_mem hk
      exact ih d _ e ((hv _ h1).2 h13) (vB_of hz h1).2 hg
     ·cases hg
theorem gotF_ok {ls : List (List Ta)} {path : List Int} {e : Ta} (h : ∀ l ∈ ls, okR 5 l ∧ szD 5 l ≤ 2000000) (hg : gotF ls path = some e) : okV e.Value ∧ vB e.Value := by
 cases path with
 | nil => cases hg
 | cons i ts =>
  rw [gotF] at hg
  split at hg
  ·split at hg
   ·rename_i l hl
    obtain ⟨hk, rfl⟩ := List.getElem?_eq_some_iff.1 hl
    obtain ⟨h1, h2⟩ := h _ (List.getElem_mem hk)
    exact gotD_ok ts 5 _ e h1 h2 hg
   ·cases hg
  ·cases hg
theorem Jiz (s : List UInt8) (path : List Int) (v : Te) (hp : path.length ≤ 1048576) (hv : valueC v) : Jb4 s path v = some true := by
 obtain ⟨hv1, hv2⟩ := hv
 have hvB : vB v := ⟨by omega, by omega, by omega⟩
 suffices h : ∃ o : List UInt8 × Int, Jf5 s path v = some o ∧ Jbu s path v = some o ∧ (o.2 ≠ 0 → o.1 = []) by
  obtain ⟨o, h1, h2, h3⟩ := h
  unfold Jb4
  rw [h1, Jb, h2, Jb, told_str (fun _ => rfl) h3 rfl, Jb]
 obtain ⟨f, ps, e, h1, hsep⟩ := read_ok s (fd := 0) (by omega)
 obtain ⟨at', c1, c2⟩ := read_C path s h1
 have hgo := all_sim s (by omega) h1 []
 unfold Jf5 Jbu
 rw [c1, Jb]
 dsimp only
 rcases hgo with ⟨he, hB, hz, hgo⟩ | ⟨he, hf, _, hgo⟩
 rotate_left
 ·refine ⟨([], e), ?_, hgo _ _ _ fun q => ?_, fun _ => rfl⟩
  ·rw [cI, if_pos he]
  ·dsimp only; rw [cI, if_pos he]
 subst he
 obtain ⟨hbig, k1, k2⟩ := c2 rfl
 obtain ⟨hok, hn⟩ := okFs hB hz
 have hok1 : ∀ l ∈ f.kap, okR 5 l := fun l hl => (hok l hl).1
 have hs : s.length ≤ 65000 := (hsep rfl).1
 have hC : Jak f = some 0 := by rw [Jiv hB, hz]
 rw [cI, if_neg (by simp), Jjx hvB (by omega), Jb, cI]
 have goR : ∀ o : List UInt8 × Int, (∀ q : Tf, q.kaf = plF s (Vt s) [] (trF s (Vt s) 0 (vS s (Vt s) 4 4) f.kap) →
   (Qe (decide (valE v ≠ 0)) (some (([], valE v) : List UInt8 × Int)) (Js (R_Got f path) fun t39 =>
 Qe (!t39.2) (some ([], 7)) (Qe (decide (t39.1.kai = 13)) (some ([], 10)) (Qe (decide (v.kai = 13)) (some ([], 10)) (Js (Q3 path) fun t57 =>
 Js (Zp f.Big v) fun t67 =>
 Js (gI ((((Q2 q.kaf t57).getD (⟨0, 0, 0⟩ : Td)).kal) + 2)) fun t71 =>
 Js (Jk (⟨s, f.Big⟩ : Ti) t71 v.kai 2) fun t74 =>
 Js (gI ((((Q2 q.kaf t57).getD (⟨0, 0, 0⟩ : Td)).kal) + 4)) fun t78 =>
 Js (Qx v) fun t80 =>
 Js (Jk t74 t78 t80 4) fun t81 =>
 Qe (decide ((t67.length : Int) ≤ 4)) (Js (gI (4 - (t67.length : Int))) fun t97 =>
 Js (gRep [0] t97) fun t98 =>
 Js (Zo t67 t98) fun t99 =>
 Js (gI ((((Q2 q.kaf t57).getD (⟨0, 0, 0⟩ : Td)).kal) + 8)) fun t107 =>
 Js (Qp t81.s_ 0 t107) fun t108 =>
 Js (Zo t108 t99) fun t110 =>
 Js (gI ((((Q2 q.kaf t57).getD (⟨0, 0, 0⟩ : Td)).kal) + 12)) fun t117 =>
 Js (Qp t81.s_ t117 t81.s_.length) fun t118 =>
 Js (Zo t110 t118) fun t119 =>
 Y8 t119 t81.kab) (Js (gI ((((Q2 q.kaf t57).getD (⟨0, 0, 0⟩ : Td)).to_) - (((Q2 q.kaf t57).getD (⟨0, 0, 0⟩ : Td)).kan))) fun t127 =>
 Qe (decide ((t67.length : Int) ≤ t127)) (Js (Qp t81.s_ 0 (((Q2 q.kaf t57).getD (⟨0, 0, 0⟩ : Td)).kan)) fun t138 =>
 Js (Zo t138 t67) fun t140 =>
 Js (gI ((((Q2 q.kaf t57).getD (⟨0, 0, 0⟩ : Td)).kan) + (t67.length : Int))) fun t149 =>
 Js (Qp t81.s_ t149 t81.s_.length) fun t150 =>
 Js (Zo t140 t150) fun t151 =>
 Y8 t151 t81.kab) (Js (gI ((((Q2 q.kaf t57).getD (⟨0, 0, 0⟩ : Td)).kal) + 8)) fun t85 =>
 Js (Qo t81 t67) fun t88 =>
 Js (Jk t88.2 t85 t88.1 4) fun t89 =>
 Y8 t89.s_ t89.kab))))))) = some o) → Jbu s path v = some o := by
  intro o ho
  unfold Jbu
  refine hgo _ _ _ fun q _ hq => ?_
  dsimp only
  rw [cI, if_neg (by simp), Jjc hvB (by omega), Jb]
  exact ho q hq
 show ∃ o, _ ∧ Jbu s path v = some o ∧ _
 by_cases hv0 : valE v = 0
 rotate_left
 ·refine ⟨([], valE v), by rw [if_pos hv0], goR _ fun q _ => ?_, fun _ => rfl⟩
  rw [cI, if_pos hv0]
 rw [if_neg (by simp [hv0]), cI]
 obtain ⟨hvo, _⟩ := val_ok hv0
 have hne : ∀ x ∈ trF s (Vt s) 0 (vS s (Vt s) 4 4) f.kap, x.1 ≠ [] := fun x hx => by
  obtain ⟨k, rest, hk, _, a2, _⟩ := (trF_ok s (Vt s) f.kap 0 _ hok1).1 x hx
  rw [a2]; simp
 cases hg : gotF f.kap path with
 | none =>
  have hat : at' = -1 := by
   rw [k1]
   by_cases hpn : path = []
   ·have : ∀ tr : List Trc, (∀ x ∈ tr, x.1 ≠ []) → tr.foldl (Jb8 path) (-1) = -1 := by
     intro tr
     induction tr with
     | nil => intro _; rfl
     | cons y tr ih =>
      intro h
      rw [List.foldl_cons]
      have : Jb8 path (-1) y = -1 := by unfold Jb8; rw [hpn, if_neg (h y (.head _))]
      rw [this]; exact ih fun x hx => h x (.tail _ hx)
    exact this _ hne
   ·rcases both_at s (Vt s) path hpn _ (-1) [] hne with ⟨a1, _⟩ | ⟨x, hx, a1, _⟩
    ·exact a1
    ·obtain ⟨x1, x2, x3⟩ := x
     have a1 : x1 = path := a1
     subst a1
     rw [trF_mem s (Vt s) hok1 _ hx] at hg
     cases hg
  refine ⟨([], 7), by rw [hat]; rfl, goR _ fun q _ => ?_, fun _ => rfl⟩
  rw [cI, if_neg (by simp [hv0]), Got_eq hok1 hn hp, Jb, hg]; rfl
 | some en =>
  have hpn : path ≠ [] := fun h => by rw [h] at hg; cases hg
  obtain ⟨a, e0, hx, hmem⟩ : ∃ a, ∃ e0 : at' = ((a : Nat) : Int), Q2 (plF s (Vt s) [] (trF s (Vt s) 0 (vS s (Vt s) 4 4) f.kap)) (keyS path) = some (plE s (Vt s) a) ∧ (path, a, en) ∈ trF s (Vt s) 0 (vS s (Vt s) 4 4) f.kap := by
   rcases both_at s (Vt s) path hpn (trF s (Vt s) 0 (vS s (Vt s) 4 4) f.kap) (-1) [] hne with ⟨a1, a2⟩ | ⟨x, hx, a1, a2, a3⟩
   ·obtain ⟨a, ha⟩ := gotF_mem s (Vt s) hok1 (vS s (Vt s) 4 4) hg
    exact absurd rfl (a2 _ ha)
   ·obtain ⟨x1, x2, x3⟩ := x
    have a1 : x1 = path := a1
    subst a1
    have := trF_mem s (Vt s) hok1 _ hx
    rw [hg] at this
    cases this
    exact ⟨x2, by rw [k1]; exact a2, a3, hx⟩
  obtain ⟨t1, t2, t3, t4, t5, t6⟩ := k2 _ hmem
  have t1 : ∀ t ∈ path, 0 ≤ t ∧ t ≤ 99999 := t1
  have t2 : path.length ≤ 6 := t2
  have t3 : 10 ≤ a := t3
  have t4 : a + 12 ≤ s.length := t4
  rw [e0, if_neg (by omega), Get_eq hok hn hp hC, Jb, hg]
  dsimp only
  rw [cI, cI]
  have gotR : R_Got f path = some (en.Value, true) := by rw [Got_eq hok1 hn hp, hg]
  by_cases ho13 : en.Value.kai = 13
  ·refine ⟨([], 10), by rw [if_pos ho13], goR _ fun q _ => ?_, fun _ => rfl⟩
   rw [cI, if_neg (by simp [hv0]), gotR, Jb]
   show Qe false _ _ = _
   rw [Qa]
   dsimp only
   rw [cI, if_pos ho13]
  rw [if_neg ho13]
  by_cases h13 : v.kai = 13
  ·refine ⟨([], 10), by rw [if_pos h13], goR _ fun q _ => ?_, fun _ => rfl⟩
   rw [cI, if_neg (by simp [hv0]), gotR, Jb]
   show Qe false _ _ = _
   rw [Qa]
   dsimp only
   rw [cI, if_neg ho13, cI, if_pos h13]
  rw [if_neg h13]
  obtain ⟨u1, u2⟩ := t6 ho13
  have hk5 : en.Value.kai = (vS s (Vt s) (a + 2) 2 : Int) := t5
  have u1 : Jbn en.Value = vS s (Vt s) (a + 4) 4 := u1
  have u2 : 4 < vS s (Vt s) (a + 4) 4 * J3 en.Value.kai → 8 ≤ vS s (Vt s) (a + 8) 4 ∧ vS s (Vt s) (a + 8) 4 + vS s (Vt s) (a + 4) 4 * J3 en.Value.kai ≤ s.length := u2
  have hl2 := Ye f.Big v.kai (k := 2) (by omega)
  have hl4 := Ye f.Big (Jbn v : Int) (k := 4) (by omega)
  have hol := Jir f.Big v
  have hp1 : (put s (a + 2) (Yj f.Big v.kai 2)).length = s.length := Jf1 (by omega)
  have hp2 : (put (put s (a + 2) (Yj f.Big v.kai 2)) (a + 4) (Yj f.Big (Jbn v : Int) 4)).length = s.length := by rw [Jf1 (by omega), hp1]
  have x2 : (a : Int) + 2 = ((a + 2 : Nat) : Int) := by omega
  have x4 : (a : Int) + 4 = ((a + 4 : Nat) : Int) := by omega
  have x8 : (a : Int) + 8 = ((a + 8 : Nat) : Int) := by omega
  rw [gByt_ok (by omega), Jb, octets_eq hvB hvo h13, Jb, Ju (by omega), Jb, x2, Jix (by omega), Jb, tag2, Jb, Ju (by omega), Jb, count_eq hvB, Jb, Jjr (by omega) (by rw [Jiy]; omega), x4, set_tag _ (by omega), Jb, cI, Yn]
  have goR2 : ∀ o : List UInt8 × Int, (
   (Qe (decide (((Vz f.Big v).length : Int) ≤ 4)) (Js (gI (4 - ((Vz f.Big v).length : Int))) fun t97 =>
 Js (gRep [0] t97) fun t98 =>
 Js (Zo (Vz f.Big v) t98) fun t99 =>
 Js (gI ((plE s (Vt s) a).kal + 8)) fun t107 =>
 Js (Qp (put (put s (a + 2) (Yj f.Big v.kai 2)) (a + 4) (Yj f.Big (Jbn v : Int) 4)) 0 t107) fun t108 =>
 Js (Zo t108 t99) fun t110 =>
 Js (gI ((plE s (Vt s) a).kal + 12)) fun t117 =>
 Js (Qp (put (put s (a + 2) (Yj f.Big v.kai 2)) (a + 4) (Yj f.Big (Jbn v : Int) 4)) t117 (put (put s (a + 2) (Yj f.Big v.kai 2)) (a + 4) (Yj f.Big (Jbn v : Int) 4)).length) fun t118 =>
 Js (Zo t110 t118) fun t119 =>
 Y8 t119 f.Big) (Js (gI ((plE s (Vt s) a).to_ - (plE s (Vt s) a).kan)) fun t127 =>
 Qe (decide (((Vz f.Big v).length : Int) ≤ t127)) (Js (Qp (put (put s (a + 2) (Yj f.Big v.kai 2)) (a + 4) (Yj f.Big (Jbn v : Int) 4)) 0 (plE s (Vt s) a).kan) fun t138 =>
 Js (Zo t138 (Vz f.Big v)) fun t140 =>
 Js (gI ((plE s (Vt s) a).kan + ((Vz f.Big v).length : Int))) fun t149 =>
 Js (Qp (put (put s (a + 2) (Yj f.Big v.kai 2)) (a + 4) (Yj f.Big (Jbn v : Int) 4)) t149 (put (put s (a + 2) (Yj f.Big v.kai 2)) (a + 4) (Yj f.Big (Jbn v : Int) 4)).length) fun t150 =>
 Js (Zo t140 t150) fun t151 =>
 Y8 t151 f.Big) (Js (gI ((plE s (Vt s) a).kal + 8)) fun t85 =>
 Js (Qo ⟨put (put s (a + 2) (Yj f.Big v.kai 2)) (a + 4) (Yj f.Big (Jbn v : Int) 4), f.Big⟩ (Vz f.Big v)) fun t88 =>
 Js (Jk t88.2 t85 t88.1 4) fun t89 =>
 Y8 t89.s_ t89.kab))) = some o) → Jbu s path v = some o := by
   intro o ho
   refine goR o fun q hq => ?_
   rw [cI, if_neg (by simp [hv0]), gotR, Jb]
   show Qe false _ _ = _
   rw [Qa]
   dsimp only
   rw [cI, if_neg ho13, cI, if_neg h13, key_eq t1 (by omega), Jb, Jfj hvB hvo h13, Jb, hq, hx]
   simp only [Option.getD_some]
   have hen : (plE s (Vt s) a).kal = (a : Int) := by unfold plE; split <;> rfl
   rw [hen] at ho ⊢
   rw [Ju (by omega), Jb, x2, show (2 : Int) = ((2 : Nat) : Int) from rfl, set_R _ (by omega) (by omega) (by omega), Jb, Ju (by omega), Jb, x4, Jiw hvB hvo, Jb, show (4 : Int) = ((4 : Nat) : Int) from rfl, set_R _ (by omega) (by omega) (by omega), Jb]
   exact ho
  generalize hT : put (put s (a + 2) (Yj f.Big v.kai 2)) (a + 4) (Yj f.Big (Jbn v : Int) 4) = T at goR2 hp2 ⊢
  have hen : (plE s (Vt s) a).kal = (a : Int) := by unfold plE; split <;> rfl
  rw [hen] at goR2
  by_cases hs4 : (Vz f.Big v).length ≤ 4
  ·rw [if_pos (by omega), Ju (by omega), Jb, x8, set_tag _ (by omega), Jb]
   dsimp only
   have hz4 := Ye f.Big 0 (k := 4) (by omega)
   have hp3 : (put T (a + 8) (Yj f.Big 0 4)).length = s.length := by rw [Jf1 (by omega), hp2]
   rw [Jb, Jix (by omega), Jb, Jjr (by omega) (by rw [Jiy]; omega)]
   rw [put_put (w := List.replicate (4 - (Vz f.Big v).length) 0) (by omega) (by simp; omega) (by rw [num_zero f.Big (by omega), List.drop_replicate])]
   obtain ⟨o, o1, o2, o3⟩ := Jh3 (put T (a + 8) (Vz f.Big v ++ List.replicate (4 - (Vz f.Big v).length) 0)) f.Big f.Big
   refine ⟨o, o1, goR2 o ?_, o3⟩
   have hrep : gRep [0] (4 - ((Vz f.Big v).length : Int)) = some (List.replicate (4 - (Vz f.Big v).length) 0) := by
    unfold gRep
    rw [if_pos (by simp; omega), show (4 - ((Vz f.Big v).length : Int)).toNat = 4 - (Vz f.Big v).length by omega]
    congr 1
    generalize 4 - (Vz f.Big v).length = n
    induction n with
    | zero => rfl
    | succ n ih => rw [List.replicate_succ, List.flatten_cons, ih]; rfl
   rw [cI, if_pos (by omega), Ju (by omega), Jb, hrep, Jb, Z6 (by simp; omega), Jb, Ju (by omega), Jb, x8, Jb6 (by omega), Jb, Z6 (by simp; omega), Jb, Ju (by omega), Jb, Ja0 (by omega), Jb, Z6 (by simp; omega), Jb, ← o2]
   congr 1
   unfold put
   rw [Int.toNat_natCast, show ((a : Int) + 12).toNat = a + 8 + (Vz f.Big v ++ List.replicate (4 - (Vz f.Big v).length) 0).length by simp; omega]
  ·obtain ⟨ev1, ev2⟩ := gotF_ok hok hg
   rw [if_neg (by omega), Jig ev2 ev1 ho13 f.Big, Jhd f.Big ev1 ho13, Jb, cI]
   have hpe : 4 < vS s (Vt s) (a + 4) 4 * J3 en.Value.kai → plE s (Vt s) a = ⟨(a : Int), (vS s (Vt s) (a + 8) 4 : Int), (vS s (Vt s) (a + 8) 4 : Int) + ((vS s (Vt s) (a + 4) 4 * J3 en.Value.kai : Nat) : Int)⟩ := fun h => by
    unfold plE
    rw [← hk5, if_pos h]
   have hpe' : ¬ 4 < vS s (Vt s) (a + 4) 4 * J3 en.Value.kai → plE s (Vt s) a = ⟨(a : Int), 0, 0⟩ := fun h => by
    unfold plE
    rw [← hk5, if_neg h]
   have deflt : ∃ o, Ja2 s (f, ps, 0, (a : Int)) (X2 (Vz f.Big v)) ⟨f.Big, X2 T⟩ false = some o ∧ (Js (gI ((a : Int) + 8)) fun t85 =>
 Js (Qo ⟨T, f.Big⟩ (Vz f.Big v)) fun t88 =>
 Js (Jk t88.2 t85 t88.1 4) fun t89 =>
 Y8 t89.s_ t89.kab) = some o ∧ (o.2 ≠ 0 → o.1 = []) := by
    have hq := padS_len T
    obtain ⟨o, o1, o2, o3⟩ := Jh3 (put (padS T) (a + 8) (Yj f.Big ((padS T).length : Int) 4) ++ Vz f.Big v) f.Big f.Big
    have hn4 := Ye f.Big ((padS T).length : Int) (k := 4) (by omega)
    refine ⟨o, ?_, ?_, o3⟩
    ·unfold Ja2
     rw [Qa]
     dsimp only
     rw [Ju (by omega), Jb, begin_tag (by omega), Jb, x8]
     dsimp only
     rw [set_tag _ (by omega), Jb]
     dsimp only
     rw [Yw (by rw [Yn, Yn, Jf1 (by omega)]; omega), Jb, ← Jbv]
     exact o1
    ·rw [Ju (by omega), Jb, add_R (by omega) (by omega), Jb, x8]
     dsimp only
     rw [show (4 : Int) = ((4 : Nat) : Int) from rfl, set_R _ (by omega) (by rw [List.length_append]; omega) (by rw [List.length_append]; omega), Jb]
     dsimp only
     rw [← put_app (by omega)]
     exact o2
   rw [← u1] at u2 hpe hpe'
   by_cases hfar : 4 < Jbn en.Value * J3 en.Value.kai
   ·obtain ⟨w1, w2⟩ := u2 hfar
    rw [if_pos (by omega), Jb]
    have hpe := hpe hfar
    by_cases hroom : (Vz f.Big v).length ≤ Jbn en.Value * J3 en.Value.kai
    ·rw [decide_eq_true (show ((Vz f.Big v).length : Int) ≤ ((Jbn en.Value * J3 en.Value.kai : Nat) : Int) by omega)]
     obtain ⟨o, o1, o2, o3⟩ := Jh3 (put T (vS s (Vt s) (a + 8) 4) (Vz f.Big v)) f.Big f.Big
     refine ⟨o, ?_, goR2 o ?_, o3⟩
     ·unfold Ja2
      rw [Qq]
      dsimp only
      rw [Ju (by omega), Jb, x8, show (4 : Int) = ((4 : Nat) : Int) from rfl, numAt_eq _ _ (by omega) (by omega) hs, Jb]
      rw [show Jao f.Big ((s.drop (a + 8)).take 4) = vS s (Vt s) (a + 8) 4 by rw [hbig]; rfl, Jix (by omega), Jb, Jjr (by omega) (by rw [Jiy]; omega)]
      exact o1
     ·rw [cI, if_neg (by omega), hpe]
      dsimp only
      rw [Ju (by omega), Jb, cI, if_pos (by omega), Jb6 (by omega), Jb, Z6 (by simp; omega), Jb, Ju (by omega), Jb, Ja0 (by omega), Jb, Z6 (by simp; omega), Jb, ← o2]
      rfl
    ·rw [decide_eq_false (show ¬ ((Vz f.Big v).length : Int) ≤ ((Jbn en.Value * J3 en.Value.kai : Nat) : Int) by omega)]
     obtain ⟨o, o1, o2, o3⟩ := deflt
     refine ⟨o, o1, goR2 o ?_, o3⟩
     rw [cI, if_neg (by omega), hpe]
     dsimp only
     rw [Ju (by omega), Jb, cI, if_neg (by omega)]
     exact o2
   ·rw [if_neg (by omega)]
    obtain ⟨o, o1, o2, o3⟩ := deflt
    refine ⟨o, o1, goR2 o ?_, o3⟩
    rw [cI, if_neg (by omega), hpe' hfar]
    dsimp only
    rw [Ju (by omega), Jb, cI, if_neg (by omega)]
    exact o2
theorem tagPatchesS (s : List UInt8) (path : List Int) (v : Te) {P : Prop} (_ : P) (hp : path.length ≤ 1048576) (hv : valueC v) : Jb4 s path v = some true := Jiz s path v hp hv
end Go.M

namespace Go.Lx
open Go Go.Vc Go.Md
theorem tab_vars {P : Program} {W : World} {name : String} {k : IntKind} {zs : List Int} {g : Nat} {t e : TypeId} {n : Nat}
  (hg : P.globalNamed name = some g) (hty : (P.globals[g]?).map (·.type) = some t) (ht : P.underlying t = some (.array n e)) (he : P.underlying e = some (.int k)) (hce : P.cellsOf e = 1) (hct : P.cellsOf t = n) :
  ∀ (l : List (String × DataW Unit)) (ps : List MemPlace) (i : Nat), DataW.LaidVars P W l ps → l[i]? = some (name, Lib.tabData k zs) → Lib.TabIs P W name k zs
 | [], _, i, _, h => by simp at h
 | (n', d) :: r, ps, 0, hv, h => by
  simp only [List.getElem?_cons_zero, Option.some.injEq, Prod.mk.injEq] at h
  obtain ⟨rfl, rfl⟩ := h
  obtain ⟨g', t', cs, fuel, p, q, hg', ht', hvar, hd, _, _⟩ := hv
  obtain rfl := Option.some.inj (hg.symm.trans hg')
  obtain rfl := Option.some.inj (hty.symm.trans ht')
  unfold Lib.TabIs
  rw [hvar, ← Lib.cells_of_tab ht he hce hct hd]
 | _ :: r, ps, i + 1, hv, h => by
  obtain ⟨_, _, _, _, _, q, _, _, _, _, h2, _⟩ := hv
  exact tab_vars hg hty ht he hce hct r q i h2 (by simpa using h)
theorem tab_at {P : Program} {W : World} {name : String} {k : IntKind} {zs : List Int} {g : Nat} {t e : TypeId} {n : Nat} {l : List (String × DataW Unit)} (i : Nat)
  (hg : P.globalNamed name = some g) (hty : (P.globals[g]?).map (·.type) = some t) (ht : P.underlying t = some (.array n e)) (he : P.underlying e = some (.int k)) (hce : P.cellsOf e = 1) (hct : P.cellsOf t = n)
  (hL : laidMetH P l W) (hp : (l.all fun x => x.2.handleName?.isNone) = true) (hi : l[i]? = some (name, Lib.tabData k zs)) : TabH P (fun b => W.heap[b]?) name k zs := by
 rw [MakeChecks.laidMetH_plain _ _ _ hp] at hL
 obtain ⟨ps, hv, _⟩ := hL
 exact tabH_of (tab_vars hg hty ht he hce hct l ps i hv hi)
end Go.Lx

namespace Go.Vc
open Go
variable {H : Type} {enc : TypeId × Value → H} {P : Program} {w : World} {base : Nat} {spare : Nat → Bool} {held : Bool}
theorem U5 {w : World} {base k : Nat} {a : Addr} {cs : List Value} (h : w.cells? base a k = some cs) : cs.length = k ∧ ∀ i, i < k → w.cell? (a.add i) = cs[i]? :=
 (World.cells?_some h).2
theorem cell_spot {w : World} {a : Addr} {v : Value} (h : w.cell? a = some v) : a.spot = none := by
 unfold World.cell? at h
 split at h
 ·split at h
  ·cases h
  ·rename_i hs; simpa using hs
 ·cases h
theorem Jgs {t fuel : Nat} {k : IntKind} {cs : List Value} {x : DataW H × List MemPlace} (ht : P.underlying t = some (.int k)) (h : DataW.trod enc P w base spare held fuel t cs = some x) : ∃ n : Int, cs = [.int k n] ∧ (Lit.int k n).wf = true := by
 obtain ⟨n, h1, _, h2⟩ := DataW.trod_int ht h
 exact ⟨n, h1, h2⟩
theorem op_bool {t fuel : Nat} {cs : List Value} {x : DataW H × List MemPlace} (ht : P.underlying t = some .bool) (h : DataW.trod enc P w base spare held fuel t cs = some x) : ∃ b : Bool, cs = [.bool b] := by
 obtain ⟨n, h1, _⟩ := DataW.trod_bool ht h
 exact ⟨n, h1⟩
end Go.Vc
