/- TagPatchKeeps, in plain Lean: the whole file read again. Conditions: sizes. -/
import Derived.Test.YthljoadplekgnaaKKc
import Derived.Test.YthljoadplekgnaaMd
import Derived.ProofKit
import Derived.OpenShut
import Derived.ChangeArms
import Derived.DataReads
import Derived.JoinedCond
import Derived.LaidLaws
import Derived.SizedLaws
import Derived.Test.YthljoadplekgnaaLx3
namespace Go.M
open Go.Md Go.Pl
section
variable {S T : List UInt8} {big : Bool} {a p0 n0 : Nat} {v : Td} {en : Ta}
theorem dir_T {d : Nat} {self : V0} (H : Jfg d self) (M : Mod S T big a p0 n0 v) (G : SimT S T big a p0 n0 v en d self) {r rt : Tb} (R : Rel S T big r rt) {pl : Nat} {path : List Int} (hpl : path.length + d + 1 = 6) (hb : pl ≤ 4294967295) (hp : r.kaa.length + cap (d + 1) ≤ 7999999999990) (hpt : rt.kaa.length + cap (d + 1) ≤ 7999999999990) (hf : r.kac ≤ 0)
  {l : List Ta} {nx : Int} {r' : Tb} {new : List Tc} (hd : dirR self r pl path = some (l, nx, r')) (hno : r'.no_ = 0) (hnew : r'.kaa = r.kaa ++ new) (hpw : new.Pairwise apartP) (hok : okR (d + 1) l) :
  ((∀ x ∈ new, Jbq a p0 n0 x) → ∃ rt', dirR self rt pl path = some (l, nx, rt') ∧ Rel S T big r' rt') ∧
  ∀ rest, (path ++ rest, a, en) ∈ trD S big (d + 1) path pl l → ∃ rt', dirR self rt pl path = some (Vq l rest v, nx, rt') ∧ Rel S T big r' rt' ∧ Cov a p0 n0 new := by
 have hlen := M.len
 have hrs : r.s_.length = S.length := by rw [R.s]
 have hrts : rt.s_.length = T.length := by rw [R.s']
 unfold dirR at hd
 split at hd
 ·cases hd; exact absurd hno (Xz _ (by decide))
 rename_i h8
 split at hd
 ·cases hd; exact absurd hno (Xz _ (by decide))
 rename_i hsn
 split at hd
 ·cases hd; exact absurd hno (Xz _ (by decide))
 rename_i hlim
 split at hd
 ·cases hd; exact absurd hno (Xz _ (by decide))
 rename_i hin
 rw [if_neg (fun hh => hh R.no)] at hd
 split at hd
 ·rw [Wv _ _ _ _ _ _ _ _ (.inr (Xz _ (by decide)))] at hd
  cases hd
  exact absurd hno (Xz _ (by decide))
 rename_i hform
 generalize hcnt : Jn r pl 2 = cnt at hd hlim hin hform
 generalize hnxt : Jn r (pl + 2 + 12 * cnt) 4 = nxt at hd hform
 have R1 : Rel S T big ⟨r.s_, r.kab, r.kaa ++ [⟨(pl : Int), ((pl + (2 + 12 * cnt + 4) : Nat) : Int)⟩], W0 r.kae (pl : Int) true, r.kad, r.kac, r.no_⟩ ⟨rt.s_, rt.kab, rt.kaa ++ [⟨(pl : Int), ((pl + (2 + 12 * cnt + 4) : Nat) : Int)⟩], W0 rt.kae (pl : Int) true, rt.kad, rt.kac, rt.no_⟩ :=
  ⟨R.s, R.s', R.bg, R.bg', by show W0 rt.kae _ _ = W0 r.kae _ _; rw [R.seen], R.dirs, R.found, R.no, R.no'⟩
 obtain ⟨rest, newL, b1, b2, b3, b4⟩ := loop_T H M G hpl (pl := pl) (nxt := nxt) (cnt := cnt) (by omega) (by omega) r.kaa.length rt.kaa.length hp hpt cnt 0 _ _ [] [] (by omega) rfl rfl R1 hf (by show (r.kaa ++ [_]).length ≤ _; simp) (by show (rt.kaa ++ [_]).length ≤ _; simp) l nx r' hd hno hok
 rw [List.nil_append] at b1
 subst b1
 have hnl : new = ⟨(pl : Int), ((pl + (2 + 12 * cnt + 4) : Nat) : Int)⟩ :: newL := by
  have b2 : r'.kaa = (r.kaa ++ [⟨(pl : Int), ((pl + (2 + 12 * cnt + 4) : Nat) : Int)⟩]) ++ newL := b2
  rw [hnew, List.append_assoc] at b2
  exact List.append_cancel_left b2
 subst hnl
 obtain ⟨pw1, pw2⟩ := List.pairwise_cons.1 hpw
 have head : Jn rt pl 2 = cnt → Jn rt (pl + 2 + 12 * cnt) 4 = nxt → dirR self rt pl path = Wc self path pl nxt cnt 0 ⟨rt.s_, rt.kab, rt.kaa ++ [⟨(pl : Int), ((pl + (2 + 12 * cnt + 4) : Nat) : Int)⟩], W0 rt.kae (pl : Int) true, rt.kad, rt.kac, rt.no_⟩ [] := by
  intro h1 h2
  unfold dirR
  rw [h1, h2, if_neg (show ¬ ¬ (8 ≤ pl ∧ pl + 2 ≤ rt.s_.length) by omega), R.seen, if_neg hsn, R.dirs, if_neg hlim, if_neg (show ¬ ¬ (pl + (2 + 12 * cnt + 4) ≤ rt.s_.length) by omega), if_neg (fun hh => hh R.no'), if_neg hform]
 obtain ⟨c1, c2⟩ := b4 pw2 pw1
 refine ⟨fun hon => ?_, fun q hq => ?_⟩
 ·have hD := hon _ (List.mem_cons_self)
  obtain ⟨rt', k1, k2⟩ := c1 (fun x hx => hon x (List.mem_cons_of_mem _ hx)) fun j _ hj => Jf2 hD (by simp only; omega) (by simp only; omega)
  refine ⟨rt', ?_, k2⟩
  rw [head (by rw [M.valO R hD (by simp only; omega) (by simp only; omega) (by omega)]; exact hcnt) (by rw [M.valO R hD (by simp only; omega) (by simp only; omega) (by omega)]; exact hnxt)]
  exact k1
 ·have hq' : (path ++ q, a, en) ∈ trL (trD S big d) S big path pl 0 l := hq
  obtain ⟨rt', k1, k2⟩ := c2 q hq'
  rcases b3 pw2 q hq' with ⟨j, j1, j2, j3, j4⟩ | hc
  ·have hV : 4 < n0 → apartP ⟨(pl : Int), ((pl + (2 + 12 * cnt + 4) : Nat) : Int)⟩ ⟨(p0 : Int), ((p0 + n0 : Nat) : Int)⟩ := fun h4 => pw1 _ (j4 h4)
   refine ⟨rt', ?_, k2, ⟨⟨_, List.mem_cons_self, by simp only; omega, by simp only; omega⟩, fun h4 => List.mem_cons_of_mem _ (j4 h4)⟩⟩
   rw [head (by
    rw [M.win R (by omega) (fun h4 => by rcases hV h4 with h | h <;> simp only at h <;> omega) (by omega)]; exact hcnt) (by
    rw [M.win R (by omega) (fun h4 => by rcases hV h4 with h | h <;> simp only at h <;> omega) (by omega)]; exact hnxt)]
   exact k1
  ·have hD : Jbq a p0 n0 ⟨(pl : Int), ((pl + (2 + 12 * cnt + 4) : Nat) : Int)⟩ := hc.off pw1
   refine ⟨rt', ?_, k2, hc.mono fun x hx => List.mem_cons_of_mem _ hx⟩
   rw [head (by rw [M.valO R hD (by simp only; omega) (by simp only; omega) (by omega)]; exact hcnt) (by rw [M.valO R hD (by simp only; omega) (by simp only; omega) (by omega)]; exact hnxt)]
   exact k1
theorem it_T (M : Mod S T big a p0 n0 v) : ∀ d n : Nat, d < n → SimT S T big a p0 n0 v en d (it dirF n) := by
 intro d
 have hlen := M.len
 have h65 := M.t65
 induction d with
 | zero => intro n hn r rt pl path h6 hb hp hpt hf R l nx r' new hd hno hnew hpw hok; exact absurd hok id
 | succ d ih =>
  intro n hn r rt pl path h6 hb hp hpt hf R l nx r' new hd hno hnew hpw hok
  obtain ⟨n, rfl⟩ : ∃ k, n = k + 1 := ⟨n - 1, by omega⟩
  have hd : J1 (it dirF n) r (pl : Int) path = some (l, nx, r') := hd
  have hrs : r.s_.length = S.length := by rw [R.s]
  have hrts : rt.s_.length = T.length := by rw [R.s']
  rw [Jcc _ r hb (by omega) (by omega)] at hd
  show (_ → ∃ rt', J1 (it dirF n) rt (pl : Int) path = _ ∧ _) ∧ ∀ rest, _ → ∃ rt', J1 (it dirF n) rt (pl : Int) path = _ ∧ _
  rw [Jcc _ rt hb (by omega) (by omega)]
  exact dir_T (it_ok d n (by omega)) M (ih n (by omega)) R (by omega) hb hp hpt hf hd hno hnew hpw hok
def Jdk : Nat → List (List Ta) → List Int → Td → List (List Ta)
 | _, [], _, _ => []
 | i, l :: ls, q, v => (if q.head? = some (i : Int) then Vq l q.tail v else l) :: Jdk (i + 1) ls q v
theorem Jhx : ∀ (ls : List (List Ta)) (i : Nat) (k : Nat) (q : List Int) (v : Td), k < i → Jdk i ls ((k : Int) :: q) v = ls
 | [], _, _, _, _, _ => rfl
 | l :: ls, i, k, q, v, h => by
  rw [Jdk, if_neg (by intro e; have := Option.some.inj e; omega), Jhx ls (i + 1) k q v (by omega)]
theorem putR_len : ∀ (ls : List (List Ta)) (i : Nat) (q : List Int) (v : Td), (Jdk i ls q v).length = ls.length
 | [], _, _, _ => rfl
 | l :: ls, i, q, v => by rw [Jdk, List.length_cons, List.length_cons, putR_len ls]
open Classical in
theorem end_apart {t : Int} {nx : Nat} {r : Tb} {ls : List (List Ta)} {f : Tg} {ps : List Tc} (h0 : nx = 0 ∨ r.no_ ≠ 0) (hpl : r.kaa.length ≤ 8000000000000) (hok : ∀ x ∈ r.kaa, okS r.s_.length x) (h : Jbc t nx r ls = some (f, ps, 0)) : f.kal = ls ∧ r.no_ = 0 ∧ nx = 0 ∧ r.kaa.Pairwise apartP := by
 rw [Jeb _ _ _ _ h0] at h
 obtain ⟨hd, hno, _⟩ := Jhr h rfl
 refine ⟨hd, hno, h0.resolve_right fun hh => hh hno, ?_⟩
 unfold Yx at h
 have hperm := List.mergeSort_perm r.kaa (leC J8)
 rw [show Jcy r.kaa J8 = some (r.kaa.mergeSort (leC J8)) from if_pos ⟨by omega, spans_ok⟩, Jb, cI, if_pos hno, Jfp _ (by rw [hperm.length_eq]; omega), Jb, cI] at h
 have hsort : (r.kaa.mergeSort (leC J8)).Pairwise fun x y => x.From ≤ y.From := (List.pairwise_mergeSort (le := leC J8) spans_ok.letrans spans_ok.total r.kaa).imp fun {x y} hxy => by
  unfold leC at hxy
  have := (Jda x y).1 (of_decide_eq_true hxy)
  omega
 split at h
 ·unfold Yt Y4 at h
  rw [cI, if_neg (by decide), cI, if_pos (by decide)] at h
  cases h
 ·rename_i hlap
  have := lap_pair hsort (fun x hx => (hok x (hperm.mem_iff.1 hx)).2.1) hlap
  exact (hperm.pairwise_iff (R := apartP) (fun h => h.symm)).1 this
def FinT (t : Int) (nx : Nat) (rt : Tb) (lt L : List (List Ta)) : Prop := ∃ rtf : Tb, Jbc t nx rt lt = Yx t rtf.s_ rtf.kab rtf.kad rtf.kac rtf.no_ rtf.kaa L rtf.kae
theorem rd_T (M : Mod S T big a p0 n0 v) (t : Int) : ∀ (m D nx : Nat) (r : Tb) (ls : List (List Ta)), D + m = 21 → nx ≤ 4294967295 → r.s_ = S → r.kab = big → r.kad = D → ls.length = D → (D ≤ 20 ∨ r.no_ ≠ 0) → r.kaa.length ≤ D * 323216080401 → r.kac ≤ 0 → (∀ x ∈ r.kaa, okS S.length x) →
  ∀ f ps, Jbc t nx r ls = some (f, ps, 0) → (∀ l ∈ f.kal, okR 5 l) → ∃ rest new, f.kal = ls ++ rest ∧ (r.kaa ++ new).Pairwise apartP ∧ (∀ q, (q, a, en) ∈ trF S big ls.length nx rest → Cov a p0 n0 new) ∧
   ∀ (rt : Tb) (lt : List (List Ta)), lt.length = D → rt.kaa.length ≤ D * 323216080401 → Rel S T big r rt →
    ((∀ x ∈ new, Jbq a p0 n0 x) → FinT t nx rt lt (lt ++ rest)) ∧ ∀ q, (q, a, en) ∈ trF S big ls.length nx rest → FinT t nx rt lt (lt ++ Jdk ls.length rest q v) := by
 have hcap : cap 5 = 323216080401 := by rfl
 have hlen := M.len
 have h65 := M.t65
 have stop : ∀ (D nx : Nat) (r : Tb) (ls : List (List Ta)) f ps, D ≤ 21 → (nx = 0 ∨ r.no_ ≠ 0) → r.s_ = S → r.kaa.length ≤ D * 323216080401 → (∀ x ∈ r.kaa, okS S.length x) → Jbc t nx r ls = some (f, ps, 0) → ∃ rest new, f.kal = ls ++ rest ∧ (r.kaa ++ new).Pairwise apartP ∧ (∀ q, (q, a, en) ∈ trF S big ls.length nx rest → Cov a p0 n0 new) ∧
   ∀ (rt : Tb) (lt : List (List Ta)), lt.length = D → rt.kaa.length ≤ D * 323216080401 → Rel S T big r rt →
    ((∀ x ∈ new, Jbq a p0 n0 x) → FinT t nx rt lt (lt ++ rest)) ∧ ∀ q, (q, a, en) ∈ trF S big ls.length nx rest → FinT t nx rt lt (lt ++ Jdk ls.length rest q v) := by
  intro D nx r ls f ps hD h0 hrs hpl hok h
  obtain ⟨e1, e2, e3, e4⟩ := end_apart h0 (by omega) (by rw [hrs]; exact hok) h
  refine ⟨[], [], by rw [e1, List.append_nil], by rw [List.append_nil]; exact e4, fun q hq => by simp [trF] at hq, fun rt lt hl hpt R => ⟨fun _ => ⟨rt, ?_⟩, fun q hq => by simp [trF] at hq⟩⟩
  rw [Jeb _ _ _ _ (.inl e3), List.append_nil]
 intro m
 induction m with
 | zero =>
  intro D nx r ls hD hnx hrs hrb hd hl h20 hp hf hok f ps h hokD
  exact stop D nx r ls f ps (by omega) (.inr (h20.resolve_left (by omega))) hrs hp hok h
 | succ m ih =>
  intro D nx r ls hD hnx hrs hrb hd hl h20 hp hf hok f ps h hokD
  by_cases hend : nx = 0 ∨ r.no_ ≠ 0
  ·exact stop D nx r ls f ps (by omega) hend hrs hp hok h
  have h0 : nx ≠ 0 := fun h => hend (.inl h)
  have hno : r.no_ = 0 := Classical.byContradiction fun h => hend (.inr h)
  have hs : r.s_.length ≤ 65000 := by rw [hrs]; omega
  obtain ⟨l, nx', r', h1, h2, h3, h4⟩ := dir_ok ⟨r.s_, r.kab, r.kaa, r.kae, r.kad + 1, r.kac, r.no_⟩ nx [(ls.length : Int)] rfl hnx hs (by show r.kaa.length + cap 5 ≤ _; rw [hcap]; omega) hf
  rw [Jf8 t nx r ls h0 hno (by omega) (by omega) h1] at h
  have hpa := h3.parts
  rw [hcap] at hpa
  have hpa' : r'.kaa.length ≤ r.kaa.length + 323216080401 := hpa
  obtain ⟨k1, k2, k3, k4, new1, k5, k6, k7, k8⟩ := h3
  have k1' : r'.s_ = r.s_ := k1
  have k2' : r'.kab = r.kab := k2
  have k5' : r'.kaa = r.kaa ++ new1 := k5
  have hok' : ∀ x ∈ r'.kaa, okS S.length x := by
   intro x hx
   rw [k5'] at hx
   rcases List.mem_append.1 hx with hx | hx
   ·exact hok x hx
   ·rw [← hrs]; exact k6 x hx
  obtain ⟨rest, new2, b1, b2, b3, b4⟩ := ih (D + 1) nx' r' (ls ++ [l]) (by omega) h2 (by rw [k1', hrs]) (by rw [k2', hrb]) (by have : r'.kad = r.kad + 1 := k3; omega) (by simp; omega) (by
   by_cases hh : D + 1 ≤ 20
   ·exact .inl hh
   ·exact .inr (h4 (by show 20 < r.kad + 1; omega))) (by omega) (by have : r'.kac = r.kac := k4; omega) hok' f ps h hokD
  have hno' : r'.no_ = 0 := by
   refine Classical.byContradiction fun hh => ?_
   exact hh (end_apart (.inr hh) (by omega) (by rw [k1', hrs]; exact hok') h).2.1
  have hokl : okR 5 l := hokD l (by rw [b1]; simp)
  have h1' := h1
  rw [dir_it _ _ _ rfl] at h1'
  have hpw12 : (new1 ++ new2).Pairwise apartP := by
   rw [k5', List.append_assoc] at b2
   exact (List.pairwise_append.1 b2).2.1
  obtain ⟨pw1, pw2, pw3⟩ := List.pairwise_append.1 hpw12
  have G := fun (rt : Tb) (hpt : rt.kaa.length ≤ D * 323216080401) (R : Rel S T big r rt) => it_T (en := en) M 5 6 (by omega) ⟨r.s_, r.kab, r.kaa, r.kae, r.kad + 1, r.kac, r.no_⟩ ⟨rt.s_, rt.kab, rt.kaa, rt.kae, rt.kad + 1, rt.kac, rt.no_⟩ nx [(ls.length : Int)] rfl hnx (by show r.kaa.length + cap 5 ≤ _; rw [hcap]; omega) (by show rt.kaa.length + cap 5 ≤ _; rw [hcap]; omega) hf ⟨R.s, R.s', R.bg, R.bg', R.seen, by show rt.kad + 1 = r.kad + 1; rw [R.dirs], R.found, R.no, R.no'⟩ l _ r' new1 h1' hno' k5' pw1 hokl
  have hnxt : vS S big (nx + 2 + 12 * l.length) 4 = nx' := by
   rw [← hrs, ← hrb]
   exact dir_next (r := ⟨r.s_, r.kab, r.kaa, r.kae, r.kad + 1, r.kac, r.no_⟩) h1 hno hnx hs (by show r.kaa.length + cap 5 ≤ _; rw [hcap]; omega) hf hno'
  have tr : ∀ q, (q, a, en) ∈ trF S big ls.length nx (l :: rest) → (∃ rs, q = (ls.length : Int) :: rs ∧ ([(ls.length : Int)] ++ rs, a, en) ∈ trD S big 5 [(ls.length : Int)] nx l) ∨ ((q, a, en) ∈ trF S big (ls ++ [l]).length nx' rest ∧ q.head? ≠ some (ls.length : Int)) := by
   intro q hq
   rw [trF, hnxt] at hq
   rcases List.mem_append.1 hq with hq | hq
   ·obtain ⟨rs, c1, c2, c3⟩ := (trD_ok S big 5 [(ls.length : Int)] nx l hokl).1 _ hq
    have c2 : q = [(ls.length : Int)] ++ rs := c2
    exact .inl ⟨rs, c2, by rw [← c2]; exact hq⟩
   ·have hl1 : (ls ++ [l]).length = ls.length + 1 := by simp
    rw [hl1]
    obtain ⟨k, rs, hk, c1, c2, c3⟩ := (trF_ok S big rest (ls.length + 1) nx' fun x hx => hokD x (by rw [b1]; simp [hx])).1 _ hq
    have c2 : q = ((ls.length + 1 + k : Nat) : Int) :: rs := c2
    refine .inr ⟨hq, ?_⟩
    rw [c2]
    intro e
    have := Option.some.inj e
    omega
  have cov1 : ∀ rs, ([(ls.length : Int)] ++ rs, a, en) ∈ trD S big 5 [(ls.length : Int)] nx l → Cov a p0 n0 new1 := fun rs hm => by
   obtain ⟨_, _, _, hc⟩ := (G ⟨T, big, [], r.kae, r.kad, r.kac, 0⟩ (Nat.zero_le _) ⟨hrs, rfl, hrb, rfl, rfl, rfl, rfl, hno, rfl⟩).2 rs (by
    show _ ∈ trD S big 5 _ _ _
    exact hm)
   exact hc
  refine ⟨l :: rest, new1 ++ new2, by rw [b1]; simp, by rw [← List.append_assoc, ← k5']; exact b2, fun q hq => ?_, fun rt lt hlt hpt R => ?_⟩
  ·rcases tr q hq with ⟨rs, _, hm⟩ | ⟨hm, _⟩
   ·exact (cov1 rs hm).mono fun x hx => List.mem_append_left _ hx
   ·exact (b3 q hm).mono fun x hx => List.mem_append_right _ hx
  ·have hrts : rt.s_.length ≤ 65000 := by rw [R.s']; exact h65
   have hft : rt.kac ≤ 0 := by rw [R.found]; exact hf
   obtain ⟨g1, g2⟩ := G rt hpt R
   have next : ∀ (l' : List Ta) (rt' : Tb), it dirF 6 (⟨rt.s_, rt.kab, rt.kaa, rt.kae, rt.kad + 1, rt.kac, rt.no_⟩, (nx : Int), [(ls.length : Int)]) = some (l', (nx' : Int), rt') → Rel S T big r' rt' →
     ((∀ x ∈ new2, Jbq a p0 n0 x) → FinT t nx rt lt (lt ++ (l' :: rest))) ∧ ∀ q, (q, a, en) ∈ trF S big (ls ++ [l]).length nx' rest → FinT t nx rt lt (lt ++ (l' :: Jdk (ls.length + 1) rest q v)) := by
    intro l' rt' hi R'
    rw [← dir_it _ _ _ rfl] at hi
    obtain ⟨l2, nx2, r2, z1, _, z3, _⟩ := dir_ok ⟨rt.s_, rt.kab, rt.kaa, rt.kae, rt.kad + 1, rt.kac, rt.no_⟩ nx [(ls.length : Int)] rfl hnx hrts (by show rt.kaa.length + cap 5 ≤ _; rw [hcap]; omega) hft
    rw [hi] at z1
    cases z1
    have zp := z3.parts
    rw [hcap] at zp
    have zp' : rt'.kaa.length ≤ rt.kaa.length + 323216080401 := zp
    have hi' : Z5 ⟨rt.s_, rt.kab, rt.kaa, rt.kae, rt.kad + 1, rt.kac, rt.no_⟩ (nx : Int) [(lt.length : Int)] = some (l', (nx' : Int), rt') := by rw [hlt, ← hl]; exact hi
    have e := Jf8 t nx rt lt h0 R.no' (by rw [R.dirs]; omega) (by omega) hi'
    obtain ⟨w1, w2⟩ := b4 rt' (lt ++ [l']) (by simp; omega) (by omega) R'
    have hl1 : (ls ++ [l]).length = ls.length + 1 := by simp
    refine ⟨fun hon => ?_, fun q hq => ?_⟩
    ·obtain ⟨rtf, y⟩ := w1 hon
     exact ⟨rtf, by rw [e, y]; simp⟩
    ·obtain ⟨rtf, y⟩ := w2 q hq
     exact ⟨rtf, by rw [e, y, hl1]; simp⟩
   refine ⟨fun hon => ?_, fun q hq => ?_⟩
   ·obtain ⟨rt', y1, y2⟩ := g1 fun x hx => hon x (List.mem_append_left _ hx)
    exact (next l rt' y1 y2).1 fun x hx => hon x (List.mem_append_right _ hx)
   ·rcases tr q hq with ⟨rs, hqe, hm⟩ | ⟨hm, hne⟩
    ·obtain ⟨rt', y1, y2, y3⟩ := g2 rs hm
     have := (next _ rt' y1 y2).1 fun x hx => y3.off fun y hy => (pw3 y hy x hx).symm
     rw [hqe, Jdk, if_pos (show ((ls.length : Int) :: rs).head? = some (ls.length : Int) from rfl), Jhx rest (ls.length + 1) ls.length rs v (by omega)]
     exact this
    ·have hc := b3 q hm
     obtain ⟨rt', y1, y2⟩ := g1 fun x hx => hc.off fun y hy => pw3 x hx y hy
     have := (next _ rt' y1 y2).2 q hm
     rw [Jdk, if_neg hne]
     exact this
theorem read_T (M : Mod S T (Ja4 S) a p0 n0 v) {f g : Tg} {ps pt : List Tc} (hS : Wi S 0 = some (f, ps, 0)) (hT : Wi T 0 = some (g, pt, 0)) (hok : ∀ l ∈ f.kal, okR 5 l) (h8 : (T.drop 0).take 8 = (S.drop 0).take 8) {q : List Int} (hq : (q, a, en) ∈ trF S (Ja4 S) 0 (vS S (Ja4 S) 4 4) f.kal) : g.kal = Jdk 0 f.kal q v ∧ g.Big = f.Big := by
 have hlen := M.len
 have h65 := M.t65
 have hS0 := hS
 unfold Wi at hS hT
 rw [cI] at hS hT
 rw [if_neg (by omega)] at hS hT
 obtain ⟨b, hb, hb8⟩ := Jdg S
 obtain ⟨c, hc, hc8⟩ := Jdg T
 rw [hb, Jb] at hS
 rw [hc, Jb] at hT
 cases b with
 | false => rw [Bool.not_false, Xf] at hS; cases hS
 | true =>
  cases c with
  | false => rw [Bool.not_false, Xf] at hT; cases hT
  | true =>
   have l8 := hb8 rfl
   have e0 : T[0]'(by omega) = S[0]'(by omega) := by
    have := congrArg (fun z => z[0]?) h8
    simp only [List.drop_zero] at this
    rw [List.getElem?_take, List.getElem?_take, if_pos (by omega), if_pos (by omega), List.getElem?_eq_getElem (by omega), List.getElem?_eq_getElem (by omega)] at this
    exact Option.some.inj this
   have e4 : (T.drop 4).take 4 = (S.drop 4).take 4 := by
    have := congrArg (fun z => z.drop 4) h8
    simp only [List.drop_zero, List.drop_take] at this
    exact this
   rw [Bool.not_true, Qm, show (0 : Int) = ((0 : Nat) : Int) from rfl, Ub (by omega), Jb, show (4 : Int) = ((4 : Nat) : Int) from rfl, Jau (a := 4) (k := 4) _ (by show 4 + 4 ≤ S.length; omega) (by omega) (by show S.length ≤ 65000; omega), Jb] at hS
   rw [Bool.not_true, Qm, show (0 : Int) = ((0 : Nat) : Int) from rfl, Ub (by omega), Jb, show (4 : Int) = ((4 : Nat) : Int) from rfl, Jau (a := 4) (k := 4) _ (by show 4 + 4 ≤ T.length; omega) (by omega) (by show T.length ≤ 65000; omega), Jb] at hT
   rw [e0] at hT
   have hbg := bigS_eq (s := S) (by omega)
   have key := rd_T (en := en) M ((S[0]'(by omega)).toNat : Int) 21 0 (Vg (decide (((S[0]'(by omega)).toNat : Int) = 77)) ((S.drop 4).take 4)) ⟨S, decide (((S[0]'(by omega)).toNat : Int) = 77), [], [], 0, 0, 0⟩ [] (by omega) (valB4 _ (by rw [List.length_take]; omega)) rfl hbg.symm rfl rfl (.inl (by omega)) (by simp) (Nat.le_refl _) (by simp) f ps hS hok
   obtain ⟨rest, new, b1, _, _, b4⟩ := key
   rw [List.nil_append] at b1
   subst b1
   have hq' : (q, a, en) ∈ trF S (Ja4 S) ([] : List (List Ta)).length (Vg (decide (((S[0]'(by omega)).toNat : Int) = 77)) ((S.drop 4).take 4)) f.kal := by
    have hq2 := hq
    rw [show vS S (Ja4 S) 4 4 = Vg (Ja4 S) ((S.drop 4).take 4) from rfl] at hq2
    rw [← hbg]; exact hq2
   obtain ⟨rtf, w⟩ := (b4 ⟨T, decide (((S[0]'(by omega)).toNat : Int) = 77), [], [], 0, 0, 0⟩ [] rfl (by simp) ⟨rfl, rfl, hbg.symm, hbg.symm, rfl, rfl, rfl, rfl, rfl⟩).2 q hq'
   have hT' : Jbc ((S[0]'(by omega)).toNat : Int) (Vg (decide (((S[0]'(by omega)).toNat : Int) = 77)) ((S.drop 4).take 4)) ⟨T, decide (((S[0]'(by omega)).toNat : Int) = 77), [], [], 0, 0, 0⟩ [] = some (g, pt, 0) := by
    rw [← e4]; exact hT
   rw [w] at hT'
   obtain ⟨d1, _, d3⟩ := Jhr hT' rfl
   refine ⟨by rw [d1]; rfl, ?_⟩
   obtain ⟨_, _, hC⟩ := read_C q S hS0
   rw [d3, (hC rfl).1, hbg]
end
end Go.M

namespace Go.M
open Go.Md Go.Pl
open Classical in
theorem end_file {t : Int} {r : Tb} {ls : List (List Ta)} (hs : 8 ≤ r.s_.length ∧ r.s_.length ≤ 65000) (hp : r.kaa.length ≤ 8000000000000) (hok : ∀ x ∈ r.kaa, okS r.s_.length x) (hsz : (((ls.map (Uw 5)).sum : Nat) : Int) ≤ Jbx r.kaa) (hl : ls.length ≤ 1000) {f : Tg} {ps : List Tc} (h : Yx t r.s_ r.kab r.kad r.kac r.no_ r.kaa ls r.kae = some (f, ps, 0)) : Jcj f ∧ Jac f = 0 := by
 have hno := (Jhr h rfl).2.1
 unfold Yx at h
 have hperm := List.mergeSort_perm r.kaa (leC J8)
 rw [show Jcy r.kaa J8 = some (r.kaa.mergeSort (leC J8)) from if_pos ⟨by omega, spans_ok⟩, Jb, cI, if_pos hno] at h
 generalize r.kaa.mergeSort (leC J8) = ps' at hperm h
 have hlen : Jbx ps' = Jbx r.kaa := lenS_perm hperm
 rw [Jfp _ (by rw [hperm.length_eq]; omega), Jb, cI] at h
 split at h
 ·unfold Yt Y4 at h
  rw [cI, if_neg (by decide), cI, if_pos (by decide)] at h
  cases h
 ·rename_i hlap
  have hsep : sepS r.s_.length 8 ps' := by
   refine sep_of (fun x hx => hok x (hperm.mem_iff.1 hx)) hlap (fun x hx => ?_) (by omega)
   exact (hok x (hperm.mem_iff.1 (List.mem_of_mem_head? hx))).1
  have hsum := (Jh0 hsep).2.2
  have hB : Jcj (⟨decide (t = 77), ls⟩ : Tg) := fileB_of (by show ls.length ≤ _; omega) (by show (ls.map (Uw 5)).sum ≤ _; omega)
  unfold Yt at h
  rw [cI, if_pos hno, Us hB, Jb] at h
  unfold Y4 at h
  rw [cI] at h
  split at h
  ·rename_i he; exact absurd (congrArg (fun z => z.2.2) (Option.some.inj h)) he
  ·rename_i he; cases h; exact ⟨hB, by simpa using he⟩
theorem rd_file (t : Int) : ∀ (m D nx : Nat) (r : Tb) (ls : List (List Ta)), D + m = 21 → nx ≤ 4294967295 → r.kad = D → ls.length = D → (D ≤ 20 ∨ r.no_ ≠ 0) → (8 ≤ r.s_.length ∧ r.s_.length ≤ 65000) → r.kaa.length ≤ D * 323216080401 → (∀ x ∈ r.kaa, okS r.s_.length x) → (((ls.map (Uw 5)).sum : Nat) : Int) ≤ Jbx r.kaa → r.kac ≤ 0 →
  ∀ f ps, Jbc t nx r ls = some (f, ps, 0) → Jcj f ∧ Jac f = 0 := by
 have hcap : cap 5 = 323216080401 := by rfl
 intro m
 induction m with
 | zero =>
  intro D nx r ls hD hnx hd hl h20 hs hp hok hsz hf f ps h
  rw [Jeb _ _ _ _ (.inr (h20.resolve_left (by omega)))] at h
  exact end_file hs (by omega) hok hsz (by omega) h
 | succ m ih =>
  intro D nx r ls hD hnx hd hl h20 hs hp hok hsz hf f ps h
  by_cases hend : nx = 0 ∨ r.no_ ≠ 0
  ·rw [Jeb _ _ _ _ hend] at h
   exact end_file hs (by omega) hok hsz (by omega) h
  ·have h0 : nx ≠ 0 := fun h => hend (.inl h)
   have hno : r.no_ = 0 := Classical.byContradiction fun h => hend (.inr h)
   obtain ⟨l, nx', r', h1, h2, h3, h4⟩ := dir_ok ⟨r.s_, r.kab, r.kaa, r.kae, r.kad + 1, r.kac, r.no_⟩ nx [(ls.length : Int)] rfl hnx hs.2 (by show r.kaa.length + cap 5 ≤ _; rw [hcap]; omega) hf
   rw [Jf8 t nx r ls h0 hno (by omega) (by omega) h1] at h
   have hlen' := h3.len
   have hsl : r'.s_.length = r.s_.length := hlen'
   have hpa := h3.parts
   rw [hcap] at hpa
   have hpa' : r'.kaa.length ≤ r.kaa.length + 323216080401 := hpa
   obtain ⟨g1, g2, g3, g4, new, g5, g6, g7, g8⟩ := h3
   have g5' : r'.kaa = r.kaa ++ new := g5
   refine ih (D + 1) nx' r' (ls ++ [l]) (by omega) h2 (by have : r'.kad = r.kad + 1 := g3; omega) (by simp; omega) (by
    by_cases hh : D + 1 ≤ 20
    ·exact .inl hh
    ·exact .inr (h4 (by show 20 < r.kad + 1; omega))) (by omega) (by omega) (by
    intro x hx
    rw [g5'] at hx
    rw [hsl]
    rcases List.mem_append.1 hx with hx | hx
    ·exact hok x hx
    ·exact g6 x hx) (by
    rw [g5', Jhy, List.map_append, List.sum_append]
    simp only [List.map_cons, List.map_nil, List.sum_cons, List.sum_nil]
    omega) (by have : r'.kac = r.kac := g4; omega) f ps h
theorem Jhb {s : List UInt8} {f : Tg} {ps : List Tc} (h : Wi s 0 = some (f, ps, 0)) : Jcj f ∧ Jac f = 0 ∧ 8 ≤ s.length ∧ s.length ≤ 65000 := by
 unfold Wi at h
 rw [cI] at h
 split at h
 ·cases h
 ·rename_i hl
  obtain ⟨b, hb, hb8⟩ := Jdg s
  rw [hb, Jb] at h
  cases b with
  | false => rw [Bool.not_false, Xf] at h; cases h
  | true =>
   have h8 := hb8 rfl
   rw [Bool.not_true, Qm, show (0 : Int) = ((0 : Nat) : Int) from rfl, Ub (by omega), Jb, show (4 : Int) = ((4 : Nat) : Int) from rfl, Jau (a := 4) (k := 4) _ (by show 4 + 4 ≤ s.length; omega) (by omega) (by show s.length ≤ 65000; omega), Jb] at h
   have := rd_file ((s[0]'(by omega)).toNat : Int) 21 0 (Vg (decide (((s[0]'(by omega)).toNat : Int) = 77)) ((s.drop 4).take 4)) ⟨s, decide (((s[0]'(by omega)).toNat : Int) = 77), [], [], 0, 0, 0⟩ [] (by omega) (valB4 _ (by rw [List.length_take]; omega)) rfl rfl (.inl (by omega)) ⟨h8, by show s.length ≤ 65000; omega⟩ (by simp) (by simp) (by simp [Jbx]) (Nat.le_refl _) f ps h
   exact ⟨this.1, this.2, h8, by omega⟩
def hm : List UInt8 → List UInt8 → Nat
 | x :: xs, y :: ys => (if x = y then 0 else 1) + hm xs ys
 | _, _ => 0
theorem hm_self : ∀ s : List UInt8, hm s s = 0
 | [] => rfl
 | x :: s => by rw [hm, if_pos rfl, hm_self s]
theorem hm_le : ∀ s t : List UInt8, hm s t ≤ t.length
 | [], t => by simp [hm]
 | x :: s, [] => by simp [hm]
 | x :: s, y :: t => by rw [hm, List.length_cons]; have := hm_le s t; split <;> omega
theorem hm_app : ∀ {a c : List UInt8} (b d : List UInt8), a.length = c.length → hm (a ++ b) (c ++ d) = hm a c + hm b d
 | [], [], b, d, _ => by simp [hm]
 | x :: a, [], b, d, h => by simp at h
 | [], y :: c, b, d, h => by simp at h
 | x :: a, y :: c, b, d, h => by
  show hm (x :: (a ++ b)) (y :: (c ++ d)) = _
  rw [hm, hm, hm_app b d (by simpa using h)]; omega
theorem hm_tri : ∀ {s t : List UInt8} (u : List UInt8), s.length = t.length → hm s u ≤ hm s t + hm t u
 | [], t, u, _ => by simp [hm]
 | x :: s, [], u, h => by simp at h
 | x :: s, y :: t, [], _ => by simp [hm]
 | x :: s, y :: t, z :: u, h => by
  have := hm_tri (s := s) (t := t) u (by simpa using h)
  rw [hm, hm, hm]
  by_cases h1 : x = y
  ·subst h1; rw [if_pos rfl]; omega
  ·rw [if_neg h1]; split <;> split <;> omega
theorem hm_put {s b : List UInt8} {p : Nat} (h : p + b.length ≤ s.length) : hm s (put s p b) ≤ b.length := by
 have e : s = s.take p ++ ((s.drop p).take b.length ++ s.drop (p + b.length)) := by
  rw [← List.drop_drop, List.take_append_drop, List.take_append_drop]
 have hl : (s.take p).length = p := by rw [List.length_take]; omega
 have hl2 : ((s.drop p).take b.length).length = b.length := by rw [List.length_take, List.length_drop]; omega
 unfold put
 conv => lhs; arg 1; rw [e]
 rw [List.append_assoc, hm_app _ _ rfl, hm_app _ _ hl2, hm_self, hm_self]
 have := hm_le ((s.drop p).take b.length) b
 omega
theorem hm_long {s t : List UInt8} (x : List UInt8) (h : s.length = t.length) : hm s (t ++ x) = hm s t := by
 have := hm_app [] x h
 rw [List.append_nil] at this
 rw [this]; simp [hm]
theorem count_loop (s t : List UInt8) (e : Int) (g : Td × Int) (hl : s.length ≤ t.length) (hs : s.length ≤ 65000) : ∀ (m i x : Nat), i + m = s.length → x ≤ i → Wq (fun next3 a => X3 s (t, e) g next3 a.1 a.2) ((x : Int), (i : Int)) = V2 g ((x + hm (s.drop i) (t.drop i) : Nat) : Int) := by
 intro m
 induction m with
 | zero =>
  intro i x hi hx
  rw [List.drop_eq_nil_of_le (show s.length ≤ i by omega)]
  refine Qz fun next => ?_
  show X3 s (t, e) g next (x : Int) (i : Int) = _
  unfold X3
  rw [cI, if_neg (by omega)]; rfl
 | succ m ih =>
  intro i x hi hx
  have h1 : i < s.length := by omega
  have h2 : i < t.length := by omega
  rw [List.drop_eq_getElem_cons h1, List.drop_eq_getElem_cons h2, hm]
  have st : ∀ next : Int × Int → Option Bool, X3 s (t, e) g next (x : Int) (i : Int) = next (((x + (if s[i] = t[i] then 0 else 1) : Nat) : Int), ((i + 1 : Nat) : Int)) := fun next => by
   unfold X3
   dsimp only
   rw [cI, if_pos (by omega), Ub h1, Jb, Ub h2, Jb, cI]
   by_cases he : s[i] = t[i]
   ·rw [if_neg (by rw [he]; simp), if_pos he]
    unfold Zt
    rw [J2 (by omega), Jb]; rfl
   ·rw [if_pos (fun hh => he (UInt8.toNat_inj.1 (by omega))), if_neg he, J2 (by omega), Jb]
    unfold Zt
    rw [J2 (by omega), Jb]; rfl
  refine (Xv _ st).trans ?_
  rw [ih (i + 1) (x + (if s[i] = t[i] then 0 else 1)) (by omega) (by split <;> omega)]
  congr 2; omega
theorem Ws {s b : List UInt8} {p i k : Nat} (hp : p + b.length ≤ s.length) (hd : i + k ≤ p ∨ p + b.length ≤ i) (hk : i + k ≤ s.length) : ((put s p b).drop i).take k = (s.drop i).take k := by
 have hl : ((s.drop i).take k).length = k := by rw [List.length_take, List.length_drop]; omega
 have := put_win (x := (s.drop i).take k) (a := i) hp (by omega) (show (s.drop i).take ((s.drop i).take k).length = (s.drop i).take k by rw [hl])
 have h2 : ((put s p b).drop i).take ((s.drop i).take k).length = (s.drop i).take k := this
 rw [hl] at h2; exact h2
theorem put_in {s b : List UInt8} {p : Nat} (hp : p + b.length ≤ s.length) : ((put s p b).drop p).take b.length = b := put_at_win hp
theorem app_out {s x : List UInt8} {i k : Nat} (h : i + k ≤ s.length) : ((s ++ x).drop i).take k = (s.drop i).take k := by
 rw [List.drop_append_of_le_length (by omega), List.take_append_of_le_length (by rw [List.length_drop]; omega)]
theorem app_in (s x : List UInt8) : ((s ++ x).drop s.length).take x.length = x := by
 rw [List.drop_left, List.take_length]
theorem patch_end (t : List UInt8) (b : Bool) : ∃ o : List UInt8 × Int, W1 b (Qo t) = some o ∧ (o.2 ≠ 0 → o.1 = []) ∧ (o.2 = 0 → o.1 = t ∧ t.length ≤ 65000 ∧ ∃ g pt, Wi t 0 = some (g, pt, 0)) := by
 unfold W1
 rw [cI, Ql, Jhi]
 by_cases hl : (65000 : Int) < t.length
 ·rw [if_pos hl]; exact ⟨_, rfl, fun _ => rfl, fun h => absurd h (by decide)⟩
 rw [if_neg hl]
 obtain ⟨f, ps, e, h1, _⟩ := read_ok t (fd := 0) (by omega)
 unfold Jax
 rw [h1, Jb, Jb, cI]
 dsimp only
 by_cases he : e = 0
 ·rw [if_neg (by simp [he])]; exact ⟨_, rfl, fun h => absurd rfl h, fun _ => ⟨rfl, by omega, f, ps, by rw [he]⟩⟩
 ·rw [if_pos he]; exact ⟨_, rfl, fun _ => rfl, fun h => absurd h he⟩
def Done (s : List UInt8) (path : List Int) (v : Td) (t : List UInt8) : Prop := ∃ f ps g pt en a p0 n0, Wi s 0 = some (f, ps, 0) ∧ Wi t 0 = some (g, pt, 0) ∧ gotF f.kal path = some en ∧ en.Value.kah ≠ 13 ∧ (path, a, en) ∈ trF s (Ja4 s) 0 (vS s (Ja4 s) 4 4) f.kal ∧
 Mod s t (Ja4 s) a p0 n0 v ∧ (t.drop 0).take 8 = (s.drop 0).take 8 ∧ hm s t ≤ 10 + 8 * (en.Value.kaj.length + en.Value.kag.length) + en.Value.kai.length + 1
theorem kind_small {v : Td} (h : okV v) : 0 ≤ v.kah ∧ v.kah ≤ 65535 := by
 have := h.1
 unfold Jfd Ja7 Jc3 at this
 omega
theorem valE_plain {v : Td} (h : valE v = 0) (h13 : v.kah ≠ 13) : Jbu v = 0 := by
 unfold valE at h
 rw [if_pos h13] at h; exact h
theorem patch_cases (s : List UInt8) (path : List Int) (v : Td) (hp : path.length ≤ 1048576) (hv : valueC v) : ∃ o : List UInt8 × Int, Jez s path v = some o ∧ (o.2 ≠ 0 → o.1 = []) ∧ (o.2 = 0 → valE v = 0 ∧ v.kah ≠ 13 ∧ Done s path v o.1) := by
 obtain ⟨hv1, hv2⟩ := hv
 have hvB : vB v := ⟨by omega, by omega, by omega⟩
 obtain ⟨f, ps, e, h1, hsep⟩ := read_ok s (fd := 0) (by omega)
 obtain ⟨at', c1, c2⟩ := read_C path s h1
 unfold Jez
 rw [c1, Jb]
 dsimp only
 rw [cI]
 by_cases he : e = 0
 rotate_left
 ·rw [if_pos he]; exact ⟨_, rfl, fun _ => rfl, fun h => absurd h he⟩
 subst he
 obtain ⟨hB, hz, hs8, hs⟩ := Jhb h1
 obtain ⟨hbig, k1, k2⟩ := c2 rfl
 obtain ⟨hok, hn⟩ := okFs hB hz
 have hok1 : ∀ l ∈ f.kal, okR 5 l := fun l hl => (hok l hl).1
 have hC : Zw f = some 0 := by rw [Us hB, hz]
 rw [if_neg (by simp), Jfc hvB (by omega), Jb, cI]
 by_cases hv0 : valE v = 0
 rotate_left
 ·rw [if_pos hv0]; exact ⟨_, rfl, fun _ => rfl, fun h => absurd h hv0⟩
 rw [if_neg (by simp [hv0]), cI]
 obtain ⟨hvo, _⟩ := val_ok hv0
 by_cases hneg : at' < 0
 ·rw [if_pos hneg]; exact ⟨_, rfl, fun _ => rfl, fun h => absurd h (by decide)⟩
 rw [if_neg hneg]
 have last : ∀ (tr : List Trc) (z : Int), tr.foldl (Jcf path) z = z ∨ ∃ x ∈ tr, x.1 = path ∧ tr.foldl (Jcf path) z = (x.2.1 : Int) := by
  intro tr
  induction tr with
  | nil => intro z; exact .inl rfl
  | cons y tr ih =>
   intro z
   rw [List.foldl_cons]
   rcases ih (Jcf path z y) with h | ⟨x, hx, h2, h3⟩
   ·rw [h]
    by_cases hy : y.1 = path
    ·exact .inr ⟨y, .head _, hy, by unfold Jcf; rw [if_pos hy]⟩
    ·exact .inl (by unfold Jcf; rw [if_neg hy])
   ·exact .inr ⟨x, .tail _ hx, h2, h3⟩
 obtain ⟨a, en, e0, hmem⟩ : ∃ (a : Nat) (en : Ta), at' = (a : Int) ∧ (path, a, en) ∈ trF s (Ja4 s) 0 (vS s (Ja4 s) 4 4) f.kal := by
  rcases last (trF s (Ja4 s) 0 (vS s (Ja4 s) 4 4) f.kal) (-1) with h | ⟨x, hx, h2, h3⟩
  ·rw [← k1] at h; omega
  ·obtain ⟨x1, x2, x3⟩ := x
   have h2 : x1 = path := h2
   subst h2
   exact ⟨x2, x3, by rw [k1]; exact h3, hx⟩
 have hg := trF_mem s (Ja4 s) hok1 _ hmem
 obtain ⟨t1, t2, t3, t4, t5, t6⟩ := k2 _ hmem
 have t3 : 10 ≤ a := t3
 have t4 : a + 12 ≤ s.length := t4
 have hk5 : en.Value.kah = (vS s (Ja4 s) (a + 2) 2 : Int) := t5
 subst e0
 rw [Get_eq hok hn hp hC, Jb, hg]
 dsimp only
 rw [cI, cI]
 by_cases ho13 : en.Value.kah = 13
 ·rw [if_pos ho13]; exact ⟨_, rfl, fun _ => rfl, fun h => absurd h (by decide)⟩
 rw [if_neg ho13]
 by_cases h13 : v.kah = 13
 ·rw [if_pos h13]; exact ⟨_, rfl, fun _ => rfl, fun h => absurd h (by decide)⟩
 rw [if_neg h13]
 obtain ⟨u1, u2⟩ := t6 ho13
 have u1 : Wp en.Value = vS s (Ja4 s) (a + 4) 4 := u1
 have u2 : 4 < vS s (Ja4 s) (a + 4) 4 * J6 en.Value.kah → 8 ≤ vS s (Ja4 s) (a + 8) 4 ∧ vS s (Ja4 s) (a + 8) 4 + vS s (Ja4 s) (a + 4) 4 * J6 en.Value.kah ≤ s.length := u2
 obtain ⟨ev1, ev2⟩ := gotF_ok hok hg
 have hplain := valE_plain hv0 h13
 rw [hbig]
 generalize hbb : Ja4 s = big at *
 have hl2 := X4 big v.kah (k := 2) (by omega)
 have hl4 := X4 big (Wp v : Int) (k := 4) (by omega)
 have hol := Jgx big v
 have hoc := Jec big hvo h13
 have hp1 : (put s (a + 2) (Yb big v.kah 2)).length = s.length := Ja3 (by omega)
 have hp2 : (put (put s (a + 2) (Yb big v.kah 2)) (a + 4) (Yb big (Wp v : Int) 4)).length = s.length := by rw [Ja3 (by omega), hp1]
 have x2 : (a : Int) + 2 = ((a + 2 : Nat) : Int) := by omega
 have x4 : (a : Int) + 4 = ((a + 4 : Nat) : Int) := by omega
 have x8 : (a : Int) + 8 = ((a + 8 : Nat) : Int) := by omega
 rw [gByt_ok (by omega), Jb, octets_eq hvB hvo h13, Jb, J2 (by omega), Jb, x2, Jh3 (by omega), Jb, tag2, Jb, J2 (by omega), Jb, Jh9 hvB, Jb, Ji7 (by omega) (by rw [Jh5]; omega), x4, set_tag _ (by omega), Jb, cI, Ql]
 have hcnt : Wp v ≤ 8388609 + 1 := by
  have := Nat.le_mul_of_pos_right (Wp v) (show 0 < J6 v.kah from Nat.pos_of_ne_zero fun e => (Jel _ h13).1 (by rw [e]; rfl) hvo.1)
  omega
 have hout : ∀ i k, i + k ≤ a + 2 ∨ a + 8 ≤ i → i + k ≤ s.length → ((put (put s (a + 2) (Yb big v.kah 2)) (a + 4) (Yb big (Wp v : Int) 4)).drop i).take k = (s.drop i).take k := fun i k h1 h2 => by
  rw [Ws (by omega) (by omega) (by omega), Ws (by omega) (by omega) h2]
 have hkind : Vg big (((put (put s (a + 2) (Yb big v.kah 2)) (a + 4) (Yb big (Wp v : Int) 4)).drop (a + 2)).take 2) = v.kah := by
  rw [Ws (by omega) (by omega) (by omega)]
  have := put_in (s := s) (p := a + 2) (b := Yb big v.kah 2) (by omega)
  rw [hl2] at this
  rw [this]; exact val_num2 big (kind_small hvo)
 have hcntv : Vg big (((put (put s (a + 2) (Yb big v.kah 2)) (a + 4) (Yb big (Wp v : Int) 4)).drop (a + 4)).take 4) = Wp v := by
  have := put_in (s := put s (a + 2) (Yb big v.kah 2)) (p := a + 4) (b := Yb big (Wp v : Int) 4) (by omega)
  rw [hl4] at this
  rw [this]
  have := Jgr big (n := (Wp v : Int)) (by omega)
  omega
 have hh6 : hm s (put (put s (a + 2) (Yb big v.kah 2)) (a + 4) (Yb big (Wp v : Int) 4)) ≤ 6 := by
  have g1 := hm_tri (put (put s (a + 2) (Yb big v.kah 2)) (a + 4) (Yb big (Wp v : Int) 4)) hp1.symm
  have g2 := hm_put (s := s) (b := Yb big v.kah 2) (p := a + 2) (by omega)
  have g3 := hm_put (s := put s (a + 2) (Yb big v.kah 2)) (b := Yb big (Wp v : Int) 4) (p := a + 4) (by omega)
  omega
 generalize hT : put (put s (a + 2) (Yb big v.kah 2)) (a + 4) (Yb big (Wp v : Int) 4) = T at *
 have wvS : ∀ (X : List UInt8) i k, vS X big i k = Vg big ((X.drop i).take k) := fun _ _ _ => rfl
 have fin : ∀ t : List UInt8, s.length ≤ t.length → (∀ i k, (i + k ≤ a + 2 ∨ a + 12 ≤ i) → (4 < Wp en.Value * J6 en.Value.kah → i + k ≤ vS s big (a + 8) 4 ∨ vS s big (a + 8) 4 + Wp en.Value * J6 en.Value.kah ≤ i) → i + k ≤ s.length → (t.drop i).take k = (T.drop i).take k) →
   ((4 < Wp en.Value * J6 en.Value.kah → a + 12 ≤ vS s big (a + 8) 4 ∨ vS s big (a + 8) 4 + Wp en.Value * J6 en.Value.kah ≤ a) → (t.drop (a + 2)).take 2 = (T.drop (a + 2)).take 2 ∧ (t.drop (a + 4)).take 4 = (T.drop (a + 4)).take 4 ∧ ((Zg big v).length ≤ 4 → (t.drop (a + 8)).take (Zg big v).length = Zg big v) ∧
    (4 < (Zg big v).length → 8 ≤ vS t big (a + 8) 4 ∧ vS t big (a + 8) 4 + (Zg big v).length ≤ t.length ∧ (t.drop (vS t big (a + 8) 4)).take (Zg big v).length = Zg big v)) →
   (t.drop 0).take 8 = (T.drop 0).take 8 → hm s t ≤ 10 + 8 * (en.Value.kaj.length + en.Value.kag.length) + en.Value.kai.length + 1 → ∀ b, ∃ o : List UInt8 × Int, W1 b (Qo t) = some o ∧ (o.2 ≠ 0 → o.1 = []) ∧ (o.2 = 0 → valE v = 0 ∧ v.kah ≠ 13 ∧ Done s path v o.1) := by
  intro t ht hag hval h8 hhm b
  obtain ⟨o, o1, o2, o3⟩ := patch_end t b
  refine ⟨o, o1, o2, fun h => ⟨hv0, h13, ?_⟩⟩
  obtain ⟨rfl, w2, g, pt, w3⟩ := o3 h
  refine ⟨f, ps, g, pt, en, a, vS s big (a + 8) 4, Wp en.Value * J6 en.Value.kah, h1, w3, hg, ho13, by rw [hbb]; exact hmem, ?_, by rw [h8, hout 0 8 (by omega) (by omega)], hhm⟩
  rw [hbb]
  refine ⟨ht, w2, fun i k a1 a2 a3 => by rw [hag i k a1 a2 a3, hout i k (by omega) a3], t4, by rw [u1, hk5], rfl, hplain, h13, by rw [← hk5]; exact ho13, fun hpp => ?_⟩
  obtain ⟨q1, q2, q3, q4⟩ := hval hpp
  exact ⟨by rw [wvS, q1]; exact hkind, by rw [wvS, q2]; exact hcntv, q3, q4⟩
 have hsz : Wp en.Value * J6 en.Value.kah ≤ 8 * (en.Value.kaj.length + en.Value.kag.length) + en.Value.kai.length + 1 := by
  have := Jec big ev1 ho13
  have := Jgx big en.Value
  omega
 by_cases hs4 : (Zg big v).length ≤ 4
 ·rw [if_pos (by omega), J2 (by omega), Jb, x8, set_tag _ (by omega), Jb]
  dsimp only
  have hz4 := X4 big 0 (k := 4) (by omega)
  have hp3 : (put T (a + 8) (Yb big 0 4)).length = s.length := by rw [Ja3 (by omega), hp2]
  rw [Jb, Jh3 (by omega), Jb, Ji7 (by omega) (by rw [Jh5]; omega)]
  rw [put_put (w := List.replicate (4 - (Zg big v).length) 0) (by omega) (by simp; omega) (by rw [num_zero big (by omega), List.drop_replicate])]
  have hw : (Zg big v ++ List.replicate (4 - (Zg big v).length) 0).length = 4 := by simp; omega
  have hpl : (put T (a + 8) (Zg big v ++ List.replicate (4 - (Zg big v).length) 0)).length = s.length := by rw [Ja3 (by omega), hp2]
  refine fin _ (by omega) (fun i k a1 a2 a3 => Ws (by omega) (by omega) (by omega)) (fun hpp => ⟨Ws (by omega) (by omega) (by omega), Ws (by omega) (by omega) (by omega), fun _ => ?_, fun h => absurd h (by omega)⟩) (Ws (by omega) (by omega) (by omega)) ?_ _
  ·have := put_in (s := T) (p := a + 8) (b := Zg big v ++ List.replicate (4 - (Zg big v).length) 0) (by omega)
   rw [hw] at this
   have h2 := congrArg (List.take (Zg big v).length) this
   rw [List.take_take, Nat.min_eq_left hs4, List.take_left] at h2
   exact h2
  ·have g1 := hm_tri (put T (a + 8) (Zg big v ++ List.replicate (4 - (Zg big v).length) 0)) hp2.symm
   have g2 := hm_put (s := T) (b := Zg big v ++ List.replicate (4 - (Zg big v).length) 0) (p := a + 8) (by omega)
   omega
 ·rw [if_neg (by omega), Jhl ev2 ev1 ho13 big, Jec big ev1 ho13, Jb, cI]
  have deflt : ∃ o : List UInt8 × Int, U4 s (f, ps, 0, (a : Int)) (Qo (Zg big v)) ⟨big, Qo T⟩ false = some o ∧ (o.2 ≠ 0 → o.1 = []) ∧ (o.2 = 0 → valE v = 0 ∧ v.kah ≠ 13 ∧ Done s path v o.1) := by
   have hq := padS_len T
   have hn4 := X4 big ((Ja5 T).length : Int) (k := 4) (by omega)
   have hpp : ∃ z, Ja5 T = T ++ z := by
    unfold Ja5
    split
    ·exact ⟨[], by simp⟩
    ·exact ⟨[0], rfl⟩
   obtain ⟨z, hz⟩ := hpp
   unfold U4
   rw [Qm]
   dsimp only
   rw [J2 (by omega), Jb, begin_tag (by omega), Jb, x8]
   dsimp only
   rw [set_tag _ (by omega), Jb]
   dsimp only
   rw [X5 (by rw [Ql, Ql, Ja3 (by omega)]; omega), Jb, ← Y7]
   have hX : put (Ja5 T) (a + 8) (Yb big ((Ja5 T).length : Int) 4) = put T (a + 8) (Yb big ((Ja5 T).length : Int) 4) ++ z := by rw [put_app (by omega), hz]
   have hpl : (put T (a + 8) (Yb big ((Ja5 T).length : Int) 4)).length = s.length := by rw [Ja3 (by omega), hp2]
   have hXl : (put (Ja5 T) (a + 8) (Yb big ((Ja5 T).length : Int) 4)).length = (Ja5 T).length := Ja3 (by omega)
   have hw : ∀ i k, i + k ≤ s.length → ((put (Ja5 T) (a + 8) (Yb big ((Ja5 T).length : Int) 4) ++ Zg big v).drop i).take k = ((put T (a + 8) (Yb big ((Ja5 T).length : Int) 4)).drop i).take k := fun i k h => by
    rw [app_out (by omega), hX, app_out (by omega)]
   have hv8 : vS (put (Ja5 T) (a + 8) (Yb big ((Ja5 T).length : Int) 4) ++ Zg big v) big (a + 8) 4 = (Ja5 T).length := by
    rw [wvS, hw _ _ (by omega)]
    have := put_in (s := T) (p := a + 8) (b := Yb big ((Ja5 T).length : Int) 4) (by omega)
    rw [hn4] at this
    rw [this]
    have := Jgr big (n := ((Ja5 T).length : Int)) (by omega)
    omega
   refine fin _ (by rw [List.length_append]; omega) (fun i k a1 a2 a3 => by rw [hw i k a3]; exact Ws (by omega) (by omega) (by omega)) (fun hpp => ⟨by rw [hw _ _ (by omega)]; exact Ws (by omega) (by omega) (by omega), by rw [hw _ _ (by omega)]; exact Ws (by omega) (by omega) (by omega), fun h => absurd h hs4, fun _ => ?_⟩) (by rw [hw _ _ (by omega)]; exact Ws (by omega) (by omega) (by omega)) ?_ _
   ·rw [hv8]
    refine ⟨by omega, by rw [List.length_append]; omega, ?_⟩
    have := app_in (put (Ja5 T) (a + 8) (Yb big ((Ja5 T).length : Int) 4)) (Zg big v)
    rw [hXl] at this; exact this
   ·rw [hX, List.append_assoc, hm_long _ hpl.symm]
    have g1 := hm_tri (put T (a + 8) (Yb big ((Ja5 T).length : Int) 4)) hp2.symm
    have g2 := hm_put (s := T) (b := Yb big ((Ja5 T).length : Int) 4) (p := a + 8) (by omega)
    omega
  by_cases hfar : 4 < Wp en.Value * J6 en.Value.kah
  ·rw [← u1] at u2
   obtain ⟨w1, w2⟩ := u2 hfar
   rw [if_pos (by omega), Jb]
   by_cases hroom : (Zg big v).length ≤ Wp en.Value * J6 en.Value.kah
   ·rw [decide_eq_true (show ((Zg big v).length : Int) ≤ ((Wp en.Value * J6 en.Value.kah : Nat) : Int) by omega)]
    unfold U4
    rw [Xf]
    dsimp only
    rw [J2 (by omega), Jb, x8, show (4 : Int) = ((4 : Nat) : Int) from rfl, numAt_eq _ _ (by omega) (by omega) hs, Jb]
    rw [hbig, show Vg big ((s.drop (a + 8)).take 4) = vS s big (a + 8) 4 from rfl, Jh3 (by omega), Jb, Ji7 (by omega) (by rw [Jh5]; omega)]
    have hpl : (put T (vS s big (a + 8) 4) (Zg big v)).length = s.length := by rw [Ja3 (by omega), hp2]
    refine fin _ (by omega) (fun i k a1 a2 a3 => by have := a2 hfar; exact Ws (by omega) (by omega) (by omega)) (fun hpp => ?_) (Ws (by omega) (by omega) (by omega)) ?_ _
    ·have hpp := hpp hfar
     refine ⟨Ws (by omega) (by omega) (by omega), Ws (by omega) (by omega) (by omega), fun h => absurd h hs4, fun _ => ?_⟩
     have hv8 : vS (put T (vS s big (a + 8) 4) (Zg big v)) big (a + 8) 4 = vS s big (a + 8) 4 := congrArg (Vg big) ((Ws (by omega) (by omega) (by omega)).trans (hout _ _ (by omega) (by omega)))
     rw [hv8]
     exact ⟨w1, by omega, put_in (by omega)⟩
    ·have g1 := hm_tri (put T (vS s big (a + 8) 4) (Zg big v)) hp2.symm
     have g2 := hm_put (s := T) (b := Zg big v) (p := vS s big (a + 8) 4) (by omega)
     omega
   ·rw [decide_eq_false (show ¬ ((Zg big v).length : Int) ≤ ((Wp en.Value * J6 en.Value.kah : Nat) : Int) by omega)]
    exact deflt
  ·rw [if_neg (by omega)]
   exact deflt
end Go.M

namespace Go.M
open Go.Md Go.Pl
theorem map_set {l : List Ta} (hr : Ris l) {k : Nat} (hk : k < l.length) (F : Ta → Ta) : (l.map fun e => if e.Tag = l[k].Tag then F e else e) = l.set k (F l[k]) := by
 have hp := List.pairwise_iff_getElem.1 hr
 refine List.ext_getElem (by simp) fun i h1 h2 => ?_
 rw [List.getElem_map, List.getElem_set]
 have hi : i < l.length := by simpa using h1
 by_cases h : k = i
 ·subst h; rw [if_pos rfl, if_pos rfl]
 ·rw [if_neg h, if_neg]
  intro e
  rcases Nat.lt_or_ge i k with hlt | hge
  ·have := hp i k hi hk hlt; omega
  ·have := hp k i hk hi (by omega); omega
theorem dirPut (v : Td) : ∀ (inner : List Int) (d : Nat) (l : List Ta), okR d l → ∀ ks, Zu l inner = some (some ks) → ∀ t j, ∀ hj : j < (V8 ks l).length, (V8 ks l)[j].Tag = t → putL ks l ((V8 ks l).set j ⟨t, v⟩) = Vq l (inner ++ [t]) v := by
 intro inner
 induction inner with
 | nil =>
  intro d l h ks hks t j hj ht
  obtain rfl : ks = [] := by
   have : some (some ([] : List Nat)) = some (some ks) := hks
   cases this; rfl
  cases d with
  | zero => exact absurd h id
  | succ d =>
   have hj' : j < l.length := hj
   have ht' : l[j].Tag = t := ht
   show l.set j ⟨t, v⟩ = l.map fun e => if e.Tag = t then ⟨e.Tag, v⟩ else e
   rw [← ht', map_set h.2.1 hj' fun e => ⟨e.Tag, v⟩]
 | cons u ts ih =>
  intro d l h ks hks t j hj ht
  cases d with
  | zero => exact absurd h id
  | succ d =>
   obtain ⟨hl, hr, hv⟩ := h
   rw [Zu, Jgz] at hks
   rcases Jhq l u hr hl with ⟨k, hf, hk⟩ | ⟨k, hk', hf, hk⟩
   ·rw [hf, Jb] at hks
    cases hks
   ·rw [hf, Jb] at hks
    have hks : (Jz (Q9 l (k : Int)) fun e => Qv (decide (e.Value.kah ≠ 13)) (some none) (Jz (Zu e.Value.kaf ts) fun r => some (r.map (k :: ·)))) = some (some ks) := hks
    rw [Qn hk', Jb, cI] at hks
    have hm : l[k] ∈ l := List.getElem_mem hk'
    by_cases h13 : l[k].Value.kah = 13
    ·rw [if_neg (fun hh => hh h13)] at hks
     cases hx : Zu l[k].Value.kaf ts with
     | none => rw [hx] at hks; cases hks
     | some x =>
      rw [hx, Jb] at hks
      cases x with
      | none => cases hks
      | some ks' =>
       cases hks
       have hgL : V8 (k :: ks') l = V8 ks' l[k].Value.kaf := by rw [V8, List.getElem?_eq_getElem hk']
       have hu : l[k].Tag = u := (Jg7 hk).2
       have := ih d l[k].Value.kaf ((hv _ hm).2 h13) ks' hx t j (by rw [← hgL]; exact hj) (by
        have := ht
        simp only [hgL] at this
        exact this)
       rw [putL, List.getElem?_eq_getElem hk']
       simp only [hgL]
       rw [this]
       show _ = Vq l (u :: (ts ++ [t])) v
       rw [Jdh, ← hu, map_set hr hk' fun e => putE e (ts ++ [t]) v]
       congr 1
       cases ts with
       | nil => rfl
       | cons w ws => rfl
    ·rw [if_pos h13] at hks
     cases hks
theorem Jh2 : ∀ (ls : List (List Ta)) (i k : Nat) (q : List Int) (v : Td) (hk : k < ls.length), Jdk i ls (((i + k : Nat) : Int) :: q) v = ls.set k (Vq ls[k] q v)
 | [], _, _, _, _, hk => by cases hk
 | l :: ls, i, 0, q, v, _ => by
  rw [Jdk, if_pos (show (((i + 0 : Nat) : Int) :: q).head? = some (i : Int) from rfl)]
  show _ :: Jdk (i + 1) ls (((i + 0 : Nat) : Int) :: q) v = _
  rw [Jhx ls (i + 1) (i + 0) q v (by omega)]
  rfl
 | l :: ls, i, k + 1, q, v, hk => by
  rw [Jdk, if_neg (by intro e; have := Option.some.inj e; omega), show i + (k + 1) = i + 1 + k by omega, Jh2 ls (i + 1) k q v (by simpa using hk)]
  rfl
theorem Put_ok {f g : Tg} {path : List Int} {v : Td} {en : Ta} (hB : Jcj f) (hz : Jac f = 0) (hv : valueC v) (hv0 : valE v = 0) (hp : path.length ≤ 1048576) (hg : gotF f.kal path = some en) (hgB : Jcj g) (hgz : Jac g = 0) (hgD : g.kal = Jdk 0 f.kal path v) (hgb : g.Big = f.Big) : Jgi f path v = some (g, 0) := by
 obtain ⟨hok, hn⟩ := okFs hB hz
 obtain ⟨hv1, hv2⟩ := hv
 have hvB : vB v := ⟨by omega, by omega, by omega⟩
 obtain ⟨w1, w2⟩ := val_ok hv0
 have hf8 : fitF 8 f := ⟨by omega, fun l hl => by obtain ⟨h1, h2⟩ := hok l hl; exact fits8 h1 (by omega) (by omega)⟩
 unfold Jgi
 rw [Us hB, hz, Jb, cI, if_neg (fun hh => hh rfl), Jfc hvB (by omega), hv0, Jb, cI, if_neg (fun hh => hh rfl), if_pos ⟨hf8, fitV8 (d := 5) (by omega) w1 w2 (by omega) (by omega) (by omega)⟩]
 have h2 : ¬ path.length < 2 := fun h => by rw [Jic h] at hg; cases hg
 obtain ⟨p0, inner, t, rfl⟩ : ∃ p0 inner t, path = p0 :: (inner ++ [t]) := by
  cases path with
  | nil => simp at h2
  | cons p0 q =>
   have hq : q ≠ [] := fun hh => by rw [hh] at h2; simp at h2
   exact ⟨p0, q.dropLast, q.getLast hq, by rw [List.dropLast_concat_getLast]⟩
 have hlen : (p0 :: (inner ++ [t])).length = inner.length + 2 := by simp
 have g0 : Q9 (p0 :: (inner ++ [t])) (0 : Int) = some p0 := Qn (xs := p0 :: (inner ++ [t])) (k := 0) (by simp)
 have gl : Q9 (p0 :: (inner ++ [t])) (((p0 :: (inner ++ [t])).length : Int) - 1) = some t := by
  have := gAt_mid (p0 :: inner) t []
  rw [hlen]
  rw [show ((p0 :: inner).length : Int) = ((inner.length + 2 : Nat) : Int) - 1 by simp; omega] at this
  exact this
 have c1 : Xr (p0 :: (inner ++ [t])) 1 (((p0 :: (inner ++ [t])).length : Int) - 1) = some inner := by
  rw [Jcr (by omega), hlen]
  have e1 : (1 : Int).toNat = 1 := rfl
  have e2 : (((inner.length + 2 : Nat) : Int) - 1).toNat - 1 = inner.length := by omega
  rw [e1, e2]
  simp
 unfold Jbb
 rw [cI, if_neg (by omega), g0, Jb, J2 (by omega), Jb, Jet, Jb, cI]
 by_cases h0 : p0 < 0 ∨ (f.kal.length : Int) - 1 < p0
 ·rw [Jib (by omega)] at hg; cases hg
 rw [if_neg h0]
 obtain ⟨k, rfl⟩ : ∃ k : Nat, p0 = k := ⟨p0.toNat, by omega⟩
 have hk : k < f.kal.length := by omega
 obtain ⟨o1, o2⟩ := hok _ (List.getElem_mem hk)
 obtain ⟨r, r1, r2, r3⟩ := dirG inner 5 f.kal[k] o1
 rw [gotF_at hk, r2 t] at hg
 rw [J2 (by omega), Qn hk, Jb, Jb, c1, Jb, r1, Jb, Jb]
 cases r with
 | none => cases hg
 | some ks =>
  obtain ⟨d, d1, d2, d3⟩ := r3 ks rfl
  simp only [Option.map_some, Int.toNat_natCast]
  have hgF : getF (k :: ks) f.kal = V8 ks f.kal[k] := by rw [getF, List.getElem?_eq_getElem hk]
  rw [Jb, gl, Jb, hgF, Jgz]
  cases d with
  | zero => exact absurd d2 id
  | succ d =>
   obtain ⟨hl, hr, hvv⟩ := d2
   rcases Jhq (V8 ks f.kal[k]) t hr hl with ⟨j, hf, hj⟩ | ⟨j, hj', hf, hj⟩
   ·have hg : lk (V8 ks f.kal[k]) t = some en := hg
    rw [hj] at hg; cases hg
   ·rw [hf, Jb]
    show Qv true _ _ = _
    rw [Xf]
    show Jz (gSet (V8 ks f.kal[k]) (j : Int) _) _ = _
    rw [Jcu (by omega) (by simpa using hj'), Jb, Int.toNat_natCast]
    have ht : (V8 ks f.kal[k])[j].Tag = t := (Jg7 hj).2
    have e1 : putF (k :: ks) f.kal ((V8 ks f.kal[k]).set j ⟨t, v⟩) = g.kal := by
     rw [putF, List.getElem?_eq_getElem hk]
     simp only
     rw [dirPut v inner 5 f.kal[k] o1 ks r1 t j hj' ht, hgD]
     have := Jh2 f.kal 0 k (inner ++ [t]) v hk
     rw [Nat.zero_add] at this
     exact this.symm
    unfold Jd6
    rw [e1, ← hgb, show (⟨g.Big, g.kal⟩ : Tg) = g by cases g; rfl, Us hgB, hgz, Jb, cI, if_neg (fun hh => hh rfl)]
theorem dm_map {h : Ta → Ta → List (List Int)} {p : List Int} {F : Ta → Ta} (hF : ∀ e, (F e).Tag = e.Tag) : ∀ l : List Ta, dm h p l (l.map F) = l.flatMap fun e => h e (F e)
 | [] => by rw [List.map_nil, dm]; rfl
 | e :: l => by
  rw [List.map_cons, dm, if_neg (by rw [hF]; omega), if_neg (by rw [hF]; omega), dm_map hF l]; rfl
theorem Jg5 (d : Nat) (ih : ∀ l p, dif d l l p = []) (p : List Int) (x : Ta) : W8 d p x x = [] := by
 unfold W8
 split
 ·exact ih _ _
 ·exact if_pos ⟨rfl, rfl, rfl, rfl⟩
theorem Jf5 : ∀ (d : Nat) (l : List Ta) (p : List Int), dif d l l p = [] := by
 intro d
 induction d with
 | zero => intro l p; rfl
 | succ d ih =>
  intro l p
  rw [Jf4]
  have := dm_map (h := W8 d p) (p := p) (F := id) (fun _ => rfl) l
  rw [List.map_id] at this
  rw [this, List.flatMap_eq_nil_iff]
  exact fun x _ => Jg5 d ih p x
theorem dif_put {v : Td} (h13 : v.kah ≠ 13) : ∀ (d : Nat) (l : List Ta) (rest : List Int) (p : List Int) (en : Ta), okR d l → Jaq l rest = some en → dif d l (Vq l rest v) p = [] ∨ dif d l (Vq l rest v) p = [p ++ rest] := by
 intro d
 induction d with
 | zero => intro l rest p en h; exact absurd h id
 | succ d ih =>
  intro l rest p en h hg
  cases rest with
  | nil => cases hg
  | cons t ts =>
   obtain ⟨hl, hr, hv⟩ := h
   rw [Jf4, Jdh, dm_map (fun e => by split; exact putE_tag e ts v; rfl)]
   have one : ∀ e ∈ l, e.Tag = t → W8 d p e (putE e ts v) = [] ∨ W8 d p e (putE e ts v) = [p ++ t :: ts] := by
    intro e he ht
    unfold W8
    have hlk : lk l t = some e := by
     obtain ⟨k, hk, rfl⟩ := List.getElem_of_mem he
     rw [← ht]; exact lk_at hr hk
    cases ts with
    | nil =>
     rw [if_neg (fun hh => h13 hh.2)]
     split
     ·exact .inl rfl
     ·exact .inr (by rw [ht])
    | cons u ts =>
     simp only [Jaq, hlk] at hg
     split at hg
     ·rename_i hk
      rw [if_pos ⟨hk, hk⟩]
      rcases ih e.Value.kaf (u :: ts) (p ++ [e.Tag]) en ((hv e he).2 hk) hg with h | h
      ·exact .inl h
      ·refine .inr (h.trans ?_)
       rw [ht, List.append_assoc]; rfl
     ·cases hg
   clear hg hl hv
   induction l with
   | nil => exact .inl rfl
   | cons e l ihl =>
    obtain ⟨h1, h2⟩ := List.pairwise_cons.1 hr
    rw [List.flatMap_cons]
    by_cases ht : e.Tag = t
    ·have hrest : (l.flatMap fun e => W8 d p e (if e.Tag = t then putE e ts v else e)) = [] := by
      rw [List.flatMap_eq_nil_iff]
      intro x hx
      rw [if_neg (by have := h1 x hx; omega)]
      exact Jg5 d (Jf5 d) p x
     rw [hrest, List.append_nil, if_pos ht]
     exact one e (.head _) ht
    ·rw [if_neg ht, Jg5 d (Jf5 d) p e, List.nil_append]
     exact ihl h2 fun x hx => one x (.tail _ hx)
theorem difs_self : ∀ (ls : List (List Ta)) (i : Nat), difs ls ls i = []
 | [], _ => rfl
 | l :: ls, i => by rw [difs, Jf5, difs_self ls]; rfl
theorem difs_put {v : Td} (h13 : v.kah ≠ 13) : ∀ (ls : List (List Ta)) (i k : Nat) (q : List Int) (en : Ta) (hk : k < ls.length), (∀ l ∈ ls, okR 5 l) → Jaq ls[k] q = some en → difs ls (Jdk i ls (((i + k : Nat) : Int) :: q) v) i = [] ∨ difs ls (Jdk i ls (((i + k : Nat) : Int) :: q) v) i = [((i + k : Nat) : Int) :: q]
 | [], _, _, _, _, hk, _, _ => by cases hk
 | l :: ls, i, 0, q, en, hk, hok, hg => by
  rw [Jh2 (l :: ls) i 0 q v hk]
  show dif 5 l (Vq l q v) [(i : Int)] ++ difs ls ls (i + 1) = [] ∨ dif 5 l (Vq l q v) [(i : Int)] ++ difs ls ls (i + 1) = _
  rw [difs_self, List.append_nil]
  exact dif_put h13 5 l q [(i : Int)] en (hok l (.head _)) hg
 | l :: ls, i, k + 1, q, en, hk, hok, hg => by
  rw [Jdk, if_neg (by intro e; have := Option.some.inj e; omega)]
  rw [difs, Jf5, List.nil_append, show i + (k + 1) = i + 1 + k by omega]
  exact difs_put h13 ls (i + 1) k q en (by simpa using hk) (fun x hx => hok x (.tail _ hx)) hg
theorem Jf6 (s : List UInt8) (path : List Int) (v : Td) (hp : path.length ≤ 1048576) (hv : valueC v) : W4 s path v = some true := by
 obtain ⟨o, h1, h2, h3⟩ := patch_cases s path v hp hv
 unfold W4
 rw [awake_eq, Jb, Bool.not_true, Qm, h1, Jb, cI]
 by_cases he : o.2 = 0
 rotate_left
 ·rw [if_pos he, h2 he]; rfl
 rw [if_neg (by simp [he])]
 obtain ⟨hv0, h13, f, ps, g, pt, en, a, p0, n0, rs, rt, hg, ho13, hmem, M, h8, hhm⟩ := h3 he
 generalize hot : o.1 = t at *
 obtain ⟨hB, hz, hs8, hs65⟩ := Jhb rs
 obtain ⟨gB, gz, ht8, ht65⟩ := Jhb rt
 obtain ⟨hok, hn⟩ := okFs hB hz
 obtain ⟨gok, gn⟩ := okFs gB gz
 have hok1 : ∀ l ∈ f.kal, okR 5 l := fun l hl => (hok l hl).1
 obtain ⟨hgD, hgb⟩ := read_T M rs rt hok1 h8 hmem
 have hlen := M.len
 have hC : Zw f = some 0 := by rw [Us hB, hz]
 have hw : Jb6 g = some (octF g, 0) := by rw [Write_eq gB, if_pos gz]
 have hr1 : Jax s = some (f, 0) := by unfold Jax; rw [rs, Jb]
 have hr2 : Jax t = some (g, 0) := by unfold Jax; rw [rt, Jb]
 have hz0 : ∀ {α : Type} (x y : Option α), Qv (decide ((0 : Int) ≠ 0)) x y = y := fun x y => rfl
 rw [hr1, Jb, hr2, Jb]
 dsimp only
 rw [Put_ok hB hz hv hv0 hp hg gB gz hgD hgb, Jb, hw, Jb]
 dsimp only
 rw [Jb]
 dsimp only
 rw [hz0, hz0, hz0, hz0, hz0, cI, if_neg (fun hh => hh rfl), cI, if_neg (by omega)]
 have hll : f.kal.length = g.kal.length := by rw [hgD, putR_len]
 rw [Differ_eq hB gB, if_neg (by simp [hz]), if_neg (by simp [gz]), Differ_j1_eq hok gok hll hn, Jb]
 dsimp only
 rw [hz0]
 have hj1 : Zs s path (t, o.2) (f, 0) = some true := by
  unfold Zs
  dsimp only
  rw [Get_eq hok hn hp hC, Jb, hg]
  dsimp only
  rw [hz0]
  have := count_loop s t o.2 (en.Value, 0) hlen hs65 s.length 0 0 (by omega) (Nat.le_refl _)
  refine Eq.trans this ?_
  rw [List.drop_zero, List.drop_zero, Nat.zero_add]
  obtain ⟨_, e1, e2, e3⟩ := gotF_ok hok hg
  unfold V2
  dsimp only
  rw [J2 (by omega), Jb, J2 (by omega), Jb, J2 (by omega), Jb, J2 (by omega), Jb, J2 (by omega), Jb, decide_eq_true (by omega)]
 have hot2 : o = (t, o.2) := by rw [← hot]
 rw [hot2]
 obtain ⟨k, q, hk, hpe, hgq⟩ : ∃ (k : Nat) (q : List Int), ∃ hk : k < f.kal.length, path = (k : Int) :: q ∧ Jaq f.kal[k] q = some en := by
  cases path with
  | nil => cases hg
  | cons i q =>
   by_cases h0 : i < 0 ∨ (f.kal.length : Int) ≤ i
   ·rw [Jib h0] at hg; cases hg
   ·obtain ⟨k, rfl⟩ : ∃ k : Nat, i = k := ⟨i.toNat, by omega⟩
    exact ⟨k, q, by omega, rfl, by rw [gotF_at (by omega)] at hg; exact hg⟩
 have hd := difs_put h13 f.kal 0 k q en hk hok1 hgq
 rw [Nat.zero_add, ← hpe, ← hgD] at hd
 rcases hd with hd | hd
 ·rw [hd, cI, if_neg (by simp), cI, if_neg (by simp)]
  exact hj1
 ·rw [hd, cI, if_neg (by simp), cI, if_pos (by simp)]
  rw [show Q9 [path] (0 : Int) = some path from Qn (xs := [path]) (k := 0) (by simp), Jb, eqInts _ _ (by omega), Jb, decide_eq_true rfl, Bool.not_true, Qm]
  exact hj1
theorem Jik (s : List UInt8) (path : List Int) (v : Td) {P : Prop} (_ : P) (hp : path.length ≤ 1048576) (hv : valueC v) : W4 s path v = some true := Jf6 s path v hp hv
end Go.M

namespace Go.Vc
open Go
variable {H : Type} {enc : TypeId × Value → H} {P : Program} {w : World} {base : Nat} {spare : Nat → Bool} {held : Bool}
theorem W6 {w : World} {base k : Nat} {a : Addr} {cs : List Value} (h : w.cells? base a k = some cs) : cs.length = k ∧ ∀ i, i < k → w.cell? (a.add i) = cs[i]? :=
 (World.cells?_some h).2
theorem cell_spot {w : World} {a : Addr} {v : Value} (h : w.cell? a = some v) : a.spot = none := by
 unfold World.cell? at h
 split at h
 ·split at h
  ·cases h
  ·rename_i hs; simpa using hs
 ·cases h
theorem Jfw {t fuel : Nat} {k : IntKind} {cs : List Value} {x : DataW H × List MemPlace} (ht : P.underlying t = some (.int k)) (h : DataW.trod enc P w base spare held fuel t cs = some x) : ∃ n : Int, cs = [.int k n] ∧ (Lit.int k n).wf = true := by
 obtain ⟨n, h1, _, h2⟩ := DataW.trod_int ht h
 exact ⟨n, h1, h2⟩
theorem op_bool {t fuel : Nat} {cs : List Value} {x : DataW H × List MemPlace} (ht : P.underlying t = some .bool) (h : DataW.trod enc P w base spare held fuel t cs = some x) : ∃ b : Bool, cs = [.bool b] := by
 obtain ⟨n, h1, _⟩ := DataW.trod_bool ht h
 exact ⟨n, h1⟩
end Go.Vc

namespace Go.Lx
open Go Go.Vc Go.Md
variable {H : Type} {enc : TypeId × Value → H} {P : Program} {w : World} {base : Nat} {spare : Nat → Bool} {held : Bool}
theorem piece {cs l : List Value} {o s : Nat} (h : (cs.drop o).take s = l) (hl : l.length = s) : cs.drop o = l ++ cs.drop (o + s) := by
 have := List.take_append_drop s (cs.drop o)
 rw [h, List.drop_drop] at this
 exact this.symm
theorem Row.snap {w : World} {a : Option Addr} {sz : Nat} {xs : List (List Value)} (h : Row w a sz xs) (hsz : 0 < sz) : RowH (fun b => w.heap[b]?) a sz xs := by
 rcases h with h | ⟨b, off, ha, h⟩
 ·exact .inl h
 ·cases xs with
  | nil => exact .inl rfl
  | cons x r =>
   have h0 := h 0 x rfl
   have hv := h0.2 0 x[0] (by simp [h0.1, hsz])
   unfold World.cell? at hv
   split at hv
   ·rename_i c T m hb
    refine .inr ⟨b, off, c, T, m, ha, hb, fun i y hy => ⟨(h i y hy).1, fun j v hj => ?_⟩⟩
    have := (h i y hy).2 j v hj
    unfold World.cell? at this
    rw [hb] at this
    simpa using this
   ·cases hv
theorem val_struct {r : Reach} {b0 t : Nat} {v : Value} {fs : Array Field} (ht : P.underlying t = some (.struct fs)) (hval : Value.okWide P w r b0 t v) : ∃ cs : List Value, v = .agg cs.toArray ∧ v.cells.toList = cs ∧ cs.length = P.cellsOf t := by
 unfold Value.okWide at hval
 rw [ht] at hval
 obtain ⟨cs, rfl, h, _⟩ := hval; exact ⟨cs.toList, by simp, rfl, by simpa using h⟩
theorem val_cell {r : Reach} {b0 t : Nat} {v : Value} (ht : (match P.underlying t with | some (.int _) | some (.slice _) | some .string | some .bool => true | _ => false) = true) (hval : Value.okWide P w r b0 t v) : v.cells.toList = [v] := by
 unfold Value.okWide at hval
 split at hval
 ·rename_i h; rw [h] at ht; cases ht
 ·rename_i h; rw [h] at ht; cases ht
 ·cases v with
  | agg cs =>
   exfalso
   unfold Cell.okWide at hval
   split at ht <;> simp_all [Cell.ok]
  | _ => rfl
end Go.Lx

namespace Go.Vc
open Go Go.Lx
variable {H : Type} {enc : TypeId × Value → H} {P : Program} {w : World} {base : Nat} {spare : Nat → Bool} {held : Bool}
structure BK (bk : DataW H → Nat) : Prop where
 slice : ∀ (es rs : List (DataW H)) (d : DataW H), d ∈ es → bk d ≤ bk (.slice es rs)
 agg : ∀ (es : List (DataW H)) (d : DataW H), d ∈ es → bk d ≤ bk (.agg es)
 str : ∀ bs : List UInt8, bs.length ≤ bk (.lit (.string bs))
theorem Jfs {bk : DataW H → Nat} (K : BK bk) {t fuel : Nat} {cs : List Value} {x : DataW H × List MemPlace} (ht : P.underlying t = some .string) (h : DataW.trod enc P w base spare held fuel t cs = some x) : ∃ s : List UInt8, cs = [str s] ∧ s.length ≤ 9223372036854775807 ∧ s.length ≤ bk x.1 := by
 obtain ⟨s, h1, h3, h2⟩ := DataW.trod_string ht h
 refine ⟨s.data.toList, by rw [h1], ?_, ?_⟩
 ·have e : s.data.toList.length = s.size := by rw [Array.length_toList]; rfl
  rw [e]
  unfold maxLen at h2
  omega
 ·rw [h3]; exact K.str _
theorem op_fieldB {bk : DataW H → Nat} (K : BK bk) {t fuel i ft fo sz bo : Nat} {nm tg pk : String} {em : Bool} {fs : Array Field} {cs : List Value} {x : DataW H × List MemPlace} (ht : P.underlying t = some (.struct fs)) (hf : fs[i]? = some ⟨nm, ft, fo, em, tg, pk, bo⟩) (hc : P.cellsOf ft = sz) (h : DataW.trod enc P w base spare held fuel t cs = some x) :
  ∃ n y, DataW.trod enc P w base spare held n ft ((cs.drop fo).take sz) = some y ∧ bk y.1 ≤ bk x.1 := by
 subst hc
 obtain ⟨xs, n, _, hx, _, hl, hp⟩ := DataW.trod_struct ht h
 have h1 := hp i _ hf
 have hi : i < fs.size := by
  rcases Nat.lt_or_ge i fs.size with h | h
  ·exact h
  ·rw [Array.getElem?_eq_none h] at hf; cases hf
 rw [List.getElem?_eq_getElem (by omega)] at h1
 refine ⟨n, _, h1, ?_⟩
 rw [hx]
 exact K.agg _ _ (List.mem_map.2 ⟨_, List.getElem_mem _, rfl⟩)
theorem op_sliceB {bk : DataW H → Nat} (K : BK bk) {B : Nat} {α : Type} {f : α → List Value} {good : α → Prop} {t e sz fuel : Nat} {cs : List Value} {x : DataW H × List MemPlace} (hB : bk x.1 ≤ B) (ht : P.underlying t = some (.slice e)) (hc : P.cellsOf e = sz) (hsz : Nat.blt 0 sz = true)
  (hD : ∀ n cs x, bk x.1 ≤ B → cs.length = sz → DataW.trod enc P w base spare held n e cs = some x → ∃ a, cs = f a ∧ good a) (h : DataW.trod enc P w base spare held fuel t cs = some x) :
  ∃ (v : Value) (xs : List α), cs = [v] ∧ FrS (fun b => w.heap[b]?) sz v (xs.map f) ∧ xs.length ≤ 9223372036854775807 ∧ ∀ x ∈ xs, good x := by
 have h' := h
 rcases DataW.trod_slice ht h with ⟨rfl, _⟩ | ⟨a, len, cap, elems, rest, n, _, rfl, hx, _, hl, hm, hlen, hel, _⟩
 ·exact ⟨_, [], rfl, FrS.nil _ _, by simp, by simp⟩
 ·-- the elements, and no others
  have each : ∀ i : Fin len, ∃ a' : α, w.cells? base (a.add (i * sz)) sz = some (f a') ∧ good a' := by
   intro i
   have hi := hel i i.2
   rw [hc] at hi
   have hlt : (i : Nat) < elems.length := by rw [hlen]; exact i.2
   rw [List.getElem?_eq_getElem hlt, Option.bind_eq_some_iff] at hi
   obtain ⟨cs', h1, h2⟩ := hi
   have hb : bk (elems[(i : Nat)]).1 ≤ B := by
    refine Nat.le_trans ?_ hB
    rw [hx]
    exact K.slice _ _ _ (List.mem_map.2 ⟨_, List.getElem_mem _, rfl⟩)
   obtain ⟨a', rfl, hg⟩ := hD _ _ _ hb (W6 h1).1 h2
   exact ⟨a', h1, hg⟩
  have hsz' : 0 < sz := by simpa using hsz
  have hch : ∃ g : Fin len → α, ∀ i : Fin len, w.cells? base (a.add (i * sz)) sz = some (f (g i)) ∧ good (g i) := ⟨fun i => (each i).choose, fun i => (each i).choose_spec⟩
  obtain ⟨g, hg⟩ := hch
  have hrow : Row w (some a) sz ((List.ofFn g).map f) := by
   cases len with
   | zero => left; simp
   | succ k =>
    have h0 := hg 0
    have hsp : a.spot = none := by
     have := (W6 h0.1).2 0 hsz'
     have hln := (W6 h0.1).1
     rw [List.getElem?_eq_getElem (by omega)] at this
     have hs := cell_spot this
     simpa [Addr.add] using hs
    obtain ⟨b, off, spot⟩ := a
    simp only at hsp
    subst hsp
    refine .inr ⟨b, off, rfl, fun i x hx => ?_⟩
    have hi : i < k + 1 := by
     rcases Nat.lt_or_ge i (k + 1) with h | h
     ·exact h
     ·rw [List.getElem?_eq_none (by simpa using h)] at hx; cases hx
    have hx' : x = f (g ⟨i, hi⟩) := by
     rw [List.getElem?_map, List.getElem?_ofFn, dif_pos hi] at hx
     exact (Option.some.inj hx).symm
    subst hx'
    obtain ⟨c1, c2⟩ := W6 (hg ⟨i, hi⟩).1
    refine ⟨c1, fun j v hv => ?_⟩
    have hj : j < sz := by
     rcases Nat.lt_or_ge j sz with h | h
     ·exact h
     ·rw [List.getElem?_eq_none (by omega)] at hv; cases hv
    have := c2 j hj
    rw [hv, Addr.add_lit, Addr.add_lit] at this
    exact this
  have hm' : cap ≤ 9223372036854775807 := by simpa [maxLen] using hm
  refine ⟨_, List.ofFn g, rfl, ⟨⟨some a, cap, by simp, by simpa using hl, hm', Row.snap hrow hsz'⟩⟩, by simp; omega, ?_⟩
  intro x hx
  rw [List.mem_ofFn] at hx
  obtain ⟨i, rfl⟩ := hx
  exact (hg i).2
end Go.Vc

namespace Go.Vc
open Go Go.Lx
section
variable {H : Type} {enc : TypeId × Value → H} {P : Program} {w : World} {base : Nat} {spare : Nat → Bool} {held : Bool}
structure BKL (bk : DataW H → Nat) : Prop extends BK bk where
 len : ∀ es rs : List (DataW H), es.length ≤ bk (.slice es rs)
theorem Jc1 {bk : DataW H → Nat} (K : BKL bk) {B : Nat} {α : Type} {f : α → List Value} {good : α → Prop} {t e sz fuel : Nat} {cs : List Value} {x : DataW H × List MemPlace} (hB : bk x.1 ≤ B) (ht : P.underlying t = some (.slice e)) (hc : P.cellsOf e = sz) (hsz : Nat.blt 0 sz = true)
  (hD : ∀ n cs x, bk x.1 ≤ B → cs.length = sz → DataW.trod enc P w base spare held n e cs = some x → ∃ a, cs = f a ∧ good a) (h : DataW.trod enc P w base spare held fuel t cs = some x) :
  ∃ (v : Value) (xs : List α), cs = [v] ∧ FrS (fun b => w.heap[b]?) sz v (xs.map f) ∧ (xs.length ≤ 9223372036854775807 ∧ xs.length ≤ B) ∧ ∀ x ∈ xs, good x := by
 obtain ⟨v, xs, e1, fr, hn, hg⟩ := op_sliceB K.toBK hB ht hc hsz hD h
 refine ⟨v, xs, e1, fr, ⟨hn, ?_⟩, hg⟩
 obtain ⟨a, c, rfl, _⟩ := fr.out
 rcases DataW.trod_slice ht h with ⟨e2, _⟩ | ⟨a', len, cap, elems, rest, n, _, e2, hx, _, _, _, hlen, _⟩
 ·rw [e1] at e2
  injection e2 with e2 _
  injection e2 with _ e2 _
  rw [List.length_map] at e2; omega
 ·rw [e1] at e2
  injection e2 with e2 _
  injection e2 with _ e2 _
  rw [List.length_map] at e2
  rw [hx] at hB
  have := K.len (elems.map (·.1)) (rest.map (·.1))
  rw [List.length_map] at this
  simp only at hB
  omega
end
section
variable {H : Type} {enc : TypeId × Value → H}
end
end Go.Vc

namespace Go.Vc
open Go Go.Lx
variable {H : Type} {enc : TypeId × Value → H} {P : Program} {w : World} {base : Nat} {spare : Nat → Bool} {held : Bool}
end Go.Vc

namespace Go.Lx
open Go Go.Vc Go.Md Go.ChangeShapes Go.WideShapes Go.ChangeAt
theorem Jba {cs l : List Value} {o s q : Nat} (h : (cs.drop o).take s = l) (hq : q < l.length) : cs.getD (o + q) undef = l.getD q undef := by
 subst h
 have hs : q < s := by rw [List.length_take] at hq; omega
 simp only [List.getD_eq_getElem?_getD, List.getElem?_take, List.getElem?_drop, if_pos hs]
section
variable {P : Program} {H : Type} {enc : TypeId × Value → H} {w : World} {base : Nat} {spare : Nat → Bool} {held : Bool}
end
end Go.Lx

namespace Go.Lx
open Go Go.Vc Go.Md Go.ChangeShapes Go.WideShapes Go.ChangeAt
theorem Jfn {a : Nat} : ∀ {l : List Nat}, a ∈ l → a ≤ l.sum
 | [], h => by cases h
 | x :: l, h => by
  rw [List.sum_cons]
  rcases List.mem_cons.1 h with h | h
  ·omega
  ·have := Jfn h; omega
theorem Jiz {α β : Type} {f : α → Nat} {g : β → Nat} : ∀ {xs : List α} {ys : List β}, xs.length = ys.length → (∀ (i : Nat) x y, xs[i]? = some x → ys[i]? = some y → f x ≤ g y) → (xs.map f).sum ≤ (ys.map g).sum
 | [], [], _, _ => Nat.le_refl _
 | [], _ :: _, h, _ => by simp at h
 | _ :: _, [], h, _ => by simp at h
 | x :: xs, y :: ys, h, k => by
  rw [List.map_cons, List.map_cons, List.sum_cons, List.sum_cons]
  have h1 := k 0 x y rfl rfl
  have h2 := Jiz (f := f) (g := g) (xs := xs) (ys := ys) (by simpa using h) (fun i a b ha hb => k (i + 1) a b (by simpa using ha) (by simpa using hb))
  omega
theorem Jfj {α : Type} {f : α → Nat} (h : ∀ x, 1 ≤ f x) : ∀ xs : List α, xs.length ≤ (xs.map f).sum
 | [] => Nat.zero_le _
 | x :: xs => by rw [List.map_cons, List.sum_cons, List.length_cons]; have := h x; have := Jfj h xs; omega
section
variable {H : Type} {enc : TypeId × Value → H} {P : Program} {w : World} {base : Nat} {spare : Nat → Bool} {held : Bool}
structure BKS (bk : DataW H → Nat) : Prop where
 slice : ∀ es rs : List (DataW H), (es.map bk).sum ≤ bk (.slice es rs)
 agg : ∀ es : List (DataW H), (es.map bk).sum ≤ bk (.agg es)
 str : ∀ bs : List UInt8, bs.length ≤ bk (.lit (.string bs))
 one : ∀ d : DataW H, 1 ≤ bk d
theorem BKS.toBK {bk : DataW H → Nat} (K : BKS bk) : BK bk :=
 ⟨fun es rs d h => Nat.le_trans (Jfn (List.mem_map.2 ⟨d, h, rfl⟩)) (K.slice es rs), fun es d h => Nat.le_trans (Jfn (List.mem_map.2 ⟨d, h, rfl⟩)) (K.agg es), K.str⟩
theorem BKS.toBKL {bk : DataW H → Nat} (K : BKS bk) : BKL bk := { toBK := K.toBK, len := fun es rs => Nat.le_trans (Jfj K.one es) (K.slice es rs) }
theorem Jdz {bk : DataW H → Nat} (K : BKS bk) {t fuel : Nat} {fs : Array Field} {cs : List Value} {x : DataW H × List MemPlace} (ht : P.underlying t = some (.struct fs)) (h : DataW.trod enc P w base spare held fuel t cs = some x) :
  ∃ (n : Nat) (xs : List (DataW H × List MemPlace)), n < fuel ∧ xs.length = fs.size ∧ (xs.map fun y => bk y.1).sum ≤ bk x.1 ∧ ∀ (i : Nat) (f : Field) (sz : Nat), fs[i]? = some f → P.cellsOf f.type = sz → DataW.trod enc P w base spare held n f.type ((cs.drop f.offset).take sz) = xs[i]? := by
 obtain ⟨xs, n, hn, hx, _, hl, hp⟩ := DataW.trod_struct ht h
 refine ⟨n, xs, by omega, hl, ?_, fun i f sz hf hc => by subst hc; exact hp i f hf⟩
 rw [hx]
 have := K.agg (xs.map (·.1))
 rw [List.map_map] at this
 exact this
theorem Je1 {bk : DataW H → Nat} (K : BKS bk) {α δ : Type} {G : Jt → (Nat → Value) → α → Prop} {m : δ → α → Nat} {t e sz fuel : Nat} {cs : List Value} {x : DataW H × List MemPlace} (ht : P.underlying t = some (.slice e)) (hc : P.cellsOf e = sz) (hsz : Nat.blt 0 sz = true)
  (hD : ∀ n cs x, n < fuel → cs.length = sz → DataW.trod enc P w base spare held n e cs = some x → ∃ a : α, G (fun b => w.heap[b]?) (fun j => cs.getD j undef) a ∧ ∀ d, m d a ≤ bk x.1) (h : DataW.trod enc P w base spare held fuel t cs = some x) :
  ∃ (v : Value) (xs : List α), cs = [v] ∧ FrN (fun b => w.heap[b]?) sz v G xs ∧ xs.length ≤ bk x.1 ∧ ∀ d, (xs.map (m d)).sum ≤ bk x.1 := by
 rcases DataW.trod_slice ht h with ⟨rfl, _⟩ | ⟨a, len, cap, elems, rest, n, hn, rfl, hx, _, hl, hm, hlen, hel, _⟩
 ·exact ⟨_, [], rfl, FrN.nil _ _ _, by simp, by simp⟩
 ·have each : ∀ i : Fin len, ∃ p : List Value × α, w.cells? base (a.add (i * sz)) sz = some p.1 ∧ p.1.length = sz ∧ G (fun b => w.heap[b]?) (fun j => p.1.getD j undef) p.2 ∧ ∀ d y, elems[(i : Nat)]? = some y → m d p.2 ≤ bk y.1 := by
   intro i
   have hi := hel i i.2
   rw [hc] at hi
   have hlt : (i : Nat) < elems.length := by rw [hlen]; exact i.2
   rw [List.getElem?_eq_getElem hlt, Option.bind_eq_some_iff] at hi
   obtain ⟨cs', h1, h2⟩ := hi
   obtain ⟨a', hg, hmm⟩ := hD _ _ _ (by omega) (W6 h1).1 h2
   refine ⟨(cs', a'), h1, (W6 h1).1, hg, fun d y hy => ?_⟩
   rw [List.getElem?_eq_getElem hlt] at hy
   cases hy
   exact hmm d
  have hsz' : 0 < sz := by simpa using hsz
  have hch : ∃ g : Fin len → List Value × α, ∀ i : Fin len, w.cells? base (a.add (i * sz)) sz = some (g i).1 ∧ (g i).1.length = sz ∧ G (fun b => w.heap[b]?) (fun j => (g i).1.getD j undef) (g i).2 ∧ ∀ d y, elems[(i : Nat)]? = some y → m d (g i).2 ≤ bk y.1 := ⟨fun i => (each i).choose, fun i => (each i).choose_spec⟩
  obtain ⟨g, hg⟩ := hch
  have hrow : Row w (some a) sz ((List.ofFn g).map fun p => p.1) := by
   cases len with
   | zero => left; simp
   | succ k =>
    have h0 := hg 0
    have hsp : a.spot = none := by
     have := (W6 h0.1).2 0 hsz'
     have hln := (W6 h0.1).1
     rw [List.getElem?_eq_getElem (by omega)] at this
     have hs := cell_spot this
     simpa [Addr.add] using hs
    obtain ⟨b, off, spot⟩ := a
    simp only at hsp
    subst hsp
    refine .inr ⟨b, off, rfl, fun i x hx => ?_⟩
    have hi : i < k + 1 := by
     rcases Nat.lt_or_ge i (k + 1) with h | h
     ·exact h
     ·rw [List.getElem?_eq_none (by simpa using h)] at hx; cases hx
    have hx' : x = (g ⟨i, hi⟩).1 := by
     rw [List.getElem?_map, List.getElem?_ofFn, dif_pos hi] at hx
     exact (Option.some.inj hx).symm
    subst hx'
    obtain ⟨c1, c2⟩ := W6 (hg ⟨i, hi⟩).1
    refine ⟨c1, fun j v hv => ?_⟩
    have hj : j < sz := by
     rcases Nat.lt_or_ge j sz with h | h
     ·exact h
     ·rw [List.getElem?_eq_none (by omega)] at hv; cases hv
    have := c2 j hj
    rw [hv, Addr.add_lit, Addr.add_lit] at this
    exact this
  have hm' : cap ≤ 9223372036854775807 := by simpa [maxLen] using hm
  have hfr : FrS (fun b => w.heap[b]?) sz (.slice (some a) len cap) ((List.ofFn g).map fun p => p.1) := ⟨⟨some a, cap, by simp, by simpa using hl, hm', Row.snap hrow hsz'⟩⟩
  refine ⟨_, (List.ofFn g).map Prod.snd, rfl, ?_, ?_, fun d => ?_⟩
  ·refine Wu (css := (List.ofFn g).map Prod.fst) ?_ ⟨by simp, fun i c y hc hy => ?_⟩
   ·have : ((List.ofFn g).map Prod.fst).map idC = (List.ofFn g).map fun p => p.1 := by rw [List.map_map]; rfl
    rw [this]; exact hfr
   ·simp only [List.getElem?_map, Option.map_eq_some_iff] at hc hy
    obtain ⟨p, hp, rfl⟩ := hc
    obtain ⟨q, hq, rfl⟩ := hy
    rw [hp] at hq
    cases hq
    have hpm := List.mem_of_getElem? hp
    rw [List.mem_ofFn] at hpm
    obtain ⟨j, rfl⟩ := hpm
    exact ⟨(hg j).2.1, (hg j).2.2.1⟩
  ·have h1 := Jfj K.one (elems.map (·.1))
   have h2 := K.slice (elems.map (·.1)) (rest.map (·.1))
   rw [hx]
   simp only [List.length_map, List.length_ofFn] at h1 ⊢
   omega
  ·have h2 := K.slice (elems.map (·.1)) (rest.map (·.1))
   rw [hx]
   refine Nat.le_trans (Jiz (by simp [hlen]) fun i a y ha hy => ?_) h2
   rw [List.getElem?_map, Option.map_eq_some_iff] at ha hy
   obtain ⟨p, hp, rfl⟩ := ha
   obtain ⟨y, hy, rfl⟩ := hy
   have hi : i < len := by
    rcases Nat.lt_or_ge i len with h | h
    ·exact h
    ·rw [List.getElem?_eq_none (by simpa using h)] at hp; cases hp
   rw [List.getElem?_ofFn, dif_pos hi] at hp
   cases hp
   exact (hg ⟨i, hi⟩).2.2.2 d y hy
end
end Go.Lx
