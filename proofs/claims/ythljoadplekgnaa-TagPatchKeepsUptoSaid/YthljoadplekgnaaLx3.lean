/- Rules: octets and strings, slices that may be appended to whether they are one's own or full, clips. Conditions: none. -/
import Derived.Test.YthljoadplekgnaaMd
import Derived.Lib.AppendStr
import Derived.Laws.BytesString
import Derived.Laws.RangeString
import Derived.Laws.CopyRow
import Derived.Laws.IdiomCopy
import Derived.Lib.UnsafeStr
import Derived.Lib.Builder
import Derived.Laws.Pointers
import Derived.Lib.AppendZeros
import Derived.Shelf.Sort.Plain
import Derived.Shelf.Slices.In.SortNone
import Derived.Sort.OwnSortedInts
import Derived.Shelf.SlSortCmp.WholeK
import Derived.Shelf.SlSortCmp.NoneTotal
import Derived.ArgAppend
import Derived.Lib.ConvBytes
import Derived.Maps.RangeRun
import Derived.Shelf.Slices.CompactS
import Derived.Sort.OwnSorted
import Derived.Shelf.Slices.CompactI
import Derived.Test.YthljoadplekgnaaProg
import Derived.Tactics
import Derived.Tactics2
import Derived.StillTactics
import Derived.LoopTactic
import Derived.Laws.Cover1
import Derived.WalkKit
import Derived.StillTailTactics
import Derived.Deep.RegionHeld3
import Derived.Lib.Bytealg
import Derived.Lib.SmallJoins
import Derived.Lib.AppendIntMem
import Derived.Shelf.Strconv.Itoa3
import Derived.Shelf.Strconv.Atoi
import Derived.Shelf.Strings.Repeat
import Derived.Shelf.Strings.OnBuilder
import Derived.LoopN
import Derived.Lib.Overlaps
namespace Go.Lx
open Go Go.Vc Go.Md
theorem Jdv {w : World} {E sz k old : Nat} {z : Value} {xs news : List Value} (hzs : z.cells.size = sz) (hl : (xs ++ news).length = k * sz) (h63 : k ≤ maxLen) :
  (w.drew.alloc (.cells (xs.toArray ++ news.toArray ++ Builtin.zeroCells z.cells (grownCap w k old E - k)) E)).ownsRow 0 E sz (.slice (some ⟨w.heap.size, 0, none⟩) k (grownCap w k old E)) k (xs ++ news) := by
 have hge := grownCap_ge w k old E
 have hcm : grownCap w k old E ≤ maxLen := grownCap_le_maxLen w k old E h63
 refine ⟨hl, .inr ⟨w.heap.size, _, _, rfl, Nat.zero_le _, heap_alloc_new w.drew _, hge, hcm, ?_, ?_⟩⟩
 ·have h2 : xs.length + news.length = k * sz := by rw [← List.length_append]; exact hl
  simp only [Array.size_append, List.size_toArray, size_zeroCells, hzs]
  rw [h2, ← Nat.add_mul]
  congr 1
  omega
 ·simp only [Array.toList_append, List.append_assoc]
  rw [← List.append_assoc, ← hl]
  exact List.take_left
theorem Jgu (w : World) (o : Obj) (row : Option Nat) : w.grownBy (w.drew.alloc o) row := ⟨rfl, rfl, rfl, by simp, fun k hk _ => (by first | exact heap_alloc_old w.drew _ k hk | exact heap_alloc_old w.drew _ hk)⟩
theorem fits2 {need old bytes : Nat} (h : old < need) (hb : need * bytes ≤ 140739635838976) (hy : bytes ≤ 1048576) : Builtin.nextslicecap need old * bytes ≤ 281474976710656 := by
 have h1 : Builtin.nextslicecap need old ≤ need + (need + 768) / 4 + 512 := by
  unfold Builtin.nextslicecap
  split
  ·omega
  ·split
   ·omega
   ·rw [growBy_four]
    repeat' split
    all_goals omega
 have h2 : 4 * Builtin.nextslicecap need old ≤ 5 * need + 2816 := by omega
 have h3 := Nat.mul_le_mul_right bytes h2
 rw [Nat.mul_assoc, Nat.add_mul, Nat.mul_assoc] at h3
 omega
def apC (w : World) (E sz : Nat) (v : Value) (n : Nat) (xs : List (List Value)) : Prop :=
 (w.ownsRow 0 E sz v n xs.flatten ∨ (FrS (fun b => w.heap[b]?) sz v xs ∧ ∃ b o, v = .slice (some ⟨b, 0, none⟩) n n ∧ w.heap[b]? = some o)) ∧ xs.length = n ∧ ∀ x ∈ xs, x.length = sz
def apV (E : TypeId) (sz : Nat) (v : Value) (n : Nat) (xs : List (List Value)) : Chunk where
 P S w := apC w E sz v n xs ∧ ∀ b, v.ownBlock = some b → S b
 loc S w w' h := by
  rintro ⟨⟨h1 | ⟨h1, b, o, h2, h5⟩, h3⟩, h4⟩
  ·exact ⟨⟨.inl ((J3 E sz v n xs).loc S w w' h ⟨⟨h1, h3⟩, h4⟩).1.1, h3⟩, h4⟩
  ·exact ⟨⟨.inr ⟨((roV sz v n xs).loc S w w' h ⟨h3.1.symm, h1, h4⟩).2.1, b, o, h2, (h b (h4 b (by rw [h2]; rfl))).trans h5⟩, h3⟩, h4⟩
theorem apC.frs {w : World} {E sz : Nat} {v : Value} {n : Nat} {xs : List (List Value)} (h : apC w E sz v n xs) : FrS (fun b => w.heap[b]?) sz v xs :=
 h.1.elim (fun h1 => Jf3 h1 h.2.1 h.2.2) (fun h1 => h1.1)
theorem apC.slice {w : World} {E sz : Nat} {v : Value} {n : Nat} {xs : List (List Value)} (h : apC w E sz v n xs) : ∃ p : Option Addr × Nat, v = .slice p.1 n p.2 := by
 rcases h.1 with h1 | ⟨_, b', o, rfl, h1⟩
 ·exact U2 h1
 ·exact ⟨(some ⟨b', 0, none⟩, n), rfl⟩
section rules
variable {P : Program} {n : Nat} {cx : Cx} {e : Xs} {L : List Chunk} {d : Nat} {ty : TypeId} {pos : String} {af : Array Edge} {g : Option (Nat × Bool)}
theorem Jdb {w : World} {ad : Addr} {sz : Nat} {news : List (List Value)} (hnl : ∀ x ∈ news, x.length = sz) (hR : Row w (some ad) sz news) : ∀ j u, news.flatten[j]? = some u → w.cell? (ad.add j) = some u := by
 intro j u hj
 obtain ⟨i', k', x, g1, g2, g3⟩ := Jag news hnl j u hj
 rcases hR with h | ⟨b, off, ha, h⟩
 ·subst h; simp at g1
 ·cases ha
  have := (h i' x g1).2 k' u g2
  rw [Addr.add_lit, g3, ← Nat.add_assoc]
  exact this
theorem app_own {w : World} {t E sz by_ : Nat} {I : TypeInfo} {z : Value} {v : Value} {m q c : Nat} {xs news : List Value} {a : Addr} (ht : P.underlying t = some (.slice E)) (hi : P.info? E = some I) (hz : I.zero = some z) (hsize : I.size = sz) (hby : I.bytes = by_) (hzs : z.cells.size = sz)
  (ho : w.ownsRow 0 E sz v m xs) (hq : 0 < q) (hl : news.length = q * sz) (hnews : ∀ j u, news[j]? = some u → w.cell? (a.add j) = some u) (h1 : ∀ u ∈ news, u.oneCell' = true) (h63 : m + q ≤ maxLen) (hbytes : (m + q) * by_ ≤ 140739635838976) (hy : by_ ≤ 1048576) :
  ∃ v' w', (Builtin.append_ #[t, t] ty #[v, .slice (some a) q c]).run P w = .ok v' w' ∧ w'.ownsRow 0 E sz v' (m + q) (xs ++ news) ∧ w.grownBy w' v.ownBlock ∧ (v'.ownBlock = v.ownBlock ∨ v'.ownBlock = some w.heap.size) := by
 subst hsize hby
 have hsmall : m + q ≤ 9223372036854775807 := by simpa [maxLen] using h63
 have hlen : (xs ++ news).length = (m + q) * I.size := by rw [List.length_append, ho.1, hl, Nat.add_mul]
 rcases ho.2 with ⟨rfl, rfl⟩ | ⟨g', cap, cur, rfl, hbg, hg, hnc, hcm, hcs, htake⟩
 ·have hx : xs = [] := List.eq_nil_of_length_eq_zero (by simpa using ho.1)
  subst hx
  have hq48 : q * I.bytes ≤ 281474976710656 := by rw [Nat.zero_add] at hbytes; omega
  have hr := run_append_nil (P := P) w t ty E I z ht hi hz a q c news hl hnews hq (by omega) hq48
  have hgr := Jdv (w := w) (E := E) (sz := I.size) (k := 0 + q) (old := 0) (z := z) (xs := []) (news := news) hzs hlen h63
  refine ⟨_, _, hr, ?_, Jgu _ _ _, .inr rfl⟩
  simpa only [Nat.zero_add, List.nil_append, Array.empty_append] using hgr
 ·by_cases hroom : m + q ≤ cap
  ·have hfit : m * I.size + news.length ≤ cur.size := by rw [hl, hcs, ← Nat.add_mul]; exact Nat.mul_le_mul_right _ hroom
   have hr := run_append_room (P := P) w t ty E I ht hi g' m cap cur hg a q c news hl hnews h1 hroom hfit
   refine ⟨_, _, hr, ⟨hlen, .inr ⟨g', cap, _, rfl, hbg, setRow_heap w g' cur _ E _ hg, hroom, hcm, ?_, ?_⟩⟩, ⟨rfl, rfl, rfl, by simp, fun k _ hk => setRow_other w g' k _ (fun e => hk (by simp [Value.ownBlock, e]))⟩, .inl rfl⟩
   ·simp only [List.size_toArray, List.length_append, List.length_take, List.length_drop, Array.length_toList]
    omega
   ·rw [htake, ← hlen]
    exact List.take_left
  ·have holds : ∀ j u, xs[j]? = some u → w.cell? ((⟨g', 0, none⟩ : Addr).add j) = some u := ho.cells (g := g') rfl
   have hr := run_append_grow (P := P) w t ty E I z ht hi hz ⟨g', 0, none⟩ m cap xs ho.1 holds a q c news hl hnews (by omega) (by omega) (fits2 (by omega) hbytes hy)
   exact ⟨_, _, hr, Jdv hzs hlen h63, Jgu _ _ _, .inr rfl⟩
theorem strSize (s : List UInt8) : (⟨s.toArray⟩ : ByteArray).size = s.length := by simp [ByteArray.size]
theorem Jiv {α : Type} {f : α → List Value} {xs : List α} {i b m sz : Nat} {t T E : TypeId} {X : Operand} {cs : List Value} {rds : List Nat} (hT : T = E) (ht : P.underlying t = some (.slice E)) (he : P.underlying E = some (.int .u8))
  (hL : L[i]? = some (Jf b cs T)) (hx : ev e X = .slice (some ⟨b, 0, none⟩) m m) (hcs : (xs.map f).flatten = cs) (hl : ((xs.map f).all fun x => Nat.beq x.length sz) = true) (hm : xs.length = m) (hm' : Nat.ble m 9223372036854775807 = true) :
  Turns P cx e ⟨some d, .convert t t X, ty, pos, af, g⟩ L i rds (fun _ : Unit => .slice (some ⟨b, 0, none⟩) m m) (fun _ => apV E sz (.slice (some ⟨b, 0, none⟩) m m) m (xs.map f)) := fun w L' hF hS _ hi' => by
 subst hT hm
 have hL' := (hi' i (.inr rfl)).trans hL
 have hh : w.heap[b]? = some (.cells cs.toArray T (0, 0)) := Qp hS hL'
 have hb : b < w.heap.size := (Array.getElem?_eq_some_iff.1 hh).1
 have hnew : (w.freeze ⟨b, cs.length, none⟩ 1).heap[b]? = some (.cells cs.toArray T (cs.length, cs.length + 1)) := by
  simp [World.freeze, Array.getElem?_modify, hh]
 have hothers : ∀ k, k ≠ b → (w.freeze ⟨b, cs.length, none⟩ 1).heap[k]? = w.heap[k]? := by
  intro k hk
  have : ¬ b = k := fun h => hk h.symm
  simp [World.freeze, Array.getElem?_modify, this]
 have hsize : (w.freeze ⟨b, cs.length, none⟩ 1).heap.size = w.heap.size := by simp [World.freeze]
 have hlen : ∀ x ∈ xs.map f, x.length = sz := fun x hx => by simpa using List.all_eq_true.1 hl x hx
 have hc : apC (w.freeze ⟨b, cs.length, none⟩ 1) T sz (.slice (some ⟨b, 0, none⟩) xs.length xs.length) xs.length (xs.map f) := by
  refine ⟨.inr ⟨⟨some ⟨b, 0, none⟩, xs.length, by simp, by simp, by simpa using hm', .inr ⟨b, 0, cs.toArray, T, _, rfl, hnew, fun i x hx => ⟨hlen x (List.mem_of_getElem? hx), fun j v hv => ?_⟩⟩⟩, b, _, rfl, hnew⟩, by simp, hlen⟩
  have := Jak _ i x hl hx j v hv
  rw [hcs] at this
  simpa using this
 have hr : (execOp (ev e) ⟨some d, .convert t t X, ty, pos, af, g⟩).run P w = .ok (.value (.slice (some ⟨b, 0, none⟩) xs.length xs.length)) (w.freeze ⟨b, cs.length, none⟩ 1) := by
  simp [execOp, hx, convert, run_underlying ht, run_underlying he, markStringish, World.shape?, hh]
 obtain ⟨hF', hS'⟩ := hS.turnOf (w' := w.freeze ⟨b, cs.length, none⟩ 1) hF hL' (C := apV T sz (.slice (some ⟨b, 0, none⟩) xs.length xs.length) xs.length (xs.map f)) fun S1 hp =>
  ⟨rfl, rfl, rfl, by rw [hsize]; exact Nat.le_refl _, fun k _ hk => hothers k fun h => hk ((hp.1 k).2 h), S1, ⟨hc, fun k hk => by simp [Value.ownBlock] at hk; exact (hp.1 k).2 hk.symm⟩, fun k hk => ⟨by rw [hsize, (hp.1 k).1 hk]; exact hb, .inl hk⟩⟩
 unfold RunsTo
 rw [hr]
 exact ⟨(), rfl, hF', hS'⟩
theorem fold_push (ns : List Int) : ∀ (r : List UInt8), ns.foldl (fun r n => r.push (UInt8.ofNat n.toNat)) (⟨r.toArray⟩ : ByteArray) = ⟨(r ++ Wn ns).toArray⟩ := by
 induction ns with
 | nil => intro r; simp [Wn]
 | cons n ns ih =>
  intro r
  have : (⟨r.toArray⟩ : ByteArray).push (UInt8.ofNat n.toNat) = ⟨(r ++ [UInt8.ofNat n.toNat]).toArray⟩ := by simp [ByteArray.push]
  rw [List.foldl_cons, this, ih]
  simp [Wn]
theorem Jhg {w : World} {f : Int → List Value} {xs : List Int} {X : Operand} {s t E : TypeId} {a : Option Addr} {c m : Nat} {dd : Option Nat} (hm : m = xs.length) (hs : P.underlying s = some (.slice E)) (he : P.underlying E = some (.int .u8)) (ht : P.underlying t = some .string)
  (hx : ev e X = .slice a m c) (hf : ∀ x, f x = [.int .u8 x]) (hR : Row w a 1 (xs.map f)) : (execOp (ev e) ⟨dd, .convert s t X, ty, pos, af, g⟩).run P w = .ok (.value (str (Wn xs))) w := by
 subst hm
 have hc := run_convert_bytes_string w s t E a xs.length c hs he ht
 have key : (Conv.bytesToString (.slice a xs.length c)).run P w = .ok (str (Wn xs)) w := by
  cases a with
  | none =>
   rcases hR with h | ⟨b, off, h, _⟩
   ·have : xs = [] := by simpa using h
    subst this
    simp [Conv.bytesToString, Wn, str]; rfl
   ·cases h
  | some ad =>
   have hfl : (xs.map f).flatten = xs.map (Value.int .u8) := by
    rw [show f = fun x => [Value.int .u8 x] from funext hf]
    clear hR hc hx
    induction xs with
    | nil => rfl
    | cons x r ih => rw [List.map_cons, List.flatten_cons, ih]; rfl
   have hcell := Jdb (w := w) (fun x hx => by obtain ⟨y, _, rfl⟩ := List.mem_map.1 hx; rw [hf]; rfl) hR
   rw [hfl] at hcell
   have hl := run_loadCells_list (P := P) (w := w) ad (xs.map (Value.int .u8)) hcell
   rw [List.length_map] at hl
   have h0 := run_bytesToString (P := P) w ad xs.length c xs hl
   rw [h0]
   have := fold_push xs []
   rw [List.nil_append] at this
   exact congrArg (fun b => Result.ok (Value.string b) w) this
 simp [execOp, hx, hc, key]
end rules
end Go.Lx

namespace Go.Lx
open Go Go.Vc Go.Md
structure FnH (P : Program) (h : Jt) (v : Value) (R : World → List Value → (Value → World → Prop) → Prop) : Prop where
 out : ∃ (f : FuncId) (pre caps : Array Value), v = .func (.func f) pre caps ∧ (∀ args w, (callFunc f args).run P w = .ok (.enter f args) w) ∧
  ∀ args post w, Know h w Z2 → R w args post → Does P f (pre.toList ++ (args ++ caps.toList)).toArray w post
theorem FnH.mono {P : Program} {h h' : Jt} {v : Value} {R : World → List Value → (Value → World → Prop) → Prop} (f : FnH P h v R) (k : ∀ b o, h b = some o → h' b = some o) : FnH P h' v R := by
 obtain ⟨g, pre, caps, h1, h2, h3⟩ := f.out
 exact ⟨g, pre, caps, h1, h2, fun args r w hw hR => h3 args r w (fun b o hb => hw b o (k b o hb)) hR⟩
theorem FnH.cells {P : Program} {h : Jt} {v : Value} {R : World → List Value → (Value → World → Prop) → Prop} (f : FnH P h v R) : v.cells.toList = [v] := by
 obtain ⟨g, pre, caps, rfl, _⟩ := f.out; rfl
theorem FnH.one {P : Program} {h : Jt} {v : Value} {R : World → List Value → (Value → World → Prop) → Prop} (f : FnH P h v R) : v.oneCell' = true := by
 obtain ⟨g, pre, caps, rfl, _⟩ := f.out; rfl
theorem FrS.cells {h : Jt} {sz : Nat} {v : Value} {xs : List (List Value)} (f : FrS h sz v xs) : v.cells.toList = [v] := by
 obtain ⟨a, c, rfl, _⟩ := f.out; rfl
theorem FrS.one {h : Jt} {sz : Nat} {v : Value} {xs : List (List Value)} (f : FrS h sz v xs) : v.oneCell' = true := by
 obtain ⟨a, c, rfl, _⟩ := f.out; rfl
section rules
variable {P : Program} {n : Nat} {cx : Cx} {e : Xs} {L : List Chunk} {ops : Array Oper} {rest : List Oper} {Q : Jae} {F : Xs → List Chunk → Prop} {ss : List Kd} {d : Nat} {ty : TypeId} {pos : String} {af : Array Edge} {g : Option (Nat × Bool)}
theorem run_callV {f : FuncId} {X : Operand} {A : Array Operand} {tys : Array TypeId} {args : List Value} {caps : Array Value} (hc : ∀ args w, (callFunc f args).run P w = .ok (.enter f args) w) (hX : ev e X = .func (.func f) #[] caps) (ha : A.toList.map (ev e) = args) (w : World) :
  (execOp (ev e) ⟨some d, .call ⟨.value X, A, tys⟩, ty, pos, af, g⟩).run P w = .ok (.enter f (args ++ caps.toList).toArray) w := by
 subst ha
 have : (A.toList.map (ev e) ++ caps.toList).toArray = A.map (ev e) ++ caps := by
  apply Array.ext'
  simp
 rw [this]
 simp only [execOp, resolve, hX, Deferred.ofValue, Sem.run_bind, Sem.run_pure, Result.andThen_ok, invoke, hc, Array.empty_append]
theorem run_callVP {f : FuncId} {X : Operand} {A : Array Operand} {tys : Array TypeId} {args : List Value} {pre caps : Array Value} (hc : ∀ args w, (callFunc f args).run P w = .ok (.enter f args) w) (hX : ev e X = .func (.func f) pre caps) (ha : A.toList.map (ev e) = args) (w : World) :
  (execOp (ev e) ⟨some d, .call ⟨.value X, A, tys⟩, ty, pos, af, g⟩).run P w = .ok (.enter f (pre.toList ++ (args ++ caps.toList)).toArray) w := by
 subst ha
 have : (pre.toList ++ (A.toList.map (ev e) ++ caps.toList)).toArray = pre ++ A.map (ev e) ++ caps := by
  apply Array.ext'
  simp
 rw [this]
 simp only [execOp, resolve, hX, Deferred.ofValue, Sem.run_bind, Sem.run_pure, Result.andThen_ok, invoke, hc]
theorem runs_callV {X : Operand} {A : Array Operand} {tys : Array TypeId} {args : List Value} {v : Value} {h : Jt} {R : World → List Value → (Value → World → Prop) → Prop} {post : Value → World → Prop} {w : World} (hf : FnH P h v R) (hk : Know h w Z2) (hR : R w args post) (hX : ev e X = v) (ha : A.toList.map (ev e) = args) :
  RunsTo P (ev e) ⟨some d, .call ⟨.value X, A, tys⟩, ty, pos, af, g⟩ w post := by
 obtain ⟨f, pre, caps, rfl, hc, hd⟩ := hf.out
 unfold RunsTo
 rw [run_callVP hc hX ha]
 exact hd args post w hk hR
theorem l_callV {X : Operand} {A : Array Operand} {tys : Array TypeId} {args : List Value} {v r : Value} {R : World → List Value → (Value → World → Prop) → Prop} (hf : ∀ w, Fr cx w → Sat cx w L → FnH P (fun b => w.heap[b]?) v R ∧ R w args (fun v' w' => v' = r ∧ Grow w w')) (hX : ev e X = v)
  (hw : X1 ops ⟨some d, .call ⟨.value X, A, tys⟩, ty, pos, af, g⟩ e = true) (hn : Nat.blt d n = true) (ha : A.toList.map (ev e) = args)
  (k : At cx (WL P n ops Q rest) (upd e d r) L) : At cx (WL P n ops Q (⟨some d, .call ⟨.value X, A, tys⟩, ty, pos, af, g⟩ :: rest)) e L :=
 l_runs hw rfl hn fun w hF hS => (runs_callV (hf w hF hS).1 (Jm w) (hf w hF hS).2 hX ha).mono fun v' w' ⟨hv, hg⟩ => by
  subst hv
  exact k.out w' (hF.grow hg) (hS.grow hg)
theorem r_makeFn {dd : Option Nat} {f : FuncId} {cs : Array Operand} {caps : Array Value} (hcs : cs.toList.map (ev e) = caps.toList) (w : World) :
  (execOp (ev e) ⟨dd, .makeFunc (.func f) #[] cs, ty, pos, af, g⟩).run P w = .ok (.value (.func (.func f) #[] caps)) w := by
 have : caps = cs.map (ev e) := by apply Array.ext'; rw [← hcs]; simp
 subst this
 simp [execOp, Instr.makeFunc]
theorem Zx {dd : Option Nat} {T b o t : Nat} {A : Operand} {v : Value} {cs : List Value} {w : World} (hA : ∀ w, (isAgg T).run P w = .ok false w) (hp : ev e A = .pointer (some ⟨b, o, none⟩)) (hb : w.heap[b]? = some (.cells cs.toArray t (0, 0))) (hv : rg cs o = some v) :
  (execOp (ev e) ⟨dd, .load T A, ty, pos, af, g⟩).run P w = .ok (.value v) w := by
 have hc := Jb1 (o := o) hb
 rw [← rg_eq, hv] at hc
 simp [execOp, Instr.loadAt, Instr.sureAddr, hp, Jaj hA hc]
end rules
end Go.Lx

namespace Go.Lx
open Go Go.Vc Go.Md
open Classical in
noncomputable def but (w : World) (S : Nat → Prop) : Jt := fun b => if S b then none else w.heap[b]?
theorem Ji4 {w : World} {S : Nat → Prop} {b : Nat} {o : Obj} (hb : w.heap[b]? = some o) (hn : ¬ S b) : but w S b = some o := by
 unfold but; rw [if_neg hn]; exact hb
theorem Qb (w : World) (S : Nat → Prop) : Know (but w S) w S := fun b o h => by
 unfold but at h
 split at h
 ·cases h
 ·exact ⟨h, by assumption⟩
section rules
variable {P : Program} {n : Nat} {cx : Cx} {e : Xs} {L : List Chunk} {d : Nat} {ty : TypeId} {pos : String} {af : Array Edge} {g : Option (Nat × Bool)}
theorem Know.but {h : Jt} {w0 w : World} {S0 S : Nat → Prop} (k : Know h w0 S0) (hF : Fr ⟨w0, S0⟩ w) (ho : ∀ b, S b → Cx.own ⟨w0, S0⟩ b) : ∀ b o, h b = some o → but w S b = some o := fun b o hb => by
 refine Ji4 (k.now hF b o hb) fun hs => ?_
 obtain ⟨h1, h2⟩ := k b o hb
 have hlt : b < w0.heap.size := by
  rcases Nat.lt_or_ge b w0.heap.size with h | h
  ·exact h
  ·rw [Array.getElem?_eq_none h] at h1; cases h1
 rcases ho b hs with h | h
 ·exact absurd h (by show ¬ w0.heap.size ≤ b; omega)
 ·exact h2 h
theorem FrS.but {w : World} {S : Nat → Prop} {sz : Nat} {v : Value} {xs : List (List Value)} (f : FrS (fun b => w.heap[b]?) sz v xs) (hd : ∀ b, v.ownBlock = some b → ¬ S b) : FrS (but w S) sz v xs := by
 obtain ⟨a, c, rfl, h1, h2, r⟩ := f.out
 refine ⟨a, c, rfl, h1, h2, ?_⟩
 rcases r with r | ⟨b, off, cs, T, m, rfl, hb, r⟩
 ·exact .inl r
 ·exact .inr ⟨b, off, cs, T, m, rfl, Ji4 hb (hd b rfl), r⟩
theorem rowV_block {E sz n : Nat} {v : Value} {xs : List (List Value)} {S : Nat → Prop} {w : World} (h : (J3 E sz v n xs).P S w) : ∀ b, v.ownBlock = some b → S b := h.2
def Apart (L' : List Chunk) (i : Nat) (w : World) (S : Nat → Prop) : Prop := ∀ j C, j ≠ i → L'[j]? = some C → ∃ S', C.P S' w ∧ ∀ b, S' b → ¬ S b
theorem Jdj {α : Type} {w : World} {S : Nat → Prop} {i j E sz n : Nat} {p : Option Addr × Nat} {xs : List α} {f : α → List Value} {L' : List Chunk} (hn : n = xs.length) (hA : Apart L' i w S) (hS : Sat cx w L') (hji : j ≠ i) (hL : L'[j]? = some (J3 E sz (.slice p.1 n p.2) n (xs.map f))) : FrS (but w S) sz (.slice p.1 n p.2) (xs.map f) := by
 obtain ⟨S', h1, h2⟩ := hA j _ hji hL
 exact (Xq hn hS hL).but fun b hb => h2 b (rowV_block h1 b hb)
theorem frb_box {α : Type} {w : World} {S : Nat → Prop} {i j b m T sz : Nat} {cs : List Value} {xs : List α} {f : α → List Value} {L' : List Chunk} (hA : Apart L' i w S) (hS : Sat cx w L') (hji : j ≠ i) (hL : L'[j]? = some (Jf b cs T)) (hcs : (xs.map f).flatten = cs) (hl : ((xs.map f).all fun x => Nat.beq x.length sz) = true) (hm : xs.length = m) (hm' : Nat.ble m 9223372036854775807 = true) :
  FrS (but w S) sz (.slice (some ⟨b, 0, none⟩) m m) (xs.map f) := by
 obtain ⟨S', h1, h2⟩ := hA j _ hji hL
 exact (frs_box hS hL hcs hl hm hm').but fun q hq => h2 q ((h1.1 q).2 (by simpa [Value.ownBlock] using hq.symm))
theorem cell_but {w : World} {S : Nat → Prop} {i j b T : Nat} {cs : List Value} {L' : List Chunk} (hA : Apart L' i w S) (hS : Sat cx w L') (hji : j ≠ i) (hL : L'[j]? = some (Jf b cs T)) : but w S b = some (.cells cs.toArray T (0, 0)) := by
 obtain ⟨S', h1, h2⟩ := hA j _ hji hL
 exact Ji4 (Qp hS hL) (h2 b ((h1.1 b).2 rfl))
theorem c_sel {K : Xs → World → Prop} (sel : List Nat) (L' : List Chunk) (hs : sel.map (fun i => L[i]?) = L'.map some) (hnd : sel.Nodup) (k : At cx K e L') : At cx K e L :=
 ⟨fun w hF hS => k.out w hF (hS.select sel hnd hs)⟩
theorem c_splitAt {K : Xs → World → Prop} (i j : Nat) {C D : Chunk} (hL : L[i]? = some (Jv C D)) (hjL : L[j]? = some empC) (hne : i ≠ j) (k : At cx K e ((L.set i C).set j D)) : At cx K e L :=
 ⟨fun w hF hS => k.out w hF (by
  obtain ⟨fp, h1, h2, h3⟩ := hS.out
  obtain ⟨S1, S2, k1, k2, k3, k4, k5⟩ := h1 i _ hL
  have hil : i < L.length := by
   rcases Nat.lt_or_ge i L.length with h | h
   ·exact h
   ·simp [List.getElem?_eq_none h] at hL
  have hjl : j < L.length := by
   rcases Nat.lt_or_ge j L.length with h | h
   ·exact h
   ·simp [List.getElem?_eq_none h] at hjL
  have hji : ¬ j = i := fun h => hne h.symm
  have key : ∀ q b, (if q = i then S1 b else if q = j then S2 b else fp q b) → (q = i ∧ S1 b) ∨ (q = j ∧ S2 b) ∨ (q ≠ i ∧ q ≠ j ∧ fp q b) := by
   intro q b h
   by_cases hqi : q = i
   ·simp only [hqi, if_true] at h; exact .inl ⟨hqi, h⟩
   ·by_cases hqj : q = j
    ·simp only [hqi, hqj, hji, if_true, if_false] at h; exact .inr (.inl ⟨hqj, h⟩)
    ·simp only [hqi, hqj, if_false] at h; exact .inr (.inr ⟨hqi, hqj, h⟩)
  refine ⟨fun q b => if q = i then S1 b else if q = j then S2 b else fp q b, ?_, ?_, ?_⟩
  ·intro q c hc
   by_cases hqj : q = j
   ·subst hqj
    rw [List.getElem?_set_self (by simpa using hjl)] at hc
    cases hc
    simpa [hji] using k2
   ·rw [List.getElem?_set_ne (fun h => hqj h.symm)] at hc
    by_cases hqi : q = i
    ·subst hqi
     rw [List.getElem?_set_self hil] at hc
     cases hc
     simpa using k1
    ·rw [List.getElem?_set_ne (fun h => hqi h.symm)] at hc
     simpa [hqi, hqj] using h1 q c hc
  ·intro q b hb
   rcases key q b hb with ⟨rfl, h⟩ | ⟨rfl, h⟩ | ⟨_, _, h⟩
   ·exact ⟨by simpa using hil, (h2 _ b (k3 b h)).2⟩
   ·exact ⟨by simpa using hjl, (h2 _ b (k4 b h)).2⟩
   ·obtain ⟨a1, a2⟩ := h2 q b h
    exact ⟨by simpa using a1, a2⟩
  ·intro p q b hp hq
   rcases key p b hp with ⟨rfl, h⟩ | ⟨rfl, h⟩ | ⟨n1, n2, h⟩ <;> rcases key q b hq with ⟨e1, h'⟩ | ⟨e1, h'⟩ | ⟨m1, m2, h'⟩
   ·exact e1.symm
   ·exact absurd h' (k5 b h)
   ·exact absurd (h3 _ _ b (k3 b h) h') (fun h => m1 h.symm)
   ·exact absurd h (k5 b h')
   ·exact e1.symm
   ·exact absurd (h3 _ _ b (k4 b h) h') (fun h => m1 h.symm)
   ·exact absurd (h3 _ _ b h (e1 ▸ k3 b h')) (fun hh => n1 hh)
   ·exact absurd (h3 _ _ b h (k4 b h')) n1
   ·exact h3 p q b h h')⟩
theorem turns_opB {σ : Type} {o : Oper} {i : Nat} {f : FuncId} {args : List Value} {rds : List Nat} {G : σ → Value} {C0 : Chunk} {C : σ → Chunk} (hL : L[i]? = some C0)
  (h : ∀ w L' S, Fr cx w → Sat cx w L' → (∀ j ∈ rds, L'[j]? = L[j]?) → C0.P S w → (∀ b, S b → b < w.heap.size) → (∀ b, S b → cx.own b) → Apart L' i w S → Does P f args.toArray w fun v w' => ∃ x, v = G x ∧ Turn w w' S (C x)) (hr : ∀ w, (execOp (ev e) o).run P w = .ok (.enter f args.toArray) w) : Turns P cx e o L i rds G C := fun w L' hF hS hl hi => by
 unfold RunsTo
 rw [hr w]
 have hL' := (hi i (.inr rfl)).trans hL
 show Does P f args.toArray w _
 obtain ⟨fp, h1, h2, h3⟩ := hS.out
 have hSi : ∀ b, fp i b → b < w.heap.size ∧ cx.own b := fun b hb => (h2 i b hb).2
 refine (h w L' (fp i) hF hS (fun j hj => hi j (.inl hj)) (h1 i C0 hL') (fun b hb => (hSi b hb).1) (fun b hb => (hSi b hb).2) (fun j C hji hC => ⟨fp j, h1 j C hC, fun b hb hbi => hji (h3 j i b hb hbi)⟩)).mono fun v' w' ⟨x, hv, ht⟩ => ⟨x, hv, hF.turn ht fun b hb => (hSi b hb).2, ?_⟩
 obtain ⟨S', k1, k2⟩ := ht.out
 have hil : i < L'.length := by
  rcases Nat.lt_or_ge i L'.length with h | h
  ·exact h
  ·simp [List.getElem?_eq_none h] at hL'
 refine ⟨fun j b => if j = i then S' b else fp j b, ?_, ?_, ?_⟩
 ·intro j c hc'
  by_cases hji : j = i
  ·subst hji
   simp [List.getElem?_set_self hil] at hc'
   subst hc'
   simpa using k1
  ·rw [List.getElem?_set_ne (fun e => hji e.symm)] at hc'
   simp only [hji, if_false]
   exact c.loc _ _ _ (fun b hb => ht.block b (h2 j b hb).2.1 (fun hib => hji (h3 j i b hb hib))) (h1 j c hc')
 ·intro j b hb
  by_cases hji : j = i
  ·simp only [hji, if_true] at hb
   refine ⟨by simp [hji, hil], (k2 b hb).1, ?_⟩
   rcases (k2 b hb).2 with h | h
   ·exact (h2 i b h).2.2
   ·exact .inl (Nat.le_trans hF.size h)
  ·simp only [hji, if_false] at hb
   obtain ⟨a1, a2, a3⟩ := h2 j b hb
   exact ⟨by simpa using a1, Nat.lt_of_lt_of_le a2 ht.size, a3⟩
 ·intro j q b hj hq
  by_cases hji : j = i <;> by_cases hqi : q = i <;> simp only [hji, hqi, if_true, if_false] at hj hq
  ·omega
  ·obtain ⟨_, a2, _⟩ := h2 q b hq
   rcases (k2 b hj).2 with h | h
   ·exact absurd (h3 q i b hq h) hqi
   ·omega
  ·obtain ⟨_, a2, _⟩ := h2 j b hj
   rcases (k2 b hq).2 with h | h
   ·exact absurd (h3 j i b hj h) hji
   ·omega
  ·exact h3 j q b hj hq
theorem Jw {σ : Type} {i : Nat} {f : FuncId} {A : Array Operand} {tys : Array TypeId} {args : List Value} {rds : List Nat} {G : σ → Value} {C0 : Chunk} {C : σ → Chunk} (hL : L[i]? = some C0)
  (h : ∀ w L' S, Fr cx w → Sat cx w L' → (∀ j ∈ rds, L'[j]? = L[j]?) → C0.P S w → (∀ b, S b → b < w.heap.size) → (∀ b, S b → cx.own b) → Apart L' i w S → Does P f args.toArray w fun v w' => ∃ x, v = G x ∧ Turn w w' S (C x)) (hc : ∀ args w, (callFunc f args).run P w = .ok (.enter f args) w)
  (ha : A.toList.map (ev e) = args) : Turns P cx e ⟨some d, .call ⟨.value (.func f), A, tys⟩, ty, pos, af, g⟩ L i rds G C :=
 turns_opB hL h (Jbo hc ha)
theorem Jb0 {X : Operand} {caps : Array Value} {σ : Type} {i : Nat} {f : FuncId} {A : Array Operand} {tys : Array TypeId} {args : List Value} {rds : List Nat} {G : σ → Value} {C0 : Chunk} {C : σ → Chunk} (hL : L[i]? = some C0)
  (h : ∀ w L' S, Fr cx w → Sat cx w L' → (∀ j ∈ rds, L'[j]? = L[j]?) → C0.P S w → (∀ b, S b → b < w.heap.size) → (∀ b, S b → cx.own b) → Apart L' i w S → Does P f (args ++ caps.toList).toArray w fun v w' => ∃ x, v = G x ∧ Turn w w' S (C x)) (hc : ∀ args w, (callFunc f args).run P w = .ok (.enter f args) w)
  (hX : ev e X = .func (.func f) #[] caps) (ha : A.toList.map (ev e) = args) : Turns P cx e ⟨some d, .call ⟨.value X, A, tys⟩, ty, pos, af, g⟩ L i rds G C :=
 turns_opB hL h (run_callV hc hX ha)
end rules
end Go.Lx

namespace Go.Lx
open Go Go.Vc Go.Md
section ops
variable {P : Program} {e : Xs} {d : Option Nat} {ty : TypeId} {pos : String} {af : Array Edge} {g : Option (Nat × Bool)}
theorem r_lenN {X : Operand} {a : Option Addr} {m c k : Nat} {t u : TypeId} (hu : P.underlying t = some (.slice u)) (hx : ev e X = .slice a m c) (h : m = k) (w : World) :
  (execOp (ev e) ⟨d, .call ⟨.builtin .len, #[X], #[t]⟩, ty, pos, af, g⟩).run P w = .ok (.value (.int .i64 k)) w := by
 subst h; exact Ur hu hx w
end ops
def Kd.sr (i : Nat) (C : Chunk) : Kd := .g [] [i] [i] (fun _ _ v => v = undef) (fun _ _ _ => [C])
section rules
variable {P : Program} {n : Nat} {cx : Cx} {e : Xs} {L : List Chunk} {ops : Array Oper} {rest : List Oper} {F : Xs → List Chunk → Prop} {ss : List Kd} {ty : TypeId} {pos : String} {af : Array Edge} {g : Option (Nat × Bool)}
theorem d_storeG {α : Type} {q T j sz szT k c E m : Nat} {A X : Operand} {x : Value} {a : Option Addr} {vs : List Value} {f : α → List Value} {xs ys : List α} {i : Int} {z : α} (hm : m = xs.length) (hs : ∀ w, (sizeOf T).run P w = .ok szT w)
  (hw : X1 ops ⟨none, .store T A X, ty, pos, af, g⟩ e = true) (hp : ev e A = U0 a k) (hk : k = i.toNat * sz + j) (hx : ev e X = x) (hc : x.cells.toList = vs) (hsz : vs.length = szT)
  (hpos : Nat.blt 0 szT = true) (hone : vs.all Value.oneCell' = true) (hL : L[q]? = some (J3 E sz (.slice a m c) m (xs.map f))) (hv : ∀ y, Q9 xs i = some y → wr (f y) j vs = some (f z)) (hg : gSet xs i z = some ys)
  (k' : Sq P cx ops F rest ss e (L.set q (J3 E sz (.slice a m c) m (ys.map f)))) : Sq P cx ops F (⟨none, .store T A X, ty, pos, af, g⟩ :: rest) (Kd.sr q (J3 E sz (.slice a m c) m (ys.map f)) :: ss) e L := by
 subst hm
 obtain ⟨h0, h1, rfl⟩ := Ja9 hg
 have hat : Q9 xs i = some xs[i.toNat] := Jf0 h0 h1
 have hv' := hv _ hat
 have hy := map_at (f := f) hat
 refine .take hw ⟨undef, rfl⟩ ⟨fun w L' hF hS _ hi => ?_⟩ fun v' hv' => ?_
 ·have hL' := (hi q (.inl (by simp [Kd.sr, Kd.rds]))).trans hL
  obtain ⟨S0, ⟨⟨ho, hlen, hlx⟩, hob⟩, _⟩ := hS.at hL'
  obtain ⟨w', hr, h2, h3⟩ := Ji6 (P := P) (ty := ty) (pos := pos) (af := af) (g := g) hs hp hk hx hc hsz hpos hone hy hv' ho hlen hlx
  have hpos' : 0 < vs.length := by rw [hsz]; simpa using hpos
  obtain ⟨g1, g2⟩ := wr_eq hv' hpos'
  obtain ⟨hF', hS'⟩ := hS.turnOf hF hL' (C := J3 E sz (.slice a xs.length c) xs.length ((xs.map f).set i.toNat (f z))) fun S1 hp => Jas hp.2 h2 h3 (.inl rfl) (by simp [hlen]) (by
   intro z' hz
   rcases List.mem_or_eq_of_mem_set hz with h | h
   ·exact hlx z' h
   ·subst h; rw [g2]; have := hlx _ (List.mem_of_getElem? hy); simp only [List.length_append, List.length_take, List.length_drop]; omega)
  unfold RunsTo
  rw [hr]
  refine ⟨rfl, hF', ?_⟩
  rw [← List.map_set] at hS'
  exact hS'
 ·exact k'
end rules
end Go.Lx

namespace Go.Lx
open Go Go.Vc Go.Md
section ops
variable {P : Program} {cx : Cx} {e : Xs} {L : List Chunk} {d : Option Nat} {ty : TypeId} {pos : String} {af : Array Edge} {g : Option (Nat × Bool)}
theorem Ji {X : Operand} {a : Addr} (hx : ev e X = .pointer (some a)) (w : World) :
  (execOp (ev e) ⟨d, .nilCheck X, ty, pos, af, g⟩).run P w = .ok (.value (.pointer (some a))) w := by
 simp only [execOp, hx, Sem.run_pure]
end ops
end Go.Lx

namespace Go.Lx
open Go Go.Vc Go.Md
section ops
variable {P : Program} {e : Xs} {d : Option Nat} {ty : TypeId} {pos : String} {af : Array Edge} {g : Option (Nat × Bool)}
end ops
end Go.Lx

namespace Go.Lx
open Go Go.Vc Go.Md
theorem Jdf {α : Type} {xs ys : List α} {l q : Int} (e : Xr xs l q = some ys) : ys.length = q.toNat - l.toNat := by
 obtain ⟨g0, g1, g2, rfl⟩ := Zv e
 rw [List.length_take, List.length_drop]; omega
theorem Row.cutG {α : Type} {w : World} {a : Option Addr} {m c sz : Nat} {f : α → List Value} {xs ys : List α} {l q : Int} (h : Row w a sz (xs.map f)) (hm : m = xs.length) (hc : m ≤ c) (e : Xr xs l q = some ys) : Row w (Xg a l.toNat c sz) sz (ys.map f) := by
 obtain ⟨g0, g1, g2, rfl⟩ := Zv e
 have := Row.cut h l.toNat (q.toNat - l.toNat) c (by omega)
 rw [← List.map_drop, ← List.map_take] at this
 exact this
section ops
variable {P : Program} {e : Xs} {d : Option Nat} {ty : TypeId} {pos : String} {af : Array Edge} {g : Option (Nat × Bool)}
theorem Y8 {α : Type} {X A : Operand} {a : Option Addr} {m c : Nat} {t u sz : Nat} {ka : IntKind} {l : Int} {xs ys : List α} {w : World} (hu : P.underlying t = some (.slice u)) (hs : ∀ w, (sizeOf u).run P w = .ok sz w)
  (hx : ev e X = .slice a m c) (ha : ev e A = .int ka l) (hm : m = xs.length) (_hc : m ≤ c) (hg : Xr xs l xs.length = some ys) :
  (execOp (ev e) ⟨d, .slice t X (some A) none none, ty, pos, af, g⟩).run P w = .ok (.value (.slice (Xg a l.toNat c sz) ys.length (c - l.toNat))) w := by
 obtain ⟨g0, g1, g2, _⟩ := Zv hg
 have hl := Jdf hg
 rw [r_sliceL hu hs hx ha g0 (by omega) w]
 congr 4; omega
end ops
end Go.Lx

namespace Go.Lx
open Go Go.Vc Go.Md
section rules
variable {cx : Cx} {K : Xs → World → Prop} {e : Xs} {L : List Chunk}
end rules
def FnV {μ : Type} (P : Program) (v : Value) (m : Option μ) (R : μ → World → List Value → (Value → World → Prop) → Prop) : Prop := (m = none ∧ v = .nilFunc) ∨ ∃ g, m = some g ∧ ∀ h, FnH P h v (R g)
theorem FnV.nil {μ : Type} {P : Program} {R : μ → World → List Value → (Value → World → Prop) → Prop} : FnV P .nilFunc none R := .inl ⟨rfl, rfl⟩
theorem FnV.mk {μ : Type} {P : Program} {v : Value} {g : μ} {R : μ → World → List Value → (Value → World → Prop) → Prop} (h : ∀ h, FnH P h v (R g)) : FnV P v (some g) R := .inr ⟨g, rfl, h⟩
theorem FnV.cells {μ : Type} {P : Program} {v : Value} {m : Option μ} {R : μ → World → List Value → (Value → World → Prop) → Prop} (f : FnV P v m R) : v.cells.toList = [v] := by
 rcases f with ⟨_, rfl⟩ | ⟨g, _, f⟩
 ·rfl
 ·exact (f fun _ => none).cells
theorem FnV.one {μ : Type} {P : Program} {v : Value} {m : Option μ} {R : μ → World → List Value → (Value → World → Prop) → Prop} (f : FnV P v m R) : v.oneCell' = true := by
 rcases f with ⟨_, rfl⟩ | ⟨g, _, f⟩
 ·rfl
 ·exact (f fun _ => none).one
theorem FnV.fn {μ : Type} {P : Program} {v : Value} {m : Option μ} {g : μ} {R : μ → World → List Value → (Value → World → Prop) → Prop} (f : FnV P v m R) (hm : m = some g) (h : Jt) : FnH P h v (R g) := by
 rcases f with ⟨h1, _⟩ | ⟨g', h1, f⟩
 ·rw [hm] at h1; cases h1
 ·rw [hm] at h1; cases h1; exact f h
section ops
variable {P : Program} {e : Xs} {d : Option Nat} {ty : TypeId} {pos : String} {af : Array Edge} {g : Option (Nat × Bool)}
end ops
theorem Jfm {α : Type} {f : α → List Value} (hf : ∀ x, (f x).length = 1) : ∀ (l : List α) (k : Nat), ((l.map f).flatten).take k = ((l.take k).map f).flatten
 | [], k => by simp
 | x :: r, 0 => by simp
 | x :: r, k + 1 => by
  have h1 := hf x
  obtain ⟨y, hy⟩ := List.length_eq_one_iff.1 h1
  simp only [List.map_cons, List.flatten_cons, List.take_succ_cons, hy, List.singleton_append]
  rw [Jfm hf r k]
theorem Jix {α : Type} {f : α → List Value} (hf : ∀ x, (f x).length = 1) : ∀ (l : List α) (k : Nat), ((l.map f).flatten).drop k = ((l.drop k).map f).flatten
 | [], k => by simp
 | x :: r, 0 => by simp
 | x :: r, k + 1 => by
  have h1 := hf x
  obtain ⟨y, hy⟩ := List.length_eq_one_iff.1 h1
  simp only [List.map_cons, List.flatten_cons, List.drop_succ_cons, hy, List.singleton_append]
  rw [Jix hf r k]
theorem Jes {α : Type} {f : α → List Value} (hf : ∀ x, (f x).length = 1) (l : List α) : ((l.map f).flatten).length = l.length := by
 rw [Yc (sz := 1) _ (fun x hx => by obtain ⟨y, _, rfl⟩ := List.mem_map.1 hx; exact hf y)]; simp
section rules
variable {P : Program} {n : Nat} {cx : Cx} {e : Xs} {L : List Chunk} {ops : Array Oper} {rest : List Oper} {Q : Jae} {F : Xs → List Chunk → Prop} {ss : List Kd} {d : Option Nat} {ty : TypeId} {pos : String} {af : Array Edge} {g : Option (Nat × Bool)}
theorem l_turn0 {σ : Type} {o : Oper} {i : Nat} {rds : List Nat} {G : σ → Value} {C : σ → Chunk} (h : Turns P cx e o L i rds G C) (hw : X1 ops o e = true) (hd : o.dst = none)
  (k : ∀ x, At cx (WL P n ops Q rest) e (L.set i (C x))) : At cx (WL P n ops Q (o :: rest)) e L :=
 ⟨fun w hF hS => ⟨fun a ha => by
  have hr := (h w L hF hS rfl (fun _ _ => rfl)).mono (R' := fun _ w' => WL P n ops Q rest e w') fun v w' ⟨x, hv, hF', hS'⟩ => (k x).out w' hF' hS'
  unfold RunsTo at hr
  unfold wpList
  rw [Jdy ha, hw, if_pos rfl]
  refine .inl ?_
  unfold Oper.wp
  rw [ha.ev]
  generalize (execOp (ev e) o).run P w = r at hr
  cases r with
  | halt x w' => exact hr.elim
  | ok nx w' =>
   cases nx with
   | value v =>
    show wpList P ops (lift n Q) rest (a.put o.dst v) w'
    rw [hd]
    exact hr.out _ ha
   | skip =>
    show wpList P ops (lift n Q) rest (a.put o.dst undef) w'
    rw [hd]
    exact hr.out _ ha
   | enter f args =>
    refine Calls.mono hr ?_
    rintro en w'' ⟨v, rfl, hk⟩
    show wpList P ops (lift n Q) rest (a.put o.dst v) w''
    rw [hd]
    exact hk.out _ ha
   | _ => exact hr.elim⟩⟩
end rules
def _root_.Go.Vc.Kd.fv (φ : Value → Prop) : Kd := .g [] [] [] (fun _ _ v => φ v) (fun _ _ _ => [])
section rules
variable {P : Program} {n : Nat} {cx : Cx} {e : Xs} {L : List Chunk} {ops : Array Oper} {rest : List Oper} {Q : Jae} {F : Xs → List Chunk → Prop} {ss : List Kd} {d : Nat} {ty : TypeId} {pos : String} {af : Array Edge} {g : Option (Nat × Bool)}
end rules
end Go.Lx

namespace Go.Lx
open Go Go.Vc Go.Md
theorem Know.at {h : Jt} {w0 w : World} {S : Nat → Prop} (k : Know h w0 S) (hF : Fr ⟨w0, S⟩ w) : Know h w Z2 := fun b o hb => ⟨k.now hF b o hb, fun x => x⟩
theorem FrS.cutL {α : Type} {h : Jt} {sz : Nat} {a : Option Addr} {n c : Nat} {f : α → List Value} {xs ys : List α} {l q : Int} (s : FrS h sz (.slice a n c) (xs.map f)) (e : Xr xs l q = some ys) : FrS h sz (.slice (Xg a l.toNat c sz) ys.length (c - l.toNat)) (ys.map f) := by
 have := s.cut e
 rw [Jdf e]
 exact this
def Jd2 : Value → Bool | .slice none _ _ => true | _ => false
theorem FrS.nilV {h : Jt} {sz : Nat} {v : Value} {α : Type} {f : α → List Value} {xs : List α} (s : FrS h sz v (xs.map f)) (hb : Jd2 v = true) : xs = [] := by
 obtain ⟨a, c, rfl, _, _, r⟩ := s.out
 rcases r with r | ⟨b, off, cs, T, m, rfl, _⟩
 ·simpa using r
 ·simp [Jd2] at hb
section ops
variable {P : Program} {e : Xs} {d : Option Nat} {ty : TypeId} {pos : String} {af : Array Edge} {g : Option (Nat × Bool)}
theorem eq_nilS {a : Option Addr} {m c : Nat} {t u : TypeId} (ht : P.underlying t = some (.slice u)) (n : Nat) (w : World) : (Op.equalIn (n + 1) t (.slice a m c) (.slice none 0 0)).run P w = .ok (Jd2 (.slice a m c)) w := by
 cases a <;> simp [Op.equalIn, run_underlying ht, Jd2]
theorem r_eqlNilS {X Y : Operand} {v : Value} {t t' u sz : TypeId} {h : Jt} {xs : List (List Value)} (ht : P.underlying t = some (.slice u)) (s : FrS h sz v xs) (hx : ev e X = v) (hy : ev e Y = .slice none 0 0) (w : World) :
  (execOp (ev e) ⟨d, .binOp .eql t X Y t', ty, pos, af, g⟩).run P w = .ok (.value (.bool (Jd2 v))) w := by
 obtain ⟨a, c, rfl, _⟩ := s.out
 have h0 := eq_nilS (P := P) (a := a) (m := xs.length) (c := c) ht 9999 w
 simp [execOp, hx, hy, eqGuard, binOp, Op.equal, Op.maxDepth, h0]
end ops
theorem finC {σ : Type} {w0 : World} {L : List Chunk} {v : Value} {G : σ → Value} {Φ : σ → Prop} (x : σ) (hv : v = G x) (h : Φ x) : ∀ w, Fr ⟨w0, fun _ => False⟩ w → Sat ⟨w0, fun _ => False⟩ w L → (∃ x, v = G x ∧ Φ x) ∧ Grow w0 w :=
 fun w hF _ => ⟨⟨x, hv, h⟩, hF.os, hF.tape, hF.output, hF.size, fun k hk => hF.block k (by simp [Cx.own]; exact hk)⟩
section rules
variable {P : Program} {n : Nat} {cx : Cx} {e : Xs} {L : List Chunk} {ops : Array Oper} {rest : List Oper} {Q : Jae} {F : Xs → List Chunk → Prop} {ss : List Kd} {d : Nat} {ty : TypeId} {pos : String} {af : Array Edge} {g : Option (Nat × Bool)}
theorem l_callC {σ : Type} {f : FuncId} {A : Array Operand} {tys : Array TypeId} {args : List Value} {G : σ → Value} {Φ : σ → Prop} (h : ∀ w, Fr cx w → Sat cx w L → Does P f args.toArray w fun v w' => (∃ x, v = G x ∧ Φ x) ∧ Grow w w') (hc : ∀ args w, (callFunc f args).run P w = .ok (.enter f args) w)
  (hw : X1 ops ⟨some d, .call ⟨.value (.func f), A, tys⟩, ty, pos, af, g⟩ e = true) (hn : Nat.blt d n = true) (ha : A.toList.map (ev e) = args)
  (k : ∀ x, Φ x → At cx (WL P n ops Q rest) (upd e d (G x)) L) : At cx (WL P n ops Q (⟨some d, .call ⟨.value (.func f), A, tys⟩, ty, pos, af, g⟩ :: rest)) e L :=
 l_calls hw rfl hn (Jbo hc ha) fun w hF hS => (h w hF hS).mono fun v' w' ⟨⟨x, hv, hp⟩, hg⟩ => by
  subst hv
  exact (k x hp).out w' (hF.grow hg) (hS.grow hg)
def _root_.Go.Vc.Kd.sv (a b i : Nat) (cs : Value → List Value) (T : TypeId) : Kd := .g [a, b] [i] [i] (fun _ _ v => v = undef) (fun vs _ _ => [Jc7 (vs.headD undef) (cs (vs.getD 1 undef)) T])
theorem Vx {i : Nat} {a q T T0 b o sz : Nat} {x : Value} {cs vs : List Value} {cs' : Value → List Value} (hs : ∀ w, (sizeOf T).run P w = .ok sz w)
  (hw : X1 ops ⟨none, .store T (.tmp a) (.tmp q), ty, pos, af, g⟩ e = true) (hp : e a = .pointer (some ⟨b, o, none⟩)) (hx : e q = x) (hc : x.cells.toList = vs) (hsz : vs.length = sz) (hpos : Nat.blt 0 sz = true)
  (hone : vs.all Value.oneCell' = true) (hL : L[i]? = some (Jf b cs T0)) (hv : wr cs o vs = some (cs' x))
  (k : Sq P cx ops F rest ss e (L.set i (Jf b (cs' x) T0))) : Sq P cx ops F (⟨none, .store T (.tmp a) (.tmp q), ty, pos, af, g⟩ :: rest) (.sv a q i cs' T0 :: ss) e L := by
 have hbox : Jc7 (([a, q].map e).headD undef) (cs' (([a, q].map e).getD 1 undef)) T0 = Jf b (cs' x) T0 := by
  have h1 : ([a, q].map e).headD undef = e a := rfl
  have h2 : ([a, q].map e).getD 1 undef = e q := rfl
  rw [h1, h2, hp, hx]; rfl
 refine .take hw ⟨undef, rfl⟩ ⟨fun w L' hF hS _ hi => ?_⟩ fun v' hv' => ?_
 ·have hL' := (hi i (.inl (by simp [Kd.sv, Kd.rds]))).trans hL
  have hb := Qp hS hL'
  unfold RunsTo
  rw [Go.Vc.run_store hs (by exact hp) (by exact hx) hc hsz hpos hone hv hb]
  have hset := setRow_heap w b cs.toArray (cs' x).toArray T0 (0, 0) hb
  refine ⟨rfl, ⟨hF.os, hF.tape, hF.output, by simpa using hF.size, fun c hcn => ?_⟩, ?_⟩
  ·rw [setRow_other w b c _ (fun e => ?_)]
   ·exact hF.block c hcn
   ·obtain ⟨fp, f1, f2, _⟩ := hS.out
    have := (f2 i b ((f1 i _ hL').1 b |>.2 rfl)).2.2
    subst e
    exact hcn this
  ·show Sat cx _ (L'.set i (Jc7 (([a, q].map e).headD undef) (cs' (([a, q].map e).getD 1 undef)) T0))
   rw [hbox]
   exact hS.set hF hL' (by simp) fun S hSp hSo => ⟨S, ⟨hSp.1, hset⟩, fun c hc => ⟨by simpa using (hSo c hc).1, .inl hc⟩, fun c _ hcS => setRow_other w b c _ (fun e => hcS ((hSp.1 c).2 e))⟩
 ·have hbox' := hbox
  show Sq P cx ops F rest ss (Vq e none v') (L.set i (Jc7 (([a, q].map e).headD undef) (cs' (([a, q].map e).getD 1 undef)) T0))
  rw [hbox]
  exact k
end rules
end Go.Lx

namespace Go.Lx
open Go Go.Vc Go.Md
def Xj (h : Jt) (v : Value) (sz i j : Nat) : Value :=
 if j < sz then match v with
 | .slice (some ⟨b, off, _⟩) _ _ => match h b with
  | some (.cells cs _ _) => cs.getD (off + i * sz + j) undef
  | _ => undef
 | _ => undef else undef
def elC (h : Jt) (v : Value) (sz i : Nat) : List Value := (List.range sz).map (Xj h v sz i)
class Mon {α : Type} (G : Jt → (Nat → Value) → α → Prop) : Prop where
 mono : ∀ {h h' : Jt}, (∀ b o, h b = some o → h' b = some o) → ∀ c x, G h c x → G h' c x
structure FrN {α : Type} (h : Jt) (sz : Nat) (v : Value) (G : Jt → (Nat → Value) → α → Prop) (xs : List α) : Prop where
 frs : FrS h sz v ((List.range xs.length).map (elC h v sz))
 el : ∀ (i : Nat) (x : α), xs[i]? = some x → G h (Xj h v sz i) x
theorem Jij {h h' : Jt} {v : Value} {sz : Nat} {ys : List (List Value)} (f : FrS h sz v ys) (hy : 0 < ys.length) (k : ∀ b o, h b = some o → h' b = some o) (i : Nat) : Xj h v sz i = Xj h' v sz i := by
 funext j
 obtain ⟨a, c, rfl, _, _, r⟩ := f.out
 rcases r with r | ⟨b, off, cs, T, m, rfl, hb, _⟩
 ·subst r; simp at hy
 ·simp only [Xj, hb, k b _ hb]
theorem FrN.mono {α : Type} {h h' : Jt} {sz : Nat} {v : Value} {G : Jt → (Nat → Value) → α → Prop} [M : Mon G] {xs : List α} (f : FrN h sz v G xs) (k : ∀ b o, h b = some o → h' b = some o) : FrN h' sz v G xs := by
 have key : ∀ i, i < xs.length → Xj h v sz i = Xj h' v sz i := fun i hi => Jij f.frs (by simp; omega) k i
 refine ⟨?_, fun i x hx => ?_⟩
 ·have := f.frs.mono k
  have e : (List.range xs.length).map (elC h v sz) = (List.range xs.length).map (elC h' v sz) := by
   apply List.map_congr_left
   intro i hi
   unfold elC
   rw [key i (by simpa using hi)]
  rwa [e] at this
 ·have hi : i < xs.length := by
   rcases Nat.lt_or_ge i xs.length with h | h
   ·exact h
   ·rw [List.getElem?_eq_none h] at hx; cases hx
  rw [← key i hi]
  exact M.mono k _ _ (f.el i x hx)
theorem FrN.nil {α : Type} (h : Jt) (sz : Nat) (G : Jt → (Nat → Value) → α → Prop) : FrN h sz (.slice none 0 0) G [] := ⟨FrS.nil _ _, by simp⟩
section acc
variable {α : Type} {h : Jt} {sz : Nat} {v : Value} {G : Jt → (Nat → Value) → α → Prop} {xs ys : List α}
theorem FrN.cells (f : FrN h sz v G xs) : v.cells.toList = [v] := f.frs.cells
theorem FrN.one (f : FrN h sz v G xs) : v.oneCell' = true := f.frs.one
theorem FrN.eq (f : FrN h sz v G xs) : v = .slice (sa v) xs.length (sc v) := by
 have := f.frs.eq; rwa [List.length_map, List.length_range] at this
theorem FrN.len (f : FrN h sz v G xs) : xs.length ≤ sc v ∧ sc v ≤ 9223372036854775807 := by
 have := f.frs.len; rwa [List.length_map, List.length_range] at this
theorem FrN.at (f : FrN h sz v G xs) {i : Int} {x : α} (g : Q9 xs i = some x) : G h (Xj h v sz i.toNat) x := f.el _ _ (Y3 g).2.2
theorem FrN.ix (_ : FrN h sz v G xs) {i : Int} {x : α} (g : Q9 xs i = some x) : Q9 (List.range xs.length) i = some i.toNat := by
 obtain ⟨h0, h1, _⟩ := Y3 g
 rw [Jf0 h0 (by simpa using h1)]; simp
theorem FrN.nilV (f : FrN h sz v G xs) (hb : Jd2 v = true) : xs = [] := by
 have := FrS.nilV f.frs hb
 exact List.eq_nil_of_length_eq_zero (by simpa using congrArg List.length this)
theorem gCut_range {l q : Int} (e : Xr xs l q = some ys) : Xr (List.range xs.length) l q = some (((List.range xs.length).drop l.toNat).take (q.toNat - l.toNat)) := by
 obtain ⟨g0, g1, g2, _⟩ := Zv e
 exact Jcr ⟨g0, g1, by simpa using g2⟩
theorem FrN.cut (f : FrN h sz v G xs) {l q : Int} (e : Xr xs l q = some ys) : FrN h sz (cutV sz v l q) G ys := by
 obtain ⟨g0, g1, g2, rfl⟩ := Zv e
 have hl := f.len
 have h0 := FrS.cut f.frs (gCut_range e)
 have hlen : ((xs.drop l.toNat).take (q.toNat - l.toNat)).length = q.toNat - l.toNat := by rw [List.length_take, List.length_drop]; omega
 have key : ∀ i, i < q.toNat - l.toNat → Xj h (cutV sz v l q) sz i = Xj h v sz (l.toNat + i) := by
  intro i hi
  funext j
  obtain ⟨a, c, hva, h1, _, r⟩ := f.frs.out
  simp only [List.length_map, List.length_range] at hva h1
  rcases r with r | ⟨b, off, cs, T, m, ha, hb, _⟩
  ·have := congrArg List.length r
   simp at this
   rw [this] at g2
   simp at g2
   omega
  ·have hm : ¬ c = l.toNat := by omega
   rw [hva, ha]
   simp only [cutV, sa, sc, Xg, if_neg hm, Option.map_some, Addr.add_lit, Xj, hb]
   rw [show off + l.toNat * sz + i * sz + j = off + (l.toNat + i) * sz + j from by rw [Nat.add_mul]; omega]
 refine ⟨?_, fun i x hx => ?_⟩
 ·have e1 : ((List.range ((xs.drop l.toNat).take (q.toNat - l.toNat)).length).map (elC h (cutV sz v l q) sz)) = (((List.range xs.length).drop l.toNat).take (q.toNat - l.toNat)).map (elC h v sz) := by
   rw [hlen]
   apply List.ext_getElem
   ·simp; omega
   ·intro i h1 h2
    simp only [List.length_map, List.length_range] at h1
    simp only [List.getElem_map, List.getElem_range, List.getElem_take, List.getElem_drop]
    unfold elC
    rw [key i h1]
  rw [e1]; exact h0
 ·have hi : i < q.toNat - l.toNat := by
   rcases Nat.lt_or_ge i (q.toNat - l.toNat) with h | h
   ·exact h
   ·rw [List.getElem?_eq_none (by rw [hlen]; exact h)] at hx; cases hx
  rw [key i hi]
  rw [List.getElem?_take, if_pos hi, List.getElem?_drop] at hx
  exact f.el _ _ hx
end acc
theorem FrN.cutL {α : Type} {h : Jt} {sz : Nat} {a : Option Addr} {n c : Nat} {G : Jt → (Nat → Value) → α → Prop} {xs ys : List α} {l q : Int} (s : FrN h sz (.slice a n c) G xs) (e : Xr xs l q = some ys) : FrN h sz (.slice (Xg a l.toNat c sz) ys.length (c - l.toNat)) G ys := by
 have := s.cut e
 rw [Jdf e]
 exact this
theorem Jfb {l l' vs : List Value} {j n : Nat} (e : l = l') (h : rd l' j n = some vs) : rd l j n = some vs := by subst e; exact h
theorem Jat {l l' : List Value} {j : Nat} {v : Value} (e : l = l') (h : rg l' j = some v) : rg l j = some v := by subst e; exact h
def AllG {α : Type} (G : Jt → (Nat → Value) → α → Prop) (h : Jt) (sz : Nat) : List Value → List α → Prop
 | cs, [] => cs = []
 | cs, x :: r => G h (fun j => (cs.take sz).getD j undef) x ∧ AllG G h sz (cs.drop sz) r
theorem AllG.el {α : Type} {G : Jt → (Nat → Value) → α → Prop} {h : Jt} {sz : Nat} : ∀ {cs : List Value} {xs : List α}, AllG G h sz cs xs → ∀ (i : Nat) (x : α), xs[i]? = some x → G h (fun j => ((cs.drop (i * sz)).take sz).getD j undef) x
 | _, [], _, i, x, hx => by simp at hx
 | cs, y :: r, hp, 0, x, hx => by
  simp at hx; subst hx
  have := hp.1
  simpa using this
 | cs, y :: r, hp, i + 1, x, hx => by
  have := AllG.el hp.2 i x (by simpa using hx)
  rw [List.drop_drop, show sz + i * sz = (i + 1) * sz from by rw [Nat.succ_mul]; omega] at this
  exact this
section rules
variable {P : Program} {n : Nat} {cx : Cx} {e : Xs} {L : List Chunk}
section ops
variable {d : Option Nat} {ty : TypeId} {pos : String} {af : Array Edge} {g : Option (Nat × Bool)}
theorem Yw {α : Type} {G : Jt → (Nat → Value) → α → Prop} {X : Operand} {t u sz : TypeId} {h : Jt} {v : Value} {xs : List α} (hu : P.underlying t = some (.slice u)) (hx : ev e X = v) (hs : FrN h sz v G xs) (w : World) :
  (execOp (ev e) ⟨d, .call ⟨.builtin .len, #[X], #[t]⟩, ty, pos, af, g⟩).run P w = .ok (.value (.int .i64 xs.length)) w :=
 Ur (P := P) (d := d) (ty := ty) (pos := pos) (af := af) (g := g) hu (hx.trans hs.eq) w
end ops
end rules
end Go.Lx

namespace Go.Lx
open Go Go.Vc Go.Md
section rules
variable {P : Program} {n : Nat} {cx : Cx} {Q : Jae} {K : Xs → World → Prop} {e : Xs} {L : List Chunk} {ops : Array Oper} {F : Xs → List Chunk → Prop} {rest : List Oper} {ss : List Kd} {d : Nat} {ty : TypeId} {pos : String} {af : Array Edge} {g : Option (Nat × Bool)}
section ops
end ops
end rules
end Go.Lx

namespace Go.Lx
open Go Go.Vc Go.Md
section rules
variable {P : Program} {cx : Cx} {e : Xs} {L : List Chunk}
end rules
def litC (cs : List Value) (sz i : Nat) : List Value := (List.range sz).map fun j => ((cs.drop (i * sz)).take sz).getD j undef
theorem gAt_range {α : Type} {xs : List α} {i : Int} {x : α} (g : Q9 xs i = some x) : Q9 (List.range xs.length) i = some i.toNat := by
 obtain ⟨h0, h1, _⟩ := Y3 g
 rw [Jf0 h0 (by simpa using h1)]; simp
def vcells : Value → List Value | .tuple vs => vs.toList.flatMap fun v => v.cells.toList | v => v.cells.toList
def Jab (v : Value) (k : Nat) : Value := (vcells v).getD k undef
section rules
variable {P : Program} {n : Nat} {cx : Cx} {e : Xs} {L : List Chunk} {d : Nat} {ty : TypeId} {pos : String} {af : Array Edge} {g : Option (Nat × Bool)}
theorem r_cap {dd : Option Nat} {X : Operand} {t u m c : Nat} {a : Option Addr} (hu : P.underlying t = some (.slice u)) (hx : ev e X = .slice a m c) (w : World) :
  (execOp (ev e) ⟨dd, .call ⟨.builtin .cap, #[X], #[t]⟩, ty, pos, af, g⟩).run P w = .ok (.value (.int .i64 (c : Nat))) w := by
 simp [execOp, resolve, invoke, builtin, hx, Builtin.cap_, run_underlying hu, goInt]
end rules
end Go.Lx

namespace Go.Lx
open Go Go.Vc Go.Md
def idC (l : List Value) : List Value := l
def Xo : Jt := fun _ => none
structure AllC {α : Type} (G : Jt → (Nat → Value) → α → Prop) (h : Jt) (sz : Nat) (css : List (List Value)) (xs : List α) : Prop where
 len : css.length = xs.length
 el : ∀ (i : Nat) (cs : List Value) (x : α), css[i]? = some cs → xs[i]? = some x → cs.length = sz ∧ G h (fun j => cs.getD j undef) x
section allc
variable {α : Type} {G : Jt → (Nat → Value) → α → Prop} {h h' : Jt} {sz : Nat} {css : List (List Value)} {xs ys : List α}
theorem AllC.nil : AllC G h sz [] ([] : List α) := ⟨rfl, by simp⟩
theorem AllC.snoc (p : AllC G h sz css xs) {cs : List Value} {x : α} (hl : cs.length = sz) (hG : G h (fun j => cs.getD j undef) x) : AllC G h sz (css ++ [cs]) (xs ++ [x]) := by
 refine ⟨by simp [p.len], fun i c y hc hy => ?_⟩
 rcases Nat.lt_or_ge i css.length with hi | hi
 ·rw [List.getElem?_append_left hi] at hc
  rw [List.getElem?_append_left (by rw [← p.len]; exact hi)] at hy
  exact p.el i c y hc hy
 ·rw [List.getElem?_append_right hi] at hc
  rw [List.getElem?_append_right (by rw [← p.len]; exact hi), ← p.len] at hy
  have h0 : i - css.length = 0 := by
   rcases Nat.eq_zero_or_pos (i - css.length) with h | h
   ·exact h
   ·obtain ⟨q, hq⟩ : ∃ q, i - css.length = q + 1 := ⟨i - css.length - 1, by omega⟩
    rw [hq] at hc; simp at hc
  rw [h0] at hc hy
  simp at hc hy
  subst hc hy
  exact ⟨hl, hG⟩
theorem AllC.mono [M : Mon G] (p : AllC G h sz css xs) (k : ∀ b o, h b = some o → h' b = some o) : AllC G h' sz css xs :=
 ⟨p.len, fun i c x hc hx => ⟨(p.el i c x hc hx).1, M.mono k _ _ (p.el i c x hc hx).2⟩⟩
theorem AllC.get (p : AllC G h sz css xs) {i : Int} {x : α} (g : Q9 xs i = some x) : css[i.toNat]? = some (css.getD i.toNat []) := by
 obtain ⟨h0, h1, _⟩ := Y3 g
 rw [List.getD_eq_getElem?_getD, List.getElem?_eq_getElem (by rw [p.len]; exact h1)]; rfl
theorem AllC.ix (p : AllC G h sz css xs) {i : Int} {x : α} (g : Q9 xs i = some x) : Q9 css i = some (css.getD i.toNat []) := by
 unfold Q9; rw [if_pos (Y3 g).1]; exact p.get g
theorem AllC.at (p : AllC G h sz css xs) {i : Int} {x : α} (g : Q9 xs i = some x) : G h (fun j => (css.getD i.toNat []).getD j undef) x := (p.el _ _ _ (p.get g) (Y3 g).2.2).2
theorem AllC.eta (p : AllC G h sz css xs) {i : Int} {x : α} (g : Q9 xs i = some x) : idC (css.getD i.toNat []) = (List.range sz).map fun j => (css.getD i.toNat []).getD j undef := by
 have hl := (p.el _ _ _ (p.get g) (Y3 g).2.2).1
 unfold idC
 generalize css.getD i.toNat [] = l at hl
 subst hl
 apply List.ext_getElem
 ·simp
 ·intro j h1 h2
  simp [List.getD_eq_getElem?_getD, List.getElem?_eq_getElem h1]
theorem AllC.app (p : AllC G h sz css xs) {by_ : Nat} {news zs : List α} {nc : List (List Value)} (g : Xd by_ xs news = some zs) (hn : nc.length = news.length) : Xd by_ css nc = some (css ++ nc) := by
 obtain ⟨_, h1, h2⟩ := Ul g
 exact X5 (by rw [p.len, hn]; exact ⟨h1, h2⟩)
theorem AllC.snocG (p : AllC G h sz css xs) {by_ : Nat} {x : α} {zs : List α} {cs : List Value} (g : Xd by_ xs [x] = some zs) (hl : cs.length = sz) (hG : G h (fun j => cs.getD j undef) x) : AllC G h sz (css ++ [cs]) zs := by
 obtain ⟨rfl, _⟩ := Ul g
 exact p.snoc hl hG
end allc
def Q3 (base hp : Jt) : Chunk where
 P S w := (∀ b o, base b = some o → hp b = some o) ∧ ∀ b o, hp b = some o → base b = some o ∨ (S b ∧ w.heap[b]? = some o)
 loc S w w' h := fun ⟨h1, h2⟩ => ⟨h1, fun b o hb => (h2 b o hb).imp id fun ⟨hs, hw⟩ => ⟨hs, (h b hs).trans hw⟩⟩
section rules
variable {cx : Cx} {K : Xs → World → Prop} {e : Xs} {L : List Chunk} {base hp : Jt}
theorem X7 (base : Jt) (k : At cx K e (L ++ [Q3 base base])) : At cx K e L :=
 ⟨fun w hF hS => k.out w hF (hS.snoc hF (Grow.refl w) (S := Z2) ⟨fun _ _ h => h, fun _ _ h => .inl h⟩ (fun _ h => h.elim))⟩
theorem Y0 {w : World} {i : Nat} (hS : Sat cx w L) (hi : L[i]? = some (Q3 base hp)) (hb : ∀ b o, base b = some o → w.heap[b]? = some o) : ∀ b o, hp b = some o → w.heap[b]? = some o := fun b o h => by
 obtain ⟨S, hP, _⟩ := hS.at hi
 rcases hP.2 b o h with h | h
 ·exact hb b o h
 ·exact h.2
theorem Xb {h : Jt} : ∀ b o, Xo b = some o → h b = some o := fun _ _ h => by cases h
open Classical in
theorem Ua {C : Chunk} {Φ : Jt → Prop} (i j : Nat) (hi : L[i]? = some (Q3 base hp)) (hj : L[j]? = some C) (hne : i ≠ j) (hb : ∀ w, Fr cx w → ∀ b o, base b = some o → w.heap[b]? = some o)
  (hC : ∀ S w (H : Jt), C.P S w → (∀ b o, S b → w.heap[b]? = some o → H b = some o) → (∀ b o, hp b = some o → H b = some o) → Φ H)
  (k : ∀ hp', (∀ b o, hp b = some o → hp' b = some o) → Φ hp' → At cx K e ((L.set i (Q3 base hp')).set j empC)) : At cx K e L :=
 ⟨fun w hF hS => by
  have hnow := Y0 hS hi (hb w hF)
  obtain ⟨fp, h1, h2, h3⟩ := hS.out
  have hil : i < L.length := by
   rcases Nat.lt_or_ge i L.length with h | h
   ·exact h
   ·simp [List.getElem?_eq_none h] at hi
  have hjl : j < L.length := by
   rcases Nat.lt_or_ge j L.length with h | h
   ·exact h
   ·simp [List.getElem?_eq_none h] at hj
  have hji : ¬ j = i := fun h => hne h.symm
  have le : ∀ b o, hp b = some o → (fun b => if fp j b then w.heap[b]? else hp b) b = some o := fun b o h => by
   show (if fp j b then w.heap[b]? else hp b) = some o
   split
   ·exact hnow b o h
   ·exact h
  refine (k (fun b => if fp j b then w.heap[b]? else hp b) le (hC (fp j) w _ (h1 j C hj) (fun b o hs h => by show (if fp j b then w.heap[b]? else hp b) = some o; rw [if_pos hs]; exact h) le)).out w hF ?_
  have key : ∀ q b, (if q = i then fp i b ∨ fp j b else if q = j then False else fp q b) → (q = i ∧ (fp i b ∨ fp j b)) ∨ (q ≠ i ∧ q ≠ j ∧ fp q b) := by
   intro q b h
   by_cases hqi : q = i
   ·simp only [hqi, if_true] at h; exact .inl ⟨hqi, h⟩
   ·by_cases hqj : q = j
    ·simp only [hqj, hji, if_true, if_false] at h
    ·simp only [hqi, hqj, if_false] at h; exact .inr ⟨hqi, hqj, h⟩
  refine ⟨fun q b => if q = i then fp i b ∨ fp j b else if q = j then False else fp q b, ?_, ?_, ?_⟩
  ·intro q c hc
   by_cases hqj : q = j
   ·subst hqj
    rw [List.getElem?_set_self (by simpa using hjl)] at hc
    cases hc
    show ∀ b, ¬ _
    intro b h
    simp [hji] at h
   ·rw [List.getElem?_set_ne (fun h => hqj h.symm)] at hc
    by_cases hqi : q = i
    ·subst hqi
     rw [List.getElem?_set_self hil] at hc
     cases hc
     simp only [if_true]
     have hP := h1 q _ hi
     refine ⟨fun b o h => le b o (hP.1 b o h), fun b o h => ?_⟩
     have h : (if fp j b then w.heap[b]? else hp b) = some o := h
     split at h
     ·rename_i hs; exact .inr ⟨.inr hs, h⟩
     ·rcases hP.2 b o h with h | h
      ·exact .inl h
      ·exact .inr ⟨.inl h.1, h.2⟩
    ·rw [List.getElem?_set_ne (fun h => hqi h.symm)] at hc
     simp only [hqi, hqj, if_false]
     exact h1 q c hc
  ·intro q b h
   rcases key q b h with ⟨rfl, h | h⟩ | ⟨_, _, h⟩
   ·have := h2 q b h; exact ⟨by simpa using hil, this.2⟩
   ·have := h2 j b h; exact ⟨by simpa using hil, this.2⟩
   ·have := h2 q b h; exact ⟨by simpa using this.1, this.2⟩
  ·intro q r b hq hr
   rcases key q b hq with ⟨hqi, hq | hq⟩ | ⟨hqi, hqj, hq⟩ <;> rcases key r b hr with ⟨hri, hr | hr⟩ | ⟨hri, hrj, hr⟩
   ·omega
   ·omega
   ·exact absurd (h3 i r b hq hr) (fun h => hri h.symm)
   ·omega
   ·omega
   ·exact absurd (h3 j r b hq hr) (fun h => hrj h.symm)
   ·exact absurd (h3 q i b hq hr) hqi
   ·exact absurd (h3 q j b hq hr) hqj
   ·exact h3 q r b hq hr⟩
theorem FrS.sub {w : World} {S : Nat → Prop} {H : Jt} {sz : Nat} {v : Value} {xs : List (List Value)} (f : FrS (fun b => w.heap[b]?) sz v xs) (hd : ∀ b, v.ownBlock = some b → S b) (hH : ∀ b o, S b → w.heap[b]? = some o → H b = some o) : FrS H sz v xs := by
 obtain ⟨a, c, rfl, h1, h2, r⟩ := f.out
 refine ⟨a, c, rfl, h1, h2, ?_⟩
 rcases r with r | ⟨b, off, cs, T, m, rfl, hb, r⟩
 ·exact .inl r
 ·exact .inr ⟨b, off, cs, T, m, rfl, hH b _ (hd b rfl) hb, r⟩
theorem fz_ro {α : Type} {sz n : Nat} {v : Value} {xs : List α} {f : α → List Value} (hp : Jt) : ∀ S w (H : Jt), (roV sz v n (xs.map f)).P S w → (∀ b o, S b → w.heap[b]? = some o → H b = some o) → (∀ b o, hp b = some o → H b = some o) → FrS H sz v (xs.map f) :=
 fun _ _ _ hP hH _ => hP.2.1.sub hP.2.2 hH
theorem Jdl {α : Type} {E sz n : Nat} {v : Value} {xs : List α} {f : α → List Value} (hp : Jt) : ∀ S w (H : Jt), (J3 E sz v n (xs.map f)).P S w → (∀ b o, S b → w.heap[b]? = some o → H b = some o) → (∀ b o, hp b = some o → H b = some o) → FrS H sz v (xs.map f) :=
 fun S w H hP hH k => fz_ro hp S w H ((row_ro E sz v n _).out S w hP) hH k
theorem Wu {α : Type} {G : Jt → (Nat → Value) → α → Prop} {h : Jt} {sz : Nat} {v : Value} {css : List (List Value)} {xs : List α} (f : FrS h sz v (css.map idC)) (p : AllC G h sz css xs) : FrN h sz v G xs := by
 have hid : css.map idC = css := by unfold idC; simp
 rw [hid] at f
 have cellE : ∀ i, i < xs.length → Xj h v sz i = fun j => (css.getD i []).getD j undef := by
  intro i hi
  funext j
  have hi' : i < css.length := by rw [p.len]; exact hi
  have hcl : (css[i]).length = sz := (p.el i css[i] xs[i] (List.getElem?_eq_getElem hi') (List.getElem?_eq_getElem hi)).1
  have e1 : css.getD i [] = css[i] := by simp [List.getD_eq_getElem?_getD, List.getElem?_eq_getElem hi']
  rw [e1]
  by_cases hj : j < sz
  ·obtain ⟨a, c, rfl, _, _, r⟩ := f.out
   rcases r with r | ⟨b, off, cs, T, m, rfl, hb, r⟩
   ·subst r; simp at hi'
   ·have h2 := (r i css[i] (List.getElem?_eq_getElem hi')).2 j ((css[i])[j]'(by omega)) (List.getElem?_eq_getElem (by omega))
    simp only [Xj, if_pos hj, hb]
    rw [Array.getD_eq_getD_getElem?, h2]
    simp [List.getD_eq_getElem?_getD, List.getElem?_eq_getElem (show j < (css[i]).length by omega)]
  ·unfold Xj
   rw [if_neg hj, List.getD_eq_getElem?_getD, List.getElem?_eq_none (by omega)]; rfl
 have cells : ∀ i, i < xs.length → elC h v sz i = css.getD i [] := by
  intro i hi
  have hi' : i < css.length := by rw [p.len]; exact hi
  have hcl : (css[i]).length = sz := (p.el i css[i] xs[i] (List.getElem?_eq_getElem hi') (List.getElem?_eq_getElem hi)).1
  unfold elC
  rw [cellE i hi]
  have e1 : css.getD i [] = css[i] := by simp [List.getD_eq_getElem?_getD, List.getElem?_eq_getElem hi']
  rw [e1]
  apply List.ext_getElem
  ·simp [hcl]
  ·intro j h1 h2
   simp only [List.length_map, List.length_range] at h1
   simp [List.getD_eq_getElem?_getD, List.getElem?_eq_getElem h2]
 refine ⟨?_, fun i x hx => ?_⟩
 ·have e : (List.range xs.length).map (elC h v sz) = css := by
   apply List.ext_getElem
   ·simp [p.len]
   ·intro i h1 h2
    simp only [List.length_map, List.length_range] at h1
    rw [List.getElem_map, List.getElem_range, cells i h1]
    simp [List.getD_eq_getElem?_getD, List.getElem?_eq_getElem h2]
  rw [e]; exact f
 ·have hi : i < xs.length := by
   rcases Nat.lt_or_ge i xs.length with h | h
   ·exact h
   ·rw [List.getElem?_eq_none h] at hx; cases hx
  have hi' : i < css.length := by rw [p.len]; exact hi
  rw [cellE i hi]
  have e1 : css.getD i [] = css[i] := by simp [List.getD_eq_getElem?_getD, List.getElem?_eq_getElem hi']
  rw [e1]
  exact (p.el i css[i] x (List.getElem?_eq_getElem hi') hx).2
theorem app63 {α : Type} {by_ : Nat} {xs ys zs : List α} (g : Xd by_ xs ys = some zs) : (xs ++ ys).length * by_ ≤ 140737488355328 := by
 obtain ⟨_, _, h⟩ := Ul g
 rwa [List.length_append]
open Classical in
theorem Yi {hp1 : Jt} (i j : Nat) (hi : L[i]? = some (Q3 base hp)) (hj : L[j]? = some (Q3 Xo hp1)) (hne : i ≠ j) (hb : ∀ w, Fr cx w → ∀ b o, base b = some o → w.heap[b]? = some o)
  (k : ∀ hp', (∀ b o, hp b = some o → hp' b = some o) → (∀ b o, hp1 b = some o → hp' b = some o) → At cx K e ((L.set i (Q3 base hp')).set j empC)) : At cx K e L :=
 Ua (Φ := fun H => ∀ b o, hp1 b = some o → H b = some o) i j hi hj hne hb (fun S w H hP hH _ b o h => (hP.2 b o h).elim (fun h => by cases h) fun h => hH b o h.1 h.2) k
def Vw {α : Type} (E sz : Nat) (G : Jt → (Nat → Value) → α → Prop) (v : Value) (n : Nat) (xs : List α) : Chunk where
 P S w := ∃ (hp : Jt) (css : List (List Value)), AllC G hp sz css xs ∧ n = css.length ∧ (Jv (Q3 Xo hp) (J3 E sz v n (css.map idC))).P S w
 loc S w w' h := by
  rintro ⟨hp, css, h1, h2, h3⟩
  exact ⟨hp, css, h1, h2, Chunk.loc _ _ _ _ h h3⟩
def roD {α : Type} (sz : Nat) (G : Jt → (Nat → Value) → α → Prop) (v : Value) (n : Nat) (xs : List α) : Chunk where
 P S w := ∃ (hp : Jt) (css : List (List Value)), AllC G hp sz css xs ∧ n = css.length ∧ (Jv (Q3 Xo hp) (roV sz v n (css.map idC))).P S w
 loc S w w' h := by
  rintro ⟨hp, css, h1, h2, h3⟩
  exact ⟨hp, css, h1, h2, Chunk.loc _ _ _ _ h h3⟩
theorem Zc {α : Type} {G : Jt → (Nat → Value) → α → Prop} {E sz n : Nat} {p : Option Addr × Nat} {css : List (List Value)} {xs : List α} (hn : n = css.length) (f : AllC G hp sz css xs) :
  Imp (Jv (Q3 Xo hp) (J3 E sz (.slice p.1 n p.2) n (css.map idC))) (Vw E sz G (.slice p.1 n p.2) n xs) := ⟨fun S w h => ⟨hp, css, f, hn, h⟩⟩
theorem imp_roD {α : Type} {G : Jt → (Nat → Value) → α → Prop} {sz n : Nat} {p : Option Addr × Nat} {css : List (List Value)} {xs : List α} (hn : n = css.length) (f : AllC G hp sz css xs) :
  Imp (Jv (Q3 Xo hp) (roV sz (.slice p.1 n p.2) n (css.map idC))) (roD sz G (.slice p.1 n p.2) n xs) := ⟨fun S w h => ⟨hp, css, f, hn, h⟩⟩
theorem c_show {C : Chunk} {τ : Type} {D : τ → Chunk} {φ : τ → Prop} (i : Nat) (hi : L[i]? = some C) (h : ∀ S w, C.P S w → ∃ t, φ t ∧ (D t).P S w) (k : ∀ t, φ t → At cx K e (L.set i (D t))) : At cx K e L :=
 ⟨fun w hF hS => by
  obtain ⟨fp, h1, h2, h3⟩ := hS.out
  obtain ⟨t, ht, hD⟩ := h _ _ (h1 i _ hi)
  have hil : i < L.length := by
   rcases Nat.lt_or_ge i L.length with h | h
   ·exact h
   ·simp [List.getElem?_eq_none h] at hi
  refine (k t ht).out w hF ⟨fp, fun j c hj => ?_, fun j b hb => by simpa using h2 j b hb, h3⟩
  by_cases hji : j = i
  ·subst hji
   rw [List.getElem?_set_self hil] at hj
   cases hj
   exact hD
  ·rw [List.getElem?_set_ne (fun h => hji h.symm)] at hj
   exact h1 j c hj⟩
theorem Jbt {α : Type} {G : Jt → (Nat → Value) → α → Prop} {E sz n : Nat} {p : Option Addr × Nat} {xs : List α} (i : Nat) (hi : L[i]? = some (Vw E sz G (.slice p.1 n p.2) n xs))
  (k : ∀ (hp : Jt) (css : List (List Value)), n = css.length → AllC G hp sz css xs → At cx K e (L.set i (Jv (Q3 Xo hp) (J3 E sz (.slice p.1 n p.2) n (css.map idC))))) : At cx K e L :=
 c_show (τ := Jt × List (List Value)) (D := fun t => Jv (Q3 Xo t.1) (J3 E sz (.slice p.1 n p.2) n (t.2.map idC))) (φ := fun t => n = t.2.length ∧ AllC G t.1 sz t.2 xs) i hi (fun S w ⟨hp, css, h1, h2, h3⟩ => ⟨(hp, css), ⟨h2, h1⟩, h3⟩) fun t ht => k t.1 t.2 ht.1 ht.2
theorem c_roD {α : Type} {G : Jt → (Nat → Value) → α → Prop} {sz n : Nat} {p : Option Addr × Nat} {xs : List α} (i : Nat) (hi : L[i]? = some (roD sz G (.slice p.1 n p.2) n xs))
  (k : ∀ (hp : Jt) (css : List (List Value)), n = css.length → AllC G hp sz css xs → At cx K e (L.set i (Jv (Q3 Xo hp) (roV sz (.slice p.1 n p.2) n (css.map idC))))) : At cx K e L :=
 c_show (τ := Jt × List (List Value)) (D := fun t => Jv (Q3 Xo t.1) (roV sz (.slice p.1 n p.2) n (t.2.map idC))) (φ := fun t => n = t.2.length ∧ AllC G t.1 sz t.2 xs) i hi (fun S w ⟨hp, css, h1, h2, h3⟩ => ⟨(hp, css), ⟨h2, h1⟩, h3⟩) fun t ht => k t.1 t.2 ht.1 ht.2
end rules
end Go.Lx

namespace Go.Vc
open Go Go.Md Go.Shelf Go.Sort Go.Proofs
end Go.Vc

namespace Go.Vc
open Go Go.Md Go.Shelf Go.Sort Go.Proofs
theorem flatE_len {α : Type} (enc : α → List Value) (k : Nat) (hk : ∀ x, (enc x).length = k) (l : List α) : (l.map enc).flatten.length = l.length * k := by
 induction l with
 | nil => simp
 | cons x l ih => simp [ih, hk, Nat.add_mul]; omega
theorem flatE_get {α : Type} [Inhabited α] (enc : α → List Value) (k : Nat) (hk : ∀ x, (enc x).length = k) : ∀ (l : List α) (t : Nat), t < l.length * k → (l.map enc).flatten[t]? = some (enc (l[t / k]!))[t % k]!
 | [], t, h => by simp at h
 | x :: l, t, h => by
  have k0 : 0 < k := by rcases Nat.eq_zero_or_pos k with h0 | h0
                        ·subst h0; simp at h
                        ·exact h0
  rw [List.map_cons, List.flatten_cons]
  rcases Nat.lt_or_ge t k with h1 | h1
  ·rw [List.getElem?_append_left (by rw [hk]; exact h1), Nat.div_eq_of_lt h1, Nat.mod_eq_of_lt h1, List.getElem!_cons_zero, List.getElem?_eq_getElem (by rw [hk]; exact h1), getElem!_pos _ t (by rw [hk]; exact h1)]
  ·rw [List.getElem?_append_right (by rw [hk]; exact h1), hk, flatE_get enc k hk l (t - k) (by simp only [List.length_cons, Nat.add_mul, Nat.one_mul] at h; omega)]
   have e1 : t / k = (t - k) / k + 1 := by rw [← Nat.sub_add_cancel h1]; simp [Nat.add_div_right _ k0]
   have e2 : t % k = (t - k) % k := by rw [Nat.mod_eq_sub_mod h1]
   rw [e1, e2, List.getElem!_cons_succ]
theorem Jgq {α : Type} [Inhabited α] (enc : α → List Value) (k : Nat) (hk : ∀ x, (enc x).length = k) (d : Array α) : (flatK enc k d).toList = (d.toList.map enc).flatten := by
 apply List.ext_getElem?
 intro t
 by_cases h : t < d.size * k
 ·have h2 := flatE_get enc k hk d.toList t (by simpa using h)
  have k0 : 0 < k := by rcases Nat.eq_zero_or_pos k with h0 | h0
                        ·subst h0; simp at h
                        ·exact h0
  have hlt : t / k < d.size := (Nat.div_lt_iff_lt_mul k0).2 h
  have e0 : d.toList[t / k]! = d[t / k]! := by rw [getElem!_pos d.toList (t / k) (by simpa using hlt), getElem!_pos d (t / k) hlt]; simp
  rw [h2, Array.getElem?_toList, Array.getElem?_eq_getElem (by simpa using h), ← getElem!_pos _ t (by simpa using h), get_flatK _ _ _ _ h, e0]
 ·rw [List.getElem?_eq_none (by simpa using h), List.getElem?_eq_none (by rw [flatE_len enc k hk]; simpa using h)]
theorem Jir {w : World} {g : Nat} {cur : Array Value} {e : TypeId} {F : Array Value} (hb : w.heap[g]? = some (.cells cur e (0, 0))) (ht : cur.toList.take F.size = F.toList) : Holds id w g 0 F := by
 intro j hj
 refine ⟨?_, by simp [World.frozen?, hb]⟩
 have h1 : (cur.toList.take F.size)[j]? = F.toList[j]? := by rw [ht]
 rw [List.getElem?_take_of_lt hj] at h1
 simp only [World.cell?, hb, Nat.zero_add]
 simp only [Option.isSome_none, Bool.false_eq_true, if_false]
 rw [← Array.getElem?_toList, h1]
 simp [hj]
theorem heap_sortedV {w : World} {g n : Nat} {os : Array Obj} {cur : Array Value} {e : TypeId} {fr : Nat × Nat} (F : Array Value) (hb : w.heap[g]? = some (.cells cur e fr)) :
  (grow (putRow id (Sort.ahead w n) g 0 F) os).heap[g]? = some (.cells (putCells id 0 F cur) e fr) := by
 have hg : g < w.heap.size := (Array.getElem?_eq_some_iff.1 hb).1
 rw [heap_grow_old _ _ (by simpa using hg)]
 simp [putRow, mapBlock, Sort.ahead, Array.getElem?_modify, hb, onCells]
theorem Jhn {w : World} {g n : Nat} {os : Array Obj} (F : Array Value) : w.grownBy (grow (putRow id (Sort.ahead w n) g 0 F) os) (some g) := by
 refine ⟨rfl, rfl, rfl, by simp, fun k hk hne => ?_⟩
 rw [heap_grow_old _ _ (by simpa using hk)]
 have : g ≠ k := fun e => hne (by rw [e])
 simp [putRow, mapBlock, Sort.ahead, Array.getElem?_modify, this]
theorem Jif (cur : Array Value) (F : Array Value) (h : F.size ≤ cur.size) : (putCells id 0 F cur).toList.take F.size = F.toList := by
 apply List.ext_getElem?
 intro j
 by_cases hj : j < F.size
 ·rw [List.getElem?_take_of_lt hj, Array.getElem?_toList]
  simp [putCells, hj, show j < cur.size by omega]
 ·rw [List.getElem?_take_eq_none (by omega), List.getElem?_eq_none (by simp; omega)]
theorem swo_of {α : Type} {cmp : α → α → Option Int} (c : CmpOk cmp) : SWO (ltOf fun x y => (cmp x y).getD 0) where
 irrefl x := by have := c.flip x x; unfold ltOf; simp; omega
 trans x y z h1 h2 := by
  unfold ltOf at *
  simp at *
  have a1 := c.flip x y
  have a2 := c.flip y z
  have a3 := c.flip z x
  have a4 := c.flip y x
  have a5 := c.flip z y
  have a6 := c.flip x z
  have t := c.trans y z x
  have t2 := c.trans x y z (by omega) (by omega)
  rcases Int.lt_or_le ((cmp x z).getD 0) 0 with h | h
  ·exact h
  ·have e0 : (cmp x z).getD 0 = 0 := by omega
   have := c.anti x z e0
   subst this
   omega
 ntrans x y z h1 h2 := by
  unfold ltOf at *
  simp at *
  have a1 := c.flip x y
  have a2 := c.flip y z
  have a3 := c.flip z x
  have a4 := c.flip y x
  have a5 := c.flip z y
  have a6 := c.flip x z
  have t := c.trans z y x (by omega) (by omega)
  omega
theorem sort_func {P : Program} {ρ : Ren} (Ly : SlLaysF0.n6 P ρ) {α : Type} {k : Nat} (aE : ∀ w, (isAgg (ρ.t 24)).run P w = .ok true w) (zE : ∀ w, (Go.sizeOf (ρ.t 24)).run P w = .ok k w) (enc : α → List Value) (hk : ∀ x, (enc x).length = k)
  (h1 : ∀ x, ∀ v ∈ enc x, v.oneCell' = true) {cf : α → α → Option Int} {g : Nat} (eg : ∀ args w, (callFunc g args).run P w = .ok (.enter g args) w)
  (hcl : ∀ (x y : α) (v : Int) (W : World), cf x y = some v → Calls P g #[.agg (enc x).toArray, .agg (enc y).toArray] W fun e w' => e = .returned (.int .i64 v) ∧ ∃ q os', w' = Go.Sort.grow (W.drewN q) os')
  {E : TypeId} {a0 r : List α} {p0 : Option Addr × Nat} {n0 : Nat} {w : World} {S : Nat → Prop}
  (hcs : (J3 E k (.slice p0.1 n0 p0.2) n0 (a0.map enc)).P S w) (hlt : ∀ b, S b → b < w.heap.size) (hn0 : n0 = a0.length) (H : Jcy a0 cf = some r) :
  Does P (ρ.f 6) (List.toArray [.slice p0.1 n0 p0.2, .func (.func g) #[] #[]]) w (fun v w' => ∃ _ : Unit, v = .tuple #[] ∧ Turn w w' S (J3 E k (.slice p0.1 n0 p0.2) n0 (r.map enc))) := by
 obtain ⟨p, c⟩ := p0
 unfold Jcy at H
 split at H
 case isFalse => cases H
 rename_i hh
 obtain ⟨hsz, hok⟩ := hh
 cases H
 subst hn0
 have hcs0 := hcs
 obtain ⟨⟨hown, hlen, hall⟩, hb⟩ := hcs
 rcases hown.2 with ⟨h0, h1'⟩ | ⟨b, cap, cur, hv, hbase, hh, q1, q2, q3, q4⟩
 ·have hnil : a0 = [] := List.eq_nil_of_length_eq_zero h1'
  subst hnil
  refine Calls.mono (AnyF.slices_SortFunc_none { Ly with } p c (.func (.func g) #[] #[]) w) ?_
  rintro e w' ⟨rfl, rfl⟩
  exact ⟨_, rfl, (), rfl, ⟨rfl, rfl, rfl, Nat.le_refl _, fun _ _ _ => rfl, S, by simpa using hcs0, fun b h => ⟨hlt b h, .inl h⟩⟩⟩
 ·simp only [Value.slice.injEq] at hv
  obtain ⟨hv1, -, hv2⟩ := hv
  subst hv1 hv2
  rcases List.eq_nil_or_concat a0 with rfl | ⟨_, x0, _⟩
  ·refine Calls.mono (AnyF.slices_SortFunc_none { Ly with } _ c (.func (.func g) #[] #[]) w) ?_
   rintro e w' ⟨rfl, rfl⟩
   exact ⟨_, rfl, (), rfl, ⟨rfl, rfl, rfl, Nat.le_refl _, fun _ _ _ => rfl, S, by simpa using hcs0, fun b h => ⟨hlt b h, .inl h⟩⟩⟩
  haveI : Inhabited α := ⟨x0⟩
  have hgl : b < w.heap.size := (Array.getElem?_eq_some_iff.1 hh).1
  have hfs : ∀ l : List α, (flatK enc k l.toArray).toList = (l.map enc).flatten := fun l => Jgq enc k hk l.toArray
  have hH : HoldsK enc k w b 0 a0.toArray := by
   refine Jir hh ?_
   rw [hfs, size_flatK, ← q4]
   simp
  have hcmp : CmpLays P g #[] enc k (fun x y => (cf x y).getD 0) b 0 a0.toArray.size w := fun m os dk _ x y => by
   obtain ⟨v, hv⟩ := hok.tot x y
   have := hcl x y v (sortWorldK enc k w b 0 m dk os) hv
   have e : (cf x y).getD 0 = v := by rw [hv]; rfl
   simp only [e]
   exact this
  have main := AnyQ.slices_SortFunc Ly k aE zE enc hk h1 (fun x y => (cf x y).getD 0) (swo_of hok) g #[] b 0 c a0.toArray w eg hcmp hH hgl (by simpa using hsz)
  rw [show a0.toArray.size = a0.length by simp] at main
  refine Calls.mono main ?_
  rintro e w' ⟨rfl, d', n, os, hperm, hsorted, rfl⟩
  have hds : d'.size = a0.length := by simpa using hperm.1
  have hp : d'.toList.Perm a0 := by
   have := hperm.2.2
   have z1 : (d'.extract 0 a0.length).toList = d'.toList := by rw [← hds]; simp
   have z2 : (a0.toArray.extract 0 a0.length).toList = a0 := by simp
   rw [z1, z2] at this
   exact this
  have hd : d'.toList = a0.mergeSort (leC cf) := by
   refine sortF_is hok hp ?_
   rw [List.pairwise_iff_getElem]
   intro i j hi hj hij
   have := hsorted i j (Nat.zero_le _) hij (by simpa [hds] using hj)
   rw [getElem!_pos d' j (by simpa using hj), getElem!_pos d' i (by simpa using hi)] at this
   unfold ltOf at this
   unfold leC
   have a1 := hok.flip d'[j] d'[i]
   have a2 := hok.flip d'[i] d'[j]
   simp at this ⊢
   simp at hi hj
   omega
  have hflat : (flatK enc k d').toList = ((a0.mergeSort (leC cf)).map enc).flatten := by rw [Jgq enc k hk, hd]
  have hG := Jhn (w := w) (g := b) (n := n) (os := os) (flatK enc k d')
  obtain ⟨g1, g2, g3, g4, g5⟩ := hG
  have hSg : S b := hb b rfl
  have hll : (a0.mergeSort (leC cf)).length = a0.length := List.length_mergeSort _
  refine ⟨_, rfl, (), rfl, ⟨g1, g2, g3, g4, fun z hz hnz => g5 z hz (fun h => hnz (by cases h; exact hSg)), S, ⟨⟨⟨by rw [flatE_len enc k hk]; simp [hll], .inr ⟨b, c, _, rfl, hbase, heap_sortedV _ hh, q1, q2, by simp [putCells, q3], ?_⟩⟩, by simp [hll], fun x hx => ?_⟩, hb⟩, fun z h => ⟨Nat.lt_of_lt_of_le (hlt z h) g4, .inl h⟩⟩⟩
  ·rw [← hflat]
   have := Jif cur (flatK enc k d') (by rw [size_flatK, q3, hds]; exact Nat.mul_le_mul_right k q1)
   rw [size_flatK, hds] at this
   exact this
  ·obtain ⟨y, _, rfl⟩ := List.mem_map.1 hx
   exact hk y
end Go.Vc

namespace Go.Lx
open Go Go.Vc Go.Md
def _root_.Go.Vc.Kd.dv (a : Nat) (rds : List Nat) (φ : Value → Value) : Kd := .g [a] rds [] (fun vs _ v => v = φ (vs.headD undef)) (fun _ _ _ => [])
section rules
variable {P : Program} {cx : Cx} {ops : Array Oper} {F : Xs → List Chunk → Prop} {ss : List Kd} {rest : List Oper} {e : Xs} {L : List Chunk}
end rules
section rules
variable {P : Program} {n : Nat} {cx : Cx} {e : Xs} {L : List Chunk} {d : Nat} {ty : TypeId} {pos : String} {af : Array Edge} {g : Option (Nat × Bool)}
end rules
end Go.Lx

namespace Go.Lx
open Go Go.Vc Go.Md
section rules
variable {P : Program} {n : Nat} {cx : Cx} {e : Xs} {L : List Chunk} {d : Nat} {ty : TypeId} {pos : String} {af : Array Edge} {g : Option (Nat × Bool)}
theorem Jfu {sz : Nat} : ∀ {xs : List (List Value)} (a : Nat), (∀ x ∈ xs, x.length = sz) → xs.flatten.take (a * sz) = (xs.take a).flatten
 | [], a, _ => by simp
 | x :: xs, 0, _ => by simp
 | x :: xs, a + 1, h => by
  have hx := h x (by simp)
  rw [List.take_succ_cons, List.flatten_cons, List.flatten_cons, Nat.succ_mul, List.take_append, hx, List.take_of_length_le (by omega), show a * sz + sz - sz = a * sz from by omega, Jfu a fun y hy => h y (by simp [hy])]
end rules
end Go.Lx

namespace Go.Lx
open Go Go.Vc Go.Md
theorem Jeo (a : Option Addr) (m sz : Nat) : Xg a 0 m sz = a := by
 unfold Xg
 split
 ·rfl
 ·cases a with
  | none => rfl
  | some x => obtain ⟨b, o, f⟩ := x; simp [Addr.add]
section ops
variable {P : Program} {e : Xs} {d : Option Nat} {ty : TypeId} {pos : String} {af : Array Edge} {g : Option (Nat × Bool)}
theorem run_sliceHO0 {α : Type} {X B : Operand} {a : Option Addr} {m c : Nat} {t u sz : Nat} {kb : IntKind} {q : Int} {xs ys : List α} {w : World} (hu : P.underlying t = some (.slice u)) (hs : ∀ w, (sizeOf u).run P w = .ok sz w)
  (hx : ev e X = .slice a m c) (hb : ev e B = .int kb q) (hm : m = xs.length) (hc : m ≤ c) (hg : Xr xs 0 q = some ys) :
  (execOp (ev e) ⟨d, .slice t X none (some B) none, ty, pos, af, g⟩).run P w = .ok (.value (.slice a ys.length c)) w := by
 obtain ⟨g0, g1, g2, _⟩ := Zv hg
 have hl := Jdf hg
 rw [r_sliceH hu hs hx hb g1 (by omega) w, hl, Jeo]; rfl
end ops
section rules
variable {P : Program} {n : Nat} {cx : Cx} {e : Xs} {L : List Chunk} {d : Nat} {ty : TypeId} {pos : String} {af : Array Edge} {g : Option (Nat × Bool)}
theorem Turns.pre {σ : Type} {o : Oper} {i : Nat} {rds : List Nat} {G : σ → Value} {D : σ → Chunk} {C C' : Chunk} (hI : Imp C C') (hL : L[i]? = some C) (hr : i ∉ rds) (h : Turns P cx e o (L.set i C') i rds G D) : Turns P cx e o L i rds G D := by
 intro w L' hF hS hl hi
 have hLi := (hi i (.inr rfl)).trans hL
 have hS' : Sat cx w (L'.set i C') := hS.set hF hLi (Nat.le_refl _) fun S hp hb => ⟨S, hI.out S w hp, fun b hs => ⟨(hb b hs).1, .inl hs⟩, fun _ _ _ => rfl⟩
 have hil : i < L.length := by
  rcases Nat.lt_or_ge i L.length with h | h
  ·exact h
  ·rw [List.getElem?_eq_none h] at hL; cases hL
 have := h w (L'.set i C') hF hS' (by simp [hl]) fun j hj => by
  by_cases hji : j = i
  ·subst hji; rw [List.getElem?_set_self (by omega), List.getElem?_set_self hil]
  ·rw [List.getElem?_set_ne (fun e => hji e.symm), List.getElem?_set_ne (fun e => hji e.symm)]
   exact hi j (hj.imp_right fun h => h)
 simpa [List.set_set] using this
theorem Jft {sz : Nat} : ∀ {xs : List (List Value)} (a : Nat), (∀ x ∈ xs, x.length = sz) → xs.flatten.drop (a * sz) = (xs.drop a).flatten
 | [], a, _ => by simp
 | x :: xs, 0, _ => by simp
 | x :: xs, a + 1, h => by
  have hx := h x (by simp)
  rw [List.drop_succ_cons, List.flatten_cons, Nat.succ_mul, List.drop_append, hx, List.drop_eq_nil_of_le (by omega), List.nil_append, show a * sz + sz - sz = a * sz from by omega, Jft a fun y hy => h y (by simp [hy])]
end rules
end Go.Lx

namespace Go.Lx
open Go Go.Vc Go.Md
section rules
variable {cx : Cx} {K : Xs → World → Prop} {e : Xs} {L : List Chunk}
theorem c_emp (k : At cx K e (L ++ [empC])) : At cx K e L := ⟨fun w hF hS => k.out w hF (hS.emp hF)⟩
end rules
section ops
variable {P : Program} {cx : Cx} {e : Xs} {L : List Chunk} {d : Option Nat} {ty : TypeId} {pos : String} {af : Array Edge} {g : Option (Nat × Bool)}
end ops
section rules
variable {P : Program} {cx : Cx} {ops : Array Oper} {F : Xs → List Chunk → Prop} {rest : List Oper} {ss : List Kd} {e : Xs} {L : List Chunk} {d : Nat}
end rules
end Go.Lx

namespace Go.Lx
open Go Go.Vc Go.Md
def cutL {β : Type} (xs : List β) (l q : Int) : List β := (xs.drop l.toNat).take (q.toNat - l.toNat)
section allc
variable {α : Type} {G : Jt → (Nat → Value) → α → Prop} {h : Jt} {sz : Nat} {css : List (List Value)} {xs ys : List α} {l q : Int}
theorem AllC.cutG (p : AllC G h sz css xs) (g : Xr xs l q = some ys) : Xr css l q = some (cutL css l q) := by
 obtain ⟨g0, g1, g2, _⟩ := Zv g
 exact Jcr ⟨g0, g1, by rw [p.len]; exact g2⟩
theorem AllC.cut (p : AllC G h sz css xs) (g : Xr xs l q = some ys) : AllC G h sz (cutL css l q) ys := by
 obtain ⟨g0, g1, g2, rfl⟩ := Zv g
 refine ⟨by simp [cutL, p.len], fun i cs x h1 h2 => ?_⟩
 unfold cutL at h1
 rw [List.getElem?_take] at h1 h2
 split at h1
 ·rename_i hi
  rw [if_pos hi] at h2
  rw [List.getElem?_drop] at h1 h2
  exact p.el _ cs x h1 h2
 ·cases h1
theorem AllC.append {cs2 : List (List Value)} (p : AllC G h sz css xs) (q : AllC G h sz cs2 ys) : AllC G h sz (css ++ cs2) (xs ++ ys) := by
 refine ⟨by simp [p.len, q.len], fun i c x hc hx => ?_⟩
 have hl := p.len
 by_cases hi : i < css.length
 ·rw [List.getElem?_append_left hi] at hc
  rw [List.getElem?_append_left (by omega)] at hx
  exact p.el i c x hc hx
 ·rw [List.getElem?_append_right (by omega)] at hc
  rw [List.getElem?_append_right (by omega), ← hl] at hx
  exact q.el _ c x hc hx
end allc
section rules
variable {P : Program} {n : Nat} {cx : Cx} {e : Xs} {L : List Chunk} {d : Nat} {ty : TypeId} {pos : String} {af : Array Edge} {g : Option (Nat × Bool)}
theorem U1 {α : Type} {G : Jt → (Nat → Value) → α → Prop} {hp : Jt} {E sz n : Nat} {p : Option Addr × Nat} {css : List (List Value)} {xs : List α} (hn : n = css.length) (f : AllC G hp sz css xs) :
  Imp (Jv (Q3 Xo hp) (J3 E sz (.slice p.1 n p.2) n (css.map idC))) (Vw E sz G (.slice p.1 xs.length p.2) xs.length xs) := by
 subst hn
 rw [← f.len]
 exact Zc rfl f
theorem frn_rowD0 {α : Type} {G : Jt → (Nat → Value) → α → Prop} [Mon G] {E sz : Nat} {p : Option Addr × Nat} {xs : List α} {S : Nat → Prop} {w : World} (h : (Vw E sz G (.slice p.1 xs.length p.2) xs.length xs).P S w) (H : Jt) (hH : ∀ b o, S b → w.heap[b]? = some o → H b = some o) : FrN H sz (.slice p.1 xs.length p.2) G xs := by
 obtain ⟨hp, css, f, hn, S1, S2, k1, k2, k3, k4, _⟩ := h
 have hr := Jf3 k2.1.1 k2.1.2.1 k2.1.2.2
 refine Wu (hr.sub (S := S2) k2.2 fun b o hs hb => hH b o (k4 b hs) hb) (f.mono fun b o hb => ?_)
 rcases k1.2 b o hb with h | ⟨h1, h2⟩
 ·cases h
 ·exact hH b o (k3 b h1) h2
theorem Jhz {α : Type} {G : Jt → (Nat → Value) → α → Prop} [Mon G] {w : World} {i E sz : Nat} {p : Option Addr × Nat} {xs : List α} (hS : Sat cx w L) (hL : L[i]? = some (Vw E sz G (.slice p.1 xs.length p.2) xs.length xs)) : FrN (fun b => w.heap[b]?) sz (.slice p.1 xs.length p.2) G xs := by
 obtain ⟨S, hp, _⟩ := hS.at hL
 exact frn_rowD0 hp _ fun _ _ _ h => h
def offR (w : World) (E sz : Nat) (v : Value) (n : Nat) (xs : List (List Value)) : Prop :=
 ∃ g off cap cur, v = .slice (some ⟨g, off, none⟩) n cap ∧ w.heap[g]? = some (.cells cur E (0, 0)) ∧ n ≤ cap ∧ cap ≤ maxLen ∧ off + cap * sz ≤ cur.size ∧ (cur.toList.drop off).take (n * sz) = xs.flatten
def Jav (E sz : Nat) (v : Value) (n : Nat) (xs : List (List Value)) : Chunk where
 P S w := ((w.ownsRow 0 E sz v n xs.flatten ∨ offR w E sz v n xs) ∧ xs.length = n ∧ ∀ x ∈ xs, x.length = sz) ∧ ∀ b, v.ownBlock = some b → S b
 loc S w w' h := by
  rintro ⟨⟨h2, h3⟩, h4⟩
  refine ⟨⟨?_, h3⟩, h4⟩
  rcases h2 with h2 | ⟨g, off, cap, cur, rfl, hh, hr⟩
  ·exact .inl ((J3 E sz v n xs).loc S w w' h ⟨⟨h2, h3⟩, h4⟩).1.1
  ·exact .inr ⟨g, off, cap, cur, rfl, (h g (h4 g rfl)).trans hh, hr⟩
theorem Ji1 (E sz : Nat) (v : Value) (n : Nat) (xs : List (List Value)) : Imp (J3 E sz v n xs) (Jav E sz v n xs) := ⟨fun _ _ ⟨⟨h1, h2⟩, h3⟩ => ⟨⟨.inl h1, h2⟩, h3⟩⟩
theorem offR.frs {w : World} {E sz : Nat} {v : Value} {n : Nat} {xs : List (List Value)} (h : offR w E sz v n xs) (hn : xs.length = n) (hl : ∀ x ∈ xs, x.length = sz) : FrS (fun b => w.heap[b]?) sz v xs := by
 obtain ⟨g, off, cap, cur, rfl, hh, hnc, hm, hcs, ht⟩ := h
 subst hn
 refine ⟨some ⟨g, off, none⟩, cap, rfl, hnc, by simpa [maxLen] using hm, .inr ⟨g, off, cur, E, (0, 0), rfl, hh, fun i x hx => ⟨hl x (List.mem_of_getElem? hx), fun j v hv => ?_⟩⟩⟩
 have hr := Jak xs i x (List.all_eq_true.2 fun x hx => by simpa using hl x hx) hx j v hv
 rw [← ht, List.getElem?_take] at hr
 split at hr
 ·rw [List.getElem?_drop, Array.getElem?_toList] at hr
  rw [← hr, Nat.add_assoc]
 ·cases hr
theorem rowO_frs0 {w : World} {E sz : Nat} {v : Value} {n : Nat} {xs : List (List Value)} {S : Nat → Prop} (h : (Jav E sz v n xs).P S w) : FrS (fun b => w.heap[b]?) sz v xs := by
 obtain ⟨⟨h1, h2, h3⟩, _⟩ := h
 exact h1.elim (fun h => Jf3 h h2 h3) (fun h => h.frs h2 h3)
theorem offOf {w : World} {i E sz n c : Nat} {a : Option Addr} {xs : List (List Value)} (hS : Sat cx w L) (hL : L[i]? = some (Jav E sz (.slice a n c) n xs)) : Row w a sz xs := by
 obtain ⟨S, h, _⟩ := hS.at hL
 obtain ⟨a', c', hv, _, _, r⟩ := (rowO_frs0 h).out
 simp only [Value.slice.injEq] at hv
 obtain ⟨rfl, _, rfl⟩ := hv
 exact r.row fun _ _ h => h
theorem own0 {w : World} {base E sz n : Nat} {v : Value} {xs : List Value} (h : w.ownsRow base E sz v n xs) : w.ownsRow 0 E sz v n xs :=
 ⟨h.1, h.2.imp id fun ⟨g, cap, cur, h1, _, h3⟩ => ⟨g, cap, cur, h1, Nat.zero_le _, h3⟩⟩
theorem Jjb {i : Nat} {S X : Operand} {t E : TypeId} {I : TypeInfo} {z : Value} {sz by_ : Nat} {p : Option Addr × Nat} {m : Nat} {xs : List (List Value)} {ad : Addr} {q c : Nat} {news : List (List Value)} {rds : List Nat}
  (ht : P.underlying t = some (.slice E)) (hi : P.info? E = some I) (hz : I.zero = some z) (hsize : I.size = sz) (hby : I.bytes = by_) (hzs : z.cells.size = sz) (hsz : Nat.blt 0 sz = true)
  (hL : L[i]? = some (Jav E sz (.slice p.1 m p.2) m xs)) (hs : ev e S = .slice p.1 m p.2) (hx : ev e X = .slice (some ad) q c) (hq : news.length = q) (hnl : ∀ x ∈ news, x.length = sz)
  (hnews : ∀ w L', Fr cx w → Sat cx w L' → (∀ j, j ∈ rds → L'[j]? = L[j]?) → Row w (some ad) sz news) (h1 : ∀ x ∈ news, ∀ u ∈ x, u.oneCell' = true)
  (h63 : m + q ≤ maxLen) (hbytes : (m + q) * by_ ≤ 140737488355328) :
  Turns P cx e ⟨some d, .call ⟨.builtin .append, #[S, X], #[t, t]⟩, ty, pos, af, g⟩ L i rds (fun p' : Option Addr × Nat => .slice p'.1 (m + q) p'.2) (fun p' => Jav E sz (.slice p'.1 (m + q) p'.2) (m + q) (xs ++ news)) := fun w L' hF hS hl hi' => by
 subst hsize
 have hL' := (hi' i (.inr rfl)).trans hL
 obtain ⟨S0, ⟨⟨ho, hlen, hlx⟩, hob⟩, hS0⟩ := hS.at hL'
 have hsz' : 0 < I.size := by simpa using hsz
 have hfl : news.flatten.length = q * I.size := by rw [Yc news hnl, hq]
 have hle : (xs ++ news).length = m + q := by simp [hlen, hq]
 have hcell : ∀ j u, news.flatten[j]? = some u → w.cell? (ad.add j) = some u := by
  intro j u hj
  obtain ⟨i', k', x, g1, g2, g3⟩ := Jag news hnl j u hj
  rcases hnews w L' hF hS (fun j hj => hi' j (.inl hj)) with h | ⟨b, off, ha, h⟩
  ·subst h; simp at g1
  ·cases ha
   have := (h i' x g1).2 k' u g2
   rw [Addr.add_lit, g3, ← Nat.add_assoc]
   exact this
 have hone : ∀ u ∈ news.flatten, u.oneCell' = true := fun u hu => by
  obtain ⟨x, hx, hux⟩ := List.mem_flatten.1 hu
  exact h1 x hx u hux
 have hall : ∀ x ∈ xs ++ news, x.length = I.size := fun x hx => by
  rcases List.mem_append.1 hx with h | h
  ·exact hlx x h
  ·exact hnl x h
 have hflat : (xs ++ news).flatten = xs.flatten ++ news.flatten := List.flatten_append
 rcases ho with ho | ⟨g0, off, cap, cur, hv, hh, hnc, hcm, hfit, htk⟩
 ·obtain ⟨v', w', hr, h2, h3, h5⟩ := Jcw (P := P) (ty := ty) (pos := pos) (af := af) (g := g) (d := some d) ht hi hz rfl hby hzs hsz' hs ho hx hfl hcell hone h63 hbytes
  obtain ⟨p', rfl⟩ := U2 h2
  rw [← hflat] at h2
  obtain ⟨hF', hS'⟩ := hS.turnOf hF hL' (C := Jav E I.size (.slice p'.1 (m + q) p'.2) (m + q) (xs ++ news)) fun S1 hp => by
   have t1 := Jas (xs' := xs ++ news) hp.2 h2 h3 h5 hle hall
   obtain ⟨S2, k1, k2⟩ := t1.out
   exact ⟨t1.os, t1.tape, t1.output, t1.size, t1.block, S2, (Ji1 _ _ _ _ _).out _ _ k1, k2⟩
  unfold RunsTo
  rw [hr]
  exact ⟨p', rfl, hF', hS'⟩
 ·simp only [Value.slice.injEq] at hv
  obtain ⟨e1, _, e2⟩ := hv
  have hs' : ev e S = .slice (some ⟨g0, off, none⟩) m cap := by rw [hs, e1, e2]
  have hexec : ∀ v w', (Builtin.append_ #[t, t] ty #[.slice (some ⟨g0, off, none⟩) m cap, .slice (some ad) q c]).run P w = .ok v w' → (execOp (ev e) ⟨some d, .call ⟨.builtin .append, #[S, X], #[t, t]⟩, ty, pos, af, g⟩).run P w = .ok (.value v) w' := by
   intro v w' hr
   simp only [execOp, resolve, invoke, builtin, Sem.run_bind, Sem.run_pure, Result.andThen_ok, List.map_toArray, List.map_cons, List.map_nil, hs', hx, hr]
  have hcur : cur.toList.length = cur.size := Array.length_toList
  by_cases hroom : m + q ≤ cap
  ·have hfit' : off + m * I.size + news.flatten.length ≤ cur.size := by
    have : (m + q) * I.size ≤ cap * I.size := Nat.mul_le_mul_right _ hroom
    rw [Nat.add_mul] at this; omega
   have hfc := run_firstCells_some (P := P) w I.size q ad q c news.flatten hfl hcell
   have hst := run_storeCells_at (P := P) g0 (off + m * I.size) E news.flatten 0 cur w hh (by simpa using hfit') hone
   simp only [Nat.add_zero] at hst
   have hr2 : (Builtin.append_ #[t, t] ty #[.slice (some ⟨g0, off, none⟩) m cap, .slice (some ad) q c]).run P w = .ok (.slice (some ⟨g0, off, none⟩) (m + q) cap) (w.setRow g0 (cur.toList.take (off + m * I.size) ++ news.flatten ++ cur.toList.drop (off + m * I.size + news.flatten.length)).toArray) := by
    simp [Builtin.append_, run_underlying ht, sizeOf, typeInfo, hi, Builtin.lenOf, hroom, hfc, Addr.add_lit, hst]
   have hr := hexec _ _ hr2
   have hlen2 : (cur.toList.take (off + m * I.size) ++ news.flatten ++ cur.toList.drop (off + m * I.size + news.flatten.length)).length = cur.size := by
    simp only [List.length_append, List.length_take, List.length_drop, hcur]; omega
   obtain ⟨hF', hS'⟩ := hS.turnOf hF hL' (C := Jav E I.size (.slice (some ⟨g0, off, none⟩) (m + q) cap) (m + q) (xs ++ news)) (w' := w.setRow g0 (cur.toList.take (off + m * I.size) ++ news.flatten ++ cur.toList.drop (off + m * I.size + news.flatten.length)).toArray) fun S1 hp => by
    have hg1 : S1 g0 := hp.2 g0 (by rw [e1]; rfl)
    refine ⟨rfl, rfl, rfl, by simp [World.setRow], fun b' hb' hn => ?_, (fun x => x = g0), ⟨⟨.inr ⟨g0, off, cap, _, rfl, setRow_heap w g0 cur _ E _ hh, hroom, hcm, by rw [List.size_toArray, hlen2]; exact hfit, ?_⟩, hle, hall⟩, fun b' hb' => by cases hb'; rfl⟩, fun b' hb' => ⟨?_, .inl (by rw [hb']; exact hg1)⟩⟩
    ·exact setRow_other w g0 b' _ fun h => hn (by rw [h]; exact hg1)
    ·rw [hflat]
     have hd : (cur.toList.take (off + m * I.size) ++ news.flatten ++ cur.toList.drop (off + m * I.size + news.flatten.length)).drop off = ((cur.toList.drop off).take (m * I.size) ++ news.flatten) ++ cur.toList.drop (off + m * I.size + news.flatten.length) := by
      rw [List.append_assoc, List.drop_append_of_le_length (by rw [List.length_take, hcur]; omega), List.drop_take, Nat.add_sub_cancel_left, List.append_assoc]
     have hl2 : ((cur.toList.drop off).take (m * I.size) ++ news.flatten).length = (m + q) * I.size := by
      rw [List.length_append, List.length_take, List.length_drop, hcur, Nat.add_mul, Nat.min_eq_left (by omega)]; omega
     show ((cur.toList.take (off + m * I.size) ++ news.flatten ++ cur.toList.drop (off + m * I.size + news.flatten.length)).toArray.toList.drop off).take _ = _
     rw [List.toList_toArray, hd, ← hl2, List.take_left, htk]
    ·rw [hb', setRow_size]; exact (Array.getElem?_eq_some_iff.1 hh).1
   unfold RunsTo
   rw [hr]
   exact ⟨(some ⟨g0, off, none⟩, cap), rfl, hF', hS'⟩
  ·have hgr := run_append_arg_grows (P := P) w t ty E I z I.size by_ ht hi hz rfl hby hzs hsz' ⟨g0, off, none⟩ m cap xs.flatten (by rw [Yc xs hlx, hlen]) (fun j u hj => ?_) ad q c news.flatten hfl hcell (by omega) h63 hbytes
   ·obtain ⟨v', w', hr, h2, h3⟩ := hgr
    have hr := hexec _ _ hr
    obtain ⟨p', rfl⟩ := U2 (own0 h2)
    rw [← hflat] at h2
    obtain ⟨hF', hS'⟩ := hS.turnOf hF hL' (C := Jav E I.size (.slice p'.1 (m + q) p'.2) (m + q) (xs ++ news)) fun S1 hp => by
     refine ⟨h3.os, h3.tape, h3.output, h3.size, fun b' hb' _ => h3.block b' hb' (by simp), fun b' => (Value.slice p'.1 (m + q) p'.2).ownBlock = some b', ⟨⟨.inl (own0 h2), hle, hall⟩, fun _ h => h⟩, fun b' hb' => ⟨(h2.lt b' hb').2, .inr (h2.lt b' hb').1⟩⟩
    unfold RunsTo
    rw [hr]
    exact ⟨p', rfl, hF', hS'⟩
   ·obtain ⟨i', k', x, g1, g2, g3⟩ := Jag xs hlx j u hj
    have hr := (offR.frs ⟨g0, off, cap, cur, rfl, hh, hnc, hcm, hfit, htk⟩ hlen hlx).out
    obtain ⟨a', c', hv', _, _, r⟩ := hr
    simp only [Value.slice.injEq] at hv'
    obtain ⟨rfl, _, rfl⟩ := hv'
    rcases r.row (w := w) (fun _ _ h => h) with h | ⟨b', off', ha, h⟩
    ·subst h; simp at g1
    ·cases ha
     have := (h i' x g1).2 k' u g2
     rw [Addr.add_lit, g3, ← Nat.add_assoc]
     exact this
end rules
def _root_.Go.Vc.Kd.nsv (q i m : Nat) (cs : Value → List Value) (T : TypeId) : Kd := .g [q] [] [i] (fun _ _ v => ∃ b, v = .slice (some ⟨b, 0, none⟩) m m) (fun vs _ v => [Jc7 v (cs (vs.headD undef)) T])
noncomputable def os0 : Os := by constructor <;> exact default
theorem lit_inj {b b' : Nat} {u u' : Value} {T : TypeId} (h : Jf b [u] T = Jf b' [u'] T) : u = u' := by
 have h1 : (Jf b [u] T).P (fun x => x = b) { heap := (Array.replicate b (.cells #[] 0 (0, 0))).push (.cells #[u] T (0, 0)), tape := fun _ _ => 0, drawn := 0, os := os0, output := #[] } := ⟨fun _ => Iff.rfl, by show ((Array.replicate b (Obj.cells #[] 0 (0, 0))).push (Obj.cells #[u] T (0, 0)))[b]? = _; rw [Array.getElem?_push]; simp⟩
 rw [h] at h1
 obtain ⟨h2, h3⟩ := h1
 have e : b' = b := (h2 b').2 rfl
 subst e
 have h4 : ((Array.replicate b' (Obj.cells #[] 0 (0, 0))).push (Obj.cells #[u] T (0, 0)))[b']? = some (.cells [u'].toArray T (0, 0)) := h3
 rw [Array.getElem?_push] at h4
 simpa using h4
open Classical in
noncomputable def Jgs (T : TypeId) (c : Option Chunk) : Value := if h : ∃ p : Nat × Value, c = some (Jf p.1 [p.2] T) then h.choose.2 else undef
theorem litOf_eq {b : Nat} {u : Value} {T : TypeId} : Jgs T (some (Jf b [u] T)) = u := by
 have h : ∃ p : Nat × Value, some (Jf b [u] T) = some (Jf p.1 [p.2] T) := ⟨(b, u), rfl⟩
 unfold Jgs
 rw [dif_pos h]
 exact (lit_inj (Option.some.inj h.choose_spec)).symm
noncomputable def _root_.Go.Vc.Kd.tv (T i : Nat) (rds : List Nat) {σ : Type} (G : Value → σ → Value) (Cv : Value → Value → Chunk) : Kd := .g [] rds [i] (fun _ ls v => ∃ x, v = G (Jgs T (ls.headD none)) x) (fun _ ls v => [Cv (Jgs T (ls.headD none)) v])
section rules
variable {P : Program} {cx : Cx} {ops : Array Oper} {F : Xs → List Chunk → Prop} {rest : List Oper} {ss : List Kd} {e : Xs} {L : List Chunk} {d : Nat}
theorem d_newSV {o : Oper} {i q m : Nat} {T : TypeId} {x : Value} {cs : Value → List Value} {cs0 : List Value} (hw : X1 ops o e = true) (hd : o.dst = some d) (hx : e q = x) (hcs : cs x = cs0)
  (hr : ∀ w, (execOp (ev e) o).run P w = .ok (.value (.slice (some ⟨w.heap.size, 0, none⟩) m m)) (w.alloc (.cells cs0.toArray T))) (hL : L[i]? = some empC)
  (k : ∀ b, Sq P cx ops F rest ss (upd e d (.slice (some ⟨b, 0, none⟩) m m)) (L.set i (Jf b cs0 T))) : Sq P cx ops F (o :: rest) (.nsv q i m cs T :: ss) e L := by
 have hh : cs (([q].map e).headD undef) = cs0 := by show cs (e q) = cs0; rw [hx, hcs]
 refine .take hw ⟨.slice (some ⟨0, 0, none⟩) m m, 0, rfl⟩ ⟨fun w L' hF hS _ hi => ?_⟩ fun v' hv' => ?_
 ·unfold RunsTo
  rw [hr]
  refine ⟨⟨_, rfl⟩, hF.grow (Uv w _), ?_⟩
  show Sat cx _ (L'.set i (Jc7 _ (cs (([q].map e).headD undef)) T))
  rw [hh]
  refine hS.set hF ((hi i (.inr (by simp [Kd.nsv, Kd.wrs]))).trans hL) (by simp) fun S _ hSo => ⟨fun x => x = w.heap.size, ⟨fun _ => Iff.rfl, heap_alloc_new w _⟩, fun b hb => ?_, fun b hb _ => (by first | exact heap_alloc_old w _ b hb | exact heap_alloc_old w _ hb)⟩
  subst hb
  exact ⟨by simp, .inr (Nat.le_refl _)⟩
 ·obtain ⟨b, rfl⟩ : ∃ b, v' = .slice (some ⟨b, 0, none⟩) m m := hv'
  rw [hd]
  show Sq P cx ops F rest ss _ (L.set i (Jc7 _ (cs (([q].map e).headD undef)) T))
  rw [hh]
  exact k b
theorem d_turnV {σ : Type} {o : Oper} {d i k b T : Nat} {rds : List Nat} {u : Value} {G : Value → σ → Value} {C : σ → Chunk} {Cv : Value → Value → Chunk} (x0 : σ) (hk : L[k]? = some (Jf b [u] T)) (h : Turns P cx e o L i (k :: rds) (G u) C) (hC : ∀ x, Cv u (G u x) = C x) (hw : X1 ops o e = true) (hd : o.dst = some d)
  (k' : ∀ x, Sq P cx ops F rest ss (upd e d (G u x)) (L.set i (C x))) : Sq P cx ops F (o :: rest) (.tv T i (k :: rds) G Cv :: ss) e L := by
 have hu : Jgs T (((k :: rds).map (Go.Vc.look L)).headD none) = u := by
  show Jgs T L[k]? = u
  rw [hk, litOf_eq]
 refine .take hw ⟨G u x0, x0, by rw [hu]⟩ ⟨fun w L' hF hS hl hi => ?_⟩ fun v' hv' => ?_
 ·refine (h w L' hF hS hl fun j hj => hi j (by simpa [Kd.tv, Kd.rds, Kd.wrs] using hj)).mono fun v w' ⟨x, hv, hF', hS'⟩ => ?_
  subst hv
  refine ⟨⟨x, by rw [hu]⟩, hF', ?_⟩
  show Sat cx w' (L'.set i (Cv (Jgs T (((k :: rds).map (Go.Vc.look L)).headD none)) (G u x)))
  rw [hu, hC]; exact hS'
 ·obtain ⟨x, rfl⟩ : ∃ x, v' = G u x := by
   obtain ⟨x, hx⟩ : ∃ x, v' = G (Jgs T (((k :: rds).map (Go.Vc.look L)).headD none)) x := hv'
   exact ⟨x, by rw [hx, hu]⟩
  show Sq P cx ops F rest ss (Vq e o.dst (G u x)) (L.set i (Cv (Jgs T (((k :: rds).map (Go.Vc.look L)).headD none)) (G u x)))
  rw [hu, hC, hd]
  exact k' x
end rules
end Go.Lx

namespace Go.Lx
open Go Go.Vc Go.Md
def setR (css : List (List Value)) (i : Int) (j : Nat) (v : Value) : List (List Value) := css.set i.toNat ((css.getD i.toNat []).set j v)
def updF (c : Nat → Value) (j : Nat) (v : Value) (q : Nat) : Value := cond (Nat.beq q j) v (c q)
theorem setR_len (css : List (List Value)) (i : Int) (j : Nat) (v : Value) : (setR css i j v).length = css.length := by simp [setR]
theorem lenR {α : Type} {css : List (List Value)} {xs ys : List α} {i : Int} {j : Nat} {v : Value} {x : α} (h : css.length = xs.length) (g : gSet xs i x = some ys) : (setR css i j v).length = ys.length := by
 obtain ⟨_, _, rfl⟩ := Ja9 g
 rw [setR_len, h, List.length_set]
theorem AllC.setR {α : Type} {G : Jt → (Nat → Value) → α → Prop} {h : Jt} {sz : Nat} {css : List (List Value)} {xs ys : List α} (p : AllC G h sz css xs) {i : Int} {x x' : α} {j : Nat} {v : Value} (g : Q9 xs i = some x) (g2 : gSet xs i x' = some ys) (hj : Nat.blt j sz = true)
  (hG : G h (updF (fun q => (css.getD i.toNat []).getD q undef) j v) x') : AllC G h sz (Go.Lx.setR css i j v) ys := by
 have hj' : j < sz := by simpa using hj
 obtain ⟨h0, h1, rfl⟩ := Ja9 g2
 have hget := p.get g
 have hl := (p.el _ _ _ hget (Y3 g).2.2).1
 refine ⟨by rw [setR_len, p.len, List.length_set], fun k c y hc hy => ?_⟩
 unfold Go.Lx.setR at hc
 rw [List.getElem?_set] at hc hy
 by_cases hk : i.toNat = k
 ·subst hk
  rw [if_pos rfl, if_pos (by rw [p.len]; exact h1)] at hc
  rw [if_pos rfl, if_pos h1] at hy
  cases hc; cases hy
  refine ⟨by rw [List.length_set]; exact hl, ?_⟩
  have : (fun q => ((css.getD i.toNat []).set j v).getD q undef) = updF (fun q => (css.getD i.toNat []).getD q undef) j v := by
   funext q
   unfold updF
   simp only [List.getD_eq_getElem?_getD, List.getElem?_set]
   by_cases hq : j = q
   ·subst hq
    have : Nat.beq j j = true := by simp
    simp only [List.getD_eq_getElem?_getD] at hl
    rw [this, if_pos rfl, if_pos (by rw [hl]; exact hj')]; rfl
   ·have : Nat.beq q j = false := by
     cases hb : Nat.beq q j with
     | false => rfl
     | true => exact absurd (Nat.eq_of_beq_eq_true hb).symm hq
    rw [this, if_neg hq]; rfl
  rw [this]; exact hG
 ·rw [if_neg hk] at hc hy
  exact p.el k c y hc hy
theorem wr_set {y : List Value} {j : Nat} {v : Value} (h : j < y.length) : wr y j [v] = some (y.set j v) := by
 induction y generalizing j with
 | nil => simp at h
 | cons a y ih =>
  cases j with
  | zero => simp [wr, wrn]
  | succ j =>
   show (wr y j [v]).map (a :: ·) = _
   rw [ih (by simpa using h)]; rfl
end Go.Lx
namespace Go.Lx
open Go Go.Vc Go.Md
theorem Jgg (sz j : Nat) (x : Value) : ∀ (css : List (List Value)) (i : Nat), (∀ y ∈ css, y.length = sz) → i < css.length → j < sz → (css.set i ((css.getD i []).set j x)).flatten = css.flatten.set (i * sz + j) x
 | [], i, _, h, _ => by simp at h
 | y :: css, 0, hl, _, hj => by
  have hy := hl y (by simp)
  simp only [List.set_cons_zero, List.getD_cons_zero, List.flatten_cons, Nat.zero_mul, Nat.zero_add]
  rw [List.set_append_left _ _ (by rw [hy]; exact hj)]
 | y :: css, i + 1, hl, h, hj => by
  have hy := hl y (by simp)
  have ih := Jgg sz j x css i (fun z hz => hl z (List.mem_cons_of_mem _ hz)) (by simpa using h) hj
  simp only [List.set_cons_succ, List.getD_cons_succ, List.flatten_cons]
  rw [ih, List.set_append_right _ _ (by rw [hy, Nat.add_mul]; omega), hy]
  congr 2
  rw [Nat.add_mul]; omega
section rules
variable {P : Program} {n : Nat} {cx : Cx} {e : Xs} {L : List Chunk} {ops : Array Oper} {rest : List Oper} {F : Xs → List Chunk → Prop} {ss : List Kd} {ty : TypeId} {pos : String} {af : Array Edge} {g : Option (Nat × Bool)}
end rules
end Go.Lx
namespace Go.Lx
open Go Go.Vc Go.Md
section
variable {cx : Cx} {K : Xs → World → Prop} {e : Xs} {L : List Chunk}
end
end Go.Lx
namespace Go.Lx
open Go Go.Vc Go.Md
section
variable {P : Program} {n : Nat} {cx : Cx} {e : Xs} {L : List Chunk} {ops : Array Oper} {rest : List Oper} {F : Xs → List Chunk → Prop} {ss : List Kd} {ty : TypeId} {pos : String} {af : Array Edge} {g : Option (Nat × Bool)}
theorem d_readE {o : Oper} {d : Nat} {v : Value} {rds : List Nat} (hw : X1 ops o e = true) (hd : o.dst = some d) (hr : ∀ w L', Fr cx w → Sat cx w L' → (∀ i ∈ rds, L'[i]? = L[i]?) → (execOp (ev e) o).run P w = .ok (.value v) w)
  (k : Sq P cx ops F rest ss (upd e d v) L) : Sq P cx ops F (o :: rest) (.d rds v :: ss) e L := Wj hr hw hd k
theorem Jdu {α : Type} {f : α → List Value} {xs : List α} {x' : α} {i : Int} {d : Option Nat} {T fld k fo ft fsz bo : Nat} {a : Option Addr} {nm tg pk : String} {em : Bool} {X : Operand} {fs : Array Field} {sz' : Nat} {w : World} (hu : ∀ w, (underlying T).run P w = .ok (.struct fs) w)
  (hf : fs[fld]? = some ⟨nm, ft, fo, em, tg, pk, bo⟩) (hs : ∀ w, (sizeOf ft).run P w = .ok fsz w) (hsz : Nat.blt 0 fsz = true) (hp : ev e X = U0 a k) (hR : Row w a sz' (xs.map f)) (hg : Q9 xs i = some x') :
  (execOp (ev e) ⟨d, .fieldAddr T X fld, ty, pos, af, g⟩).run P w = .ok (.value (U0 a (k + fo))) w :=
 Wt hu hf hs hsz hp (hR.some (by rw [List.length_map]; exact (Y3 hg).2.1)) w
end
end Go.Lx
namespace Go.Lx
open Go Go.Vc Go.Md
theorem Y1 (l : List (List Value)) : l.map idC = l := by
 have : (idC : List Value → List Value) = id := rfl
 rw [this, List.map_id]
section
variable {P : Program} {n : Nat} {cx : Cx} {e : Xs} {L : List Chunk} {ops : Array Oper} {rest : List Oper} {F : Xs → List Chunk → Prop} {ss : List Kd} {ty : TypeId} {pos : String} {af : Array Edge} {g : Option (Nat × Bool)}
end
end Go.Lx
namespace Go.Lx
open Go Go.Vc Go.Md
section
variable {P : Program} {n : Nat} {cx : Cx} {e : Xs} {L : List Chunk} {ty : TypeId} {pos : String} {af : Array Edge} {g : Option (Nat × Bool)}
end
end Go.Lx

namespace Go.Lx
open Go Go.Vc Go.Md
theorem Jgo {S : Nat → Prop} {w : World} {E sz n c : Nat} {a : Option Addr} {xs : List (List Value)} (h : (Jav E sz (.slice a n c) n xs).P S w) (hc : 0 < c) :
  ∃ g off cur, a = some ⟨g, off, none⟩ ∧ S g ∧ w.heap[g]? = some (.cells cur E (0, 0)) ∧ n ≤ c ∧ c ≤ maxLen ∧ off + c * sz ≤ cur.size ∧ (cur.toList.drop off).take (n * sz) = xs.flatten := by
 obtain ⟨⟨h1, hlen, hlx⟩, hb⟩ := h
 rcases h1 with h1 | ⟨g, off, cap, cur, hv, hh, q1, q2, q3, q4⟩
 ·rcases h1.2 with ⟨hv, h0⟩ | ⟨g, cap, cur, hv, hbase, hh, q1, q2, q3, q4⟩
  ·simp only [Value.slice.injEq] at hv; omega
  ·simp only [Value.slice.injEq] at hv
   obtain ⟨rfl, -, rfl⟩ := hv
   exact ⟨g, 0, cur, rfl, hb g rfl, hh, q1, q2, by omega, by simpa using q4⟩
 ·simp only [Value.slice.injEq] at hv
  obtain ⟨rfl, -, rfl⟩ := hv
  exact ⟨g, off, cur, rfl, hb g rfl, hh, q1, q2, q3, q4⟩
section
variable {P : Program} {n : Nat} {cx : Cx} {e : Xs} {L : List Chunk} {d : Option Nat} {ty : TypeId} {pos : String} {af : Array Edge} {g : Option (Nat × Bool)}
theorem capOfO {w : World} {i E sz n c : Nat} {a : Option Addr} {xs : List (List Value)} (hS : Sat cx w L) (hL : L[i]? = some (Jav E sz (.slice a n c) n xs)) : n ≤ c := by
 obtain ⟨S, ⟨⟨h1, hlen, hlx⟩, hb⟩, _⟩ := hS.at hL
 rcases h1 with h1 | ⟨g, off, cap, cur, hv, hh, q1, _⟩
 ·rcases h1.2 with ⟨hv, h0⟩ | ⟨g, cap, cur, hv, hbase, hh, q1, _⟩
  ·omega
  ·simp only [Value.slice.injEq] at hv; omega
 ·simp only [Value.slice.injEq] at hv; omega
end
end Go.Lx
namespace Go.Lx
open Go Go.Vc Go.Md
theorem AllC.ones {α : Type} {G : Jt → (Nat → Value) → α → Prop} {h : Jt} {sz : Nat} {css : List (List Value)} {xs : List α} (p : AllC G h sz css xs) (hG : ∀ (c : Nat → Value) x, G h c x → ∀ j, j < sz → (c j).oneCell' = true) : ∀ cs ∈ css, ∀ u ∈ cs, u.oneCell' = true := by
 intro cs hcs u hu
 obtain ⟨i, hi, rfl⟩ := List.getElem_of_mem hcs
 obtain ⟨j, hj, rfl⟩ := List.getElem_of_mem hu
 have hx : i < xs.length := by rw [← p.len]; exact hi
 obtain ⟨h1, h2⟩ := p.el i css[i] xs[i] (List.getElem?_eq_getElem hi) (List.getElem?_eq_getElem hx)
 have := hG _ _ h2 j (by omega)
 simpa [List.getD_eq_getElem?_getD, List.getElem?_eq_getElem hj] using this
section
variable {cx : Cx} {L : List Chunk} {w : World}
theorem rowO_all {i E sz n c : Nat} {a : Option Addr} {xs : List (List Value)} (hS : Sat cx w L) (hL : L[i]? = some (Jav E sz (.slice a n c) n xs)) : ∀ x ∈ xs, x.length = sz := by
 obtain ⟨S, ⟨⟨h1, hlen, hlx⟩, hb⟩, _⟩ := hS.at hL
 exact hlx
end
end Go.Lx
namespace Go.Lx
open Go Go.Vc Go.Md
theorem imp_clipRO (E sz : Nat) (a : Option Addr) (n c : Nat) (xs : List (List Value)) : Imp (Jav E sz (.slice a n c) n xs) (Jav E sz (.slice (Xg a 0 n sz) n n) n xs) := ⟨fun S w h => by
 have hcut : Xg a 0 n sz = a := Jeo _ _ _
 rw [hcut]
 obtain ⟨⟨h1, hlen, hlx⟩, hb⟩ := h
 refine ⟨⟨?_, hlen, hlx⟩, fun b hb' => hb b (by rw [← hb']; cases a <;> rfl)⟩
 rcases h1 with h1 | ⟨g, off, cap, cur, hv, hh, q1, q2, q3, q4⟩
 ·rcases h1.2 with ⟨hv, h0⟩ | ⟨g, cap, cur, hv, hbase, hh, q1, q2, q3, q4⟩
  ·simp only [Value.slice.injEq] at hv
   obtain ⟨rfl, rfl, rfl⟩ := hv
   exact .inl ⟨h1.1, .inl ⟨rfl, rfl⟩⟩
  ·simp only [Value.slice.injEq] at hv
   obtain ⟨rfl, -, rfl⟩ := hv
   have := Nat.mul_le_mul_right sz q1
   exact .inr ⟨g, 0, n, cur, rfl, hh, Nat.le_refl _, by omega, by omega, by simpa using q4⟩
 ·simp only [Value.slice.injEq] at hv
  obtain ⟨rfl, -, rfl⟩ := hv
  have := Nat.mul_le_mul_right sz q1
  exact .inr ⟨g, off, n, cur, rfl, hh, Nat.le_refl _, by omega, by omega, q4⟩⟩
end Go.Lx

namespace Go.Lx
open Go Go.Vc Go.Md
section
variable {P : Program} {n : Nat} {cx : Cx} {e : Xs} {L : List Chunk} {d : Nat} {ty : TypeId} {pos : String} {af : Array Edge} {g : Option (Nat × Bool)}
theorem zeros_rep (z : Array Value) (n : Nat) (hz : 0 < z.size) : (Builtin.zeroCells z n).toList = (List.replicate n z.toList).flatten := made_rep z n hz
theorem makes_growZ {xs : List (List Value)} {i : Nat} {S N : Operand} {t tn E : TypeId} {I : TypeInfo} {z : Value} {sz by_ : Nat} {p : Option Addr × Nat} {m a k : Nat} {kn kk : IntKind}
  (ht : P.underlying t = some (.slice E)) (htn : P.underlying tn = some (.int kn)) (hi : P.info? E = some I) (hz : I.zero = some z) (hsize : I.size = sz) (hby : I.bytes = by_) (hzs : z.cells.size = sz) (hsz : Nat.blt 0 sz = true)
  (hL : L[i]? = some (Jav E sz (.slice p.1 m p.2) m xs)) (hs : ev e S = .slice p.1 a p.2) (ha : a ≤ m) (hx : ev e N = .int kk (k : Int)) (h0 : 0 < p.2) (hg : p.2 < a + k) (h63 : a + k ≤ maxLen) (hbytes : (a + k) * by_ ≤ 140737488355328) :
  Jd7 P cx e ⟨some d, .call ⟨.builtin .append, #[S, N], #[t, tn]⟩, ty, pos, af, g⟩ L [i] (fun p' : Option Addr × Nat => .slice p'.1 (a + k) p'.2) (fun p' => J3 E sz (.slice p'.1 (a + k) p'.2) (a + k) (xs.take a ++ List.replicate k z.cells.toList)) := by
 subst hsize hby
 intro w L' hF hS hi'
 have hL' := (hi' i (by simp)).trans hL
 obtain ⟨S0, hC, hlt⟩ := hS.at hL'
 have hlen : xs.length = m := hC.1.2.1
 have hlx : ∀ x ∈ xs, x.length = I.size := hC.1.2.2
 obtain ⟨g0, off, cur, e1, hSg, hh, hnc, hcm, hfit, htk⟩ := Jgo hC h0
 have hsz' : 0 < I.size := by simpa using hsz
 have hta : (xs.take a).length = a := by rw [List.length_take]; omega
 have hlo : (xs.take a).flatten.length = a * I.size := by rw [Yc _ (fun x hx => hlx x (List.mem_of_mem_take hx)), hta]
 have hcell : ∀ j u, (xs.take a).flatten[j]? = some u → w.cell? ((⟨g0, off, none⟩ : Addr).add j) = some u := by
  intro j u hj
  obtain ⟨i', k', x, g1, g2, g3⟩ := Jag _ (fun x hx => hlx x (List.mem_of_mem_take hx)) j u hj
  have hr := offOf hS hL'
  rcases hr with h | ⟨b, off', ha', h⟩
  ·subst h; simp at g1
  ·rw [e1] at ha'; cases ha'
   have hg1 : xs[i']? = some x := by
    rw [List.getElem?_take] at g1
    split at g1
    ·exact g1
    ·cases g1
   have := (h i' x hg1).2 k' u g2
   rw [Addr.add_lit, g3, ← Nat.add_assoc]
   exact this
 have hw : IntKind.i64.wrap (k : Int) = k := by rw [IntKind.wrap_i64]; simp only [maxLen] at h63; omega
 have hn : ¬ (a + k ≤ p.2) := by omega
 have hk0 : 0 < k := by omega
 have h63' : ¬ (9223372036854775807 < ((a : Int) + (k : Int))) := by simp only [maxLen] at h63; omega
 have h48 : Builtin.nextslicecap (a + k) p.2 * I.bytes ≤ 281474976710656 := growslice_fits hg hbytes
 have h48' : ¬ (281474976710656 < Builtin.nextslicecap (a + k) p.2 * I.bytes) := by omega
 have hkb : k * I.bytes ≤ 140737488355328 := Nat.le_trans (Nat.mul_le_mul_right _ (by omega)) hbytes
 have h48i : ¬ (281474976710656 < (k : Int) * (I.bytes : Int)) := by
  rw [← Int.natCast_mul]; omega
 have hneg : ¬ ((k : Int) < 0) := by omega
 have hns : ¬ (k * I.size = 0) := Nat.mul_ne_zero (by omega) (by omega)
 have hns1 : ¬ k = 0 := by omega
 have hns2 : ¬ I.size = 0 := by omega
 have hfo := run_firstCells_some (P := P) w.drew I.size a ⟨g0, off, none⟩ a p.2 (xs.take a).flatten hlo (by simpa using hcell)
 have hr2 : (Builtin.append_ #[t, tn] ty #[.slice (some ⟨g0, off, none⟩) a p.2, .int kk k]).run P w =
   .ok (.slice (some ⟨w.heap.size, 0, none⟩) (a + k) (grownCap w (a + k) p.2 E))
    (w.drew.alloc (.cells ((xs.take a).flatten.toArray ++ Builtin.zeroCells z.cells k ++ Builtin.zeroCells z.cells (grownCap w (a + k) p.2 E - (a + k))) E)) := by
  simp [Builtin.append_, run_underlying ht, run_underlying htn, sizeOf, typeInfo, zeroValue, hi, hz, asInt, asIntOf, hw, hn, hneg, hns, h63', h48', h48i, Question.forced, hfo, newRow, grownCap]
 have hge := grownCap_ge w (a + k) p.2 E
 have hcm2 : grownCap w (a + k) p.2 E ≤ maxLen := grownCap_le_maxLen w (a + k) p.2 E h63
 have hexec : (execOp (ev e) ⟨some d, .call ⟨.builtin .append, #[S, N], #[t, tn]⟩, ty, pos, af, g⟩).run P w = .ok (.value (.slice (some ⟨w.heap.size, 0, none⟩) (a + k) (grownCap w (a + k) p.2 E))) (w.drew.alloc (.cells ((xs.take a).flatten.toArray ++ Builtin.zeroCells z.cells k ++ Builtin.zeroCells z.cells (grownCap w (a + k) p.2 E - (a + k))) E)) := by
  have hs' : ev e S = .slice (some ⟨g0, off, none⟩) a p.2 := by rw [hs, e1]
  simp only [execOp, resolve, invoke, builtin, Sem.run_bind, Sem.run_pure, Result.andThen_ok, List.map_toArray, List.map_cons, List.map_nil, hs', hx, hr2]
 have hall : ∀ x ∈ xs.take a ++ List.replicate k z.cells.toList, x.length = I.size := fun x hx => by
  rcases List.mem_append.1 hx with h | h
  ·exact hlx x (List.mem_of_mem_take h)
  ·rw [List.eq_of_mem_replicate h]; simpa using hzs
 have hown : (w.drew.alloc (.cells ((xs.take a).flatten.toArray ++ Builtin.zeroCells z.cells k ++ Builtin.zeroCells z.cells (grownCap w (a + k) p.2 E - (a + k))) E)).ownsRow w.heap.size E I.size (.slice (some ⟨w.heap.size, 0, none⟩) (a + k) (grownCap w (a + k) p.2 E)) (a + k) (xs.take a ++ List.replicate k z.cells.toList).flatten := by
  have hfl : (xs.take a ++ List.replicate k z.cells.toList).flatten.length = (a + k) * I.size := by rw [Yc _ hall]; congr 1; simp [hta]
  refine ⟨hfl, .inr ⟨w.heap.size, _, _, rfl, Nat.le_refl _, heap_alloc_new w.drew _, hge, hcm2, ?_, ?_⟩⟩
  ·simp only [Array.size_append, List.size_toArray, size_zeroCells, hzs, hlo, ← Nat.add_mul]
   congr 1
   omega
  ·simp only [Array.toList_append, List.append_assoc]
   rw [zeros_rep _ k (by rw [hzs]; exact hsz'), ← hfl, List.flatten_append, ← List.append_assoc, List.take_left]
 unfold RunsTo
 rw [hexec]
 refine ⟨(_, _), rfl, ⟨rfl, rfl, rfl, by simp, fun b hb _ => (by first | exact heap_alloc_old w.drew _ b hb | exact heap_alloc_old w.drew _ hb), fun b' => b' = w.heap.size, ⟨⟨own0 hown, by simp [hta], hall⟩, fun b hb => by cases hb; rfl⟩, fun b hb => ?_⟩⟩
 subst hb
 exact ⟨(hown.lt _ rfl).2, .inr (Nat.le_refl _)⟩
theorem Jd9 {xs news : List (List Value)} {i : Nat} {D X : Operand} {t u E : TypeId} {I : TypeInfo} {sz : Nat} {p : Option Addr × Nat} {rds : List Nat} {ax : Option Addr} {dl cd c m a q : Nat} {dst : Option Nat}
  (ht : P.underlying t = some (.slice E)) (hi : P.info? E = some I) (hsize : I.size = sz)
  (hL : L[i]? = some (J3 E sz (.slice p.1 m p.2) m xs)) (hm : m = xs.length) (hd : ev e D = .slice (Xg p.1 a p.2 sz) dl cd) (ha : a + dl ≤ m) (hx : ev e X = .slice ax q c) (hql : q ≤ dl) (hq : q = news.length) (hq0 : 0 < q)
  (hnews : ∀ w L', Fr cx w → Sat cx w L' → (∀ j, j ∈ rds → L'[j]? = L[j]?) → Row w ax sz news) (hnl : ∀ x ∈ news, x.length = sz) (h1 : ∀ x ∈ news, ∀ u ∈ x, u.oneCell' = true) :
  Turns P cx e ⟨dst, .call ⟨.builtin .copy, #[D, X], #[t, u]⟩, ty, pos, af, g⟩ L i rds (fun _ : Unit => .int .i64 (q : Int)) (fun _ => J3 E sz (.slice p.1 m p.2) m (xs.take a ++ news ++ xs.drop (a + q))) := by
 subst hsize hq hm
 intro w L' hF hS hl hi'
 have hr := hnews w L' hF hS (fun j hj => hi' j (.inl hj))
 have hL' := (hi' i (.inr rfl)).trans hL
 obtain ⟨S0, ⟨⟨ho, hlen, hlx⟩, hob⟩, hlt⟩ := hS.at hL'
 have hall : ∀ x ∈ xs.take a ++ news ++ xs.drop (a + news.length), x.length = I.size := fun x hx => by
  rcases List.mem_append.1 hx with h | h
  ·rcases List.mem_append.1 h with h | h
   ·exact hlx x (List.mem_of_mem_take h)
   ·exact hnl x h
  ·exact hlx x (List.mem_of_mem_drop h)
 have hle : (xs.take a ++ news ++ xs.drop (a + news.length)).length = xs.length := by
  simp only [List.length_append, List.length_take, List.length_drop]; omega
 have hmin : Nat.min news.length dl = news.length := Nat.min_eq_left hql
 ·rcases ho.2 with ⟨_, hz⟩ | ⟨g0, cap, cur, hv0, hb0, hh, hnc, hcm, hcs, htk⟩
  ·omega
  ·simp only [Value.slice.injEq] at hv0
   obtain ⟨hp1, _, hp2⟩ := hv0
   have hcut : Xg p.1 a p.2 I.size = some ⟨g0, a * I.size, none⟩ := by
    rw [hp1]; unfold Xg
    rw [if_neg (by omega)]; simp [Addr.add_lit]
   rcases hr with hr | ⟨b, off, hax, hr⟩
   ·rw [hr] at hq0; exact absurd hq0 (by simp)
   subst hax
   have hfl : news.flatten.length = news.length * I.size := by rw [Yc news hnl]
   have hcell : ∀ j u, news.flatten[j]? = some u → w.cell? ((⟨b, off, none⟩ : Addr).add j) = some u := by
    intro j u hj
    obtain ⟨i', k', x, g1, g2, g3⟩ := Jag news hnl j u hj
    have := (hr i' x g1).2 k' u g2
    rw [Addr.add_lit, g3, ← Nat.add_assoc]
    exact this
   have hone : ∀ u ∈ news.flatten, u.oneCell' = true := fun u hu => by
    obtain ⟨x, hx, hux⟩ := List.mem_flatten.1 hu
    exact h1 x hx u hux
   have hcur : cur.toList.length = cur.size := Array.length_toList
   have hsum : (a + news.length) * I.size ≤ xs.length * I.size := Nat.mul_le_mul_right _ (by omega)
   have hsum2 : xs.length * I.size ≤ cap * I.size := Nat.mul_le_mul_right _ hnc
   have hfit : a * I.size + news.flatten.length ≤ cur.size := by
    rw [Nat.add_mul] at hsum; omega
   have hfc := run_firstCells_some (P := P) w I.size news.length ⟨b, off, none⟩ news.length c news.flatten hfl hcell
   have hst := run_storeCells_at (P := P) g0 (a * I.size) E news.flatten 0 cur w hh (by simpa using hfit) hone
   simp only [Nat.add_zero] at hst
   have hr2 : (Builtin.copy_ #[t, u] ty #[.slice (some ⟨g0, a * I.size, none⟩) dl cd, .slice (some ⟨b, off, none⟩) news.length c]).run P w = .ok (goInt news.length) (w.setRow g0 (cur.toList.take (a * I.size) ++ news.flatten ++ cur.toList.drop (a * I.size + news.flatten.length)).toArray) := by
    have hmin2 : min news.length dl = news.length := hmin
    simp [Builtin.copy_, run_underlying ht, Builtin.lenOf, sizeOf, typeInfo, hi, hmin, hmin2, hfc, hst]
   have hexec : (execOp (ev e) ⟨dst, .call ⟨.builtin .copy, #[D, X], #[t, u]⟩, ty, pos, af, g⟩).run P w = .ok (.value (.int .i64 (news.length : Int))) (w.setRow g0 (cur.toList.take (a * I.size) ++ news.flatten ++ cur.toList.drop (a * I.size + news.flatten.length)).toArray) := by
    simp only [execOp, resolve, invoke, builtin, Sem.run_bind, Sem.run_pure, Result.andThen_ok, List.map_toArray, List.map_cons, List.map_nil, hd, hcut, hx, hr2]
    rfl
   have hxf : xs.flatten.length = xs.length * I.size := Yc xs hlx
   have e2 : (xs.take a ++ news ++ xs.drop (a + news.length)).flatten = xs.flatten.take (a * I.size) ++ news.flatten ++ xs.flatten.drop ((a + news.length) * I.size) := by
    rw [List.flatten_append, List.flatten_append, ← Jfu _ hlx, ← Jft _ hlx]
   have hlen2 : (cur.toList.take (a * I.size) ++ news.flatten ++ cur.toList.drop (a * I.size + news.flatten.length)).length = cur.size := by
    simp only [List.length_append, List.length_take, List.length_drop, hcur]; omega
   have e1 : cur.toList = xs.flatten ++ cur.toList.drop (xs.length * I.size) := by rw [← htk, List.take_append_drop]
   have hown : (w.setRow g0 (cur.toList.take (a * I.size) ++ news.flatten ++ cur.toList.drop (a * I.size + news.flatten.length)).toArray).ownsRow 0 E I.size (.slice p.1 xs.length p.2) xs.length (xs.take a ++ news ++ xs.drop (a + news.length)).flatten := by
    refine ⟨by rw [Yc _ hall, hle], .inr ⟨g0, cap, _, by rw [hp1, hp2], hb0, setRow_heap w g0 cur _ E (0, 0) hh, hnc, hcm, by rw [List.size_toArray, hlen2]; exact hcs, ?_⟩⟩
    rw [List.toList_toArray, e2]
    have hal : a * I.size ≤ xs.flatten.length := by rw [hxf]; exact Nat.mul_le_mul_right _ (by omega)
    have e3 : cur.toList.take (a * I.size) = xs.flatten.take (a * I.size) := by
     rw [e1, List.take_append_of_le_length hal]
    have e4 : cur.toList.drop (a * I.size + news.flatten.length) = xs.flatten.drop ((a + news.length) * I.size) ++ cur.toList.drop (xs.length * I.size) := by
     conv => lhs; rw [e1]
     rw [hfl, ← Nat.add_mul, List.drop_append_of_le_length (by rw [hxf]; exact hsum)]
    rw [e3, e4, ← List.append_assoc]
    have hl3 : (xs.flatten.take (a * I.size) ++ news.flatten ++ xs.flatten.drop ((a + news.length) * I.size)).length = xs.length * I.size := by
     rw [← e2, Yc _ hall, hle]
    rw [← hl3, List.take_left]
   have hgb : w.grownBy (w.setRow g0 (cur.toList.take (a * I.size) ++ news.flatten ++ cur.toList.drop (a * I.size + news.flatten.length)).toArray) (Value.slice p.1 xs.length p.2).ownBlock :=
    ⟨rfl, rfl, rfl, by simp, fun b' _ hb => setRow_other w g0 b' _ (fun e => hb (by simp [Value.ownBlock, hp1, e]))⟩
   obtain ⟨hF', hS'⟩ := hS.turnOf hF hL' (C := J3 E I.size (.slice p.1 xs.length p.2) xs.length (xs.take a ++ news ++ xs.drop (a + news.length))) fun S1 hp => Jas hp.2 hown hgb (.inl rfl) hle hall
   unfold RunsTo
   rw [hexec]
   exact ⟨(), rfl, hF', hS'⟩
end
end Go.Lx
namespace Go.Lx
open Go Go.Vc Go.Md
theorem AllC.ins {α : Type} {G : Jt → (Nat → Value) → α → Prop} {h : Jt} {sz by_ : Nat} {css : List (List Value)} {xs ys : List α} {i : Int} {x : α} {cs : List Value} (p : AllC G h sz css xs) (g : gInsN by_ xs i x = some ys) (hl : cs.length = sz) (hG : G h (fun j => cs.getD j undef) x) :
  gInsN by_ css i cs = some (Um css i cs) ∧ AllC G h sz (Um css i cs) ys := by
 obtain ⟨rfl, h0, h1, h2, h3⟩ := Jf1 g
 have hn := p.len
 refine ⟨gInsN_ok ⟨h0, by rw [hn]; exact h1, by rw [hn]; exact h2, by rw [hn]; exact h3⟩, ?_⟩
 unfold Um
 have q1 := p.cut (l := 0) (q := i) (ys := xs.take i.toNat) (by rw [Jhu (by omega)])
 have q2 := p.cut (l := i) (q := xs.length) (ys := xs.drop i.toNat) (by rw [Uh (by omega)])
 have e1 : cutL css 0 i = css.take i.toNat := by unfold cutL; simp
 have e2 : cutL css i xs.length = css.drop i.toNat := by
  unfold cutL
  rw [List.take_of_length_le (by rw [List.length_drop, hn]; omega)]
 rw [e1] at q1
 rw [e2] at q2
 have q3 : AllC G h sz [cs] [x] := by
  have := (AllC.nil (G := G) (h := h) (sz := sz)).snoc hl hG
  simpa using this
 exact q1.append (q3.append q2)
theorem insL_len {α : Type} {xs : List α} {i : Int} {x : α} (h : i ≤ xs.length) (h0 : 0 ≤ i) : (Um xs i x).length = xs.length + 1 := by
 unfold Um
 simp only [List.length_append, List.length_take, List.length_drop, List.length_cons, List.length_nil]; omega
end Go.Lx
namespace Go.Vc
open Go
section
variable {P : Program} {cx : Cx} {e : Xs} {L : List Chunk}
end
end Go.Vc

namespace Go.Lx
open Go Go.Vc Go.Md
section
variable {cx : Cx} {L : List Chunk}
theorem know_pool {w : World} {i : Nat} {base hp : Jt} (hS : Sat cx w L) (hL : L[i]? = some (Q3 base hp)) (hb : ∀ b o, base b = some o → w.heap[b]? = some o) : Know hp w Z2 := fun b o h => ⟨Y0 hS hL hb b o h, fun h => h⟩
end
end Go.Lx

namespace Go.Lx
open Go Go.Md Go.Vc Go.Shelf Go.Sort Go.Proofs
end Go.Lx

namespace Go.Lx
open Go Go.Md Go.Vc Go.Shelf Go.Sort Go.Proofs
abbrev nn : Option Addr × Nat := (none, 0)
abbrev i6 (x : Int) : Value := .int .i64 x
abbrev sl (p : Option Addr × Nat) (n : Nat) : Value := .slice p.1 n p.2
section
variable {P : Program} {n : Nat} {cx : Cx} {Q : Jae} {e : Xs} {L : List Chunk} {ops : Array Oper} {rest : List Oper} {d : Nat} {ty : TypeId} {pos : String} {af : Array Edge} {g : Option (Nat × Bool)} {X : Operand}
theorem mv (v : Value) (k : At cx (WL P n ops Q rest) (upd e d v) L) (hw : X1 ops ⟨some d, .move X, ty, pos, af, g⟩ e = true := by exact rfl) (hn : Nat.blt d n = true := by exact rfl) (hx : ev e X = v := by exact rfl) :
  At cx (WL P n ops Q (⟨some d, .move X, ty, pos, af, g⟩ :: rest)) e L := Ju hw rfl hn (Qi hx) k
theorem ag (v : Value) (k : At cx (WL P n ops Q rest) (upd e d v) L) (hw : X1 ops ⟨some d, .assign X, ty, pos, af, g⟩ e = true := by exact rfl) (hn : Nat.blt d n = true := by exact rfl) (hx : ev e X = v := by exact rfl) :
  At cx (WL P n ops Q (⟨some d, .assign X, ty, pos, af, g⟩ :: rest)) e L := Ju hw rfl hn (Jy hx) k
theorem pa {o : Op} (k : At cx (WL P n ops Q rest) (upd e d undef) L) (hw : X1 ops ⟨some d, o, ty, pos, af, g⟩ e = false := by exact rfl) (hn : Nat.blt d n = true := by exact rfl) :
  At cx (WL P n ops Q (⟨some d, o, ty, pos, af, g⟩ :: rest)) e L := U9 hw rfl hn k
theorem Jce {K : Xs → World → Prop} (i : Nat) (k : At cx K e (L.eraseIdx i)) : At cx K e L := by
 refine c_sel ((List.range L.length).eraseIdx i) (L.eraseIdx i) ?_ (List.nodup_range.sublist (List.eraseIdx_sublist _ _)) k
 refine List.ext_getElem? fun j => ?_
 rw [List.getElem?_map, List.getElem?_map, List.getElem?_eraseIdx, List.getElem?_eraseIdx]
 split
 ·by_cases h : j < L.length
  ·rw [List.getElem?_range h]; simp [List.getElem?_eq_getElem h]
  ·rw [List.getElem?_eq_none (by simpa using h), List.getElem?_eq_none (by simpa using h)]; rfl
 ·by_cases h : j + 1 < L.length
  ·rw [List.getElem?_range h]; simp [List.getElem?_eq_getElem h]
  ·rw [List.getElem?_eq_none (by simpa using h), List.getElem?_eq_none (by simpa using h)]; rfl
end
section
variable {P : Program} {cx : Cx} {e : Xs} {L : List Chunk} {ops : Array Oper} {F : Xs → List Chunk → Prop} {rest : List Oper} {ss : List Kd} {d : Nat} {ty : TypeId} {pos : String} {af : Array Edge} {g : Option (Nat × Bool)} {X : Operand}
theorem dm (v : Value) (k : Sq P cx ops F rest ss (upd e d v) L) (hw : X1 ops ⟨some d, .move X, ty, pos, af, g⟩ e = true := by exact rfl) (hx : ev e X = v := by exact rfl) :
  Sq P cx ops F (⟨some d, .move X, ty, pos, af, g⟩ :: rest) (.p :: ss) e L := Qr hw rfl (Qi hx) k
theorem dp {o : Op} {s : Kd} (k : Sq P cx ops F rest ss (upd e d undef) L) (hw : X1 ops ⟨some d, o, ty, pos, af, g⟩ e = false := by exact rfl) :
  Sq P cx ops F (⟨some d, o, ty, pos, af, g⟩ :: rest) (s :: ss) e L := Jcg hw rfl k
end
section
variable {α : Type} {a b : α} {l : List α} {n : Nat}
theorem z1 : (a :: l).set 0 b = b :: l := rfl
theorem z2 : (a :: l).set (n + 1) b = a :: l.set n b := rfl
theorem z3 : (a :: l).eraseIdx 0 = l := rfl
theorem z4 : (a :: l).eraseIdx (n + 1) = a :: l.eraseIdx n := rfl
theorem z5 {m : List α} : (a :: l) ++ m = a :: (l ++ m) := rfl
theorem z6 {m : List α} : [] ++ m = m := rfl
theorem z7 : List.replicate (n + 1) a = a :: List.replicate n a := rfl
theorem z8 : List.replicate 0 a = [] := rfl
end
end Go.Lx

namespace Go.Lx
open Go Go.Vc Go.Md
section plain
variable {P : Program}
end plain
def markR (w : World) (E sz : Nat) (v : Value) (n : Nat) (xs : List (List Value)) : Prop :=
 ∃ g cap cur k, v = .slice (some ⟨g, 0, none⟩) n cap ∧ w.heap[g]? = some (.cells cur E k) ∧ cur.size ≤ k.1 ∧ n ≤ cap ∧ cap ≤ maxLen ∧ cur.size = cap * sz ∧ cur.toList.take (n * sz) = xs.flatten
def mkC (w : World) (E sz : Nat) (v : Value) (n : Nat) (xs : List (List Value)) : Prop :=
 (apC w E sz v n xs ∨ markR w E sz v n xs) ∧ xs.length = n ∧ ∀ x ∈ xs, x.length = sz
theorem markR.frs {w : World} {E sz : Nat} {v : Value} {n : Nat} {xs : List (List Value)} (h : markR w E sz v n xs) (hn : xs.length = n) (hl : ∀ x ∈ xs, x.length = sz) : FrS (fun b => w.heap[b]?) sz v xs := by
 obtain ⟨g, cap, cur, k, rfl, hh, _, hnc, hm, hcs, ht⟩ := h
 subst hn
 refine ⟨some ⟨g, 0, none⟩, cap, rfl, hnc, by simpa [maxLen] using hm, .inr ⟨g, 0, cur, E, k, rfl, hh, fun i x hx => ⟨hl x (List.mem_of_getElem? hx), fun j v hv => ?_⟩⟩⟩
 have hi : i < xs.length := by
  rcases Nat.lt_or_ge i xs.length with h | h
  ·exact h
  ·rw [List.getElem?_eq_none h] at hx; cases hx
 have hj : j < sz := by
  have := hl x (List.mem_of_getElem? hx)
  rcases Nat.lt_or_ge j x.length with h | h
  ·omega
  ·rw [List.getElem?_eq_none h] at hv; cases hv
 have hr := Jak xs i x (List.all_eq_true.2 fun x hx => by simpa using hl x hx) hx j v hv
 rw [← ht, List.getElem?_take] at hr
 split at hr
 ·rw [Nat.zero_add, ← Array.getElem?_toList]; exact hr
 ·cases hr
theorem mkC.frs {w : World} {E sz : Nat} {v : Value} {n : Nat} {xs : List (List Value)} (h : mkC w E sz v n xs) : FrS (fun b => w.heap[b]?) sz v xs :=
 h.1.elim (fun h1 => h1.frs) (fun h1 => h1.frs h.2.1 h.2.2)
theorem mkC.slice {w : World} {E sz : Nat} {v : Value} {n : Nat} {xs : List (List Value)} (h : mkC w E sz v n xs) : ∃ p : Option Addr × Nat, v = .slice p.1 n p.2 := by
 rcases h.1 with h1 | ⟨g, cap, cur, k, rfl, _⟩
 ·exact h1.slice
 ·exact ⟨(some ⟨g, 0, none⟩, cap), rfl⟩
section rules
variable {P : Program} {n : Nat} {cx : Cx} {e : Xs} {L : List Chunk} {d : Nat} {ty : TypeId} {pos : String} {af : Array Edge} {g : Option (Nat × Bool)}
theorem turns_appN {α : Type} {f : α → List Value} {ys ls zs : List α} {i : Nat} {S X : Operand} {t E : TypeId} {I : TypeInfo} {z : Value} {sz by_ : Nat} {p : Option Addr × Nat} {rds : List Nat} {V : Value} {a : Option Addr} {c m q : Nat} (hn : m = ys.length)
  (ht : P.underlying t = some (.slice E)) (hi : P.info? E = some I) (hz : I.zero = some z) (hsize : I.size = sz) (hby : I.bytes = by_) (hzs : z.cells.size = sz) (hsz : (Nat.blt 0 sz && Nat.ble by_ 1048576) = true)
  (hL : L[i]? = some (apV E sz (.slice p.1 m p.2) m (ys.map f))) (hs : ev e S = .slice p.1 m p.2) (hx : ev e X = V) (hV : V = .slice a q c) (hq : q = ls.length)
  (hnews : ∀ w L', Fr cx w → Sat cx w L' → (∀ j, j ∈ rds → L'[j]? = L[j]?) → Row w a sz (ls.map f)) (hf : ∀ x, (f x).length = sz) (h1 : ∀ x, (f x).all Value.oneCell' = true) (hg : gApN by_ ys ls = some zs) :
  Turns P cx e ⟨some d, .call ⟨.builtin .append, #[S, X], #[t, t]⟩, ty, pos, af, g⟩ L i rds (fun p' : Option Addr × Nat => .slice p'.1 zs.length p'.2) (fun p' => J3 E sz (.slice p'.1 zs.length p'.2) zs.length (zs.map f)) := fun w L' hF hS hl hi' => by
 subst hn hq
 obtain ⟨rfl, hne, hb1, hb2⟩ := gApN_some hg
 rw [List.length_append, List.map_append]
 have hL' := (hi' i (.inr rfl)).trans hL
 obtain ⟨S0, ⟨⟨hc1, hc2, hc3⟩, _⟩, _⟩ := hS.at hL'
 simp at hsz
 have hnl : ∀ x ∈ ls.map f, x.length = sz := fun x hx => by obtain ⟨y, _, rfl⟩ := List.mem_map.1 hx; exact hf y
 have hone : ∀ u ∈ (ls.map f).flatten, u.oneCell' = true := by
  intro u hu
  obtain ⟨x, hx, hux⟩ := List.mem_flatten.1 hu
  obtain ⟨y, _, rfl⟩ := List.mem_map.1 hx
  exact List.all_eq_true.1 (h1 y) u hux
 have hfl : (ls.map f).flatten.length = ls.length * sz := by rw [Yc (ls.map f) hnl, List.length_map]
 have hR := hnews w L' hF hS fun j hj => hi' j (.inl hj)
 have h63 : ys.length + ls.length ≤ maxLen := by simp only [maxLen]; omega
 have hpos : 0 < ls.length := List.length_pos_iff.2 hne
 have key : ∃ v' w', (Builtin.append_ #[t, t] ty #[.slice p.1 ys.length p.2, .slice a ls.length c]).run P w = .ok v' w' ∧ w'.ownsRow 0 E sz v' (ys.length + ls.length) (ys.map f ++ ls.map f).flatten ∧ w.grownBy w' (Value.slice p.1 ys.length p.2).ownBlock ∧ (v'.ownBlock = (Value.slice p.1 ys.length p.2).ownBlock ∨ v'.ownBlock = some w.heap.size) := by
  cases a with
  | none =>
   rcases hR with h | ⟨b, off, h, _⟩
   ·have := congrArg List.length h; simp at this; exact absurd this hne
   ·cases h
  | some ad =>
   have hcell := Jdb hnl hR
   rcases hc1 with ho | ⟨hfr, b, o, hv, hb⟩
   ·obtain ⟨v', w', hr, h2, h3, h5⟩ := app_own (P := P) (ty := ty) (c := c) ht hi hz hsize hby hzs ho hpos hfl hcell hone h63 hb2 hsz.2
    exact ⟨v', w', hr, by rw [List.flatten_append]; exact h2, h3, h5⟩
   ·have hxf : (ys.map f).flatten.length = ys.length * I.size := by rw [Yc _ hc3, List.length_map, hsize]
    obtain ⟨a', c', h0, _, _, r⟩ := hfr.out
    rw [hv] at h0
    simp only [Value.slice.injEq] at h0 hv
    obtain ⟨rfl, _, rfl⟩ := h0
    subst hsize hby
    have hold := Jdb hc3 (r.row fun b o h => h)
    have hm63 : ys.length + ls.length ≤ 9223372036854775807 := by simpa [maxLen] using h63
    have hr := run_append_grow (P := P) w t ty E I z ht hi hz ⟨b, 0, none⟩ ys.length ys.length (ys.map f).flatten hxf hold ad ls.length c (ls.map f).flatten hfl hcell (by omega) (by omega) (fits2 (by omega) hb2 hsz.2)
    rw [hv.1, hv.2.2]
    refine ⟨_, _, hr, ?_, Jgu _ _ _, .inr rfl⟩
    rw [List.flatten_append]
    exact Jdv hzs (by rw [List.length_append, hxf, hfl, Nat.add_mul]) h63
 obtain ⟨v', w', hr, h2, h3, h5⟩ := key
 obtain ⟨p', rfl⟩ := U2 h2
 obtain ⟨hF', hS'⟩ := hS.turnOf hF hL' (C := J3 E sz (.slice p'.1 (ys.length + ls.length) p'.2) (ys.length + ls.length) (ys.map f ++ ls.map f)) fun S1 hp => Jas hp.2 h2 h3 h5 (by simp) (by
  intro x hx
  rcases List.mem_append.1 hx with h | h
  ·obtain ⟨y, _, rfl⟩ := List.mem_map.1 h; exact hf y
  ·exact hnl x h)
 have he : (execOp (ev e) ⟨some d, .call ⟨.builtin .append, #[S, X], #[t, t]⟩, ty, pos, af, g⟩).run P w = .ok (.value (.slice p'.1 (ys.length + ls.length) p'.2)) w' := by
  simp only [execOp, resolve, invoke, builtin, Sem.run_bind, Sem.run_pure, Result.andThen_ok, List.map_toArray, List.map_cons, List.map_nil, hs, hx, hV, hr]
 unfold RunsTo
 rw [he]
 exact ⟨p', rfl, hF', hS'⟩
theorem bytes_flat {f : Int → List Value} (hf : ∀ x, f x = [.int .u8 x]) (s : List UInt8) : ((Qo s).map f).flatten = s.map fun b => Value.int .u8 (b.toNat : Int) := by
 unfold Qo
 induction s with
 | nil => rfl
 | cons c s ih => simp only [List.map_cons, List.flatten_cons, hf, List.singleton_append, List.cons.injEq, true_and]; simpa using ih
end rules
theorem frsMono {h h' : Jt} {sz n : Nat} {v : Value} (f : FrS h sz v ((List.range n).map (elC h v sz))) (k : ∀ b o, h b = some o → h' b = some o) : FrS h' sz v ((List.range n).map (elC h' v sz)) := by
 have := f.mono k
 have e : (List.range n).map (elC h v sz) = (List.range n).map (elC h' v sz) := by
  apply List.map_congr_left
  intro i hi
  unfold elC
  rw [Jij f (by rw [List.length_map, List.length_range]; have := List.mem_range.1 hi; omega) k i]
 rwa [e] at this
theorem elMonoE {α : Type} {h h' : Jt} {sz i : Nat} {v : Value} {xs : List α} {y : α} (f : FrS h sz v ((List.range xs.length).map (elC h v sz))) (k : ∀ b o, h b = some o → h' b = some o) (hy : xs[i]? = some y) : Xj h v sz i = Xj h' v sz i := by
 have hi : i < xs.length := (List.getElem?_eq_some_iff.1 hy).1
 exact Jij f (by rw [List.length_map, List.length_range]; omega) k i
end Go.Lx

namespace Go.Lx
open Go Go.Vc Go.Md
open Go.MapKept (IsKey Stamped)
structure KeyF {κ : Type} (d : TypeDesc) (fk : κ → Value) : Prop where
 isKey : ∀ k, IsKey d (fk k)
 inj : ∀ a b, fk a = fk b → a = b
theorem Jf7 {k : IntKind} : KeyF (.int k) (fun x : Int => Value.int k x) := ⟨fun x => by simp [IsKey], fun a b h => by simpa using h⟩
def Ents {κ ν : Type} (fk : κ → Value) (fv : ν → Value) (es : List MapEntry) (xs : List (κ × ν)) : Prop := es.map (fun e => (e.key, e.val)) = xs.map (fun p => (fk p.1, fv p.2))
def X8 {κ ν : Type} (fk : κ → Value) (fv : ν → Value) (b : Nat) (xs : List (κ × ν)) : Chunk where
 P S w := (∀ x, S x ↔ x = b) ∧ ∃ es clock, w.heap[b]? = some (.map es clock) ∧ Stamped es clock ∧ Ents fk fv es.toList xs
 loc S w w' h hp := ⟨hp.1, by rw [h b ((hp.1 b).2 rfl)]; exact hp.2⟩
theorem Ents.len {κ ν : Type} {fk : κ → Value} {fv : ν → Value} {es : List MapEntry} {xs : List (κ × ν)} (h : Ents fk fv es xs) : es.length = xs.length := by
 have := congrArg List.length h; simpa using this
theorem Ents.keys {κ ν : Type} {fk : κ → Value} {fv : ν → Value} {es : List MapEntry} {xs : List (κ × ν)} (h : Ents fk fv es xs) : es.map (·.key) = xs.map (fun p => fk p.1) := by
 have := congrArg (List.map Prod.fst) h; simpa [Function.comp_def] using this
theorem Ents.isKey {κ ν : Type} {d : TypeDesc} {fk : κ → Value} {fv : ν → Value} (K : KeyF d fk) {es : List MapEntry} {xs : List (κ × ν)} (h : Ents fk fv es xs) : ∀ x ∈ es, IsKey d x.key := by
 intro x hx
 have : x.key ∈ es.map (·.key) := List.mem_map.2 ⟨x, hx, rfl⟩
 rw [h.keys] at this
 obtain ⟨p, _, hp⟩ := List.mem_map.1 this
 rw [← hp]; exact K.isKey _
theorem Ents.at {κ ν : Type} {fk : κ → Value} {fv : ν → Value} {es : List MapEntry} {xs : List (κ × ν)} (h : Ents fk fv es xs) {j : Nat} {e : MapEntry} (he : es[j]? = some e) : ∃ p, xs[j]? = some p ∧ e.key = fk p.1 ∧ e.val = fv p.2 := by
 have := congrArg (fun l => l[j]?) h
 simp only [List.getElem?_map, he, Option.map_some] at this
 cases hx : xs[j]? with
 | none => rw [hx] at this; simp at this
 | some p => rw [hx] at this; simp at this; exact ⟨p, rfl, this.1, this.2⟩
section find
variable {κ ν : Type} [DecidableEq κ] {d : TypeDesc} {fk : κ → Value} {fv : ν → Value}
theorem mGet_none {xs : List (κ × ν)} {k : κ} (h : ∀ p ∈ xs, p.1 ≠ k) : Jdm xs k = none ∧ mHas xs k = false := by
 constructor
 ·unfold Jdm
  rw [List.find?_eq_none.2 (fun p hp => by simpa using h p hp)]; rfl
 ·unfold mHas
  rw [List.any_eq_false]
  intro p hp; simpa using h p hp
theorem mGet_at : ∀ {xs : List (κ × ν)} {k : κ} {j : Nat} {v : ν}, (xs.map (·.1)).Nodup → xs[j]? = some (k, v) → Jdm xs k = some v ∧ mHas xs k = true
 | [], _, j, _, _, h => by simp at h
 | p :: xs, k, 0, v, _, h => by simp at h; subst h; simp [Jdm, mHas]
 | p :: xs, k, j + 1, v, hn, h => by
  simp only [List.getElem?_cons_succ] at h
  simp only [List.map_cons, List.nodup_cons] at hn
  have hne : p.1 ≠ k := fun q => hn.1 (q ▸ List.mem_map.2 ⟨(k, v), List.mem_of_getElem? h, rfl⟩)
  obtain ⟨h1, h2⟩ := mGet_at hn.2 h
  constructor
  ·unfold Jdm at h1 ⊢
   rw [List.find?_cons_of_neg (by simpa using hne)]; exact h1
  ·unfold mHas at h2 ⊢
   simp only [List.any_cons, h2, Bool.or_true]
omit [DecidableEq κ] in
theorem nodup_of (K : KeyF d fk) {es : List MapEntry} {xs : List (κ × ν)} (h : Ents fk fv es xs) (hn : (es.map (·.key)).Nodup) : (xs.map (·.1)).Nodup := by
 rw [h.keys] at hn
 have : xs.map (fun p => fk p.1) = (xs.map (·.1)).map fk := by simp
 rw [this] at hn
 exact (List.pairwise_map.1 hn).imp fun h q => h (congrArg fk q)
theorem find_map (K : KeyF d fk) {es : List MapEntry} {xs : List (κ × ν)} (h : Ents fk fv es xs) (hn : (es.map (·.key)).Nodup) (k : κ) :
  (Instr.findNow d (fk k) es 0 = some none ∧ (∀ x ∈ es, x.key ≠ fk k) ∧ Jdm xs k = none ∧ mHas xs k = false) ∨
  ∃ j e v, Instr.findNow d (fk k) es 0 = some (some (j, e.val)) ∧ es[j]? = some e ∧ e.key = fk k ∧ e.val = fv v ∧ xs[j]? = some (k, v) ∧ Jdm xs k = some v ∧ mHas xs k = true := by
 rcases Go.MapKept.findNow_spec (K.isKey k) es 0 (h.isKey K) with ⟨h1, h2⟩ | ⟨j, e, h1, h2, h3⟩
 ·refine .inl ⟨h1, h2, mGet_none fun p hp q => ?_⟩
  have : fk p.1 ∈ es.map (·.key) := by rw [h.keys]; exact List.mem_map.2 ⟨p, hp, rfl⟩
  obtain ⟨x, hx, hk⟩ := List.mem_map.1 this
  exact h2 x hx (by rw [hk, q])
 ·obtain ⟨p, hp, e1, e2⟩ := h.at h2
  have hk : p.1 = k := K.inj _ _ (e1.symm.trans h3)
  have hp' : xs[j]? = some (k, p.2) := by rw [hp, ← hk]
  have := mGet_at (nodup_of K h hn) hp'
  exact .inr ⟨j, e, p.2, by simpa using h1, h2, h3, e2, hp', this.1, this.2⟩
end find
theorem ents_modify {κ ν : Type} [DecidableEq κ] {fk : κ → Value} {fv : ν → Value} {es : Array MapEntry} {xs : List (κ × ν)} {j : Nat} {k : κ} {v v0 : ν} (h : Ents fk fv es.toList xs) (hn : (xs.map (·.1)).Nodup) (hj : xs[j]? = some (k, v0)) (hh : mHas xs k = true) :
  Ents fk fv (es.modify j fun e => { e with key := fk k, val := fv v }).toList (W0 xs k v) := by
 have hm : W0 xs k v = xs.map fun p => if p.1 = k then (k, v) else p := by unfold W0; rw [if_pos hh]
 rw [hm]
 unfold Ents
 apply List.ext_getElem?
 intro i
 have hi := congrArg (fun l => l[i]?) h
 simp only [List.getElem?_map, Array.getElem?_toList, Array.getElem?_modify] at hi ⊢
 by_cases hij : j = i
 ·subst hij
  rw [hj] at hi ⊢
  simp only [if_true, Option.map_some, Option.map_map]
  cases he : es[j]? with
  | none => rw [he] at hi; simp at hi
  | some e => simp
 ·rw [if_neg hij, hi]
  cases hx : xs[i]? with
  | none => rfl
  | some p =>
   have hne : p.1 ≠ k := by
    intro q
    have hil : i < xs.length := by
     rcases Nat.lt_or_ge i xs.length with h | h
     ·exact h
     ·rw [List.getElem?_eq_none h] at hx; cases hx
    have hjl : j < xs.length := by
     rcases Nat.lt_or_ge j xs.length with h | h
     ·exact h
     ·rw [List.getElem?_eq_none h] at hj; cases hj
    have H := List.pairwise_iff_getElem.1 hn
    have ej : (xs.map (·.1))[j]'(by simpa using hjl) = k := by
     have := (List.getElem?_eq_some_iff.1 hj).2; simp [this]
    have ei : (xs.map (·.1))[i]'(by simpa using hil) = k := by
     have := (List.getElem?_eq_some_iff.1 hx).2; simp [this, q]
    rcases Nat.lt_trichotomy j i with l | l | l
    ·exact H j i (by simpa using hjl) (by simpa using hil) l (ej.trans ei.symm)
    ·exact hij l
    ·exact H i j (by simpa using hil) (by simpa using hjl) l (ei.trans ej.symm)
   simp [hne]
theorem ents_push {κ ν : Type} [DecidableEq κ] {fk : κ → Value} {fv : ν → Value} {es : Array MapEntry} {xs : List (κ × ν)} {k : κ} {v : ν} {c : Nat} (h : Ents fk fv es.toList xs) (hh : mHas xs k = false) :
  Ents fk fv (es.push { key := fk k, val := fv v, born := c }).toList (W0 xs k v) := by
 have hm : W0 xs k v = xs ++ [(k, v)] := by unfold W0; rw [if_neg (by simp [hh])]
 rw [hm]
 unfold Ents at h ⊢
 simp [h]
section ops
variable {P : Program} {cx : Cx} {e : Xs} {L : List Chunk} {ty : TypeId} {pos : String} {af : Array Edge} {g : Option (Nat × Bool)}
variable {κ ν : Type} [DecidableEq κ] {fk : κ → Value} {fv : ν → Value}
omit [DecidableEq κ] in
theorem makes_map {t d : Nat} {rds : List Nat} : Jd7 P cx e ⟨some d, .makeMap t none, ty, pos, af, g⟩ L rds (fun b : Nat => .map (some b)) (fun b => X8 fk fv b ([] : List (κ × ν))) := fun w L' hF hS _ => by
 unfold RunsTo
 have hr : (execOp (ev e) ⟨some d, .makeMap t none, ty, pos, af, g⟩).run P w = .ok (.value (.map (some w.heap.size))) (w.alloc (.map #[] 0)) := by
  simp [execOp, Instr.makeMap]
 rw [hr]
 have gr := Uv w (.map #[] 0)
 exact ⟨w.heap.size, rfl, gr.os, gr.tape, gr.output, gr.size, fun b hb _ => gr.block b hb, fun x => x = w.heap.size, ⟨fun _ => Iff.rfl, #[], 0, Go.heap_alloc_new w _, Go.MapKept.stamped_empty 0, rfl⟩, fun b hb => by subst hb; exact ⟨by simp, .inr (Nat.le_refl _)⟩⟩
theorem Jiu {d : Option Nat} {dk : TypeDesc} {t kt et : TypeId} {X I : Operand} {b i : Nat} {xs : List (κ × ν)} {k : κ} {z : ν} {w : World} (K : KeyF dk fk) (ht : P.underlying t = some (.map kt et)) (hk : P.underlying kt = some dk) (hz : ∀ w, (zeroValue et).run P w = .ok (fv z) w)
  (hx : ev e X = .map (some b)) (hi : ev e I = fk k) (hS : Sat cx w L) (hL : L[i]? = some (X8 fk fv b xs)) :
  (execOp (ev e) ⟨d, .lookup t X I false, ty, pos, af, g⟩).run P w = .ok (.value (fv ((Jdm xs k).getD z))) w := by
 obtain ⟨S, ⟨_, es, clock, hb, hst, hen⟩, _⟩ := hS.at hL
 rcases find_map K hen hst.2.2 k with ⟨h1, _, h3, _⟩ | ⟨j, e0, v, h1, _, _, h4, _, h6, _⟩
 ·simp [execOp, Instr.lookup, hx, hi, run_underlying ht, Go.MapKept.run_getObj_map hb, Go.MapKept.run_checkKey hk (K.isKey k), Go.MapKept.run_findKey hk h1, hz w, h3, Result.andThen]
 ·simp [execOp, Instr.lookup, hx, hi, run_underlying ht, Go.MapKept.run_getObj_map hb, Go.MapKept.run_checkKey hk (K.isKey k), Go.MapKept.run_findKey hk h1, h6, h4, Result.andThen]
theorem Jh1 {u : Bool} {dk : TypeDesc} {t kt et : TypeId} {M I X : Operand} {b i : Nat} {xs : List (κ × ν)} {k : κ} {v : ν} {rds : List Nat} {o : Op} (K : KeyF dk fk) (ho : o = .insert t M I X ∨ o = .mapUpdate t M I X) (ht : P.underlying t = some (.map kt et)) (hk : P.underlying kt = some dk)
  (hm : ev e M = .map (some b)) (hi : ev e I = fk k) (hx : ev e X = fv v) (hL : L[i]? = some (X8 fk fv b xs)) {dst : Option Nat} :
  Turns P cx e ⟨dst, o, ty, pos, af, g⟩ L i rds (fun _ : Unit => undef) (fun _ => X8 fk fv b (W0 xs k v)) := fun w L' hF hS _ hi' => by
 have hL' := (hi' i (.inr rfl)).trans hL
 obtain ⟨S, ⟨_, es, clock, hb, hst, hen⟩, _⟩ := hS.at hL'
 have hlt : b < w.heap.size := (Array.getElem?_eq_some_iff.1 hb).1
 obtain ⟨es', clock', hrun, hst', hen'⟩ : ∃ es' clock', (execOp (ev e) ⟨dst, o, ty, pos, af, g⟩).run P w = .ok .skip { w with heap := w.heap.setIfInBounds b (.map es' clock') } ∧ Stamped es' clock' ∧ Ents fk fv es'.toList (W0 xs k v) := by
  rcases find_map K hen hst.2.2 k with ⟨h1, h2, _, h4⟩ | ⟨j, e0, v0, h1, h2, h3, _, h5, _, h7⟩
  ·refine ⟨_, _, ?_, Go.MapKept.stamped_push hst h2, ents_push (v := v) hen h4⟩
   rcases ho with rfl | rfl <;> simp [execOp, Instr.mapUpdate, hm, hi, hx, run_underlying ht, Go.MapKept.run_getObj_map hb, Go.MapKept.run_checkKey hk (K.isKey k), Go.MapKept.run_findKey hk h1, Go.MapKept.run_setObj_map _ hb, Result.andThen]
  ·have h2' : es[j]? = some e0 := by simpa using h2
   refine ⟨es.modify j fun e => { e with key := fk k, val := fv v }, clock, ?_, Go.MapKept.stamped_modify hst j _ (fun _ _ => rfl) (fun x _ hx => by rw [h2'] at hx; cases hx; exact h3.symm), ents_modify (v := v) hen (nodup_of K hen hst.2.2) h5 h7⟩
   rcases ho with rfl | rfl <;> simp [execOp, Instr.mapUpdate, hm, hi, hx, run_underlying ht, Go.MapKept.run_getObj_map hb, Go.MapKept.run_checkKey hk (K.isKey k), Go.MapKept.run_findKey hk h1, h2', h3, Go.MapKept.run_keyThatStays (K.isKey k), Go.MapKept.run_setObj_map _ hb, Result.andThen]
 unfold RunsTo
 rw [hrun]
 have hS' := hS.turnOf (w' := { w with heap := w.heap.setIfInBounds b (.map es' clock') }) hF hL' (C := X8 fk fv b (W0 xs k v)) fun S1 hp1 =>
  ⟨rfl, rfl, rfl, by simp, fun x _ hx => by rw [Array.getElem?_setIfInBounds_ne (fun h => hx ((hp1.1 x).2 h.symm))], S1, ⟨hp1.1, es', clock', by simp [hlt], hst', hen'⟩, fun x hx => ⟨by rw [(hp1.1 x).1 hx]; simpa using hlt, .inl hx⟩⟩
 exact ⟨(), rfl, hS'.1, hS'.2⟩
end ops
section rules
variable {P : Program} {n : Nat} {cx : Cx} {Q : Jae} {e : Xs} {L : List Chunk} {ops : Array Oper} {rest_ : List Oper} {ty : TypeId} {pos : String} {af : Array Edge} {g : Option (Nat × Bool)} {κ ν : Type} {fk : κ → Value} {fv : ν → Value}
end rules
end Go.Lx

namespace Go.Vc
open Go Go.Md Go.Shelf Go.Sort Go.Proofs
end Go.Vc
namespace Go.Lx
open Go Go.Vc
section ops
variable {P : Program} {e : Xs} {d : Option Nat} {ty : TypeId} {pos : String} {af : Array Edge} {g : Option (Nat × Bool)}
end ops
end Go.Lx

namespace Go.Lx
open Go Go.Vc Go.Md
open Go.MapKept (IsKey Stamped)
structure FrM {κ ν : Type} (h : Jt) (fk : κ → Value) (fv : ν → Value) (v : Value) (xs : List (κ × ν)) : Prop where
 out : ∃ b es clock, v = .map (some b) ∧ h b = some (.map es clock) ∧ Stamped es clock ∧ Ents fk fv es.toList xs
section
variable {κ ν : Type} {fk : κ → Value} {fv : ν → Value} {h h' : Jt} {v : Value} {xs : List (κ × ν)}
theorem FrM.mono (f : FrM h fk fv v xs) (k : ∀ b o, h b = some o → h' b = some o) : FrM h' fk fv v xs := by
 obtain ⟨b, es, c, h1, h2, h3, h4⟩ := f.out
 exact ⟨b, es, c, h1, k _ _ h2, h3, h4⟩
theorem FrM.cells (f : FrM h fk fv v xs) : v.cells.toList = [v] := by
 obtain ⟨b, es, c, rfl, _⟩ := f.out; rfl
theorem FrM.one (f : FrM h fk fv v xs) : v.oneCell' = true := by
 obtain ⟨b, es, c, rfl, _⟩ := f.out; rfl
end
section
variable {P : Program} {cx : Cx} {e : Xs} {L : List Chunk} {ty : TypeId} {pos : String} {af : Array Edge} {g : Option (Nat × Bool)}
variable {κ ν : Type} {fk : κ → Value} {fv : ν → Value}
theorem Ye {w : World} {i b : Nat} {xs : List (κ × ν)} (hS : Sat cx w L) (hL : L[i]? = some (X8 fk fv b xs)) : FrM (fun b => w.heap[b]?) fk fv (.map (some b)) xs := by
 obtain ⟨S, ⟨_, es, c, hb, hst, hen⟩, _⟩ := hS.at hL
 exact ⟨b, es, c, rfl, hb, hst, hen⟩
end
end Go.Lx
namespace Go.Vc
open Go Go.Md Go.Shelf Go.Sort Go.Proofs
end Go.Vc

namespace Go.Lx
open Go Go.Vc Go.Md
open Go.MapKept (IsKey Stamped)
structure KeyG {κ : Type} [DecidableEq κ] (P : Program) (kt : TypeId) (fk : κ → Value) : Prop where
 inj : ∀ a b, fk a = fk b → a = b
 chk : ∀ k em w, (Instr.checkKey em 10000 kt (fk k)).run P w = .ok () w
 now : ∃ d, P.underlying kt = some d ∧ ∀ a b, Instr.sameNow d (fk a) (fk b) = none
 eql : ∀ a b w, (Op.equal kt (fk a) (fk b)).run P w = .ok (decide (a = b)) w
 bits : ∀ k, Instr.sameBits 10000 (fk k) (fk k) = true
section find
variable {κ ν : Type} [DecidableEq κ] {P : Program} {kt : TypeId} {fk : κ → Value} {fv : ν → Value}
end find
section rules
variable {P : Program} {cx : Cx} {e : Xs} {L : List Chunk} {ty : TypeId} {pos : String} {af : Array Edge} {g : Option (Nat × Bool)}
variable {κ ν : Type} [DecidableEq κ] {fk : κ → Value} {fv : ν → Value}
end rules
end Go.Lx

namespace Go.Lx
open Go Go.Vc Go.Md
def exC {σ : Type} (C : σ → Chunk) : Chunk where
 P S w := ∃ x, (C x).P S w
 loc S w w' h := fun ⟨x, hx⟩ => ⟨x, (C x).loc S w w' h hx⟩
theorem imp_ex {σ : Type} (C : σ → Chunk) (x : σ) : Imp (C x) (exC C) := ⟨fun _ _ h => ⟨x, h⟩⟩
section
variable {P : Program} {cx : Cx} {e : Xs} {L : List Chunk} {ops : Array Oper} {F : Xs → List Chunk → Prop} {rest : List Oper} {ss : List Kd}
theorem sat_ex {σ : Type} {w : World} {i : Nat} {C : σ → Chunk} (hL : L[i]? = some (exC C)) (hS : Sat cx w L) : ∃ x, Sat cx w (L.set i (C x)) := by
 obtain ⟨fp, h1, h2, h3⟩ := hS.out
 obtain ⟨x, hx⟩ := h1 i _ hL
 have hil : i < L.length := by
  rcases Nat.lt_or_ge i L.length with h | h
  ·exact h
  ·simp [List.getElem?_eq_none h] at hL
 refine ⟨x, fp, fun j c hc => ?_, fun j b hb => ?_, h3⟩
 ·by_cases hji : j = i
  ·subst hji
   rw [List.getElem?_set_self hil] at hc
   cases hc; exact hx
  ·rw [List.getElem?_set_ne (fun h => hji h.symm)] at hc
   exact h1 j c hc
 ·have := h2 j b hb
  exact ⟨by simpa using this.1, this.2⟩
theorem c_ex {σ : Type} {K : Xs → World → Prop} (i : Nat) {C : σ → Chunk} (hL : L[i]? = some (exC C)) (k : ∀ x, At cx K e (L.set i (C x))) : At cx K e L :=
 ⟨fun w hF hS => by
  obtain ⟨x, hx⟩ := sat_ex hL hS
  exact (k x).out w hF hx⟩
theorem sat_both {w : World} {i j : Nat} {C D : Chunk} (hF : Fr cx w) (hS : Sat cx w L) (hi : L[i]? = some C) (hj : L[j]? = some D) (hne : i ≠ j) : Sat cx w ((L.set i (Jv C D)).set j empC) :=
 (Jd4 (e := fun _ => undef) (K := fun _ w => Sat cx w ((L.set i (Jv C D)).set j empC)) i j hi hj hne ⟨fun _ _ h => h⟩).out w hF hS
theorem sat_imp {w : World} {i : Nat} {C D : Chunk} (hF : Fr cx w) (hS : Sat cx w L) (hi : L[i]? = some C) (h : Imp C D) : Sat cx w (L.set i D) :=
 (Xl (e := fun _ => undef) (K := fun _ w => Sat cx w (L.set i D)) i hi h ⟨fun _ _ h => h⟩).out w hF hS
def _root_.Go.Vc.Kd.t2 (i j : Nat) (rds : List Nat) (v0 : Value) (C : Chunk) : Kd := .g [] rds [i, j] (fun _ _ v => v = v0) (fun _ _ _ => [C, empC])
theorem Jg0 {σ : Type} {o : Oper} {d i j : Nat} {rds : List Nat} {v0 : Value} {C : σ → Chunk} {Ci Cj : Chunk} (h : Turns P cx e o ((L.set i (Jv Ci Cj)).set j empC) i rds (fun _ : σ => v0) C) (hi : L[i]? = some Ci) (hj : L[j]? = some Cj) (hne : i ≠ j)
  (hr : (∀ q ∈ rds, q ≠ i ∧ q ≠ j)) (hw : X1 ops o e = true) (hd : o.dst = some d) (k : Sq P cx ops F rest ss (upd e d v0) ((L.set i (exC C)).set j empC)) : Sq P cx ops F (o :: rest) (.t2 i j rds v0 (exC C) :: ss) e L := by
 have hil : i < L.length := by
  rcases Nat.lt_or_ge i L.length with h | h
  ·exact h
  ·simp [List.getElem?_eq_none h] at hi
 have hjl : j < L.length := by
  rcases Nat.lt_or_ge j L.length with h | h
  ·exact h
  ·simp [List.getElem?_eq_none h] at hj
 refine .take hw ⟨v0, rfl⟩ ⟨fun w L' hF hS hl hi' => ?_⟩ fun v' hv' => ?_
 ·have hLi : L'[i]? = some Ci := (hi' i (.inr (by simp [Kd.t2, Kd.wrs]))).trans hi
  have hLj : L'[j]? = some Cj := (hi' j (.inr (by simp [Kd.t2, Kd.wrs]))).trans hj
  have hS2 := sat_both hF hS hLi hLj hne
  refine (h w _ hF hS2 (by simpa using hl) fun q hq => ?_).mono fun v w' ⟨x, hv, hF', hS'⟩ => ?_
  ·by_cases hqi : q = i
   ·subst hqi
    rw [List.getElem?_set_ne (fun h => hne h.symm), List.getElem?_set_ne (fun h => hne h.symm), List.getElem?_set_self (by omega), List.getElem?_set_self hil]
   ·have hq' : q ∈ rds := hq.resolve_right hqi
    have hqj := (hr q hq').2
    rw [List.getElem?_set_ne (fun h => hqj h.symm), List.getElem?_set_ne (fun h => hqj h.symm), List.getElem?_set_ne (fun h => hqi h.symm), List.getElem?_set_ne (fun h => hqi h.symm)]
    exact hi' q (.inl hq')
  ·subst hv
   refine ⟨rfl, hF', ?_⟩
   show Sat cx w' ((L'.set i (exC C)).set j empC)
   have e1 : (((L'.set i (Jv Ci Cj)).set j empC).set i (C x)) = (L'.set i (C x)).set j empC := by
    rw [List.set_comm _ _ (fun h => hne h.symm), List.set_set]
   rw [e1] at hS'
   have hget : ((L'.set i (C x)).set j empC)[i]? = some (C x) := by
    rw [List.getElem?_set_ne (fun h => hne h.symm), List.getElem?_set_self (by omega)]
   have := sat_imp hF' hS' hget (imp_ex C x)
   rw [List.set_comm _ _ (fun h => hne h.symm), List.set_set] at this
   exact this
 ·have hv : v' = v0 := hv'
  subst hv
  show Sq P cx ops F rest ss (Vq e o.dst v') ((L.set i (exC C)).set j empC)
  rw [hd]
  exact k
end
end Go.Lx

namespace Go.Lx
open Go Go.Vc Go.Md
section rules
variable {P : Program} {n : Nat} {cx : Cx} {e : Xs} {L : List Chunk} {ops : Array Oper} {rest : List Oper} {ty : TypeId} {pos : String} {af : Array Edge} {g : Option (Nat × Bool)}
end rules
end Go.Lx

namespace Go.Lx
open Go Go.Vc Go.Md Go.Shelf Go.Sort Go.Proofs
section ops
variable {P : Program} {e : Xs} {d : Option Nat} {ty : TypeId} {pos : String} {af : Array Edge} {g : Option (Nat × Bool)}
end ops
end Go.Lx

namespace Go.Proofs
open Go Go.Md Go.Vc Go.Lx
theorem Try.cmpOrP (blk : Nat) (v0 v1 r : Int) (hr0 : v0 ≠ 0 → r = v0) (hr1 : v0 = 0 → r = v1) (w : World) (g0 : w.cell? ⟨blk, 0, none⟩ = some (.int .i64 v0)) (g1 : w.cell? ⟨blk, 1, none⟩ = some (.int .i64 v1)) :
  Calls Try.prog 64 #[.slice (some ⟨blk, 0, none⟩) 2 2] w fun e w' => e = .returned (.int .i64 r) ∧ w' = w := by
 go_enter Try.func64, Try.ntmps64
 go_wp2
 go_loop [8] (fun i => (i = .int .i64 0) ∨ (i = .int .i64 1 ∧ v0 = 0) ∨ (i = .int .i64 2 ∧ v0 = 0 ∧ v1 = 0)) (fun i => match i with | .int _ q => 2 - q.toNat | _ => 0)
 case atStart => exact .inl rfl
 case round =>
  rcases hrel with rfl | ⟨rfl, z0⟩ | ⟨rfl, z0, z1⟩
  ·go_wp2
   all_goals first
    | (go_ret; exact ⟨by first | rfl | (rw [hr0  (by simp_all)]; rfl), rfl⟩)
    | (simp; rename_i hz; exact by simpa using hz)
  ·go_wp2
   all_goals first
    | (go_ret; exact ⟨by first | rfl | (rw [hr1 z0]; rfl), rfl⟩)
    | (simp; rename_i hz; exact ⟨z0, by simpa using hz⟩)
  ·go_wp2
   go_ret
   exact ⟨by first | rfl | (rw [hr1 z0, z1]; rfl) | simp_all, rfl⟩
open Go.Sort
set_option maxRecDepth 100000 in
set_option maxHeartbeats 4000000 in
theorem Try.closureP (a0 a1 b0 b1 r : Int) (W : World) (hcmp : ∀ (x y : Int) (W' : World), Calls Try.prog 65 #[.int .i64 x, .int .i64 y] W' fun e w' => e = .returned (.int .i64 (Lib.compareInt x y)) ∧ w' = W')
  (hr0 : (Lib.compareInt a0 b0) ≠ 0 → r = (Lib.compareInt a0 b0)) (hr1 : (Lib.compareInt a0 b0) = 0 → r = (Lib.compareInt a1 b1)) :
  Calls Try.prog 42 #[.agg #[.int .i64 a0, .int .i64 a1], .agg #[.int .i64 b0, .int .i64 b1]] W fun e w' => e = .returned (.int .i64 r) ∧ ∃ q os', w' = Go.Sort.grow (W.drewN q) os' := by
 have h0 := fun W' => hcmp a0 b0 W'
 have h1 := fun W' => hcmp a1 b1 W'
 have hor := fun (blk : Nat) (w : World) g0 g1 => Try.cmpOrP blk (Lib.compareInt a0 b0) (Lib.compareInt a1 b1) r hr0 hr1 w g0 g1
 clear hr0 hr1 hcmp
 generalize Lib.compareInt a0 b0 = p0 at *
 generalize Lib.compareInt a1 b1 = p1 at *
 go_enter Try.func42, Try.ntmps42
 go_wp2
 refine wp_region_still_tail 10 (by kernel_rfl) (by kernel_rfl) ?_
 simp only [List.take_succ_cons, List.take_zero, List.drop_succ_cons, List.drop_zero]
 generalize hw1 : ({ heap := _, tape := _, drawn := _, os := _, output := _ } : World) = w1
 have eh : w1.heap = (W.heap.push (.cells #[.int .i64 a0, .int .i64 a1] 94 (0, 0))).push (.cells #[.int .i64 b0, .int .i64 b1] 94 (0, 0)) := by subst hw1; rfl
 have c0 : w1.cell? ⟨W.heap.size, 0, none⟩ = some (.int .i64 a0) := by simp [World.cell?, eh, Array.getElem?_push, Array.getElem_push]
 have c1 : w1.cell? ⟨W.heap.size, 1, none⟩ = some (.int .i64 a1) := by simp [World.cell?, eh, Array.getElem?_push, Array.getElem_push]
 have c2 : w1.cell? ⟨W.heap.size + 1, 0, none⟩ = some (.int .i64 b0) := by simp [World.cell?, eh, Array.getElem?_push, Array.getElem_push]
 have c3 : w1.cell? ⟨W.heap.size + 1, 1, none⟩ = some (.int .i64 b1) := by simp [World.cell?, eh, Array.getElem?_push, Array.getElem_push]
 have hg : ∃ q os', w1 = Go.Sort.grow (W.drewN q) os' := ⟨1, #[.cells #[.int .i64 a0, .int .i64 a1] 94 (0, 0), .cells #[.int .i64 b0, .int .i64 b1] 94 (0, 0)], by
  subst hw1
  unfold Go.Sort.grow World.drewN
  congr 1⟩
 clear eh
 clear hw1
 repeat still_step
 still_call (h0 w1)
 repeat still_step
 still_call (h1 w1)
 repeat still_step
 refine wpStill_nil ?_
 clear c0 c1 c2 c3 h0 h1
 have e0 : (w1.alloc (.cells #[.int .i64 p0, .int .i64 p1] 3)).cell? ⟨w1.heap.size, 0, none⟩ = some (.int .i64 p0) := by
  show (match (w1.heap.push (.cells #[.int .i64 p0, .int .i64 p1] 3 (0, 0)))[w1.heap.size]? with | some (.cells c _ _) => c[0]? | _ => none) = _
  simp
 have e1 : (w1.alloc (.cells #[.int .i64 p0, .int .i64 p1] 3)).cell? ⟨w1.heap.size, 1, none⟩ = some (.int .i64 p1) := by
  show (match (w1.heap.push (.cells #[.int .i64 p0, .int .i64 p1] 3 (0, 0)))[w1.heap.size]? with | some (.cells c _ _) => c[1]? | _ => none) = _
  simp
 have hor2 := hor _ _ e0 e1
 clear hor e0 e1
 go_wp2_with (go_at_call 64; refine hor2.mono ?_; rintro e w' ⟨rfl, rfl⟩)
 go_ret
 obtain ⟨q0, os0, rfl⟩ := hg
 exact ⟨rfl, q0, os0 ++ #[.cells #[.int .i64 p0, .int .i64 p1] 3 (0, 0)], by rw [Go.Sort.alloc_eq_grow, Go.Sort.grow_grow]⟩
end Go.Proofs

namespace Go.Proofs
open Go Go.Md Go.M Go.Vc Go.Lx
theorem Try.compare_model (a b : Int) : cmp_Compare_int a b = some (Lib.compareInt a b) := by
 unfold cmp_Compare_int Jbk Lib.compareInt
 simp only [Jb, ne_eq, not_true_eq_false, decide_false, Qm]
 by_cases h1 : a < b
 ·simp [h1]
 ·by_cases h2 : b < a <;> simp [h1, h2]
theorem Try.or_model2 (p0 p1 : Int) : Jcb [p0, p1] = some (if p0 ≠ 0 then p0 else p1) := by
 unfold Jcb
 by_cases h0 : p0 = 0
 ·subst h0
  rw [Xv (b := (1 : Int)) (fun next => by simp [Yz, Q9, gI])]
  by_cases h1 : p1 = 0
  ·subst h1
   rw [Xv (b := (2 : Int)) (fun next => by simp [Yz, Q9, gI])]
   rw [Qz (o := some 0) (fun next => by simp [Yz])]
   simp
  ·rw [Qz (o := some p1) (fun next => by simp [Yz, Q9, h1])]
   simp [h1]
 ·rw [Qz (o := some p0) (fun next => by simp [Yz, Q9, h0])]
  simp [h0]
theorem Try.spans_model (x y : Tc) : J8 x y = some (if Lib.compareInt x.From y.From ≠ 0 then Lib.compareInt x.From y.From else Lib.compareInt x.To y.To) := by
 unfold J8
 rw [Try.compare_model, Jb, Try.compare_model, Jb, Try.or_model2, Jb]
theorem Try.cmpP (x y : Tc) (v : Int) (W : World) (hv : J8 x y = some v) :
  Calls Try.prog 42 #[.agg #[.int .i64 x.From, .int .i64 x.To], .agg #[.int .i64 y.From, .int .i64 y.To]] W fun e w' => e = .returned (.int .i64 v) ∧ ∃ q os', w' = Go.Sort.grow (W.drewN q) os' := by
 rw [Try.spans_model] at hv
 cases hv
 refine Try.closureP x.From x.To y.From y.To _   W (fun a b W' => ?_) (fun  g0 => by rw [if_pos g0]) (fun g0 => by rw [if_neg (by simpa using g0)])
 exact AnyG.cmp_Compare_int Try.cmpI65 a b W'
theorem Try.entersP (args : Array Value) (w : World) : (callFunc 42 args).run Try.prog w = .ok (.enter 42 args) w := enters_of Try.func42 (by kernel_rfl) rfl args w
end Go.Proofs

namespace Go.Lx
open Go Go.Vc Go.Md Go.Shelf Go.Proofs
def TabH (P : Program) (h : Jt) (name : String) (k : IntKind) (zs : List Int) : Prop := ∃ g T m, P.globalNamed name = some g ∧ h g = some (.cells (zs.map fun z => Value.int k z).toArray T m)
theorem TabH.mono {P : Program} {h h' : Jt} {name : String} {k : IntKind} {zs : List Int} (t : TabH P h name k zs) (hh : ∀ b o, h b = some o → h' b = some o) : TabH P h' name k zs := by
 obtain ⟨g, T, m, h1, h2⟩ := t
 exact ⟨g, T, m, h1, hh _ _ h2⟩
end Go.Lx

namespace Go.Lx
open Go Go.Vc Go.Md
structure RC (P : Program) (n : Nat) (c : Code) (Q : Jae) (m : Nat) (e : Xs) (w : World) : Prop where
 out : ∀ a, Sim n a e → Code.rounds P c (lift n Q) m a w
section rules
variable {P : Program} {n : Nat} {Q : Jae} {cx : Cx} {K : Xs → World → Prop} {e : Xs} {L : List Chunk}
end rules
end Go.Lx

namespace Go.Lx
open Go Go.Vc Go.Md Go.Shelf Go.Sort Go.Proofs
variable {P : Program} {cx : Cx} {L : List Chunk} {e : Xs}
theorem Jho {fn : Func} {t T b u u' : Nat} {v : Value} (h : fn.results = #[.cell t T, .tmp u, .tmp u']) (tmps : Array Value) (w : World) (ht : tmps.getD t undef = .pointer (some ⟨b, 0, none⟩)) (hl : (loadVar T ⟨b, 0, none⟩).run P w = .ok v w) :
  (results fn tmps).run P w = .ok (.tuple #[v, tmps.getD u undef, tmps.getD u' undef]) w := by
 rw [Array.getD_eq_getD_getElem?] at ht
 simp [results, h, ht, asAddr, hl]
theorem Jeh {i : Nat} {fn : Func} {R : Value → World → Prop} {t T T0 b sz u u' : Nat} {cs vs : List Value} {v2 v3 : Value} (hA : ∀ w, (isAgg T).run P w = .ok true w) (hs : ∀ w, (sizeOf T).run P w = .ok sz w) (hr : fn.results = #[.cell t T, .tmp u, .tmp u'])
  (ht : e t = .pointer (some ⟨b, 0, none⟩)) (hL : L[i]? = some (Jf b cs T0)) (hv : rd cs 0 sz = some vs) (h2 : e u = v2) (h3 : e u' = v3) (k : ∀ w, Fr cx w → Sat cx w L → R (.tuple #[.agg vs.toArray, v2, v3]) w) : At cx (Jei P fn R .ret) e L :=
 ⟨fun w hF hS tmps hts => ⟨.tuple #[.agg vs.toArray, v2, v3], by
  obtain ⟨h1, h2'⟩ := Jg2 hv
  have hl := V4 (P := P) (w := w) (b := b) (o := 0) hA hs h1 (fun j v hj => by rw [Jb1 (Qp hS hL)]; exact h2' j v hj)
  rw [Jho hr tmps w (by rw [hts, ht]) hl, hts, hts, h2, h3], k w hF hS⟩⟩
section
open Go.Sort Go.Shelf
end
end Go.Lx

namespace Go.Lx
open Go Go.Vc Go.Md
section
variable {α : Type} {G : Jt → (Nat → Value) → α → Prop} {h : Jt} {sz : Nat} {css : List (List Value)} {xs ys : List α} {i : Int} {x' : α} {vs : List Value}
theorem AllC.setE (p : AllC G h sz css xs) (g : gSet xs i x' = some ys) (hl : vs.length = sz) (hG : G h (fun q => vs.getD q undef) x') : AllC G h sz (css.set i.toNat vs) ys := by
 obtain ⟨h0, h1, rfl⟩ := Ja9 g
 refine ⟨by rw [List.length_set, p.len, List.length_set], fun k c y hc hy => ?_⟩
 rw [List.getElem?_set] at hc hy
 by_cases hk : i.toNat = k
 ·subst hk
  rw [if_pos rfl, if_pos (by rw [p.len]; exact h1)] at hc
  rw [if_pos rfl, if_pos h1] at hy
  cases hc; cases hy
  exact ⟨hl, hG⟩
 ·rw [if_neg hk] at hc hy
  exact p.el k c y hc hy
end
end Go.Lx

namespace Go.Lx
open Go Go.Vc Go.Md Go.Shelf Go.Sort Go.Proofs
section rules
variable {P : Program} {n : Nat} {cx : Cx} {Q : Jae} {e : Xs} {L : List Chunk} {ops : Array Oper} {rest : List Oper} {ty : TypeId} {pos : String} {af : Array Edge} {g : Option (Nat × Bool)}
end rules
section
end
section
open Go.Vc
variable {P : Program} {n : Nat} {cx : Cx} {e : Xs} {L : List Chunk} {d : Nat} {ty : TypeId} {pos : String} {af : Array Edge} {g : Option (Nat × Bool)}
theorem imp_room1 {E sz n c : Nat} {a : Option Addr} {xs : List (List Value)} (h : n + 1 ≤ c) : Imp (Jav E sz (.slice a n c) n xs) (exC fun y : List Value => Jav E sz (.slice a (n + 1) c) (n + 1) (xs ++ [y])) := ⟨fun S w hp => by
 obtain ⟨g0, off, cur, rfl, hSg, hh, hnc, hcm, hfit, htk⟩ := Jgo hp (by omega)
 have hle : (n + 1) * sz ≤ c * sz := Nat.mul_le_mul_right _ h
 have hl : (((cur.toList.drop off).drop (n * sz)).take sz).length = sz := by
  rw [Nat.add_mul, Nat.one_mul] at hle
  rw [List.length_take, List.length_drop, List.length_drop, Array.length_toList]; omega
 refine ⟨((cur.toList.drop off).drop (n * sz)).take sz, ⟨.inr ⟨g0, off, c, cur, rfl, hh, h, hcm, hfit, ?_⟩, ?_, ?_⟩, hp.2⟩
 ·rw [Nat.add_mul, Nat.one_mul, List.take_add, htk, List.flatten_append]; simp
 ·rw [List.length_append, hp.1.2.1]; rfl
 ·intro x hx
  rcases List.mem_append.1 hx with hx | hx
  ·exact hp.1.2.2 x hx
  ·rw [List.mem_singleton.1 hx]; exact hl⟩
theorem Jga {xs news : List (List Value)} {i : Nat} {D X : Operand} {t u E : TypeId} {I : TypeInfo} {sz : Nat} {p : Option Addr × Nat} {rds : List Nat} {ax : Option Addr} {dl cd c m a q k : Nat} {dst : Option Nat}
  (ht : P.underlying t = some (.slice E)) (hi : P.info? E = some I) (hsize : I.size = sz)
  (hL : L[i]? = some (Jav E sz (.slice p.1 m p.2) m xs)) (hm : m = xs.length) (hd : ev e D = .slice (Xg p.1 a p.2 sz) dl cd) (ha : a + dl ≤ m) (hx : ev e X = .slice ax q c) (hql : min q dl = k) (hk : k = news.length) (hq0 : 0 < k)
  (hnews : ∀ w L', Fr cx w → Sat cx w L' → (∀ j, j ∈ rds ∨ j = i → L'[j]? = L[j]?) → Row w ax sz news) (hnl : ∀ x ∈ news, x.length = sz) (h1 : ∀ x ∈ news, ∀ u ∈ x, u.oneCell' = true) :
  Turns P cx e ⟨dst, .call ⟨.builtin .copy, #[D, X], #[t, u]⟩, ty, pos, af, g⟩ L i rds (fun _ : Unit => .int .i64 (k : Int)) (fun _ => Jav E sz (.slice p.1 m p.2) m (xs.take a ++ news ++ xs.drop (a + k))) := by
 subst hsize hm
 intro w L' hF hS hl hi'
 have hr := hnews w L' hF hS hi'
 have hL' := (hi' i (.inr rfl)).trans hL
 obtain ⟨S0, hC, hlt⟩ := hS.at hL'
 have hlx : ∀ x ∈ xs, x.length = I.size := hC.1.2.2
 have hkd : k ≤ dl := by omega
 have hcap : 0 < p.2 := by
  have := capOfO hS hL'
  omega
 obtain ⟨g0, off, cur, e1, hSg, hh, hnc, hcm, hfit0, htk⟩ := Jgo hC hcap
 have hall : ∀ x ∈ xs.take a ++ news ++ xs.drop (a + k), x.length = I.size := fun x hx => by
  rcases List.mem_append.1 hx with h | h
  ·rcases List.mem_append.1 h with h | h
   ·exact hlx x (List.mem_of_mem_take h)
   ·exact hnl x h
  ·exact hlx x (List.mem_of_mem_drop h)
 have hle : (xs.take a ++ news ++ xs.drop (a + k)).length = xs.length := by
  simp only [List.length_append, List.length_take, List.length_drop]; omega
 have hcut : Xg p.1 a p.2 I.size = some ⟨g0, off + a * I.size, none⟩ := by
  rw [e1]; unfold Xg
  rw [if_neg (by omega)]; simp [Addr.add_lit]
 rcases hr with hr | ⟨b, off', hax, hr⟩
 ·rw [hr] at hk; exact absurd hq0 (by simp [hk])
 subst hax
 have hfl : news.flatten.length = k * I.size := by rw [Yc news hnl, hk]
 have hcell : ∀ j u, news.flatten[j]? = some u → w.cell? ((⟨b, off', none⟩ : Addr).add j) = some u := by
  intro j u hj
  obtain ⟨i', k', x, g1, g2, g3⟩ := Jag news hnl j u hj
  have := (hr i' x g1).2 k' u g2
  rw [Addr.add_lit, g3, ← Nat.add_assoc]
  exact this
 have hone : ∀ u ∈ news.flatten, u.oneCell' = true := fun u hu => by
  obtain ⟨x, hx, hux⟩ := List.mem_flatten.1 hu
  exact h1 x hx u hux
 have hcur : cur.toList.length = cur.size := Array.length_toList
 have hsum : (a + k) * I.size ≤ xs.length * I.size := Nat.mul_le_mul_right _ (by omega)
 have hsum2 : xs.length * I.size ≤ p.2 * I.size := Nat.mul_le_mul_right _ hnc
 have hfit : off + a * I.size + news.flatten.length ≤ cur.size := by
  rw [Nat.add_mul] at hsum; omega
 have hfc := run_firstCells_some (P := P) w I.size k ⟨b, off', none⟩ q c news.flatten hfl hcell
 have hst := run_storeCells_at (P := P) g0 (off + a * I.size) E news.flatten 0 cur w hh (by simpa using hfit) hone
 simp only [Nat.add_zero] at hst
 have hk1 : ¬ k = 0 := by omega
 have hr2 : (Builtin.copy_ #[t, u] ty #[.slice (some ⟨g0, off + a * I.size, none⟩) dl cd, .slice (some ⟨b, off', none⟩) q c]).run P w = .ok (goInt k) (w.setRow g0 (cur.toList.take (off + a * I.size) ++ news.flatten ++ cur.toList.drop (off + a * I.size + news.flatten.length)).toArray) := by
  have hql2 : Nat.min q dl = k := hql
  simp [Builtin.copy_, run_underlying ht, Builtin.lenOf, sizeOf, typeInfo, hi, hql, hql2, hfc, hst]
 have hexec : (execOp (ev e) ⟨dst, .call ⟨.builtin .copy, #[D, X], #[t, u]⟩, ty, pos, af, g⟩).run P w = .ok (.value (.int .i64 (k : Int))) (w.setRow g0 (cur.toList.take (off + a * I.size) ++ news.flatten ++ cur.toList.drop (off + a * I.size + news.flatten.length)).toArray) := by
  simp only [execOp, resolve, invoke, builtin, Sem.run_bind, Sem.run_pure, Result.andThen_ok, List.map_toArray, List.map_cons, List.map_nil, hd, hcut, hx, hr2]
  rfl
 have hxf : xs.flatten.length = xs.length * I.size := Yc xs hlx
 have e2 : (xs.take a ++ news ++ xs.drop (a + k)).flatten = xs.flatten.take (a * I.size) ++ news.flatten ++ xs.flatten.drop ((a + k) * I.size) := by
  rw [List.flatten_append, List.flatten_append, ← Jfu _ hlx, ← Jft _ hlx]
 generalize hnew : (cur.toList.take (off + a * I.size) ++ news.flatten ++ cur.toList.drop (off + a * I.size + news.flatten.length)) = new at hexec
 have hsz2 : new.toArray.size = cur.size := by
  rw [← hnew]
  simp only [List.size_toArray, List.length_append, List.length_take, List.length_drop, hcur]; omega
 have htk2 : (new.drop off).take (xs.length * I.size) = (xs.take a ++ news ++ xs.drop (a + k)).flatten := by
  have hal : a * I.size ≤ xs.flatten.length := by rw [hxf]; exact Nat.mul_le_mul_right _ (by omega)
  have e3 : (cur.toList.take (off + a * I.size)).drop off = xs.flatten.take (a * I.size) := by
   rw [List.drop_take, Nat.add_sub_cancel_left, ← htk, List.take_take, Nat.min_eq_left (by rw [hxf] at hal; exact hal)]
  have e5 : (cur.toList.drop (off + a * I.size + news.flatten.length)) = (cur.toList.drop off).drop ((a + k) * I.size) := by
   rw [List.drop_drop, hfl, Nat.add_mul, Nat.add_assoc]
  have e6 : cur.toList.drop off = xs.flatten ++ (cur.toList.drop off).drop (xs.length * I.size) := by rw [← htk, List.take_append_drop]
  rw [e2, ← hnew, List.append_assoc, List.drop_append_of_le_length (by rw [List.length_take, hcur]; omega), e3, e5, e6, List.drop_append_of_le_length (by rw [hxf]; exact hsum)]
  rw [← List.append_assoc, ← List.append_assoc]
  have hl3 : (xs.flatten.take (a * I.size) ++ news.flatten ++ xs.flatten.drop ((a + k) * I.size)).length = xs.length * I.size := by
   rw [← e2, Yc _ hall, hle]
  rw [← hl3, List.take_left]
 obtain ⟨hF', hS'⟩ := hS.turnOf hF hL' (C := Jav E I.size (.slice p.1 xs.length p.2) xs.length (xs.take a ++ news ++ xs.drop (a + k))) (w' := w.setRow g0 new.toArray) fun S1 hp => by
  have hg1 : S1 g0 := hp.2 g0 (by rw [e1]; rfl)
  refine ⟨rfl, rfl, rfl, by simp [World.setRow], fun b' hb' hn => ?_, (fun x => x = g0), ⟨⟨.inr ⟨g0, off, p.2, _, by rw [e1], setRow_heap w g0 cur _ E _ hh, hnc, hcm, by rw [hsz2]; exact hfit0, htk2⟩, hle, hall⟩, fun b' hb' => by rw [e1] at hb'; cases hb'; rfl⟩, fun b' hb' => ⟨?_, .inl (by rw [hb']; exact hg1)⟩⟩
  ·exact setRow_other w g0 b' _ fun h => hn (by rw [h]; exact hg1)
  ·rw [hb', setRow_size]; exact (Array.getElem?_eq_some_iff.1 hh).1
 unfold RunsTo
 rw [hexec]
 exact ⟨(), rfl, hF', hS'⟩
end
section
variable {P : Program} {e : Xs} {d : Option Nat} {ty : TypeId} {pos : String} {af : Array Edge} {g : Option (Nat × Bool)}
theorem Row.pre {w : World} {a : Option Addr} {sz : Nat} {xs ys : List (List Value)} (h : Row w a sz (xs ++ ys)) : Row w a sz xs := by
 rcases h with h | ⟨b, off, ha, h⟩
 ·exact .inl (List.append_eq_nil_iff.1 h).1
 ·refine .inr ⟨b, off, ha, fun i x hx => h i x ?_⟩
  rw [List.getElem?_append_left (List.getElem?_eq_some_iff.1 hx).1]; exact hx
theorem Jis {X B : Operand} {a : Option Addr} {m c : Nat} {t u sz : Nat} {kb : IntKind} {q : Int} (hu : P.underlying t = some (.slice u)) (hs : ∀ w, (sizeOf u).run P w = .ok sz w)
  (hx : ev e X = .slice a m c) (hb : ev e B = .int kb q) (h0 : 0 ≤ q) (h1 : q ≤ c) (w : World) :
  (execOp (ev e) ⟨d, .slice t X none (some B) none, ty, pos, af, g⟩).run P w = .ok (.value (.slice a q.toNat c)) w := by
 rw [r_sliceH hu hs hx hb h0 h1 w, Jeo]
theorem run_ovl {f t tb E E' sz b2 T2 : Nat} {cs1 : Array Value} (h0 : ∀ x y w, (callFunc f (List.toArray [x, y])).run P w = (do pure (.value (← Extern.SlicesOverlaps.overlaps #[t, t] #[tb] #[x, y])) : Sem Next).run P w) (ht : P.underlying t = some (.slice E)) (hs : ∀ w, (sizeOf E).run P w = .ok sz w) (hsz : Nat.blt 0 sz = true)
  {w : World} {S : Nat → Prop} {n c l q k : Nat} {a : Option Addr} {xs : List (List Value)} (hC : (Jav E' sz (.slice a n c) n xs).P S w) (hc : 0 < c) (hb2 : w.heap[b2]? = some (.cells cs1 T2 (0, 0))) (hne : ¬ S b2) {X Y : Operand} {tys : Array TypeId}
  (hx : ev e X = .slice (some ⟨b2, 0, none⟩) 1 1) (hy : ev e Y = .slice (Xg a l c sz) q k) : (execOp (ev e) ⟨d, .call ⟨.value (.func f), #[X, Y], tys⟩, ty, pos, af, g⟩).run P w = .ok (.value (.bool false)) w := by
 obtain ⟨g0, off, cur, rfl, hSg, hh, _, _, hfit, _⟩ := Jgo hC hc
 have hsz' : 0 < sz := by simpa using hsz
 have hcs : 0 < c * sz := Nat.mul_pos hc hsz'
 have hcut : ∃ o, Xg (some ⟨g0, off, none⟩) l c sz = some ⟨g0, o, none⟩ := by
  unfold Xg
  split
  ·exact ⟨off, rfl⟩
  ·exact ⟨off + l * sz, by simp [Addr.add_lit]⟩
 obtain ⟨o, ho⟩ := hcut
 rw [ho] at hy
 have hbg : b2 ≠ g0 := fun h => hne (h ▸ hSg)
 have key := Lib.run_overlaps_apart (P := P) w t tb E ht sz hs ⟨b2, 0, none⟩ ⟨g0, o, none⟩ 1 1 q k hbg T2 E' cs1.size cur.size (by simp [World.shape?, hb2]) (by simp [World.shape?, hh]) (by omega) (by simp [World.frozen?, hb2]) (by simp [World.frozen?, hb2])
 have hcall : (callFunc f (List.toArray [.slice (some ⟨b2, 0, none⟩) 1 1, .slice (some ⟨g0, o, none⟩) q k])).run P w = .ok (.value (.bool false)) w := by
  rw [h0]
  simp only [Sem.run_bind, key, Result.andThen_ok, Sem.run_pure]
 have hA : (#[X, Y] : Array Operand).map (ev e) = List.toArray [.slice (some ⟨b2, 0, none⟩) 1 1, .slice (some ⟨g0, o, none⟩) q k] := by simp [hx, hy]
 simp only [execOp, resolve, ev, Deferred.ofValue, Sem.run_bind, Sem.run_pure, Result.andThen_ok, invoke, hcall, Array.append_empty, Array.empty_append]
 rw [hA, hcall]
end
section
open Go.Vc
variable {P : Program} {cx : Cx} {e : Xs} {L : List Chunk} {d : Option Nat} {ty : TypeId} {pos : String} {af : Array Edge} {g : Option (Nat × Bool)}
end
end Go.Lx

namespace Go.Lx
open Go Go.Md Go.Vc Go.Shelf Go.Sort Go.Proofs
theorem sj {α : Type} {a b : α} (h : some a = some b) : a = b := Option.some.inj h
section
variable {P : Program} {n : Nat} {cx : Cx} {Q : Jae} {e : Xs} {L : List Chunk} {ops : Array Oper} {rest : List Oper} {d : Nat} {ty : TypeId} {pos : String} {af : Array Edge} {g : Option (Nat × Bool)}
theorem lv {o : Op} {v : Value} (hr : ∀ w, (execOp (ev e) ⟨some d, o, ty, pos, af, g⟩).run P w = .ok (.value v) w) (k : At cx (WL P n ops Q rest) (upd e d v) L)
  (hw : X1 ops ⟨some d, o, ty, pos, af, g⟩ e = true := by exact rfl) (hn : Nat.blt d n = true := by exact rfl) : At cx (WL P n ops Q (⟨some d, o, ty, pos, af, g⟩ :: rest)) e L := Ju hw rfl hn hr k
theorem pT {c A B : Operand} (v : Value) (k : At cx (WL P n ops Q rest) (upd e d v) L) (hw : X1 ops ⟨some d, .pick c A B, ty, pos, af, g⟩ e = true := by exact rfl) (hn : Nat.blt d n = true := by exact rfl)
  (hc : ev e c = .bool true := by exact rfl) (hx : ev e A = v := by exact rfl) : At cx (WL P n ops Q (⟨some d, .pick c A B, ty, pos, af, g⟩ :: rest)) e L := Ju hw rfl hn (Jbz hc hx) k
theorem pF {c A B : Operand} (v : Value) (k : At cx (WL P n ops Q rest) (upd e d v) L) (hw : X1 ops ⟨some d, .pick c A B, ty, pos, af, g⟩ e = true := by exact rfl) (hn : Nat.blt d n = true := by exact rfl)
  (hc : ev e c = .bool false := by exact rfl) (hx : ev e B = v := by exact rfl) : At cx (WL P n ops Q (⟨some d, .pick c A B, ty, pos, af, g⟩ :: rest)) e L := Ju hw rfl hn (Jbj hc hx) k
theorem lf {T fld b o fo ft fsz bo : Nat} {nm tg pk : String} {em : Bool} {X : Operand} {fs : Array Field} (hu : ∀ w, (underlying T).run P w = .ok (.struct fs) w)
  (hf : fs[fld]? = some ⟨nm, ft, fo, em, tg, pk, bo⟩) (hs : ∀ w, (sizeOf ft).run P w = .ok fsz w) (hp : ev e X = .pointer (some ⟨b, o, none⟩))
  (k : At cx (WL P n ops Q rest) (upd e d (.pointer (some ⟨b, o + fo, none⟩))) L) (hsz : Nat.blt 0 fsz = true := by exact rfl) (hw : X1 ops ⟨some d, .fieldAddr T X fld, ty, pos, af, g⟩ e = true := by exact rfl) (hn : Nat.blt d n = true := by exact rfl) :
  At cx (WL P n ops Q (⟨some d, .fieldAddr T X fld, ty, pos, af, g⟩ :: rest)) e L := Ju hw rfl hn (Qd hu hf hs hsz hp) k
theorem ll {T T0 b o : Nat} {A : Operand} {cs : List Value} (i : Nat) (v : Value) (hA : ∀ w, (isAgg T).run P w = .ok false w) (k : At cx (WL P n ops Q rest) (upd e d v) L)
  (hw : X1 ops ⟨some d, .load T A, ty, pos, af, g⟩ e = true := by exact rfl) (hn : Nat.blt d n = true := by exact rfl) (hp : ev e A = .pointer (some ⟨b, o, none⟩) := by exact rfl) (hL : L[i]? = some (Jf b cs T0) := by exact rfl) (hv : rg cs o = some v := by exact rfl) :
  At cx (WL P n ops Q (⟨some d, .load T A, ty, pos, af, g⟩ :: rest)) e L := Je0 hA hw hn hp hL hv k
theorem st {i : Nat} {T T0 b o sz : Nat} {A X : Operand} {x : Value} {cs : List Value} (vs cs' : List Value) (hs : ∀ w, (sizeOf T).run P w = .ok sz w)
  (hp : ev e A = .pointer (some ⟨b, o, none⟩)) (hL : L[i]? = some (Jf b cs T0)) (k : At cx (WL P n ops Q rest) e (L.set i (Jf b cs' T0)))
  (hw : X1 ops ⟨none, .store T A X, ty, pos, af, g⟩ e = true := by exact rfl) (hx : ev e X = x := by exact rfl) (hc : x.cells.toList = vs := by exact rfl) (hsz : vs.length = sz := by exact rfl) (hpos : Nat.blt 0 sz = true := by exact rfl)
  (hone : vs.all Value.oneCell' = true := by exact rfl) (hv : wr cs o vs = some cs' := by exact rfl) :
  At cx (WL P n ops Q (⟨none, .store T A X, ty, pos, af, g⟩ :: rest)) e L := Yq hs hw hp hx hc hsz hpos hone hL hv k
theorem bo {K : Xs → World → Prop} (i j : Nat) {C D : Chunk} (hi : L[i]? = some C) (hj : L[j]? = some D) (k : At cx K e ((L.set i (Jv C D)).set j empC)) (hne : i ≠ j := by decide) : At cx K e L := Jd4 i j hi hj hne k
theorem ub {K : Xs → World → Prop} (i j : Nat) {C D : Chunk} (hL : L[i]? = some (Jv C D)) (hj : L[j]? = some empC) (k : At cx K e ((L.set i C).set j D)) (hne : i ≠ j := by decide) : At cx K e L := c_splitAt i j hL hj hne k
theorem cl {σ τ : Type} {sv : σ → τ → List (Nat × Value)} {hp : σ → τ → List Chunk} {I : σ → τ → Nat → Prop} {m : Nat} (s : σ) (t : τ) (k : Nat) (sel : List Nat) (hI : I s t k)
  (hst : Jgf e (sv s t) := by (repeat (first | exact trivial | refine ⟨rfl, ?_⟩))) (hnd : sel.Nodup := by decide) (hL : sel.map (fun i => L[i]?) = (hp s t).map some := by kernel_rfl) (hm : k < m := by exact Nat.lt_succ_self _) :
  At cx (RoundA cx sv hp I m) e L := Jhp s t k sel hst hnd hL hI hm
theorem ci {α : Type} {x y r : Option α} {c : Operand} {p q : Code} (b : Bool) (hc : ev e c = .bool b) (ht : b = true → x = r → At cx (WC P n p Q) e L) (hf : b = false → y = r → At cx (WC P n q Q) e L) (H : Qv b x y = r) :
  At cx (WC P n (.cond c p q) Q) e L := Jcx hc (fun h => ht h (Jbm h H)) (fun h => hf h (Jbr h H))
theorem sp {α : Type} {x y r : Option α} {K : Xs → World → Prop} {b : Bool} (ht : b = true → x = r → At cx K (upd e d (.bool true)) L) (hf : b = false → y = r → At cx K (upd e d (.bool false)) L) (H : Qv b x y = r) :
  At cx K (upd e d (.bool b)) L := split (fun h => ht h (Jbm h H)) (fun h => hf h (Jbr h H))
end
section
variable {P : Program} {cx : Cx} {e : Xs} {L : List Chunk} {ops : Array Oper} {F : Xs → List Chunk → Prop} {rest : List Oper} {ss : List Kd} {d : Nat} {ty : TypeId} {pos : String} {af : Array Edge} {g : Option (Nat × Bool)}
theorem dv {o : Op} {v : Value} (hr : ∀ w, (execOp (ev e) ⟨some d, o, ty, pos, af, g⟩).run P w = .ok (.value v) w) (k : Sq P cx ops F rest ss (upd e d v) L) (hw : X1 ops ⟨some d, o, ty, pos, af, g⟩ e = true := by exact rfl) :
  Sq P cx ops F (⟨some d, o, ty, pos, af, g⟩ :: rest) (.p :: ss) e L := Qr hw rfl hr k
theorem dl {i : Nat} {T T0 b o : Nat} {A : Operand} {cs : List Value} (v : Value) (hA : ∀ w, (isAgg T).run P w = .ok false w) (k : Sq P cx ops F rest ss (upd e d v) L)
  (hw : X1 ops ⟨some d, .load T A, ty, pos, af, g⟩ e = true := by exact rfl) (hp : ev e A = .pointer (some ⟨b, o, none⟩) := by exact rfl) (hL : L[i]? = some (Jf b cs T0) := by exact rfl) (hv : rg cs o = some v := by exact rfl) :
  Sq P cx ops F (⟨some d, .load T A, ty, pos, af, g⟩ :: rest) (.d [i] v :: ss) e L := d_load1 hA hw hp hL hv k
end
section
variable {P : Program} {cx : Cx} {e : Xs} {L : List Chunk}
theorem r1 {fn : Func} {t : Tmp} {v : Value} {w0 : World} (V : Value) (hr : fn.results = #[.tmp t] := by exact rfl) (ht : e t = V := by exact rfl) (h : V = v := by exact rfl) :
  At ⟨w0, fun _ => False⟩ (Jei P fn (fun v' w' => v' = v ∧ Grow w0 w') .ret) e L := Jbw hr ht (fin h)
end
abbrev pz (b : Nat) : Value := .pointer (some ⟨b, 0, none⟩)
abbrev z0s : Value := .slice none 0 0
abbrev AN : Type := Option Addr × Nat
abbrev _root_.List.l {α : Type} (x : List α) : Nat := x.length
end Go.Lx

namespace Go.Lx
open Go Go.Vc Go.Md
section
variable {P : Program} {n : Nat} {cx : Cx} {Q : Jae} {e : Xs} {L : List Chunk} {ops : Array Oper} {rest : List Oper} {d : Nat} {ty : TypeId} {pos : String} {af : Array Edge} {g : Option (Nat × Bool)}
theorem makes_appR {xs news : List (List Value)} {S X : Operand} {t E : TypeId} {I : TypeInfo} {z : Value} {sz by_ m q c cap : Nat} {a : Option Addr} {ad : Addr} {rds : List Nat}
  (ht : P.underlying t = some (.slice E)) (hi : P.info? E = some I) (hz : I.zero = some z) (hsize : I.size = sz) (hby : I.bytes = by_) (hzs : z.cells.size = sz) (hsz : Nat.blt 0 sz = true)
  (hs : ev e S = .slice a m cap) (hx : ev e X = .slice (some ad) q c) (hm : xs.length = m) (hxl : ∀ x ∈ xs, x.length = sz)
  (hxr : ∀ w L', Fr cx w → Sat cx w L' → (∀ j, j ∈ rds → L'[j]? = L[j]?) → Row w a sz xs) (hnone : a = none → cap = 0) (hq : news.length = q) (hnl : ∀ x ∈ news, x.length = sz)
  (hnews : ∀ w L', Fr cx w → Sat cx w L' → (∀ j, j ∈ rds → L'[j]? = L[j]?) → Row w (some ad) sz news) (h1 : ∀ x ∈ news, ∀ u ∈ x, u.oneCell' = true)
  (hg : cap < m + q) (h63 : m + q ≤ maxLen) (hbytes : (m + q) * by_ ≤ 140737488355328) :
  Jd7 P cx e ⟨some d, .call ⟨.builtin .append, #[S, X], #[t, t]⟩, ty, pos, af, g⟩ L rds (fun p' : Option Addr × Nat => .slice p'.1 (m + q) p'.2) (fun p' => J3 E sz (.slice p'.1 (m + q) p'.2) (m + q) (xs ++ news)) := by
 subst hsize
 intro w L' hF hS hi'
 have hsz' : 0 < I.size := by simpa using hsz
 have hfl : news.flatten.length = q * I.size := by rw [Yc news hnl, hq]
 have hfx : xs.flatten.length = m * I.size := by rw [Yc xs hxl, hm]
 have hle : (xs ++ news).length = m + q := by simp [hm, hq]
 have hall : ∀ x ∈ xs ++ news, x.length = I.size := fun x hx => by
  rcases List.mem_append.1 hx with h | h
  ·exact hxl x h
  ·exact hnl x h
 have hflat : (xs ++ news).flatten = xs.flatten ++ news.flatten := List.flatten_append
 have cell : ∀ (zs : List (List Value)) (b : Addr), (∀ x ∈ zs, x.length = I.size) → Row w (some b) I.size zs → ∀ j u, zs.flatten[j]? = some u → w.cell? (b.add j) = some u := by
  intro zs b hl hr j u hj
  obtain ⟨i', k', x, g1, g2, g3⟩ := Jag zs hl j u hj
  rcases hr with h | ⟨b', off, ha, h⟩
  ·subst h; simp at g1
  ·cases ha
   have := (h i' x g1).2 k' u g2
   rw [Addr.add_lit, g3, ← Nat.add_assoc]
   exact this
 have hcell := cell news ad hnl (hnews w L' hF hS hi')
 have hone : ∀ u ∈ news.flatten, u.oneCell' = true := fun u hu => by
  obtain ⟨x, hx, hux⟩ := List.mem_flatten.1 hu
  exact h1 x hx u hux
 have fin : ∀ v' w', (execOp (ev e) ⟨some d, .call ⟨.builtin .append, #[S, X], #[t, t]⟩, ty, pos, af, g⟩).run P w = .ok (.value v') w' → w'.ownsRow 0 E I.size v' (m + q) (xs.flatten ++ news.flatten) → (∀ b', v'.ownBlock = some b' → w.heap.size ≤ b') →
   (w'.os = w.os ∧ w'.tape = w.tape ∧ w'.output = w.output ∧ w.heap.size ≤ w'.heap.size ∧ ∀ b', b' < w.heap.size → w'.heap[b']? = w.heap[b']?) →
   RunsTo P (ev e) ⟨some d, .call ⟨.builtin .append, #[S, X], #[t, t]⟩, ty, pos, af, g⟩ w fun v w' => ∃ x : Option Addr × Nat, v = .slice x.1 (m + q) x.2 ∧ Turn w w' Z2 (J3 E I.size (.slice x.1 (m + q) x.2) (m + q) (xs ++ news)) := by
  intro v' w' hr h2 hb ⟨k1, k2, k3, k4, k5⟩
  obtain ⟨p', rfl⟩ := U2 h2
  rw [← hflat] at h2
  unfold RunsTo
  rw [hr]
  exact ⟨p', rfl, ⟨k1, k2, k3, k4, fun b' hb' _ => k5 b' hb', fun b' => (Value.slice p'.1 (m + q) p'.2).ownBlock = some b', ⟨⟨h2, hle, hall⟩, fun _ h => h⟩, fun b' hb' => ⟨(h2.lt b' hb').2, .inr (hb b' hb')⟩⟩⟩
 cases a with
 | none =>
  have hc0 := hnone rfl
  subst hc0
  have hx0 : xs = [] := by
   rcases hxr w L' hF hS hi' with h | ⟨_, _, ha, _⟩
   ·exact h
   ·cases ha
  subst hx0
  have hm0 : m = 0 := hm.symm
  subst hm0
  obtain ⟨v', w', hr, h2, h3, h5⟩ := Jcw (P := P) (ty := ty) (pos := pos) (af := af) (g := g) (d := some d) (v := .slice none 0 0) (m := 0) (xs := []) ht hi hz rfl hby hzs hsz' hs ⟨by simp, .inl ⟨rfl, rfl⟩⟩ hx hfl hcell hone h63 hbytes
  refine fin v' w' hr h2 (fun b' hb' => ?_) ⟨h3.os, h3.tape, h3.output, h3.size, fun b' hb' => h3.block b' hb' (by simp [Value.ownBlock])⟩
  rcases h5 with h | h
  ·rw [h] at hb'; cases hb'
  ·rw [h] at hb'; cases hb'; exact Nat.le_refl _
 | some a0 =>
  obtain ⟨v', w', hr, h2, h3⟩ := run_append_arg_grows (P := P) w t ty E I z I.size by_ ht hi hz rfl hby hzs hsz' a0 m cap xs.flatten hfx (cell xs a0 hxl (hxr w L' hF hS hi')) ad q c news.flatten hfl hcell hg h63 hbytes
  refine fin v' w' ?_ (own0 h2) (fun b' hb' => (h2.lt b' hb').1) ⟨h3.os, h3.tape, h3.output, h3.size, fun b' hb' => h3.block b' hb' (by simp)⟩
  simp only [execOp, resolve, invoke, builtin, Sem.run_bind, Sem.run_pure, Result.andThen_ok, List.map_toArray, List.map_cons, List.map_nil, hs, hx, hr]
end
def clipV (sz : Nat) : Value → Value
 | .slice a n _ => .slice (Xg a 0 n sz) n n
 | v => v
theorem cut_self {h : Jt} {a : Option Addr} {sz n : Nat} {xs : List (List Value)} (hr : RowH h a sz xs) : RowH h (Xg a 0 n sz) sz xs ∧ (Xg a 0 n sz = none → a = none) := by
 unfold Xg
 by_cases hn : n = 0
 ·rw [if_pos hn]; exact ⟨hr, id⟩
 ·rw [if_neg hn]
  rcases hr with h0 | ⟨b, off, cs, T, m, rfl, h1, h2⟩
  ·exact ⟨.inl h0, fun e => by cases a with | none => rfl | some _ => cases e⟩
  ·exact ⟨.inr ⟨b, off, cs, T, m, by simp [Addr.add_lit], h1, h2⟩, fun e => by cases e⟩
theorem FrS.clip {h : Jt} {sz : Nat} {v : Value} {xs : List (List Value)} (s : FrS h sz v xs) : FrS h sz (clipV sz v) xs := by
 obtain ⟨a, c, rfl, h1, h2, h3⟩ := s.out
 exact ⟨_, _, rfl, Nat.le_refl _, by omega, (cut_self h3).1⟩
theorem FrS.clipFull {h : Jt} {sz : Nat} {v : Value} {xs : List (List Value)} (s : FrS h sz v xs) : ∃ a, clipV sz v = .slice a xs.length xs.length ∧ (a = none → xs.length = 0) := by
 obtain ⟨a, c, rfl, h1, h2, h3⟩ := s.out
 refine ⟨_, rfl, fun e => ?_⟩
 have := (cut_self (n := xs.length) h3).2 e
 subst this
 rcases h3 with h0 | ⟨_, _, _, _, _, e, _⟩
 ·rw [h0]; rfl
 ·cases e
section
variable {P : Program} {cx : Cx} {e : Xs} {L : List Chunk} {d : Nat} {ty : TypeId} {pos : String} {af : Array Edge} {g : Option (Nat × Bool)}
theorem Jfq {α : Type} {f : α → List Value} {H : Jt} {ys ls zs : List α} {S X : Operand} {t E : TypeId} {I : TypeInfo} {z : Value} {sz by_ q c : Nat} {v V : Value} {ad : Addr} {rds : List Nat}
  (ht : P.underlying t = some (.slice E)) (hi : P.info? E = some I) (hz : I.zero = some z) (hsize : I.size = sz) (hby : I.bytes = by_) (hzs : z.cells.size = sz) (hsz : Nat.blt 0 sz = true)
  (hs : ev e S = clipV sz v) (F : FrS H sz v (ys.map f)) (hH : ∀ w, Fr cx w → ∀ b o, H b = some o → w.heap[b]? = some o) (hx : ev e X = V) (hV : V = .slice (some ad) q c) (hq : q = ls.length) (hq0 : 0 < ls.length)
  (hnews : ∀ w L', Fr cx w → Sat cx w L' → (∀ j, j ∈ rds → L'[j]? = L[j]?) → Row w (some ad) sz (ls.map f)) (hf : ∀ x, (f x).length = sz) (h1 : ∀ x, (f x).all Value.oneCell' = true) (hg : Xd by_ ys ls = some zs) :
  Jd7 P cx e ⟨some d, .call ⟨.builtin .append, #[S, X], #[t, t]⟩, ty, pos, af, g⟩ L rds (fun p' : Option Addr × Nat => .slice p'.1 zs.length p'.2) (fun p' => J3 E sz (.slice p'.1 zs.length p'.2) zs.length (zs.map f)) := by
 subst hq
 obtain ⟨rfl, hb1, hb2⟩ := Ul hg
 obtain ⟨a, ha, hn⟩ := F.clipFull
 have hl : (ys.map f).length = ys.length := List.length_map ..
 rw [hl] at ha hn
 rw [List.length_append, List.map_append]
 have hall : ∀ (l : List α), ∀ x ∈ l.map f, x.length = sz := fun l x hx => by
  obtain ⟨y, _, rfl⟩ := List.mem_map.1 hx; exact hf y
 have hrow : ∀ w, Fr cx w → Row w a sz (ys.map f) := fun w hF => by
  have := (F.clip).row (w := w) (hH w hF)
  rwa [ha] at this
 exact makes_appR (a := a) (cap := ys.length) ht hi hz hsize hby hzs hsz (hs.trans ha) (hx.trans hV) hl (hall ys) (fun w L' hF _ _ => hrow w hF) hn (by rw [List.length_map]) (hall ls) hnews (fun x hx u hu => by
  obtain ⟨y, _, rfl⟩ := List.mem_map.1 hx; exact List.all_eq_true.1 (h1 y) u hu) (by omega) (by simp only [maxLen]; omega) hb2
end
section
variable {P : Program} {cx : Cx} {e : Xs} {L : List Chunk} {ops : Array Oper} {F : Xs → List Chunk → Prop} {rest : List Oper} {ss : List Kd} {d : Nat} {ty : TypeId} {pos : String} {af : Array Edge} {g : Option (Nat × Bool)}
theorem d_callDV {f : FuncId} {A : Array Operand} {tys : Array TypeId} {args : List Value} {v : Value} {φ : Value → Value} {a : Nat} {rds : List Nat} (hv : φ (e a) = v)
  (h : ∀ w L', Fr cx w → Sat cx w L' → (∀ i ∈ rds, L'[i]? = L[i]?) → Does P f args.toArray w fun v' w' => v' = v ∧ Grow w w') (hc : ∀ args w, (callFunc f args).run P w = .ok (.enter f args) w)
  (hw : X1 ops ⟨some d, .call ⟨.value (.func f), A, tys⟩, ty, pos, af, g⟩ e = true) (ha : A.toList.map (ev e) = args)
  (k : Sq P cx ops F rest ss (upd e d v) L) : Sq P cx ops F (⟨some d, .call ⟨.value (.func f), A, tys⟩, ty, pos, af, g⟩ :: rest) (.dv a rds φ :: ss) e L := by
 subst hv
 refine .take hw ⟨_, rfl⟩ ⟨fun w L' hF hS _ hi => ?_⟩ fun v' hv' => ?_
 ·have h2 := h w L' hF hS fun i hm => hi i (.inl hm)
  unfold RunsTo
  rw [Jbo hc ha]
  exact h2.mono fun v' w' ⟨h1, h3⟩ => ⟨h1, hF.grow h3, hS.grow h3⟩
 ·have : v' = φ (e a) := hv'
  subst this
  exact k
end
section
variable {P : Program} {cx : Cx} {e : Xs} {L : List Chunk} {d : Nat} {ty : TypeId} {pos : String} {af : Array Edge} {g : Option (Nat × Bool)}
end
section
variable {α : Type} {G : Jt → (Nat → Value) → α → Prop} {h : Jt} {sz : Nat} {css : List (List Value)} {xs : List α}
end
end Go.Lx

namespace Go.Lx
open Go Go.Vc Go.Md
section
variable {P : Program} {cx : Cx} {e : Xs} {L : List Chunk} {ops : Array Oper} {F : Xs → List Chunk → Prop} {rest : List Oper} {ss : List Kd}
variable {d : Nat} {ty : TypeId} {pos : String} {af : Array Edge} {g : Option (Nat × Bool)}
end
section
variable {α : Type} {G : Jt → (Nat → Value) → α → Prop} {h : Jt} {sz : Nat} {v : Value} {xs : List α}
theorem elC_getD (h : Jt) (v : Value) (sz i : Nat) : (fun j => (elC h v sz i).getD j undef) = Xj h v sz i := by
 funext j
 rw [List.getD_eq_getElem?_getD]
 unfold elC
 by_cases hj : j < sz
 ·simp [List.getElem?_range hj]
 ·rw [List.getElem?_eq_none (by simp; omega)]
  simp [Xj, hj]
theorem FrN.allC (f : FrN h sz v G xs) : AllC G h sz ((List.range xs.length).map (elC h v sz)) xs := by
 refine ⟨by simp, fun i cs x hc hxi => ?_⟩
 have hi : i < xs.length := (List.getElem?_eq_some_iff.1 hxi).1
 rw [List.getElem?_map, List.getElem?_range hi] at hc
 cases hc
 refine ⟨by simp [elC], ?_⟩
 rw [elC_getD]
 exact f.el i x hxi
theorem AllC.oneN {css : List (List Value)} (hG : ∀ {c : Nat → Value} {x : α}, G h c x → ∀ j, j < sz → (c j).oneCell' = true) (p : AllC G h sz css xs) : ∀ x ∈ css, (idC x).all Value.oneCell' = true := by
 intro x hx
 obtain ⟨i, hi, rfl⟩ := List.getElem_of_mem hx
 have hi2 : i < xs.length := p.len ▸ hi
 obtain ⟨h1, h2⟩ := p.el i css[i] xs[i] (List.getElem?_eq_getElem hi) (List.getElem?_eq_getElem hi2)
 show css[i].all Value.oneCell' = true
 refine List.all_eq_true.2 fun u hu => ?_
 obtain ⟨j, hj, rfl⟩ := List.getElem_of_mem hu
 have h3 := hG h2 j (h1 ▸ hj)
 rwa [List.getD_eq_getElem?_getD, List.getElem?_eq_getElem hj, Option.getD_some] at h3
end
end Go.Lx

namespace Go.Lx
open Go Go.Vc Go.Md
section
variable {P : Program} {cx : Cx} {e : Xs} {L : List Chunk}
end
end Go.Lx

namespace Go.Lx
open Go Go.Vc Go.Md
def Jbl (base : Jt) (Φ : Jt → Prop) : Chunk where
 P S w := ∃ hp, Φ hp ∧ (Q3 base hp).P S w
 loc S w w' h := fun ⟨hp, h1, h2⟩ => ⟨hp, h1, Chunk.loc _ _ _ _ h h2⟩
theorem Jiw {base hp : Jt} {Φ : Jt → Prop} (h : Φ hp) : Imp (Q3 base hp) (Jbl base Φ) := ⟨fun _ _ k => ⟨hp, h, k⟩⟩
noncomputable def Je8 (w : World) (S : Nat → Prop) : Jt := open Classical in fun b => if S b then w.heap[b]? else none
theorem restr_some {w : World} {S : Nat → Prop} {b : Nat} {o : Obj} : Je8 w S b = some o ↔ S b ∧ w.heap[b]? = some o := by
 classical
 unfold Je8
 split
 ·rename_i h; exact ⟨fun k => ⟨h, k⟩, fun k => k.2⟩
 ·rename_i h; exact ⟨fun k => (by cases k), fun k => absurd k.1 h⟩
theorem Jfh (w : World) (S : Nat → Prop) : (Q3 Xo (Je8 w S)).P S w := ⟨Xb, fun b o h => .inr (restr_some.1 h)⟩
def RowP (h : Jt) (E sz : Nat) (v : Value) (css : List (List Value)) : Prop :=
 (∀ x ∈ css, x.length = sz) ∧ ((v = .slice none 0 0 ∧ css = []) ∨
  ∃ g cap cur, v = .slice (some ⟨g, 0, none⟩) css.length cap ∧ h g = some (.cells cur E (0, 0)) ∧ css.length ≤ cap ∧ cap ≤ maxLen ∧ cur.size = cap * sz ∧ cur.toList.take (css.length * sz) = css.flatten)
theorem RowP.mono {h h' : Jt} {E sz : Nat} {v : Value} {css : List (List Value)} (r : RowP h E sz v css) (k : ∀ b, v.ownBlock = some b → ∀ o, h b = some o → h' b = some o) : RowP h' E sz v css := by
 refine ⟨r.1, r.2.imp id ?_⟩
 rintro ⟨g, cap, cur, rfl, hb, rest⟩
 exact ⟨g, cap, cur, rfl, k g rfl _ hb, rest⟩
theorem RowP.of {w : World} {S : Nat → Prop} {E sz n : Nat} {v : Value} {css : List (List Value)} (h : (J3 E sz v n css).P S w) : RowP (Je8 w S) E sz v css ∧ n = css.length ∧ ∀ b, v.ownBlock = some b → S b := by
 obtain ⟨⟨⟨h1, h2⟩, h3, h5⟩, h4⟩ := h
 subst h3
 refine ⟨⟨h5, ?_⟩, rfl, h4⟩
 rcases h2 with ⟨rfl, h0⟩ | ⟨g, cap, cur, rfl, _, hh, q1, q2, q3, q4⟩
 ·exact .inl ⟨rfl, List.length_eq_zero_iff.1 h0⟩
 ·exact .inr ⟨g, cap, cur, rfl, restr_some.2 ⟨h4 g rfl, hh⟩, q1, q2, q3, q4⟩
theorem RowP.row {h : Jt} {E sz : Nat} {v : Value} {css : List (List Value)} (r : RowP h E sz v css) {w : World} {S : Nat → Prop} (hw : ∀ b, v.ownBlock = some b → S b ∧ ∀ o, h b = some o → w.heap[b]? = some o) : (J3 E sz v css.length css).P S w := by
 have hfl : css.flatten.length = css.length * sz := by
  have := r.1
  clear r hw
  induction css with
  | nil => simp
  | cons x l ih =>
   rw [List.flatten_cons, List.length_append, ih (fun y hy => this y (.tail _ hy)), this x (.head _), List.length_cons, Nat.add_mul]; omega
 refine ⟨⟨⟨hfl, ?_⟩, rfl, r.1⟩, fun b hb => (hw b hb).1⟩
 rcases r.2 with ⟨rfl, h0⟩ | ⟨g, cap, cur, rfl, hb, q1, q2, q3, q4⟩
 ·exact .inl ⟨rfl, by rw [h0]; rfl⟩
 ·exact .inr ⟨g, cap, cur, rfl, Nat.zero_le _, (hw g rfl).2 _ hb, q1, q2, q3, q4⟩
theorem RowP.frs {h : Jt} {E sz : Nat} {v : Value} {css : List (List Value)} (r : RowP h E sz v css) : FrS h sz v css := by
 rcases r.2 with ⟨rfl, rfl⟩ | ⟨g, cap, cur, rfl, hb, q1, q2, q3, q4⟩
 ·exact ⟨none, 0, rfl, Nat.le_refl _, by decide, .inl rfl⟩
 ·refine ⟨some ⟨g, 0, none⟩, cap, rfl, q1, by simpa [maxLen] using q2, .inr ⟨g, 0, cur, E, (0, 0), rfl, hb, fun i x hx => ⟨r.1 x (List.mem_of_getElem? hx), fun j v hv => ?_⟩⟩⟩
  have hr := Jak css i x (List.all_eq_true.2 fun x hx => by simpa using r.1 x hx) hx j v hv
  rw [← q4, List.getElem?_take] at hr
  split at hr
  ·rw [Array.getElem?_toList] at hr
   rw [← hr, Nat.zero_add]
  ·cases hr
def rmV (h : Jt) (v : Value) : Jt := fun b => if v.ownBlock = some b then none else h b
def updH (h : Jt) (b : Nat) (o : Obj) : Jt := fun c => if c = b then some o else h c
theorem updH_self {h : Jt} {b : Nat} {o : Obj} : updH h b o b = some o := if_pos rfl
theorem updH_ne {h : Jt} {b c : Nat} {o : Obj} (k : c ≠ b) : updH h b o c = h c := if_neg k
section
variable {P : Program} {cx : Cx} {e : Xs} {L : List Chunk} {K : Xs → World → Prop} {ops : Array Oper} {rest : List Oper} {d : Nat} {ty : TypeId} {pos : String} {af : Array Edge} {g : Option (Nat × Bool)}
theorem Jd8 {base : Jt} {Φ : Jt → Prop} (i : Nat) (hi : L[i]? = some (Jbl base Φ)) (k : ∀ hp, Φ hp → At cx K e (L.set i (Q3 base hp))) : At cx K e L :=
 c_show (τ := Jt) (D := fun hp => Q3 base hp) (φ := Φ) i hi (fun S w h => h) k
theorem imp_thaw {hp : Jt} {E sz n : Nat} {v : Value} {css : List (List Value)} (r : RowP hp E sz v css) (hn : n = css.length) : Imp (Q3 Xo hp) (Jv (Q3 Xo (rmV hp v)) (J3 E sz v n css)) := ⟨fun S w ⟨h1, h2⟩ => by
 subst hn
 have own : ∀ b, v.ownBlock = some b → ∃ o, hp b = some o := by
  rcases r.2 with ⟨rfl, _⟩ | ⟨g, cap, cur, rfl, hb, _⟩
  ·intro b hb; cases hb
  ·intro b hb'; cases hb'; exact ⟨_, hb⟩
 have key : ∀ b o, hp b = some o → S b ∧ w.heap[b]? = some o := fun b o h => (h2 b o h).elim (fun h => by cases h) id
 refine ⟨fun b => S b ∧ v.ownBlock ≠ some b, fun b => v.ownBlock = some b, ⟨Xb, fun b o h => ?_⟩, r.row fun b hb => ⟨hb, fun o ho => (key b o ho).2⟩, fun b h => h.1, fun b h => ?_, fun b h h' => h.2 h'⟩
 ·have h : (if v.ownBlock = some b then none else hp b) = some o := h
  split at h
  ·cases h
  ·rename_i hb; exact .inr ⟨⟨(key b o h).1, hb⟩, (key b o h).2⟩
 ·obtain ⟨o, ho⟩ := own b h
  exact (key b o ho).1⟩
theorem turns_storeP {q T szT b o T0 : Nat} {A X : Operand} {x : Value} {cs cs' vs : List Value} {hp : Jt} (hs : ∀ w, (sizeOf T).run P w = .ok szT w) (ha : ev e A = .pointer (some ⟨b, o, none⟩)) (hx : ev e X = x) (hc : x.cells.toList = vs) (hsz : vs.length = szT)
  (hpos : Nat.blt 0 szT = true) (hone : vs.all Value.oneCell' = true) (hv : wr cs o vs = some cs') (hL : L[q]? = some (Q3 Xo hp)) (hb : hp b = some (.cells cs.toArray T0 (0, 0))) :
  Turns P cx e ⟨none, .store T A X, ty, pos, af, g⟩ L q [] (fun _ : Unit => undef) (fun _ => Q3 Xo (updH hp b (.cells cs'.toArray T0 (0, 0)))) := by
 intro w L' hF hS hl hi
 have hL' := (hi q (.inr rfl)).trans hL
 have hrun : ∀ (S1 : Nat → Prop), (Q3 Xo hp).P S1 w → (∀ b, S1 b → b < w.heap.size) → ∃ w', (execOp (ev e) ⟨none, .store T A X, ty, pos, af, g⟩).run P w = .ok .skip w' ∧ Turn w w' S1 (Q3 Xo (updH hp b (.cells cs'.toArray T0 (0, 0)))) := fun S1 h hlt => by
  have key : ∀ b o, hp b = some o → S1 b ∧ w.heap[b]? = some o := fun b o k => (h.2 b o k).elim (fun k => by cases k) id
  obtain ⟨hSb, hb'⟩ := key b _ hb
  refine ⟨_, Go.Vc.run_store hs ha hx hc hsz hpos hone hv hb', ?_⟩
  have hset := setRow_heap w b cs.toArray cs'.toArray T0 (0, 0) hb'
  refine ⟨rfl, rfl, rfl, by simp, fun d hd hn => setRow_other w b d _ (fun e => hn (e ▸ hSb)), S1, ⟨Xb, fun c o hc => ?_⟩, fun d hd => ⟨by simpa using hlt d hd, .inl hd⟩⟩
  have hc : (if c = b then some (.cells cs'.toArray T0 (0, 0)) else hp c) = some o := hc
  split at hc
  ·rename_i e
   have hc := Option.some.inj hc
   rw [← hc, e]; exact .inr ⟨hSb, hset⟩
  ·rename_i hne
   obtain ⟨k1, k2⟩ := key c o hc
   exact .inr ⟨k1, (setRow_other w b c _ hne).trans k2⟩
 obtain ⟨S0, hC, hlt⟩ := hS.at hL'
 obtain ⟨w', hr, ht⟩ := hrun S0 hC (fun b hb => (hlt b hb).1)
 have hF' := hF.turn ht fun b hs => (hlt b hs).2
 have hS' := hS.turnAt hF hL' (w' := w') (C := Q3 Xo (updH hp b (.cells cs'.toArray T0 (0, 0)))) (fun S1 hp1 hlt1 => by
  obtain ⟨w1, hr1, ht1⟩ := hrun S1 hp1 fun b hb => (hlt1 b hb).1
  rw [hr] at hr1
  cases hr1
  exact ht1) ht.size
 unfold RunsTo
 rw [hr]
 exact ⟨(), rfl, hF', hS'⟩
end
def ownC (Φ : Jt → List Nat → Prop) : Chunk := Jbl Xo fun hp => ∃ bs, Φ hp bs ∧ bs.Nodup ∧ ∀ b ∈ bs, ∃ o, hp b = some o
theorem Jc9 {Φ Ψ Χ : Jt → List Nat → Prop} (m1 : ∀ h h' bs, (∀ b o, h b = some o → h' b = some o) → Φ h bs → Φ h' bs) (m2 : ∀ h h' bs, (∀ b o, h b = some o → h' b = some o) → Ψ h bs → Ψ h' bs)
  (k : ∀ h b1 b2, Φ h b1 → Ψ h b2 → Χ h (b1 ++ b2)) : Imp (Jv (ownC Φ) (ownC Ψ)) (ownC Χ) := ⟨fun S w => by
 rintro ⟨S1, S2, ⟨h1, ⟨b1, f1, n1, d1⟩, p1⟩, ⟨h2, ⟨b2, f2, n2, d2⟩, p2⟩, s1, s2, sd⟩
 have q1 : ∀ b o, h1 b = some o → S1 b ∧ w.heap[b]? = some o := fun b o h => (p1.2 b o h).elim (fun h => by cases h) id
 have q2 : ∀ b o, h2 b = some o → S2 b ∧ w.heap[b]? = some o := fun b o h => (p2.2 b o h).elim (fun h => by cases h) id
 have l1 : ∀ b o, h1 b = some o → Je8 w S b = some o := fun b o h => restr_some.2 ⟨s1 b (q1 b o h).1, (q1 b o h).2⟩
 have l2 : ∀ b o, h2 b = some o → Je8 w S b = some o := fun b o h => restr_some.2 ⟨s2 b (q2 b o h).1, (q2 b o h).2⟩
 refine ⟨Je8 w S, ⟨b1 ++ b2, k _ _ _ (m1 _ _ _ l1 f1) (m2 _ _ _ l2 f2), List.nodup_append.2 ⟨n1, n2, fun a ha b hb e => ?_⟩, fun b hb => ?_⟩, Jfh w S⟩
 ·subst e
  obtain ⟨o1, g1⟩ := d1 a ha
  obtain ⟨o2, g2⟩ := d2 a hb
  exact sd a (q1 a o1 g1).1 (q2 a o2 g2).1
 ·rcases List.mem_append.1 hb with h | h
  ·obtain ⟨o, g⟩ := d1 b h; exact ⟨o, l1 b o g⟩
  ·obtain ⟨o, g⟩ := d2 b h; exact ⟨o, l2 b o g⟩⟩
theorem Jex {C C' D D' : Chunk} (h1 : Imp C C') (h2 : Imp D D') : Imp (Jv C D) (Jv C' D') :=
 ⟨fun _ _ ⟨S1, S2, a, b, c⟩ => ⟨S1, S2, h1.out _ _ a, h2.out _ _ b, c⟩⟩
theorem Jb3 {C D F : Chunk} (h1 : Imp C D) (h2 : Imp D F) : Imp C F := ⟨fun _ _ k => h2.out _ _ (h1.out _ _ k)⟩
theorem own_nodup {v : Value} : v.ownBlock.toList.Nodup := by cases v.ownBlock <;> simp
theorem Jil {E sz n : Nat} {v : Value} {css : List (List Value)} : Imp (J3 E sz v n css) (ownC fun h bs => RowP h E sz v css ∧ n = css.length ∧ bs = v.ownBlock.toList) := ⟨fun S w k => by
 obtain ⟨r, hn, hb⟩ := RowP.of k
 refine ⟨Je8 w S, ⟨_, ⟨r, hn, rfl⟩, own_nodup, fun b h => ?_⟩, Jfh w S⟩
 rcases r.2 with ⟨rfl, _⟩ | ⟨g, cap, cur, rfl, hg, _⟩
 ·cases h
 ·simp [Value.ownBlock] at h; subst h; exact ⟨_, hg⟩⟩
def roB (v : Value) (n : Nat) : List Nat := if n = 0 then [] else v.ownBlock.toList
theorem imp_roOwn {sz n : Nat} {v : Value} {xs : List (List Value)} : Imp (roV sz v n xs) (ownC fun h bs => FrS h sz v xs ∧ bs = roB v xs.length) := ⟨fun S w ⟨hn, f, hb⟩ => by
 have f' : FrS (Je8 w S) sz v xs := f.sub hb fun b o hs h => restr_some.2 ⟨hs, h⟩
 refine ⟨Je8 w S, ⟨_, ⟨f', rfl⟩, ?_, fun b h => ?_⟩, Jfh w S⟩
 ·unfold roB; split
  ·exact List.nodup_nil
  ·exact own_nodup
 ·unfold roB at h
  split at h
  ·cases h
  ·rename_i hne
   obtain ⟨a, c, rfl, _, _, r⟩ := f'.out
   rcases r with r | ⟨g, off, cs, T, m, rfl, hg, _⟩
   ·rw [r] at hne; simp at hne
   ·simp [Value.ownBlock] at h; subst h; exact ⟨_, hg⟩⟩
theorem Jdr {Φ : Jt → List Nat → Prop} (h : Φ Xo []) : Imp empC (ownC Φ) := ⟨fun S w k => ⟨Xo, ⟨[], h, List.nodup_nil, fun b hb => by cases hb⟩, Xb, fun b o hb => by cases hb⟩⟩
theorem FrS.agree {h h' : Jt} {sz : Nat} {v : Value} {xs : List (List Value)} (f : FrS h sz v xs) (k : ∀ b ∈ roB v xs.length, ∀ o, h b = some o → h' b = some o) : FrS h' sz v xs := by
 obtain ⟨a, c, rfl, h1, h2, r⟩ := f.out
 refine ⟨a, c, rfl, h1, h2, ?_⟩
 rcases r with r | ⟨b, off, cs, T, m, rfl, hb, r⟩
 ·exact .inl r
 ·by_cases h0 : xs.length = 0
  ·exact .inl (List.length_eq_zero_iff.1 h0)
  ·exact .inr ⟨b, off, cs, T, m, rfl, k b (by unfold roB; rw [if_neg h0]; simp [Value.ownBlock]) _ hb, r⟩
end Go.Lx
namespace Go.Lx
open Go Go.Vc Go.Md
def cntB (n : Nat) (next : Nat → Option Unit) (i : Nat) : Option Unit := if i < n then next (i + 1) else some ()
theorem cnt_fix (n : Nat) : Wq (cntB n) 0 = some () :=
 fix_of (F := cntB n) (fun _ => some ()) (fun _ => True) (fun i => n - i) (fun next i _ ih => by
  unfold cntB
  split
  ·exact ih (i + 1) trivial (by omega)
  ·rfl) 0 trivial
theorem Jh7 {n i m : Nat} (h : cntB n (it (cntB n) m) i = some ()) (hi : i < n) : it (cntB n) m (i + 1) = some () := by
 unfold cntB at h; rwa [if_pos hi] at h
end Go.Lx
namespace Go.Lx
theorem Jfo {α : Type} {xs : List α} {i : Nat} (h : i < xs.length) : xs.take (i + 1) = xs.take i ++ [xs[i]] := by
 rw [List.take_add_one, List.getElem?_eq_getElem h]; rfl
theorem take_setS {α : Type} {xs : List α} {i : Nat} {c : α} (h : i < xs.length) : (xs.set i c).take (i + 1) = xs.take i ++ [c] := by
 rw [Jfo (by simpa using h), List.getElem_set_self, List.take_set_of_le (Nat.le_refl _)]
end Go.Lx
namespace Go.Lx
open Go Go.Vc Go.Md
def KidsG {α : Type} (T : Jt → List Value → α → List Nat → Prop) (h : Jt) : List (List Value) → List α → List Nat → Prop
 | [], [], bs => bs = []
 | c :: css, x :: xs, bs => ∃ b1 b2, T h c x b1 ∧ KidsG T h css xs b2 ∧ bs = b1 ++ b2
 | _, _, _ => False
section
variable {α : Type} {T : Jt → List Value → α → List Nat → Prop} {h h' : Jt}
theorem KidsG.len : ∀ {css : List (List Value)} {xs : List α} {bs : List Nat}, KidsG T h css xs bs → css.length = xs.length
 | [], [], _, _ => rfl
 | _ :: _, _ :: _, _, ⟨_, _, _, k, _⟩ => by rw [List.length_cons, List.length_cons, k.len]
theorem KidsG.snoc {c : List Value} {x : α} {b : List Nat} (e : T h c x b) : ∀ {css : List (List Value)} {xs : List α} {bs : List Nat}, KidsG T h css xs bs → KidsG T h (css ++ [c]) (xs ++ [x]) (bs ++ b)
 | [], [], _, k => ⟨b, [], e, rfl, by rw [show _ = _ from k]; simp⟩
 | _ :: _, _ :: _, _, ⟨b1, b2, k1, k2, k3⟩ => ⟨b1, b2 ++ b, k1, k2.snoc e, by rw [k3, List.append_assoc]⟩
theorem KidsG.agree (hT : ∀ c x b, T h c x b → (∀ q ∈ b, ∀ o, h q = some o → h' q = some o) → T h' c x b) :
  ∀ {css : List (List Value)} {xs : List α} {bs : List Nat}, KidsG T h css xs bs → (∀ q ∈ bs, ∀ o, h q = some o → h' q = some o) → KidsG T h' css xs bs
 | [], [], _, k, _ => k
 | _ :: _, _ :: _, _, ⟨b1, b2, k1, k2, k3⟩, q => by
  subst k3
  exact ⟨b1, b2, hT _ _ _ k1 fun y hy => q y (List.mem_append_left _ hy), k2.agree hT fun y hy => q y (List.mem_append_right _ hy), rfl⟩
theorem KidsG.allC {G : Jt → (Nat → Value) → α → Prop} {sz : Nat} (hT : ∀ c x b, T h c x b → c.length = sz ∧ G h (fun j => c.getD j undef) x) : ∀ {css : List (List Value)} {xs : List α} {bs : List Nat}, KidsG T h css xs bs → AllC G h sz css xs
 | [], [], _, _ => AllC.nil
 | c :: css, x :: xs, _, ⟨b1, b2, k1, k2, _⟩ => by
  have hk := k2.allC hT
  refine ⟨by rw [List.length_cons, List.length_cons, hk.len], fun i c' x' hc hx => ?_⟩
  cases i with
  | zero => cases hc; cases hx; exact hT _ _ _ k1
  | succ i => exact hk.el i c' x' hc hx
theorem KidsG.map {T2 : Jt → List Value → α → List Nat → Prop} (hT : ∀ c x b, T h c x b → (∀ q ∈ b, ∀ o, h q = some o → h' q = some o) → T2 h' c x b) :
  ∀ {css : List (List Value)} {xs : List α} {bs : List Nat}, KidsG T h css xs bs → (∀ q ∈ bs, ∀ o, h q = some o → h' q = some o) → KidsG T2 h' css xs bs
 | [], [], _, k, _ => k
 | _ :: _, _ :: _, _, ⟨b1, b2, k1, k2, k3⟩, q => by
  subst k3
  exact ⟨b1, b2, hT _ _ _ k1 fun y hy => q y (List.mem_append_left _ hy), k2.map hT fun y hy => q y (List.mem_append_right _ hy), rfl⟩
theorem KidsG.at : ∀ {css : List (List Value)} {xs : List α} {bs : List Nat} (k : Nat) {c : List Value} {x : α}, KidsG T h css xs bs → css[k]? = some c → xs[k]? = some x → bs.Nodup →
  ∃ b, T h c x b ∧ (∀ q ∈ b, q ∈ bs) ∧ b.Nodup ∧ ∀ (T2 : Jt → List Value → α → List Nat → Prop) (h' : Jt) (c' : List Value) (x' : α), (∀ c x b, T h c x b → (∀ q ∈ b, ∀ o, h q = some o → h' q = some o) → T2 h' c x b) → (∀ q ∈ bs, q ∉ b → ∀ o, h q = some o → h' q = some o) → T2 h' c' x' b →
   KidsG T2 h' (css.set k c') (xs.set k x') bs
 | [], [], _, _, _, _, _, hc, _, _ => by cases hc
 | [], _ :: _, _, _, _, _, k, _, _, _ => k.elim
 | _ :: _, [], _, _, _, _, k, _, _, _ => k.elim
 | c0 :: css, x0 :: xs, bs, k, c, x, ⟨b1, b2, k1, k2, k3⟩, hc, hx, hn => by
  subst k3
  obtain ⟨n1, n2, n3⟩ := List.nodup_append.1 hn
  cases k with
  | zero =>
   cases hc; cases hx
   refine ⟨b1, k1, fun q hq => List.mem_append_left _ hq, n1, fun T2 h' c' x' hT ha t => ⟨b1, b2, t, k2.map (fun c x b t k => hT c x b t k) fun q hq => ha q (List.mem_append_right _ hq) fun hq1 => n3 q hq1 q hq rfl, rfl⟩⟩
  | succ k =>
   obtain ⟨b, t1, t2, t3, t4⟩ := KidsG.at k k2 hc hx n2
   refine ⟨b, t1, fun q hq => List.mem_append_right _ (t2 q hq), t3, fun T2 h' c' x' hT ha t => ?_⟩
   have g := t4 T2 h' c' x' hT (fun q hq hb => ha q (List.mem_append_right _ hq) hb) t
   exact ⟨b1, b2, hT _ _ _ k1 (fun q hq => ha q (List.mem_append_left _ hq) fun hb => n3 q hq q (t2 q hb) rfl), g, rfl⟩
end
end Go.Lx
namespace Go.Lx
open Go Go.Vc Go.Md
section
variable {P : Program} {cx : Cx} {e : Xs} {L : List Chunk} {ops : Array Oper} {F : Xs → List Chunk → Prop} {rest : List Oper} {ss : List Kd}
def _root_.Go.Vc.Kd.sp (a q i : Nat) (C : Value → Chunk) : Kd := .g [a, q] [i] [i] (fun _ _ v => v = undef) (fun vs _ _ => [C (vs.getD 1 undef)])
theorem d_storeP {o : Oper} {i a q : Nat} {C : Value → Chunk} (h : Turns P cx e o L i [] (fun _ : Unit => undef) (fun _ => C (e q))) (hw : X1 ops o e = true) (hd : o.dst = none) (k : Sq P cx ops F rest ss e (L.set i (C (e q)))) : Sq P cx ops F (o :: rest) (.sp a q i C :: ss) e L := by
 have hq : C (([a, q].map e).getD 1 undef) = C (e q) := rfl
 refine .take hw ⟨undef, rfl⟩ ⟨fun w L' hF hS hl hi => ?_⟩ fun v' hv' => ?_
 ·refine (h w L' hF hS hl fun j hj => hi j (by simpa [Kd.sp, Kd.rds, Kd.wrs] using hj)).mono fun v w' ⟨x, hv, hF', hS'⟩ => ?_
  subst hv
  exact ⟨rfl, hF', hS'⟩
 ·obtain rfl : v' = undef := hv'
  show Sq P cx ops F rest ss (Vq e o.dst undef) (L.set i (C (e q)))
  rw [hd]
  exact k
end
end Go.Lx
namespace Go.Lx
open Go Go.Vc Go.Md
theorem fz_offO {E sz n : Nat} {v : Value} {xs : List (List Value)} (hp : Jt) : ∀ S w (H : Jt), (Jav E sz v n (xs.map idC)).P S w → (∀ b o, S b → w.heap[b]? = some o → H b = some o) → (∀ b o, hp b = some o → H b = some o) → FrS H sz v (xs.map idC) :=
 fun S w H hP hH _ => (rowO_frs0 hP).sub hP.2 hH
section
variable {cx : Cx} {K : Xs → World → Prop} {e : Xs} {L : List Chunk} {base hp hp1 : Jt}
end
end Go.Lx

namespace Go.Lx
open Go Go.Vc Go.Md
section plain
variable {P : Program}
def offK (n : Nat) (k : Nat × Nat) : Prop := k.2 ≤ k.1 ∨ n ≤ k.1
theorem Jar (g o : Nat) (t : TypeId) (k : Nat × Nat) : ∀ (vs : List Value) (i : Nat) (cur : Array Value) (w : World), offK cur.size k → w.heap[g]? = some (.cells cur t k) → o + i + vs.length ≤ cur.size → (∀ v ∈ vs, v.oneCell' = true) →
  (storeCells ⟨g, o, none⟩ vs i).run P w = .ok () (w.setRow g (cur.toList.take (o + i) ++ vs ++ cur.toList.drop (o + i + vs.length)).toArray)
 | [], i, cur, w, _, hg, _, _ => by
  simp only [storeCells, List.append_nil, List.length_nil, Nat.add_zero, List.take_append_drop, Array.toArray_toList]
  rw [setRow_self w g cur t k hg]
  rfl
 | v :: rest, i, cur, w, hk, hg, hl, h1 => by
  have hi : o + i < cur.size := by simp at hl; omega
  have hadd : (⟨g, o, none⟩ : Addr).add i = ⟨g, o + i, none⟩ := by unfold Addr.add; split <;> simp_all
  have hcell : w.cell? ⟨g, o + i, none⟩ = some cur[o + i] := by simp [World.cell?, hg, hi]
  have hfro : w.frozen? ⟨g, o + i, none⟩ = false := by obtain ⟨k0, k1⟩ := k; unfold offK at hk; simp only at hk; simp [World.frozen?, hg]; omega
  have hst : (store ((⟨g, o, none⟩ : Addr).add i) v).run P w = .ok () (w.setRow g (cur.setIfInBounds (o + i) v)) := by
   rw [hadd, run_store P w _ v _ (h1 v (by simp)), hcell]
   simp [hfro, setCell_eq_setRow w g (o + i) cur t k v hg]
  have ih := Jar g o t k rest (i + 1) (cur.setIfInBounds (o + i) v) (w.setRow g (cur.setIfInBounds (o + i) v)) (by simpa using hk) (setRow_heap w g cur _ t _ hg) (by simp at hl ⊢; omega) (fun x hx => h1 x (by simp [hx]))
  simp only [storeCells, Sem.run_bind, hst, Result.andThen_ok, ih, setRow_setRow]
  congr 3
  have e := list_seg_step cur.toList (o + i) v rest (by simp at hl ⊢; omega)
  simpa [Array.toList_setIfInBounds, Nat.add_assoc] using e
theorem Jha (w : World) (t ty e : TypeId) (i : TypeInfo) (ht : P.underlying t = some (.slice e)) (hi : P.info? e = some i)
  (g sLen sCap : Nat) (cur : Array Value) (k : Nat × Nat) (hk : offK cur.size k) (hg : w.heap[g]? = some (.cells cur e k))
  (a : Addr) (m c : Nat) (news : List Value) (hl : news.length = m * i.size) (hnews : ∀ j u, news[j]? = some u → w.cell? (a.add j) = some u) (h1 : ∀ u ∈ news, u.oneCell' = true)
  (hroom : sLen + m ≤ sCap) (hfit : sLen * i.size + news.length ≤ cur.size) :
  (Builtin.append_ #[t, t] ty #[.slice (some ⟨g, 0, none⟩) sLen sCap, .slice (some a) m c]).run P w =
   .ok (.slice (some ⟨g, 0, none⟩) (sLen + m) sCap) (w.setRow g (cur.toList.take (sLen * i.size) ++ news ++ cur.toList.drop (sLen * i.size + news.length)).toArray) := by
 have hf := run_firstCells_some (P := P) w i.size m a m c news hl hnews
 have hst := Jar (P := P) g (sLen * i.size) e k news 0 cur w hk hg (by simpa using hfit) h1
 simp only [Nat.add_zero] at hst
 simp [Builtin.append_, run_underlying ht, sizeOf, typeInfo, hi, Builtin.lenOf, hroom, hf, Addr.add_lit, hst]
theorem Ji8 (w : World) (dT sT ty elem : TypeId) (g o dLen dCap : Nat) (a : Addr) (sLen sCap : Nat) (cur : Array Value) (t : TypeId) (k : Nat × Nat) (cs : List Value)
  (hu : P.underlying dT = some (.slice elem)) (hs : (P.info? elem).map (·.size) = some 1) (hk : offK cur.size k)
  (hg : w.heap[g]? = some (.cells cur t k)) (hn : cs.length = Nat.min sLen dLen)
  (hsrc : ∀ j v, cs[j]? = some v → w.cell? (a.add j) = some v) (hfit : o + cs.length ≤ cur.size) (h1 : ∀ v ∈ cs, v.oneCell' = true) :
  (Builtin.copy_ #[dT, sT] ty #[.slice (some ⟨g, o, none⟩) dLen dCap, .slice (some a) sLen sCap]).run P w =
   .ok (goInt cs.length) (w.setRow g (cur.toList.take o ++ cs ++ cur.toList.drop (o + cs.length)).toArray) := by
 have hl := run_loadCells_list (P := P) w a cs hsrc
 have hst := Jar (P := P) g o t k cs 0 cur w hk hg (by simpa using hfit) h1
 cases hq : P.info? elem with
 | none => simp [hq] at hs
 | some i =>
  have hi : i.size = 1 := by simpa [hq] using hs
  simp [Builtin.copy_, run_underlying hu, Builtin.lenOf, Builtin.firstCells, sizeOf, typeInfo, hq, hi, ← hn, hl, hst]
end plain
def rowK (w : World) (E sz : Nat) (v : Value) (n : Nat) (xs : List Value) : Prop :=
 xs.length = n * sz ∧ ((v = .slice none 0 0 ∧ n = 0) ∨ ∃ g cap cur k, v = .slice (some ⟨g, 0, none⟩) n cap ∧ w.heap[g]? = some (.cells cur E k) ∧ offK cur.size k ∧ n ≤ cap ∧ cap ≤ maxLen ∧ cur.size = cap * sz ∧ cur.toList.take (n * sz) = xs)
theorem rowK_of {w : World} {E sz : Nat} {v : Value} {n : Nat} {xs : List Value} (h : w.ownsRow 0 E sz v n xs) : rowK w E sz v n xs := by
 refine ⟨h.1, ?_⟩
 rcases h.2 with h | ⟨g, cap, cur, h1, _, h2, h3⟩
 ·exact .inl h
 ·exact .inr ⟨g, cap, cur, (0, 0), h1, h2, .inl (Nat.le_refl _), h3⟩
def wrC (w : World) (E sz : Nat) (v : Value) (n : Nat) (xs : List (List Value)) : Prop := rowK w E sz v n xs.flatten ∧ xs.length = n ∧ ∀ x ∈ xs, x.length = sz
theorem wrC.mk' {w : World} {E sz : Nat} {v : Value} {n : Nat} {xs : List (List Value)} (h : wrC w E sz v n xs) : v = .slice none 0 0 ∧ n = 0 ∧ xs = [] ∨ ∃ g cap cur k, v = .slice (some ⟨g, 0, none⟩) n cap ∧ w.heap[g]? = some (.cells cur E k) ∧ offK cur.size k ∧ n ≤ cap ∧ cap ≤ maxLen ∧ cur.size = cap * sz ∧ cur.toList.take (n * sz) = xs.flatten := by
 rcases h.1.2 with ⟨h1, h2⟩ | h1
 ·refine .inl ⟨h1, h2, List.eq_nil_of_length_eq_zero (by rw [h.2.1]; exact h2)⟩
 ·exact .inr h1
theorem wrC.frs {w : World} {E sz : Nat} {v : Value} {n : Nat} {xs : List (List Value)} (h : wrC w E sz v n xs) : FrS (fun b => w.heap[b]?) sz v xs := by
 rcases h.mk' with ⟨rfl, _, rfl⟩ | ⟨g, cap, cur, k, rfl, hh, _, hnc, hm, hcs, ht⟩
 ·exact FrS.nil _ _
 obtain ⟨_, hn, hl⟩ := h
 subst hn
 refine ⟨some ⟨g, 0, none⟩, cap, rfl, hnc, by simpa [maxLen] using hm, .inr ⟨g, 0, cur, E, k, rfl, hh, fun i x hx => ⟨hl x (List.mem_of_getElem? hx), fun j v hv => ?_⟩⟩⟩
 have hi : i < xs.length := by
  rcases Nat.lt_or_ge i xs.length with h | h
  ·exact h
  ·rw [List.getElem?_eq_none h] at hx; cases hx
 have hj : j < sz := by
  have := hl x (List.mem_of_getElem? hx)
  rcases Nat.lt_or_ge j x.length with h | h
  ·omega
  ·rw [List.getElem?_eq_none h] at hv; cases hv
 have hr := Jak xs i x (List.all_eq_true.2 fun x hx => by simpa using hl x hx) hx j v hv
 rw [← ht, List.getElem?_take] at hr
 split at hr
 ·rw [Nat.zero_add, ← Array.getElem?_toList]; exact hr
 ·cases hr
theorem wrC.lt {w : World} {E sz : Nat} {v : Value} {n : Nat} {xs : List (List Value)} (h : wrC w E sz v n xs) (b : Nat) (hb : v.ownBlock = some b) : b < w.heap.size := by
 rcases h.mk' with ⟨rfl, _, _⟩ | ⟨g, cap, cur, k, rfl, h1, _⟩
 ·simp [Value.ownBlock] at hb
 ·simp [Value.ownBlock] at hb
  subst hb
  exact (Array.getElem?_eq_some_iff.1 h1).1
theorem wrC.slice {w : World} {E sz : Nat} {v : Value} {n : Nat} {xs : List (List Value)} (h : wrC w E sz v n xs) : ∃ p : Option Addr × Nat, v = .slice p.1 n p.2 := by
 rcases h.mk' with ⟨rfl, rfl, _⟩ | ⟨g, cap, cur, k, rfl, _⟩
 ·exact ⟨(none, 0), rfl⟩
 ·exact ⟨(some ⟨g, 0, none⟩, cap), rfl⟩
def wrV (E : TypeId) (sz : Nat) (v : Value) (n : Nat) (xs : List (List Value)) : Chunk where
 P S w := wrC w E sz v n xs ∧ ∀ b, v.ownBlock = some b → S b
 loc S w w' h := by
  rintro ⟨⟨⟨h1, h2⟩, h3⟩, h4⟩
  refine ⟨⟨⟨h1, ?_⟩, h3⟩, h4⟩
  rcases h2 with h2 | ⟨g, cap, cur, k, rfl, hh, hr⟩
  ·exact .inl h2
  ·exact .inr ⟨g, cap, cur, k, rfl, (h g (h4 g rfl)).trans hh, hr⟩
theorem imp_wr (E sz : Nat) (v : Value) (n : Nat) (xs : List (List Value)) : Imp (J3 E sz v n xs) (wrV E sz v n xs) := ⟨fun _ _ ⟨⟨h1, h2⟩, h3⟩ => ⟨⟨rowK_of h1, h2⟩, h3⟩⟩
theorem turn_wr {w w' : World} {E sz m' : Nat} {v v' : Value} {xs' : List (List Value)} {S : Nat → Prop} (hS : ∀ b, v.ownBlock = some b → S b) (ho : wrC w' E sz v' m' xs') (hg : w.grownBy w' v.ownBlock)
  (h5 : v'.ownBlock = v.ownBlock ∨ v'.ownBlock = some w.heap.size) : Turn w w' S (wrV E sz v' m' xs') := by
 refine ⟨hg.os, hg.tape, hg.output, hg.size, fun b hb hn => hg.block b hb (fun h => hn (hS b h.symm)), fun b => v'.ownBlock = some b, ⟨ho, fun b h => h⟩, fun b hb => ⟨ho.lt b hb, ?_⟩⟩
 rcases h5 with h | h
 ·exact .inl (hS b (h ▸ hb))
 ·rw [h] at hb; cases hb; exact .inr (Nat.le_refl _)
section rules
variable {P : Program} {n : Nat} {cx : Cx} {e : Xs} {L : List Chunk} {d : Nat} {ty : TypeId} {pos : String} {af : Array Edge} {g : Option (Nat × Bool)}
theorem wrOf {w : World} {i E sz m c : Nat} {a : Option Addr} {xs : List (List Value)} (hS : Sat cx w L) (hL : L[i]? = some (wrV E sz (.slice a m c) m xs)) : Row w a sz xs := by
 obtain ⟨S, ⟨h, _⟩, _⟩ := hS.at hL
 obtain ⟨a', c', h0, _, _, r⟩ := h.frs.out
 simp only [Value.slice.injEq] at h0
 obtain ⟨rfl, _, rfl⟩ := h0
 exact r.row fun b o h => h
theorem wr_full {w : World} {i E sz m c : Nat} {a : Option Addr} {xs : List (List Value)} (hS : Sat cx w L) (hL : L[i]? = some (wrV E sz (.slice a m c) m xs)) : m ≤ c := by
 obtain ⟨S, ⟨h, _⟩, _⟩ := hS.at hL
 obtain ⟨a', c', h0, h1, _, _⟩ := h.frs.out
 simp only [Value.slice.injEq] at h0
 rw [h.2.1] at h1
 omega
theorem app_wr {w : World} {t E sz by_ : Nat} {I : TypeInfo} {z : Value} {v : Value} {m q c : Nat} {xs news : List (List Value)} {a : Option Addr} (ht : P.underlying t = some (.slice E)) (hi : P.info? E = some I) (hz : I.zero = some z) (hsize : I.size = sz) (hby : I.bytes = by_) (hzs : z.cells.size = sz) (hsz : 0 < sz)
  (hc : wrC w E sz v m xs) (hq : news.length = q) (hnl : ∀ x ∈ news, x.length = sz) (hR : Row w a sz news) (h1 : ∀ x ∈ news, ∀ u ∈ x, u.oneCell' = true) (h63 : m + q ≤ maxLen) (hbytes : (m + q) * by_ ≤ 140739635838976) (hy : by_ ≤ 1048576) :
  ∃ v' w', (Builtin.append_ #[t, t] ty #[v, .slice a q c]).run P w = .ok v' w' ∧ wrC w' E sz v' (m + q) (xs ++ news) ∧ w.grownBy w' v.ownBlock ∧ (v'.ownBlock = v.ownBlock ∨ v'.ownBlock = some w.heap.size) := by
 have same : w.grownBy w v.ownBlock := ⟨rfl, rfl, rfl, Nat.le_refl _, fun _ _ _ => rfl⟩
 have hfl : news.flatten.length = q * sz := by rw [Yc news hnl, hq]
 have hone : ∀ u ∈ news.flatten, u.oneCell' = true := by
  intro u hu
  obtain ⟨x, hx, hux⟩ := List.mem_flatten.1 hu
  exact h1 x hx u hux
 obtain ⟨hc1, hc2, hc3⟩ := hc
 have lens : (xs ++ news).length = m + q ∧ ∀ x ∈ xs ++ news, x.length = sz := ⟨by simp [hc2, hq], fun x hx => (List.mem_append.1 hx).elim (hc3 x) (hnl x)⟩
 rcases hc1.2 with ⟨rfl, h0⟩ | ⟨g', cap, cur, k, rfl, hg, hk, hnc, hcm, hcs, htake⟩
 ·have hx0 : xs = [] := List.eq_nil_of_length_eq_zero (by rw [hc2]; exact h0)
  have ho : w.ownsRow 0 E sz (.slice none 0 0) m xs.flatten := ⟨hc1.1, .inl ⟨rfl, h0⟩⟩
  by_cases hq0 : q = 0
  ·have hn0 : news = [] := List.eq_nil_of_length_eq_zero (by omega)
   subst hn0 hx0 hq0 h0
   refine ⟨.slice none 0 0, w, ?_, ⟨⟨by simp, .inl ⟨rfl, rfl⟩⟩, rfl, fun x hx => by cases hx⟩, same, .inl rfl⟩
   cases a <;> simp [Builtin.append_, run_underlying ht, sizeOf, typeInfo, hi, Builtin.lenOf, Builtin.firstCells, loadCells, loadCellsFrom, storeCells]
  ·cases a with
   | none =>
    rcases hR with h | ⟨b, off, h, _⟩
    ·subst h; exact absurd hq.symm hq0
    ·cases h
   | some ad =>
    obtain ⟨v', w', hr, h2, h3, h5⟩ := app_own (P := P) (ty := ty) (c := c) ht hi hz hsize hby hzs ho (by omega) hfl (Jdb hnl hR) hone h63 hbytes hy
    exact ⟨v', w', hr, ⟨rowK_of (by rw [List.flatten_append]; exact h2), lens⟩, h3, h5⟩
 ·have hxf : xs.flatten.length = m * sz := by rw [Yc xs hc3, hc2]
  by_cases hq0 : q = 0
  ·subst hq0
   have hn0 : news = [] := List.eq_nil_of_length_eq_zero hq
   subst hn0
   refine ⟨.slice (some ⟨g', 0, none⟩) m cap, w, ?_, ⟨⟨by rw [Yc _ lens.2, lens.1], .inr ⟨g', cap, cur, k, rfl, hg, hk, hnc, hcm, hcs, by simpa using htake⟩⟩, lens⟩, same, .inl rfl⟩
   cases a <;> simp [Builtin.append_, run_underlying ht, sizeOf, typeInfo, hi, Builtin.lenOf, Builtin.firstCells, loadCells, loadCellsFrom, hnc, storeCells]
  ·cases a with
   | none =>
    rcases hR with h | ⟨b, off, h, _⟩
    ·subst h; exact absurd hq.symm hq0
    ·cases h
   | some ad =>
    have hcell := Jdb hnl hR
    subst hsize hby
    by_cases hroom : m + q ≤ cap
    ·have hfit : m * I.size + news.flatten.length ≤ cur.size := by rw [hfl, hcs, ← Nat.add_mul]; exact Nat.mul_le_mul_right _ hroom
     have hr := Jha (P := P) w t ty E I ht hi g' m cap cur k hk hg ad q c news.flatten hfl hcell hone hroom hfit
     refine ⟨_, _, hr, ⟨⟨by rw [Yc _ lens.2, lens.1], .inr ⟨g', cap, _, k, rfl, setRow_heap w g' cur _ E _ hg, ?_, hroom, hcm, ?_, ?_⟩⟩, lens⟩, ⟨rfl, rfl, rfl, by simp, fun k _ hk => setRow_other w g' k _ (fun e => hk (by simp [Value.ownBlock, e]))⟩, .inl rfl⟩
     ·have e_ : ∀ n, n = cur.size → offK n k := fun n h => h ▸ hk
      refine e_ _ ?_
      simp only [List.size_toArray, List.length_append, List.length_take, List.length_drop, Array.length_toList]
      omega
     ·simp only [List.size_toArray, List.length_append, List.length_take, List.length_drop, Array.length_toList]
      omega
     ·rw [htake, List.flatten_append, Nat.add_mul, ← hxf, ← hfl, ← List.length_append]
      exact List.take_left
    ·have hm63 : m + q ≤ 9223372036854775807 := by simpa [maxLen] using h63
     have hold : ∀ j u, xs.flatten[j]? = some u → w.cell? ((⟨g', 0, none⟩ : Addr).add j) = some u := by
      intro j u hj
      rw [← htake, List.getElem?_take] at hj
      split at hj
      ·rw [Addr.add_lit]; simp only [World.cell?, hg, Nat.zero_add]; rw [← Array.getElem?_toList]; exact hj
      ·cases hj
     have hr := run_append_grow (P := P) w t ty E I z ht hi hz ⟨g', 0, none⟩ m cap xs.flatten hxf hold ad q c news.flatten hfl hcell (by omega) (by omega) (fits2 (by omega) hbytes hy)
     refine ⟨_, _, hr, ⟨rowK_of ?_, lens⟩, Jgu _ _ _, .inr rfl⟩
     rw [List.flatten_append]
     exact Jdv hzs (by rw [List.length_append, hxf, hfl, Nat.add_mul]) h63
theorem Wk {α : Type} {f : α → List Value} {ys ls zs : List α} {i : Nat} {S X : Operand} {t E : TypeId} {I : TypeInfo} {z : Value} {sz by_ : Nat} {p : Option Addr × Nat} {rds : List Nat} {V : Value} {a : Option Addr} {c m q : Nat} (hn : m = ys.length)
  (ht : P.underlying t = some (.slice E)) (hi : P.info? E = some I) (hz : I.zero = some z) (hsize : I.size = sz) (hby : I.bytes = by_) (hzs : z.cells.size = sz) (hsz : (Nat.blt 0 sz && Nat.ble by_ 1048576) = true)
  (hL : L[i]? = some (wrV E sz (.slice p.1 m p.2) m (ys.map f))) (hs : ev e S = .slice p.1 m p.2) (hx : ev e X = V) (hV : V = .slice a q c) (hq : q = ls.length)
  (hnews : ∀ w L', Fr cx w → Sat cx w L' → (∀ j, j ∈ rds → L'[j]? = L[j]?) → Row w a sz (ls.map f)) (hf : ∀ x, (f x).length = sz) (h1 : ∀ x, (f x).all Value.oneCell' = true) (hg : Xd by_ ys ls = some zs) :
  Turns P cx e ⟨some d, .call ⟨.builtin .append, #[S, X], #[t, t]⟩, ty, pos, af, g⟩ L i rds (fun p' : Option Addr × Nat => .slice p'.1 zs.length p'.2) (fun p' => wrV E sz (.slice p'.1 zs.length p'.2) zs.length (zs.map f)) := fun w L' hF hS hl hi' => by
 subst hn hq
 obtain ⟨rfl, hb1, hb2⟩ := Ul hg
 rw [List.length_append, List.map_append]
 have hL' := (hi' i (.inr rfl)).trans hL
 obtain ⟨S0, ⟨hc, _⟩, _⟩ := hS.at hL'
 obtain ⟨v', w', hr, h2, h3, h5⟩ := app_wr (P := P) (ty := ty) (c := c) ht hi hz hsize hby hzs (by simp at hsz; exact hsz.1) hc (List.length_map _) (fun x hx => by
   obtain ⟨y, _, rfl⟩ := List.mem_map.1 hx; exact hf y) (hnews w L' hF hS fun j hj => hi' j (.inl hj)) (fun x hx u hu => by
   obtain ⟨y, _, rfl⟩ := List.mem_map.1 hx; exact List.all_eq_true.1 (h1 y) u hu) (by simp only [maxLen]; omega) (by omega) (by simp at hsz; exact hsz.2)
 obtain ⟨p', rfl⟩ := h2.slice
 obtain ⟨hF', hS'⟩ := hS.turnOf hF hL' (C := wrV E sz (.slice p'.1 (ys.length + ls.length) p'.2) (ys.length + ls.length) (ys.map f ++ ls.map f)) fun S1 hp => turn_wr hp.2 h2 h3 h5
 have he : (execOp (ev e) ⟨some d, .call ⟨.builtin .append, #[S, X], #[t, t]⟩, ty, pos, af, g⟩).run P w = .ok (.value (.slice p'.1 (ys.length + ls.length) p'.2)) w' := by
  simp only [execOp, resolve, invoke, builtin, Sem.run_bind, Sem.run_pure, Result.andThen_ok, List.map_toArray, List.map_cons, List.map_nil, hs, hx, hV, hr]
 unfold RunsTo
 rw [he]
 exact ⟨p', rfl, hF', hS'⟩
theorem Jek {w : World} {i E sz n c : Nat} {a : Option Addr} {xs : List (List Value)} (hS : Sat cx w L) (hL : L[i]? = some (wrV E sz (.slice a n c) n xs)) : Row w a sz xs := wrOf hS hL
theorem capOfW {w : World} {i E sz n c : Nat} {a : Option Addr} {xs : List (List Value)} (hS : Sat cx w L) (hL : L[i]? = some (wrV E sz (.slice a n c) n xs)) : n ≤ c := wr_full hS hL
theorem makes_bytesW {f : Int → List Value} {X : Operand} {src dst E : TypeId} {s : List UInt8} {rds : List Nat} (hs : P.underlying src = some .string) (hd : P.underlying dst = some (.slice E)) (he : P.underlying E = some (.int .u8)) (hx : ev e X = str s) (hf : ∀ x, f x = [.int .u8 x]) (hl : s.length ≤ 9223372036854775807) :
  Jd7 P cx e ⟨some d, .convert src dst X, ty, pos, af, g⟩ L rds (fun p : Option Addr × Nat => .slice p.1 (Qo s).length p.2) (fun p => wrV E 1 (.slice p.1 (Qo s).length p.2) (Qo s).length ((Qo s).map f)) := fun w L' hF hS hi' => by
 have hr := Lib.run_convert_string_bytes (P := P) w src dst E ⟨s.toArray⟩ hs hd he
 have hsz : (⟨s.toArray⟩ : ByteArray).size = s.length := strSize s
 have hlen : (Qo s).length = s.length := by unfold Qo; simp
 have hcs : (Lib.bytesCells w E ⟨s.toArray⟩).size = grownCap w s.length 0 E := by
  have := grownCap_ge w s.length 0 E
  unfold Lib.bytesCells
  rw [hsz]; simp; omega
 have hx' : (execOp (ev e) ⟨some d, .convert src dst X, ty, pos, af, g⟩).run P w = .ok (.value (.slice (some ⟨w.heap.size, 0, none⟩) s.length (grownCap w s.length 0 E))) (Lib.bytesWorld w E ⟨s.toArray⟩) := by
  have hr' : (convert src dst (str s)).run P w = .ok (.slice (some ⟨w.heap.size, 0, none⟩) s.length (grownCap w s.length 0 E)) (Lib.bytesWorld w E ⟨s.toArray⟩) := by
   rw [hsz] at hr; exact hr
  simp only [execOp, Sem.run_bind, hx, hr', Result.andThen_ok, Sem.run_pure]
 unfold RunsTo
 rw [hx']
 refine ⟨(some ⟨w.heap.size, 0, none⟩, grownCap w s.length 0 E), by rw [hlen], ?_⟩
 have hsize := Lib.bytesWorld_size w E ⟨s.toArray⟩
 rw [hlen]
 refine ⟨by simp [Lib.bytesWorld, World.freeze, World.alloc, World.drew, -World.alloc_eq, -World.drew_eq], by simp [Lib.bytesWorld, World.freeze, World.alloc, World.drew, -World.alloc_eq, -World.drew_eq], by simp [Lib.bytesWorld, World.freeze, World.alloc, World.drew, -World.alloc_eq, -World.drew_eq], by rw [hsize]; omega, fun b hb _ => Lib.bytesWorld_at_old w E _ b hb, fun b => b = w.heap.size, ⟨⟨⟨by rw [Jes (fun x => by rw [hf]; rfl), hlen, Nat.mul_one], .inr ?_⟩, by rw [List.length_map, hlen], fun x hx' => ?_⟩, fun b hb => ?_⟩, fun b hb => ?_⟩
 ·refine ⟨w.heap.size, _, _, _, rfl, Lib.bytesWorld_at_new w E ⟨s.toArray⟩, .inr (Nat.le_refl _), grownCap_ge w _ 0 E, grownCap_le_maxLen w _ 0 E (by simp only [maxLen]; exact hl), by rw [hcs, Nat.mul_one], ?_⟩
  rw [bytes_flat hf, Nat.mul_one]
  unfold Lib.bytesCells
  simp
 ·obtain ⟨y, _, rfl⟩ := List.mem_map.1 hx'
  rw [hf]; rfl
 ·simp [Value.ownBlock] at hb; exact hb.symm
 ·subst hb
  exact ⟨by rw [hsize]; omega, .inr (Nat.le_refl _)⟩
theorem Jfr {f : Int → List Value} {X : Operand} {src dst E : TypeId} {s : List UInt8} {xs : List Int} {rds : List Nat} (hs : P.underlying src = some .string) (hd : P.underlying dst = some (.slice E)) (he : P.underlying E = some (.int .u8)) (hx : ev e X = str s) (hf : ∀ x, f x = [.int .u8 x]) (hg : gByt s = some xs) :
  Jd7 P cx e ⟨some d, .convert src dst X, ty, pos, af, g⟩ L rds (fun p : Option Addr × Nat => .slice p.1 xs.length p.2) (fun p => wrV E 1 (.slice p.1 xs.length p.2) xs.length (xs.map f)) := by
 obtain ⟨rfl, hl⟩ := gByt_some hg
 exact makes_bytesW hs hd he hx hf hl
theorem run_copyW {α : Type} {f : α → List Value} {xs ts ys : List α} {t u E m q c cd : Nat} {p : Option Addr × Nat} {a : Option Addr} {lo hi : Int} {w : World} {D X : Operand} (hm : m = xs.length) (ht : P.underlying t = some (.slice E)) (hi1 : (P.info? E).map (·.size) = some 1)
  (ho : rowK w E 1 (.slice p.1 m p.2) m (xs.map f).flatten) (hd : ev e D = .slice (Xg p.1 lo.toNat p.2 1) ts.length cd) (hcut : Xr xs lo hi = some ts)
  (hx : ev e X = .slice a q c) (hq : q = ys.length) (hR : Row w a 1 (ys.map f)) (hf : ∀ x, (f x).length = 1) (h1 : ∀ x, (f x).all Value.oneCell' = true) :
  ∃ w', (execOp (ev e) ⟨d, .call ⟨.builtin .copy, #[D, X], #[t, u]⟩, ty, pos, af, g⟩).run P w = .ok (.value (.int .i64 (min ts.length ys.length : Nat))) w' ∧ rowK w' E 1 (.slice p.1 m p.2) m ((Zf xs lo ts.length ys).map f).flatten ∧ w.grownBy w' (Value.slice p.1 m p.2).ownBlock := by
 subst hm hq
 obtain ⟨g0, g1, g2, hts⟩ := Zv hcut
 have htl : ts.length = hi.toNat - lo.toNat := Jdf hcut
 by_cases h0 : min ts.length ys.length = 0
 ·have hc : Zf xs lo ts.length ys = xs := by
   unfold Zf
   have h2 : ys.take ts.length = [] := by
    apply List.eq_nil_of_length_eq_zero; rw [List.length_take]; exact h0
   rw [h2, h0, List.nil_append, Nat.add_zero, List.take_append_drop]
  refine ⟨w, ?_, by rw [hc]; exact ho, ⟨rfl, rfl, rfl, Nat.le_refl _, fun _ _ _ => rfl⟩⟩
  have hrun := run_copy_none (P := P) w t u ty E (Xg p.1 lo.toNat p.2 1) a ts.length cd ys.length c ht hi1 (by show min ys.length ts.length = 0; omega)
  simp only [execOp, resolve, invoke, builtin, Sem.run_bind, Sem.run_pure, Result.andThen_ok, List.map_toArray, List.map_cons, List.map_nil, hd, hx, hrun, h0]
  rfl
 ·have hxs : 0 < xs.length := by omega
  rcases ho.2 with ⟨_, hz⟩ | ⟨g0', cap, cur, kk, hv0, hh, hkk, hnc, hcm, hcs, htk⟩
  ·omega
  ·simp only [Value.slice.injEq] at hv0
   obtain ⟨hp1, _, rfl⟩ := hv0
   have hcut' : Xg p.1 lo.toNat p.2 1 = some ⟨g0', lo.toNat, none⟩ := by
    rw [hp1]; unfold Xg
    rw [if_neg (by omega)]; simp [Addr.add_lit]
   rcases hR with hR | ⟨b, off, rfl, hR⟩
   ·have : ys.length = 0 := by simpa using congrArg List.length hR
    omega
   ·let k := min ts.length ys.length
    have hcsl : (((ys.take k).map f).flatten).length = k := by
     rw [Jes hf, List.length_take]; omega
    have hone : ∀ v ∈ ((ys.take k).map f).flatten, v.oneCell' = true := by
     intro v hv
     rw [List.mem_flatten] at hv
     obtain ⟨l, hl, hv⟩ := hv
     obtain ⟨y, _, rfl⟩ := List.mem_map.1 hl
     exact List.all_eq_true.1 (h1 y) v hv
    have hlen : ∀ x ∈ ys.map f, x.length = 1 := fun x hx => by
     obtain ⟨y, _, rfl⟩ := List.mem_map.1 hx; exact hf y
    have hsrc : ∀ j v, (((ys.take k).map f).flatten)[j]? = some v → w.cell? ((⟨b, off, none⟩ : Addr).add j) = some v := by
     intro j v hj
     rw [← Jfm hf, List.getElem?_take] at hj
     split at hj
     ·obtain ⟨i, q, x, hx, hq, rfl⟩ := Jag _ hlen j v hj
      have := (hR i x hx).2 q v hq
      rw [Addr.add_lit, ← Nat.add_assoc]; exact this
     ·cases hj
    have hcur : cur.size = p.2 := by omega
    have hfit : lo.toNat + (((ys.take k).map f).flatten).length ≤ cur.size := by rw [hcsl]; omega
    have hrun := Ji8 (P := P) w t u ty E g0' lo.toNat ts.length cd ⟨b, off, none⟩ ys.length c cur E kk _ ht hi1 hkk hh (by rw [hcsl]; show k = min ys.length ts.length; omega) hsrc hfit hone
    let new : Array Value := (cur.toList.take lo.toNat ++ ((ys.take k).map f).flatten ++ cur.toList.drop (lo.toNat + (((ys.take k).map f).flatten).length)).toArray
    refine ⟨w.setRow g0' new, ?_, ⟨?_, .inr ⟨g0', p.2, new, kk, by rw [hp1], setRow_heap w g0' cur new E kk hh, ?_, hnc, hcm, ?_, ?_⟩⟩, ⟨rfl, rfl, rfl, by simp, fun b' _ hb => setRow_other w g0' b' _ (fun e => hb (by simp [Value.ownBlock, hp1, e]))⟩⟩
    ·simp only [execOp, resolve, invoke, builtin, Sem.run_bind, Sem.run_pure, Result.andThen_ok, List.map_toArray, List.map_cons, List.map_nil, hd, hx, hcut', hrun, new, hcsl]
     rfl
    ·rw [Jes hf, Jia (by omega)]; omega
    ·have e_ : ∀ n, n = cur.size → offK n kk := fun n h => h ▸ hkk
     refine e_ _ ?_
     simp only [new, List.size_toArray, List.length_append, List.length_take, List.length_drop, Array.length_toList, hcsl]
     omega
    ·simp only [new, List.size_toArray, List.length_append, List.length_take, List.length_drop, Array.length_toList, hcsl]
     omega
    ·simp only [new]
     rw [List.toList_toArray, hcsl]
     rw [Nat.mul_one] at htk ⊢
     have e1 : cur.toList = ((xs.map f).flatten) ++ cur.toList.drop xs.length := by rw [← htk, List.take_append_drop]
     have hcl : ((xs.map f).flatten).length = xs.length := Jes hf xs
     have e2 : (Zf xs lo ts.length ys).map f = (xs.take lo.toNat).map f ++ ((ys.take k).map f ++ (xs.drop (lo.toNat + k)).map f) := by
      unfold Zf
      have : ys.take ts.length = ys.take k := by
       rcases Nat.le_total ts.length ys.length with h | h
       ·show _ = ys.take (min ts.length ys.length); rw [Nat.min_eq_left h]
       ·show _ = ys.take (min ts.length ys.length); rw [Nat.min_eq_right h, List.take_of_length_le h, List.take_of_length_le (Nat.le_refl _)]
      rw [this, List.map_append, List.map_append]
     rw [e2, List.flatten_append, List.flatten_append, ← Jfm hf xs, ← Jix hf xs]
     generalize hX : (xs.map f).flatten = X at *
     generalize hY : ((ys.take k).map f).flatten = Y at *
     have hlo : lo.toNat + k ≤ xs.length := by show lo.toNat + min ts.length ys.length ≤ _; omega
     have e3 : cur.toList.take lo.toNat = X.take lo.toNat := by
      rw [e1, List.take_append_of_le_length (by omega)]
     have e4 : cur.toList.drop (lo.toNat + k) = X.drop (lo.toNat + k) ++ cur.toList.drop xs.length := by
      conv => lhs; rw [e1]
      rw [List.drop_append_of_le_length (by omega)]
     rw [e3, e4, List.append_assoc, ← List.append_assoc, ← List.append_assoc]
     rw [List.take_append_of_le_length, List.take_of_length_le]
     ·rw [List.append_assoc]
     ·simp only [List.length_append, List.length_take, List.length_drop]; omega
     ·simp only [List.length_append, List.length_take, List.length_drop]; omega
theorem Jbn {α : Type} {f : α → List Value} {xs ts ys : List α} {i t u E m q c cd : Nat} {p : Option Addr × Nat} {a : Option Addr} {lo hi : Int} {D X : Operand} {rds : List Nat} (hm : m = xs.length) (ht : P.underlying t = some (.slice E)) (hi1 : (P.info? E).map (·.size) = some 1)
  (hL : L[i]? = some (wrV E 1 (.slice p.1 m p.2) m (xs.map f))) (hd : ev e D = .slice (Xg p.1 lo.toNat p.2 1) ts.length cd) (hcut : Xr xs lo hi = some ts)
  (hx : ev e X = .slice a q c) (hq : q = ys.length) (hnews : ∀ w L', Fr cx w → Sat cx w L' → (∀ j, j ∈ rds → L'[j]? = L[j]?) → Row w a 1 (ys.map f)) (hf : ∀ x, (f x).length = 1) (h1 : ∀ x, (f x).all Value.oneCell' = true) :
  Turns P cx e ⟨d, .call ⟨.builtin .copy, #[D, X], #[t, u]⟩, ty, pos, af, g⟩ L i rds (fun _ : Unit => .int .i64 (min ts.length ys.length : Nat)) (fun _ => wrV E 1 (.slice p.1 m p.2) m ((Zf xs lo ts.length ys).map f)) := by
 intro w L' hF hS hl hi'
 have hL' := (hi' i (.inr rfl)).trans hL
 obtain ⟨S0, ⟨⟨ho, hlen, hlx⟩, hob⟩, _⟩ := hS.at hL'
 obtain ⟨w', hr, h2, h3⟩ := run_copyW (P := P) (d := d) (ty := ty) (pos := pos) (af := af) (g := g) (u := u) hm ht hi1 ho hd hcut hx hq (hnews w L' hF hS fun j hj => hi' j (.inl hj)) hf h1
 obtain ⟨g0, g1, g2, hts⟩ := Zv hcut
 have htl : ts.length = hi.toNat - lo.toNat := Jdf hcut
 obtain ⟨hF', hS'⟩ := hS.turnOf hF hL' (C := wrV E 1 (.slice p.1 m p.2) m ((Zf xs lo ts.length ys).map f)) fun S1 hp => turn_wr hp.2 ⟨h2, by rw [List.length_map, Jia (by omega)]; exact hm.symm, by
  intro z hz
  obtain ⟨y, _, rfl⟩ := List.mem_map.1 hz; exact hf y⟩ h3 (.inl rfl)
 unfold RunsTo
 rw [hr]
 exact ⟨(), rfl, hF', hS'⟩
variable {ops : Array Oper} {F : Xs → List Chunk → Prop} {rest : List Oper} {ss : List Kd}
theorem turns_hide {σ : Type} {o : Oper} {i : Nat} {rds : List Nat} {v0 : Value} {C : σ → Chunk} {Ci : Chunk} (hi : L[i]? = some Ci) (h : Turns P cx e o L i rds (fun _ : σ => v0) C) : Turns P cx e o L i rds (fun _ : Unit => v0) (fun _ => exC C) := by
 have hil : i < L.length := by
  rcases Nat.lt_or_ge i L.length with h | h
  ·exact h
  ·simp [List.getElem?_eq_none h] at hi
 intro w L' hF hS hl hi'
 refine (h w L' hF hS hl hi').mono fun v w' ⟨x, hv, hF', hS'⟩ => ⟨(), hv, hF', ?_⟩
 have hget : (L'.set i (C x))[i]? = some (C x) := List.getElem?_set_self (by omega)
 have := sat_imp hF' hS' hget (imp_ex C x)
 rwa [List.set_set] at this
theorem d_turnX {σ : Type} {o : Oper} {d i : Nat} {rds : List Nat} {v0 : Value} {C : σ → Chunk} {Ci : Chunk} (h : Turns P cx e o L i rds (fun _ : σ => v0) C) (hi : L[i]? = some Ci) (hw : X1 ops o e = true) (hd : o.dst = some d)
  (k : Sq P cx ops F rest ss (upd e d v0) (L.set i (exC C))) : Sq P cx ops F (o :: rest) (.t i rds (fun _ : Unit => v0) (fun _ => exC C) :: ss) e L :=
 U8 () (turns_hide hi h) (fun _ => rfl) hw hd fun _ => k
end rules
end Go.Lx
