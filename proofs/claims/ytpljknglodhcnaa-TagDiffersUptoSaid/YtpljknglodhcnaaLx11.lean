/- Rules: results that came in; rows that are only read and may be the caller's; slices compared with nil; parts of known slices. Conditions: none. -/
import Derived.Test.YtpljknglodhcnaaMd
import Derived.Lib.UnsafeStr
import Derived.Lib.Builder
import Derived.Laws.Pointers
import Derived.Lib.AppendZeros
import Derived.Shelf.Sort.Plain
import Derived.Shelf.Slices.In.SortNone
import Derived.Sort.OwnSortedInts
import Derived.Lib.Bytealg
import Derived.Lib.SmallJoins
import Derived.Lib.AppendIntMem
import Derived.Shelf.Strconv.Itoa3
import Derived.Shelf.Strconv.Atoi
import Derived.Shelf.Strings.Repeat
import Derived.Shelf.Strings.OnBuilder
import Derived.Shelf.Slices.CompactS
import Derived.Sort.OwnSorted
import Derived.Lib.ConvBytes
import Derived.Maps.RangeRun
import Derived.Shelf.Slices.CompactI
import Derived.Shelf.SlSortCmp.WholeK
import Derived.Shelf.SlSortCmp.NoneTotal
import Derived.ArgAppend
import Derived.LoopN
import Derived.Lib.Overlaps
import Derived.Test.YtpljknglodhcnaaProg
namespace Go.Lx
open Go Go.Vc Go.Md
theorem Know.at {h : Jy} {w0 w : World} {S : Nat → Prop} (k : Know h w0 S) (hF : Fr ⟨w0, S⟩ w) : Know h w Zc := fun b o hb => ⟨k.now hF b o hb, fun x => x⟩
theorem FrS.cutL {α : Type} {h : Jy} {sz : Nat} {a : Option Addr} {n c : Nat} {f : α → List Value} {xs ys : List α} {l q : Int} (s : FrS h sz (.slice a n c) (xs.map f)) (e : Wp xs l q = some ys) : FrS h sz (.slice (Zd a l.toNat c sz) ys.length (c - l.toNat)) (ys.map f) := by
 have := s.cut e
 rw [gCut_len e]
 exact this
def isNilV : Value → Bool | .slice none _ _ => true | _ => false
theorem FrS.nilV {h : Jy} {sz : Nat} {v : Value} {α : Type} {f : α → List Value} {xs : List α} (s : FrS h sz v (xs.map f)) (hb : isNilV v = true) : xs = [] := by
 obtain ⟨a, c, rfl, _, _, r⟩ := s.out
 rcases r with r | ⟨b, off, cs, T, m, rfl, _⟩
 ·simpa using r
 ·simp [isNilV] at hb
section ops
variable {P : Program} {e : Qz} {d : Option Nat} {ty : TypeId} {pos : String} {af : Array Edge} {g : Option (Nat × Bool)}
theorem eq_nilS {a : Option Addr} {m c : Nat} {t u : TypeId} (ht : P.underlying t = some (.slice u)) (n : Nat) (w : World) : (Op.equalIn (n + 1) t (.slice a m c) (.slice none 0 0)).run P w = .ok (isNilV (.slice a m c)) w := by
 cases a <;> simp [Op.equalIn, run_underlying ht, isNilV]
theorem r_eqlNilS {X Y : Operand} {v : Value} {t t' u sz : TypeId} {h : Jy} {xs : List (List Value)} (ht : P.underlying t = some (.slice u)) (s : FrS h sz v xs) (hx : ev e X = v) (hy : ev e Y = .slice none 0 0) (w : World) :
  (execOp (ev e) ⟨d, .binOp .eql t X Y t', ty, pos, af, g⟩).run P w = .ok (.value (.bool (isNilV v))) w := by
 obtain ⟨a, c, rfl, _⟩ := s.out
 have h0 := eq_nilS (P := P) (a := a) (m := xs.length) (c := c) ht 9999 w
 simp [execOp, hx, hy, eqGuard, binOp, Op.equal, Op.maxDepth, h0]
end ops
section rules
variable {P : Program} {n : Nat} {cx : Cx} {e : Qz} {L : List Chunk} {ops : Array Oper} {rest : List Oper} {Q : V5} {F : Qz → List Chunk → Prop} {ss : List Kd} {d : Nat} {ty : TypeId} {pos : String} {af : Array Edge} {g : Option (Nat × Bool)}
def _root_.Go.Vc.Kd.sv (a b i : Nat) (cs : Value → List Value) (T : TypeId) : Kd := .g [a, b] [i] [i] (fun _ _ v => v = undef) (fun vs _ _ => [boxOf (vs.headD undef) (cs (vs.getD 1 undef)) T])
theorem d_storeV {i : Nat} {a q T T0 b o sz : Nat} {x : Value} {cs vs : List Value} {cs' : Value → List Value} (hs : ∀ w, (sizeOf T).run P w = .ok sz w)
  (hw : Xm ops ⟨none, .store T (.tmp a) (.tmp q), ty, pos, af, g⟩ e = true) (hp : e a = .pointer (some ⟨b, o, none⟩)) (hx : e q = x) (hc : x.cells.toList = vs) (hsz : vs.length = sz) (hpos : Nat.blt 0 sz = true)
  (hone : vs.all Value.oneCell' = true) (hL : L[i]? = some (Js b cs T0)) (hv : wr cs o vs = some (cs' x))
  (k : Sq P cx ops F rest ss e (L.set i (Js b (cs' x) T0))) : Sq P cx ops F (⟨none, .store T (.tmp a) (.tmp q), ty, pos, af, g⟩ :: rest) (.sv a q i cs' T0 :: ss) e L := by
 have hbox : boxOf (([a, q].map e).headD undef) (cs' (([a, q].map e).getD 1 undef)) T0 = Js b (cs' x) T0 := by
  have h1 : ([a, q].map e).headD undef = e a := rfl
  have h2 : ([a, q].map e).getD 1 undef = e q := rfl
  rw [h1, h2, hp, hx]; rfl
 refine .take hw ⟨undef, rfl⟩ ⟨fun w L' hF hS _ hi => ?_⟩ fun v' hv' => ?_
 ·have hL' := (hi i (.inl (by simp [Kd.sv, Kd.rds]))).trans hL
  have hb := V6 hS hL'
  unfold RunsTo
  rw [Go.Vc.run_store hs (by exact hp) (by exact hx) hc hsz hpos hone hv hb]
  have hset := setRow_heap w b cs.toArray (cs' x).toArray T0 (0, 0) hb
  refine ⟨rfl, ⟨hF.os, hF.tape, hF.output, by simpa using hF.size, fun c hcn => ?_⟩, ?_⟩
  ·rw [setRow_other w b c _ (fun e => ?_)]
   ·exact hF.block c hcn
   ·obtain ⟨fp, f1, f2, _⟩ := hS.out
    have := (f2 i b ((f1 i _ hL').1 b |>.2 rfl)).2.2
    subst e
    exact hcn this
  ·show Sat cx _ (L'.set i (boxOf (([a, q].map e).headD undef) (cs' (([a, q].map e).getD 1 undef)) T0))
   rw [hbox]
   exact hS.set hF hL' (by simp) fun S hSp hSo => ⟨S, ⟨hSp.1, hset⟩, fun c hc => ⟨by simpa using (hSo c hc).1, .inl hc⟩, fun c _ hcS => setRow_other w b c _ (fun e => hcS ((hSp.1 c).2 e))⟩
 ·have hbox' := hbox
  show Sq P cx ops F rest ss (W8 e none v') (L.set i (boxOf (([a, q].map e).headD undef) (cs' (([a, q].map e).getD 1 undef)) T0))
  rw [hbox]
  exact k
end rules
end Go.Lx

/- Rules: slices whose elements hold slices, as they came in: cells read off the known memory, and what each element stands for. Conditions: none. -/
namespace Go.Lx
open Go Go.Vc Go.Md
def J6 (h : Jy) (v : Value) (sz i j : Nat) : Value :=
 if j < sz then match v with
 | .slice (some ⟨b, off, _⟩) _ _ => match h b with
  | some (.cells cs _ _) => cs.getD (off + i * sz + j) undef
  | _ => undef
 | _ => undef else undef
def V2 (h : Jy) (v : Value) (sz i : Nat) : List Value := (List.range sz).map (J6 h v sz i)
class Mon {α : Type} (G : Jy → (Nat → Value) → α → Prop) : Prop where
 mono : ∀ {h h' : Jy}, (∀ b o, h b = some o → h' b = some o) → ∀ c x, G h c x → G h' c x
structure FrN {α : Type} (h : Jy) (sz : Nat) (v : Value) (G : Jy → (Nat → Value) → α → Prop) (xs : List α) : Prop where
 frs : FrS h sz v ((List.range xs.length).map (V2 h v sz))
 el : ∀ (i : Nat) (x : α), xs[i]? = some x → G h (J6 h v sz i) x
theorem elH_mono {h h' : Jy} {v : Value} {sz : Nat} {ys : List (List Value)} (f : FrS h sz v ys) (hy : 0 < ys.length) (k : ∀ b o, h b = some o → h' b = some o) (i : Nat) : J6 h v sz i = J6 h' v sz i := by
 funext j
 obtain ⟨a, c, rfl, _, _, r⟩ := f.out
 rcases r with r | ⟨b, off, cs, T, m, rfl, hb, _⟩
 ·subst r; simp at hy
 ·simp only [J6, hb, k b _ hb]
theorem FrN.mono {α : Type} {h h' : Jy} {sz : Nat} {v : Value} {G : Jy → (Nat → Value) → α → Prop} [M : Mon G] {xs : List α} (f : FrN h sz v G xs) (k : ∀ b o, h b = some o → h' b = some o) : FrN h' sz v G xs := by
 have key : ∀ i, i < xs.length → J6 h v sz i = J6 h' v sz i := fun i hi => elH_mono f.frs (by simp; omega) k i
 refine ⟨?_, fun i x hx => ?_⟩
 ·have := f.frs.mono k
  have e : (List.range xs.length).map (V2 h v sz) = (List.range xs.length).map (V2 h' v sz) := by
   apply List.map_congr_left
   intro i hi
   unfold V2
   rw [key i (by simpa using hi)]
  rwa [e] at this
 ·have hi : i < xs.length := by
   rcases Nat.lt_or_ge i xs.length with h | h
   ·exact h
   ·rw [List.getElem?_eq_none h] at hx; cases hx
  rw [← key i hi]
  exact M.mono k _ _ (f.el i x hx)
theorem FrN.nil {α : Type} (h : Jy) (sz : Nat) (G : Jy → (Nat → Value) → α → Prop) : FrN h sz (.slice none 0 0) G [] := ⟨FrS.nil _ _, by simp⟩
section acc
variable {α : Type} {h : Jy} {sz : Nat} {v : Value} {G : Jy → (Nat → Value) → α → Prop} {xs ys : List α}
theorem FrN.cells (f : FrN h sz v G xs) : v.cells.toList = [v] := f.frs.cells
theorem FrN.one (f : FrN h sz v G xs) : v.oneCell' = true := f.frs.one
theorem FrN.eq (f : FrN h sz v G xs) : v = .slice (sa v) xs.length (sc v) := by
 have := f.frs.eq; rwa [List.length_map, List.length_range] at this
theorem FrN.len (f : FrN h sz v G xs) : xs.length ≤ sc v ∧ sc v ≤ 9223372036854775807 := by
 have := f.frs.len; rwa [List.length_map, List.length_range] at this
theorem FrN.at (f : FrN h sz v G xs) {i : Int} {x : α} (g : Qj xs i = some x) : G h (J6 h v sz i.toNat) x := f.el _ _ (Y5 g).2.2
theorem FrN.ix (_ : FrN h sz v G xs) {i : Int} {x : α} (g : Qj xs i = some x) : Qj (List.range xs.length) i = some i.toNat := by
 obtain ⟨h0, h1, _⟩ := Y5 g
 rw [gAt_ok h0 (by simpa using h1)]; simp
theorem FrN.nilV (f : FrN h sz v G xs) (hb : isNilV v = true) : xs = [] := by
 have := FrS.nilV f.frs hb
 exact List.eq_nil_of_length_eq_zero (by simpa using congrArg List.length this)
theorem gCut_range {l q : Int} (e : Wp xs l q = some ys) : Wp (List.range xs.length) l q = some (((List.range xs.length).drop l.toNat).take (q.toNat - l.toNat)) := by
 obtain ⟨g0, g1, g2, _⟩ := Ww e
 exact gCut_ok ⟨g0, g1, by simpa using g2⟩
theorem FrN.cut (f : FrN h sz v G xs) {l q : Int} (e : Wp xs l q = some ys) : FrN h sz (cutV sz v l q) G ys := by
 obtain ⟨g0, g1, g2, rfl⟩ := Ww e
 have hl := f.len
 have h0 := FrS.cut f.frs (gCut_range e)
 have hlen : ((xs.drop l.toNat).take (q.toNat - l.toNat)).length = q.toNat - l.toNat := by rw [List.length_take, List.length_drop]; omega
 have key : ∀ i, i < q.toNat - l.toNat → J6 h (cutV sz v l q) sz i = J6 h v sz (l.toNat + i) := by
  intro i hi
  funext j
  obtain ⟨a, c, hva, h1, _, r⟩ := f.frs.out
  simp only [List.length_map, List.length_range] at hva h1
  rcases r with r | ⟨b, off, cs, T, m, ha, hb, _⟩
  ·have := congrArg List.length r
   simp at this
   rw [this] at g2
   simp at g2
   omega
  ·have hm : ¬ c = l.toNat := by omega
   rw [hva, ha]
   simp only [cutV, sa, sc, Zd, if_neg hm, Option.map_some, Addr.add_lit, J6, hb]
   rw [show off + l.toNat * sz + i * sz + j = off + (l.toNat + i) * sz + j from by rw [Nat.add_mul]; omega]
 refine ⟨?_, fun i x hx => ?_⟩
 ·have e1 : ((List.range ((xs.drop l.toNat).take (q.toNat - l.toNat)).length).map (V2 h (cutV sz v l q) sz)) = (((List.range xs.length).drop l.toNat).take (q.toNat - l.toNat)).map (V2 h v sz) := by
   rw [hlen]
   apply List.ext_getElem
   ·simp; omega
   ·intro i h1 h2
    simp only [List.length_map, List.length_range] at h1
    simp only [List.getElem_map, List.getElem_range, List.getElem_take, List.getElem_drop]
    unfold V2
    rw [key i h1]
  rw [e1]; exact h0
 ·have hi : i < q.toNat - l.toNat := by
   rcases Nat.lt_or_ge i (q.toNat - l.toNat) with h | h
   ·exact h
   ·rw [List.getElem?_eq_none (by rw [hlen]; exact h)] at hx; cases hx
  rw [key i hi]
  rw [List.getElem?_take, if_pos hi, List.getElem?_drop] at hx
  exact f.el _ _ hx
theorem FrN.frsM (f : FrN h sz v G xs) : FrS h sz v ((List.range xs.length).map (V2 h v sz)) := f.frs
end acc
theorem FrN.cutL {α : Type} {h : Jy} {sz : Nat} {a : Option Addr} {n c : Nat} {G : Jy → (Nat → Value) → α → Prop} {xs ys : List α} {l q : Int} (s : FrN h sz (.slice a n c) G xs) (e : Wp xs l q = some ys) : FrN h sz (.slice (Zd a l.toNat c sz) ys.length (c - l.toNat)) G ys := by
 have := s.cut e
 rw [gCut_len e]
 exact this
theorem rd_of {l l' vs : List Value} {j n : Nat} (e : l = l') (h : rd l' j n = some vs) : rd l j n = some vs := by subst e; exact h
theorem Vj {l l' : List Value} {j : Nat} {v : Value} (e : l = l') (h : rg l' j = some v) : rg l j = some v := by subst e; exact h
def AllG {α : Type} (G : Jy → (Nat → Value) → α → Prop) (h : Jy) (sz : Nat) : List Value → List α → Prop
 | cs, [] => cs = []
 | cs, x :: r => G h (fun j => (cs.take sz).getD j undef) x ∧ AllG G h sz (cs.drop sz) r
theorem AllG.el {α : Type} {G : Jy → (Nat → Value) → α → Prop} {h : Jy} {sz : Nat} : ∀ {cs : List Value} {xs : List α}, AllG G h sz cs xs → ∀ (i : Nat) (x : α), xs[i]? = some x → G h (fun j => ((cs.drop (i * sz)).take sz).getD j undef) x
 | _, [], _, i, x, hx => by simp at hx
 | cs, y :: r, hp, 0, x, hx => by
  simp at hx; subst hx
  have := hp.1
  simpa using this
 | cs, y :: r, hp, i + 1, x, hx => by
  have := AllG.el hp.2 i x (by simpa using hx)
  rw [List.drop_drop, show sz + i * sz = (i + 1) * sz from by rw [Nat.succ_mul]; omega] at this
  exact this
section rules
variable {P : Program} {n : Nat} {cx : Cx} {e : Qz} {L : List Chunk}
theorem frn_box {α : Type} {G : Jy → (Nat → Value) → α → Prop} {w : World} {i b m T sz : Nat} {cs : List Value} {xs : List α} (hS : Sat cx w L) (hL : L[i]? = some (Js b cs T)) (hl : cs.length = m * sz) (hm : xs.length = m) (hm' : Nat.ble m 9223372036854775807 = true)
  (hG : AllG G (fun b => w.heap[b]?) sz cs xs) : FrN (fun b => w.heap[b]?) sz (.slice (some ⟨b, 0, none⟩) m m) G xs := by
 subst hm
 have hb : w.heap[b]? = some (.cells cs.toArray T (0, 0)) := V6 hS hL
 have key : ∀ i, J6 (fun b => w.heap[b]?) (.slice (some ⟨b, 0, none⟩) xs.length xs.length) sz i = fun j => ((cs.drop (i * sz)).take sz).getD j undef := by
  intro i; funext j
  simp only [J6, hb, Nat.zero_add, List.getD_eq_getElem?_getD, Array.getD_eq_getD_getElem?, List.getElem?_toArray, List.getElem?_take, List.getElem?_drop]
  split <;> rfl
 refine ⟨⟨some ⟨b, 0, none⟩, xs.length, by simp, by simp, by simpa using hm', .inr ⟨b, 0, cs.toArray, T, (0, 0), rfl, hb, fun i x hx => ?_⟩⟩, fun i x hx => ?_⟩
 ·have hi : i < xs.length := by
   rcases Nat.lt_or_ge i xs.length with h | h
   ·exact h
   ·rw [List.getElem?_eq_none (by simpa using h)] at hx; cases hx
  simp only [List.getElem?_map, List.getElem?_range hi, Option.map_some, Option.some.injEq] at hx
  subst hx
  refine ⟨by simp [V2], fun j v hv => ?_⟩
  unfold V2 at hv
  rw [key i] at hv
  have hj : j < sz := by
   rcases Nat.lt_or_ge j sz with h | h
   ·exact h
   ·rw [List.getElem?_eq_none (by simpa using h)] at hv; cases hv
  simp only [List.getElem?_map, List.getElem?_range hj, Option.map_some, Option.some.injEq] at hv
  have hlt : i * sz + j < cs.length := by
   rw [hl]
   have : (i + 1) * sz ≤ xs.length * sz := Nat.mul_le_mul_right _ (by omega)
   rw [Nat.succ_mul] at this
   omega
  rw [← hv]
  simp [List.getD_eq_getElem?_getD, List.getElem?_eq_getElem hlt, List.getElem?_take, List.getElem?_drop, hj]
 ·rw [key i]
  exact hG.el i x hx
section ops
variable {d : Option Nat} {ty : TypeId} {pos : String} {af : Array Edge} {g : Option (Nat × Bool)}
theorem Qu {α : Type} {G : Jy → (Nat → Value) → α → Prop} {X : Operand} {t u sz : TypeId} {h : Jy} {v : Value} {xs : List α} (hu : P.underlying t = some (.slice u)) (hx : ev e X = v) (hs : FrN h sz v G xs) (w : World) :
  (execOp (ev e) ⟨d, .call ⟨.builtin .len, #[X], #[t]⟩, ty, pos, af, g⟩).run P w = .ok (.value (.int .i64 xs.length)) w :=
 r_len (P := P) (d := d) (ty := ty) (pos := pos) (af := af) (g := g) hu (hx.trans hs.eq) w
end ops
end rules
end Go.Lx

/- Rules: strings.Builder, as a chunk that holds octets. Conditions: none. -/
namespace Go.Lx
open Go Go.Vc Go.Md
section rules
variable {P : Program} {n : Nat} {cx : Cx} {Q : V5} {K : Qz → World → Prop} {e : Qz} {L : List Chunk} {ops : Array Oper} {F : Qz → List Chunk → Prop} {rest : List Oper} {ss : List Kd} {d : Nat} {ty : TypeId} {pos : String} {af : Array Edge} {g : Option (Nat × Bool)}
section ops
end ops
end rules
end Go.Lx

/- Rules: parts of arrays as arguments. Conditions: none. -/
namespace Go.Lx
open Go Go.Vc Go.Md
section rules
variable {P : Program} {cx : Cx} {e : Qz} {L : List Chunk}
end rules
theorem cells_sz {v : Value} (h : v.cells.toList = [v]) : v.cells.size = 1 := by have := congrArg List.length h; simpa using this
def litC (cs : List Value) (sz i : Nat) : List Value := (List.range sz).map fun j => ((cs.drop (i * sz)).take sz).getD j undef
theorem gAt_range {α : Type} {xs : List α} {i : Int} {x : α} (g : Qj xs i = some x) : Qj (List.range xs.length) i = some i.toNat := by
 obtain ⟨h0, h1, _⟩ := Y5 g
 rw [gAt_ok h0 (by simpa using h1)]; simp
def vcells : Value → List Value | .tuple vs => vs.toList.flatMap fun v => v.cells.toList | v => v.cells.toList
def vcell (v : Value) (k : Nat) : Value := (vcells v).getD k undef
section rules
variable {P : Program} {n : Nat} {cx : Cx} {e : Qz} {L : List Chunk} {d : Nat} {ty : TypeId} {pos : String} {af : Array Edge} {g : Option (Nat × Bool)}
theorem r_cap {dd : Option Nat} {X : Operand} {t u m c : Nat} {a : Option Addr} (hu : P.underlying t = some (.slice u)) (hx : ev e X = .slice a m c) (w : World) :
  (execOp (ev e) ⟨dd, .call ⟨.builtin .cap, #[X], #[t]⟩, ty, pos, af, g⟩).run P w = .ok (.value (.int .i64 (c : Nat))) w := by
 simp [execOp, resolve, invoke, builtin, hx, Builtin.cap_, run_underlying hu, goInt]
theorem r_sliceH0 {dd : Option Nat} {X B : Operand} {g0 m c : Nat} {t u sz : Nat} {kb : IntKind} (hu : P.underlying t = some (.slice u)) (hs : ∀ w, (sizeOf u).run P w = .ok sz w)
  (hx : ev e X = .slice (some ⟨g0, 0, none⟩) m c) (hb : ev e B = .int kb 0) (w : World) :
  (execOp (ev e) ⟨dd, .slice t X none (some B) none, ty, pos, af, g⟩).run P w = .ok (.value (.slice (some ⟨g0, 0, none⟩) 0 c)) w := by
 have h := r_sliceH (P := P) (d := dd) (ty := ty) (pos := pos) (af := af) (g := g) hu hs hx hb (Int.le_refl 0) (by omega) w
 have e1 : Zd (some (⟨g0, 0, none⟩ : Addr)) 0 c sz = some ⟨g0, 0, none⟩ := by
  unfold Zd; split
  ·rfl
  ·simp [Addr.add_lit]
 rw [h, e1]; rfl
end rules
end Go.Lx

/- Rules: slices of one's own whose elements hold slices: rows of raw cells, facts on what they stand for, and a pool of memory that nobody turns any more. Conditions: none. -/
namespace Go.Lx
open Go Go.Vc Go.Md
def V3 (l : List Value) : List Value := l
def Vw : Jy := fun _ => none
structure AllC {α : Type} (G : Jy → (Nat → Value) → α → Prop) (h : Jy) (sz : Nat) (css : List (List Value)) (xs : List α) : Prop where
 len : css.length = xs.length
 el : ∀ (i : Nat) (cs : List Value) (x : α), css[i]? = some cs → xs[i]? = some x → cs.length = sz ∧ G h (fun j => cs.getD j undef) x
section allc
variable {α : Type} {G : Jy → (Nat → Value) → α → Prop} {h h' : Jy} {sz : Nat} {css : List (List Value)} {xs ys : List α}
theorem AllC.nil : AllC G h sz [] ([] : List α) := ⟨rfl, by simp⟩
theorem AllC.snoc (p : AllC G h sz css xs) {cs : List Value} {x : α} (hl : cs.length = sz) (hG : G h (fun j => cs.getD j undef) x) : AllC G h sz (css ++ [cs]) (xs ++ [x]) := by
 refine ⟨by simp [p.len], fun i c y hc hy => ?_⟩
 rcases Nat.lt_or_ge i css.length with hi | hi
 ·rw [List.getElem?_append_left hi] at hc
  rw [List.getElem?_append_left (by rw [← p.len]; exact hi)] at hy
  exact p.el i c y hc hy
 ·rw [List.getElem?_append_right hi] at hc
  rw [List.getElem?_append_right (by rw [← p.len]; exact hi), ← p.len] at hy
  have h0 : i - css.length = 0 := by
   rcases Nat.eq_zero_or_pos (i - css.length) with h | h
   ·exact h
   ·obtain ⟨q, hq⟩ : ∃ q, i - css.length = q + 1 := ⟨i - css.length - 1, by omega⟩
    rw [hq] at hc; simp at hc
  rw [h0] at hc hy
  simp at hc hy
  subst hc hy
  exact ⟨hl, hG⟩
theorem AllC.mono [M : Mon G] (p : AllC G h sz css xs) (k : ∀ b o, h b = some o → h' b = some o) : AllC G h' sz css xs :=
 ⟨p.len, fun i c x hc hx => ⟨(p.el i c x hc hx).1, M.mono k _ _ (p.el i c x hc hx).2⟩⟩
theorem AllC.get (p : AllC G h sz css xs) {i : Int} {x : α} (g : Qj xs i = some x) : css[i.toNat]? = some (css.getD i.toNat []) := by
 obtain ⟨h0, h1, _⟩ := Y5 g
 rw [List.getD_eq_getElem?_getD, List.getElem?_eq_getElem (by rw [p.len]; exact h1)]; rfl
theorem AllC.ix (p : AllC G h sz css xs) {i : Int} {x : α} (g : Qj xs i = some x) : Qj css i = some (css.getD i.toNat []) := by
 unfold Qj; rw [if_pos (Y5 g).1]; exact p.get g
theorem AllC.at (p : AllC G h sz css xs) {i : Int} {x : α} (g : Qj xs i = some x) : G h (fun j => (css.getD i.toNat []).getD j undef) x := (p.el _ _ _ (p.get g) (Y5 g).2.2).2
theorem AllC.eta (p : AllC G h sz css xs) {i : Int} {x : α} (g : Qj xs i = some x) : V3 (css.getD i.toNat []) = (List.range sz).map fun j => (css.getD i.toNat []).getD j undef := by
 have hl := (p.el _ _ _ (p.get g) (Y5 g).2.2).1
 unfold V3
 generalize css.getD i.toNat [] = l at hl
 subst hl
 apply List.ext_getElem
 ·simp
 ·intro j h1 h2
  simp [List.getD_eq_getElem?_getD, List.getElem?_eq_getElem h1]
theorem AllC.app (p : AllC G h sz css xs) {by_ : Nat} {news zs : List α} {nc : List (List Value)} (g : X6 by_ xs news = some zs) (hn : nc.length = news.length) : X6 by_ css nc = some (css ++ nc) := by
 obtain ⟨_, h1, h2⟩ := Vu g
 exact Wo (by rw [p.len, hn]; exact ⟨h1, h2⟩)
theorem AllC.snocG (p : AllC G h sz css xs) {by_ : Nat} {x : α} {zs : List α} {cs : List Value} (g : X6 by_ xs [x] = some zs) (hl : cs.length = sz) (hG : G h (fun j => cs.getD j undef) x) : AllC G h sz (css ++ [cs]) zs := by
 obtain ⟨rfl, _⟩ := Vu g
 exact p.snoc hl hG
end allc
def Xh (base hp : Jy) : Chunk where
 P S w := (∀ b o, base b = some o → hp b = some o) ∧ ∀ b o, hp b = some o → base b = some o ∨ (S b ∧ w.heap[b]? = some o)
 loc S w w' h := fun ⟨h1, h2⟩ => ⟨h1, fun b o hb => (h2 b o hb).imp id fun ⟨hs, hw⟩ => ⟨hs, (h b hs).trans hw⟩⟩
section rules
variable {cx : Cx} {K : Qz → World → Prop} {e : Qz} {L : List Chunk} {base hp : Jy}
theorem Wt (base : Jy) (k : At cx K e (L ++ [Xh base base])) : At cx K e L :=
 ⟨fun w hF hS => k.out w hF (hS.snoc hF (Grow.refl w) (S := Zc) ⟨fun _ _ h => h, fun _ _ h => .inl h⟩ (fun _ h => h.elim))⟩
theorem c_poolLe (i : Nat) (hi : L[i]? = some (Xh base hp)) (k : (∀ b o, base b = some o → hp b = some o) → At cx K e L) : At cx K e L :=
 ⟨fun w hF hS => by
  obtain ⟨S, hp, _⟩ := hS.at hi
  exact (k hp.1).out w hF hS⟩
theorem pool_now {w : World} {i : Nat} (hS : Sat cx w L) (hi : L[i]? = some (Xh base hp)) (hb : ∀ b o, base b = some o → w.heap[b]? = some o) : ∀ b o, hp b = some o → w.heap[b]? = some o := fun b o h => by
 obtain ⟨S, hP, _⟩ := hS.at hi
 rcases hP.2 b o h with h | h
 ·exact hb b o h
 ·exact h.2
theorem noH_le {h : Jy} : ∀ b o, Vw b = some o → h b = some o := fun _ _ h => by cases h
open Classical in
theorem c_freeze {C : Chunk} {Φ : Jy → Prop} (i j : Nat) (hi : L[i]? = some (Xh base hp)) (hj : L[j]? = some C) (hne : i ≠ j) (hb : ∀ w, Fr cx w → ∀ b o, base b = some o → w.heap[b]? = some o)
  (hC : ∀ S w (H : Jy), C.P S w → (∀ b o, S b → w.heap[b]? = some o → H b = some o) → (∀ b o, hp b = some o → H b = some o) → Φ H)
  (k : ∀ hp', (∀ b o, hp b = some o → hp' b = some o) → Φ hp' → At cx K e ((L.set i (Xh base hp')).set j empC)) : At cx K e L :=
 ⟨fun w hF hS => by
  have hnow := pool_now hS hi (hb w hF)
  obtain ⟨fp, h1, h2, h3⟩ := hS.out
  have hil : i < L.length := by
   rcases Nat.lt_or_ge i L.length with h | h
   ·exact h
   ·simp [List.getElem?_eq_none h] at hi
  have hjl : j < L.length := by
   rcases Nat.lt_or_ge j L.length with h | h
   ·exact h
   ·simp [List.getElem?_eq_none h] at hj
  have hji : ¬ j = i := fun h => hne h.symm
  have le : ∀ b o, hp b = some o → (fun b => if fp j b then w.heap[b]? else hp b) b = some o := fun b o h => by
   show (if fp j b then w.heap[b]? else hp b) = some o
   split
   ·exact hnow b o h
   ·exact h
  refine (k (fun b => if fp j b then w.heap[b]? else hp b) le (hC (fp j) w _ (h1 j C hj) (fun b o hs h => by show (if fp j b then w.heap[b]? else hp b) = some o; rw [if_pos hs]; exact h) le)).out w hF ?_
  have key : ∀ q b, (if q = i then fp i b ∨ fp j b else if q = j then False else fp q b) → (q = i ∧ (fp i b ∨ fp j b)) ∨ (q ≠ i ∧ q ≠ j ∧ fp q b) := by
   intro q b h
   by_cases hqi : q = i
   ·simp only [hqi, if_true] at h; exact .inl ⟨hqi, h⟩
   ·by_cases hqj : q = j
    ·simp only [hqj, hji, if_true, if_false] at h
    ·simp only [hqi, hqj, if_false] at h; exact .inr ⟨hqi, hqj, h⟩
  refine ⟨fun q b => if q = i then fp i b ∨ fp j b else if q = j then False else fp q b, ?_, ?_, ?_⟩
  ·intro q c hc
   by_cases hqj : q = j
   ·subst hqj
    rw [List.getElem?_set_self (by simpa using hjl)] at hc
    cases hc
    show ∀ b, ¬ _
    intro b h
    simp [hji] at h
   ·rw [List.getElem?_set_ne (fun h => hqj h.symm)] at hc
    by_cases hqi : q = i
    ·subst hqi
     rw [List.getElem?_set_self hil] at hc
     cases hc
     simp only [if_true]
     have hP := h1 q _ hi
     refine ⟨fun b o h => le b o (hP.1 b o h), fun b o h => ?_⟩
     have h : (if fp j b then w.heap[b]? else hp b) = some o := h
     split at h
     ·rename_i hs; exact .inr ⟨.inr hs, h⟩
     ·rcases hP.2 b o h with h | h
      ·exact .inl h
      ·exact .inr ⟨.inl h.1, h.2⟩
    ·rw [List.getElem?_set_ne (fun h => hqi h.symm)] at hc
     simp only [hqi, hqj, if_false]
     exact h1 q c hc
  ·intro q b h
   rcases key q b h with ⟨rfl, h | h⟩ | ⟨_, _, h⟩
   ·have := h2 q b h; exact ⟨by simpa using hil, this.2⟩
   ·have := h2 j b h; exact ⟨by simpa using hil, this.2⟩
   ·have := h2 q b h; exact ⟨by simpa using this.1, this.2⟩
  ·intro q r b hq hr
   rcases key q b hq with ⟨hqi, hq | hq⟩ | ⟨hqi, hqj, hq⟩ <;> rcases key r b hr with ⟨hri, hr | hr⟩ | ⟨hri, hrj, hr⟩
   ·omega
   ·omega
   ·exact absurd (h3 i r b hq hr) (fun h => hri h.symm)
   ·omega
   ·omega
   ·exact absurd (h3 j r b hq hr) (fun h => hrj h.symm)
   ·exact absurd (h3 q i b hq hr) hqi
   ·exact absurd (h3 q j b hq hr) hqj
   ·exact h3 q r b hq hr⟩
theorem FrS.sub {w : World} {S : Nat → Prop} {H : Jy} {sz : Nat} {v : Value} {xs : List (List Value)} (f : FrS (fun b => w.heap[b]?) sz v xs) (hd : ∀ b, v.ownBlock = some b → S b) (hH : ∀ b o, S b → w.heap[b]? = some o → H b = some o) : FrS H sz v xs := by
 obtain ⟨a, c, rfl, h1, h2, r⟩ := f.out
 refine ⟨a, c, rfl, h1, h2, ?_⟩
 rcases r with r | ⟨b, off, cs, T, m, rfl, hb, r⟩
 ·exact .inl r
 ·exact .inr ⟨b, off, cs, T, m, rfl, hH b _ (hd b rfl) hb, r⟩
theorem fz_ro {α : Type} {sz n : Nat} {v : Value} {xs : List α} {f : α → List Value} (hp : Jy) : ∀ S w (H : Jy), (roV sz v n (xs.map f)).P S w → (∀ b o, S b → w.heap[b]? = some o → H b = some o) → (∀ b o, hp b = some o → H b = some o) → FrS H sz v (xs.map f) :=
 fun _ _ _ hP hH _ => hP.2.1.sub hP.2.2 hH
theorem fz_own {α : Type} {E sz n : Nat} {v : Value} {xs : List α} {f : α → List Value} (hp : Jy) : ∀ S w (H : Jy), (Qt E sz v n (xs.map f)).P S w → (∀ b o, S b → w.heap[b]? = some o → H b = some o) → (∀ b o, hp b = some o → H b = some o) → FrS H sz v (xs.map f) :=
 fun S w H hP hH k => fz_ro hp S w H ((row_ro E sz v n _).out S w hP) hH k
theorem frn_of {α : Type} {G : Jy → (Nat → Value) → α → Prop} {h : Jy} {sz : Nat} {v : Value} {css : List (List Value)} {xs : List α} (f : FrS h sz v (css.map V3)) (p : AllC G h sz css xs) : FrN h sz v G xs := by
 have hid : css.map V3 = css := by unfold V3; simp
 rw [hid] at f
 have cellE : ∀ i, i < xs.length → J6 h v sz i = fun j => (css.getD i []).getD j undef := by
  intro i hi
  funext j
  have hi' : i < css.length := by rw [p.len]; exact hi
  have hcl : (css[i]).length = sz := (p.el i css[i] xs[i] (List.getElem?_eq_getElem hi') (List.getElem?_eq_getElem hi)).1
  have e1 : css.getD i [] = css[i] := by simp [List.getD_eq_getElem?_getD, List.getElem?_eq_getElem hi']
  rw [e1]
  by_cases hj : j < sz
  ·obtain ⟨a, c, rfl, _, _, r⟩ := f.out
   rcases r with r | ⟨b, off, cs, T, m, rfl, hb, r⟩
   ·subst r; simp at hi'
   ·have h2 := (r i css[i] (List.getElem?_eq_getElem hi')).2 j ((css[i])[j]'(by omega)) (List.getElem?_eq_getElem (by omega))
    simp only [J6, if_pos hj, hb]
    rw [Array.getD_eq_getD_getElem?, h2]
    simp [List.getD_eq_getElem?_getD, List.getElem?_eq_getElem (show j < (css[i]).length by omega)]
  ·unfold J6
   rw [if_neg hj, List.getD_eq_getElem?_getD, List.getElem?_eq_none (by omega)]; rfl
 have cells : ∀ i, i < xs.length → V2 h v sz i = css.getD i [] := by
  intro i hi
  have hi' : i < css.length := by rw [p.len]; exact hi
  have hcl : (css[i]).length = sz := (p.el i css[i] xs[i] (List.getElem?_eq_getElem hi') (List.getElem?_eq_getElem hi)).1
  unfold V2
  rw [cellE i hi]
  have e1 : css.getD i [] = css[i] := by simp [List.getD_eq_getElem?_getD, List.getElem?_eq_getElem hi']
  rw [e1]
  apply List.ext_getElem
  ·simp [hcl]
  ·intro j h1 h2
   simp only [List.length_map, List.length_range] at h1
   simp [List.getD_eq_getElem?_getD, List.getElem?_eq_getElem h2]
 refine ⟨?_, fun i x hx => ?_⟩
 ·have e : (List.range xs.length).map (V2 h v sz) = css := by
   apply List.ext_getElem
   ·simp [p.len]
   ·intro i h1 h2
    simp only [List.length_map, List.length_range] at h1
    rw [List.getElem_map, List.getElem_range, cells i h1]
    simp [List.getD_eq_getElem?_getD, List.getElem?_eq_getElem h2]
  rw [e]; exact f
 ·have hi : i < xs.length := by
   rcases Nat.lt_or_ge i xs.length with h | h
   ·exact h
   ·rw [List.getElem?_eq_none h] at hx; cases hx
  have hi' : i < css.length := by rw [p.len]; exact hi
  rw [cellE i hi]
  have e1 : css.getD i [] = css[i] := by simp [List.getD_eq_getElem?_getD, List.getElem?_eq_getElem hi']
  rw [e1]
  exact (p.el i css[i] x (List.getElem?_eq_getElem hi') hx).2
theorem app63 {α : Type} {by_ : Nat} {xs ys zs : List α} (g : X6 by_ xs ys = some zs) : (xs ++ ys).length * by_ ≤ 140737488355328 := by
 obtain ⟨_, _, h⟩ := Vu g
 rwa [List.length_append]
open Classical in
theorem Wx {hp1 : Jy} (i j : Nat) (hi : L[i]? = some (Xh base hp)) (hj : L[j]? = some (Xh Vw hp1)) (hne : i ≠ j) (hb : ∀ w, Fr cx w → ∀ b o, base b = some o → w.heap[b]? = some o)
  (k : ∀ hp', (∀ b o, hp b = some o → hp' b = some o) → (∀ b o, hp1 b = some o → hp' b = some o) → At cx K e ((L.set i (Xh base hp')).set j empC)) : At cx K e L :=
 c_freeze (Φ := fun H => ∀ b o, hp1 b = some o → H b = some o) i j hi hj hne hb (fun S w H hP hH _ b o h => (hP.2 b o h).elim (fun h => by cases h) fun h => hH b o h.1 h.2) k
def V1 {α : Type} (E sz : Nat) (G : Jy → (Nat → Value) → α → Prop) (v : Value) (n : Nat) (xs : List α) : Chunk where
 P S w := ∃ (hp : Jy) (css : List (List Value)), AllC G hp sz css xs ∧ n = css.length ∧ (Xw (Xh Vw hp) (Qt E sz v n (css.map V3))).P S w
 loc S w w' h := by
  rintro ⟨hp, css, h1, h2, h3⟩
  exact ⟨hp, css, h1, h2, Chunk.loc _ _ _ _ h h3⟩
def roD {α : Type} (sz : Nat) (G : Jy → (Nat → Value) → α → Prop) (v : Value) (n : Nat) (xs : List α) : Chunk where
 P S w := ∃ (hp : Jy) (css : List (List Value)), AllC G hp sz css xs ∧ n = css.length ∧ (Xw (Xh Vw hp) (roV sz v n (css.map V3))).P S w
 loc S w w' h := by
  rintro ⟨hp, css, h1, h2, h3⟩
  exact ⟨hp, css, h1, h2, Chunk.loc _ _ _ _ h h3⟩
theorem imp_rowD {α : Type} {G : Jy → (Nat → Value) → α → Prop} {E sz n : Nat} {p : Option Addr × Nat} {css : List (List Value)} {xs : List α} (hn : n = css.length) (f : AllC G hp sz css xs) :
  Imp (Xw (Xh Vw hp) (Qt E sz (.slice p.1 n p.2) n (css.map V3))) (V1 E sz G (.slice p.1 n p.2) n xs) := ⟨fun S w h => ⟨hp, css, f, hn, h⟩⟩
theorem imp_roD {α : Type} {G : Jy → (Nat → Value) → α → Prop} {sz n : Nat} {p : Option Addr × Nat} {css : List (List Value)} {xs : List α} (hn : n = css.length) (f : AllC G hp sz css xs) :
  Imp (Xw (Xh Vw hp) (roV sz (.slice p.1 n p.2) n (css.map V3))) (roD sz G (.slice p.1 n p.2) n xs) := ⟨fun S w h => ⟨hp, css, f, hn, h⟩⟩
theorem c_show {C : Chunk} {τ : Type} {D : τ → Chunk} {φ : τ → Prop} (i : Nat) (hi : L[i]? = some C) (h : ∀ S w, C.P S w → ∃ t, φ t ∧ (D t).P S w) (k : ∀ t, φ t → At cx K e (L.set i (D t))) : At cx K e L :=
 ⟨fun w hF hS => by
  obtain ⟨fp, h1, h2, h3⟩ := hS.out
  obtain ⟨t, ht, hD⟩ := h _ _ (h1 i _ hi)
  have hil : i < L.length := by
   rcases Nat.lt_or_ge i L.length with h | h
   ·exact h
   ·simp [List.getElem?_eq_none h] at hi
  refine (k t ht).out w hF ⟨fp, fun j c hj => ?_, fun j b hb => by simpa using h2 j b hb, h3⟩
  by_cases hji : j = i
  ·subst hji
   rw [List.getElem?_set_self hil] at hj
   cases hj
   exact hD
  ·rw [List.getElem?_set_ne (fun h => hji h.symm)] at hj
   exact h1 j c hj⟩
theorem c_rowD {α : Type} {G : Jy → (Nat → Value) → α → Prop} {E sz n : Nat} {p : Option Addr × Nat} {xs : List α} (i : Nat) (hi : L[i]? = some (V1 E sz G (.slice p.1 n p.2) n xs))
  (k : ∀ (hp : Jy) (css : List (List Value)), n = css.length → AllC G hp sz css xs → At cx K e (L.set i (Xw (Xh Vw hp) (Qt E sz (.slice p.1 n p.2) n (css.map V3))))) : At cx K e L :=
 c_show (τ := Jy × List (List Value)) (D := fun t => Xw (Xh Vw t.1) (Qt E sz (.slice p.1 n p.2) n (t.2.map V3))) (φ := fun t => n = t.2.length ∧ AllC G t.1 sz t.2 xs) i hi (fun S w ⟨hp, css, h1, h2, h3⟩ => ⟨(hp, css), ⟨h2, h1⟩, h3⟩) fun t ht => k t.1 t.2 ht.1 ht.2
theorem c_roD {α : Type} {G : Jy → (Nat → Value) → α → Prop} {sz n : Nat} {p : Option Addr × Nat} {xs : List α} (i : Nat) (hi : L[i]? = some (roD sz G (.slice p.1 n p.2) n xs))
  (k : ∀ (hp : Jy) (css : List (List Value)), n = css.length → AllC G hp sz css xs → At cx K e (L.set i (Xw (Xh Vw hp) (roV sz (.slice p.1 n p.2) n (css.map V3))))) : At cx K e L :=
 c_show (τ := Jy × List (List Value)) (D := fun t => Xw (Xh Vw t.1) (roV sz (.slice p.1 n p.2) n (t.2.map V3))) (φ := fun t => n = t.2.length ∧ AllC G t.1 sz t.2 xs) i hi (fun S w ⟨hp, css, h1, h2, h3⟩ => ⟨(hp, css), ⟨h2, h1⟩, h3⟩) fun t ht => k t.1 t.2 ht.1 ht.2
end rules
end Go.Lx

/- The kit's contracts of slices.Sort at rows of one's own: the row is sorted in place. Conditions: the row is shorter than 2^62. -/
namespace Go.Vc
open Go Go.Md Go.Shelf Go.Sort Go.Proofs
theorem flat1 {α : Type} (f : α → Value) (l : List α) : (l.map fun x => [f x]).flatten = l.map f := by
 induction l with
 | nil => rfl
 | cons x l ih => simp [ih]
theorem sort_ints {P : Program} {ρ : Ren} (Ly : Lays.n189 P ρ) {E : TypeId} {a0 r : List Int} {p0 : Option Addr × Nat} {n0 : Nat} {w : World} {S : Nat → Prop}
  (hcs : (Qt E 1 (.slice p0.1 n0 p0.2) n0 (a0.map fun x => [.int .i64 x])).P S w) (hlt : ∀ b, S b → b < w.heap.size) (hn0 : n0 = a0.length) (H : gSortI a0 = some r) :
  Does P (ρ.f 189) (List.toArray [.slice p0.1 n0 p0.2]) w (fun v w' => ∃ _ : Unit, v = .tuple #[] ∧ Turn w w' S (Qt E 1 (.slice p0.1 n0 p0.2) n0 (r.map fun x => [.int .i64 x]))) := by
 obtain ⟨p, c⟩ := p0
 unfold gSortI at H
 split at H
 case isFalse => cases H
 rename_i hsz
 cases H
 subst hn0
 have hcs0 := hcs
 obtain ⟨⟨hown, hlen, hall⟩, hb⟩ := hcs
 rw [flat1] at hown
 rcases hown.2 with ⟨h0, h1⟩ | ⟨g, cap, cur, hv, hbase, hh, h1, h2, h3, h4⟩
 ·have hnil : a0 = [] := List.eq_nil_of_length_eq_zero h1
  subst hnil
  refine Calls.mono (Any.slices_Sort_int_none Ly p c w) ?_
  rintro e w' ⟨rfl, rfl⟩
  exact ⟨_, rfl, (), rfl, ⟨rfl, rfl, rfl, Nat.le_refl _, fun _ _ _ => rfl, S, by simpa using hcs0, fun b h => ⟨hlt b h, .inl h⟩⟩⟩
 ·simp only [Value.slice.injEq] at hv
  obtain ⟨hv1, -, hv2⟩ := hv
  subst hv1 hv2
  have hgl : g < w.heap.size := (Array.getElem?_eq_some_iff.1 hh).1
  have hH : Holds (Value.int .i64) w g 0 a0.toArray := holds_of_blockI hh (by simpa using h4)
  refine Calls.mono (Any.slices_Sort_int Ly g 0 c a0 w hH hgl hsz) ?_
  rintro e w' ⟨rfl, n, os, rfl⟩
  have hl : (a0.mergeSort fun x y => decide (x ≤ y)).length = a0.length := List.length_mergeSort _
  have hG := grownBy_sortedI (w := w) (g := g) (n := n) (os := os) (a0.mergeSort fun x y => decide (x ≤ y)).toArray
  obtain ⟨g1, g2, g3, g4, g5⟩ := hG
  have hR := ownsRow_sortedI (base := 0) (w := w) (n := n) (os := os) hl (Nat.zero_le _) hh h1 h2 h3
  have hSg : S g := hb g rfl
  refine ⟨_, rfl, (), rfl, ⟨g1, g2, g3, g4, fun b hbl hnb => g5 b hbl (fun h => hnb (by cases h; exact hSg)), S, ⟨⟨by rw [flat1]; exact hR, by simp [hl], fun x hx => ?_⟩, hb⟩, fun b h => ⟨Nat.lt_of_lt_of_le (hlt b h) g4, .inl h⟩⟩⟩
  obtain ⟨y, _, rfl⟩ := List.mem_map.1 hx
  rfl
end Go.Vc

/- The kit's contracts of decimal numerals, of octets in strings, of strings.Repeat and strings.Join, in our words; tables among the package's variables. Conditions: none. -/
namespace Go.Lx
open Go Go.Vc Go.Md Go.Shelf Go.Proofs
theorem ixB_lib (l : List UInt8) (c : UInt8) : ixB l c = Lib.indexByte l c := by
 induction l with
 | nil => rfl
 | cons b l ih => simp only [ixB, Lib.indexByte, ih, beq_iff_eq]
theorem run_ixB {P : Program} {s : List UInt8} {c r : Int} (h : gIxB s c = some r) (w : World) : (Extern.BytealgIndexByte.indexByte #[str s, .int .u8 c]).run P w = .ok (.int .i64 r) w := by
 cases h
 rw [Lib.run_indexByteString, ixB_lib]
def TabH (P : Program) (h : Jy) (name : String) (k : IntKind) (zs : List Int) : Prop := ∃ g T m, P.globalNamed name = some g ∧ h g = some (.cells (zs.map fun z => Value.int k z).toArray T m)
theorem TabH.mono {P : Program} {h h' : Jy} {name : String} {k : IntKind} {zs : List Int} (t : TabH P h name k zs) (hh : ∀ b o, h b = some o → h' b = some o) : TabH P h' name k zs := by
 obtain ⟨g, T, m, h1, h2⟩ := t
 exact ⟨g, T, m, h1, hh _ _ h2⟩
theorem repeat_lib (s : List UInt8) (n : Nat) : (List.replicate n s).flatten = Lib.repeatL s n := by
 induction n with
 | zero => rfl
 | succ n ih => rw [List.replicate_succ, List.flatten_cons, ih]; rfl
theorem rep_ret {P : Program} {ρ : Ren} (L : Lays.n105 P ρ) (X : Builder.Extra P ρ) {s r : List UInt8} {n : Int} (H : gRep s n = some r) : Ret P (ρ.f 105) [str s, .int .i64 n] (str r) := fun w => by
 unfold gRep at H
 split at H
 case isFalse => cases H
 rename_i hr
 cases H
 obtain ⟨k, rfl⟩ : ∃ k : Nat, n = k := ⟨n.toNat, by omega⟩
 refine Calls.mono (Any.strings_Repeat L X ⟨s.toArray⟩ k w (by omega) (by simpa [ByteArray.size] using hr.2.2)) ?_
 rintro e w' ⟨rfl, hb⟩
 exact ⟨_, rfl, by rw [repeat_lib]; rfl, hb⟩
end Go.Lx

/- The kit's contract of slices.Compact at rows of one's own. Conditions: none. -/
namespace Go.Vc
open Go Go.Md Go.Shelf Go.Sort Go.Proofs
end Go.Vc
namespace Go.Lx
open Go Go.Vc
section ops
variable {P : Program} {e : Qz} {d : Option Nat} {ty : TypeId} {pos : String} {af : Array Edge} {g : Option (Nat × Bool)}
end ops
end Go.Lx

/- Rules: rows of one's own that are known to have room: append within it. Conditions: none. -/
namespace Go.Lx
open Go Go.Vc Go.Md
def _root_.Go.Vc.Kd.dv (a : Nat) (rds : List Nat) (φ : Value → Value) : Kd := .g [a] rds [] (fun vs _ v => v = φ (vs.headD undef)) (fun _ _ _ => [])
section rules
variable {P : Program} {cx : Cx} {ops : Array Oper} {F : Qz → List Chunk → Prop} {ss : List Kd} {rest : List Oper} {e : Qz} {L : List Chunk}
end rules
def rowC (E : TypeId) (sz : Nat) (v : Value) (n : Nat) (xs : List (List Value)) (c : Nat) : Chunk where
 P S w := (Qt E sz v n xs).P S w ∧ c ≤ sc v
 loc S w w' h := fun ⟨h1, h2⟩ => ⟨(Qt E sz v n xs).loc S w w' h h1, h2⟩
theorem imp_rowC (E : TypeId) (sz : Nat) (v : Value) (n : Nat) (xs : List (List Value)) (c : Nat) : Imp (rowC E sz v n xs c) (Qt E sz v n xs) := ⟨fun _ _ h => h.1⟩
theorem imp_C0 (E : TypeId) (sz : Nat) (v : Value) : Imp (Qt E sz v 0 []) (rowC E sz v 0 [] 0) := ⟨fun _ _ h => ⟨h, Nat.zero_le _⟩⟩
section rules
variable {P : Program} {n : Nat} {cx : Cx} {e : Qz} {L : List Chunk} {d : Nat} {ty : TypeId} {pos : String} {af : Array Edge} {g : Option (Nat × Bool)}
theorem makes_zerosC {S N : Operand} {t tn E : TypeId} {I : TypeInfo} {z : Value} {sz by_ m : Nat} {k kn : IntKind} {rds : List Nat} (ht : P.underlying t = some (.slice E)) (htn : P.underlying tn = some (.int kn)) (hi : P.info? E = some I) (hz : I.zero = some z) (hsize : I.size = sz) (hby : I.bytes = by_) (hzs : z.cells.size = sz) (hsz : Nat.blt 0 sz = true)
  (hs : ev e S = .slice none 0 0) (hn : ev e N = .int k (m : Int)) (h0 : 0 < m) (hm : m ≤ 281474976710656) (hb : by_ * m ≤ 281474976710656) :
  Makes P cx e ⟨some d, .call ⟨.builtin .append, #[S, N], #[t, tn]⟩, ty, pos, af, g⟩ L rds (fun x : Nat × Nat => .slice (some ⟨x.1, 0, none⟩) m x.2) (fun x => rowC E sz (.slice (some ⟨x.1, 0, none⟩) 0 x.2) 0 [] m) := fun w L' hF hS hi' => by
 subst hsize hby
 have hr := Lib.run_append_nil_zeros (P := P) w t tn ty E I z k kn ht htn hi hz m h0 (by simpa using hsz) (by omega) (by rw [Nat.mul_comm]; omega)
 have hge := grownCap_ge w m 0 E
 have hcm : grownCap w m 0 E ≤ maxLen := grownCap_le_maxLen w m 0 E (by simp only [maxLen]; omega)
 have he : (execOp (ev e) ⟨some d, .call ⟨.builtin .append, #[S, N], #[t, tn]⟩, ty, pos, af, g⟩).run P w = .ok (.value (.slice (some ⟨w.heap.size, 0, none⟩) m (grownCap w m 0 E))) (w.drew.alloc (.cells (Builtin.zeroCells z.cells m ++ Builtin.zeroCells z.cells (grownCap w m 0 E - m)) E)) := by
  simp only [execOp, resolve, invoke, builtin, Sem.run_bind, Sem.run_pure, Result.andThen_ok, List.map_toArray, List.map_cons, List.map_nil, hs, hn, hr]
 unfold RunsTo
 rw [he]
 have hby := grown_by w (.cells (Builtin.zeroCells z.cells m ++ Builtin.zeroCells z.cells (grownCap w m 0 E - m)) E) none
 refine ⟨(w.heap.size, grownCap w m 0 E), rfl, hby.os, hby.tape, hby.output, hby.size, fun b hb _ => hby.block b hb (by simp), fun b => b = w.heap.size, ⟨⟨⟨⟨by simp, .inr ⟨w.heap.size, _, _, rfl, Nat.zero_le _, heap_alloc_new w.drew _, Nat.zero_le _, hcm, ?_, by simp⟩⟩, rfl, by simp⟩, fun b hb => ?_⟩, hge⟩, fun b hb => ?_⟩
 ·simp only [Array.size_append, size_zeroCells, hzs]
  rw [← Nat.add_mul]
  congr 1
  omega
 ·simp [Value.ownBlock] at hb; exact hb.symm
 ·subst hb
  exact ⟨by simp, .inr (Nat.le_refl _)⟩
end rules
end Go.Lx

/- Taking elements out of a row of one's own: append(s[:a], s[b:]...) at one row. Conditions: none. -/
namespace Go.Lx
open Go Go.Vc Go.Md
section rules
variable {P : Program} {n : Nat} {cx : Cx} {e : Qz} {L : List Chunk} {d : Nat} {ty : TypeId} {pos : String} {af : Array Edge} {g : Option (Nat × Bool)}
end rules
end Go.Lx

/- Rules: the beginning of a row of one's own as a row, slices with three indices, clear of a part of a row. Conditions: none. -/
namespace Go.Lx
open Go Go.Vc Go.Md
section ops
variable {P : Program} {e : Qz} {d : Option Nat} {ty : TypeId} {pos : String} {af : Array Edge} {g : Option (Nat × Bool)}
end ops
section rules
variable {P : Program} {n : Nat} {cx : Cx} {e : Qz} {L : List Chunk} {d : Nat} {ty : TypeId} {pos : String} {af : Array Edge} {g : Option (Nat × Bool)}
theorem Turns.pre {σ : Type} {o : Oper} {i : Nat} {rds : List Nat} {G : σ → Value} {D : σ → Chunk} {C C' : Chunk} (hI : Imp C C') (hL : L[i]? = some C) (hr : i ∉ rds) (h : Turns P cx e o (L.set i C') i rds G D) : Turns P cx e o L i rds G D := by
 intro w L' hF hS hl hi
 have hLi := (hi i (.inr rfl)).trans hL
 have hS' : Sat cx w (L'.set i C') := hS.set hF hLi (Nat.le_refl _) fun S hp hb => ⟨S, hI.out S w hp, fun b hs => ⟨(hb b hs).1, .inl hs⟩, fun _ _ _ => rfl⟩
 have hil : i < L.length := by
  rcases Nat.lt_or_ge i L.length with h | h
  ·exact h
  ·rw [List.getElem?_eq_none h] at hL; cases hL
 have := h w (L'.set i C') hF hS' (by simp [hl]) fun j hj => by
  by_cases hji : j = i
  ·subst hji; rw [List.getElem?_set_self (by omega), List.getElem?_set_self hil]
  ·rw [List.getElem?_set_ne (fun e => hji e.symm), List.getElem?_set_ne (fun e => hji e.symm)]
   exact hi j (hj.imp_right fun h => h)
 simpa [List.set_set] using this
end rules
end Go.Lx

/- Rules: results that are pointers, nil or to new memory. Conditions: none. -/
namespace Go.Lx
open Go Go.Vc Go.Md
section rules
variable {cx : Cx} {K : Qz → World → Prop} {e : Qz} {L : List Chunk}
end rules
section ops
variable {P : Program} {cx : Cx} {e : Qz} {L : List Chunk} {d : Option Nat} {ty : TypeId} {pos : String} {af : Array Edge} {g : Option (Nat × Bool)}
end ops
section rules
variable {P : Program} {cx : Cx} {ops : Array Oper} {F : Qz → List Chunk → Prop} {rest : List Oper} {ss : List Kd} {e : Qz} {L : List Chunk} {d : Nat}
end rules
end Go.Lx

/- Rules: rows out of strings (their block bears a mark behind its cells), appended to; append of something to a row that may be full. Conditions: none. -/
namespace Go.Lx
open Go Go.Vc Go.Md
section plain
variable {P : Program}
end plain
def markR (w : World) (E sz : Nat) (v : Value) (n : Nat) (xs : List (List Value)) : Prop :=
 ∃ g cap cur k, v = .slice (some ⟨g, 0, none⟩) n cap ∧ w.heap[g]? = some (.cells cur E k) ∧ cur.size ≤ k.1 ∧ n ≤ cap ∧ cap ≤ maxLen ∧ cur.size = cap * sz ∧ cur.toList.take (n * sz) = xs.flatten
def mkC (w : World) (E sz : Nat) (v : Value) (n : Nat) (xs : List (List Value)) : Prop :=
 (apC w E sz v n xs ∨ markR w E sz v n xs) ∧ xs.length = n ∧ ∀ x ∈ xs, x.length = sz
theorem markR.frs {w : World} {E sz : Nat} {v : Value} {n : Nat} {xs : List (List Value)} (h : markR w E sz v n xs) (hn : xs.length = n) (hl : ∀ x ∈ xs, x.length = sz) : FrS (fun b => w.heap[b]?) sz v xs := by
 obtain ⟨g, cap, cur, k, rfl, hh, _, hnc, hm, hcs, ht⟩ := h
 subst hn
 refine ⟨some ⟨g, 0, none⟩, cap, rfl, hnc, by simpa [maxLen] using hm, .inr ⟨g, 0, cur, E, k, rfl, hh, fun i x hx => ⟨hl x (List.mem_of_getElem? hx), fun j v hv => ?_⟩⟩⟩
 have hi : i < xs.length := by
  rcases Nat.lt_or_ge i xs.length with h | h
  ·exact h
  ·rw [List.getElem?_eq_none h] at hx; cases hx
 have hj : j < sz := by
  have := hl x (List.mem_of_getElem? hx)
  rcases Nat.lt_or_ge j x.length with h | h
  ·omega
  ·rw [List.getElem?_eq_none h] at hv; cases hv
 have hr := row_get xs i x (List.all_eq_true.2 fun x hx => by simpa using hl x hx) hx j v hv
 rw [← ht, List.getElem?_take] at hr
 split at hr
 ·rw [Nat.zero_add, ← Array.getElem?_toList]; exact hr
 ·cases hr
theorem mkC.frs {w : World} {E sz : Nat} {v : Value} {n : Nat} {xs : List (List Value)} (h : mkC w E sz v n xs) : FrS (fun b => w.heap[b]?) sz v xs :=
 h.1.elim (fun h1 => h1.frs) (fun h1 => h1.frs h.2.1 h.2.2)
theorem mkC.lt {w : World} {E sz : Nat} {v : Value} {n : Nat} {xs : List (List Value)} (h : mkC w E sz v n xs) (b : Nat) (hb : v.ownBlock = some b) : b < w.heap.size := by
 rcases h.1 with h1 | ⟨g, cap, cur, k, rfl, h1, _⟩
 ·exact h1.lt b hb
 ·simp [Value.ownBlock] at hb
  subst hb
  exact (Array.getElem?_eq_some_iff.1 h1).1
theorem mkC.slice {w : World} {E sz : Nat} {v : Value} {n : Nat} {xs : List (List Value)} (h : mkC w E sz v n xs) : ∃ p : Option Addr × Nat, v = .slice p.1 n p.2 := by
 rcases h.1 with h1 | ⟨g, cap, cur, k, rfl, _⟩
 ·exact h1.slice
 ·exact ⟨(some ⟨g, 0, none⟩, cap), rfl⟩
section rules
variable {P : Program} {n : Nat} {cx : Cx} {e : Qz} {L : List Chunk} {d : Nat} {ty : TypeId} {pos : String} {af : Array Edge} {g : Option (Nat × Bool)}
end rules
theorem frsMono {h h' : Jy} {sz n : Nat} {v : Value} (f : FrS h sz v ((List.range n).map (V2 h v sz))) (k : ∀ b o, h b = some o → h' b = some o) : FrS h' sz v ((List.range n).map (V2 h' v sz)) := by
 have := f.mono k
 have e : (List.range n).map (V2 h v sz) = (List.range n).map (V2 h' v sz) := by
  apply List.map_congr_left
  intro i hi
  unfold V2
  rw [elH_mono f (by rw [List.length_map, List.length_range]; have := List.mem_range.1 hi; omega) k i]
 rwa [e] at this
theorem elMonoE {α : Type} {h h' : Jy} {sz i : Nat} {v : Value} {xs : List α} {y : α} (f : FrS h sz v ((List.range xs.length).map (V2 h v sz))) (k : ∀ b o, h b = some o → h' b = some o) (hy : xs[i]? = some y) : J6 h v sz i = J6 h' v sz i := by
 have hi : i < xs.length := (List.getElem?_eq_some_iff.1 hy).1
 exact elH_mono f (by rw [List.length_map, List.length_range]; omega) k i
end Go.Lx

/- Rules: maps of one's own: made, read, written, ranged over in whatever order. Conditions: those that each rule names. -/
namespace Go.Lx
open Go Go.Vc Go.Md
open Go.MapKept (IsKey Stamped)
structure KeyF {κ : Type} (d : TypeDesc) (fk : κ → Value) : Prop where
 isKey : ∀ k, IsKey d (fk k)
 inj : ∀ a b, fk a = fk b → a = b
theorem keyF_int {k : IntKind} : KeyF (.int k) (fun x : Int => Value.int k x) := ⟨fun x => by simp [IsKey], fun a b h => by simpa using h⟩
def Ents {κ ν : Type} (fk : κ → Value) (fv : ν → Value) (es : List MapEntry) (xs : List (κ × ν)) : Prop := es.map (fun e => (e.key, e.val)) = xs.map (fun p => (fk p.1, fv p.2))
def mapC {κ ν : Type} (fk : κ → Value) (fv : ν → Value) (b : Nat) (xs : List (κ × ν)) : Chunk where
 P S w := (∀ x, S x ↔ x = b) ∧ ∃ es clock, w.heap[b]? = some (.map es clock) ∧ Stamped es clock ∧ Ents fk fv es.toList xs
 loc S w w' h hp := ⟨hp.1, by rw [h b ((hp.1 b).2 rfl)]; exact hp.2⟩
theorem Ents.len {κ ν : Type} {fk : κ → Value} {fv : ν → Value} {es : List MapEntry} {xs : List (κ × ν)} (h : Ents fk fv es xs) : es.length = xs.length := by
 have := congrArg List.length h; simpa using this
theorem Ents.keys {κ ν : Type} {fk : κ → Value} {fv : ν → Value} {es : List MapEntry} {xs : List (κ × ν)} (h : Ents fk fv es xs) : es.map (·.key) = xs.map (fun p => fk p.1) := by
 have := congrArg (List.map Prod.fst) h; simpa [Function.comp_def] using this
theorem Ents.isKey {κ ν : Type} {d : TypeDesc} {fk : κ → Value} {fv : ν → Value} (K : KeyF d fk) {es : List MapEntry} {xs : List (κ × ν)} (h : Ents fk fv es xs) : ∀ x ∈ es, IsKey d x.key := by
 intro x hx
 have : x.key ∈ es.map (·.key) := List.mem_map.2 ⟨x, hx, rfl⟩
 rw [h.keys] at this
 obtain ⟨p, _, hp⟩ := List.mem_map.1 this
 rw [← hp]; exact K.isKey _
theorem Ents.at {κ ν : Type} {fk : κ → Value} {fv : ν → Value} {es : List MapEntry} {xs : List (κ × ν)} (h : Ents fk fv es xs) {j : Nat} {e : MapEntry} (he : es[j]? = some e) : ∃ p, xs[j]? = some p ∧ e.key = fk p.1 ∧ e.val = fv p.2 := by
 have := congrArg (fun l => l[j]?) h
 simp only [List.getElem?_map, he, Option.map_some] at this
 cases hx : xs[j]? with
 | none => rw [hx] at this; simp at this
 | some p => rw [hx] at this; simp at this; exact ⟨p, rfl, this.1, this.2⟩
section find
variable {κ ν : Type} [DecidableEq κ] {d : TypeDesc} {fk : κ → Value} {fv : ν → Value}
theorem mGet_none {xs : List (κ × ν)} {k : κ} (h : ∀ p ∈ xs, p.1 ≠ k) : mGet xs k = none ∧ mHas xs k = false := by
 constructor
 ·unfold mGet
  rw [List.find?_eq_none.2 (fun p hp => by simpa using h p hp)]; rfl
 ·unfold mHas
  rw [List.any_eq_false]
  intro p hp; simpa using h p hp
theorem mGet_at : ∀ {xs : List (κ × ν)} {k : κ} {j : Nat} {v : ν}, (xs.map (·.1)).Nodup → xs[j]? = some (k, v) → mGet xs k = some v ∧ mHas xs k = true
 | [], _, j, _, _, h => by simp at h
 | p :: xs, k, 0, v, _, h => by simp at h; subst h; simp [mGet, mHas]
 | p :: xs, k, j + 1, v, hn, h => by
  simp only [List.getElem?_cons_succ] at h
  simp only [List.map_cons, List.nodup_cons] at hn
  have hne : p.1 ≠ k := fun q => hn.1 (q ▸ List.mem_map.2 ⟨(k, v), List.mem_of_getElem? h, rfl⟩)
  obtain ⟨h1, h2⟩ := mGet_at hn.2 h
  constructor
  ·unfold mGet at h1 ⊢
   rw [List.find?_cons_of_neg (by simpa using hne)]; exact h1
  ·unfold mHas at h2 ⊢
   simp only [List.any_cons, h2, Bool.or_true]
omit [DecidableEq κ] in
theorem nodup_of (K : KeyF d fk) {es : List MapEntry} {xs : List (κ × ν)} (h : Ents fk fv es xs) (hn : (es.map (·.key)).Nodup) : (xs.map (·.1)).Nodup := by
 rw [h.keys] at hn
 have : xs.map (fun p => fk p.1) = (xs.map (·.1)).map fk := by simp
 rw [this] at hn
 exact (List.pairwise_map.1 hn).imp fun h q => h (congrArg fk q)
theorem find_map (K : KeyF d fk) {es : List MapEntry} {xs : List (κ × ν)} (h : Ents fk fv es xs) (hn : (es.map (·.key)).Nodup) (k : κ) :
  (Instr.findNow d (fk k) es 0 = some none ∧ (∀ x ∈ es, x.key ≠ fk k) ∧ mGet xs k = none ∧ mHas xs k = false) ∨
  ∃ j e v, Instr.findNow d (fk k) es 0 = some (some (j, e.val)) ∧ es[j]? = some e ∧ e.key = fk k ∧ e.val = fv v ∧ xs[j]? = some (k, v) ∧ mGet xs k = some v ∧ mHas xs k = true := by
 rcases Go.MapKept.findNow_spec (K.isKey k) es 0 (h.isKey K) with ⟨h1, h2⟩ | ⟨j, e, h1, h2, h3⟩
 ·refine .inl ⟨h1, h2, mGet_none fun p hp q => ?_⟩
  have : fk p.1 ∈ es.map (·.key) := by rw [h.keys]; exact List.mem_map.2 ⟨p, hp, rfl⟩
  obtain ⟨x, hx, hk⟩ := List.mem_map.1 this
  exact h2 x hx (by rw [hk, q])
 ·obtain ⟨p, hp, e1, e2⟩ := h.at h2
  have hk : p.1 = k := K.inj _ _ (e1.symm.trans h3)
  have hp' : xs[j]? = some (k, p.2) := by rw [hp, ← hk]
  have := mGet_at (nodup_of K h hn) hp'
  exact .inr ⟨j, e, p.2, by simpa using h1, h2, h3, e2, hp', this.1, this.2⟩
end find
theorem ents_modify {κ ν : Type} [DecidableEq κ] {fk : κ → Value} {fv : ν → Value} {es : Array MapEntry} {xs : List (κ × ν)} {j : Nat} {k : κ} {v v0 : ν} (h : Ents fk fv es.toList xs) (hn : (xs.map (·.1)).Nodup) (hj : xs[j]? = some (k, v0)) (hh : mHas xs k = true) :
  Ents fk fv (es.modify j fun e => { e with key := fk k, val := fv v }).toList (mSet xs k v) := by
 have hm : mSet xs k v = xs.map fun p => if p.1 = k then (k, v) else p := by unfold mSet; rw [if_pos hh]
 rw [hm]
 unfold Ents
 apply List.ext_getElem?
 intro i
 have hi := congrArg (fun l => l[i]?) h
 simp only [List.getElem?_map, Array.getElem?_toList, Array.getElem?_modify] at hi ⊢
 by_cases hij : j = i
 ·subst hij
  rw [hj] at hi ⊢
  simp only [if_true, Option.map_some, Option.map_map]
  cases he : es[j]? with
  | none => rw [he] at hi; simp at hi
  | some e => simp
 ·rw [if_neg hij, hi]
  cases hx : xs[i]? with
  | none => rfl
  | some p =>
   have hne : p.1 ≠ k := by
    intro q
    have hil : i < xs.length := by
     rcases Nat.lt_or_ge i xs.length with h | h
     ·exact h
     ·rw [List.getElem?_eq_none h] at hx; cases hx
    have hjl : j < xs.length := by
     rcases Nat.lt_or_ge j xs.length with h | h
     ·exact h
     ·rw [List.getElem?_eq_none h] at hj; cases hj
    have H := List.pairwise_iff_getElem.1 hn
    have ej : (xs.map (·.1))[j]'(by simpa using hjl) = k := by
     have := (List.getElem?_eq_some_iff.1 hj).2; simp [this]
    have ei : (xs.map (·.1))[i]'(by simpa using hil) = k := by
     have := (List.getElem?_eq_some_iff.1 hx).2; simp [this, q]
    rcases Nat.lt_trichotomy j i with l | l | l
    ·exact H j i (by simpa using hjl) (by simpa using hil) l (ej.trans ei.symm)
    ·exact hij l
    ·exact H i j (by simpa using hil) (by simpa using hjl) l (ei.trans ej.symm)
   simp [hne]
theorem ents_push {κ ν : Type} [DecidableEq κ] {fk : κ → Value} {fv : ν → Value} {es : Array MapEntry} {xs : List (κ × ν)} {k : κ} {v : ν} {c : Nat} (h : Ents fk fv es.toList xs) (hh : mHas xs k = false) :
  Ents fk fv (es.push { key := fk k, val := fv v, born := c }).toList (mSet xs k v) := by
 have hm : mSet xs k v = xs ++ [(k, v)] := by unfold mSet; rw [if_neg (by simp [hh])]
 rw [hm]
 unfold Ents at h ⊢
 simp [h]
section ops
variable {P : Program} {cx : Cx} {e : Qz} {L : List Chunk} {ty : TypeId} {pos : String} {af : Array Edge} {g : Option (Nat × Bool)}
variable {κ ν : Type} [DecidableEq κ] {fk : κ → Value} {fv : ν → Value}
omit [DecidableEq κ] in
theorem makes_map {t d : Nat} {rds : List Nat} : Makes P cx e ⟨some d, .makeMap t none, ty, pos, af, g⟩ L rds (fun b : Nat => .map (some b)) (fun b => mapC fk fv b ([] : List (κ × ν))) := fun w L' hF hS _ => by
 unfold RunsTo
 have hr : (execOp (ev e) ⟨some d, .makeMap t none, ty, pos, af, g⟩).run P w = .ok (.value (.map (some w.heap.size))) (w.alloc (.map #[] 0)) := by
  simp [execOp, Instr.makeMap]
 rw [hr]
 have gr := Z8 w (.map #[] 0)
 exact ⟨w.heap.size, rfl, gr.os, gr.tape, gr.output, gr.size, fun b hb _ => gr.block b hb, fun x => x = w.heap.size, ⟨fun _ => Iff.rfl, #[], 0, Go.heap_alloc_new w _, Go.MapKept.stamped_empty 0, rfl⟩, fun b hb => by subst hb; exact ⟨by simp, .inr (Nat.le_refl _)⟩⟩
theorem turns_mset {u : Bool} {dk : TypeDesc} {t kt et : TypeId} {M I X : Operand} {b i : Nat} {xs : List (κ × ν)} {k : κ} {v : ν} {rds : List Nat} {o : Op} (K : KeyF dk fk) (ho : o = .insert t M I X ∨ o = .mapUpdate t M I X) (ht : P.underlying t = some (.map kt et)) (hk : P.underlying kt = some dk)
  (hm : ev e M = .map (some b)) (hi : ev e I = fk k) (hx : ev e X = fv v) (hL : L[i]? = some (mapC fk fv b xs)) {dst : Option Nat} :
  Turns P cx e ⟨dst, o, ty, pos, af, g⟩ L i rds (fun _ : Unit => undef) (fun _ => mapC fk fv b (mSet xs k v)) := fun w L' hF hS _ hi' => by
 have hL' := (hi' i (.inr rfl)).trans hL
 obtain ⟨S, ⟨_, es, clock, hb, hst, hen⟩, _⟩ := hS.at hL'
 have hlt : b < w.heap.size := (Array.getElem?_eq_some_iff.1 hb).1
 obtain ⟨es', clock', hrun, hst', hen'⟩ : ∃ es' clock', (execOp (ev e) ⟨dst, o, ty, pos, af, g⟩).run P w = .ok .skip { w with heap := w.heap.setIfInBounds b (.map es' clock') } ∧ Stamped es' clock' ∧ Ents fk fv es'.toList (mSet xs k v) := by
  rcases find_map K hen hst.2.2 k with ⟨h1, h2, _, h4⟩ | ⟨j, e0, v0, h1, h2, h3, _, h5, _, h7⟩
  ·refine ⟨_, _, ?_, Go.MapKept.stamped_push hst h2, ents_push (v := v) hen h4⟩
   rcases ho with rfl | rfl <;> simp [execOp, Instr.mapUpdate, hm, hi, hx, run_underlying ht, Go.MapKept.run_getObj_map hb, Go.MapKept.run_checkKey hk (K.isKey k), Go.MapKept.run_findKey hk h1, Go.MapKept.run_setObj_map _ hb, Result.andThen]
  ·have h2' : es[j]? = some e0 := by simpa using h2
   refine ⟨es.modify j fun e => { e with key := fk k, val := fv v }, clock, ?_, Go.MapKept.stamped_modify hst j _ (fun _ _ => rfl) (fun x _ hx => by rw [h2'] at hx; cases hx; exact h3.symm), ents_modify (v := v) hen (nodup_of K hen hst.2.2) h5 h7⟩
   rcases ho with rfl | rfl <;> simp [execOp, Instr.mapUpdate, hm, hi, hx, run_underlying ht, Go.MapKept.run_getObj_map hb, Go.MapKept.run_checkKey hk (K.isKey k), Go.MapKept.run_findKey hk h1, h2', h3, Go.MapKept.run_keyThatStays (K.isKey k), Go.MapKept.run_setObj_map _ hb, Result.andThen]
 unfold RunsTo
 rw [hrun]
 have hS' := hS.turnOf (w' := { w with heap := w.heap.setIfInBounds b (.map es' clock') }) hF hL' (C := mapC fk fv b (mSet xs k v)) fun S1 hp1 =>
  ⟨rfl, rfl, rfl, by simp, fun x _ hx => by rw [Array.getElem?_setIfInBounds_ne (fun h => hx ((hp1.1 x).2 h.symm))], S1, ⟨hp1.1, es', clock', by simp [hlt], hst', hen'⟩, fun x hx => ⟨by rw [(hp1.1 x).1 hx]; simpa using hlt, .inl hx⟩⟩
 exact ⟨(), rfl, hS'.1, hS'.2⟩
def mitC {κ ν : Type} (fk : κ → Value) (fv : ν → Value) (b r : Nat) (xs rest : List (κ × ν)) (cur : Option (κ × ν)) : Chunk where
 P S w := (∀ x, S x ↔ x = b ∨ x = r) ∧ b ≠ r ∧ ∃ (es : Array MapEntry) (clock : Nat) (seen : Array Nat), w.heap[b]? = some (.map es clock) ∧ w.heap[r]? = some (.mapIter (some b) clock seen clock) ∧ Stamped es clock ∧ Ents fk fv es.toList xs ∧ Ents fk fv (leftOf es seen).toList rest ∧
  ∀ p, cur = some p → ∃ (seen0 : Array Nat) (e : MapEntry), seen = seen0.push e.born ∧ e ∈ es.toList ∧ e.key = fk p.1 ∧ e.val = fv p.2
 loc S w w' h hp := ⟨hp.1, hp.2.1, by rw [h b ((hp.1 b).2 (.inl rfl)), h r ((hp.1 r).2 (.inr rfl))]; exact hp.2.2⟩
omit [DecidableEq κ] in
theorem imp_mit {b r : Nat} {xs rest : List (κ × ν)} (cur : Option (κ × ν)) : Imp (mitC fk fv b r xs rest cur) (mitC fk fv b r xs rest none) :=
 ⟨fun S w ⟨h1, h2, es, clock, seen, h3, h4, h5, h6, h7, _⟩ => ⟨h1, h2, es, clock, seen, h3, h4, h5, h6, h7, fun p hp => by cases hp⟩⟩
omit [DecidableEq κ] in
theorem turns_rangeM {t kt et d i b : Nat} {X : Operand} {xs : List (κ × ν)} {rds : List Nat} (ht : P.underlying t = some (.map kt et)) (hx : ev e X = .map (some b)) (hL : L[i]? = some (mapC fk fv b xs)) :
  Turns P cx e ⟨some d, .range t X, ty, pos, af, g⟩ L i rds (fun r : Nat => .pointer (some ⟨r, 0, none⟩)) (fun r => mitC fk fv b r xs xs none) := fun w L' hF hS _ hi' => by
 have hL' := (hi' i (.inr rfl)).trans hL
 obtain ⟨S, ⟨_, es, clock, hb, hst, hen⟩, _⟩ := hS.at hL'
 have hlt : b < w.heap.size := (Array.getElem?_eq_some_iff.1 hb).1
 unfold RunsTo
 have hr : (execOp (ev e) ⟨some d, .range t X, ty, pos, af, g⟩).run P w = .ok (.value (.pointer (some ⟨w.heap.size, 0, none⟩))) (w.alloc (.mapIter (some b) clock #[] clock)) := by
  have := run_range_map (P := P) w t kt et b es clock ht hb
  simp [execOp, hx, this, Result.andThen]
 rw [hr]
 have gr := Z8 w (.mapIter (some b) clock #[] clock)
 have hleft : leftOf es #[] = es := by unfold leftOf; simp
 have hS' := hS.turnOf (w' := w.alloc (.mapIter (some b) clock #[] clock)) hF hL' (C := mitC fk fv b w.heap.size xs xs none) fun S1 hp1 =>
  ⟨gr.os, gr.tape, gr.output, gr.size, fun x hx _ => gr.block x hx, fun x => x = b ∨ x = w.heap.size, ⟨fun _ => Iff.rfl, by omega, es, clock, #[], by (first | rw [heap_alloc_old w _ hlt] | rw [heap_alloc_old w _ _ hlt]); exact hb, Go.heap_alloc_new w _, hst, hen, by rw [hleft]; exact hen, fun p hp => by cases hp⟩, fun x hx => by
   rcases hx with rfl | rfl
   ·exact ⟨by simp; omega, .inl ((hp1.1 _).2 rfl)⟩
   ·exact ⟨by simp, .inr (Nat.le_refl _)⟩⟩
 exact ⟨_, rfl, hS'.1, hS'.2⟩
theorem filter_born : ∀ {l : List MapEntry} {j : Nat} {e : MapEntry}, (l.map (·.born)).Nodup → l[j]? = some e → l.filter (fun x => decide (x.born ≠ e.born)) = l.eraseIdx j
 | [], _, _, _, h => by simp at h
 | x :: l, 0, e, hn, h => by
  simp at h; subst h
  simp only [List.map_cons, List.nodup_cons] at hn
  rw [List.filter_cons_of_neg (by simp)]
  simp only [List.eraseIdx_cons_zero]
  exact List.filter_eq_self.2 fun y hy => by
   have : y.born ≠ x.born := fun q => hn.1 (q ▸ List.mem_map.2 ⟨y, hy, rfl⟩)
   simpa using this
 | x :: l, j + 1, e, hn, h => by
  simp only [List.getElem?_cons_succ] at h
  simp only [List.map_cons, List.nodup_cons] at hn
  have : x.born ≠ e.born := fun q => hn.1 (q ▸ List.mem_map.2 ⟨e, List.mem_of_getElem? h, rfl⟩)
  rw [List.filter_cons_of_pos (by simpa using this), List.eraseIdx_cons_succ, filter_born hn.2 h]
omit [DecidableEq κ] in
theorem Ents.erase {es : List MapEntry} {xs : List (κ × ν)} (h : Ents fk fv es xs) (j : Nat) : Ents fk fv (es.eraseIdx j) (xs.eraseIdx j) := by
 unfold Ents at h ⊢
 have E : ∀ {α β : Type} (f : α → β) (l : List α) (j : Nat), (l.eraseIdx j).map f = (l.map f).eraseIdx j := by
  intro α β f l
  induction l with
  | nil => intro j; simp
  | cons x l ih => intro j; cases j <;> simp [ih]
 rw [E, E, h]
omit [DecidableEq κ] in
theorem turns_nextM {d i b r : Nat} {X : Operand} {xs rest : List (κ × ν)} {cur : Option (κ × ν)} {rds : List Nat} (hx : ev e X = .pointer (some ⟨r, 0, none⟩)) (hL : L[i]? = some (mitC fk fv b r xs rest cur)) (hr : (!rest.isEmpty) = true) :
  Turns P cx e ⟨some d, .next X false, ty, pos, af, g⟩ L i rds (fun q : { q : (κ × ν) × List (κ × ν) // Pick rest q.1 q.2 } => .tuple #[.bool true, fk q.1.1.1, fv q.1.1.2]) (fun q => mitC fk fv b r xs q.1.2 (some q.1.1)) := fun w L' hF hS _ hi' => by
 have hL' := (hi' i (.inr rfl)).trans hL
 obtain ⟨S, ⟨_, hbr, es, clock, seen, hb, hit, hst, hen, hlf, _⟩, _⟩ := hS.at hL'
 have hlb : b < w.heap.size := (Array.getElem?_eq_some_iff.1 hb).1
 have hlr : r < w.heap.size := (Array.getElem?_eq_some_iff.1 hit).1
 rcases run_next_at (P := P) w ty r b clock clock seen es clock hit hb hst.1 (Nat.le_refl _) with ⟨h0, _⟩ | ⟨en, hen0, w1, hw1, hrun⟩
 ·exfalso
  have := hlf.len
  simp at this
  have h0' : rest.length = 0 := by omega
  have : rest = [] := List.eq_nil_of_length_eq_zero h0'
  subst this; simp at hr
 ·obtain ⟨j, hj⟩ := List.mem_iff_getElem?.1 hen0
  obtain ⟨p, hp, hk, hv⟩ := hlf.at hj
  have hall : ∀ x, x ∈ (leftOf es seen).toList → x ∈ es.toList := by
   intro x hx; unfold leftOf at hx; simp at hx; simpa using hx.1
  have hnod : ((leftOf es seen).toList.map (·.born)).Nodup := by
   have hs : (leftOf es seen).toList.Sublist es.toList := by unfold leftOf; simp only [Array.toList_filter]; exact List.filter_sublist
   exact (hs.map _).nodup hst.2.1
  have hleft : (leftOf es (seen.push en.born)).toList = (leftOf es seen).toList.eraseIdx j := by
   rw [← filter_born hnod hj]
   unfold leftOf
   simp only [Array.toList_filter, List.filter_filter]
   refine List.filter_congr fun x _ => ?_
   simp only [Array.contains_push]
   by_cases hxe : x.born = en.born <;> simp [hxe, Bool.and_comm]
   all_goals try (cases seen.contains x.born <;> simp_all [eq_comm])
  have hpick : Pick rest p (rest.eraseIdx j) := ⟨j, hp, rfl⟩
  unfold RunsTo
  have hr' : (execOp (ev e) ⟨some d, .next X false, ty, pos, af, g⟩).run P w = .ok (.value (.tuple #[.bool true, en.key, en.val])) (Go.ChangeMaps.setBlock w1 r (.mapIter (some b) clock (seen.push en.born) clock)) := by
   simp [execOp, hx, hrun, Result.andThen]
  rw [hr']
  have hw : w1.heap = w.heap ∧ w1.os = w.os ∧ w1.tape = w.tape ∧ w1.output = w.output := by rcases hw1 with rfl | rfl <;> exact ⟨rfl, rfl, rfl, rfl⟩
  obtain ⟨e1, e2, e3, e4⟩ := hw
  have hS' := hS.turnOf (w' := Go.ChangeMaps.setBlock w1 r (.mapIter (some b) clock (seen.push en.born) clock)) hF hL' (C := mitC fk fv b r xs (rest.eraseIdx j) (some p)) fun S1 hp1 =>
   ⟨e2, e3, e4, by simp [Go.ChangeMaps.setBlock, e1], fun x _ hx => by
    have : r ≠ x := fun q => hx ((hp1.1 x).2 (.inr q.symm))
    simp only [Go.ChangeMaps.setBlock, e1]
    rw [Array.getElem?_setIfInBounds_ne this], S1, ⟨hp1.1, hbr, es, clock, seen.push en.born, by
     simp only [Go.ChangeMaps.setBlock, e1]; rw [Array.getElem?_setIfInBounds_ne (Ne.symm hbr)]; exact hb, by simp [Go.ChangeMaps.setBlock, e1, hlr], hst, hen, by rw [hleft]; exact hlf.erase j, fun q hq => by cases hq; exact ⟨seen, en, rfl, hall _ hen0, hk, hv⟩⟩, fun x hx => by
     refine ⟨?_, .inl hx⟩
     rcases (hp1.1 x).1 hx with rfl | rfl
     ·simpa [Go.ChangeMaps.setBlock, e1] using hlb
     ·simpa [Go.ChangeMaps.setBlock, e1] using hlr⟩
  exact ⟨⟨(p, rest.eraseIdx j), hpick⟩, by simp [hk, hv], hS'.1, hS'.2⟩
omit [DecidableEq κ] in
theorem r_nextOverM {d : Option Nat} {X : Operand} {i b r : Nat} {xs rest : List (κ × ν)} {cur : Option (κ × ν)} {w : World} (hS : Sat cx w L) (hL : L[i]? = some (mitC fk fv b r xs rest cur)) (hx : ev e X = .pointer (some ⟨r, 0, none⟩)) (hr : (!rest.isEmpty) = false) :
  (execOp (ev e) ⟨d, .next X false, ty, pos, af, g⟩).run P w = .ok (.value (.tuple #[.bool false])) w := by
 obtain ⟨S, ⟨_, hbr, es, clock, seen, hb, hit, hst, hen, hlf, _⟩, _⟩ := hS.at hL
 rcases run_next_at (P := P) w ty r b clock clock seen es clock hit hb hst.1 (Nat.le_refl _) with ⟨_, hrun⟩ | ⟨en, hen0, _⟩
 ·simp [execOp, hx, hrun, Result.andThen]
 ·exfalso
  have h1 := hlf.len
  have h2 : rest = [] := by simpa using hr
  subst h2
  have h3 := List.length_pos_of_mem hen0
  rw [h1] at h3; simp at h3
omit [DecidableEq κ] in
theorem r_entryM {d : Option Nat} {X : Operand} {i b r : Nat} {xs rest : List (κ × ν)} {p : κ × ν} {w : World} (hS : Sat cx w L) (hL : L[i]? = some (mitC fk fv b r xs rest (some p))) (hx : ev e X = .pointer (some ⟨r, 0, none⟩)) :
  (execOp (ev e) ⟨d, .entry X, ty, pos, af, g⟩).run P w = .ok (.value (.tuple #[fk p.1, fv p.2])) w := by
 obtain ⟨S, ⟨_, hbr, es, clock, seen, hb, hit, hst, hen, hlf, hcur⟩, _⟩ := hS.at hL
 obtain ⟨seen0, en, rfl, hm, hk, hv⟩ := hcur p rfl
 have hrun := run_entry_at (P := P) w r b clock seen0 es clock en hit hb hm hst.2.1
 simp [execOp, hx, hrun, hk, hv, Result.andThen]
end ops
section rules
variable {P : Program} {n : Nat} {cx : Cx} {Q : V5} {e : Qz} {L : List Chunk} {ops : Array Oper} {rest_ : List Oper} {ty : TypeId} {pos : String} {af : Array Edge} {g : Option (Nat × Bool)} {κ ν : Type} {fk : κ → Value} {fv : ν → Value}
theorem l_nextM {d i b r : Nat} {X : Operand} {xs rest : List (κ × ν)} {cur : Option (κ × ν)} (hx : ev e X = .pointer (some ⟨r, 0, none⟩)) (hL : L[i]? = some (mitC fk fv b r xs rest cur)) (hr : (!rest.isEmpty) = true)
  (hw : Xm ops ⟨some d, .next X false, ty, pos, af, g⟩ e = true) (hd : Nat.blt d n = true) (_ : True = True)
  (k : ∀ p rest', Pick rest p rest' → At cx (WL P n ops Q rest_) (upd e d (.tuple #[.bool true, fk p.1, fv p.2])) (L.set i (mitC fk fv b r xs rest' (some p)))) : At cx (WL P n ops Q (⟨some d, .next X false, ty, pos, af, g⟩ :: rest_)) e L :=
 Y7 (turns_nextM (rds := []) hx hL hr) hw rfl hd fun q => k q.1.1 q.1.2 q.2
end rules
end Go.Lx

/- Rules: maps that are only read; the kit's contract of slices.Compact at []int. Conditions: none. -/
namespace Go.Lx
open Go Go.Vc Go.Md
open Go.MapKept (IsKey Stamped)
structure FrM {κ ν : Type} (h : Jy) (fk : κ → Value) (fv : ν → Value) (v : Value) (xs : List (κ × ν)) : Prop where
 out : ∃ b es clock, v = .map (some b) ∧ h b = some (.map es clock) ∧ Stamped es clock ∧ Ents fk fv es.toList xs
section
variable {κ ν : Type} {fk : κ → Value} {fv : ν → Value} {h h' : Jy} {v : Value} {xs : List (κ × ν)}
theorem FrM.mono (f : FrM h fk fv v xs) (k : ∀ b o, h b = some o → h' b = some o) : FrM h' fk fv v xs := by
 obtain ⟨b, es, c, h1, h2, h3, h4⟩ := f.out
 exact ⟨b, es, c, h1, k _ _ h2, h3, h4⟩
theorem FrM.cells (f : FrM h fk fv v xs) : v.cells.toList = [v] := by
 obtain ⟨b, es, c, rfl, _⟩ := f.out; rfl
theorem FrM.one (f : FrM h fk fv v xs) : v.oneCell' = true := by
 obtain ⟨b, es, c, rfl, _⟩ := f.out; rfl
end
section
variable {P : Program} {cx : Cx} {e : Qz} {L : List Chunk} {ty : TypeId} {pos : String} {af : Array Edge} {g : Option (Nat × Bool)}
variable {κ ν : Type} {fk : κ → Value} {fv : ν → Value}
end
end Go.Lx
namespace Go.Vc
open Go Go.Md Go.Shelf Go.Sort Go.Proofs
end Go.Vc

/- The kit's contract of slices.SortFunc at rows of one's own of structs: the row is sorted in place. Conditions: the row is shorter than 2^62; the comparing function is a total order. -/
namespace Go.Vc
open Go Go.Md Go.Shelf Go.Sort Go.Proofs
end Go.Vc

/- Rules: slices of slices in boxes; parts of them, also such as begin further on; literals and appends of slices that a drawn region makes. Conditions: those that each rule names. -/
namespace Go.Lx
open Go Go.Vc Go.Md
def cutL {β : Type} (xs : List β) (l q : Int) : List β := (xs.drop l.toNat).take (q.toNat - l.toNat)
section allc
variable {α : Type} {G : Jy → (Nat → Value) → α → Prop} {h : Jy} {sz : Nat} {css : List (List Value)} {xs ys : List α} {l q : Int}
theorem AllC.cut (p : AllC G h sz css xs) (g : Wp xs l q = some ys) : AllC G h sz (cutL css l q) ys := by
 obtain ⟨g0, g1, g2, rfl⟩ := Ww g
 refine ⟨by simp [cutL, p.len], fun i cs x h1 h2 => ?_⟩
 unfold cutL at h1
 rw [List.getElem?_take] at h1 h2
 split at h1
 ·rename_i hi
  rw [if_pos hi] at h2
  rw [List.getElem?_drop] at h1 h2
  exact p.el _ cs x h1 h2
 ·cases h1
theorem AllC.append {cs2 : List (List Value)} (p : AllC G h sz css xs) (q : AllC G h sz cs2 ys) : AllC G h sz (css ++ cs2) (xs ++ ys) := by
 refine ⟨by simp [p.len, q.len], fun i c x hc hx => ?_⟩
 have hl := p.len
 by_cases hi : i < css.length
 ·rw [List.getElem?_append_left hi] at hc
  rw [List.getElem?_append_left (by omega)] at hx
  exact p.el i c x hc hx
 ·rw [List.getElem?_append_right (by omega)] at hc
  rw [List.getElem?_append_right (by omega), ← hl] at hx
  exact q.el _ c x hc hx
end allc
section rules
variable {P : Program} {n : Nat} {cx : Cx} {e : Qz} {L : List Chunk} {d : Nat} {ty : TypeId} {pos : String} {af : Array Edge} {g : Option (Nat × Bool)}
theorem imp_rowDx {α : Type} {G : Jy → (Nat → Value) → α → Prop} {hp : Jy} {E sz n : Nat} {p : Option Addr × Nat} {css : List (List Value)} {xs : List α} (hn : n = css.length) (f : AllC G hp sz css xs) :
  Imp (Xw (Xh Vw hp) (Qt E sz (.slice p.1 n p.2) n (css.map V3))) (V1 E sz G (.slice p.1 xs.length p.2) xs.length xs) := by
 subst hn
 rw [← f.len]
 exact imp_rowD rfl f
def offR (w : World) (E sz : Nat) (v : Value) (n : Nat) (xs : List (List Value)) : Prop :=
 ∃ g off cap cur, v = .slice (some ⟨g, off, none⟩) n cap ∧ w.heap[g]? = some (.cells cur E (0, 0)) ∧ n ≤ cap ∧ cap ≤ maxLen ∧ off + cap * sz ≤ cur.size ∧ (cur.toList.drop off).take (n * sz) = xs.flatten
theorem offR.frs {w : World} {E sz : Nat} {v : Value} {n : Nat} {xs : List (List Value)} (h : offR w E sz v n xs) (hn : xs.length = n) (hl : ∀ x ∈ xs, x.length = sz) : FrS (fun b => w.heap[b]?) sz v xs := by
 obtain ⟨g, off, cap, cur, rfl, hh, hnc, hm, hcs, ht⟩ := h
 subst hn
 refine ⟨some ⟨g, off, none⟩, cap, rfl, hnc, by simpa [maxLen] using hm, .inr ⟨g, off, cur, E, (0, 0), rfl, hh, fun i x hx => ⟨hl x (List.mem_of_getElem? hx), fun j v hv => ?_⟩⟩⟩
 have hr := row_get xs i x (List.all_eq_true.2 fun x hx => by simpa using hl x hx) hx j v hv
 rw [← ht, List.getElem?_take] at hr
 split at hr
 ·rw [List.getElem?_drop, Array.getElem?_toList] at hr
  rw [← hr, Nat.add_assoc]
 ·cases hr
theorem own0 {w : World} {base E sz n : Nat} {v : Value} {xs : List Value} (h : w.ownsRow base E sz v n xs) : w.ownsRow 0 E sz v n xs :=
 ⟨h.1, h.2.imp id fun ⟨g, cap, cur, h1, _, h3⟩ => ⟨g, cap, cur, h1, Nat.zero_le _, h3⟩⟩
end rules
def _root_.Go.Vc.Kd.nsv (q i m : Nat) (cs : Value → List Value) (T : TypeId) : Kd := .g [q] [] [i] (fun _ _ v => ∃ b, v = .slice (some ⟨b, 0, none⟩) m m) (fun vs _ v => [boxOf v (cs (vs.headD undef)) T])
noncomputable def os0 : Os := by constructor <;> exact default
theorem lit_inj {b b' : Nat} {u u' : Value} {T : TypeId} (h : Js b [u] T = Js b' [u'] T) : u = u' := by
 have h1 : (Js b [u] T).P (fun x => x = b) { heap := (Array.replicate b (.cells #[] 0 (0, 0))).push (.cells #[u] T (0, 0)), tape := fun _ _ => 0, drawn := 0, os := os0, output := #[] } := ⟨fun _ => Iff.rfl, by show ((Array.replicate b (Obj.cells #[] 0 (0, 0))).push (Obj.cells #[u] T (0, 0)))[b]? = _; rw [Array.getElem?_push]; simp⟩
 rw [h] at h1
 obtain ⟨h2, h3⟩ := h1
 have e : b' = b := (h2 b').2 rfl
 subst e
 have h4 : ((Array.replicate b' (Obj.cells #[] 0 (0, 0))).push (Obj.cells #[u] T (0, 0)))[b']? = some (.cells [u'].toArray T (0, 0)) := h3
 rw [Array.getElem?_push] at h4
 simpa using h4
open Classical in
noncomputable def litOf (T : TypeId) (c : Option Chunk) : Value := if h : ∃ p : Nat × Value, c = some (Js p.1 [p.2] T) then h.choose.2 else undef
theorem litOf_eq {b : Nat} {u : Value} {T : TypeId} : litOf T (some (Js b [u] T)) = u := by
 have h : ∃ p : Nat × Value, some (Js b [u] T) = some (Js p.1 [p.2] T) := ⟨(b, u), rfl⟩
 unfold litOf
 rw [dif_pos h]
 exact (lit_inj (Option.some.inj h.choose_spec)).symm
noncomputable def _root_.Go.Vc.Kd.tv (T i : Nat) (rds : List Nat) {σ : Type} (G : Value → σ → Value) (Cv : Value → Value → Chunk) : Kd := .g [] rds [i] (fun _ ls v => ∃ x, v = G (litOf T (ls.headD none)) x) (fun _ ls v => [Cv (litOf T (ls.headD none)) v])
section rules
variable {P : Program} {cx : Cx} {ops : Array Oper} {F : Qz → List Chunk → Prop} {rest : List Oper} {ss : List Kd} {e : Qz} {L : List Chunk} {d : Nat}
theorem d_newSV {o : Oper} {i q m : Nat} {T : TypeId} {x : Value} {cs : Value → List Value} {cs0 : List Value} (hw : Xm ops o e = true) (hd : o.dst = some d) (hx : e q = x) (hcs : cs x = cs0)
  (hr : ∀ w, (execOp (ev e) o).run P w = .ok (.value (.slice (some ⟨w.heap.size, 0, none⟩) m m)) (w.alloc (.cells cs0.toArray T))) (hL : L[i]? = some empC)
  (k : ∀ b, Sq P cx ops F rest ss (upd e d (.slice (some ⟨b, 0, none⟩) m m)) (L.set i (Js b cs0 T))) : Sq P cx ops F (o :: rest) (.nsv q i m cs T :: ss) e L := by
 have hh : cs (([q].map e).headD undef) = cs0 := by show cs (e q) = cs0; rw [hx, hcs]
 refine .take hw ⟨.slice (some ⟨0, 0, none⟩) m m, 0, rfl⟩ ⟨fun w L' hF hS _ hi => ?_⟩ fun v' hv' => ?_
 ·unfold RunsTo
  rw [hr]
  refine ⟨⟨_, rfl⟩, hF.grow (Z8 w _), ?_⟩
  show Sat cx _ (L'.set i (boxOf _ (cs (([q].map e).headD undef)) T))
  rw [hh]
  refine hS.set hF ((hi i (.inr (by simp [Kd.nsv, Kd.wrs]))).trans hL) (by simp) fun S _ hSo => ⟨fun x => x = w.heap.size, ⟨fun _ => Iff.rfl, heap_alloc_new w _⟩, fun b hb => ?_, fun b hb _ => (by first | exact heap_alloc_old w _ b hb | exact heap_alloc_old w _ hb)⟩
  subst hb
  exact ⟨by simp, .inr (Nat.le_refl _)⟩
 ·obtain ⟨b, rfl⟩ : ∃ b, v' = .slice (some ⟨b, 0, none⟩) m m := hv'
  rw [hd]
  show Sq P cx ops F rest ss _ (L.set i (boxOf _ (cs (([q].map e).headD undef)) T))
  rw [hh]
  exact k b
theorem d_turnV {σ : Type} {o : Oper} {d i k b T : Nat} {rds : List Nat} {u : Value} {G : Value → σ → Value} {C : σ → Chunk} {Cv : Value → Value → Chunk} (x0 : σ) (hk : L[k]? = some (Js b [u] T)) (h : Turns P cx e o L i (k :: rds) (G u) C) (hC : ∀ x, Cv u (G u x) = C x) (hw : Xm ops o e = true) (hd : o.dst = some d)
  (k' : ∀ x, Sq P cx ops F rest ss (upd e d (G u x)) (L.set i (C x))) : Sq P cx ops F (o :: rest) (.tv T i (k :: rds) G Cv :: ss) e L := by
 have hu : litOf T (((k :: rds).map (Go.Vc.look L)).headD none) = u := by
  show litOf T L[k]? = u
  rw [hk, litOf_eq]
 refine .take hw ⟨G u x0, x0, by rw [hu]⟩ ⟨fun w L' hF hS hl hi => ?_⟩ fun v' hv' => ?_
 ·refine (h w L' hF hS hl fun j hj => hi j (by simpa [Kd.tv, Kd.rds, Kd.wrs] using hj)).mono fun v w' ⟨x, hv, hF', hS'⟩ => ?_
  subst hv
  refine ⟨⟨x, by rw [hu]⟩, hF', ?_⟩
  show Sat cx w' (L'.set i (Cv (litOf T (((k :: rds).map (Go.Vc.look L)).headD none)) (G u x)))
  rw [hu, hC]; exact hS'
 ·obtain ⟨x, rfl⟩ : ∃ x, v' = G u x := by
   obtain ⟨x, hx⟩ : ∃ x, v' = G (litOf T (((k :: rds).map (Go.Vc.look L)).headD none)) x := hv'
   exact ⟨x, by rw [hx, hu]⟩
  show Sq P cx ops F rest ss (W8 e o.dst (G u x)) (L.set i (Cv (litOf T (((k :: rds).map (Go.Vc.look L)).headD none)) (G u x)))
  rw [hu, hC, hd]
  exact k' x
end rules
end Go.Lx

/- Rules: stores of slices that a region makes into elements of nested rows. Conditions: none. -/
namespace Go.Lx
open Go Go.Vc Go.Md
end Go.Lx
namespace Go.Lx
open Go Go.Vc Go.Md
section rules
variable {P : Program} {n : Nat} {cx : Cx} {e : Qz} {L : List Chunk} {ops : Array Oper} {rest : List Oper} {F : Qz → List Chunk → Prop} {ss : List Kd} {ty : TypeId} {pos : String} {af : Array Edge} {g : Option (Nat × Bool)}
end rules
end Go.Lx
namespace Go.Lx
open Go Go.Vc Go.Md
section
variable {cx : Cx} {K : Qz → World → Prop} {e : Qz} {L : List Chunk}
end
end Go.Lx
namespace Go.Lx
open Go Go.Vc Go.Md
section
variable {P : Program} {n : Nat} {cx : Cx} {e : Qz} {L : List Chunk} {ops : Array Oper} {rest : List Oper} {F : Qz → List Chunk → Prop} {ss : List Kd} {ty : TypeId} {pos : String} {af : Array Edge} {g : Option (Nat × Bool)}
end
end Go.Lx
namespace Go.Lx
open Go Go.Vc Go.Md
section
variable {P : Program} {n : Nat} {cx : Cx} {e : Qz} {L : List Chunk} {ops : Array Oper} {rest : List Oper} {F : Qz → List Chunk → Prop} {ss : List Kd} {ty : TypeId} {pos : String} {af : Array Edge} {g : Option (Nat × Bool)}
end
end Go.Lx
namespace Go.Lx
open Go Go.Vc Go.Md
section
variable {P : Program} {n : Nat} {cx : Cx} {e : Qz} {L : List Chunk} {ty : TypeId} {pos : String} {af : Array Edge} {g : Option (Nat × Bool)}
end
end Go.Lx

/- Rules: slices.Delete's operations at a row of one's own that may be a part of a longer one. Conditions: none. -/
namespace Go.Lx
open Go Go.Vc Go.Md
section
variable {P : Program} {n : Nat} {cx : Cx} {e : Qz} {L : List Chunk} {d : Option Nat} {ty : TypeId} {pos : String} {af : Array Edge} {g : Option (Nat × Bool)}
end
end Go.Lx
namespace Go.Lx
open Go Go.Vc Go.Md
section
variable {cx : Cx} {L : List Chunk} {w : World}
end
end Go.Lx
namespace Go.Lx
open Go Go.Vc Go.Md
end Go.Lx

/- Rules: slices.Insert's operations at a row of one's own without room: an append that makes a new row with zeros, copies of elements of many cells. Conditions: none. -/
namespace Go.Lx
open Go Go.Vc Go.Md
section
variable {P : Program} {n : Nat} {cx : Cx} {e : Qz} {L : List Chunk} {d : Nat} {ty : TypeId} {pos : String} {af : Array Edge} {g : Option (Nat × Bool)}
end
end Go.Lx
namespace Go.Lx
open Go Go.Vc Go.Md
end Go.Lx
namespace Go.Vc
open Go
section
variable {P : Program} {cx : Cx} {e : Qz} {L : List Chunk}
end
end Go.Vc

/- Rules: rows that may be known, over the frozen memory. Conditions: none. -/
namespace Go.Lx
open Go Go.Vc Go.Md
section
variable {cx : Cx} {L : List Chunk}
end
end Go.Lx

/- The kit's contract of slices.SortFunc at nested rows, by a number that each element has for itself. Conditions: the numbers are different, and not too large. -/
namespace Go.Lx
open Go Go.Md Go.Vc Go.Shelf Go.Sort Go.Proofs
end Go.Lx

/- Short forms of rules, for walks that would be too long for one claim. Conditions: none. -/
namespace Go.Lx
open Go Go.Md Go.Vc Go.Shelf Go.Sort Go.Proofs
section
variable {P : Program} {n : Nat} {cx : Cx} {Q : V5} {e : Qz} {L : List Chunk} {ops : Array Oper} {rest : List Oper} {d : Nat} {ty : TypeId} {pos : String} {af : Array Edge} {g : Option (Nat × Bool)} {X : Operand}
theorem c_dr {K : Qz → World → Prop} (i : Nat) (k : At cx K e (L.eraseIdx i)) : At cx K e L := by
 refine c_sel ((List.range L.length).eraseIdx i) (L.eraseIdx i) ?_ (List.nodup_range.sublist (List.eraseIdx_sublist _ _)) k
 refine List.ext_getElem? fun j => ?_
 rw [List.getElem?_map, List.getElem?_map, List.getElem?_eraseIdx, List.getElem?_eraseIdx]
 split
 ·by_cases h : j < L.length
  ·rw [List.getElem?_range h]; simp [List.getElem?_eq_getElem h]
  ·rw [List.getElem?_eq_none (by simpa using h), List.getElem?_eq_none (by simpa using h)]; rfl
 ·by_cases h : j + 1 < L.length
  ·rw [List.getElem?_range h]; simp [List.getElem?_eq_getElem h]
  ·rw [List.getElem?_eq_none (by simpa using h), List.getElem?_eq_none (by simpa using h)]; rfl
end
section
variable {P : Program} {cx : Cx} {e : Qz} {L : List Chunk} {ops : Array Oper} {F : Qz → List Chunk → Prop} {rest : List Oper} {ss : List Kd} {d : Nat} {ty : TypeId} {pos : String} {af : Array Edge} {g : Option (Nat × Bool)} {X : Operand}
theorem dm (v : Value) (k : Sq P cx ops F rest ss (upd e d v) L) (hw : Xm ops ⟨some d, .move X, ty, pos, af, g⟩ e = true := by exact rfl) (hx : ev e X = v := by exact rfl) :
  Sq P cx ops F (⟨some d, .move X, ty, pos, af, g⟩ :: rest) (.p :: ss) e L := Jk hw rfl (Jd hx) k
end
section
variable {α : Type} {a b : α} {l : List α} {n : Nat}
theorem z1 : (a :: l).set 0 b = b :: l := rfl
theorem z2 : (a :: l).set (n + 1) b = a :: l.set n b := rfl
theorem z3 : (a :: l).eraseIdx 0 = l := rfl
theorem z4 : (a :: l).eraseIdx (n + 1) = a :: l.eraseIdx n := rfl
theorem z5 {m : List α} : (a :: l) ++ m = a :: (l ++ m) := rfl
theorem z6 {m : List α} : [] ++ m = m := rfl
theorem z7 : List.replicate (n + 1) a = a :: List.replicate n a := rfl
theorem z8 : List.replicate 0 a = [] := rfl
end
end Go.Lx

/- Rules: maps whose keys are structs, compared part by part. Conditions: those that each rule names. -/
namespace Go.Lx
open Go Go.Vc Go.Md
open Go.MapKept (IsKey Stamped)
structure KeyG {κ : Type} [DecidableEq κ] (P : Program) (kt : TypeId) (fk : κ → Value) : Prop where
 inj : ∀ a b, fk a = fk b → a = b
 chk : ∀ k em w, (Instr.checkKey em 10000 kt (fk k)).run P w = .ok () w
 now : ∃ d, P.underlying kt = some d ∧ ∀ a b, Instr.sameNow d (fk a) (fk b) = none
 eql : ∀ a b w, (Op.equal kt (fk a) (fk b)).run P w = .ok (decide (a = b)) w
 bits : ∀ k, Instr.sameBits 10000 (fk k) (fk k) = true
section find
variable {κ ν : Type} [DecidableEq κ] {P : Program} {kt : TypeId} {fk : κ → Value} {fv : ν → Value}
end find
section rules
variable {P : Program} {cx : Cx} {e : Qz} {L : List Chunk} {ty : TypeId} {pos : String} {af : Array Edge} {g : Option (Nat × Bool)}
variable {κ ν : Type} [DecidableEq κ] {fk : κ → Value} {fv : ν → Value}
end rules
end Go.Lx

/- In a drawn region: a call that turns two chunks at once; what it leaves is told behind the region. Conditions: those that each rule names. -/
namespace Go.Lx
open Go Go.Vc Go.Md
def exC {σ : Type} (C : σ → Chunk) : Chunk where
 P S w := ∃ x, (C x).P S w
 loc S w w' h := fun ⟨x, hx⟩ => ⟨x, (C x).loc S w w' h hx⟩
theorem imp_ex {σ : Type} (C : σ → Chunk) (x : σ) : Imp (C x) (exC C) := ⟨fun _ _ h => ⟨x, h⟩⟩
section
variable {P : Program} {cx : Cx} {e : Qz} {L : List Chunk} {ops : Array Oper} {F : Qz → List Chunk → Prop} {rest : List Oper} {ss : List Kd}
theorem sat_ex {σ : Type} {w : World} {i : Nat} {C : σ → Chunk} (hL : L[i]? = some (exC C)) (hS : Sat cx w L) : ∃ x, Sat cx w (L.set i (C x)) := by
 obtain ⟨fp, h1, h2, h3⟩ := hS.out
 obtain ⟨x, hx⟩ := h1 i _ hL
 have hil : i < L.length := by
  rcases Nat.lt_or_ge i L.length with h | h
  ·exact h
  ·simp [List.getElem?_eq_none h] at hL
 refine ⟨x, fp, fun j c hc => ?_, fun j b hb => ?_, h3⟩
 ·by_cases hji : j = i
  ·subst hji
   rw [List.getElem?_set_self hil] at hc
   cases hc; exact hx
  ·rw [List.getElem?_set_ne (fun h => hji h.symm)] at hc
   exact h1 j c hc
 ·have := h2 j b hb
  exact ⟨by simpa using this.1, this.2⟩
theorem c_ex {σ : Type} {K : Qz → World → Prop} (i : Nat) {C : σ → Chunk} (hL : L[i]? = some (exC C)) (k : ∀ x, At cx K e (L.set i (C x))) : At cx K e L :=
 ⟨fun w hF hS => by
  obtain ⟨x, hx⟩ := sat_ex hL hS
  exact (k x).out w hF hx⟩
theorem sat_both {w : World} {i j : Nat} {C D : Chunk} (hF : Fr cx w) (hS : Sat cx w L) (hi : L[i]? = some C) (hj : L[j]? = some D) (hne : i ≠ j) : Sat cx w ((L.set i (Xw C D)).set j empC) :=
 (W0 (e := fun _ => undef) (K := fun _ w => Sat cx w ((L.set i (Xw C D)).set j empC)) i j hi hj hne ⟨fun _ _ h => h⟩).out w hF hS
theorem sat_imp {w : World} {i : Nat} {C D : Chunk} (hF : Fr cx w) (hS : Sat cx w L) (hi : L[i]? = some C) (h : Imp C D) : Sat cx w (L.set i D) :=
 (W6 (e := fun _ => undef) (K := fun _ w => Sat cx w (L.set i D)) i hi h ⟨fun _ _ h => h⟩).out w hF hS
def _root_.Go.Vc.Kd.t2 (i j : Nat) (rds : List Nat) (v0 : Value) (C : Chunk) : Kd := .g [] rds [i, j] (fun _ _ v => v = v0) (fun _ _ _ => [C, empC])
theorem d_turn2 {σ : Type} {o : Oper} {d i j : Nat} {rds : List Nat} {v0 : Value} {C : σ → Chunk} {Ci Cj : Chunk} (h : Turns P cx e o ((L.set i (Xw Ci Cj)).set j empC) i rds (fun _ : σ => v0) C) (hi : L[i]? = some Ci) (hj : L[j]? = some Cj) (hne : i ≠ j)
  (hr : (∀ q ∈ rds, q ≠ i ∧ q ≠ j)) (hw : Xm ops o e = true) (hd : o.dst = some d) (k : Sq P cx ops F rest ss (upd e d v0) ((L.set i (exC C)).set j empC)) : Sq P cx ops F (o :: rest) (.t2 i j rds v0 (exC C) :: ss) e L := by
 have hil : i < L.length := by
  rcases Nat.lt_or_ge i L.length with h | h
  ·exact h
  ·simp [List.getElem?_eq_none h] at hi
 have hjl : j < L.length := by
  rcases Nat.lt_or_ge j L.length with h | h
  ·exact h
  ·simp [List.getElem?_eq_none h] at hj
 refine .take hw ⟨v0, rfl⟩ ⟨fun w L' hF hS hl hi' => ?_⟩ fun v' hv' => ?_
 ·have hLi : L'[i]? = some Ci := (hi' i (.inr (by simp [Kd.t2, Kd.wrs]))).trans hi
  have hLj : L'[j]? = some Cj := (hi' j (.inr (by simp [Kd.t2, Kd.wrs]))).trans hj
  have hS2 := sat_both hF hS hLi hLj hne
  refine (h w _ hF hS2 (by simpa using hl) fun q hq => ?_).mono fun v w' ⟨x, hv, hF', hS'⟩ => ?_
  ·by_cases hqi : q = i
   ·subst hqi
    rw [List.getElem?_set_ne (fun h => hne h.symm), List.getElem?_set_ne (fun h => hne h.symm), List.getElem?_set_self (by omega), List.getElem?_set_self hil]
   ·have hq' : q ∈ rds := hq.resolve_right hqi
    have hqj := (hr q hq').2
    rw [List.getElem?_set_ne (fun h => hqj h.symm), List.getElem?_set_ne (fun h => hqj h.symm), List.getElem?_set_ne (fun h => hqi h.symm), List.getElem?_set_ne (fun h => hqi h.symm)]
    exact hi' q (.inl hq')
  ·subst hv
   refine ⟨rfl, hF', ?_⟩
   show Sat cx w' ((L'.set i (exC C)).set j empC)
   have e1 : (((L'.set i (Xw Ci Cj)).set j empC).set i (C x)) = (L'.set i (C x)).set j empC := by
    rw [List.set_comm _ _ (fun h => hne h.symm), List.set_set]
   rw [e1] at hS'
   have hget : ((L'.set i (C x)).set j empC)[i]? = some (C x) := by
    rw [List.getElem?_set_ne (fun h => hne h.symm), List.getElem?_set_self (by omega)]
   have := sat_imp hF' hS' hget (imp_ex C x)
   rw [List.set_comm _ _ (fun h => hne h.symm), List.set_set] at this
   exact this
 ·have hv : v' = v0 := hv'
  subst hv
  show Sq P cx ops F rest ss (W8 e o.dst v') ((L.set i (exC C)).set j empC)
  rw [hd]
  exact k
end
end Go.Lx

/- Rules: rows of one's own that may be parts of their blocks: length, stores of whole elements. Conditions: those that each rule names. -/
namespace Go.Lx
open Go Go.Vc Go.Md
section rules
variable {P : Program} {n : Nat} {cx : Cx} {e : Qz} {L : List Chunk} {ops : Array Oper} {rest : List Oper} {ty : TypeId} {pos : String} {af : Array Edge} {g : Option (Nat × Bool)}
end rules
end Go.Lx

/- The kit's contract of slices.SortFunc at rows of one's own that may be parts of their blocks. Conditions: the row is shorter than 2^62; the comparing function is an order, and tells all elements apart. -/
namespace Go.Lx
open Go Go.Vc Go.Md Go.Shelf Go.Sort Go.Proofs
section ops
variable {P : Program} {e : Qz} {d : Option Nat} {ty : TypeId} {pos : String} {af : Array Edge} {g : Option (Nat × Bool)}
end ops
end Go.Lx

/- Rules: loops that go a known number of rounds; slices of three pointers to new memory, or nil. Conditions: none. -/
namespace Go.Lx
open Go Go.Vc Go.Md
structure RC (P : Program) (n : Nat) (c : Code) (Q : V5) (m : Nat) (e : Qz) (w : World) : Prop where
 out : ∀ a, Sim n a e → Code.rounds P c (lift n Q) m a w
section rules
variable {P : Program} {n : Nat} {Q : V5} {cx : Cx} {K : Qz → World → Prop} {e : Qz} {L : List Chunk}
end rules
end Go.Lx

/- Rules: three results, of which the first one is a cell. Conditions: named in each rule. -/
namespace Go.Lx
open Go Go.Vc Go.Md Go.Shelf Go.Sort Go.Proofs
variable {P : Program} {cx : Cx} {L : List Chunk} {e : Qz}
section
open Go.Sort Go.Shelf
end
end Go.Lx

/- Rules: the store of a whole element into a nested row. Conditions: none. -/
namespace Go.Lx
open Go Go.Vc Go.Md
section
variable {α : Type} {G : Jy → (Nat → Value) → α → Prop} {h : Jy} {sz : Nat} {css : List (List Value)} {xs ys : List α} {i : Int} {x' : α} {vs : List Value}
end
end Go.Lx

/- Rules: calls whose result the memory leaves open: what follows is told ahead (the model takes what follows as an argument). Conditions: named in each rule. -/
namespace Go.Lx
open Go Go.Vc Go.Md Go.Shelf Go.Sort Go.Proofs
section rules
variable {P : Program} {n : Nat} {cx : Cx} {Q : V5} {e : Qz} {L : List Chunk} {ops : Array Oper} {rest : List Oper} {ty : TypeId} {pos : String} {af : Array Edge} {g : Option (Nat × Bool)}
end rules
section
end
section
open Go.Vc
variable {P : Program} {n : Nat} {cx : Cx} {e : Qz} {L : List Chunk} {d : Nat} {ty : TypeId} {pos : String} {af : Array Edge} {g : Option (Nat × Bool)}
end
section
variable {P : Program} {e : Qz} {d : Option Nat} {ty : TypeId} {pos : String} {af : Array Edge} {g : Option (Nat × Bool)}
theorem Row.pre {w : World} {a : Option Addr} {sz : Nat} {xs ys : List (List Value)} (h : Row w a sz (xs ++ ys)) : Row w a sz xs := by
 rcases h with h | ⟨b, off, ha, h⟩
 ·exact .inl (List.append_eq_nil_iff.1 h).1
 ·refine .inr ⟨b, off, ha, fun i x hx => h i x ?_⟩
  rw [List.getElem?_append_left (List.getElem?_eq_some_iff.1 hx).1]; exact hx
end
section
open Go.Vc
variable {P : Program} {cx : Cx} {e : Qz} {L : List Chunk} {d : Option Nat} {ty : TypeId} {pos : String} {af : Array Edge} {g : Option (Nat × Bool)}
end
end Go.Lx

/- Short forms of rules, second part; a return of four values. Conditions: none. -/
namespace Go.Lx
open Go Go.Md Go.Vc Go.Shelf Go.Sort Go.Proofs
section
variable {P : Program} {n : Nat} {cx : Cx} {Q : V5} {e : Qz} {L : List Chunk} {ops : Array Oper} {rest : List Oper} {d : Nat} {ty : TypeId} {pos : String} {af : Array Edge} {g : Option (Nat × Bool)}
theorem st {i : Nat} {T T0 b o sz : Nat} {A X : Operand} {x : Value} {cs : List Value} (vs cs' : List Value) (hs : ∀ w, (sizeOf T).run P w = .ok sz w)
  (hp : ev e A = .pointer (some ⟨b, o, none⟩)) (hL : L[i]? = some (Js b cs T0)) (k : At cx (WL P n ops Q rest) e (L.set i (Js b cs' T0)))
  (hw : Xm ops ⟨none, .store T A X, ty, pos, af, g⟩ e = true := by exact rfl) (hx : ev e X = x := by exact rfl) (hc : x.cells.toList = vs := by exact rfl) (hsz : vs.length = sz := by exact rfl) (hpos : Nat.blt 0 sz = true := by exact rfl)
  (hone : vs.all Value.oneCell' = true := by exact rfl) (hv : wr cs o vs = some cs' := by exact rfl) :
  At cx (WL P n ops Q (⟨none, .store T A X, ty, pos, af, g⟩ :: rest)) e L := Zn hs hw hp hx hc hsz hpos hone hL hv k
theorem bo {K : Qz → World → Prop} (i j : Nat) {C D : Chunk} (hi : L[i]? = some C) (hj : L[j]? = some D) (k : At cx K e ((L.set i (Xw C D)).set j empC)) (hne : i ≠ j := by decide) : At cx K e L := W0 i j hi hj hne k
theorem sp {α : Type} {x y r : Option α} {K : Qz → World → Prop} {b : Bool} (ht : b = true → x = r → At cx K (upd e d (.bool true)) L) (hf : b = false → y = r → At cx K (upd e d (.bool false)) L) (H : Qp b x y = r) :
  At cx K (upd e d (.bool b)) L := split (fun h => ht h (Jo h H)) (fun h => hf h (Jp h H))
end
section
variable {P : Program} {cx : Cx} {e : Qz} {L : List Chunk} {ops : Array Oper} {F : Qz → List Chunk → Prop} {rest : List Oper} {ss : List Kd} {d : Nat} {ty : TypeId} {pos : String} {af : Array Edge} {g : Option (Nat × Bool)}
theorem dv {o : Op} {v : Value} (hr : ∀ w, (execOp (ev e) ⟨some d, o, ty, pos, af, g⟩).run P w = .ok (.value v) w) (k : Sq P cx ops F rest ss (upd e d v) L) (hw : Xm ops ⟨some d, o, ty, pos, af, g⟩ e = true := by exact rfl) :
  Sq P cx ops F (⟨some d, o, ty, pos, af, g⟩ :: rest) (.p :: ss) e L := Jk hw rfl hr k
end
section
variable {P : Program} {cx : Cx} {e : Qz} {L : List Chunk}
theorem r1 {fn : Func} {t : Tmp} {v : Value} {w0 : World} (V : Value) (hr : fn.results = #[.tmp t] := by exact rfl) (ht : e t = V := by exact rfl) (h : V = v := by exact rfl) :
  At ⟨w0, fun _ => False⟩ (BodyQ P fn (fun v' w' => v' = v ∧ Grow w0 w') .ret) e L := Qa hr ht (fin h)
end
end Go.Lx

/- append onto a slice without room whose elements are only read: a new row. Conditions: none. -/
namespace Go.Lx
open Go Go.Vc Go.Md
section
variable {P : Program} {n : Nat} {cx : Cx} {Q : V5} {e : Qz} {L : List Chunk} {ops : Array Oper} {rest : List Oper} {d : Nat} {ty : TypeId} {pos : String} {af : Array Edge} {g : Option (Nat × Bool)}
theorem makes_appR {xs news : List (List Value)} {S X : Operand} {t E : TypeId} {I : TypeInfo} {z : Value} {sz by_ m q c cap : Nat} {a : Option Addr} {ad : Addr} {rds : List Nat}
  (ht : P.underlying t = some (.slice E)) (hi : P.info? E = some I) (hz : I.zero = some z) (hsize : I.size = sz) (hby : I.bytes = by_) (hzs : z.cells.size = sz) (hsz : Nat.blt 0 sz = true)
  (hs : ev e S = .slice a m cap) (hx : ev e X = .slice (some ad) q c) (hm : xs.length = m) (hxl : ∀ x ∈ xs, x.length = sz)
  (hxr : ∀ w L', Fr cx w → Sat cx w L' → (∀ j, j ∈ rds → L'[j]? = L[j]?) → Row w a sz xs) (hnone : a = none → cap = 0) (hq : news.length = q) (hnl : ∀ x ∈ news, x.length = sz)
  (hnews : ∀ w L', Fr cx w → Sat cx w L' → (∀ j, j ∈ rds → L'[j]? = L[j]?) → Row w (some ad) sz news) (h1 : ∀ x ∈ news, ∀ u ∈ x, u.oneCell' = true)
  (hg : cap < m + q) (h63 : m + q ≤ maxLen) (hbytes : (m + q) * by_ ≤ 140737488355328) :
  Makes P cx e ⟨some d, .call ⟨.builtin .append, #[S, X], #[t, t]⟩, ty, pos, af, g⟩ L rds (fun p' : Option Addr × Nat => .slice p'.1 (m + q) p'.2) (fun p' => Qt E sz (.slice p'.1 (m + q) p'.2) (m + q) (xs ++ news)) := by
 subst hsize
 intro w L' hF hS hi'
 have hsz' : 0 < I.size := by simpa using hsz
 have hfl : news.flatten.length = q * I.size := by rw [flat_len news hnl, hq]
 have hfx : xs.flatten.length = m * I.size := by rw [flat_len xs hxl, hm]
 have hle : (xs ++ news).length = m + q := by simp [hm, hq]
 have hall : ∀ x ∈ xs ++ news, x.length = I.size := fun x hx => by
  rcases List.mem_append.1 hx with h | h
  ·exact hxl x h
  ·exact hnl x h
 have hflat : (xs ++ news).flatten = xs.flatten ++ news.flatten := List.flatten_append
 have cell : ∀ (zs : List (List Value)) (b : Addr), (∀ x ∈ zs, x.length = I.size) → Row w (some b) I.size zs → ∀ j u, zs.flatten[j]? = some u → w.cell? (b.add j) = some u := by
  intro zs b hl hr j u hj
  obtain ⟨i', k', x, g1, g2, g3⟩ := flat_get zs hl j u hj
  rcases hr with h | ⟨b', off, ha, h⟩
  ·subst h; simp at g1
  ·cases ha
   have := (h i' x g1).2 k' u g2
   rw [Addr.add_lit, g3, ← Nat.add_assoc]
   exact this
 have hcell := cell news ad hnl (hnews w L' hF hS hi')
 have hone : ∀ u ∈ news.flatten, u.oneCell' = true := fun u hu => by
  obtain ⟨x, hx, hux⟩ := List.mem_flatten.1 hu
  exact h1 x hx u hux
 have fin : ∀ v' w', (execOp (ev e) ⟨some d, .call ⟨.builtin .append, #[S, X], #[t, t]⟩, ty, pos, af, g⟩).run P w = .ok (.value v') w' → w'.ownsRow 0 E I.size v' (m + q) (xs.flatten ++ news.flatten) → (∀ b', v'.ownBlock = some b' → w.heap.size ≤ b') →
   (w'.os = w.os ∧ w'.tape = w.tape ∧ w'.output = w.output ∧ w.heap.size ≤ w'.heap.size ∧ ∀ b', b' < w.heap.size → w'.heap[b']? = w.heap[b']?) →
   RunsTo P (ev e) ⟨some d, .call ⟨.builtin .append, #[S, X], #[t, t]⟩, ty, pos, af, g⟩ w fun v w' => ∃ x : Option Addr × Nat, v = .slice x.1 (m + q) x.2 ∧ Turn w w' Zc (Qt E I.size (.slice x.1 (m + q) x.2) (m + q) (xs ++ news)) := by
  intro v' w' hr h2 hb ⟨k1, k2, k3, k4, k5⟩
  obtain ⟨p', rfl⟩ := slice_of_row h2
  rw [← hflat] at h2
  unfold RunsTo
  rw [hr]
  exact ⟨p', rfl, ⟨k1, k2, k3, k4, fun b' hb' _ => k5 b' hb', fun b' => (Value.slice p'.1 (m + q) p'.2).ownBlock = some b', ⟨⟨h2, hle, hall⟩, fun _ h => h⟩, fun b' hb' => ⟨(h2.lt b' hb').2, .inr (hb b' hb')⟩⟩⟩
 cases a with
 | none =>
  have hc0 := hnone rfl
  subst hc0
  have hx0 : xs = [] := by
   rcases hxr w L' hF hS hi' with h | ⟨_, _, ha, _⟩
   ·exact h
   ·cases ha
  subst hx0
  have hm0 : m = 0 := hm.symm
  subst hm0
  obtain ⟨v', w', hr, h2, h3, h5⟩ := run_append_at (P := P) (ty := ty) (pos := pos) (af := af) (g := g) (d := some d) (v := .slice none 0 0) (m := 0) (xs := []) ht hi hz rfl hby hzs hsz' hs ⟨by simp, .inl ⟨rfl, rfl⟩⟩ hx hfl hcell hone h63 hbytes
  refine fin v' w' hr h2 (fun b' hb' => ?_) ⟨h3.os, h3.tape, h3.output, h3.size, fun b' hb' => h3.block b' hb' (by simp [Value.ownBlock])⟩
  rcases h5 with h | h
  ·rw [h] at hb'; cases hb'
  ·rw [h] at hb'; cases hb'; exact Nat.le_refl _
 | some a0 =>
  obtain ⟨v', w', hr, h2, h3⟩ := run_append_arg_grows (P := P) w t ty E I z I.size by_ ht hi hz rfl hby hzs hsz' a0 m cap xs.flatten hfx (cell xs a0 hxl (hxr w L' hF hS hi')) ad q c news.flatten hfl hcell hg h63 hbytes
  refine fin v' w' ?_ (own0 h2) (fun b' hb' => (h2.lt b' hb').1) ⟨h3.os, h3.tape, h3.output, h3.size, fun b' hb' => h3.block b' hb' (by simp)⟩
  simp only [execOp, resolve, invoke, builtin, Sem.run_bind, Sem.run_pure, Result.andThen_ok, List.map_toArray, List.map_cons, List.map_nil, hs, hx, hr]
end
def clipV (sz : Nat) : Value → Value
 | .slice a n _ => .slice (Zd a 0 n sz) n n
 | v => v
theorem cut_self {h : Jy} {a : Option Addr} {sz n : Nat} {xs : List (List Value)} (hr : RowH h a sz xs) : RowH h (Zd a 0 n sz) sz xs ∧ (Zd a 0 n sz = none → a = none) := by
 unfold Zd
 by_cases hn : n = 0
 ·rw [if_pos hn]; exact ⟨hr, id⟩
 ·rw [if_neg hn]
  rcases hr with h0 | ⟨b, off, cs, T, m, rfl, h1, h2⟩
  ·exact ⟨.inl h0, fun e => by cases a with | none => rfl | some _ => cases e⟩
  ·exact ⟨.inr ⟨b, off, cs, T, m, by simp [Addr.add_lit], h1, h2⟩, fun e => by cases e⟩
theorem FrS.clip {h : Jy} {sz : Nat} {v : Value} {xs : List (List Value)} (s : FrS h sz v xs) : FrS h sz (clipV sz v) xs := by
 obtain ⟨a, c, rfl, h1, h2, h3⟩ := s.out
 exact ⟨_, _, rfl, Nat.le_refl _, by omega, (cut_self h3).1⟩
theorem FrS.clipFull {h : Jy} {sz : Nat} {v : Value} {xs : List (List Value)} (s : FrS h sz v xs) : ∃ a, clipV sz v = .slice a xs.length xs.length ∧ (a = none → xs.length = 0) := by
 obtain ⟨a, c, rfl, h1, h2, h3⟩ := s.out
 refine ⟨_, rfl, fun e => ?_⟩
 have := (cut_self (n := xs.length) h3).2 e
 subst this
 rcases h3 with h0 | ⟨_, _, _, _, _, e, _⟩
 ·rw [h0]; rfl
 ·cases e
section
variable {P : Program} {cx : Cx} {e : Qz} {L : List Chunk} {d : Nat} {ty : TypeId} {pos : String} {af : Array Edge} {g : Option (Nat × Bool)}
theorem makes_appZ {α : Type} {f : α → List Value} {H : Jy} {ys ls zs : List α} {S X : Operand} {t E : TypeId} {I : TypeInfo} {z : Value} {sz by_ q c : Nat} {v V : Value} {ad : Addr} {rds : List Nat}
  (ht : P.underlying t = some (.slice E)) (hi : P.info? E = some I) (hz : I.zero = some z) (hsize : I.size = sz) (hby : I.bytes = by_) (hzs : z.cells.size = sz) (hsz : Nat.blt 0 sz = true)
  (hs : ev e S = clipV sz v) (F : FrS H sz v (ys.map f)) (hH : ∀ w, Fr cx w → ∀ b o, H b = some o → w.heap[b]? = some o) (hx : ev e X = V) (hV : V = .slice (some ad) q c) (hq : q = ls.length) (hq0 : 0 < ls.length)
  (hnews : ∀ w L', Fr cx w → Sat cx w L' → (∀ j, j ∈ rds → L'[j]? = L[j]?) → Row w (some ad) sz (ls.map f)) (hf : ∀ x, (f x).length = sz) (h1 : ∀ x, (f x).all Value.oneCell' = true) (hg : X6 by_ ys ls = some zs) :
  Makes P cx e ⟨some d, .call ⟨.builtin .append, #[S, X], #[t, t]⟩, ty, pos, af, g⟩ L rds (fun p' : Option Addr × Nat => .slice p'.1 zs.length p'.2) (fun p' => Qt E sz (.slice p'.1 zs.length p'.2) zs.length (zs.map f)) := by
 subst hq
 obtain ⟨rfl, hb1, hb2⟩ := Vu hg
 obtain ⟨a, ha, hn⟩ := F.clipFull
 have hl : (ys.map f).length = ys.length := List.length_map ..
 rw [hl] at ha hn
 rw [List.length_append, List.map_append]
 have hall : ∀ (l : List α), ∀ x ∈ l.map f, x.length = sz := fun l x hx => by
  obtain ⟨y, _, rfl⟩ := List.mem_map.1 hx; exact hf y
 have hrow : ∀ w, Fr cx w → Row w a sz (ys.map f) := fun w hF => by
  have := (F.clip).row (w := w) (hH w hF)
  rwa [ha] at this
 exact makes_appR (a := a) (cap := ys.length) ht hi hz hsize hby hzs hsz (hs.trans ha) (hx.trans hV) hl (hall ys) (fun w L' hF _ _ => hrow w hF) hn (by rw [List.length_map]) (hall ls) hnews (fun x hx u hu => by
  obtain ⟨y, _, rfl⟩ := List.mem_map.1 hx; exact List.all_eq_true.1 (h1 y) u hu) (by omega) (by simp only [maxLen]; omega) hb2
end
section
variable {P : Program} {cx : Cx} {e : Qz} {L : List Chunk} {ops : Array Oper} {F : Qz → List Chunk → Prop} {rest : List Oper} {ss : List Kd} {d : Nat} {ty : TypeId} {pos : String} {af : Array Edge} {g : Option (Nat × Bool)}
theorem d_callDV {f : FuncId} {A : Array Operand} {tys : Array TypeId} {args : List Value} {v : Value} {φ : Value → Value} {a : Nat} {rds : List Nat} (hv : φ (e a) = v)
  (h : ∀ w L', Fr cx w → Sat cx w L' → (∀ i ∈ rds, L'[i]? = L[i]?) → Does P f args.toArray w fun v' w' => v' = v ∧ Grow w w') (hc : ∀ args w, (callFunc f args).run P w = .ok (.enter f args) w)
  (hw : Xm ops ⟨some d, .call ⟨.value (.func f), A, tys⟩, ty, pos, af, g⟩ e = true) (ha : A.toList.map (ev e) = args)
  (k : Sq P cx ops F rest ss (upd e d v) L) : Sq P cx ops F (⟨some d, .call ⟨.value (.func f), A, tys⟩, ty, pos, af, g⟩ :: rest) (.dv a rds φ :: ss) e L := by
 subst hv
 refine .take hw ⟨_, rfl⟩ ⟨fun w L' hF hS _ hi => ?_⟩ fun v' hv' => ?_
 ·have h2 := h w L' hF hS fun i hm => hi i (.inl hm)
  unfold RunsTo
  rw [run_call hc ha]
  exact h2.mono fun v' w' ⟨h1, h3⟩ => ⟨h1, hF.grow h3, hS.grow h3⟩
 ·have : v' = φ (e a) := hv'
  subst this
  exact k
end
section
variable {P : Program} {cx : Cx} {e : Qz} {L : List Chunk} {d : Nat} {ty : TypeId} {pos : String} {af : Array Edge} {g : Option (Nat × Bool)}
theorem turns_appGm {α : Type} {f : α → List Value} {ys ls zs : List α} {i : Nat} {S X : Operand} {t E : TypeId} {I : TypeInfo} {z : Value} {sz by_ : Nat} {p : Option Addr × Nat} {rds : List Nat} {V : Value} {a : Option Addr} {c m q : Nat} (hn : m = ys.length)
  (ht : P.underlying t = some (.slice E)) (hi : P.info? E = some I) (hz : I.zero = some z) (hsize : I.size = sz) (hby : I.bytes = by_) (hzs : z.cells.size = sz) (hsz : Nat.blt 0 sz = true)
  (hL : L[i]? = some (Qt E sz (.slice p.1 m p.2) m (ys.map f))) (hs : ev e S = .slice p.1 m p.2) (hx : ev e X = V) (hV : V = .slice a q c) (hq : q = ls.length)
  (hnews : ∀ w L', Fr cx w → Sat cx w L' → (∀ j, j ∈ rds → L'[j]? = L[j]?) → Row w a sz (ls.map f)) (hf : ∀ x ∈ ls, (f x).length = sz) (h1 : ∀ x ∈ ls, (f x).all Value.oneCell' = true) (hg : X6 by_ ys ls = some zs) :
  Turns P cx e ⟨some d, .call ⟨.builtin .append, #[S, X], #[t, t]⟩, ty, pos, af, g⟩ L i rds (fun p' : Option Addr × Nat => .slice p'.1 zs.length p'.2) (fun p' => Qt E sz (.slice p'.1 zs.length p'.2) zs.length (zs.map f)) := by
 subst hn hq
 obtain ⟨rfl, hb1, hb2⟩ := Vu hg
 rw [List.length_append]
 cases ha : a with
 | some ad =>
  subst ha
  exact turns_append (ad := ad) ht hi hz hsize hby hzs hsz hL hs (hx.trans hV) (by rw [List.length_map]) (fun x hx => by
   obtain ⟨y, hy, rfl⟩ := List.mem_map.1 hx; exact hf y hy) hnews (fun x hx u hu => by
   obtain ⟨y, hy, rfl⟩ := List.mem_map.1 hx; exact List.all_eq_true.1 (h1 y hy) u hu) (by rw [List.map_append]) rfl (by omega) hb2
 | none =>
  subst ha
  intro w L' hF hS hl hi'
  have hr := hnews w L' hF hS fun j hj => hi' j (.inl hj)
  have hls : ls = [] := by
   rcases hr with h | ⟨b, off, h, _⟩
   ·simpa using h
   ·cases h
  subst hls
  have hL' := (hi' i (.inr rfl)).trans hL
  obtain ⟨S0, ⟨⟨ho, _⟩, _⟩, _⟩ := hS.at hL'
  have he : (execOp (ev e) ⟨some d, .call ⟨.builtin .append, #[S, X], #[t, t]⟩, ty, pos, af, g⟩).run P w = .ok (.value (.slice p.1 ys.length p.2)) w := by
   simp only [execOp, resolve, invoke, builtin, Sem.run_bind, Sem.run_pure, Result.andThen_ok, List.map_toArray, List.map_cons, List.map_nil, hs, hx, hV, List.length_nil, Ug t ty E I sz ht hi _ _ _ c ho]
  unfold RunsTo
  rw [he]
  refine ⟨p, by simp, hF, ?_⟩
  have : L'.set i (Qt E sz (.slice p.1 (ys.length + 0) p.2) (ys.length + 0) ((ys ++ []).map f)) = L' := by
   rw [List.append_nil, Nat.add_zero]
   refine List.ext_getElem? fun j => ?_
   rw [List.getElem?_set]
   split
   ·rename_i h; subst h
    split
    ·exact hL'.symm
    ·rename_i h; rw [List.getElem?_eq_none (by omega)]
   ·rfl
  show Sat cx w (L'.set i (Qt E sz (.slice p.1 (ys.length + ([] : List α).length) p.2) (ys.length + ([] : List α).length) ((ys ++ []).map f)))
  rw [List.length_nil, this]
  exact hS
end
section
variable {α : Type} {G : Jy → (Nat → Value) → α → Prop} {h : Jy} {sz : Nat} {css : List (List Value)} {xs : List α}
theorem AllC.lens (p : AllC G h sz css xs) : ∀ x ∈ css, (V3 x).length = sz := by
 intro x hx
 obtain ⟨i, hi, rfl⟩ := List.getElem_of_mem hx
 have hi2 : i < xs.length := p.len ▸ hi
 exact (p.el i css[i] xs[i] (List.getElem?_eq_getElem hi) (List.getElem?_eq_getElem hi2)).1
theorem AllC.one1 (hG : ∀ {c : Nat → Value} {x : α}, G h c x → (c 0).oneCell' = true) (p : AllC G h 1 css xs) : ∀ x ∈ css, (V3 x).all Value.oneCell' = true := by
 intro x hx
 obtain ⟨i, hi, rfl⟩ := List.getElem_of_mem hx
 have hi2 : i < xs.length := p.len ▸ hi
 obtain ⟨h1, h2⟩ := p.el i css[i] xs[i] (List.getElem?_eq_getElem hi) (List.getElem?_eq_getElem hi2)
 have h3 := hG h2
 match hc : css[i], h1 with
 | [v], _ => simp only [hc, List.getD_cons_zero] at h3; simp [V3, h3]
end
end Go.Lx

/- In a drawn region: a nested result appended to a nested row; what it leaves is told behind the region. Conditions: those that each rule names. -/
namespace Go.Lx
open Go Go.Vc Go.Md
section
variable {P : Program} {cx : Cx} {e : Qz} {L : List Chunk} {ops : Array Oper} {F : Qz → List Chunk → Prop} {rest : List Oper} {ss : List Kd}
theorem sat_split {w : World} {i : Nat} {C D : Chunk} (hF : Fr cx w) (hS : Sat cx w L) (hL : L[i]? = some (Xw C D)) : Sat cx w (L.set i C ++ [D]) :=
 (Ui (e := fun _ => undef) (K := fun _ w => Sat cx w (L.set i C ++ [D])) i hL ⟨fun _ _ h => h⟩).out w hF hS
theorem sat_dr {w : World} (i : Nat) (hF : Fr cx w) (hS : Sat cx w L) : Sat cx w (L.eraseIdx i) :=
 (c_dr (e := fun _ => undef) (K := fun _ w => Sat cx w (L.eraseIdx i)) i ⟨fun _ _ h => h⟩).out w hF hS
def rowDP {α : Type} (E sz : Nat) (G : Jy → (Nat → Value) → α → Prop) (css : List (List Value)) (v : Value) (n : Nat) (ys : List α) : Chunk where
 P S w := ∃ (hp : Jy) (cs2 : List (List Value)), AllC G hp sz cs2 ys ∧ n = (css ++ cs2).length ∧ (Xw (Qt E sz v n ((css ++ cs2).map V3)) (Xh Vw hp)).P S w
 loc S w w' h := by
  rintro ⟨hp, cs2, h1, h2, h3⟩
  exact ⟨hp, cs2, h1, h2, Chunk.loc _ _ _ _ h h3⟩
theorem c_rowDP {K : Qz → World → Prop} {α : Type} {G : Jy → (Nat → Value) → α → Prop} {E sz n : Nat} {v : Value} {css : List (List Value)} {ys : List α} (i : Nat) (hi : L[i]? = some (rowDP E sz G css v n ys))
  (k : ∀ (hp : Jy) (cs2 : List (List Value)), n = (css ++ cs2).length → AllC G hp sz cs2 ys → At cx K e (L.set i (Xw (Qt E sz v n ((css ++ cs2).map V3)) (Xh Vw hp)))) : At cx K e L :=
 c_show (τ := Jy × List (List Value)) (D := fun t => Xw (Qt E sz v n ((css ++ t.2).map V3)) (Xh Vw t.1)) (φ := fun t => n = (css ++ t.2).length ∧ AllC G t.1 sz t.2 ys) i hi (fun S w ⟨hp, cs2, h1, h2, h3⟩ => ⟨(hp, cs2), ⟨h2, h1⟩, h3⟩) fun t ht => k t.1 t.2 ht.1 ht.2
def _root_.Go.Vc.Kd.t2g (i j : Nat) (rds : List Nat) {σ : Type} (G : σ → Value) (Cv : Value → Chunk) : Kd := .g [] rds [i, j] (fun _ _ v => ∃ x, v = G x) (fun _ _ v => [Cv v, empC])
theorem d_turn2G {σ : Type} {o : Oper} {d i j : Nat} {rds : List Nat} {G : σ → Value} {C : σ → Chunk} {Cv : Value → Chunk} {Ci Cj : Chunk} (x0 : σ) (h : Turns P cx e o ((L.set i (Xw Ci Cj)).set j empC) i rds G C) (hC : ∀ x, Cv (G x) = C x) (hi : L[i]? = some Ci) (hj : L[j]? = some Cj) (hne : i ≠ j)
  (hr : (∀ q ∈ rds, q ≠ i ∧ q ≠ j)) (hw : Xm ops o e = true) (hd : o.dst = some d) (k : ∀ x, Sq P cx ops F rest ss (upd e d (G x)) ((L.set i (C x)).set j empC)) : Sq P cx ops F (o :: rest) (.t2g i j rds G Cv :: ss) e L := by
 have hil : i < L.length := by
  rcases Nat.lt_or_ge i L.length with h | h
  ·exact h
  ·simp [List.getElem?_eq_none h] at hi
 have hjl : j < L.length := by
  rcases Nat.lt_or_ge j L.length with h | h
  ·exact h
  ·simp [List.getElem?_eq_none h] at hj
 refine .take hw ⟨G x0, x0, rfl⟩ ⟨fun w L' hF hS hl hi' => ?_⟩ fun v' hv' => ?_
 ·have hLi : L'[i]? = some Ci := (hi' i (.inr (by simp [Kd.t2g, Kd.wrs]))).trans hi
  have hLj : L'[j]? = some Cj := (hi' j (.inr (by simp [Kd.t2g, Kd.wrs]))).trans hj
  have hS2 := sat_both hF hS hLi hLj hne
  refine (h w _ hF hS2 (by simpa using hl) fun q hq => ?_).mono fun v w' ⟨x, hv, hF', hS'⟩ => ?_
  ·by_cases hqi : q = i
   ·subst hqi
    rw [List.getElem?_set_ne (fun h => hne h.symm), List.getElem?_set_ne (fun h => hne h.symm), List.getElem?_set_self (by omega), List.getElem?_set_self hil]
   ·have hq' : q ∈ rds := hq.resolve_right hqi
    have hqj := (hr q hq').2
    rw [List.getElem?_set_ne (fun h => hqj h.symm), List.getElem?_set_ne (fun h => hqj h.symm), List.getElem?_set_ne (fun h => hqi h.symm), List.getElem?_set_ne (fun h => hqi h.symm)]
    exact hi' q (.inl hq')
  ·subst hv
   refine ⟨⟨x, rfl⟩, hF', ?_⟩
   show Sat cx w' ((L'.set i (Cv (G x))).set j empC)
   have e1 : (((L'.set i (Xw Ci Cj)).set j empC).set i (C x)) = (L'.set i (C x)).set j empC := by
    rw [List.set_comm _ _ (fun h => hne h.symm), List.set_set]
   rw [e1] at hS'
   rw [hC]
   exact hS'
 ·obtain ⟨x, hx⟩ : ∃ x, v' = G x := hv'
  subst hx
  show Sq P cx ops F rest ss (W8 e o.dst (G x)) ((L.set i (Cv (G x))).set j empC)
  rw [hd, hC]
  exact k x
variable {d : Nat} {ty : TypeId} {pos : String} {af : Array Edge} {g : Option (Nat × Bool)}
theorem turns_appDD {α : Type} {G : Jy → (Nat → Value) → α → Prop} {css : List (List Value)} {ys : List α} {i : Nat} {S X : Operand} {t E : TypeId} {I : TypeInfo} {z : Value} {sz by_ m n2 : Nat} {p p2 : Option Addr × Nat} (nc : m = css.length)
  (ht : P.underlying t = some (.slice E)) (hi : P.info? E = some I) (hz : I.zero = some z) (hsize : I.size = sz) (hby : I.bytes = by_) (hzs : z.cells.size = sz) (hsz : Nat.blt 0 sz = true)
  (hL : L[i]? = some (Xw (Qt E sz (.slice p.1 m p.2) m (css.map V3)) (V1 E sz G (.slice p2.1 n2 p2.2) n2 ys))) (hs : ev e S = .slice p.1 m p.2) (hx : ev e X = .slice p2.1 n2 p2.2)
  (h1 : ∀ h cs2, AllC G h sz cs2 ys → ∀ x ∈ cs2, (V3 x).all Value.oneCell' = true) (hg : ∀ cs2 : List (List Value), cs2.length = ys.length → X6 by_ css cs2 = some (css ++ cs2)) :
  Turns P cx e ⟨some d, .call ⟨.builtin .append, #[S, X], #[t, t]⟩, ty, pos, af, g⟩ L i [] (fun p' : Option Addr × Nat => .slice p'.1 (css.length + ys.length) p'.2) (fun p' => rowDP E sz G css (.slice p'.1 (css.length + ys.length) p'.2) (css.length + ys.length) ys) := by
 intro w L' hF hS hl hi'
 have hL' := (hi' i (.inr rfl)).trans hL
 have hil : i < L'.length := by
  rcases Nat.lt_or_ge i L'.length with h | h
  ·exact h
  ·simp [List.getElem?_eq_none h] at hL'
 have himp : Imp (Xw (Qt E sz (.slice p.1 m p.2) m (css.map V3)) (V1 E sz G (.slice p2.1 n2 p2.2) n2 ys))
   (exC fun t : {t : Jy × List (List Value) // AllC G t.1 sz t.2 ys ∧ n2 = t.2.length} => Xw (Qt E sz (.slice p.1 m p.2) m (css.map V3)) (Xw (Xh Vw t.1.1) (Qt E sz (.slice p2.1 n2 p2.2) n2 (t.1.2.map V3)))) :=
  ⟨fun S w h => by
   obtain ⟨S1, S2, k1, ⟨hp, cs2, a1, a2, a3⟩, rest⟩ := h
   exact ⟨⟨(hp, cs2), a1, a2⟩, S1, S2, k1, a3, rest⟩⟩
 have hS0 := sat_imp hF hS hL' himp
 obtain ⟨⟨⟨hp, cs2⟩, hA, hn⟩, hS1⟩ := sat_ex (i := i) (List.getElem?_set_self hil) hS0
 rw [List.set_set] at hS1
 simp only at hA hn hS1
 have hS2 := sat_split hF hS1 (List.getElem?_set_self hil)
 rw [List.set_set] at hS2
 have hg2 : (L'.set i (Qt E sz (.slice p.1 m p.2) m (css.map V3)) ++ [Xw (Xh Vw hp) (Qt E sz (.slice p2.1 n2 p2.2) n2 (cs2.map V3))])[L'.length]? = some (Xw (Xh Vw hp) (Qt E sz (.slice p2.1 n2 p2.2) n2 (cs2.map V3))) := by rw [List.getElem?_append_right (by simp)]; simp
 have hS3 := sat_split (i := L'.length) hF hS2 hg2
 have e3 : ((L'.set i (Qt E sz (.slice p.1 m p.2) m (css.map V3)) ++ [Xw (Xh Vw hp) (Qt E sz (.slice p2.1 n2 p2.2) n2 (cs2.map V3))]).set L'.length (Xh Vw hp)) = L'.set i (Qt E sz (.slice p.1 m p.2) m (css.map V3)) ++ [Xh Vw hp] := by
  rw [List.set_append_right _ _ (by simp)]; simp
 rw [e3] at hS3
 have hg3 : (L'.set i (Qt E sz (.slice p.1 m p.2) m (css.map V3)) ++ [Xh Vw hp] ++ [Qt E sz (.slice p2.1 n2 p2.2) n2 (cs2.map V3)])[L'.length + 1]? = some (Qt E sz (.slice p2.1 n2 p2.2) n2 (cs2.map V3)) := by rw [List.getElem?_append_right (by simp)]; simp
 have hr := turns_appGm (P := P) (cx := cx) (e := e) (L := L'.set i (Qt E sz (.slice p.1 m p.2) m (css.map V3)) ++ [Xh Vw hp] ++ [Qt E sz (.slice p2.1 n2 p2.2) n2 (cs2.map V3)]) (d := d) (ty := ty) (pos := pos) (af := af) (g := g) (i := i) (rds := [L'.length + 1]) (f := V3) (ys := css) (ls := cs2) (a := p2.1) (c := p2.2) (q := n2) nc ht hi hz hsize hby hzs hsz
  (by rw [List.getElem?_append_left (by simp; omega), List.getElem?_append_left (by simp; omega), List.getElem?_set_self hil]) hs hx rfl hn
  (fun w L2 hF hS2 hj => rowOf (i := L'.length + 1) hS2 ((hj (L'.length + 1) (by simp)).trans hg3))
  hA.lens (h1 hp cs2 hA) (hg cs2 hA.len)
 refine (hr w _ hF hS3 rfl (fun _ _ => rfl)).mono fun v w' ⟨x, hv, hF', hS'⟩ => ?_
 have hlen : (css ++ cs2).length = css.length + ys.length := by rw [List.length_append, hA.len]
 refine ⟨x, by rw [hv, hlen], hF', ?_⟩
 have e4 : (L'.set i (Qt E sz (.slice p.1 m p.2) m (css.map V3)) ++ [Xh Vw hp] ++ [Qt E sz (.slice p2.1 n2 p2.2) n2 (cs2.map V3)]).set i (Qt E sz (.slice x.1 (css ++ cs2).length x.2) (css ++ cs2).length ((css ++ cs2).map V3)) =
   L'.set i (Qt E sz (.slice x.1 (css ++ cs2).length x.2) (css ++ cs2).length ((css ++ cs2).map V3)) ++ [Xh Vw hp] ++ [Qt E sz (.slice p2.1 n2 p2.2) n2 (cs2.map V3)] := by
  rw [List.set_append_left _ _ (by simp; omega), List.set_append_left _ _ (by simp; omega), List.set_set]
 rw [e4] at hS'
 have hS5 := sat_both (i := i) (j := L'.length) (C := Qt E sz (.slice x.1 (css ++ cs2).length x.2) (css ++ cs2).length ((css ++ cs2).map V3)) (D := Xh Vw hp) hF' hS' (by rw [List.getElem?_append_left (by simp; omega), List.getElem?_append_left (by simp; omega), List.getElem?_set_self hil]) (by rw [List.getElem?_append_left (by simp), List.getElem?_append_right (by simp)]; simp) (by omega)
 have hS6 := sat_imp (i := i) (D := rowDP E sz G css (.slice x.1 (css.length + ys.length) x.2) (css.length + ys.length) ys) hF' hS5 (by rw [List.getElem?_set_ne (by omega), List.getElem?_set_self (by simp; omega)]) ⟨fun S w h => ⟨hp, cs2, hA, hlen.symm, by rw [← hlen]; exact h⟩⟩
 have hS7 := sat_dr L'.length hF' (sat_dr (L'.length + 1) hF' hS6)
 refine cast (congrArg (Sat cx w') ?_) hS7
 refine List.ext_getElem? fun j => ?_
 by_cases hj : j < L'.length
 ·simp only [List.getElem?_eraseIdx, List.getElem?_set, List.getElem?_append, List.length_set, List.length_append, List.length_cons, List.length_nil]
  by_cases hji : i = j
  ·subst hji
   simp [hj, show i < L'.length + 1 by omega, show i < L'.length + 1 + 1 by omega]
  ·simp [hj, hji, show j < L'.length + 1 by omega, show ¬ L'.length = j by omega]
 ·rw [List.getElem?_eq_none, List.getElem?_eq_none (by rw [List.length_set]; omega)]
  rw [List.length_eraseIdx_of_lt (by rw [List.length_eraseIdx_of_lt (by simp)]; simp), List.length_eraseIdx_of_lt (by simp)]
  simp only [List.length_set, List.length_append, List.length_cons, List.length_nil]
  omega
end
section
variable {α : Type} {G : Jy → (Nat → Value) → α → Prop} {h : Jy} {sz : Nat} {v : Value} {xs : List α}
theorem elC_getD (h : Jy) (v : Value) (sz i : Nat) : (fun j => (V2 h v sz i).getD j undef) = J6 h v sz i := by
 funext j
 rw [List.getD_eq_getElem?_getD]
 unfold V2
 by_cases hj : j < sz
 ·simp [List.getElem?_range hj]
 ·rw [List.getElem?_eq_none (by simp; omega)]
  simp [J6, hj]
theorem FrN.allC (f : FrN h sz v G xs) : AllC G h sz ((List.range xs.length).map (V2 h v sz)) xs := by
 refine ⟨by simp, fun i cs x hc hxi => ?_⟩
 have hi : i < xs.length := (List.getElem?_eq_some_iff.1 hxi).1
 rw [List.getElem?_map, List.getElem?_range hi] at hc
 cases hc
 refine ⟨by simp [V2], ?_⟩
 rw [elC_getD]
 exact f.el i x hxi
theorem AllC.oneN {css : List (List Value)} (hG : ∀ {c : Nat → Value} {x : α}, G h c x → ∀ j, j < sz → (c j).oneCell' = true) (p : AllC G h sz css xs) : ∀ x ∈ css, (V3 x).all Value.oneCell' = true := by
 intro x hx
 obtain ⟨i, hi, rfl⟩ := List.getElem_of_mem hx
 have hi2 : i < xs.length := p.len ▸ hi
 obtain ⟨h1, h2⟩ := p.el i css[i] xs[i] (List.getElem?_eq_getElem hi) (List.getElem?_eq_getElem hi2)
 show css[i].all Value.oneCell' = true
 refine List.all_eq_true.2 fun u hu => ?_
 obtain ⟨j, hj, rfl⟩ := List.getElem_of_mem hu
 have h3 := hG h2 j (h1 ▸ hj)
 rwa [List.getD_eq_getElem?_getD, List.getElem?_eq_getElem hj, Option.getD_some] at h3
end
end Go.Lx

/- A nested result whose elements lie in what came in. Conditions: those that each rule names. -/
namespace Go.Lx
open Go Go.Vc Go.Md
section
variable {P : Program} {cx : Cx} {e : Qz} {L : List Chunk}
def rowHD {α : Type} (h : Jy) (E sz : Nat) (G : Jy → (Nat → Value) → α → Prop) (v : Value) (n : Nat) (xs : List α) : Chunk where
 P S w := ∃ css : List (List Value), AllC G h sz css xs ∧ n = css.length ∧ (Qt E sz v n (css.map V3)).P S w
 loc S w w' h := by
  rintro ⟨css, h1, h2, h3⟩
  exact ⟨css, h1, h2, Chunk.loc _ _ _ _ h h3⟩
theorem imp_rowHD {α : Type} {h : Jy} {G : Jy → (Nat → Value) → α → Prop} {E sz n : Nat} {p : Option Addr × Nat} {css : List (List Value)} {xs : List α} (hn : n = css.length) (f : AllC G h sz css xs) :
  Imp (Qt E sz (.slice p.1 n p.2) n (css.map V3)) (rowHD h E sz G (.slice p.1 n p.2) n xs) := ⟨fun S w k => ⟨css, f, hn, k⟩⟩
theorem c_rowHD {K : Qz → World → Prop} {α : Type} {h : Jy} {G : Jy → (Nat → Value) → α → Prop} {E sz n : Nat} {p : Option Addr × Nat} {xs : List α} (i : Nat) (hi : L[i]? = some (rowHD h E sz G (.slice p.1 n p.2) n xs))
  (k : ∀ css : List (List Value), n = css.length → AllC G h sz css xs → At cx K e (L.set i (Qt E sz (.slice p.1 n p.2) n (css.map V3)))) : At cx K e L :=
 c_show (τ := List (List Value)) (D := fun t => Qt E sz (.slice p.1 n p.2) n (t.map V3)) (φ := fun t => n = t.length ∧ AllC G h sz t xs) i hi (fun S w ⟨css, h1, h2, h3⟩ => ⟨css, ⟨h2, h1⟩, h3⟩) fun t ht => k t ht.1 ht.2
end
end Go.Lx

/- TagDiffers, differ: the walks, printed by our generator; each follows its model. Conditions: the model yields a value. -/
namespace Go.Proofs.Ytpljknglodhcnaa
open Go Go.Vc Go.Md Go.M Go.Lx
set_option maxRecDepth 100000
set_option maxHeartbeats 4000000
set_option linter.unusedVariables false
theorem mixed : Try.prog.follows .mixedOrders = true := by kernel_rfl
abbrev J8 (x : Int) : List Value := [.int .i64 x]
abbrev Jr (x : T_tag_Ratio) : List Value := [.int .i64 x.Num, .int .i64 x.Den]
abbrev e_u8 (x : Int) : List Value := [.int .u8 x]
def Wr (m : ((List Int) → (List Int) → Option (Bool))) (w : World) (args : List Value) (post : Value → World → Prop) : Prop :=
  ∃ (a0 : (List Int)) (v0 : Value) (a1 : (List Int)) (v1 : Value) (r : Bool), FrS (fun b => w.heap[b]?) 1 v0 (a0.map J8) ∧ FrS (fun b => w.heap[b]?) 1 v1 (a1.map J8) ∧ args = [v0, v1] ∧ m a0 a1 = some r ∧ post = fun v' w' => v' = (.bool r) ∧ Grow w w'
inductive g_tag_Entry (h : Jy) : (Nat → Value) → T_tag_Entry → Prop
  | mk {c : Nat → Value} {x : T_tag_Entry} (h0 : c 0 = .int .i64 x.Tag) (h1 : c 1 = .int .i64 x.Value.Kind) (h2 : c 2 = str x.Value.Text) (h3 : FrS h 1 (c 3) (x.Value.Ints.map J8)) (h4 : FrS h 2 (c 4) (x.Value.Ratios.map Jr)) (h5 : FrS h 6 (c 5) ((List.range x.Value.Entries.length).map (V2 h (c 5) 6))) (h6 : ∀ (i : Nat) (y : T_tag_Entry), x.Value.Entries[i]? = some y → g_tag_Entry h (J6 h (c 5) 6 i) y) : g_tag_Entry h c x
instance : Mon g_tag_Entry := ⟨fun k c x f => by
  induction f with
  | mk h0 h1 h2 h3 h4 h5 h6 ih => exact .mk h0 h1 h2 (h3.mono k) (h4.mono k) (frsMono h5 k) (fun i y hy => by have e_ := elMonoE h5 k hy; rw [← e_]; exact ih i y hy)⟩
def gs_int (h : Jy) (c : Nat → Value) (x : (List Int)) : Prop := FrS h 1 (c 0) (x.map J8)
instance : Mon gs_int := ⟨fun k _ _ f => FrS.mono f k⟩
theorem cgs_int {h : Jy} {c : Nat → Value} {x : (List Int)} (_ : gs_int h c x) : (List.range 1).map c = [c 0] := rfl
def gs_tag_Ratio (h : Jy) (c : Nat → Value) (x : (List T_tag_Ratio)) : Prop := FrS h 2 (c 0) (x.map Jr)
instance : Mon gs_tag_Ratio := ⟨fun k _ _ f => FrS.mono f k⟩
def gs_tag_Entry (h : Jy) (c : Nat → Value) (x : (List T_tag_Entry)) : Prop := FrN h 6 (c 0) g_tag_Entry x
instance : Mon gs_tag_Entry := ⟨fun k _ _ f => FrN.mono f k⟩
theorem X5 {h : Jy} {c : Nat → Value} {x : (List T_tag_Entry)} (_ : gs_tag_Entry h c x) : (List.range 1).map c = [c 0] := rfl
def g_tag_Value (h : Jy) (c : Nat → Value) (x : T_tag_Value) : Prop := c 0 = .int .i64 x.Kind ∧ c 1 = str x.Text ∧ gs_int h (fun j => c (2 + j)) x.Ints ∧ gs_tag_Ratio h (fun j => c (3 + j)) x.Ratios ∧ gs_tag_Entry h (fun j => c (4 + j)) x.Entries
instance : Mon g_tag_Value := ⟨fun k _ _ f => by obtain ⟨h0, h1, h2, h3, h4⟩ := f; exact ⟨h0, h1, Mon.mono k _ _ h2, Mon.mono k _ _ h3, Mon.mono k _ _ h4⟩⟩
theorem cg_tag_Value {h : Jy} {c : Nat → Value} {x : T_tag_Value} (f : g_tag_Value h c x) : (List.range 5).map c = [.int .i64 x.Kind, str x.Text, c 2, c 3, c 4] := by
  obtain ⟨h0, h1, h2, h3, h4⟩ := f
  show [c 0, c 1, c 2, c 3, c 4] = _
  simp only [h0, h1]
theorem J1 {h : Jy} {c : Nat → Value} {x : T_tag_Value} (f : g_tag_Value h c x) : gs_int h (fun j => c (2 + j)) x.Ints := by
  obtain ⟨h0, h1, h2, h3, h4⟩ := f; exact h2
theorem J2 {h : Jy} {c : Nat → Value} {x : T_tag_Value} (f : g_tag_Value h c x) : gs_tag_Ratio h (fun j => c (3 + j)) x.Ratios := by
  obtain ⟨h0, h1, h2, h3, h4⟩ := f; exact h3
theorem Jv {h : Jy} {c : Nat → Value} {x : T_tag_Value} (f : g_tag_Value h c x) : gs_tag_Entry h (fun j => c (4 + j)) x.Entries := by
  obtain ⟨h0, h1, h2, h3, h4⟩ := f; exact h4
theorem g_tag_Entry_iff {h : Jy} {c : Nat → Value} {x : T_tag_Entry} : g_tag_Entry h c x ↔ (c 0 = .int .i64 x.Tag ∧ g_tag_Value h (fun j => c (1 + j)) x.Value) :=
  ⟨fun f => by cases f with | mk h0 h1 h2 h3 h4 h5 h6 => exact ⟨h0, ⟨h1, h2, h3, h4, ⟨h5, h6⟩⟩⟩, fun ⟨h0, ⟨h1, h2, h3, h4, ⟨h5, h6⟩⟩⟩ => .mk h0 h1 h2 h3 h4 h5 h6⟩
theorem Qh {h : Jy} {c : Nat → Value} {x : T_tag_Entry} (f : g_tag_Entry h c x) : (List.range 6).map c = [.int .i64 x.Tag, .int .i64 x.Value.Kind, str x.Value.Text, c 3, c 4, c 5] := by
  obtain ⟨h0, h1⟩ := g_tag_Entry_iff.1 f
  have hc1 := cg_tag_Value h1
  simp only [List.range, List.range.loop, List.map_cons, List.map_nil, Nat.reduceAdd, List.cons.injEq, and_true] at hc1
  show [c 0, c 1, c 2, c 3, c 4, c 5] = _
  simp only [h0, hc1]
theorem Ji {h : Jy} {c : Nat → Value} {x : T_tag_Entry} (f : g_tag_Entry h c x) : g_tag_Value h (fun j => c (1 + j)) x.Value := by
  obtain ⟨h0, h1⟩ := g_tag_Entry_iff.1 f; exact h1
def gss_tag_Entry (h : Jy) (c : Nat → Value) (x : (List (List T_tag_Entry))) : Prop := FrN h 1 (c 0) gs_tag_Entry x
instance : Mon gss_tag_Entry := ⟨fun k _ _ f => FrN.mono f k⟩
def g_tag_File (h : Jy) (c : Nat → Value) (x : T_tag_File) : Prop := c 0 = .bool x.Big ∧ gss_tag_Entry h (fun j => c (1 + j)) x.Dirs
instance : Mon g_tag_File := ⟨fun k _ _ f => by obtain ⟨h0, h1⟩ := f; exact ⟨h0, Mon.mono k _ _ h1⟩⟩
theorem cg_tag_File {h : Jy} {c : Nat → Value} {x : T_tag_File} (f : g_tag_File h c x) : (List.range 2).map c = [.bool x.Big, c 1] := by
  obtain ⟨h0, h1⟩ := f
  show [c 0, c 1] = _
  simp only [h0]
theorem g_tag_File_p1 {h : Jy} {c : Nat → Value} {x : T_tag_File} (f : g_tag_File h c x) : gss_tag_Entry h (fun j => c (1 + j)) x.Dirs := by
  obtain ⟨h0, h1⟩ := f; exact h1
def Za (m : (T_tag_Entry → T_tag_Entry → Option (Bool))) (w : World) (args : List Value) (post : Value → World → Prop) : Prop :=
  ∃ (a0 : T_tag_Entry) (v0_1_2 : Value) (v0_1_3 : Value) (v0_1_4 : Value) (a1 : T_tag_Entry) (v1_1_2 : Value) (v1_1_3 : Value) (v1_1_4 : Value) (r : Bool), FrS (fun b => w.heap[b]?) 1 v0_1_2 (a0.Value.Ints.map J8) ∧ FrS (fun b => w.heap[b]?) 2 v0_1_3 (a0.Value.Ratios.map Jr) ∧ FrN (fun b => w.heap[b]?) 6 v0_1_4 g_tag_Entry a0.Value.Entries ∧ FrS (fun b => w.heap[b]?) 1 v1_1_2 (a1.Value.Ints.map J8) ∧ FrS (fun b => w.heap[b]?) 2 v1_1_3 (a1.Value.Ratios.map Jr) ∧ FrN (fun b => w.heap[b]?) 6 v1_1_4 g_tag_Entry a1.Value.Entries ∧ args = [.agg #[.int .i64 a0.Tag, .int .i64 a0.Value.Kind, str a0.Value.Text, v0_1_2, v0_1_3, v0_1_4], .agg #[.int .i64 a1.Tag, .int .i64 a1.Value.Kind, str a1.Value.Text, v1_1_2, v1_1_3, v1_1_4]] ∧ m a0 a1 = some r ∧ post = fun v' w' => v' = (.bool r) ∧ Grow w w'
def Y6 (m : (T_tag_Entry → Int → Option (Int))) (w : World) (args : List Value) (post : Value → World → Prop) : Prop :=
  ∃ (a0 : T_tag_Entry) (v0_1_2 : Value) (v0_1_3 : Value) (v0_1_4 : Value) (a1 : Int) (r : Int), FrS (fun b => w.heap[b]?) 1 v0_1_2 (a0.Value.Ints.map J8) ∧ FrS (fun b => w.heap[b]?) 2 v0_1_3 (a0.Value.Ratios.map Jr) ∧ FrN (fun b => w.heap[b]?) 6 v0_1_4 g_tag_Entry a0.Value.Entries ∧ args = [.agg #[.int .i64 a0.Tag, .int .i64 a0.Value.Kind, str a0.Value.Text, v0_1_2, v0_1_3, v0_1_4], .int .i64 a1] ∧ m a0 a1 = some r ∧ post = fun v' w' => v' = (.int .i64 r) ∧ Grow w w'
theorem run_eqT77 (d : Nat) (w : World) (a0 b0 : Int) (a1 b1 : Int) : (Op.equalIn (d + 2) 77 (.agg #[.int .i64 a0, .int .i64 a1]) (.agg #[.int .i64 b0, .int .i64 b1])).run Try.prog w = .ok (decide (a0 = b0 ∧ a1 = b1)) w := by
  rw [run_equalIn_struct w (d + 1) 77 _ _ (by simp only [Program.fieldsOf, Try.underlying77]) Try.stoodInHeld77]
  simp only [Program.fieldsOf, Try.underlying77, Op.eqFields]
  simp [part, run_equalIn_int, run_equalIn_strL, run_equalIn_bool', Try.underlying3]
  repeat' split
  all_goals simp_all
theorem run_eq_tag_Ratio (w : World) (x y : T_tag_Ratio) : (Op.equalIn Op.maxDepth 77 (.agg #[.int .i64 x.Num, .int .i64 x.Den]) (.agg #[.int .i64 y.Num, .int .i64 y.Den])).run Try.prog w = .ok (Wj x y) w :=
  run_eqT77 9998 w _ _ _ _
theorem k30 {a0 : (List Int)} {v0 : Value} {a1 : (List Int)} {v1 : Value} {r : Bool} {w : World} {h : Jy} (hw : Know h w Zc) (f0 : FrS h 1 v0 (a0.map J8)) (f1 : FrS h 1 v1 (a1.map J8)) (H : Xo a0 a1 = some r) : Does Try.prog 30 (List.toArray [v0, v1]) w (fun v w' => v = (.bool r) ∧ Grow w w') := by
 refine enter (n := 26) Try.func30 rfl rfl rfl Zc [] (Sat.nil _ _) ?_
 refine Jf ?_
 refine Jb ?_
 refine Ja rfl rfl rfl (Jc (v := .bool false) rfl) ?_
 refine Jg ?_
 refine Jf ?_
 refine Jf ?_
 refine Jb ?_
 refine Ja rfl rfl rfl (Jd (v := v0) rfl) ?_
 refine Ja rfl rfl rfl (Z2 Try.underlying25 rfl f0 rfl) ?_
 refine Ja rfl rfl rfl (Jd (v := v1) rfl) ?_
 refine Ja rfl rfl rfl (Z2 Try.underlying25 rfl f1 rfl) ?_
 refine Ja rfl rfl rfl (V0 rfl rfl) ?_
 refine Jg ?_
 refine Qb (b := (decide ((a0.length : Int) ≠ (a1.length : Int)))) rfl (fun hb => ?_) (fun hb => ?_)
 ·have H11 := Jo hb H; clear H
  refine Jf ?_
  refine Jb ?_
  refine Ja rfl rfl rfl (Jc (v := .bool false) rfl) ?_
  refine Jg ?_
  refine Ju ?_
  obtain rfl := Option.some.inj H11
  refine Qa (v := .bool false) rfl rfl (fin rfl)
 ·have H12 := Jp hb H; clear H
  refine Jt ?_
  refine Jf ?_
  refine Jf ?_
  refine Jb ?_
  refine Ja rfl rfl rfl (Jd (v := v0) rfl) ?_
  refine Ja rfl rfl rfl (Z2 Try.underlying25 rfl f0 rfl) ?_
  refine Ja rfl rfl rfl (Jd (v := .int .i64 0) rfl) ?_
  refine Jg ?_
  refine J0 ?_
  refine Zb (σ := Int) (τ := Unit) (fun next1 s => Xg a0 a1 next1 s) (fun s t => [(0, v0), (1, v1), (12, .int .i64 (a0.length : Int)), (13, .int .i64 s)]) (fun s t => []) (fun s t => True) 0 () [] H12 (by exact trivial) (by exact ⟨rfl, rfl, rfl, rfl, trivial⟩) (by decide) rfl ?_
  rintro x13_2 _ m1 gg H13 _
  clear H12
  replace H13 : Xg a0 a1 (it (fun next1 s => Xg a0 a1 next1 s) m1) x13_2 = some r := H13
  generalize hn1 : it (fun next1 s => Xg a0 a1 next1 s) m1 = next1 at H13
  try dsimp only
  refine Jf ?_
  refine Jb ?_
  refine Ja rfl rfl rfl (Xy rfl rfl) ?_
  refine Jg ?_
  refine Jf ?_
  refine Qb (b := (decide (x13_2 < (a0.length : Int)))) rfl (fun hb => ?_) (fun hb => ?_)
  ·have H14 := Jo hb H13; clear H13
   refine Jt ?_
   refine Jf ?_
   refine J0 ?_
   refine Jf ?_
   refine Jb ?_
   refine Ja rfl rfl rfl (Jd (v := .int .i64 x13_2) rfl) ?_
   refine Ja rfl rfl rfl (Jc (v := .int .i64 x13_2) rfl) ?_
   refine Jg ?_
   refine Jf ?_
   exact Q6 (Kd.p :: Kd.p :: Kd.p :: Kd.d [] _ :: Kd.p :: Kd.p :: Kd.p :: Kd.d [] _ :: Kd.p :: []) 0 mixed (by
    refine Jk rfl rfl (Jd (v := v0) rfl) ?_
    refine Jk rfl rfl (Jd (v := .int .i64 x13_2) rfl) ?_
    have h_t18 := J4 H14
    have H15 := Jw H14
    refine Jk rfl rfl (Qe Try.underlying25 Try.sizeOf3 rfl rfl f0 h_t18) ?_
    refine Zp (fun w hF => Qk (f := J8) (i := x13_2) (sz := 1) (j := 0) (v := .int .i64 (val (Qj a0 x13_2))) Try.isAgg3 rfl rfl (f0.row (hw.now hF)) h_t18 rfl) rfl rfl ?_
    refine Jk rfl rfl (Jd (v := v1) rfl) ?_
    refine Jk rfl rfl (Jd (v := .int .i64 x13_2) rfl) ?_
    have h_t22 := J4 H15
    have H16 := Jw H15
    refine Jk rfl rfl (Qe Try.underlying25 Try.sizeOf3 rfl rfl f1 h_t22) ?_
    refine Zp (fun w hF => Qk (f := J8) (i := x13_2) (sz := 1) (j := 0) (v := .int .i64 (val (Qj a1 x13_2))) Try.isAgg3 rfl rfl (f1.row (hw.now hF)) h_t22 rfl) rfl rfl ?_
    refine Jk rfl rfl (V0 rfl rfl) ?_
    refine Yp ?_
    refine Qb (b := (decide ((val (Qj a0 x13_2)) ≠ (val (Qj a1 x13_2))))) rfl (fun hb => ?_) (fun hb => ?_)
    ·have H17 := Jo hb H16; clear H16
     refine Jf ?_
     refine Jb ?_
     refine Ja rfl rfl rfl (Jc (v := .bool false) rfl) ?_
     refine Jg ?_
     refine Ju ?_
     obtain rfl := Option.some.inj H17
     refine Qa (v := .bool false) rfl rfl (fin rfl)
    ·have H18 := Jp hb H16; clear H16
     refine Jt ?_
     refine Jb ?_
     obtain ⟨t25, h_t25, H19⟩ := Jj H18; clear H18
     refine Ja rfl rfl rfl (Qn rfl rfl h_t25) ?_
     refine Ja rfl rfl rfl (Jd (v := .int .i64 t25) rfl) ?_
     refine Jg ?_
     refine Jn t25 () m1 [] (by exact ⟨rfl, rfl, rfl, rfl, trivial⟩) (by decide) (by kernel_rfl) (by exact ⟨(by subst hn1; exact H19), trivial⟩) (Nat.lt_succ_self _)
    ) (by kernel_rfl)
  ·have H20 := Jp hb H13; clear H13
   refine Xq ?_
   refine Jf ?_
   refine Jb ?_
   refine Ja rfl rfl rfl (Jc (v := .bool true) rfl) ?_
   refine Jg ?_
   refine Ju ?_
   obtain rfl := Option.some.inj H20
   refine Qa (v := .bool true) rfl rfl (fin rfl)
theorem k39 {a0 : (List T_tag_Ratio)} {v0 : Value} {a1 : (List T_tag_Ratio)} {v1 : Value} {r : Bool} {w : World} {h : Jy} (hw : Know h w Zc) (f0 : FrS h 2 v0 (a0.map Jr)) (f1 : FrS h 2 v1 (a1.map Jr)) (H : X7 a0 a1 = some r) : Does Try.prog 39 (List.toArray [v0, v1]) w (fun v w' => v = (.bool r) ∧ Grow w w') := by
 refine enter (n := 26) Try.func39 rfl rfl rfl Zc [] (Sat.nil _ _) ?_
 refine Jf ?_
 refine Jb ?_
 refine Ja rfl rfl rfl (Jc (v := .bool false) rfl) ?_
 refine Jg ?_
 refine Jf ?_
 refine Jf ?_
 refine Jb ?_
 refine Ja rfl rfl rfl (Jd (v := v0) rfl) ?_
 refine Ja rfl rfl rfl (Z2 Try.underlying26 rfl f0 rfl) ?_
 refine Ja rfl rfl rfl (Jd (v := v1) rfl) ?_
 refine Ja rfl rfl rfl (Z2 Try.underlying26 rfl f1 rfl) ?_
 refine Ja rfl rfl rfl (V0 rfl rfl) ?_
 refine Jg ?_
 refine Qb (b := (decide ((a0.length : Int) ≠ (a1.length : Int)))) rfl (fun hb => ?_) (fun hb => ?_)
 ·have H11 := Jo hb H; clear H
  refine Jf ?_
  refine Jb ?_
  refine Ja rfl rfl rfl (Jc (v := .bool false) rfl) ?_
  refine Jg ?_
  refine Ju ?_
  obtain rfl := Option.some.inj H11
  refine Qa (v := .bool false) rfl rfl (fin rfl)
 ·have H12 := Jp hb H; clear H
  refine Jt ?_
  refine Jf ?_
  refine Jf ?_
  refine Jb ?_
  refine Ja rfl rfl rfl (Jd (v := v0) rfl) ?_
  refine Ja rfl rfl rfl (Z2 Try.underlying26 rfl f0 rfl) ?_
  refine Ja rfl rfl rfl (Jd (v := .int .i64 0) rfl) ?_
  refine Jg ?_
  refine J0 ?_
  refine Zb (σ := Int) (τ := Unit) (fun next1 s => Qs a0 a1 next1 s) (fun s t => [(0, v0), (1, v1), (12, .int .i64 (a0.length : Int)), (13, .int .i64 s)]) (fun s t => []) (fun s t => True) 0 () [] H12 (by exact trivial) (by exact ⟨rfl, rfl, rfl, rfl, trivial⟩) (by decide) rfl ?_
  rintro x13_2 _ m1 gg H13 _
  clear H12
  replace H13 : Qs a0 a1 (it (fun next1 s => Qs a0 a1 next1 s) m1) x13_2 = some r := H13
  generalize hn1 : it (fun next1 s => Qs a0 a1 next1 s) m1 = next1 at H13
  try dsimp only
  refine Jf ?_
  refine Jb ?_
  refine Ja rfl rfl rfl (Xy rfl rfl) ?_
  refine Jg ?_
  refine Jf ?_
  refine Qb (b := (decide (x13_2 < (a0.length : Int)))) rfl (fun hb => ?_) (fun hb => ?_)
  ·have H14 := Jo hb H13; clear H13
   refine Jt ?_
   refine Jf ?_
   refine J0 ?_
   refine Jf ?_
   refine Jb ?_
   refine Ja rfl rfl rfl (Jd (v := .int .i64 x13_2) rfl) ?_
   refine Ja rfl rfl rfl (Jc (v := .int .i64 x13_2) rfl) ?_
   refine Jg ?_
   refine Jf ?_
   exact Q6 (Kd.p :: Kd.p :: Kd.p :: Kd.d [] _ :: Kd.p :: Kd.p :: Kd.p :: Kd.d [] _ :: Kd.p :: []) 0 mixed (by
    refine Jk rfl rfl (Jd (v := v0) rfl) ?_
    refine Jk rfl rfl (Jd (v := .int .i64 x13_2) rfl) ?_
    have h_t18 := J4 H14
    have H15 := Jw H14
    refine Jk rfl rfl (Qe Try.underlying26 Try.sizeOf77 rfl rfl f0 h_t18) ?_
    refine Zp (fun w hF => Xb (f := Jr) (i := x13_2) (sz := 2) (j := 0) (vs := [.int .i64 (val (Qj a0 x13_2)).Num, .int .i64 (val (Qj a0 x13_2)).Den]) Try.isAgg77 Try.sizeOf77 rfl rfl (f0.row (hw.now hF)) h_t18 rfl) rfl rfl ?_
    refine Jk rfl rfl (Jd (v := v1) rfl) ?_
    refine Jk rfl rfl (Jd (v := .int .i64 x13_2) rfl) ?_
    have h_t22 := J4 H15
    have H16 := Jw H15
    refine Jk rfl rfl (Qe Try.underlying26 Try.sizeOf77 rfl rfl f1 h_t22) ?_
    refine Zp (fun w hF => Xb (f := Jr) (i := x13_2) (sz := 2) (j := 0) (vs := [.int .i64 (val (Qj a1 x13_2)).Num, .int .i64 (val (Qj a1 x13_2)).Den]) Try.isAgg77 Try.sizeOf77 rfl rfl (f1.row (hw.now hF)) h_t22 rfl) rfl rfl ?_
    refine Jk rfl rfl (r_neqA (xs := #[.int .i64 (val (Qj a0 x13_2)).Num, .int .i64 (val (Qj a0 x13_2)).Den]) (ys := #[.int .i64 (val (Qj a1 x13_2)).Num, .int .i64 (val (Qj a1 x13_2)).Den]) Try.eqGuardType77 (fun w => run_eq_tag_Ratio w (val (Qj a0 x13_2)) (val (Qj a1 x13_2))) rfl rfl) ?_
    refine Yp ?_
    refine Qb (b := (!(Wj (val (Qj a0 x13_2)) (val (Qj a1 x13_2))))) rfl (fun hb => ?_) (fun hb => ?_)
    ·have H17 := Jo hb H16; clear H16
     refine Jf ?_
     refine Jb ?_
     refine Ja rfl rfl rfl (Jc (v := .bool false) rfl) ?_
     refine Jg ?_
     refine Ju ?_
     obtain rfl := Option.some.inj H17
     refine Qa (v := .bool false) rfl rfl (fin rfl)
    ·have H18 := Jp hb H16; clear H16
     refine Jt ?_
     refine Jb ?_
     obtain ⟨t25, h_t25, H19⟩ := Jj H18; clear H18
     refine Ja rfl rfl rfl (Qn rfl rfl h_t25) ?_
     refine Ja rfl rfl rfl (Jd (v := .int .i64 t25) rfl) ?_
     refine Jg ?_
     refine Jn t25 () m1 [] (by exact ⟨rfl, rfl, rfl, rfl, trivial⟩) (by decide) (by kernel_rfl) (by exact ⟨(by subst hn1; exact H19), trivial⟩) (Nat.lt_succ_self _)
    ) (by kernel_rfl)
  ·have H20 := Jp hb H13; clear H13
   refine Xq ?_
   refine Jf ?_
   refine Jb ?_
   refine Ja rfl rfl rfl (Jc (v := .bool true) rfl) ?_
   refine Jg ?_
   refine Ju ?_
   obtain rfl := Option.some.inj H20
   refine Qa (v := .bool true) rfl rfl (fin rfl)
theorem k26 {a0 : (List Int)} {v0 : Value} {r : (List Int)} {w : World} {h : Jy} (hw : Know h w Zc) (f0 : FrS h 1 v0 (a0.map J8)) (H : Jm a0 = some r) : Does Try.prog 26 (List.toArray [v0]) w (fun v w' => ∃ x : (Option Addr × Nat), v = (.slice x.1 r.length x.2) ∧ Turn w w' Zc (Qt 3 1 (.slice x.1 r.length x.2) r.length (r.map J8))) := by
 refine enter (n := 8) Try.func26 rfl rfl rfl Zc [] (Sat.nil _ _) ?_
 refine Jf ?_
 refine Jb ?_
 refine Ja rfl rfl rfl (Jc (v := .slice none 0 0) rfl) ?_
 refine Jg ?_
 refine Jf ?_
 refine Jf ?_
 refine Jb ?_
 refine Ja rfl rfl rfl (Jd (v := v0) rfl) ?_
 refine Ja rfl rfl rfl (r_eqlNilS Try.underlying25 f0 rfl rfl) ?_
 refine Jg ?_
 refine Qb (b := isNilV v0) rfl (fun hb => ?_) (fun hb => ?_)
 ·have hn_ : a0 = [] := f0.nilV hb
  have H3 : some ([] : List Int) = some r := by have h_ := H; rw [hn_] at h_; exact h_
  refine Jf ?_
  refine Jb ?_
  refine Ja rfl rfl rfl (Jc (v := .slice none 0 0) rfl) ?_
  refine Jg ?_
  refine Ju ?_
  refine Wh 3 1 ?_
  obtain rfl := Option.some.inj H3
  refine Qa (v := .slice ((none, 0) : Option Addr × Nat).1 ([] : List Int).length ((none, 0) : Option Addr × Nat).2) rfl rfl (finX ((none, 0) : Option Addr × Nat) (i := 0) rfl rfl (Imp.refl _))
 ·skip
  refine Jt ?_
  refine Jf ?_
  refine Jb ?_
  refine Zm (vs := []) (cs := []) Try.underlying25 Try.sizeOf3 Try.zeroValue3 rfl rfl rfl rfl rfl rfl rfl (fun b1 => ?_)
  refine Ja rfl rfl rfl (Jd (v := v0) rfl) ?_
  refine W6 0 rfl (imp_box (m := 0) (E := 3) (sz := 1) (xs := (([] : List Int)).map J8) rfl rfl rfl ⟨rfl, by decide⟩) ?_
  obtain ⟨l7, h_l7, H4⟩ := Jj H; clear H
  refine Y7 (turns_appG (i := 0) (hn := rfl) (rds := []) (p := ((some ⟨b1, 0, none⟩, 0) : Option Addr × Nat)) (sz := 1) (by_ := 8) (f := J8) (ys := ([] : List Int)) (ls := a0) (V := v0) Try.underlying25 (Vo Try.typeInfo3) rfl rfl rfl rfl rfl rfl rfl rfl f0.eq (List.length_map _) (fun w L' hF hS hi => (f0).row (hw.now hF)) (fun _ => rfl) (fun _ => rfl) h_l7) rfl rfl rfl (fun p => ?_)
  refine Ja rfl rfl rfl (Jc (v := .slice p.1 l7.length p.2) rfl) ?_
  refine Jg ?_
  refine Ju ?_
  obtain rfl := Option.some.inj H4
  refine Qa (v := .slice p.1 l7.length p.2) rfl rfl (finX p (i := 0) rfl rfl (Imp.refl _))
theorem k25 {a : Option Addr} {n c : Nat} (hc : n ≤ c) : Ret Try.prog 25 [.slice a n c] (.slice (Zd a 0 n 1) n n) := by
  refine Y8 (n := 9) Try.func25 rfl rfl rfl (fun wd => ?_)
  refine Jf ?_
  refine Jb ?_
  refine Ja rfl rfl rfl (Jc (v := .slice none 0 0) rfl) ?_
  refine Jg ?_
  refine Jf ?_
  refine Jb ?_
  refine Ja rfl rfl rfl (Jd (v := .slice a n c) rfl) ?_
  refine Ja rfl rfl rfl (Jd (v := .slice a n c) rfl) ?_
  refine Ja rfl rfl rfl (r_len Try.underlying25 rfl) ?_
  refine Ja rfl rfl rfl (Jd (v := .slice a n c) rfl) ?_
  refine Ja rfl rfl rfl (r_len Try.underlying25 rfl) ?_
  refine Ja rfl rfl rfl (r_sliceHM (a := a) (m := n) (c := c) (h := (n : Int)) (q := (n : Int)) Try.underlying25 Try.sizeOf3 rfl rfl rfl (Int.natCast_nonneg n) (Int.le_refl _) (Int.ofNat_le.2 hc)) ?_
  refine Ja rfl rfl rfl (Jc (v := .slice (Zd a 0 n 1) n n) rfl) ?_
  refine Jg ?_
  refine Ju ?_
  exact Qa (v := .slice (Zd a 0 n 1) n n) rfl rfl (fin rfl)
theorem kF25 {H : Jy} {v : Value} {xs : List (List Value)} (s : FrS H 1 v xs) : Ret Try.prog 25 [v] (clipV 1 v) := by
  obtain ⟨a, c, rfl, h1, _, _⟩ := s.out
  exact k25 h1
theorem k50 {q0 : (List (List Int))} {pbq0 : Nat} {pq0 : Option Addr × Nat} {a0 : (List Int)} {v0 : Value} {r : (List (List Int))} {w : World} {h : Jy} {S : Nat → Prop} (hcs : (Xw (Js pbq0 [.slice pq0.1 q0.length pq0.2] 32) (V1 25 1 gs_int (.slice pq0.1 q0.length pq0.2) q0.length q0)).P S w) (hlt : ∀ b, S b → b < w.heap.size) (hw : Know h w S) (f0 : FrS h 1 v0 (a0.map J8)) (H : Q3 q0 a0 = some r) : Does Try.prog 50 (List.toArray [v0, .pointer (some ⟨pbq0, 0, none⟩)]) w (fun v w' => ∃ x : (Option Addr × Nat), v = (.tuple #[]) ∧ Turn w w' S (Xw (Js pbq0 [.slice x.1 r.length x.2] 32) (V1 25 1 gs_int (.slice x.1 r.length x.2) r.length r))) := by
 refine enter (n := 9) Try.func50 rfl rfl rfl S [Xw (Js pbq0 [.slice pq0.1 q0.length pq0.2] 32) (V1 25 1 gs_int (.slice pq0.1 q0.length pq0.2) q0.length q0)] (Sat.one hcs hlt) ?_
 refine Ui 0 rfl ?_
 refine Wt Vw ?_
 refine c_rowD 1 rfl (fun hp css hn pf => ?_)
 rw [hn]
 try dsimp only [z1, z2, z5, z6, z7, z8]
 refine Ui 1 rfl ?_
 try dsimp only [z1, z2, z5, z6, z7, z8]
 refine Wx 2 1 rfl rfl (by decide) (fun _ _ => noH_le) (fun hp_2 hle hle_2 => ?_)
 exact Q6 (Kd.d [0] _ :: Kd.p :: Kd.t 4 [2] _ _ :: Kd.dv 5 [4] (clipV 1) :: Kd.nsv 6 5 1 (fun v_ => [v_]) 25 :: Kd.tv 25 3 [5] _ _ :: Kd.sv 1 8 0 _ 32 :: []) 2 mixed (by
  refine Xk (i := 0) (v := .slice pq0.1 css.length pq0.2) Try.isAgg32 rfl rfl rfl rfl ?_
  refine Jk rfl rfl (Jd (v := v0) rfl) ?_
  have h_t5 := J4 H
  have H3 := Jw H
  refine d_make (Cv := fun v => Qt 3 1 v (val (Jm a0)).length ((val (Jm a0)).map J8)) (none, 0) (Vq (G := fun x : (Option Addr × Nat) => .slice x.1 (val (Jm a0)).length x.2) (C := fun x : (Option Addr × Nat) => Qt 3 1 (.slice x.1 (val (Jm a0)).length x.2) (val (Jm a0)).length ((val (Jm a0)).map J8)) (fun w L' hF hS hi => k26 (Qf w) (f0.mono (hw.now hF)) h_t5) Try.call26 rfl) (fun _ => rfl) rfl rfl rfl (fun p => ?_)
  refine d_callDV (a := 5) (v := .slice (Zd p.1 0 (val (Jm a0)).length 1) (val (Jm a0)).length (val (Jm a0)).length) rfl (fun w L' hF hS hi => k25 (a := p.1) (n := (val (Jm a0)).length) (c := p.2) (capOf (i := 4) hS ((hi 4 (by simp)).trans rfl)) w) Try.call25 rfl rfl ?_
  refine d_newSV (x := .slice (Zd p.1 0 (val (Jm a0)).length 1) (val (Jm a0)).length (val (Jm a0)).length) (cs := fun v_ => [v_]) (cs0 := [.slice (Zd p.1 0 (val (Jm a0)).length 1) (val (Jm a0)).length (val (Jm a0)).length]) rfl rfl rfl rfl (Z4 (vs := [.slice (Zd p.1 0 (val (Jm a0)).length 1) (val (Jm a0)).length (val (Jm a0)).length]) (cs := [.slice (Zd p.1 0 (val (Jm a0)).length 1) (val (Jm a0)).length (val (Jm a0)).length]) Try.underlying32 Try.sizeOf25 Try.zeroValue25 rfl rfl rfl rfl rfl) rfl (fun b1 => ?_)
  have h_l8 := J4 H3
  have H4 := Jw H3
  refine d_turnV (u := .slice (Zd p.1 0 (val (Jm a0)).length 1) (val (Jm a0)).length (val (Jm a0)).length) (G := fun u_ (x_ : Option Addr × Nat) => .slice x_.1 (css ++ [[u_]]).length x_.2) (Cv := fun u_ v_ => Qt 25 1 v_ (css ++ [[u_]]).length ((css ++ [[u_]]).map V3)) (none, 0) rfl (turns_appendM (i := 3) (k := 5) (p := pq0) (f := V3) (ys := css) (ls := [[.slice (Zd p.1 0 (val (Jm a0)).length 1) (val (Jm a0)).length (val (Jm a0)).length]]) Try.underlying32 (Vo Try.typeInfo25) rfl rfl rfl rfl rfl rfl rfl rfl rfl rfl rfl rfl rfl rfl rfl (app63 ((pf.mono hle_2).app h_l8 (nc := [[.slice (Zd p.1 0 (val (Jm a0)).length 1) (val (Jm a0)).length (val (Jm a0)).length]]) rfl)) rfl) (fun _ => rfl) rfl rfl (fun p_2 => ?_)
  refine d_storeV (i := 0) (vs := [.slice p_2.1 ((css ++ [[Value.slice (Zd p.1 0 (val (Jm a0)).length 1) (val (Jm a0)).length (val (Jm a0)).length]]).length) p_2.2]) (cs' := fun v_ => [v_]) Try.sizeOf32 rfl rfl rfl rfl rfl rfl rfl rfl rfl ?_
  refine Yp ?_
  refine W6 4 rfl (imp_clipO _ _ _ _ _ _) ?_
  try dsimp only [z1, z2, z5, z6, z7, z8]
  refine c_freeze (Φ := fun H_ => FrS H_ 1 (.slice (Zd p.1 0 (val (Jm a0)).length 1) (val (Jm a0)).length (val (Jm a0)).length) ((val (Jm a0)).map J8)) 2 4 rfl rfl (by decide) (fun _ _ => noH_le) (fz_ro _) (fun hp_3 hle_3 hf => ?_)
  have pf_2 : AllC gs_int hp_3 1 (css ++ [[Value.slice (Zd p.1 0 (val (Jm a0)).length 1) (val (Jm a0)).length (val (Jm a0)).length]]) (val (X6 24 q0 ([(val (Jm a0))] : List (List Int)))) := AllC.snocG ((pf.mono hle_2).mono hle_3) h_l8 rfl hf
  try dsimp only [z1, z2, z5, z6, z7, z8]
  obtain rfl := Option.some.inj H4
  refine W0 2 3 rfl rfl (by decide) ?_
  refine W6 2 rfl (imp_rowD (p := p_2) rfl pf_2) ?_
  refine W0 0 2 rfl rfl (by decide) ?_
  refine ret0n rfl (finX p_2 (i := 0) rfl (by first | rfl | rw [(show ((css ++ [[Value.slice (Zd p.1 0 (val (Jm a0)).length 1) (val (Jm a0)).length (val (Jm a0)).length]]).length) = (val (X6 24 q0 ([(val (Jm a0))] : List (List Int)))).length from pf_2.len)]) (by first | exact Imp.refl _ | exact Imp.of (by rw [(show ((css ++ [[Value.slice (Zd p.1 0 (val (Jm a0)).length 1) (val (Jm a0)).length (val (Jm a0)).length]]).length) = (val (X6 24 q0 ([(val (Jm a0))] : List (List Int)))).length from pf_2.len)] <;> rfl)))
  ) (by kernel_rfl)
theorem k74 {a0 : T_tag_Value} {v0_2 : Value} {v0_3 : Value} {v0_4 : Value} {a1 : T_tag_Value} {v1_2 : Value} {v1_3 : Value} {v1_4 : Value} {r : Bool} {w : World} {h : Jy} (hw : Know h w Zc) (f0_2 : FrS h 1 v0_2 (a0.Ints.map J8)) (f0_3 : FrS h 2 v0_3 (a0.Ratios.map Jr)) (f0_4 : FrN h 6 v0_4 g_tag_Entry a0.Entries) (f1_2 : FrS h 1 v1_2 (a1.Ints.map J8)) (f1_3 : FrS h 2 v1_3 (a1.Ratios.map Jr)) (f1_4 : FrN h 6 v1_4 g_tag_Entry a1.Entries) (H : W1 a0 a1 = some r) : Does Try.prog 74 (List.toArray [.agg #[.int .i64 a0.Kind, str a0.Text, v0_2, v0_3, v0_4], .agg #[.int .i64 a1.Kind, str a1.Text, v1_2, v1_3, v1_4]]) w (fun v w' => v = (.bool r) ∧ Grow w w') := by
 refine enter (n := 31) Try.func74 rfl rfl rfl Zc [] (Sat.nil _ _) ?_
 refine Jf ?_
 refine Jb ?_
 refine Vi (cs := [.int .i64 a0.Kind, str a0.Text, v0_2, v0_3, v0_4]) rfl rfl rfl rfl (fun b2 => ?_)
 refine Vi (cs := [.int .i64 a1.Kind, str a1.Text, v1_2, v1_3, v1_4]) rfl rfl rfl rfl (fun b3 => ?_)
 refine Ja rfl rfl rfl (Jc (v := .bool false) rfl) ?_
 refine Jg ?_
 refine Jf ?_
 refine Jb ?_
 refine Ja rfl rfl rfl (Jl Try.runUnderlying29 rfl Try.sizeOf3 rfl rfl) ?_
 refine Jq (i := 0) (v := .int .i64 a0.Kind) Try.isAgg3 rfl rfl rfl rfl rfl ?_
 refine Ja rfl rfl rfl (Jl Try.runUnderlying29 rfl Try.sizeOf3 rfl rfl) ?_
 refine Jq (i := 1) (v := .int .i64 a1.Kind) Try.isAgg3 rfl rfl rfl rfl rfl ?_
 refine Ja rfl rfl rfl (Qq rfl rfl) ?_
 refine Ja rfl rfl rfl (Jd (v := .bool (decide (a0.Kind = a1.Kind))) rfl) ?_
 refine split (fun hb => ?_) (fun hb => ?_)
 ·have H9 := Jo hb H; clear H
  refine Ja rfl rfl rfl (Jl Try.runUnderlying29 rfl Try.sizeOf9 rfl rfl) ?_
  refine Jq (i := 0) (v := str a0.Text) Try.isAgg9 rfl rfl rfl rfl rfl ?_
  refine Ja rfl rfl rfl (Jl Try.runUnderlying29 rfl Try.sizeOf9 rfl rfl) ?_
  refine Jq (i := 1) (v := str a1.Text) Try.isAgg9 rfl rfl rfl rfl rfl ?_
  refine Ja rfl rfl rfl (r_eqlT rfl rfl) ?_
  refine Ja rfl rfl rfl (J5 (v := .bool (decide (a0.Text = a1.Text))) rfl rfl) ?_
  refine Ja rfl rfl rfl (Jd (v := .bool (decide (a0.Text = a1.Text))) rfl) ?_
  refine split (fun hb => ?_) (fun hb => ?_)
  ·have H10 := Jo hb H9; clear H9
   refine Ja rfl rfl rfl (Jl Try.runUnderlying29 rfl Try.sizeOf25 rfl rfl) ?_
   refine Jq (i := 0) (v := v0_2) Try.isAgg25 rfl rfl rfl rfl rfl ?_
   refine Ja rfl rfl rfl (Jl Try.runUnderlying29 rfl Try.sizeOf25 rfl rfl) ?_
   refine Jq (i := 1) (v := v1_2) Try.isAgg25 rfl rfl rfl rfl rfl ?_
   obtain ⟨t22, h_t22, H11⟩ := Jj H10; clear H10
   refine Xa (fun w hF hS => k30 (Qf w) (f0_2.mono (hw.now hF)) (f1_2.mono (hw.now hF)) h_t22) Try.call30 rfl rfl rfl ?_
   refine Ja rfl rfl rfl (J5 (v := .bool t22) rfl rfl) ?_
   refine Ja rfl rfl rfl (Jd (v := .bool t22) rfl) ?_
   refine split (fun hb => ?_) (fun hb => ?_)
   ·have H12 := Jo hb H11; clear H11
    refine Ja rfl rfl rfl (Jl Try.runUnderlying29 rfl Try.sizeOf26 rfl rfl) ?_
    refine Jq (i := 0) (v := v0_3) Try.isAgg26 rfl rfl rfl rfl rfl ?_
    refine Ja rfl rfl rfl (Jl Try.runUnderlying29 rfl Try.sizeOf26 rfl rfl) ?_
    refine Jq (i := 1) (v := v1_3) Try.isAgg26 rfl rfl rfl rfl rfl ?_
    obtain ⟨t29, h_t29, H13⟩ := Jj H12; clear H12
    refine Xa (fun w hF hS => k39 (Qf w) (f0_3.mono (hw.now hF)) (f1_3.mono (hw.now hF)) h_t29) Try.call39 rfl rfl rfl ?_
    refine Ja rfl rfl rfl (J5 (v := .bool t29) rfl rfl) ?_
    refine Ja rfl rfl rfl (Jc (v := .bool t29) rfl) ?_
    refine Jg ?_
    refine Ju ?_
    obtain rfl := Option.some.inj H13
    refine Qa (v := .bool t29) rfl rfl (fin rfl)
   ·have H14 := Jp hb H11; clear H11
    refine Jh rfl rfl rfl ?_
    refine Jh rfl rfl rfl ?_
    refine Jh rfl rfl rfl ?_
    refine Jh rfl rfl rfl ?_
    refine Jh rfl rfl rfl ?_
    refine Ja rfl rfl rfl (J7 (v := .bool false) rfl rfl) ?_
    refine Ja rfl rfl rfl (Jc (v := .bool false) rfl) ?_
    refine Jg ?_
    refine Ju ?_
    obtain rfl := Option.some.inj H14
    refine Qa (v := .bool false) rfl rfl (fin rfl)
  ·have H15 := Jp hb H9; clear H9
   refine Jh rfl rfl rfl ?_
   refine Jh rfl rfl rfl ?_
   refine Jh rfl rfl rfl ?_
   refine Jh rfl rfl rfl ?_
   refine Jh rfl rfl rfl ?_
   refine Ja rfl rfl rfl (J7 (v := .bool false) rfl rfl) ?_
   refine Ja rfl rfl rfl (Jd (v := .bool false) rfl) ?_
   refine Jh rfl rfl rfl ?_
   refine Jh rfl rfl rfl ?_
   refine Jh rfl rfl rfl ?_
   refine Jh rfl rfl rfl ?_
   refine Jh rfl rfl rfl ?_
   refine Ja rfl rfl rfl (J7 (v := .bool false) rfl rfl) ?_
   refine Ja rfl rfl rfl (Jc (v := .bool false) rfl) ?_
   refine Jg ?_
   refine Ju ?_
   obtain rfl := Option.some.inj H15
   refine Qa (v := .bool false) rfl rfl (fin rfl)
 ·have H16 := Jp hb H; clear H
  refine Jh rfl rfl rfl ?_
  refine Jh rfl rfl rfl ?_
  refine Jh rfl rfl rfl ?_
  refine Jh rfl rfl rfl ?_
  refine Jh rfl rfl rfl ?_
  refine Ja rfl rfl rfl (J7 (v := .bool false) rfl rfl) ?_
  refine Ja rfl rfl rfl (Jd (v := .bool false) rfl) ?_
  refine Jh rfl rfl rfl ?_
  refine Jh rfl rfl rfl ?_
  refine Jh rfl rfl rfl ?_
  refine Jh rfl rfl rfl ?_
  refine Jh rfl rfl rfl ?_
  refine Ja rfl rfl rfl (J7 (v := .bool false) rfl rfl) ?_
  refine Ja rfl rfl rfl (Jd (v := .bool false) rfl) ?_
  refine Jh rfl rfl rfl ?_
  refine Jh rfl rfl rfl ?_
  refine Jh rfl rfl rfl ?_
  refine Jh rfl rfl rfl ?_
  refine Jh rfl rfl rfl ?_
  refine Ja rfl rfl rfl (J7 (v := .bool false) rfl rfl) ?_
  refine Ja rfl rfl rfl (Jc (v := .bool false) rfl) ?_
  refine Jg ?_
  refine Ju ?_
  obtain rfl := Option.some.inj H16
  refine Qa (v := .bool false) rfl rfl (fin rfl)
theorem k49_it (mm : Nat) : ∀ {a0 : (List T_tag_Entry)} {v0 : Value} {a1 : (List T_tag_Entry)} {v1 : Value} {a2 : (List Int)} {v2 : Value} {a3 : (List (List Int))} {pb3 : Nat} {p3 : Option Addr × Nat} {r : (List (List Int))} {w : World} {h : Jy} {S : Nat → Prop} (hcs : (Xw (Js pb3 [.slice p3.1 a3.length p3.2] 32) (V1 25 1 gs_int (.slice p3.1 a3.length p3.2) a3.length a3)).P S w) (hlt : ∀ b, S b → b < w.heap.size) (hw : Know h w S) (f0 : FrN h 6 v0 g_tag_Entry a0) (f1 : FrN h 6 v1 g_tag_Entry a1) (f2 : FrS h 1 v2 (a2.map J8)) (H : it (fun (self : ((List T_tag_Entry) × (List T_tag_Entry) × (List Int) × (List (List Int))) → Option ((List (List Int)))) (s : (List T_tag_Entry) × (List T_tag_Entry) × (List Int) × (List (List Int))) => Ya self s.1 s.2.1 s.2.2.1 s.2.2.2) mm (a0, a1, a2, a3) = some r), Does Try.prog 49 (List.toArray [v0, v1, v2, .func (.func 50) #[] #[.pointer (some ⟨pb3, 0, none⟩)]]) w (fun v w' => ∃ x : (Option Addr × Nat), v = (.tuple #[]) ∧ Turn w w' S (Xw (Js pb3 [.slice x.1 r.length x.2] 32) (V1 25 1 gs_int (.slice x.1 r.length x.2) r.length r))) := by
 induction mm with
 | zero => intros; rename_i H; exact absurd H (by simp [it])
 | succ mm ih =>
  intro a0 v0 a1 v1 a2 v2 a3 pb3 p3 r w h S hcs hlt hw f0 f1 f2 H
  replace H : Ya (it (fun (self : ((List T_tag_Entry) × (List T_tag_Entry) × (List Int) × (List (List Int))) → Option ((List (List Int)))) (s : (List T_tag_Entry) × (List T_tag_Entry) × (List Int) × (List (List Int))) => Ya self s.1 s.2.1 s.2.2.1 s.2.2.2) mm) a0 a1 a2 a3 = some r := H
  generalize it (fun (self : ((List T_tag_Entry) × (List T_tag_Entry) × (List Int) × (List (List Int))) → Option ((List (List Int)))) (s : (List T_tag_Entry) × (List T_tag_Entry) × (List Int) × (List (List Int))) => Ya self s.1 s.2.1 s.2.2.1 s.2.2.2) mm = self at H ih
  refine enter (n := 136) Try.func49 rfl rfl rfl S [Xw (Js pb3 [.slice p3.1 a3.length p3.2] 32) (V1 25 1 gs_int (.slice p3.1 a3.length p3.2) a3.length a3)] (Sat.one hcs hlt) ?_
  refine Ui 0 rfl ?_
  refine Jf ?_
  refine Jb ?_
  refine Ja rfl rfl rfl (Jc (v := .int .i64 0) rfl) ?_
  refine Ja rfl rfl rfl (Jc (v := .int .i64 0) rfl) ?_
  refine Jg ?_
  refine J0 ?_
  refine Zb (σ := Int × Int × (List (List Int))) (τ := (Option Addr × Nat)) (fun next1 s => Xx a0 a1 a2 self next1 s.1 s.2.1 s.2.2) (fun s t => [(0, v0), (1, v1), (2, v2), (3, .func (.func 50) #[] #[.pointer (some ⟨pb3, 0, none⟩)]), (8, .int .i64 s.1), (9, .int .i64 s.2.1)]) (fun s t => [Js pb3 [.slice t.1 s.2.2.length t.2] 32, V1 25 1 gs_int (.slice t.1 s.2.2.length t.2) s.2.2.length s.2.2]) (fun s t => True) (0, 0, a3) p3 [0, 1] H (by exact trivial) (by exact ⟨rfl, rfl, rfl, rfl, rfl, rfl, trivial⟩) (by decide) rfl ?_
  rintro ⟨x8_2, x9_2, l_2⟩ p m1 gg H48 _
  clear H
  replace H48 : Xx a0 a1 a2 self (it (fun next1 s => Xx a0 a1 a2 self next1 s.1 s.2.1 s.2.2) m1) x8_2 x9_2 l_2 = some r := H48
  generalize hn1 : it (fun next1 s => Xx a0 a1 a2 self next1 s.1 s.2.1 s.2.2) m1 = next1 at H48
  try dsimp only
  refine Qw (r := r) (σ := Unit) (τ := Unit) (fun s => Zq a0 a1 a2 self x8_2 x9_2 l_2 next1) (fun s t => [(0, v0), (1, v1), (2, v2), (3, .func (.func 50) #[] #[.pointer (some ⟨pb3, 0, none⟩)]), (8, .int .i64 x8_2), (9, .int .i64 x9_2)]) (fun s t => [Js pb3 [.slice p.1 l_2.length p.2] 32, V1 25 1 gs_int (.slice p.1 l_2.length p.2) l_2.length l_2]) (fun s t => True) ?_ ?_
  ·refine Jf ?_
   refine Jb ?_
   refine Ja rfl rfl rfl (Jd (v := .int .i64 x8_2) rfl) ?_
   refine Ja rfl rfl rfl (Jd (v := v0) rfl) ?_
   refine Ja rfl rfl rfl (Qu Try.underlying27 rfl f0) ?_
   refine Ja rfl rfl rfl (Xy rfl rfl) ?_
   refine Ja rfl rfl rfl (Jd (v := .bool (decide (x8_2 < (a0.length : Int)))) rfl) ?_
   refine split (fun hb => ?_) (fun hb => ?_)
   ·have H91 := Jo hb H48; clear H48
    refine Jh rfl rfl rfl ?_
    refine Jh rfl rfl rfl ?_
    refine Jh rfl rfl rfl ?_
    refine Jh rfl rfl rfl ?_
    refine Ja rfl rfl rfl (J5 (v := .bool true) rfl rfl) ?_
    refine Jg ?_
    refine Wz rfl ?_
    refine Jt ?_
    refine Jn () () 0 [0, 1] (by exact ⟨rfl, rfl, rfl, rfl, rfl, rfl, trivial⟩) (by decide) (by kernel_rfl) (by exact ⟨H91, trivial⟩) (Nat.lt_succ_self _)
   ·have H92 := Jp hb H48; clear H48
    refine Ja rfl rfl rfl (Jd (v := .int .i64 x9_2) rfl) ?_
    refine Ja rfl rfl rfl (Jd (v := v1) rfl) ?_
    refine Ja rfl rfl rfl (Qu Try.underlying27 rfl f1) ?_
    refine Ja rfl rfl rfl (Xy rfl rfl) ?_
    refine Ja rfl rfl rfl (J7 (v := .bool (decide (x9_2 < (a1.length : Int)))) rfl rfl) ?_
    refine Jg ?_
    refine Qb (b := (decide (x9_2 < (a1.length : Int)))) rfl (fun hb => ?_) (fun hb => ?_)
    ·have H93 := Jo hb H92; clear H92
     refine Jt ?_
     refine Jn () () 0 [0, 1] (by exact ⟨rfl, rfl, rfl, rfl, rfl, rfl, trivial⟩) (by decide) (by kernel_rfl) (by exact ⟨H93, trivial⟩) (Nat.lt_succ_self _)
    ·have H94 := Jp hb H92; clear H92
     refine Xq ?_
     obtain rfl := Option.some.inj H94
     refine W0 0 1 rfl rfl (by decide) ?_
     refine ret0n rfl (finX p (i := 0) rfl rfl (Imp.refl _))
  ·rintro _ _ gg H49 _
   replace H49 : Zq a0 a1 a2 self x8_2 x9_2 l_2 next1 = some r := H49
   try dsimp only
   refine J0 ?_
   refine J0 ?_
   refine Qw (r := r) (σ := Bool) (τ := Unit) (fun s => Yj a0 a1 a2 self x8_2 x9_2 l_2 next1 s) (fun s t => [(0, v0), (1, v1), (2, v2), (3, .func (.func 50) #[] #[.pointer (some ⟨pb3, 0, none⟩)]), (8, .int .i64 x8_2), (9, .int .i64 x9_2), (68, .bool s)]) (fun s t => [Js pb3 [.slice p.1 l_2.length p.2] 32, V1 25 1 gs_int (.slice p.1 l_2.length p.2) l_2.length l_2]) (fun s t => True) ?_ ?_
   ·exact Q6 (Kd.p :: Kd.p :: Kd.p :: Kd.p :: Kd.p :: Kd.p :: Kd.p :: Kd.p :: Kd.p :: Kd.p :: Kd.p :: Kd.p :: Kd.p :: Kd.p :: Kd.d [] _ :: Kd.p :: Kd.p :: Kd.p :: Kd.p :: Kd.d [] _ :: Kd.p :: Kd.p :: Kd.p :: Kd.p :: []) 0 mixed (by
     refine Jk rfl rfl (Jd (v := .int .i64 x9_2) rfl) ?_
     refine Jk rfl rfl (Jd (v := v1) rfl) ?_
     refine Jk rfl rfl (Qu Try.underlying27 rfl f1) ?_
     refine Jk rfl rfl (Qq rfl rfl) ?_
     refine Jk rfl rfl (Jd (v := .bool (decide (x9_2 = (a1.length : Int)))) rfl) ?_
     refine Uc (fun hb => ?_) (fun hb => ?_)
     ·have H85 := Jo hb H49
      refine Jx rfl rfl ?_
      refine Jx rfl rfl ?_
      refine Jx rfl rfl ?_
      refine Jx rfl rfl ?_
      refine Jx rfl rfl ?_
      refine Jx rfl rfl ?_
      refine Jx rfl rfl ?_
      refine Jx rfl rfl ?_
      refine Jx rfl rfl ?_
      refine Jx rfl rfl ?_
      refine Jx rfl rfl ?_
      refine Jx rfl rfl ?_
      refine Jx rfl rfl ?_
      refine Jx rfl rfl ?_
      refine Jx rfl rfl ?_
      refine Jx rfl rfl ?_
      refine Jx rfl rfl ?_
      refine Jk rfl rfl (J5 (v := .bool true) rfl rfl) ?_
      refine Jk rfl rfl (Jc (v := .bool true) rfl) ?_
      refine Yp ?_
      refine Jn true () 0 [0, 1] (by exact ⟨rfl, rfl, rfl, rfl, rfl, rfl, rfl, trivial⟩) (by decide) (by kernel_rfl) (by exact ⟨H85, trivial⟩) (Nat.lt_succ_self _)
     ·have H86 := Jp hb H49
      refine Jk rfl rfl (Jd (v := .int .i64 x8_2) rfl) ?_
      refine Jk rfl rfl (Jd (v := v0) rfl) ?_
      refine Jk rfl rfl (Qu Try.underlying27 rfl f0) ?_
      refine Jk rfl rfl (Xy rfl rfl) ?_
      refine Jk rfl rfl (Jd (v := .bool (decide (x8_2 < (a0.length : Int)))) rfl) ?_
      refine Uc (fun hb => ?_) (fun hb => ?_)
      ·have H87 := Jo hb H86
       refine Jk rfl rfl (Jd (v := v0) rfl) ?_
       refine Jk rfl rfl (Jd (v := .int .i64 x8_2) rfl) ?_
       have h_t81 := J4 H87
       have H88 := Jw H87
       refine Jk rfl rfl (Qe Try.underlying27 Try.sizeOf70 rfl rfl f0.frs (f0.ix h_t81)) ?_
       refine Jk rfl rfl (Xz Try.runUnderlying70 rfl Try.sizeOf3 rfl rfl (Q2 f0.frs (f0.ix h_t81))) ?_
       refine Zp (fun w hF => Qk (f := (V2 h v0 6)) (i := x8_2) (sz := 6) (j := 0) (v := .int .i64 (val (Qj a0 x8_2)).Tag) Try.isAgg3 rfl rfl (f0.frs.row (hw.now hF)) (f0.ix h_t81) (Vj (Qh (f0.at h_t81)) rfl)) rfl rfl ?_
       refine Jk rfl rfl (Jd (v := v1) rfl) ?_
       refine Jk rfl rfl (Jd (v := .int .i64 x9_2) rfl) ?_
       have h_t86 := J4 H88
       have H89 := Jw H88
       refine Jk rfl rfl (Qe Try.underlying27 Try.sizeOf70 rfl rfl f1.frs (f1.ix h_t86)) ?_
       refine Jk rfl rfl (Xz Try.runUnderlying70 rfl Try.sizeOf3 rfl rfl (Q2 f1.frs (f1.ix h_t86))) ?_
       refine Zp (fun w hF => Qk (f := (V2 h v1 6)) (i := x9_2) (sz := 6) (j := 0) (v := .int .i64 (val (Qj a1 x9_2)).Tag) Try.isAgg3 rfl rfl (f1.frs.row (hw.now hF)) (f1.ix h_t86) (Vj (Qh (f1.at h_t86)) rfl)) rfl rfl ?_
       refine Jk rfl rfl (Xy rfl rfl) ?_
       refine Jk rfl rfl (J5 (v := .bool (decide ((val (Qj a0 x8_2)).Tag < (val (Qj a1 x9_2)).Tag))) rfl rfl) ?_
       refine Jk rfl rfl (J7 (v := .bool (decide ((val (Qj a0 x8_2)).Tag < (val (Qj a1 x9_2)).Tag))) rfl rfl) ?_
       refine Jk rfl rfl (Jc (v := .bool (decide ((val (Qj a0 x8_2)).Tag < (val (Qj a1 x9_2)).Tag))) rfl) ?_
       refine Yp ?_
       refine Jn (decide ((val (Qj a0 x8_2)).Tag < (val (Qj a1 x9_2)).Tag)) () 0 [0, 1] (by exact ⟨rfl, rfl, rfl, rfl, rfl, rfl, rfl, trivial⟩) (by decide) (by kernel_rfl) (by exact ⟨H89, trivial⟩) (Nat.lt_succ_self _)
      ·have H90 := Jp hb H86
       refine Jx rfl rfl ?_
       refine Jx rfl rfl ?_
       refine Jx rfl rfl ?_
       refine Jx rfl rfl ?_
       refine Jx rfl rfl ?_
       refine Jx rfl rfl ?_
       refine Jx rfl rfl ?_
       refine Jx rfl rfl ?_
       refine Jx rfl rfl ?_
       refine Jx rfl rfl ?_
       refine Jx rfl rfl ?_
       refine Jk rfl rfl (J7 (v := .bool false) rfl rfl) ?_
       refine Jk rfl rfl (J7 (v := .bool false) rfl rfl) ?_
       refine Jk rfl rfl (Jc (v := .bool false) rfl) ?_
       refine Yp ?_
       refine Jn false () 0 [0, 1] (by exact ⟨rfl, rfl, rfl, rfl, rfl, rfl, rfl, trivial⟩) (by decide) (by kernel_rfl) (by exact ⟨H90, trivial⟩) (Nat.lt_succ_self _)
     ) (by kernel_rfl)
   ·rintro x68 _ gg H50 _
    replace H50 : Yj a0 a1 a2 self x8_2 x9_2 l_2 next1 x68 = some r := H50
    try dsimp only
    refine Qb (b := x68) rfl (fun hb => ?_) (fun hb => ?_)
    ·have H51 := Jo hb H50; clear H50
     refine Jf ?_
     exact Q6 (Kd.p :: Kd.p :: Kd.d [] _ :: Kd.p :: Kd.p :: Kd.p :: Kd.p :: Kd.d [] _ :: Kd.ns 2 [_] 3 1 :: Kd.t 3 [2] _ _ :: Kd.t2 0 1 [3] _ _ :: []) 2 mixed (by
      refine Jk rfl rfl (Jd (v := .func (.func 50) #[] #[.pointer (some ⟨pb3, 0, none⟩)]) rfl) ?_
      refine Jk rfl rfl (Jd (v := v2) rfl) ?_
      refine d_call (kF25 f2) Try.call25 rfl rfl ?_
      refine Jk rfl rfl (Jd (v := v0) rfl) ?_
      refine Jk rfl rfl (Jd (v := .int .i64 x8_2) rfl) ?_
      have h_t97 := J4 H51
      have H52 := Jw H51
      refine Jk rfl rfl (Qe Try.underlying27 Try.sizeOf70 rfl rfl f0.frs (f0.ix h_t97)) ?_
      refine Jk rfl rfl (Xz Try.runUnderlying70 rfl Try.sizeOf3 rfl rfl (Q2 f0.frs (f0.ix h_t97))) ?_
      refine Zp (fun w hF => Qk (f := (V2 h v0 6)) (i := x8_2) (sz := 6) (j := 0) (v := .int .i64 (val (Qj a0 x8_2)).Tag) Try.isAgg3 rfl rfl (f0.frs.row (hw.now hF)) (f0.ix h_t97) (Vj (Qh (f0.at h_t97)) rfl)) rfl rfl ?_
      refine d_newS rfl rfl (Z4 (vs := [.int .i64 (val (Qj a0 x8_2)).Tag]) (cs := [.int .i64 (val (Qj a0 x8_2)).Tag]) Try.underlying25 Try.sizeOf3 Try.zeroValue3 rfl rfl rfl rfl rfl) rfl (fun b5 => ?_)
      have h_l101 := J4 H52
      have H53 := Jw H52
      refine d_make (Cv := fun v => Qt 3 1 v (val (X6 8 a2 ([(val (Qj a0 x8_2)).Tag] : List Int))).length ((val (X6 8 a2 ([(val (Qj a0 x8_2)).Tag] : List Int))).map J8)) (none, 0) (makes_appZ (sz := 1) (by_ := 8) (f := J8) (ys := a2) (ls := ([(val (Qj a0 x8_2)).Tag] : List Int)) (V := .slice (some ⟨b5, 0, none⟩) 1 1) (rds := [2]) Try.underlying25 (Vo Try.typeInfo3) rfl rfl rfl rfl rfl rfl f2 (fun w hF => hw.now hF) rfl rfl rfl (Nat.succ_pos _) (fun w L' hF hS hi => row_box (i := 2) hS ((hi 2 (by simp)).trans rfl) rfl rfl) (fun _ => rfl) (fun _ => rfl) h_l101) (fun _ => rfl) rfl rfl rfl (fun p_2 => ?_)
      have h_t102 := J4 H53
      have H54 := Jw H53
      refine d_turn2 (i := 0) (j := 1) (turns_callBV (caps := #[.pointer (some ⟨pb3, 0, none⟩)]) (args := [.slice p_2.1 (val (X6 8 a2 ([(val (Qj a0 x8_2)).Tag] : List Int))).length p_2.2]) (i := 0) (rds := _) (G := fun x : (Option Addr × Nat) => .tuple #[]) (C := fun x : (Option Addr × Nat) => Xw (Js pb3 [.slice x.1 (val (Q3 l_2 (val (X6 8 a2 ([(val (Qj a0 x8_2)).Tag] : List Int))))).length x.2] 32) (V1 25 1 gs_int (.slice x.1 (val (Q3 l_2 (val (X6 8 a2 ([(val (Qj a0 x8_2)).Tag] : List Int))))).length x.2) (val (Q3 l_2 (val (X6 8 a2 ([(val (Qj a0 x8_2)).Tag] : List Int))))).length (val (Q3 l_2 (val (X6 8 a2 ([(val (Qj a0 x8_2)).Tag] : List Int))))))) rfl (fun w L' S hF hS hi hp hlt ho hA => k50 hp hlt (Ym w S) (frb_own (j := 3) rfl hA hS (by decide) ((hi 3 (by simp)).trans rfl)) h_t102) Try.call50 rfl rfl) rfl rfl (by decide) (by decide) rfl rfl ?_
      refine Yp ?_
      refine c_ex 0 rfl (fun p_3 => ?_)
      refine c_splitAt 0 1 rfl rfl (by decide) ?_
      refine Jb ?_
      refine Ja rfl rfl rfl (Jd (v := .int .i64 x8_2) rfl) ?_
      obtain ⟨t104, h_t104, H55⟩ := Jj H54; clear H54
      refine Ja rfl rfl rfl (Qn rfl rfl h_t104) ?_
      refine Ja rfl rfl rfl (Jc (v := .int .i64 t104) rfl) ?_
      refine Jg ?_
      refine Jn (t104, x9_2, (val (Q3 l_2 (val (X6 8 a2 ([(val (Qj a0 x8_2)).Tag] : List Int)))))) p_3 m1 [0, 1] (by exact ⟨rfl, rfl, rfl, rfl, rfl, rfl, trivial⟩) (by decide) (by kernel_rfl) (by exact ⟨(by subst hn1; exact H55), trivial⟩) (Nat.lt_succ_self _)
      ) (by kernel_rfl)
    ·have H56 := Jp hb H50; clear H50
     refine Qw (r := r) (σ := Bool) (τ := Unit) (fun s => Zs a0 a1 a2 self x8_2 x9_2 l_2 next1 s) (fun s t => [(0, v0), (1, v1), (2, v2), (3, .func (.func 50) #[] #[.pointer (some ⟨pb3, 0, none⟩)]), (8, .int .i64 x8_2), (9, .int .i64 x9_2), (105, .bool s)]) (fun s t => [Js pb3 [.slice p.1 l_2.length p.2] 32, V1 25 1 gs_int (.slice p.1 l_2.length p.2) l_2.length l_2]) (fun s t => True) ?_ ?_
     ·exact Q6 (Kd.p :: Kd.p :: Kd.p :: Kd.p :: Kd.p :: Kd.p :: Kd.p :: Kd.p :: Kd.p :: Kd.d [] _ :: Kd.p :: Kd.p :: Kd.p :: Kd.p :: Kd.d [] _ :: Kd.p :: Kd.p :: Kd.p :: []) 0 mixed (by
       refine Jk rfl rfl (Jd (v := .int .i64 x8_2) rfl) ?_
       refine Jk rfl rfl (Jd (v := v0) rfl) ?_
       refine Jk rfl rfl (Qu Try.underlying27 rfl f0) ?_
       refine Jk rfl rfl (Qq rfl rfl) ?_
       refine Jk rfl rfl (Jd (v := .bool (decide (x8_2 = (a0.length : Int)))) rfl) ?_
       refine Uc (fun hb => ?_) (fun hb => ?_)
       ·have H81 := Jo hb H56
        refine Jx rfl rfl ?_
        refine Jx rfl rfl ?_
        refine Jx rfl rfl ?_
        refine Jx rfl rfl ?_
        refine Jx rfl rfl ?_
        refine Jx rfl rfl ?_
        refine Jx rfl rfl ?_
        refine Jx rfl rfl ?_
        refine Jx rfl rfl ?_
        refine Jx rfl rfl ?_
        refine Jx rfl rfl ?_
        refine Jk rfl rfl (J5 (v := .bool true) rfl rfl) ?_
        refine Jk rfl rfl (Jc (v := .bool true) rfl) ?_
        refine Yp ?_
        refine Jn true () 0 [0, 1] (by exact ⟨rfl, rfl, rfl, rfl, rfl, rfl, rfl, trivial⟩) (by decide) (by kernel_rfl) (by exact ⟨H81, trivial⟩) (Nat.lt_succ_self _)
       ·have H82 := Jp hb H56
        refine Jk rfl rfl (Jd (v := v1) rfl) ?_
        refine Jk rfl rfl (Jd (v := .int .i64 x9_2) rfl) ?_
        have h_t113 := J4 H82
        have H83 := Jw H82
        refine Jk rfl rfl (Qe Try.underlying27 Try.sizeOf70 rfl rfl f1.frs (f1.ix h_t113)) ?_
        refine Jk rfl rfl (Xz Try.runUnderlying70 rfl Try.sizeOf3 rfl rfl (Q2 f1.frs (f1.ix h_t113))) ?_
        refine Zp (fun w hF => Qk (f := (V2 h v1 6)) (i := x9_2) (sz := 6) (j := 0) (v := .int .i64 (val (Qj a1 x9_2)).Tag) Try.isAgg3 rfl rfl (f1.frs.row (hw.now hF)) (f1.ix h_t113) (Vj (Qh (f1.at h_t113)) rfl)) rfl rfl ?_
        refine Jk rfl rfl (Jd (v := v0) rfl) ?_
        refine Jk rfl rfl (Jd (v := .int .i64 x8_2) rfl) ?_
        have h_t118 := J4 H83
        have H84 := Jw H83
        refine Jk rfl rfl (Qe Try.underlying27 Try.sizeOf70 rfl rfl f0.frs (f0.ix h_t118)) ?_
        refine Jk rfl rfl (Xz Try.runUnderlying70 rfl Try.sizeOf3 rfl rfl (Q2 f0.frs (f0.ix h_t118))) ?_
        refine Zp (fun w hF => Qk (f := (V2 h v0 6)) (i := x8_2) (sz := 6) (j := 0) (v := .int .i64 (val (Qj a0 x8_2)).Tag) Try.isAgg3 rfl rfl (f0.frs.row (hw.now hF)) (f0.ix h_t118) (Vj (Qh (f0.at h_t118)) rfl)) rfl rfl ?_
        refine Jk rfl rfl (Xy rfl rfl) ?_
        refine Jk rfl rfl (J7 (v := .bool (decide ((val (Qj a1 x9_2)).Tag < (val (Qj a0 x8_2)).Tag))) rfl rfl) ?_
        refine Jk rfl rfl (Jc (v := .bool (decide ((val (Qj a1 x9_2)).Tag < (val (Qj a0 x8_2)).Tag))) rfl) ?_
        refine Yp ?_
        refine Jn (decide ((val (Qj a1 x9_2)).Tag < (val (Qj a0 x8_2)).Tag)) () 0 [0, 1] (by exact ⟨rfl, rfl, rfl, rfl, rfl, rfl, rfl, trivial⟩) (by decide) (by kernel_rfl) (by exact ⟨H84, trivial⟩) (Nat.lt_succ_self _)
       ) (by kernel_rfl)
     ·rintro x105 _ gg H57 _
      replace H57 : Zs a0 a1 a2 self x8_2 x9_2 l_2 next1 x105 = some r := H57
      try dsimp only
      refine Qb (b := x105) rfl (fun hb => ?_) (fun hb => ?_)
      ·have H58 := Jo hb H57; clear H57
       refine Jf ?_
       exact Q6 (Kd.p :: Kd.p :: Kd.d [] _ :: Kd.p :: Kd.p :: Kd.p :: Kd.p :: Kd.d [] _ :: Kd.ns 2 [_] 3 1 :: Kd.t 3 [2] _ _ :: Kd.t2 0 1 [3] _ _ :: []) 2 mixed (by
        refine Jk rfl rfl (Jd (v := .func (.func 50) #[] #[.pointer (some ⟨pb3, 0, none⟩)]) rfl) ?_
        refine Jk rfl rfl (Jd (v := v2) rfl) ?_
        refine d_call (kF25 f2) Try.call25 rfl rfl ?_
        refine Jk rfl rfl (Jd (v := v1) rfl) ?_
        refine Jk rfl rfl (Jd (v := .int .i64 x9_2) rfl) ?_
        have h_t128 := J4 H58
        have H59 := Jw H58
        refine Jk rfl rfl (Qe Try.underlying27 Try.sizeOf70 rfl rfl f1.frs (f1.ix h_t128)) ?_
        refine Jk rfl rfl (Xz Try.runUnderlying70 rfl Try.sizeOf3 rfl rfl (Q2 f1.frs (f1.ix h_t128))) ?_
        refine Zp (fun w hF => Qk (f := (V2 h v1 6)) (i := x9_2) (sz := 6) (j := 0) (v := .int .i64 (val (Qj a1 x9_2)).Tag) Try.isAgg3 rfl rfl (f1.frs.row (hw.now hF)) (f1.ix h_t128) (Vj (Qh (f1.at h_t128)) rfl)) rfl rfl ?_
        refine d_newS rfl rfl (Z4 (vs := [.int .i64 (val (Qj a1 x9_2)).Tag]) (cs := [.int .i64 (val (Qj a1 x9_2)).Tag]) Try.underlying25 Try.sizeOf3 Try.zeroValue3 rfl rfl rfl rfl rfl) rfl (fun b6 => ?_)
        have h_l132 := J4 H59
        have H60 := Jw H59
        refine d_make (Cv := fun v => Qt 3 1 v (val (X6 8 a2 ([(val (Qj a1 x9_2)).Tag] : List Int))).length ((val (X6 8 a2 ([(val (Qj a1 x9_2)).Tag] : List Int))).map J8)) (none, 0) (makes_appZ (sz := 1) (by_ := 8) (f := J8) (ys := a2) (ls := ([(val (Qj a1 x9_2)).Tag] : List Int)) (V := .slice (some ⟨b6, 0, none⟩) 1 1) (rds := [2]) Try.underlying25 (Vo Try.typeInfo3) rfl rfl rfl rfl rfl rfl f2 (fun w hF => hw.now hF) rfl rfl rfl (Nat.succ_pos _) (fun w L' hF hS hi => row_box (i := 2) hS ((hi 2 (by simp)).trans rfl) rfl rfl) (fun _ => rfl) (fun _ => rfl) h_l132) (fun _ => rfl) rfl rfl rfl (fun p_4 => ?_)
        have h_t133 := J4 H60
        have H61 := Jw H60
        refine d_turn2 (i := 0) (j := 1) (turns_callBV (caps := #[.pointer (some ⟨pb3, 0, none⟩)]) (args := [.slice p_4.1 (val (X6 8 a2 ([(val (Qj a1 x9_2)).Tag] : List Int))).length p_4.2]) (i := 0) (rds := _) (G := fun x : (Option Addr × Nat) => .tuple #[]) (C := fun x : (Option Addr × Nat) => Xw (Js pb3 [.slice x.1 (val (Q3 l_2 (val (X6 8 a2 ([(val (Qj a1 x9_2)).Tag] : List Int))))).length x.2] 32) (V1 25 1 gs_int (.slice x.1 (val (Q3 l_2 (val (X6 8 a2 ([(val (Qj a1 x9_2)).Tag] : List Int))))).length x.2) (val (Q3 l_2 (val (X6 8 a2 ([(val (Qj a1 x9_2)).Tag] : List Int))))).length (val (Q3 l_2 (val (X6 8 a2 ([(val (Qj a1 x9_2)).Tag] : List Int))))))) rfl (fun w L' S hF hS hi hp hlt ho hA => k50 hp hlt (Ym w S) (frb_own (j := 3) rfl hA hS (by decide) ((hi 3 (by simp)).trans rfl)) h_t133) Try.call50 rfl rfl) rfl rfl (by decide) (by decide) rfl rfl ?_
        refine Yp ?_
        refine c_ex 0 rfl (fun p_5 => ?_)
        refine c_splitAt 0 1 rfl rfl (by decide) ?_
        refine Jb ?_
        refine Ja rfl rfl rfl (Jd (v := .int .i64 x9_2) rfl) ?_
        obtain ⟨t135, h_t135, H62⟩ := Jj H61; clear H61
        refine Ja rfl rfl rfl (Qn rfl rfl h_t135) ?_
        refine Ja rfl rfl rfl (Jc (v := .int .i64 t135) rfl) ?_
        refine Jg ?_
        refine Jn (x8_2, t135, (val (Q3 l_2 (val (X6 8 a2 ([(val (Qj a1 x9_2)).Tag] : List Int)))))) p_5 m1 [0, 1] (by exact ⟨rfl, rfl, rfl, rfl, rfl, rfl, trivial⟩) (by decide) (by kernel_rfl) (by exact ⟨(by subst hn1; exact H62), trivial⟩) (Nat.lt_succ_self _)
        ) (by kernel_rfl)
      ·have H63 := Jp hb H57; clear H57
       refine Jf ?_
       exact Q6 (Kd.p :: Kd.d [] _ :: Kd.p :: Kd.p :: Kd.p :: Kd.p :: Kd.d [] _ :: Kd.ns 2 [_] 3 1 :: Kd.t 3 [2] _ _ :: Kd.p :: []) 2 mixed (by
        refine Jk rfl rfl (Jd (v := v2) rfl) ?_
        refine d_call (kF25 f2) Try.call25 rfl rfl ?_
        refine Jk rfl rfl (Jd (v := v0) rfl) ?_
        refine Jk rfl rfl (Jd (v := .int .i64 x8_2) rfl) ?_
        have h_t27 := J4 H63
        have H64 := Jw H63
        refine Jk rfl rfl (Qe Try.underlying27 Try.sizeOf70 rfl rfl f0.frs (f0.ix h_t27)) ?_
        refine Jk rfl rfl (Xz Try.runUnderlying70 rfl Try.sizeOf3 rfl rfl (Q2 f0.frs (f0.ix h_t27))) ?_
        refine Zp (fun w hF => Qk (f := (V2 h v0 6)) (i := x8_2) (sz := 6) (j := 0) (v := .int .i64 (val (Qj a0 x8_2)).Tag) Try.isAgg3 rfl rfl (f0.frs.row (hw.now hF)) (f0.ix h_t27) (Vj (Qh (f0.at h_t27)) rfl)) rfl rfl ?_
        refine d_newS rfl rfl (Z4 (vs := [.int .i64 (val (Qj a0 x8_2)).Tag]) (cs := [.int .i64 (val (Qj a0 x8_2)).Tag]) Try.underlying25 Try.sizeOf3 Try.zeroValue3 rfl rfl rfl rfl rfl) rfl (fun b7 => ?_)
        have h_l31 := J4 H64
        have H65 := Jw H64
        refine d_make (Cv := fun v => Qt 3 1 v (val (X6 8 a2 ([(val (Qj a0 x8_2)).Tag] : List Int))).length ((val (X6 8 a2 ([(val (Qj a0 x8_2)).Tag] : List Int))).map J8)) (none, 0) (makes_appZ (sz := 1) (by_ := 8) (f := J8) (ys := a2) (ls := ([(val (Qj a0 x8_2)).Tag] : List Int)) (V := .slice (some ⟨b7, 0, none⟩) 1 1) (rds := [2]) Try.underlying25 (Vo Try.typeInfo3) rfl rfl rfl rfl rfl rfl f2 (fun w hF => hw.now hF) rfl rfl rfl (Nat.succ_pos _) (fun w L' hF hS hi => row_box (i := 2) hS ((hi 2 (by simp)).trans rfl) rfl rfl) (fun _ => rfl) (fun _ => rfl) h_l31) (fun _ => rfl) rfl rfl rfl (fun p_6 => ?_)
        refine Jk rfl rfl (Jc (v := .slice p_6.1 (val (X6 8 a2 ([(val (Qj a0 x8_2)).Tag] : List Int))).length p_6.2) rfl) ?_
        refine Yp ?_
        refine Qw (r := r) (σ := (List (List Int))) (τ := (Option Addr × Nat)) (fun s => Zx x8_2 x9_2 next1 s) (fun s t => [(0, v0), (1, v1), (2, v2), (3, .func (.func 50) #[] #[.pointer (some ⟨pb3, 0, none⟩)]), (8, .int .i64 x8_2), (9, .int .i64 x9_2)]) (fun s t => [Js pb3 [.slice t.1 s.length t.2] 32, V1 25 1 gs_int (.slice t.1 s.length t.2) s.length s]) (fun s t => True) ?_ ?_
        ·refine Jf ?_
         exact Q6 (Kd.p :: Kd.p :: Kd.p :: Kd.p :: Kd.d [] _ :: Kd.p :: Kd.p :: Kd.p :: Kd.p :: Kd.d [] _ :: Kd.nw 4 [_, _, _, _, _] 29 :: Kd.nw 5 [_, _, _, _, _] 29 :: Kd.sv 11 36 4 _ 29 :: Kd.sv 12 41 5 _ 29 :: []) 2 mixed (by
          refine Jk rfl rfl (Jd (v := v0) rfl) ?_
          refine Jk rfl rfl (Jd (v := .int .i64 x8_2) rfl) ?_
          have h_t34 := J4 H65
          have H69 := Jw H65
          refine Jk rfl rfl (Qe Try.underlying27 Try.sizeOf70 rfl rfl f0.frs (f0.ix h_t34)) ?_
          refine Jk rfl rfl (Xz Try.runUnderlying70 rfl Try.sizeOf29 rfl rfl (Q2 f0.frs (f0.ix h_t34))) ?_
          refine Zp (fun w hF => Xb (f := (V2 h v0 6)) (i := x8_2) (sz := 6) (j := 1) (vs := [.int .i64 (val (Qj a0 x8_2)).Value.Kind, str (val (Qj a0 x8_2)).Value.Text, (J6 h v0 6 (Int.toNat x8_2) 3), (J6 h v0 6 (Int.toNat x8_2) 4), (J6 h v0 6 (Int.toNat x8_2) 5)]) Try.isAgg29 Try.sizeOf29 rfl rfl (f0.frs.row (hw.now hF)) (f0.ix h_t34) (rd_of (Qh (f0.at h_t34)) rfl)) rfl rfl ?_
          refine Jk rfl rfl (Jd (v := v1) rfl) ?_
          refine Jk rfl rfl (Jd (v := .int .i64 x9_2) rfl) ?_
          have h_t39 := J4 H69
          have H70 := Jw H69
          refine Jk rfl rfl (Qe Try.underlying27 Try.sizeOf70 rfl rfl f1.frs (f1.ix h_t39)) ?_
          refine Jk rfl rfl (Xz Try.runUnderlying70 rfl Try.sizeOf29 rfl rfl (Q2 f1.frs (f1.ix h_t39))) ?_
          refine Zp (fun w hF => Xb (f := (V2 h v1 6)) (i := x9_2) (sz := 6) (j := 1) (vs := [.int .i64 (val (Qj a1 x9_2)).Value.Kind, str (val (Qj a1 x9_2)).Value.Text, (J6 h v1 6 (Int.toNat x9_2) 3), (J6 h v1 6 (Int.toNat x9_2) 4), (J6 h v1 6 (Int.toNat x9_2) 5)]) Try.isAgg29 Try.sizeOf29 rfl rfl (f1.frs.row (hw.now hF)) (f1.ix h_t39) (rd_of (Qh (f1.at h_t39)) rfl)) rfl rfl ?_
          refine d_new rfl rfl (run_alloc (cs := [.int .i64 0, str [], .slice none 0 0, .slice none 0 0, .slice none 0 0]) Try.zeroValue29 rfl) rfl (fun b8 => ?_)
          refine d_new rfl rfl (run_alloc (cs := [.int .i64 0, str [], .slice none 0 0, .slice none 0 0, .slice none 0 0]) Try.zeroValue29 rfl) rfl (fun b9 => ?_)
          refine d_storeV (i := 4) (vs := [.int .i64 (val (Qj a0 x8_2)).Value.Kind, str (val (Qj a0 x8_2)).Value.Text, (J6 h v0 6 (Int.toNat x8_2) 3), (J6 h v0 6 (Int.toNat x8_2) 4), (J6 h v0 6 (Int.toNat x8_2) 5)]) (cs' := fun v_ => [(vcell v_ 0), (vcell v_ 1), (vcell v_ 2), (vcell v_ 3), (vcell v_ 4)]) Try.sizeOf29 rfl rfl rfl rfl rfl rfl (by simp only [List.all_cons, List.all_nil, (show FrN h 6 (J6 h v0 6 (Int.toNat x8_2) 5) g_tag_Entry (val (Qj a0 x8_2)).Value.Entries from (Jv (Ji (f0.at h_t34)))).one, (show FrS h 1 (J6 h v0 6 (Int.toNat x8_2) 3) ((val (Qj a0 x8_2)).Value.Ints.map J8) from (J1 (Ji (f0.at h_t34)))).one, (show FrS h 2 (J6 h v0 6 (Int.toNat x8_2) 4) ((val (Qj a0 x8_2)).Value.Ratios.map Jr) from (J2 (Ji (f0.at h_t34)))).one] <;> rfl) rfl rfl ?_
          refine d_storeV (i := 5) (vs := [.int .i64 (val (Qj a1 x9_2)).Value.Kind, str (val (Qj a1 x9_2)).Value.Text, (J6 h v1 6 (Int.toNat x9_2) 3), (J6 h v1 6 (Int.toNat x9_2) 4), (J6 h v1 6 (Int.toNat x9_2) 5)]) (cs' := fun v_ => [(vcell v_ 0), (vcell v_ 1), (vcell v_ 2), (vcell v_ 3), (vcell v_ 4)]) Try.sizeOf29 rfl rfl rfl rfl rfl rfl (by simp only [List.all_cons, List.all_nil, (show FrN h 6 (J6 h v1 6 (Int.toNat x9_2) 5) g_tag_Entry (val (Qj a1 x9_2)).Value.Entries from (Jv (Ji (f1.at h_t39)))).one, (show FrS h 1 (J6 h v1 6 (Int.toNat x9_2) 3) ((val (Qj a1 x9_2)).Value.Ints.map J8) from (J1 (Ji (f1.at h_t39)))).one, (show FrS h 2 (J6 h v1 6 (Int.toNat x9_2) 4) ((val (Qj a1 x9_2)).Value.Ratios.map Jr) from (J2 (Ji (f1.at h_t39)))).one] <;> rfl) rfl rfl ?_
          refine Yp ?_
          refine Qw (r := r) (σ := Bool) (τ := Unit) (fun s => Zy self x8_2 x9_2 l_2 next1 (val (X6 8 a2 ([(val (Qj a0 x8_2)).Tag] : List Int))) (val (Qj a0 x8_2)) (val (Qj a1 x9_2)) s) (fun s t => [(0, v0), (1, v1), (2, v2), (3, .func (.func 50) #[] #[.pointer (some ⟨pb3, 0, none⟩)]), (8, .int .i64 x8_2), (9, .int .i64 x9_2), (10, .slice p_6.1 (val (X6 8 a2 ([(val (Qj a0 x8_2)).Tag] : List Int))).length p_6.2), (11, .pointer (some ⟨b8, 0, none⟩)), (12, .pointer (some ⟨b9, 0, none⟩)), (49, .bool s)]) (fun s t => [Js pb3 [.slice p.1 l_2.length p.2] 32, V1 25 1 gs_int (.slice p.1 l_2.length p.2) l_2.length l_2, Qt 3 1 (.slice p_6.1 (val (X6 8 a2 ([(val (Qj a0 x8_2)).Tag] : List Int))).length p_6.2) (val (X6 8 a2 ([(val (Qj a0 x8_2)).Tag] : List Int))).length ((val (X6 8 a2 ([(val (Qj a0 x8_2)).Tag] : List Int))).map J8), Js b8 [.int .i64 (val (Qj a0 x8_2)).Value.Kind, str (val (Qj a0 x8_2)).Value.Text, (J6 h v0 6 (Int.toNat x8_2) 3), (J6 h v0 6 (Int.toNat x8_2) 4), (J6 h v0 6 (Int.toNat x8_2) 5)] 29, Js b9 [.int .i64 (val (Qj a1 x9_2)).Value.Kind, str (val (Qj a1 x9_2)).Value.Text, (J6 h v1 6 (Int.toNat x9_2) 3), (J6 h v1 6 (Int.toNat x9_2) 4), (J6 h v1 6 (Int.toNat x9_2) 5)] 29]) (fun s t => True) ?_ ?_
          ·refine Jb ?_
           refine Ja rfl rfl rfl (Jl Try.runUnderlying29 rfl Try.sizeOf3 rfl rfl) ?_
           refine Jq (i := 4) (v := .int .i64 (val (Qj a0 x8_2)).Value.Kind) Try.isAgg3 rfl rfl rfl rfl rfl ?_
           refine Ja rfl rfl rfl (Qq rfl rfl) ?_
           refine Ja rfl rfl rfl (Jd (v := .bool (decide ((val (Qj a0 x8_2)).Value.Kind = 13))) rfl) ?_
           refine split (fun hb => ?_) (fun hb => ?_)
           ·have H79 := Jo hb H70; clear H70
            refine Ja rfl rfl rfl (Jl Try.runUnderlying29 rfl Try.sizeOf3 rfl rfl) ?_
            refine Jq (i := 5) (v := .int .i64 (val (Qj a1 x9_2)).Value.Kind) Try.isAgg3 rfl rfl rfl rfl rfl ?_
            refine Ja rfl rfl rfl (Qq rfl rfl) ?_
            refine Ja rfl rfl rfl (J5 (v := .bool (decide ((val (Qj a1 x9_2)).Value.Kind = 13))) rfl rfl) ?_
            refine Jg ?_
            refine Jn (decide ((val (Qj a1 x9_2)).Value.Kind = 13)) () 0 [0, 1, 3, 4, 5] (by exact ⟨rfl, rfl, rfl, rfl, rfl, rfl, rfl, rfl, rfl, rfl, trivial⟩) (by decide) (by kernel_rfl) (by exact ⟨H79, trivial⟩) (Nat.lt_succ_self _)
           ·have H80 := Jp hb H70; clear H70
            refine Jh rfl rfl rfl ?_
            refine Jh rfl rfl rfl ?_
            refine Jh rfl rfl rfl ?_
            refine Ja rfl rfl rfl (J7 (v := .bool false) rfl rfl) ?_
            refine Jg ?_
            refine Jn false () 0 [0, 1, 3, 4, 5] (by exact ⟨rfl, rfl, rfl, rfl, rfl, rfl, rfl, rfl, rfl, rfl, trivial⟩) (by decide) (by kernel_rfl) (by exact ⟨H80, trivial⟩) (Nat.lt_succ_self _)
          ·rintro x49 _ gg H71 _
           replace H71 : Zy self x8_2 x9_2 l_2 next1 (val (X6 8 a2 ([(val (Qj a0 x8_2)).Tag] : List Int))) (val (Qj a0 x8_2)) (val (Qj a1 x9_2)) x49 = some r := H71
           try dsimp only
           refine Qb (b := x49) rfl (fun hb => ?_) (fun hb => ?_)
           ·have H72 := Jo hb H71; clear H71
            refine Jb ?_
            refine Ja rfl rfl rfl (Jl Try.runUnderlying29 rfl Try.sizeOf27 rfl rfl) ?_
            refine Jq (i := 3) (v := (J6 h v0 6 (Int.toNat x8_2) 5)) Try.isAgg27 rfl rfl rfl rfl rfl ?_
            refine Ja rfl rfl rfl (Jl Try.runUnderlying29 rfl Try.sizeOf27 rfl rfl) ?_
            refine Jq (i := 4) (v := (J6 h v1 6 (Int.toNat x9_2) 5)) Try.isAgg27 rfl rfl rfl rfl rfl ?_
            refine Ja rfl rfl rfl (Jd (v := .slice p_6.1 (val (X6 8 a2 ([(val (Qj a0 x8_2)).Tag] : List Int))).length p_6.2) rfl) ?_
            refine Ja rfl rfl rfl (Jd (v := .func (.func 50) #[] #[.pointer (some ⟨pb3, 0, none⟩)]) rfl) ?_
            obtain ⟨t56, h_t56, H73⟩ := Jj H72; clear H72
            refine W0 0 1 rfl rfl (by decide) ?_
            refine Y7 (Xu (i := 0) (rds := [2]) (G := fun x : (Option Addr × Nat) => .tuple #[]) (C := fun x : (Option Addr × Nat) => Xw (Js pb3 [.slice x.1 t56.length x.2] 32) (V1 25 1 gs_int (.slice x.1 t56.length x.2) t56.length t56)) rfl (fun w L' S hF hS hi hp hlt ho hA => ih hp hlt (Ym w S) ((show FrN h 6 (J6 h v0 6 (Int.toNat x8_2) 5) g_tag_Entry (val (Qj a0 x8_2)).Value.Entries from (Jv (Ji (f0.at h_t34)))).mono (hw.but hF ho)) ((show FrN h 6 (J6 h v1 6 (Int.toNat x9_2) 5) g_tag_Entry (val (Qj a1 x9_2)).Value.Entries from (Jv (Ji (f1.at h_t39)))).mono (hw.but hF ho)) (frb_own (j := 2) rfl hA hS (by decide) ((hi 2 (by simp)).trans rfl)) h_t56) Try.call49 rfl) rfl rfl rfl (fun p_8 => ?_)
            refine c_splitAt 0 1 rfl rfl (by decide) ?_
            refine Jg ?_
            refine Jn t56 p_8 0 [0, 1] (by exact ⟨rfl, rfl, rfl, rfl, rfl, rfl, trivial⟩) (by decide) (by kernel_rfl) (by exact ⟨H73, trivial⟩) (Nat.lt_succ_self _)
           ·have H74 := Jp hb H71; clear H71
            refine Jf ?_
            try dsimp only [z1, z2, z5, z6, z7, z8]
            refine Jb ?_
            refine X2 (i := 3) (vs := [.int .i64 (val (Qj a0 x8_2)).Value.Kind, str (val (Qj a0 x8_2)).Value.Text, (J6 h v0 6 (Int.toNat x8_2) 3), (J6 h v0 6 (Int.toNat x8_2) 4), (J6 h v0 6 (Int.toNat x8_2) 5)]) Try.isAgg29 Try.sizeOf29 rfl rfl rfl rfl rfl ?_
            refine X2 (i := 4) (vs := [.int .i64 (val (Qj a1 x9_2)).Value.Kind, str (val (Qj a1 x9_2)).Value.Text, (J6 h v1 6 (Int.toNat x9_2) 3), (J6 h v1 6 (Int.toNat x9_2) 4), (J6 h v1 6 (Int.toNat x9_2) 5)]) Try.isAgg29 Try.sizeOf29 rfl rfl rfl rfl rfl ?_
            obtain ⟨t59, h_t59, H75⟩ := Jj H74; clear H74
            refine Xa (fun w hF hS => k74 (Qf w) ((show FrS h 1 (J6 h v0 6 (Int.toNat x8_2) 3) ((val (Qj a0 x8_2)).Value.Ints.map J8) from (J1 (Ji (f0.at h_t34)))).mono (hw.now hF)) ((show FrS h 2 (J6 h v0 6 (Int.toNat x8_2) 4) ((val (Qj a0 x8_2)).Value.Ratios.map Jr) from (J2 (Ji (f0.at h_t34)))).mono (hw.now hF)) ((show FrN h 6 (J6 h v0 6 (Int.toNat x8_2) 5) g_tag_Entry (val (Qj a0 x8_2)).Value.Entries from (Jv (Ji (f0.at h_t34)))).mono (hw.now hF)) ((show FrS h 1 (J6 h v1 6 (Int.toNat x9_2) 3) ((val (Qj a1 x9_2)).Value.Ints.map J8) from (J1 (Ji (f1.at h_t39)))).mono (hw.now hF)) ((show FrS h 2 (J6 h v1 6 (Int.toNat x9_2) 4) ((val (Qj a1 x9_2)).Value.Ratios.map Jr) from (J2 (Ji (f1.at h_t39)))).mono (hw.now hF)) ((show FrN h 6 (J6 h v1 6 (Int.toNat x9_2) 5) g_tag_Entry (val (Qj a1 x9_2)).Value.Entries from (Jv (Ji (f1.at h_t39)))).mono (hw.now hF)) h_t59) Try.call74 rfl rfl rfl ?_
            refine Ja rfl rfl rfl (r_not rfl) ?_
            refine Jg ?_
            refine Qb (b := (!t59)) rfl (fun hb => ?_) (fun hb => ?_)
            ·have H76 := Jo hb H75; clear H75
             refine Jb ?_
             refine Ja rfl rfl rfl (Jd (v := .func (.func 50) #[] #[.pointer (some ⟨pb3, 0, none⟩)]) rfl) ?_
             refine Ja rfl rfl rfl (Jd (v := .slice p_6.1 (val (X6 8 a2 ([(val (Qj a0 x8_2)).Tag] : List Int))).length p_6.2) rfl) ?_
             obtain ⟨t63, h_t63, H77⟩ := Jj H76; clear H76
             refine W0 0 1 rfl rfl (by decide) ?_
             refine Y7 (turns_callBV (caps := #[.pointer (some ⟨pb3, 0, none⟩)]) (args := [.slice p_6.1 (val (X6 8 a2 ([(val (Qj a0 x8_2)).Tag] : List Int))).length p_6.2]) (i := 0) (rds := [2]) (G := fun x : (Option Addr × Nat) => .tuple #[]) (C := fun x : (Option Addr × Nat) => Xw (Js pb3 [.slice x.1 t63.length x.2] 32) (V1 25 1 gs_int (.slice x.1 t63.length x.2) t63.length t63)) rfl (fun w L' S hF hS hi hp hlt ho hA => k50 hp hlt (Ym w S) (frb_own (j := 2) rfl hA hS (by decide) ((hi 2 (by simp)).trans rfl)) h_t63) Try.call50 rfl rfl) rfl rfl rfl (fun p_9 => ?_)
             refine c_splitAt 0 1 rfl rfl (by decide) ?_
             refine Jg ?_
             refine Jn t63 p_9 0 [0, 1] (by exact ⟨rfl, rfl, rfl, rfl, rfl, rfl, trivial⟩) (by decide) (by kernel_rfl) (by exact ⟨H77, trivial⟩) (Nat.lt_succ_self _)
            ·have H78 := Jp hb H75; clear H75
             refine Jt ?_
             refine Jn l_2 p 0 [0, 1] (by exact ⟨rfl, rfl, rfl, rfl, rfl, rfl, trivial⟩) (by decide) (by kernel_rfl) (by exact ⟨H78, trivial⟩) (Nat.lt_succ_self _)
          ) (by kernel_rfl)
        ·rintro l_3 p_7 gg H66 _
         replace H66 : Zx x8_2 x9_2 next1 l_3 = some r := H66
         try dsimp only
         refine Jf ?_
         refine Jb ?_
         refine Ja rfl rfl rfl (Jd (v := .int .i64 x8_2) rfl) ?_
         obtain ⟨t65, h_t65, H67⟩ := Jj H66; clear H66
         refine Ja rfl rfl rfl (Qn rfl rfl h_t65) ?_
         refine Ja rfl rfl rfl (Jc (v := .int .i64 t65) rfl) ?_
         refine Jg ?_
         refine Jb ?_
         refine Ja rfl rfl rfl (Jd (v := .int .i64 x9_2) rfl) ?_
         obtain ⟨t67, h_t67, H68⟩ := Jj H67; clear H67
         refine Ja rfl rfl rfl (Qn rfl rfl h_t67) ?_
         refine Ja rfl rfl rfl (Jc (v := .int .i64 t67) rfl) ?_
         refine Jg ?_
         refine Jn (t65, t67, l_3) p_7 m1 [0, 1] (by exact ⟨rfl, rfl, rfl, rfl, rfl, rfl, trivial⟩) (by decide) (by kernel_rfl) (by exact ⟨(by subst hn1; exact H68), trivial⟩) (Nat.lt_succ_self _)
        ) (by kernel_rfl)
theorem k49 {a0 : (List T_tag_Entry)} {v0 : Value} {a1 : (List T_tag_Entry)} {v1 : Value} {a2 : (List Int)} {v2 : Value} {a3 : (List (List Int))} {pb3 : Nat} {p3 : Option Addr × Nat} {r : (List (List Int))} {w : World} {h : Jy} {S : Nat → Prop} (hcs : (Xw (Js pb3 [.slice p3.1 a3.length p3.2] 32) (V1 25 1 gs_int (.slice p3.1 a3.length p3.2) a3.length a3)).P S w) (hlt : ∀ b, S b → b < w.heap.size) (hw : Know h w S) (f0 : FrN h 6 v0 g_tag_Entry a0) (f1 : FrN h 6 v1 g_tag_Entry a1) (f2 : FrS h 1 v2 (a2.map J8)) (H : Vd a0 a1 a2 a3 = some r) : Does Try.prog 49 (List.toArray [v0, v1, v2, .func (.func 50) #[] #[.pointer (some ⟨pb3, 0, none⟩)]]) w (fun v w' => ∃ x : (Option Addr × Nat), v = (.tuple #[]) ∧ Turn w w' S (Xw (Js pb3 [.slice x.1 r.length x.2] 32) (V1 25 1 gs_int (.slice x.1 r.length x.2) r.length r))) := by
 obtain ⟨mm, hm⟩ := fix_it (show Z5 (fun (self : ((List T_tag_Entry) × (List T_tag_Entry) × (List Int) × (List (List Int))) → Option ((List (List Int)))) (s : (List T_tag_Entry) × (List T_tag_Entry) × (List Int) × (List (List Int))) => Ya self s.1 s.2.1 s.2.2.1 s.2.2.2) (a0, a1, a2, a3) = some r from H)
 exact k49_it mm hcs hlt hw f0 f1 f2 hm
end Go.Proofs.Ytpljknglodhcnaa
