/- Rules: floating-point numbers; stores into rows in a drawn region. Conditions: none. -/
import Derived.Test.YtpljknglodhcnaaMd
import Derived.Laws.RangeString
import Derived.Laws.CopyRow
import Derived.Laws.IdiomCopy
import Derived.Lib.UnsafeStr
import Derived.Lib.Builder
import Derived.Laws.Pointers
import Derived.Lib.AppendZeros
import Derived.Shelf.Sort.Plain
import Derived.Shelf.Slices.In.SortNone
import Derived.Sort.OwnSortedInts
import Derived.Lib.Bytealg
import Derived.Lib.SmallJoins
import Derived.Lib.AppendIntMem
import Derived.Shelf.Strconv.Itoa3
import Derived.Shelf.Strconv.Atoi
import Derived.Shelf.Strings.Repeat
import Derived.Shelf.Strings.OnBuilder
import Derived.Shelf.Slices.CompactS
import Derived.Sort.OwnSorted
import Derived.Lib.ConvBytes
import Derived.Maps.RangeRun
import Derived.Shelf.Slices.CompactI
import Derived.Shelf.SlSortCmp.WholeK
import Derived.Shelf.SlSortCmp.NoneTotal
import Derived.ArgAppend
import Derived.LoopN
import Derived.Lib.Overlaps
namespace Go.Lx
open Go Go.Vc Go.Md
section ops
variable {P : Program} {e : Xd} {d : Option Nat} {ty : TypeId} {pos : String} {af : Array Edge} {g : Option (Nat × Bool)}
theorem r_lenN {X : Operand} {a : Option Addr} {m c k : Nat} {t u : TypeId} (hu : P.underlying t = some (.slice u)) (hx : ev e X = .slice a m c) (h : m = k) (w : World) :
  (execOp (ev e) ⟨d, .call ⟨.builtin .len, #[X], #[t]⟩, ty, pos, af, g⟩).run P w = .ok (.value (.int .i64 k)) w := by
 subst h; exact r_len hu hx w
end ops
def Kd.sr (i : Nat) (C : Chunk) : Kd := .g [] [i] [i] (fun _ _ v => v = undef) (fun _ _ _ => [C])
section rules
variable {P : Program} {n : Nat} {cx : Cx} {e : Xd} {L : List Chunk} {ops : Array Oper} {rest : List Oper} {F : Xd → List Chunk → Prop} {ss : List Kd} {ty : TypeId} {pos : String} {af : Array Edge} {g : Option (Nat × Bool)}
theorem d_storeG {α : Type} {q T j sz szT k c E m : Nat} {A X : Operand} {x : Value} {a : Option Addr} {vs : List Value} {f : α → List Value} {xs ys : List α} {i : Int} {z : α} (hm : m = xs.length) (hs : ∀ w, (sizeOf T).run P w = .ok szT w)
  (hw : Xz ops ⟨none, .store T A X, ty, pos, af, g⟩ e = true) (hp : ev e A = V4 a k) (hk : k = i.toNat * sz + j) (hx : ev e X = x) (hc : x.cells.toList = vs) (hsz : vs.length = szT)
  (hpos : Nat.blt 0 szT = true) (hone : vs.all Value.oneCell' = true) (hL : L[q]? = some (Xa E sz (.slice a m c) m (xs.map f))) (hv : ∀ y, Xt xs i = some y → wr (f y) j vs = some (f z)) (hg : gSet xs i z = some ys)
  (k' : Sq P cx ops F rest ss e (L.set q (Xa E sz (.slice a m c) m (ys.map f)))) : Sq P cx ops F (⟨none, .store T A X, ty, pos, af, g⟩ :: rest) (Kd.sr q (Xa E sz (.slice a m c) m (ys.map f)) :: ss) e L := by
 subst hm
 obtain ⟨h0, h1, rfl⟩ := Ut hg
 have hat : Xt xs i = some xs[i.toNat] := gAt_ok h0 h1
 have hv' := hv _ hat
 have hy := map_at (f := f) hat
 refine .take hw ⟨undef, rfl⟩ ⟨fun w L' hF hS _ hi => ?_⟩ fun v' hv' => ?_
 ·have hL' := (hi q (.inl (by simp [Kd.sr, Kd.rds]))).trans hL
  obtain ⟨S0, ⟨⟨ho, hlen, hlx⟩, hob⟩, _⟩ := hS.at hL'
  obtain ⟨w', hr, h2, h3⟩ := run_storeR (P := P) (ty := ty) (pos := pos) (af := af) (g := g) hs hp hk hx hc hsz hpos hone hy hv' ho hlen hlx
  have hpos' : 0 < vs.length := by rw [hsz]; simpa using hpos
  obtain ⟨g1, g2⟩ := wr_eq hv' hpos'
  obtain ⟨hF', hS'⟩ := hS.turnOf hF hL' (C := Xa E sz (.slice a xs.length c) xs.length ((xs.map f).set i.toNat (f z))) fun S1 hp => Uw hp.2 h2 h3 (.inl rfl) (by simp [hlen]) (by
   intro z' hz
   rcases List.mem_or_eq_of_mem_set hz with h | h
   ·exact hlx z' h
   ·subst h; rw [g2]; have := hlx _ (List.mem_of_getElem? hy); simp only [List.length_append, List.length_take, List.length_drop]; omega)
  unfold RunsTo
  rw [hr]
  refine ⟨rfl, hF', ?_⟩
  rw [← List.map_set] at hS'
  exact hS'
 ·exact k'
end rules
end Go.Lx

/- Rules: slices of arrays as strings; a range over a string of ASCII octets; long arrays as boxes. Conditions: none. -/
namespace Go.Lx
open Go Go.Vc Go.Md
section ops
variable {P : Program} {cx : Cx} {e : Xd} {L : List Chunk} {d : Option Nat} {ty : TypeId} {pos : String} {af : Array Edge} {g : Option (Nat × Bool)}
theorem Qm {X : Operand} {a : Addr} (hx : ev e X = .pointer (some a)) (w : World) :
  (execOp (ev e) ⟨d, .nilCheck X, ty, pos, af, g⟩).run P w = .ok (.value (.pointer (some a))) w := by
 simp only [execOp, hx, Sem.run_pure]
end ops
end Go.Lx

/- Rules: a character as a string; strings in their order. Conditions: none. -/
namespace Go.Lx
open Go Go.Vc Go.Md
section ops
variable {P : Program} {e : Xd} {d : Option Nat} {ty : TypeId} {pos : String} {af : Array Edge} {g : Option (Nat × Bool)}
end ops
end Go.Lx

/- Rules: parts of rows of one's own, that are only read. Conditions: none. -/
namespace Go.Lx
open Go Go.Vc Go.Md
theorem gCut_len {α : Type} {xs ys : List α} {l q : Int} (e : Zo xs l q = some ys) : ys.length = q.toNat - l.toNat := by
 obtain ⟨g0, g1, g2, rfl⟩ := Zr e
 rw [List.length_take, List.length_drop]; omega
theorem Row.cutG {α : Type} {w : World} {a : Option Addr} {m c sz : Nat} {f : α → List Value} {xs ys : List α} {l q : Int} (h : Row w a sz (xs.map f)) (hm : m = xs.length) (hc : m ≤ c) (e : Zo xs l q = some ys) : Row w (Qz a l.toNat c sz) sz (ys.map f) := by
 obtain ⟨g0, g1, g2, rfl⟩ := Zr e
 have := Row.cut h l.toNat (q.toNat - l.toNat) c (by omega)
 rw [← List.map_drop, ← List.map_take] at this
 exact this
section ops
variable {P : Program} {e : Xd} {d : Option Nat} {ty : TypeId} {pos : String} {af : Array Edge} {g : Option (Nat × Bool)}
theorem Vx {α : Type} {X A : Operand} {a : Option Addr} {m c : Nat} {t u sz : Nat} {ka : IntKind} {l : Int} {xs ys : List α} {w : World} (hu : P.underlying t = some (.slice u)) (hs : ∀ w, (sizeOf u).run P w = .ok sz w)
  (hx : ev e X = .slice a m c) (ha : ev e A = .int ka l) (hm : m = xs.length) (_hc : m ≤ c) (hg : Zo xs l xs.length = some ys) :
  (execOp (ev e) ⟨d, .slice t X (some A) none none, ty, pos, af, g⟩).run P w = .ok (.value (.slice (Qz a l.toNat c sz) ys.length (c - l.toNat))) w := by
 obtain ⟨g0, g1, g2, _⟩ := Zr hg
 have hl := gCut_len hg
 rw [r_sliceL hu hs hx ha g0 (by omega) w]
 congr 4; omega
end ops
end Go.Lx

/- Rules: facts that are carried as chunks which own nothing; functions as results; copies into rows; arrays out of slices. Conditions: none. -/
namespace Go.Lx
open Go Go.Vc Go.Md
section rules
variable {cx : Cx} {K : Xd → World → Prop} {e : Xd} {L : List Chunk}
end rules
def FnV {μ : Type} (P : Program) (v : Value) (m : Option μ) (R : μ → World → List Value → (Value → World → Prop) → Prop) : Prop := (m = none ∧ v = .nilFunc) ∨ ∃ g, m = some g ∧ ∀ h, FnH P h v (R g)
theorem FnV.nil {μ : Type} {P : Program} {R : μ → World → List Value → (Value → World → Prop) → Prop} : FnV P .nilFunc none R := .inl ⟨rfl, rfl⟩
theorem FnV.mk {μ : Type} {P : Program} {v : Value} {g : μ} {R : μ → World → List Value → (Value → World → Prop) → Prop} (h : ∀ h, FnH P h v (R g)) : FnV P v (some g) R := .inr ⟨g, rfl, h⟩
theorem FnV.cells {μ : Type} {P : Program} {v : Value} {m : Option μ} {R : μ → World → List Value → (Value → World → Prop) → Prop} (f : FnV P v m R) : v.cells.toList = [v] := by
 rcases f with ⟨_, rfl⟩ | ⟨g, _, f⟩
 ·rfl
 ·exact (f fun _ => none).cells
theorem FnV.one {μ : Type} {P : Program} {v : Value} {m : Option μ} {R : μ → World → List Value → (Value → World → Prop) → Prop} (f : FnV P v m R) : v.oneCell' = true := by
 rcases f with ⟨_, rfl⟩ | ⟨g, _, f⟩
 ·rfl
 ·exact (f fun _ => none).one
theorem FnV.fn {μ : Type} {P : Program} {v : Value} {m : Option μ} {g : μ} {R : μ → World → List Value → (Value → World → Prop) → Prop} (f : FnV P v m R) (hm : m = some g) (h : Jx) : FnH P h v (R g) := by
 rcases f with ⟨h1, _⟩ | ⟨g', h1, f⟩
 ·rw [hm] at h1; cases h1
 ·rw [hm] at h1; cases h1; exact f h
section ops
variable {P : Program} {e : Xd} {d : Option Nat} {ty : TypeId} {pos : String} {af : Array Edge} {g : Option (Nat × Bool)}
end ops
section rules
variable {P : Program} {n : Nat} {cx : Cx} {e : Xd} {L : List Chunk} {ops : Array Oper} {rest : List Oper} {Q : Ui} {F : Xd → List Chunk → Prop} {ss : List Kd} {d : Option Nat} {ty : TypeId} {pos : String} {af : Array Edge} {g : Option (Nat × Bool)}
theorem d_turn0 {σ : Type} {o : Oper} {i : Nat} {rds : List Nat} {G : σ → Value} {C : σ → Chunk} {Cv : Value → Chunk} (x0 : σ) (h : Turns P cx e o L i rds G C) (hC : ∀ x, Cv (G x) = C x) (hw : Xz ops o e = true) (hd : o.dst = none)
  (k : ∀ x, Sq P cx ops F rest ss e (L.set i (C x))) : Sq P cx ops F (o :: rest) (.t i rds G Cv :: ss) e L := by
 refine .take hw ⟨G x0, x0, rfl⟩ ⟨fun w L' hF hS hl hi => ?_⟩ fun v' hv' => ?_
 ·refine (h w L' hF hS hl fun j hj => hi j (by simpa [Kd.t, Kd.rds, Kd.wrs] using hj)).mono fun v w' ⟨x, hv, hF', hS'⟩ => ?_
  subst hv
  refine ⟨⟨x, rfl⟩, hF', ?_⟩
  show Sat cx w' (L'.set i (Cv (G x)))
  rw [hC]; exact hS'
 ·obtain ⟨x, rfl⟩ : ∃ x, v' = G x := hv'
  show Sq P cx ops F rest ss (putD e o.dst (G x)) (L.set i (Cv (G x)))
  rw [hC, hd]
  exact k x
theorem l_turn0 {σ : Type} {o : Oper} {i : Nat} {rds : List Nat} {G : σ → Value} {C : σ → Chunk} (h : Turns P cx e o L i rds G C) (hw : Xz ops o e = true) (hd : o.dst = none)
  (k : ∀ x, At cx (WL P n ops Q rest) e (L.set i (C x))) : At cx (WL P n ops Q (o :: rest)) e L :=
 ⟨fun w hF hS => ⟨fun a ha => by
  have hr := (h w L hF hS rfl (fun _ _ => rfl)).mono (R' := fun _ w' => WL P n ops Q rest e w') fun v w' ⟨x, hv, hF', hS'⟩ => (k x).out w' hF' hS'
  unfold RunsTo at hr
  unfold wpList
  rw [want_eq ha, hw, if_pos rfl]
  refine .inl ?_
  unfold Oper.wp
  rw [ha.ev]
  generalize (execOp (ev e) o).run P w = r at hr
  cases r with
  | halt x w' => exact hr.elim
  | ok nx w' =>
   cases nx with
   | value v =>
    show wpList P ops (lift n Q) rest (a.put o.dst v) w'
    rw [hd]
    exact hr.out _ ha
   | skip =>
    show wpList P ops (lift n Q) rest (a.put o.dst undef) w'
    rw [hd]
    exact hr.out _ ha
   | enter f args =>
    refine Calls.mono hr ?_
    rintro en w'' ⟨v, rfl, hk⟩
    show wpList P ops (lift n Q) rest (a.put o.dst v) w''
    rw [hd]
    exact hk.out _ ha
   | _ => exact hr.elim⟩⟩
end rules
def _root_.Go.Vc.Kd.fv (φ : Value → Prop) : Kd := .g [] [] [] (fun _ _ v => φ v) (fun _ _ _ => [])
section rules
variable {P : Program} {n : Nat} {cx : Cx} {e : Xd} {L : List Chunk} {ops : Array Oper} {rest : List Oper} {Q : Ui} {F : Xd → List Chunk → Prop} {ss : List Kd} {d : Nat} {ty : TypeId} {pos : String} {af : Array Edge} {g : Option (Nat × Bool)}
end rules
end Go.Lx

/- Rules: results that came in; rows that are only read and may be the caller's; slices compared with nil; parts of known slices. Conditions: none. -/
namespace Go.Lx
open Go Go.Vc Go.Md
theorem Know.at {h : Jx} {w0 w : World} {S : Nat → Prop} (k : Know h w0 S) (hF : Fr ⟨w0, S⟩ w) : Know h w X3 := fun b o hb => ⟨k.now hF b o hb, fun x => x⟩
theorem FrS.cutL {α : Type} {h : Jx} {sz : Nat} {a : Option Addr} {n c : Nat} {f : α → List Value} {xs ys : List α} {l q : Int} (s : FrS h sz (.slice a n c) (xs.map f)) (e : Zo xs l q = some ys) : FrS h sz (.slice (Qz a l.toNat c sz) ys.length (c - l.toNat)) (ys.map f) := by
 have := s.cut e
 rw [gCut_len e]
 exact this
def isNilV : Value → Bool | .slice none _ _ => true | _ => false
theorem FrS.nilV {h : Jx} {sz : Nat} {v : Value} {α : Type} {f : α → List Value} {xs : List α} (s : FrS h sz v (xs.map f)) (hb : isNilV v = true) : xs = [] := by
 obtain ⟨a, c, rfl, _, _, r⟩ := s.out
 rcases r with r | ⟨b, off, cs, T, m, rfl, _⟩
 ·simpa using r
 ·simp [isNilV] at hb
section ops
variable {P : Program} {e : Xd} {d : Option Nat} {ty : TypeId} {pos : String} {af : Array Edge} {g : Option (Nat × Bool)}
theorem eq_nilS {a : Option Addr} {m c : Nat} {t u : TypeId} (ht : P.underlying t = some (.slice u)) (n : Nat) (w : World) : (Op.equalIn (n + 1) t (.slice a m c) (.slice none 0 0)).run P w = .ok (isNilV (.slice a m c)) w := by
 cases a <;> simp [Op.equalIn, run_underlying ht, isNilV]
theorem r_eqlNilS {X Y : Operand} {v : Value} {t t' u sz : TypeId} {h : Jx} {xs : List (List Value)} (ht : P.underlying t = some (.slice u)) (s : FrS h sz v xs) (hx : ev e X = v) (hy : ev e Y = .slice none 0 0) (w : World) :
  (execOp (ev e) ⟨d, .binOp .eql t X Y t', ty, pos, af, g⟩).run P w = .ok (.value (.bool (isNilV v))) w := by
 obtain ⟨a, c, rfl, _⟩ := s.out
 have h0 := eq_nilS (P := P) (a := a) (m := xs.length) (c := c) ht 9999 w
 simp [execOp, hx, hy, eqGuard, binOp, Op.equal, Op.maxDepth, h0]
end ops
theorem finC {σ : Type} {w0 : World} {L : List Chunk} {v : Value} {G : σ → Value} {Φ : σ → Prop} (x : σ) (hv : v = G x) (h : Φ x) : ∀ w, Fr ⟨w0, fun _ => False⟩ w → Sat ⟨w0, fun _ => False⟩ w L → (∃ x, v = G x ∧ Φ x) ∧ Grow w0 w :=
 fun w hF _ => ⟨⟨x, hv, h⟩, hF.os, hF.tape, hF.output, hF.size, fun k hk => hF.block k (by simp [Cx.own]; exact hk)⟩
section rules
variable {P : Program} {n : Nat} {cx : Cx} {e : Xd} {L : List Chunk} {ops : Array Oper} {rest : List Oper} {Q : Ui} {F : Xd → List Chunk → Prop} {ss : List Kd} {d : Nat} {ty : TypeId} {pos : String} {af : Array Edge} {g : Option (Nat × Bool)}
theorem l_callC {σ : Type} {f : FuncId} {A : Array Operand} {tys : Array TypeId} {args : List Value} {G : σ → Value} {Φ : σ → Prop} (h : ∀ w, Fr cx w → Sat cx w L → Does P f args.toArray w fun v w' => (∃ x, v = G x ∧ Φ x) ∧ Grow w w') (hc : ∀ args w, (callFunc f args).run P w = .ok (.enter f args) w)
  (hw : Xz ops ⟨some d, .call ⟨.value (.func f), A, tys⟩, ty, pos, af, g⟩ e = true) (hn : Nat.blt d n = true) (ha : A.toList.map (ev e) = args)
  (k : ∀ x, Φ x → At cx (WL P n ops Q rest) (upd e d (G x)) L) : At cx (WL P n ops Q (⟨some d, .call ⟨.value (.func f), A, tys⟩, ty, pos, af, g⟩ :: rest)) e L :=
 l_calls hw rfl hn (run_call hc ha) fun w hF hS => (h w hF hS).mono fun v' w' ⟨⟨x, hv, hp⟩, hg⟩ => by
  subst hv
  exact (k x hp).out w' (hF.grow hg) (hS.grow hg)
def _root_.Go.Vc.Kd.sv (a b i : Nat) (cs : Value → List Value) (T : TypeId) : Kd := .g [a, b] [i] [i] (fun _ _ v => v = undef) (fun vs _ _ => [boxOf (vs.headD undef) (cs (vs.getD 1 undef)) T])
theorem d_storeV {i : Nat} {a q T T0 b o sz : Nat} {x : Value} {cs vs : List Value} {cs' : Value → List Value} (hs : ∀ w, (sizeOf T).run P w = .ok sz w)
  (hw : Xz ops ⟨none, .store T (.tmp a) (.tmp q), ty, pos, af, g⟩ e = true) (hp : e a = .pointer (some ⟨b, o, none⟩)) (hx : e q = x) (hc : x.cells.toList = vs) (hsz : vs.length = sz) (hpos : Nat.blt 0 sz = true)
  (hone : vs.all Value.oneCell' = true) (hL : L[i]? = some (Jv b cs T0)) (hv : wr cs o vs = some (cs' x))
  (k : Sq P cx ops F rest ss e (L.set i (Jv b (cs' x) T0))) : Sq P cx ops F (⟨none, .store T (.tmp a) (.tmp q), ty, pos, af, g⟩ :: rest) (.sv a q i cs' T0 :: ss) e L := by
 have hbox : boxOf (([a, q].map e).headD undef) (cs' (([a, q].map e).getD 1 undef)) T0 = Jv b (cs' x) T0 := by
  have h1 : ([a, q].map e).headD undef = e a := rfl
  have h2 : ([a, q].map e).getD 1 undef = e q := rfl
  rw [h1, h2, hp, hx]; rfl
 refine .take hw ⟨undef, rfl⟩ ⟨fun w L' hF hS _ hi => ?_⟩ fun v' hv' => ?_
 ·have hL' := (hi i (.inl (by simp [Kd.sv, Kd.rds]))).trans hL
  have hb := Vl hS hL'
  unfold RunsTo
  rw [Go.Vc.run_store hs (by exact hp) (by exact hx) hc hsz hpos hone hv hb]
  have hset := setRow_heap w b cs.toArray (cs' x).toArray T0 (0, 0) hb
  refine ⟨rfl, ⟨hF.os, hF.tape, hF.output, by simpa using hF.size, fun c hcn => ?_⟩, ?_⟩
  ·rw [setRow_other w b c _ (fun e => ?_)]
   ·exact hF.block c hcn
   ·obtain ⟨fp, f1, f2, _⟩ := hS.out
    have := (f2 i b ((f1 i _ hL').1 b |>.2 rfl)).2.2
    subst e
    exact hcn this
  ·show Sat cx _ (L'.set i (boxOf (([a, q].map e).headD undef) (cs' (([a, q].map e).getD 1 undef)) T0))
   rw [hbox]
   exact hS.set hF hL' (by simp) fun S hSp hSo => ⟨S, ⟨hSp.1, hset⟩, fun c hc => ⟨by simpa using (hSo c hc).1, .inl hc⟩, fun c _ hcS => setRow_other w b c _ (fun e => hcS ((hSp.1 c).2 e))⟩
 ·have hbox' := hbox
  show Sq P cx ops F rest ss (putD e none v') (L.set i (boxOf (([a, q].map e).headD undef) (cs' (([a, q].map e).getD 1 undef)) T0))
  rw [hbox]
  exact k
end rules
end Go.Lx

/- Rules: slices whose elements hold slices, as they came in: cells read off the known memory, and what each element stands for. Conditions: none. -/
namespace Go.Lx
open Go Go.Vc Go.Md
def Qb (h : Jx) (v : Value) (sz i j : Nat) : Value :=
 if j < sz then match v with
 | .slice (some ⟨b, off, _⟩) _ _ => match h b with
  | some (.cells cs _ _) => cs.getD (off + i * sz + j) undef
  | _ => undef
 | _ => undef else undef
def Wu (h : Jx) (v : Value) (sz i : Nat) : List Value := (List.range sz).map (Qb h v sz i)
class Mon {α : Type} (G : Jx → (Nat → Value) → α → Prop) : Prop where
 mono : ∀ {h h' : Jx}, (∀ b o, h b = some o → h' b = some o) → ∀ c x, G h c x → G h' c x
structure FrN {α : Type} (h : Jx) (sz : Nat) (v : Value) (G : Jx → (Nat → Value) → α → Prop) (xs : List α) : Prop where
 frs : FrS h sz v ((List.range xs.length).map (Wu h v sz))
 el : ∀ (i : Nat) (x : α), xs[i]? = some x → G h (Qb h v sz i) x
theorem elH_mono {h h' : Jx} {v : Value} {sz : Nat} {ys : List (List Value)} (f : FrS h sz v ys) (hy : 0 < ys.length) (k : ∀ b o, h b = some o → h' b = some o) (i : Nat) : Qb h v sz i = Qb h' v sz i := by
 funext j
 obtain ⟨a, c, rfl, _, _, r⟩ := f.out
 rcases r with r | ⟨b, off, cs, T, m, rfl, hb, _⟩
 ·subst r; simp at hy
 ·simp only [Qb, hb, k b _ hb]
theorem FrN.mono {α : Type} {h h' : Jx} {sz : Nat} {v : Value} {G : Jx → (Nat → Value) → α → Prop} [M : Mon G] {xs : List α} (f : FrN h sz v G xs) (k : ∀ b o, h b = some o → h' b = some o) : FrN h' sz v G xs := by
 have key : ∀ i, i < xs.length → Qb h v sz i = Qb h' v sz i := fun i hi => elH_mono f.frs (by simp; omega) k i
 refine ⟨?_, fun i x hx => ?_⟩
 ·have := f.frs.mono k
  have e : (List.range xs.length).map (Wu h v sz) = (List.range xs.length).map (Wu h' v sz) := by
   apply List.map_congr_left
   intro i hi
   unfold Wu
   rw [key i (by simpa using hi)]
  rwa [e] at this
 ·have hi : i < xs.length := by
   rcases Nat.lt_or_ge i xs.length with h | h
   ·exact h
   ·rw [List.getElem?_eq_none h] at hx; cases hx
  rw [← key i hi]
  exact M.mono k _ _ (f.el i x hx)
theorem FrN.nil {α : Type} (h : Jx) (sz : Nat) (G : Jx → (Nat → Value) → α → Prop) : FrN h sz (.slice none 0 0) G [] := ⟨FrS.nil _ _, by simp⟩
section acc
variable {α : Type} {h : Jx} {sz : Nat} {v : Value} {G : Jx → (Nat → Value) → α → Prop} {xs ys : List α}
theorem FrN.cells (f : FrN h sz v G xs) : v.cells.toList = [v] := f.frs.cells
theorem FrN.one (f : FrN h sz v G xs) : v.oneCell' = true := f.frs.one
theorem FrN.eq (f : FrN h sz v G xs) : v = .slice (sa v) xs.length (sc v) := by
 have := f.frs.eq; rwa [List.length_map, List.length_range] at this
theorem FrN.len (f : FrN h sz v G xs) : xs.length ≤ sc v ∧ sc v ≤ 9223372036854775807 := by
 have := f.frs.len; rwa [List.length_map, List.length_range] at this
theorem FrN.at (f : FrN h sz v G xs) {i : Int} {x : α} (g : Xt xs i = some x) : G h (Qb h v sz i.toNat) x := f.el _ _ (Yp g).2.2
theorem FrN.ix (_ : FrN h sz v G xs) {i : Int} {x : α} (g : Xt xs i = some x) : Xt (List.range xs.length) i = some i.toNat := by
 obtain ⟨h0, h1, _⟩ := Yp g
 rw [gAt_ok h0 (by simpa using h1)]; simp
theorem FrN.nilV (f : FrN h sz v G xs) (hb : isNilV v = true) : xs = [] := by
 have := FrS.nilV f.frs hb
 exact List.eq_nil_of_length_eq_zero (by simpa using congrArg List.length this)
theorem gCut_range {l q : Int} (e : Zo xs l q = some ys) : Zo (List.range xs.length) l q = some (((List.range xs.length).drop l.toNat).take (q.toNat - l.toNat)) := by
 obtain ⟨g0, g1, g2, _⟩ := Zr e
 exact gCut_ok ⟨g0, g1, by simpa using g2⟩
theorem FrN.cut (f : FrN h sz v G xs) {l q : Int} (e : Zo xs l q = some ys) : FrN h sz (cutV sz v l q) G ys := by
 obtain ⟨g0, g1, g2, rfl⟩ := Zr e
 have hl := f.len
 have h0 := FrS.cut f.frs (gCut_range e)
 have hlen : ((xs.drop l.toNat).take (q.toNat - l.toNat)).length = q.toNat - l.toNat := by rw [List.length_take, List.length_drop]; omega
 have key : ∀ i, i < q.toNat - l.toNat → Qb h (cutV sz v l q) sz i = Qb h v sz (l.toNat + i) := by
  intro i hi
  funext j
  obtain ⟨a, c, hva, h1, _, r⟩ := f.frs.out
  simp only [List.length_map, List.length_range] at hva h1
  rcases r with r | ⟨b, off, cs, T, m, ha, hb, _⟩
  ·have := congrArg List.length r
   simp at this
   rw [this] at g2
   simp at g2
   omega
  ·have hm : ¬ c = l.toNat := by omega
   rw [hva, ha]
   simp only [cutV, sa, sc, Qz, if_neg hm, Option.map_some, Addr.add_lit, Qb, hb]
   rw [show off + l.toNat * sz + i * sz + j = off + (l.toNat + i) * sz + j from by rw [Nat.add_mul]; omega]
 refine ⟨?_, fun i x hx => ?_⟩
 ·have e1 : ((List.range ((xs.drop l.toNat).take (q.toNat - l.toNat)).length).map (Wu h (cutV sz v l q) sz)) = (((List.range xs.length).drop l.toNat).take (q.toNat - l.toNat)).map (Wu h v sz) := by
   rw [hlen]
   apply List.ext_getElem
   ·simp; omega
   ·intro i h1 h2
    simp only [List.length_map, List.length_range] at h1
    simp only [List.getElem_map, List.getElem_range, List.getElem_take, List.getElem_drop]
    unfold Wu
    rw [key i h1]
  rw [e1]; exact h0
 ·have hi : i < q.toNat - l.toNat := by
   rcases Nat.lt_or_ge i (q.toNat - l.toNat) with h | h
   ·exact h
   ·rw [List.getElem?_eq_none (by rw [hlen]; exact h)] at hx; cases hx
  rw [key i hi]
  rw [List.getElem?_take, if_pos hi, List.getElem?_drop] at hx
  exact f.el _ _ hx
theorem FrN.frsM (f : FrN h sz v G xs) : FrS h sz v ((List.range xs.length).map (Wu h v sz)) := f.frs
end acc
theorem FrN.cutL {α : Type} {h : Jx} {sz : Nat} {a : Option Addr} {n c : Nat} {G : Jx → (Nat → Value) → α → Prop} {xs ys : List α} {l q : Int} (s : FrN h sz (.slice a n c) G xs) (e : Zo xs l q = some ys) : FrN h sz (.slice (Qz a l.toNat c sz) ys.length (c - l.toNat)) G ys := by
 have := s.cut e
 rw [gCut_len e]
 exact this
theorem rd_of {l l' vs : List Value} {j n : Nat} (e : l = l') (h : rd l' j n = some vs) : rd l j n = some vs := by subst e; exact h
theorem Ur {l l' : List Value} {j : Nat} {v : Value} (e : l = l') (h : rg l' j = some v) : rg l j = some v := by subst e; exact h
def AllG {α : Type} (G : Jx → (Nat → Value) → α → Prop) (h : Jx) (sz : Nat) : List Value → List α → Prop
 | cs, [] => cs = []
 | cs, x :: r => G h (fun j => (cs.take sz).getD j undef) x ∧ AllG G h sz (cs.drop sz) r
theorem AllG.el {α : Type} {G : Jx → (Nat → Value) → α → Prop} {h : Jx} {sz : Nat} : ∀ {cs : List Value} {xs : List α}, AllG G h sz cs xs → ∀ (i : Nat) (x : α), xs[i]? = some x → G h (fun j => ((cs.drop (i * sz)).take sz).getD j undef) x
 | _, [], _, i, x, hx => by simp at hx
 | cs, y :: r, hp, 0, x, hx => by
  simp at hx; subst hx
  have := hp.1
  simpa using this
 | cs, y :: r, hp, i + 1, x, hx => by
  have := AllG.el hp.2 i x (by simpa using hx)
  rw [List.drop_drop, show sz + i * sz = (i + 1) * sz from by rw [Nat.succ_mul]; omega] at this
  exact this
section rules
variable {P : Program} {n : Nat} {cx : Cx} {e : Xd} {L : List Chunk}
section ops
variable {d : Option Nat} {ty : TypeId} {pos : String} {af : Array Edge} {g : Option (Nat × Bool)}
theorem Q7 {α : Type} {G : Jx → (Nat → Value) → α → Prop} {X : Operand} {t u sz : TypeId} {h : Jx} {v : Value} {xs : List α} (hu : P.underlying t = some (.slice u)) (hx : ev e X = v) (hs : FrN h sz v G xs) (w : World) :
  (execOp (ev e) ⟨d, .call ⟨.builtin .len, #[X], #[t]⟩, ty, pos, af, g⟩).run P w = .ok (.value (.int .i64 xs.length)) w :=
 r_len (P := P) (d := d) (ty := ty) (pos := pos) (af := af) (g := g) hu (hx.trans hs.eq) w
end ops
end rules
end Go.Lx

/- Rules: strings.Builder, as a chunk that holds octets. Conditions: none. -/
namespace Go.Lx
open Go Go.Vc Go.Md
abbrev e8 (x : Int) : List Value := [.int .u8 x]
section rules
variable {P : Program} {n : Nat} {cx : Cx} {Q : Ui} {K : Xd → World → Prop} {e : Xd} {L : List Chunk} {ops : Array Oper} {F : Xd → List Chunk → Prop} {rest : List Oper} {ss : List Kd} {d : Nat} {ty : TypeId} {pos : String} {af : Array Edge} {g : Option (Nat × Bool)}
section ops
end ops
end rules
end Go.Lx

/- Rules: parts of arrays as arguments. Conditions: none. -/
namespace Go.Lx
open Go Go.Vc Go.Md
section rules
variable {P : Program} {cx : Cx} {e : Xd} {L : List Chunk}
end rules
def vcells : Value → List Value | .tuple vs => vs.toList.flatMap fun v => v.cells.toList | v => v.cells.toList
def vcell (v : Value) (k : Nat) : Value := (vcells v).getD k undef
section rules
variable {P : Program} {n : Nat} {cx : Cx} {e : Xd} {L : List Chunk} {d : Nat} {ty : TypeId} {pos : String} {af : Array Edge} {g : Option (Nat × Bool)}
theorem r_cap {dd : Option Nat} {X : Operand} {t u m c : Nat} {a : Option Addr} (hu : P.underlying t = some (.slice u)) (hx : ev e X = .slice a m c) (w : World) :
  (execOp (ev e) ⟨dd, .call ⟨.builtin .cap, #[X], #[t]⟩, ty, pos, af, g⟩).run P w = .ok (.value (.int .i64 (c : Nat))) w := by
 simp [execOp, resolve, invoke, builtin, hx, Builtin.cap_, run_underlying hu, goInt]
end rules
end Go.Lx

/- Rules: slices of one's own whose elements hold slices: rows of raw cells, facts on what they stand for, and a pool of memory that nobody turns any more. Conditions: none. -/
namespace Go.Lx
open Go Go.Vc Go.Md
def idC (l : List Value) : List Value := l
def U0 : Jx := fun _ => none
structure AllC {α : Type} (G : Jx → (Nat → Value) → α → Prop) (h : Jx) (sz : Nat) (css : List (List Value)) (xs : List α) : Prop where
 len : css.length = xs.length
 el : ∀ (i : Nat) (cs : List Value) (x : α), css[i]? = some cs → xs[i]? = some x → cs.length = sz ∧ G h (fun j => cs.getD j undef) x
section allc
variable {α : Type} {G : Jx → (Nat → Value) → α → Prop} {h h' : Jx} {sz : Nat} {css : List (List Value)} {xs ys : List α}
theorem AllC.nil : AllC G h sz [] ([] : List α) := ⟨rfl, by simp⟩
theorem AllC.snoc (p : AllC G h sz css xs) {cs : List Value} {x : α} (hl : cs.length = sz) (hG : G h (fun j => cs.getD j undef) x) : AllC G h sz (css ++ [cs]) (xs ++ [x]) := by
 refine ⟨by simp [p.len], fun i c y hc hy => ?_⟩
 rcases Nat.lt_or_ge i css.length with hi | hi
 ·rw [List.getElem?_append_left hi] at hc
  rw [List.getElem?_append_left (by rw [← p.len]; exact hi)] at hy
  exact p.el i c y hc hy
 ·rw [List.getElem?_append_right hi] at hc
  rw [List.getElem?_append_right (by rw [← p.len]; exact hi), ← p.len] at hy
  have h0 : i - css.length = 0 := by
   rcases Nat.eq_zero_or_pos (i - css.length) with h | h
   ·exact h
   ·obtain ⟨q, hq⟩ : ∃ q, i - css.length = q + 1 := ⟨i - css.length - 1, by omega⟩
    rw [hq] at hc; simp at hc
  rw [h0] at hc hy
  simp at hc hy
  subst hc hy
  exact ⟨hl, hG⟩
theorem AllC.mono [M : Mon G] (p : AllC G h sz css xs) (k : ∀ b o, h b = some o → h' b = some o) : AllC G h' sz css xs :=
 ⟨p.len, fun i c x hc hx => ⟨(p.el i c x hc hx).1, M.mono k _ _ (p.el i c x hc hx).2⟩⟩
theorem AllC.get (p : AllC G h sz css xs) {i : Int} {x : α} (g : Xt xs i = some x) : css[i.toNat]? = some (css.getD i.toNat []) := by
 obtain ⟨h0, h1, _⟩ := Yp g
 rw [List.getD_eq_getElem?_getD, List.getElem?_eq_getElem (by rw [p.len]; exact h1)]; rfl
theorem AllC.ix (p : AllC G h sz css xs) {i : Int} {x : α} (g : Xt xs i = some x) : Xt css i = some (css.getD i.toNat []) := by
 unfold Xt; rw [if_pos (Yp g).1]; exact p.get g
theorem AllC.at (p : AllC G h sz css xs) {i : Int} {x : α} (g : Xt xs i = some x) : G h (fun j => (css.getD i.toNat []).getD j undef) x := (p.el _ _ _ (p.get g) (Yp g).2.2).2
theorem AllC.eta (p : AllC G h sz css xs) {i : Int} {x : α} (g : Xt xs i = some x) : idC (css.getD i.toNat []) = (List.range sz).map fun j => (css.getD i.toNat []).getD j undef := by
 have hl := (p.el _ _ _ (p.get g) (Yp g).2.2).1
 unfold idC
 generalize css.getD i.toNat [] = l at hl
 subst hl
 apply List.ext_getElem
 ·simp
 ·intro j h1 h2
  simp [List.getD_eq_getElem?_getD, List.getElem?_eq_getElem h1]
theorem AllC.app (p : AllC G h sz css xs) {by_ : Nat} {news zs : List α} {nc : List (List Value)} (g : Vj by_ xs news = some zs) (hn : nc.length = news.length) : Vj by_ css nc = some (css ++ nc) := by
 obtain ⟨_, h1, h2⟩ := Vu g
 exact Um (by rw [p.len, hn]; exact ⟨h1, h2⟩)
theorem AllC.snocG (p : AllC G h sz css xs) {by_ : Nat} {x : α} {zs : List α} {cs : List Value} (g : Vj by_ xs [x] = some zs) (hl : cs.length = sz) (hG : G h (fun j => cs.getD j undef) x) : AllC G h sz (css ++ [cs]) zs := by
 obtain ⟨rfl, _⟩ := Vu g
 exact p.snoc hl hG
end allc
def X9 (base hp : Jx) : Chunk where
 P S w := (∀ b o, base b = some o → hp b = some o) ∧ ∀ b o, hp b = some o → base b = some o ∨ (S b ∧ w.heap[b]? = some o)
 loc S w w' h := fun ⟨h1, h2⟩ => ⟨h1, fun b o hb => (h2 b o hb).imp id fun ⟨hs, hw⟩ => ⟨hs, (h b hs).trans hw⟩⟩
section rules
variable {cx : Cx} {K : Xd → World → Prop} {e : Xd} {L : List Chunk} {base hp : Jx}
theorem We (base : Jx) (k : At cx K e (L ++ [X9 base base])) : At cx K e L :=
 ⟨fun w hF hS => k.out w hF (hS.snoc hF (Grow.refl w) (S := X3) ⟨fun _ _ h => h, fun _ _ h => .inl h⟩ (fun _ h => h.elim))⟩
theorem Ue (i : Nat) (hi : L[i]? = some (X9 base hp)) (k : (∀ b o, base b = some o → hp b = some o) → At cx K e L) : At cx K e L :=
 ⟨fun w hF hS => by
  obtain ⟨S, hp, _⟩ := hS.at hi
  exact (k hp.1).out w hF hS⟩
theorem Xe {w : World} {i : Nat} (hS : Sat cx w L) (hi : L[i]? = some (X9 base hp)) (hb : ∀ b o, base b = some o → w.heap[b]? = some o) : ∀ b o, hp b = some o → w.heap[b]? = some o := fun b o h => by
 obtain ⟨S, hP, _⟩ := hS.at hi
 rcases hP.2 b o h with h | h
 ·exact hb b o h
 ·exact h.2
theorem Y7 {h : Jx} : ∀ b o, U0 b = some o → h b = some o := fun _ _ h => by cases h
open Classical in
theorem Ws {C : Chunk} {Φ : Jx → Prop} (i j : Nat) (hi : L[i]? = some (X9 base hp)) (hj : L[j]? = some C) (hne : i ≠ j) (hb : ∀ w, Fr cx w → ∀ b o, base b = some o → w.heap[b]? = some o)
  (hC : ∀ S w (H : Jx), C.P S w → (∀ b o, S b → w.heap[b]? = some o → H b = some o) → (∀ b o, hp b = some o → H b = some o) → Φ H)
  (k : ∀ hp', (∀ b o, hp b = some o → hp' b = some o) → Φ hp' → At cx K e ((L.set i (X9 base hp')).set j empC)) : At cx K e L :=
 ⟨fun w hF hS => by
  have hnow := Xe hS hi (hb w hF)
  obtain ⟨fp, h1, h2, h3⟩ := hS.out
  have hil : i < L.length := by
   rcases Nat.lt_or_ge i L.length with h | h
   ·exact h
   ·simp [List.getElem?_eq_none h] at hi
  have hjl : j < L.length := by
   rcases Nat.lt_or_ge j L.length with h | h
   ·exact h
   ·simp [List.getElem?_eq_none h] at hj
  have hji : ¬ j = i := fun h => hne h.symm
  have le : ∀ b o, hp b = some o → (fun b => if fp j b then w.heap[b]? else hp b) b = some o := fun b o h => by
   show (if fp j b then w.heap[b]? else hp b) = some o
   split
   ·exact hnow b o h
   ·exact h
  refine (k (fun b => if fp j b then w.heap[b]? else hp b) le (hC (fp j) w _ (h1 j C hj) (fun b o hs h => by show (if fp j b then w.heap[b]? else hp b) = some o; rw [if_pos hs]; exact h) le)).out w hF ?_
  have key : ∀ q b, (if q = i then fp i b ∨ fp j b else if q = j then False else fp q b) → (q = i ∧ (fp i b ∨ fp j b)) ∨ (q ≠ i ∧ q ≠ j ∧ fp q b) := by
   intro q b h
   by_cases hqi : q = i
   ·simp only [hqi, if_true] at h; exact .inl ⟨hqi, h⟩
   ·by_cases hqj : q = j
    ·simp only [hqj, hji, if_true, if_false] at h
    ·simp only [hqi, hqj, if_false] at h; exact .inr ⟨hqi, hqj, h⟩
  refine ⟨fun q b => if q = i then fp i b ∨ fp j b else if q = j then False else fp q b, ?_, ?_, ?_⟩
  ·intro q c hc
   by_cases hqj : q = j
   ·subst hqj
    rw [List.getElem?_set_self (by simpa using hjl)] at hc
    cases hc
    show ∀ b, ¬ _
    intro b h
    simp [hji] at h
   ·rw [List.getElem?_set_ne (fun h => hqj h.symm)] at hc
    by_cases hqi : q = i
    ·subst hqi
     rw [List.getElem?_set_self hil] at hc
     cases hc
     simp only [if_true]
     have hP := h1 q _ hi
     refine ⟨fun b o h => le b o (hP.1 b o h), fun b o h => ?_⟩
     have h : (if fp j b then w.heap[b]? else hp b) = some o := h
     split at h
     ·rename_i hs; exact .inr ⟨.inr hs, h⟩
     ·rcases hP.2 b o h with h | h
      ·exact .inl h
      ·exact .inr ⟨.inl h.1, h.2⟩
    ·rw [List.getElem?_set_ne (fun h => hqi h.symm)] at hc
     simp only [hqi, hqj, if_false]
     exact h1 q c hc
  ·intro q b h
   rcases key q b h with ⟨rfl, h | h⟩ | ⟨_, _, h⟩
   ·have := h2 q b h; exact ⟨by simpa using hil, this.2⟩
   ·have := h2 j b h; exact ⟨by simpa using hil, this.2⟩
   ·have := h2 q b h; exact ⟨by simpa using this.1, this.2⟩
  ·intro q r b hq hr
   rcases key q b hq with ⟨hqi, hq | hq⟩ | ⟨hqi, hqj, hq⟩ <;> rcases key r b hr with ⟨hri, hr | hr⟩ | ⟨hri, hrj, hr⟩
   ·omega
   ·omega
   ·exact absurd (h3 i r b hq hr) (fun h => hri h.symm)
   ·omega
   ·omega
   ·exact absurd (h3 j r b hq hr) (fun h => hrj h.symm)
   ·exact absurd (h3 q i b hq hr) hqi
   ·exact absurd (h3 q j b hq hr) hqj
   ·exact h3 q r b hq hr⟩
theorem FrS.sub {w : World} {S : Nat → Prop} {H : Jx} {sz : Nat} {v : Value} {xs : List (List Value)} (f : FrS (fun b => w.heap[b]?) sz v xs) (hd : ∀ b, v.ownBlock = some b → S b) (hH : ∀ b o, S b → w.heap[b]? = some o → H b = some o) : FrS H sz v xs := by
 obtain ⟨a, c, rfl, h1, h2, r⟩ := f.out
 refine ⟨a, c, rfl, h1, h2, ?_⟩
 rcases r with r | ⟨b, off, cs, T, m, rfl, hb, r⟩
 ·exact .inl r
 ·exact .inr ⟨b, off, cs, T, m, rfl, hH b _ (hd b rfl) hb, r⟩
theorem fz_ro {α : Type} {sz n : Nat} {v : Value} {xs : List α} {f : α → List Value} (hp : Jx) : ∀ S w (H : Jx), (roV sz v n (xs.map f)).P S w → (∀ b o, S b → w.heap[b]? = some o → H b = some o) → (∀ b o, hp b = some o → H b = some o) → FrS H sz v (xs.map f) :=
 fun _ _ _ hP hH _ => hP.2.1.sub hP.2.2 hH
theorem fz_own {α : Type} {E sz n : Nat} {v : Value} {xs : List α} {f : α → List Value} (hp : Jx) : ∀ S w (H : Jx), (Xa E sz v n (xs.map f)).P S w → (∀ b o, S b → w.heap[b]? = some o → H b = some o) → (∀ b o, hp b = some o → H b = some o) → FrS H sz v (xs.map f) :=
 fun S w H hP hH k => fz_ro hp S w H ((row_ro E sz v n _).out S w hP) hH k
theorem frn_of {α : Type} {G : Jx → (Nat → Value) → α → Prop} {h : Jx} {sz : Nat} {v : Value} {css : List (List Value)} {xs : List α} (f : FrS h sz v (css.map idC)) (p : AllC G h sz css xs) : FrN h sz v G xs := by
 have hid : css.map idC = css := by unfold idC; simp
 rw [hid] at f
 have cellE : ∀ i, i < xs.length → Qb h v sz i = fun j => (css.getD i []).getD j undef := by
  intro i hi
  funext j
  have hi' : i < css.length := by rw [p.len]; exact hi
  have hcl : (css[i]).length = sz := (p.el i css[i] xs[i] (List.getElem?_eq_getElem hi') (List.getElem?_eq_getElem hi)).1
  have e1 : css.getD i [] = css[i] := by simp [List.getD_eq_getElem?_getD, List.getElem?_eq_getElem hi']
  rw [e1]
  by_cases hj : j < sz
  ·obtain ⟨a, c, rfl, _, _, r⟩ := f.out
   rcases r with r | ⟨b, off, cs, T, m, rfl, hb, r⟩
   ·subst r; simp at hi'
   ·have h2 := (r i css[i] (List.getElem?_eq_getElem hi')).2 j ((css[i])[j]'(by omega)) (List.getElem?_eq_getElem (by omega))
    simp only [Qb, if_pos hj, hb]
    rw [Array.getD_eq_getD_getElem?, h2]
    simp [List.getD_eq_getElem?_getD, List.getElem?_eq_getElem (show j < (css[i]).length by omega)]
  ·unfold Qb
   rw [if_neg hj, List.getD_eq_getElem?_getD, List.getElem?_eq_none (by omega)]; rfl
 have cells : ∀ i, i < xs.length → Wu h v sz i = css.getD i [] := by
  intro i hi
  have hi' : i < css.length := by rw [p.len]; exact hi
  have hcl : (css[i]).length = sz := (p.el i css[i] xs[i] (List.getElem?_eq_getElem hi') (List.getElem?_eq_getElem hi)).1
  unfold Wu
  rw [cellE i hi]
  have e1 : css.getD i [] = css[i] := by simp [List.getD_eq_getElem?_getD, List.getElem?_eq_getElem hi']
  rw [e1]
  apply List.ext_getElem
  ·simp [hcl]
  ·intro j h1 h2
   simp only [List.length_map, List.length_range] at h1
   simp [List.getD_eq_getElem?_getD, List.getElem?_eq_getElem h2]
 refine ⟨?_, fun i x hx => ?_⟩
 ·have e : (List.range xs.length).map (Wu h v sz) = css := by
   apply List.ext_getElem
   ·simp [p.len]
   ·intro i h1 h2
    simp only [List.length_map, List.length_range] at h1
    rw [List.getElem_map, List.getElem_range, cells i h1]
    simp [List.getD_eq_getElem?_getD, List.getElem?_eq_getElem h2]
  rw [e]; exact f
 ·have hi : i < xs.length := by
   rcases Nat.lt_or_ge i xs.length with h | h
   ·exact h
   ·rw [List.getElem?_eq_none h] at hx; cases hx
  have hi' : i < css.length := by rw [p.len]; exact hi
  rw [cellE i hi]
  have e1 : css.getD i [] = css[i] := by simp [List.getD_eq_getElem?_getD, List.getElem?_eq_getElem hi']
  rw [e1]
  exact (p.el i css[i] x (List.getElem?_eq_getElem hi') hx).2
theorem app63 {α : Type} {by_ : Nat} {xs ys zs : List α} (g : Vj by_ xs ys = some zs) : (xs ++ ys).length * by_ ≤ 140737488355328 := by
 obtain ⟨_, _, h⟩ := Vu g
 rwa [List.length_append]
open Classical in
theorem Vk {hp1 : Jx} (i j : Nat) (hi : L[i]? = some (X9 base hp)) (hj : L[j]? = some (X9 U0 hp1)) (hne : i ≠ j) (hb : ∀ w, Fr cx w → ∀ b o, base b = some o → w.heap[b]? = some o)
  (k : ∀ hp', (∀ b o, hp b = some o → hp' b = some o) → (∀ b o, hp1 b = some o → hp' b = some o) → At cx K e ((L.set i (X9 base hp')).set j empC)) : At cx K e L :=
 Ws (Φ := fun H => ∀ b o, hp1 b = some o → H b = some o) i j hi hj hne hb (fun S w H hP hH _ b o h => (hP.2 b o h).elim (fun h => by cases h) fun h => hH b o h.1 h.2) k
def rowD {α : Type} (E sz : Nat) (G : Jx → (Nat → Value) → α → Prop) (v : Value) (n : Nat) (xs : List α) : Chunk where
 P S w := ∃ (hp : Jx) (css : List (List Value)), AllC G hp sz css xs ∧ n = css.length ∧ (Xx (X9 U0 hp) (Xa E sz v n (css.map idC))).P S w
 loc S w w' h := by
  rintro ⟨hp, css, h1, h2, h3⟩
  exact ⟨hp, css, h1, h2, Chunk.loc _ _ _ _ h h3⟩
def roD {α : Type} (sz : Nat) (G : Jx → (Nat → Value) → α → Prop) (v : Value) (n : Nat) (xs : List α) : Chunk where
 P S w := ∃ (hp : Jx) (css : List (List Value)), AllC G hp sz css xs ∧ n = css.length ∧ (Xx (X9 U0 hp) (roV sz v n (css.map idC))).P S w
 loc S w w' h := by
  rintro ⟨hp, css, h1, h2, h3⟩
  exact ⟨hp, css, h1, h2, Chunk.loc _ _ _ _ h h3⟩
theorem imp_rowD {α : Type} {G : Jx → (Nat → Value) → α → Prop} {E sz n : Nat} {p : Option Addr × Nat} {css : List (List Value)} {xs : List α} (hn : n = css.length) (f : AllC G hp sz css xs) :
  Imp (Xx (X9 U0 hp) (Xa E sz (.slice p.1 n p.2) n (css.map idC))) (rowD E sz G (.slice p.1 n p.2) n xs) := ⟨fun S w h => ⟨hp, css, f, hn, h⟩⟩
theorem imp_roD {α : Type} {G : Jx → (Nat → Value) → α → Prop} {sz n : Nat} {p : Option Addr × Nat} {css : List (List Value)} {xs : List α} (hn : n = css.length) (f : AllC G hp sz css xs) :
  Imp (Xx (X9 U0 hp) (roV sz (.slice p.1 n p.2) n (css.map idC))) (roD sz G (.slice p.1 n p.2) n xs) := ⟨fun S w h => ⟨hp, css, f, hn, h⟩⟩
theorem c_show {C : Chunk} {τ : Type} {D : τ → Chunk} {φ : τ → Prop} (i : Nat) (hi : L[i]? = some C) (h : ∀ S w, C.P S w → ∃ t, φ t ∧ (D t).P S w) (k : ∀ t, φ t → At cx K e (L.set i (D t))) : At cx K e L :=
 ⟨fun w hF hS => by
  obtain ⟨fp, h1, h2, h3⟩ := hS.out
  obtain ⟨t, ht, hD⟩ := h _ _ (h1 i _ hi)
  have hil : i < L.length := by
   rcases Nat.lt_or_ge i L.length with h | h
   ·exact h
   ·simp [List.getElem?_eq_none h] at hi
  refine (k t ht).out w hF ⟨fp, fun j c hj => ?_, fun j b hb => by simpa using h2 j b hb, h3⟩
  by_cases hji : j = i
  ·subst hji
   rw [List.getElem?_set_self hil] at hj
   cases hj
   exact hD
  ·rw [List.getElem?_set_ne (fun h => hji h.symm)] at hj
   exact h1 j c hj⟩
theorem c_rowD {α : Type} {G : Jx → (Nat → Value) → α → Prop} {E sz n : Nat} {p : Option Addr × Nat} {xs : List α} (i : Nat) (hi : L[i]? = some (rowD E sz G (.slice p.1 n p.2) n xs))
  (k : ∀ (hp : Jx) (css : List (List Value)), n = css.length → AllC G hp sz css xs → At cx K e (L.set i (Xx (X9 U0 hp) (Xa E sz (.slice p.1 n p.2) n (css.map idC))))) : At cx K e L :=
 c_show (τ := Jx × List (List Value)) (D := fun t => Xx (X9 U0 t.1) (Xa E sz (.slice p.1 n p.2) n (t.2.map idC))) (φ := fun t => n = t.2.length ∧ AllC G t.1 sz t.2 xs) i hi (fun S w ⟨hp, css, h1, h2, h3⟩ => ⟨(hp, css), ⟨h2, h1⟩, h3⟩) fun t ht => k t.1 t.2 ht.1 ht.2
theorem c_roD {α : Type} {G : Jx → (Nat → Value) → α → Prop} {sz n : Nat} {p : Option Addr × Nat} {xs : List α} (i : Nat) (hi : L[i]? = some (roD sz G (.slice p.1 n p.2) n xs))
  (k : ∀ (hp : Jx) (css : List (List Value)), n = css.length → AllC G hp sz css xs → At cx K e (L.set i (Xx (X9 U0 hp) (roV sz (.slice p.1 n p.2) n (css.map idC))))) : At cx K e L :=
 c_show (τ := Jx × List (List Value)) (D := fun t => Xx (X9 U0 t.1) (roV sz (.slice p.1 n p.2) n (t.2.map idC))) (φ := fun t => n = t.2.length ∧ AllC G t.1 sz t.2 xs) i hi (fun S w ⟨hp, css, h1, h2, h3⟩ => ⟨(hp, css), ⟨h2, h1⟩, h3⟩) fun t ht => k t.1 t.2 ht.1 ht.2
end rules
end Go.Lx

/- The kit's contracts of slices.Sort at rows of one's own: the row is sorted in place. Conditions: the row is shorter than 2^62. -/
namespace Go.Vc
open Go Go.Md Go.Shelf Go.Sort Go.Proofs
end Go.Vc

/- The kit's contracts of decimal numerals, of octets in strings, of strings.Repeat and strings.Join, in our words; tables among the package's variables. Conditions: none. -/
namespace Go.Lx
open Go Go.Vc Go.Md Go.Shelf Go.Proofs
theorem ixB_lib (l : List UInt8) (c : UInt8) : ixB l c = Lib.indexByte l c := by
 induction l with
 | nil => rfl
 | cons b l ih => simp only [ixB, Lib.indexByte, ih, beq_iff_eq]
theorem run_ixB {P : Program} {s : List UInt8} {c r : Int} (h : gIxB s c = some r) (w : World) : (Extern.BytealgIndexByte.indexByte #[str s, .int .u8 c]).run P w = .ok (.int .i64 r) w := by
 cases h
 rw [Lib.run_indexByteString, ixB_lib]
def TabH (P : Program) (h : Jx) (name : String) (k : IntKind) (zs : List Int) : Prop := ∃ g T m, P.globalNamed name = some g ∧ h g = some (.cells (zs.map fun z => Value.int k z).toArray T m)
theorem TabH.mono {P : Program} {h h' : Jx} {name : String} {k : IntKind} {zs : List Int} (t : TabH P h name k zs) (hh : ∀ b o, h b = some o → h' b = some o) : TabH P h' name k zs := by
 obtain ⟨g, T, m, h1, h2⟩ := t
 exact ⟨g, T, m, h1, hh _ _ h2⟩
theorem repeat_lib (s : List UInt8) (n : Nat) : (List.replicate n s).flatten = Lib.repeatL s n := by
 induction n with
 | zero => rfl
 | succ n ih => rw [List.replicate_succ, List.flatten_cons, ih]; rfl
theorem rep_ret {P : Program} {ρ : Ren} (L : Lays.n105 P ρ) (X : Builder.Extra P ρ) {s r : List UInt8} {n : Int} (H : gRep s n = some r) : Ret P (ρ.f 105) [str s, .int .i64 n] (str r) := fun w => by
 unfold gRep at H
 split at H
 case isFalse => cases H
 rename_i hr
 cases H
 obtain ⟨k, rfl⟩ : ∃ k : Nat, n = k := ⟨n.toNat, by omega⟩
 refine Calls.mono (Any.strings_Repeat L X ⟨s.toArray⟩ k w (by omega) (by simpa [ByteArray.size] using hr.2.2)) ?_
 rintro e w' ⟨rfl, hb⟩
 exact ⟨_, rfl, by rw [repeat_lib]; rfl, hb⟩
end Go.Lx

/- The kit's contract of slices.Compact at rows of one's own. Conditions: none. -/
namespace Go.Vc
open Go Go.Md Go.Shelf Go.Sort Go.Proofs
end Go.Vc
namespace Go.Lx
open Go Go.Vc
section ops
variable {P : Program} {e : Xd} {d : Option Nat} {ty : TypeId} {pos : String} {af : Array Edge} {g : Option (Nat × Bool)}
end ops
end Go.Lx

/- Rules: rows of one's own that are known to have room: append within it. Conditions: none. -/
namespace Go.Lx
open Go Go.Vc Go.Md
def _root_.Go.Vc.Kd.dv (a : Nat) (rds : List Nat) (φ : Value → Value) : Kd := .g [a] rds [] (fun vs _ v => v = φ (vs.headD undef)) (fun _ _ _ => [])
section rules
variable {P : Program} {cx : Cx} {ops : Array Oper} {F : Xd → List Chunk → Prop} {ss : List Kd} {rest : List Oper} {e : Xd} {L : List Chunk}
end rules
section rules
variable {P : Program} {n : Nat} {cx : Cx} {e : Xd} {L : List Chunk} {d : Nat} {ty : TypeId} {pos : String} {af : Array Edge} {g : Option (Nat × Bool)}
end rules
end Go.Lx

/- Taking elements out of a row of one's own: append(s[:a], s[b:]...) at one row. Conditions: none. -/
namespace Go.Lx
open Go Go.Vc Go.Md
section rules
variable {P : Program} {n : Nat} {cx : Cx} {e : Xd} {L : List Chunk} {d : Nat} {ty : TypeId} {pos : String} {af : Array Edge} {g : Option (Nat × Bool)}
theorem flat_takeN {sz : Nat} : ∀ {xs : List (List Value)} (a : Nat), (∀ x ∈ xs, x.length = sz) → xs.flatten.take (a * sz) = (xs.take a).flatten
 | [], a, _ => by simp
 | x :: xs, 0, _ => by simp
 | x :: xs, a + 1, h => by
  have hx := h x (by simp)
  rw [List.take_succ_cons, List.flatten_cons, List.flatten_cons, Nat.succ_mul, List.take_append, hx, List.take_of_length_le (by omega), show a * sz + sz - sz = a * sz from by omega, flat_takeN a fun y hy => h y (by simp [hy])]
theorem zero_one {z : Value} {q : Nat} (h1 : z.cells.toList.all Value.oneCell' = true) : ∀ v ∈ (Builtin.zeroCells z.cells q).toList, v.oneCell' = true := by
 intro v hv
 unfold Builtin.zeroCells at hv
 simp only [Array.toList_map, Array.toList_range, List.mem_map, List.mem_range] at hv
 obtain ⟨j, hj, rfl⟩ := hv
 have hs : 0 < z.cells.size := by
  rcases Nat.eq_zero_or_pos z.cells.size with h | h
  ·rw [h] at hj; simp at hj
  ·exact h
 have hm : j % z.cells.size < z.cells.size := Nat.mod_lt _ hs
 rw [getElem!_pos z.cells _ hm]
 exact List.all_eq_true.1 h1 _ (by rw [← Array.getElem_toList]; exact List.getElem_mem _)
end rules
end Go.Lx

/- Rules: the beginning of a row of one's own as a row, slices with three indices, clear of a part of a row. Conditions: none. -/
namespace Go.Lx
open Go Go.Vc Go.Md
theorem cutA_zero (a : Option Addr) (m sz : Nat) : Qz a 0 m sz = a := by
 unfold Qz
 split
 ·rfl
 ·cases a with
  | none => rfl
  | some x => obtain ⟨b, o, f⟩ := x; simp [Addr.add]
section ops
variable {P : Program} {e : Xd} {d : Option Nat} {ty : TypeId} {pos : String} {af : Array Edge} {g : Option (Nat × Bool)}
theorem run_sliceHO0 {α : Type} {X B : Operand} {a : Option Addr} {m c : Nat} {t u sz : Nat} {kb : IntKind} {q : Int} {xs ys : List α} {w : World} (hu : P.underlying t = some (.slice u)) (hs : ∀ w, (sizeOf u).run P w = .ok sz w)
  (hx : ev e X = .slice a m c) (hb : ev e B = .int kb q) (hm : m = xs.length) (hc : m ≤ c) (hg : Zo xs 0 q = some ys) :
  (execOp (ev e) ⟨d, .slice t X none (some B) none, ty, pos, af, g⟩).run P w = .ok (.value (.slice a ys.length c)) w := by
 obtain ⟨g0, g1, g2, _⟩ := Zr hg
 have hl := gCut_len hg
 rw [r_sliceH hu hs hx hb g1 (by omega) w, hl, cutA_zero]; rfl
theorem run_slice3O {α : Type} {X A B M : Operand} {a : Option Addr} {m c : Nat} {t u sz : Nat} {ka kb km : IntKind} {l q : Int} {xs ys : List α} {w : World} (hu : P.underlying t = some (.slice u)) (hs : ∀ w, (sizeOf u).run P w = .ok sz w)
  (hx : ev e X = .slice a m c) (ha : ev e A = .int ka l) (hb : ev e B = .int kb q) (hmx : ev e M = .int km (xs.length : Int)) (hm : m = xs.length) (hc : m ≤ c) (hg : Zo xs l q = some ys) :
  (execOp (ev e) ⟨d, .slice t X (some A) (some B) (some M), ty, pos, af, g⟩).run P w = .ok (.value (.slice (Qz a l.toNat m sz) ys.length (m - l.toNat))) w := by
 obtain ⟨g0, g1, g2, _⟩ := Zr hg
 have hl := gCut_len hg
 have hu' : P.underlying t = some (.slice (P.elem t)) := by rw [elem_of hu]; exact hu
 subst hm
 simp only [execOp, Option.map_some, Option.map_none, hx, ha, hb, hmx, Sem.run_bind, run_sliceAt_slice w t _ _ _ _ hu', run_slice_lhm w t a _ c hu' ka kb km l q _ g0 g1 g2 (Int.ofNat_le.2 hc), elem_of hu, hs, Result.andThen_ok, Sem.run_pure, sliced, Qz, Int.toNat_natCast, hl]
theorem run_sliceRoom {X A B : Operand} {a : Option Addr} {m c : Nat} {t u sz : Nat} {ka kb : IntKind} {q : Int} {w : World} (hu : P.underlying t = some (.slice u)) (hs : ∀ w, (sizeOf u).run P w = .ok sz w)
  (hx : ev e X = .slice a m c) (ha : ev e A = .int ka (m : Int)) (hb : ev e B = .int kb q) (h1 : (m : Int) ≤ q) (h2 : q ≤ c) :
  (execOp (ev e) ⟨d, .slice t X (some A) (some B) none, ty, pos, af, g⟩).run P w = .ok (.value (.slice (Qz a m c sz) (q.toNat - m) (c - m))) w := by
 have := r_sliceLH (d := d) (ty := ty) (pos := pos) (af := af) (g := g) hu hs hx ha hb (Int.natCast_nonneg m) h1 h2 w
 rwa [Int.toNat_natCast] at this
end ops
section rules
variable {P : Program} {n : Nat} {cx : Cx} {e : Xd} {L : List Chunk} {d : Nat} {ty : TypeId} {pos : String} {af : Array Edge} {g : Option (Nat × Bool)}
theorem Turns.pre {σ : Type} {o : Oper} {i : Nat} {rds : List Nat} {G : σ → Value} {D : σ → Chunk} {C C' : Chunk} (hI : Imp C C') (hL : L[i]? = some C) (hr : i ∉ rds) (h : Turns P cx e o (L.set i C') i rds G D) : Turns P cx e o L i rds G D := by
 intro w L' hF hS hl hi
 have hLi := (hi i (.inr rfl)).trans hL
 have hS' : Sat cx w (L'.set i C') := hS.set hF hLi (Nat.le_refl _) fun S hp hb => ⟨S, hI.out S w hp, fun b hs => ⟨(hb b hs).1, .inl hs⟩, fun _ _ _ => rfl⟩
 have hil : i < L.length := by
  rcases Nat.lt_or_ge i L.length with h | h
  ·exact h
  ·rw [List.getElem?_eq_none h] at hL; cases hL
 have := h w (L'.set i C') hF hS' (by simp [hl]) fun j hj => by
  by_cases hji : j = i
  ·subst hji; rw [List.getElem?_set_self (by omega), List.getElem?_set_self hil]
  ·rw [List.getElem?_set_ne (fun e => hji e.symm), List.getElem?_set_ne (fun e => hji e.symm)]
   exact hi j (hj.imp_right fun h => h)
 simpa [List.set_set] using this
theorem flat_dropN {sz : Nat} : ∀ {xs : List (List Value)} (a : Nat), (∀ x ∈ xs, x.length = sz) → xs.flatten.drop (a * sz) = (xs.drop a).flatten
 | [], a, _ => by simp
 | x :: xs, 0, _ => by simp
 | x :: xs, a + 1, h => by
  have hx := h x (by simp)
  rw [List.drop_succ_cons, List.flatten_cons, Nat.succ_mul, List.drop_append, hx, List.drop_eq_nil_of_le (by omega), List.nil_append, show a * sz + sz - sz = a * sz from by omega, flat_dropN a fun y hy => h y (by simp [hy])]
end rules
end Go.Lx

/- Rules: results that are pointers, nil or to new memory. Conditions: none. -/
namespace Go.Lx
open Go Go.Vc Go.Md
section rules
variable {cx : Cx} {K : Xd → World → Prop} {e : Xd} {L : List Chunk}
theorem c_emp (k : At cx K e (L ++ [empC])) : At cx K e L := ⟨fun w hF hS => k.out w hF (hS.emp hF)⟩
end rules
section ops
variable {P : Program} {cx : Cx} {e : Xd} {L : List Chunk} {d : Option Nat} {ty : TypeId} {pos : String} {af : Array Edge} {g : Option (Nat × Bool)}
end ops
section rules
variable {P : Program} {cx : Cx} {ops : Array Oper} {F : Xd → List Chunk → Prop} {rest : List Oper} {ss : List Kd} {e : Xd} {L : List Chunk} {d : Nat}
end rules
end Go.Lx

/- Rules: rows out of strings (their block bears a mark behind its cells), appended to; append of something to a row that may be full. Conditions: none. -/
namespace Go.Lx
open Go Go.Vc Go.Md
section plain
variable {P : Program}
end plain
def markR (w : World) (E sz : Nat) (v : Value) (n : Nat) (xs : List (List Value)) : Prop :=
 ∃ g cap cur k, v = .slice (some ⟨g, 0, none⟩) n cap ∧ w.heap[g]? = some (.cells cur E k) ∧ cur.size ≤ k.1 ∧ n ≤ cap ∧ cap ≤ maxLen ∧ cur.size = cap * sz ∧ cur.toList.take (n * sz) = xs.flatten
def mkC (w : World) (E sz : Nat) (v : Value) (n : Nat) (xs : List (List Value)) : Prop :=
 (apC w E sz v n xs ∨ markR w E sz v n xs) ∧ xs.length = n ∧ ∀ x ∈ xs, x.length = sz
theorem markR.frs {w : World} {E sz : Nat} {v : Value} {n : Nat} {xs : List (List Value)} (h : markR w E sz v n xs) (hn : xs.length = n) (hl : ∀ x ∈ xs, x.length = sz) : FrS (fun b => w.heap[b]?) sz v xs := by
 obtain ⟨g, cap, cur, k, rfl, hh, _, hnc, hm, hcs, ht⟩ := h
 subst hn
 refine ⟨some ⟨g, 0, none⟩, cap, rfl, hnc, by simpa [maxLen] using hm, .inr ⟨g, 0, cur, E, k, rfl, hh, fun i x hx => ⟨hl x (List.mem_of_getElem? hx), fun j v hv => ?_⟩⟩⟩
 have hi : i < xs.length := by
  rcases Nat.lt_or_ge i xs.length with h | h
  ·exact h
  ·rw [List.getElem?_eq_none h] at hx; cases hx
 have hj : j < sz := by
  have := hl x (List.mem_of_getElem? hx)
  rcases Nat.lt_or_ge j x.length with h | h
  ·omega
  ·rw [List.getElem?_eq_none h] at hv; cases hv
 have hr := row_get xs i x (List.all_eq_true.2 fun x hx => by simpa using hl x hx) hx j v hv
 rw [← ht, List.getElem?_take] at hr
 split at hr
 ·rw [Nat.zero_add, ← Array.getElem?_toList]; exact hr
 ·cases hr
theorem mkC.frs {w : World} {E sz : Nat} {v : Value} {n : Nat} {xs : List (List Value)} (h : mkC w E sz v n xs) : FrS (fun b => w.heap[b]?) sz v xs :=
 h.1.elim (fun h1 => h1.frs) (fun h1 => h1.frs h.2.1 h.2.2)
theorem mkC.lt {w : World} {E sz : Nat} {v : Value} {n : Nat} {xs : List (List Value)} (h : mkC w E sz v n xs) (b : Nat) (hb : v.ownBlock = some b) : b < w.heap.size := by
 rcases h.1 with h1 | ⟨g, cap, cur, k, rfl, h1, _⟩
 ·exact h1.lt b hb
 ·simp [Value.ownBlock] at hb
  subst hb
  exact (Array.getElem?_eq_some_iff.1 h1).1
theorem mkC.slice {w : World} {E sz : Nat} {v : Value} {n : Nat} {xs : List (List Value)} (h : mkC w E sz v n xs) : ∃ p : Option Addr × Nat, v = .slice p.1 n p.2 := by
 rcases h.1 with h1 | ⟨g, cap, cur, k, rfl, _⟩
 ·exact h1.slice
 ·exact ⟨(some ⟨g, 0, none⟩, cap), rfl⟩
section rules
variable {P : Program} {n : Nat} {cx : Cx} {e : Xd} {L : List Chunk} {d : Nat} {ty : TypeId} {pos : String} {af : Array Edge} {g : Option (Nat × Bool)}
end rules
theorem frsMono {h h' : Jx} {sz n : Nat} {v : Value} (f : FrS h sz v ((List.range n).map (Wu h v sz))) (k : ∀ b o, h b = some o → h' b = some o) : FrS h' sz v ((List.range n).map (Wu h' v sz)) := by
 have := f.mono k
 have e : (List.range n).map (Wu h v sz) = (List.range n).map (Wu h' v sz) := by
  apply List.map_congr_left
  intro i hi
  unfold Wu
  rw [elH_mono f (by rw [List.length_map, List.length_range]; have := List.mem_range.1 hi; omega) k i]
 rwa [e] at this
theorem elMonoE {α : Type} {h h' : Jx} {sz i : Nat} {v : Value} {xs : List α} {y : α} (f : FrS h sz v ((List.range xs.length).map (Wu h v sz))) (k : ∀ b o, h b = some o → h' b = some o) (hy : xs[i]? = some y) : Qb h v sz i = Qb h' v sz i := by
 have hi : i < xs.length := (List.getElem?_eq_some_iff.1 hy).1
 exact elH_mono f (by rw [List.length_map, List.length_range]; omega) k i
end Go.Lx

/- Rules: maps of one's own: made, read, written, ranged over in whatever order. Conditions: those that each rule names. -/
namespace Go.Lx
open Go Go.Vc Go.Md
open Go.MapKept (IsKey Stamped)
structure KeyF {κ : Type} (d : TypeDesc) (fk : κ → Value) : Prop where
 isKey : ∀ k, IsKey d (fk k)
 inj : ∀ a b, fk a = fk b → a = b
def Ents {κ ν : Type} (fk : κ → Value) (fv : ν → Value) (es : List MapEntry) (xs : List (κ × ν)) : Prop := es.map (fun e => (e.key, e.val)) = xs.map (fun p => (fk p.1, fv p.2))
theorem Ents.len {κ ν : Type} {fk : κ → Value} {fv : ν → Value} {es : List MapEntry} {xs : List (κ × ν)} (h : Ents fk fv es xs) : es.length = xs.length := by
 have := congrArg List.length h; simpa using this
theorem Ents.keys {κ ν : Type} {fk : κ → Value} {fv : ν → Value} {es : List MapEntry} {xs : List (κ × ν)} (h : Ents fk fv es xs) : es.map (·.key) = xs.map (fun p => fk p.1) := by
 have := congrArg (List.map Prod.fst) h; simpa [Function.comp_def] using this
theorem Ents.isKey {κ ν : Type} {d : TypeDesc} {fk : κ → Value} {fv : ν → Value} (K : KeyF d fk) {es : List MapEntry} {xs : List (κ × ν)} (h : Ents fk fv es xs) : ∀ x ∈ es, IsKey d x.key := by
 intro x hx
 have : x.key ∈ es.map (·.key) := List.mem_map.2 ⟨x, hx, rfl⟩
 rw [h.keys] at this
 obtain ⟨p, _, hp⟩ := List.mem_map.1 this
 rw [← hp]; exact K.isKey _
theorem Ents.at {κ ν : Type} {fk : κ → Value} {fv : ν → Value} {es : List MapEntry} {xs : List (κ × ν)} (h : Ents fk fv es xs) {j : Nat} {e : MapEntry} (he : es[j]? = some e) : ∃ p, xs[j]? = some p ∧ e.key = fk p.1 ∧ e.val = fv p.2 := by
 have := congrArg (fun l => l[j]?) h
 simp only [List.getElem?_map, he, Option.map_some] at this
 cases hx : xs[j]? with
 | none => rw [hx] at this; simp at this
 | some p => rw [hx] at this; simp at this; exact ⟨p, rfl, this.1, this.2⟩
section find
variable {κ ν : Type} [DecidableEq κ] {d : TypeDesc} {fk : κ → Value} {fv : ν → Value}
end find
section ops
variable {P : Program} {cx : Cx} {e : Xd} {L : List Chunk} {ty : TypeId} {pos : String} {af : Array Edge} {g : Option (Nat × Bool)}
variable {κ ν : Type} [DecidableEq κ] {fk : κ → Value} {fv : ν → Value}
end ops
section rules
variable {P : Program} {n : Nat} {cx : Cx} {Q : Ui} {e : Xd} {L : List Chunk} {ops : Array Oper} {rest_ : List Oper} {ty : TypeId} {pos : String} {af : Array Edge} {g : Option (Nat × Bool)} {κ ν : Type} {fk : κ → Value} {fv : ν → Value}
end rules
end Go.Lx

/- Rules: maps that are only read; the kit's contract of slices.Compact at []int. Conditions: none. -/
namespace Go.Lx
open Go Go.Vc Go.Md
open Go.MapKept (IsKey Stamped)
structure FrM {κ ν : Type} (h : Jx) (fk : κ → Value) (fv : ν → Value) (v : Value) (xs : List (κ × ν)) : Prop where
 out : ∃ b es clock, v = .map (some b) ∧ h b = some (.map es clock) ∧ Stamped es clock ∧ Ents fk fv es.toList xs
section
variable {κ ν : Type} {fk : κ → Value} {fv : ν → Value} {h h' : Jx} {v : Value} {xs : List (κ × ν)}
theorem FrM.mono (f : FrM h fk fv v xs) (k : ∀ b o, h b = some o → h' b = some o) : FrM h' fk fv v xs := by
 obtain ⟨b, es, c, h1, h2, h3, h4⟩ := f.out
 exact ⟨b, es, c, h1, k _ _ h2, h3, h4⟩
theorem FrM.cells (f : FrM h fk fv v xs) : v.cells.toList = [v] := by
 obtain ⟨b, es, c, rfl, _⟩ := f.out; rfl
theorem FrM.one (f : FrM h fk fv v xs) : v.oneCell' = true := by
 obtain ⟨b, es, c, rfl, _⟩ := f.out; rfl
end
section
variable {P : Program} {cx : Cx} {e : Xd} {L : List Chunk} {ty : TypeId} {pos : String} {af : Array Edge} {g : Option (Nat × Bool)}
variable {κ ν : Type} {fk : κ → Value} {fv : ν → Value}
end
end Go.Lx
namespace Go.Vc
open Go Go.Md Go.Shelf Go.Sort Go.Proofs
end Go.Vc

/- The kit's contract of slices.SortFunc at rows of one's own of structs: the row is sorted in place. Conditions: the row is shorter than 2^62; the comparing function is a total order. -/
namespace Go.Vc
open Go Go.Md Go.Shelf Go.Sort Go.Proofs
end Go.Vc

/- Rules: slices of slices in boxes; parts of them, also such as begin further on; literals and appends of slices that a drawn region makes. Conditions: those that each rule names. -/
namespace Go.Lx
open Go Go.Vc Go.Md
def cutL {β : Type} (xs : List β) (l q : Int) : List β := (xs.drop l.toNat).take (q.toNat - l.toNat)
section allc
variable {α : Type} {G : Jx → (Nat → Value) → α → Prop} {h : Jx} {sz : Nat} {css : List (List Value)} {xs ys : List α} {l q : Int}
theorem AllC.cutG (p : AllC G h sz css xs) (g : Zo xs l q = some ys) : Zo css l q = some (cutL css l q) := by
 obtain ⟨g0, g1, g2, _⟩ := Zr g
 exact gCut_ok ⟨g0, g1, by rw [p.len]; exact g2⟩
theorem AllC.cut (p : AllC G h sz css xs) (g : Zo xs l q = some ys) : AllC G h sz (cutL css l q) ys := by
 obtain ⟨g0, g1, g2, rfl⟩ := Zr g
 refine ⟨by simp [cutL, p.len], fun i cs x h1 h2 => ?_⟩
 unfold cutL at h1
 rw [List.getElem?_take] at h1 h2
 split at h1
 ·rename_i hi
  rw [if_pos hi] at h2
  rw [List.getElem?_drop] at h1 h2
  exact p.el _ cs x h1 h2
 ·cases h1
theorem AllC.append {cs2 : List (List Value)} (p : AllC G h sz css xs) (q : AllC G h sz cs2 ys) : AllC G h sz (css ++ cs2) (xs ++ ys) := by
 refine ⟨by simp [p.len, q.len], fun i c x hc hx => ?_⟩
 have hl := p.len
 by_cases hi : i < css.length
 ·rw [List.getElem?_append_left hi] at hc
  rw [List.getElem?_append_left (by omega)] at hx
  exact p.el i c x hc hx
 ·rw [List.getElem?_append_right (by omega)] at hc
  rw [List.getElem?_append_right (by omega), ← hl] at hx
  exact q.el _ c x hc hx
end allc
section rules
variable {P : Program} {n : Nat} {cx : Cx} {e : Xd} {L : List Chunk} {d : Nat} {ty : TypeId} {pos : String} {af : Array Edge} {g : Option (Nat × Bool)}
theorem imp_rowDx {α : Type} {G : Jx → (Nat → Value) → α → Prop} {hp : Jx} {E sz n : Nat} {p : Option Addr × Nat} {css : List (List Value)} {xs : List α} (hn : n = css.length) (f : AllC G hp sz css xs) :
  Imp (Xx (X9 U0 hp) (Xa E sz (.slice p.1 n p.2) n (css.map idC))) (rowD E sz G (.slice p.1 xs.length p.2) xs.length xs) := by
 subst hn
 rw [← f.len]
 exact imp_rowD rfl f
def offR (w : World) (E sz : Nat) (v : Value) (n : Nat) (xs : List (List Value)) : Prop :=
 ∃ g off cap cur, v = .slice (some ⟨g, off, none⟩) n cap ∧ w.heap[g]? = some (.cells cur E (0, 0)) ∧ n ≤ cap ∧ cap ≤ maxLen ∧ off + cap * sz ≤ cur.size ∧ (cur.toList.drop off).take (n * sz) = xs.flatten
def Z1 (E sz : Nat) (v : Value) (n : Nat) (xs : List (List Value)) : Chunk where
 P S w := ((w.ownsRow 0 E sz v n xs.flatten ∨ offR w E sz v n xs) ∧ xs.length = n ∧ ∀ x ∈ xs, x.length = sz) ∧ ∀ b, v.ownBlock = some b → S b
 loc S w w' h := by
  rintro ⟨⟨h2, h3⟩, h4⟩
  refine ⟨⟨?_, h3⟩, h4⟩
  rcases h2 with h2 | ⟨g, off, cap, cur, rfl, hh, hr⟩
  ·exact .inl ((Xa E sz v n xs).loc S w w' h ⟨⟨h2, h3⟩, h4⟩).1.1
  ·exact .inr ⟨g, off, cap, cur, rfl, (h g (h4 g rfl)).trans hh, hr⟩
theorem imp_rowO (E sz : Nat) (v : Value) (n : Nat) (xs : List (List Value)) : Imp (Xa E sz v n xs) (Z1 E sz v n xs) := ⟨fun _ _ ⟨⟨h1, h2⟩, h3⟩ => ⟨⟨.inl h1, h2⟩, h3⟩⟩
theorem offR.frs {w : World} {E sz : Nat} {v : Value} {n : Nat} {xs : List (List Value)} (h : offR w E sz v n xs) (hn : xs.length = n) (hl : ∀ x ∈ xs, x.length = sz) : FrS (fun b => w.heap[b]?) sz v xs := by
 obtain ⟨g, off, cap, cur, rfl, hh, hnc, hm, hcs, ht⟩ := h
 subst hn
 refine ⟨some ⟨g, off, none⟩, cap, rfl, hnc, by simpa [maxLen] using hm, .inr ⟨g, off, cur, E, (0, 0), rfl, hh, fun i x hx => ⟨hl x (List.mem_of_getElem? hx), fun j v hv => ?_⟩⟩⟩
 have hr := row_get xs i x (List.all_eq_true.2 fun x hx => by simpa using hl x hx) hx j v hv
 rw [← ht, List.getElem?_take] at hr
 split at hr
 ·rw [List.getElem?_drop, Array.getElem?_toList] at hr
  rw [← hr, Nat.add_assoc]
 ·cases hr
theorem rowO_frs0 {w : World} {E sz : Nat} {v : Value} {n : Nat} {xs : List (List Value)} {S : Nat → Prop} (h : (Z1 E sz v n xs).P S w) : FrS (fun b => w.heap[b]?) sz v xs := by
 obtain ⟨⟨h1, h2, h3⟩, _⟩ := h
 exact h1.elim (fun h => row_FrS h h2 h3) (fun h => h.frs h2 h3)
theorem offOf {w : World} {i E sz n c : Nat} {a : Option Addr} {xs : List (List Value)} (hS : Sat cx w L) (hL : L[i]? = some (Z1 E sz (.slice a n c) n xs)) : Row w a sz xs := by
 obtain ⟨S, h, _⟩ := hS.at hL
 obtain ⟨a', c', hv, _, _, r⟩ := (rowO_frs0 h).out
 simp only [Value.slice.injEq] at hv
 obtain ⟨rfl, _, rfl⟩ := hv
 exact r.row fun _ _ h => h
theorem own0 {w : World} {base E sz n : Nat} {v : Value} {xs : List Value} (h : w.ownsRow base E sz v n xs) : w.ownsRow 0 E sz v n xs :=
 ⟨h.1, h.2.imp id fun ⟨g, cap, cur, h1, _, h3⟩ => ⟨g, cap, cur, h1, Nat.zero_le _, h3⟩⟩
theorem turns_appendO {i : Nat} {S X : Operand} {t E : TypeId} {I : TypeInfo} {z : Value} {sz by_ : Nat} {p : Option Addr × Nat} {m : Nat} {xs : List (List Value)} {ad : Addr} {q c : Nat} {news : List (List Value)} {rds : List Nat}
  (ht : P.underlying t = some (.slice E)) (hi : P.info? E = some I) (hz : I.zero = some z) (hsize : I.size = sz) (hby : I.bytes = by_) (hzs : z.cells.size = sz) (hsz : Nat.blt 0 sz = true)
  (hL : L[i]? = some (Z1 E sz (.slice p.1 m p.2) m xs)) (hs : ev e S = .slice p.1 m p.2) (hx : ev e X = .slice (some ad) q c) (hq : news.length = q) (hnl : ∀ x ∈ news, x.length = sz)
  (hnews : ∀ w L', Fr cx w → Sat cx w L' → (∀ j, j ∈ rds → L'[j]? = L[j]?) → Row w (some ad) sz news) (h1 : ∀ x ∈ news, ∀ u ∈ x, u.oneCell' = true)
  (h63 : m + q ≤ maxLen) (hbytes : (m + q) * by_ ≤ 140737488355328) :
  Turns P cx e ⟨some d, .call ⟨.builtin .append, #[S, X], #[t, t]⟩, ty, pos, af, g⟩ L i rds (fun p' : Option Addr × Nat => .slice p'.1 (m + q) p'.2) (fun p' => Z1 E sz (.slice p'.1 (m + q) p'.2) (m + q) (xs ++ news)) := fun w L' hF hS hl hi' => by
 subst hsize
 have hL' := (hi' i (.inr rfl)).trans hL
 obtain ⟨S0, ⟨⟨ho, hlen, hlx⟩, hob⟩, hS0⟩ := hS.at hL'
 have hsz' : 0 < I.size := by simpa using hsz
 have hfl : news.flatten.length = q * I.size := by rw [Yk news hnl, hq]
 have hle : (xs ++ news).length = m + q := by simp [hlen, hq]
 have hcell : ∀ j u, news.flatten[j]? = some u → w.cell? (ad.add j) = some u := by
  intro j u hj
  obtain ⟨i', k', x, g1, g2, g3⟩ := Uj news hnl j u hj
  rcases hnews w L' hF hS (fun j hj => hi' j (.inl hj)) with h | ⟨b, off, ha, h⟩
  ·subst h; simp at g1
  ·cases ha
   have := (h i' x g1).2 k' u g2
   rw [Addr.add_lit, g3, ← Nat.add_assoc]
   exact this
 have hone : ∀ u ∈ news.flatten, u.oneCell' = true := fun u hu => by
  obtain ⟨x, hx, hux⟩ := List.mem_flatten.1 hu
  exact h1 x hx u hux
 have hall : ∀ x ∈ xs ++ news, x.length = I.size := fun x hx => by
  rcases List.mem_append.1 hx with h | h
  ·exact hlx x h
  ·exact hnl x h
 have hflat : (xs ++ news).flatten = xs.flatten ++ news.flatten := List.flatten_append
 rcases ho with ho | ⟨g0, off, cap, cur, hv, hh, hnc, hcm, hfit, htk⟩
 ·obtain ⟨v', w', hr, h2, h3, h5⟩ := run_append_at (P := P) (ty := ty) (pos := pos) (af := af) (g := g) (d := some d) ht hi hz rfl hby hzs hsz' hs ho hx hfl hcell hone h63 hbytes
  obtain ⟨p', rfl⟩ := U3 h2
  rw [← hflat] at h2
  obtain ⟨hF', hS'⟩ := hS.turnOf hF hL' (C := Z1 E I.size (.slice p'.1 (m + q) p'.2) (m + q) (xs ++ news)) fun S1 hp => by
   have t1 := Uw (xs' := xs ++ news) hp.2 h2 h3 h5 hle hall
   obtain ⟨S2, k1, k2⟩ := t1.out
   exact ⟨t1.os, t1.tape, t1.output, t1.size, t1.block, S2, (imp_rowO _ _ _ _ _).out _ _ k1, k2⟩
  unfold RunsTo
  rw [hr]
  exact ⟨p', rfl, hF', hS'⟩
 ·simp only [Value.slice.injEq] at hv
  obtain ⟨e1, _, e2⟩ := hv
  have hs' : ev e S = .slice (some ⟨g0, off, none⟩) m cap := by rw [hs, e1, e2]
  have hexec : ∀ v w', (Builtin.append_ #[t, t] ty #[.slice (some ⟨g0, off, none⟩) m cap, .slice (some ad) q c]).run P w = .ok v w' → (execOp (ev e) ⟨some d, .call ⟨.builtin .append, #[S, X], #[t, t]⟩, ty, pos, af, g⟩).run P w = .ok (.value v) w' := by
   intro v w' hr
   simp only [execOp, resolve, invoke, builtin, Sem.run_bind, Sem.run_pure, Result.andThen_ok, List.map_toArray, List.map_cons, List.map_nil, hs', hx, hr]
  have hcur : cur.toList.length = cur.size := Array.length_toList
  by_cases hroom : m + q ≤ cap
  ·have hfit' : off + m * I.size + news.flatten.length ≤ cur.size := by
    have : (m + q) * I.size ≤ cap * I.size := Nat.mul_le_mul_right _ hroom
    rw [Nat.add_mul] at this; omega
   have hfc := run_firstCells_some (P := P) w I.size q ad q c news.flatten hfl hcell
   have hst := run_storeCells_at (P := P) g0 (off + m * I.size) E news.flatten 0 cur w hh (by simpa using hfit') hone
   simp only [Nat.add_zero] at hst
   have hr2 : (Builtin.append_ #[t, t] ty #[.slice (some ⟨g0, off, none⟩) m cap, .slice (some ad) q c]).run P w = .ok (.slice (some ⟨g0, off, none⟩) (m + q) cap) (w.setRow g0 (cur.toList.take (off + m * I.size) ++ news.flatten ++ cur.toList.drop (off + m * I.size + news.flatten.length)).toArray) := by
    simp [Builtin.append_, run_underlying ht, sizeOf, typeInfo, hi, Builtin.lenOf, hroom, hfc, Addr.add_lit, hst]
   have hr := hexec _ _ hr2
   have hlen2 : (cur.toList.take (off + m * I.size) ++ news.flatten ++ cur.toList.drop (off + m * I.size + news.flatten.length)).length = cur.size := by
    simp only [List.length_append, List.length_take, List.length_drop, hcur]; omega
   obtain ⟨hF', hS'⟩ := hS.turnOf hF hL' (C := Z1 E I.size (.slice (some ⟨g0, off, none⟩) (m + q) cap) (m + q) (xs ++ news)) (w' := w.setRow g0 (cur.toList.take (off + m * I.size) ++ news.flatten ++ cur.toList.drop (off + m * I.size + news.flatten.length)).toArray) fun S1 hp => by
    have hg1 : S1 g0 := hp.2 g0 (by rw [e1]; rfl)
    refine ⟨rfl, rfl, rfl, by simp [World.setRow], fun b' hb' hn => ?_, (fun x => x = g0), ⟨⟨.inr ⟨g0, off, cap, _, rfl, setRow_heap w g0 cur _ E _ hh, hroom, hcm, by rw [List.size_toArray, hlen2]; exact hfit, ?_⟩, hle, hall⟩, fun b' hb' => by cases hb'; rfl⟩, fun b' hb' => ⟨?_, .inl (by rw [hb']; exact hg1)⟩⟩
    ·exact setRow_other w g0 b' _ fun h => hn (by rw [h]; exact hg1)
    ·rw [hflat]
     have hd : (cur.toList.take (off + m * I.size) ++ news.flatten ++ cur.toList.drop (off + m * I.size + news.flatten.length)).drop off = ((cur.toList.drop off).take (m * I.size) ++ news.flatten) ++ cur.toList.drop (off + m * I.size + news.flatten.length) := by
      rw [List.append_assoc, List.drop_append_of_le_length (by rw [List.length_take, hcur]; omega), List.drop_take, Nat.add_sub_cancel_left, List.append_assoc]
     have hl2 : ((cur.toList.drop off).take (m * I.size) ++ news.flatten).length = (m + q) * I.size := by
      rw [List.length_append, List.length_take, List.length_drop, hcur, Nat.add_mul, Nat.min_eq_left (by omega)]; omega
     show ((cur.toList.take (off + m * I.size) ++ news.flatten ++ cur.toList.drop (off + m * I.size + news.flatten.length)).toArray.toList.drop off).take _ = _
     rw [List.toList_toArray, hd, ← hl2, List.take_left, htk]
    ·rw [hb', setRow_size]; exact (Array.getElem?_eq_some_iff.1 hh).1
   unfold RunsTo
   rw [hr]
   exact ⟨(some ⟨g0, off, none⟩, cap), rfl, hF', hS'⟩
  ·have hgr := run_append_arg_grows (P := P) w t ty E I z I.size by_ ht hi hz rfl hby hzs hsz' ⟨g0, off, none⟩ m cap xs.flatten (by rw [Yk xs hlx, hlen]) (fun j u hj => ?_) ad q c news.flatten hfl hcell (by omega) h63 hbytes
   ·obtain ⟨v', w', hr, h2, h3⟩ := hgr
    have hr := hexec _ _ hr
    obtain ⟨p', rfl⟩ := U3 (own0 h2)
    rw [← hflat] at h2
    obtain ⟨hF', hS'⟩ := hS.turnOf hF hL' (C := Z1 E I.size (.slice p'.1 (m + q) p'.2) (m + q) (xs ++ news)) fun S1 hp => by
     refine ⟨h3.os, h3.tape, h3.output, h3.size, fun b' hb' _ => h3.block b' hb' (by simp), fun b' => (Value.slice p'.1 (m + q) p'.2).ownBlock = some b', ⟨⟨.inl (own0 h2), hle, hall⟩, fun _ h => h⟩, fun b' hb' => ⟨(h2.lt b' hb').2, .inr (h2.lt b' hb').1⟩⟩
    unfold RunsTo
    rw [hr]
    exact ⟨p', rfl, hF', hS'⟩
   ·obtain ⟨i', k', x, g1, g2, g3⟩ := Uj xs hlx j u hj
    have hr := (offR.frs ⟨g0, off, cap, cur, rfl, hh, hnc, hcm, hfit, htk⟩ hlen hlx).out
    obtain ⟨a', c', hv', _, _, r⟩ := hr
    simp only [Value.slice.injEq] at hv'
    obtain ⟨rfl, _, rfl⟩ := hv'
    rcases r.row (w := w) (fun _ _ h => h) with h | ⟨b', off', ha, h⟩
    ·subst h; simp at g1
    ·cases ha
     have := (h i' x g1).2 k' u g2
     rw [Addr.add_lit, g3, ← Nat.add_assoc]
     exact this
end rules
def _root_.Go.Vc.Kd.nsv (q i m : Nat) (cs : Value → List Value) (T : TypeId) : Kd := .g [q] [] [i] (fun _ _ v => ∃ b, v = .slice (some ⟨b, 0, none⟩) m m) (fun vs _ v => [boxOf v (cs (vs.headD undef)) T])
noncomputable def os0 : Os := by constructor <;> exact default
theorem lit_inj {b b' : Nat} {u u' : Value} {T : TypeId} (h : Jv b [u] T = Jv b' [u'] T) : u = u' := by
 have h1 : (Jv b [u] T).P (fun x => x = b) { heap := (Array.replicate b (.cells #[] 0 (0, 0))).push (.cells #[u] T (0, 0)), tape := fun _ _ => 0, drawn := 0, os := os0, output := #[] } := ⟨fun _ => Iff.rfl, by show ((Array.replicate b (Obj.cells #[] 0 (0, 0))).push (Obj.cells #[u] T (0, 0)))[b]? = _; rw [Array.getElem?_push]; simp⟩
 rw [h] at h1
 obtain ⟨h2, h3⟩ := h1
 have e : b' = b := (h2 b').2 rfl
 subst e
 have h4 : ((Array.replicate b' (Obj.cells #[] 0 (0, 0))).push (Obj.cells #[u] T (0, 0)))[b']? = some (.cells [u'].toArray T (0, 0)) := h3
 rw [Array.getElem?_push] at h4
 simpa using h4
open Classical in
noncomputable def litOf (T : TypeId) (c : Option Chunk) : Value := if h : ∃ p : Nat × Value, c = some (Jv p.1 [p.2] T) then h.choose.2 else undef
theorem litOf_eq {b : Nat} {u : Value} {T : TypeId} : litOf T (some (Jv b [u] T)) = u := by
 have h : ∃ p : Nat × Value, some (Jv b [u] T) = some (Jv p.1 [p.2] T) := ⟨(b, u), rfl⟩
 unfold litOf
 rw [dif_pos h]
 exact (lit_inj (Option.some.inj h.choose_spec)).symm
noncomputable def _root_.Go.Vc.Kd.tv (T i : Nat) (rds : List Nat) {σ : Type} (G : Value → σ → Value) (Cv : Value → Value → Chunk) : Kd := .g [] rds [i] (fun _ ls v => ∃ x, v = G (litOf T (ls.headD none)) x) (fun _ ls v => [Cv (litOf T (ls.headD none)) v])
section rules
variable {P : Program} {cx : Cx} {ops : Array Oper} {F : Xd → List Chunk → Prop} {rest : List Oper} {ss : List Kd} {e : Xd} {L : List Chunk} {d : Nat}
theorem d_newSV {o : Oper} {i q m : Nat} {T : TypeId} {x : Value} {cs : Value → List Value} {cs0 : List Value} (hw : Xz ops o e = true) (hd : o.dst = some d) (hx : e q = x) (hcs : cs x = cs0)
  (hr : ∀ w, (execOp (ev e) o).run P w = .ok (.value (.slice (some ⟨w.heap.size, 0, none⟩) m m)) (w.alloc (.cells cs0.toArray T))) (hL : L[i]? = some empC)
  (k : ∀ b, Sq P cx ops F rest ss (upd e d (.slice (some ⟨b, 0, none⟩) m m)) (L.set i (Jv b cs0 T))) : Sq P cx ops F (o :: rest) (.nsv q i m cs T :: ss) e L := by
 have hh : cs (([q].map e).headD undef) = cs0 := by show cs (e q) = cs0; rw [hx, hcs]
 refine .take hw ⟨.slice (some ⟨0, 0, none⟩) m m, 0, rfl⟩ ⟨fun w L' hF hS _ hi => ?_⟩ fun v' hv' => ?_
 ·unfold RunsTo
  rw [hr]
  refine ⟨⟨_, rfl⟩, hF.grow (Up w _), ?_⟩
  show Sat cx _ (L'.set i (boxOf _ (cs (([q].map e).headD undef)) T))
  rw [hh]
  refine hS.set hF ((hi i (.inr (by simp [Kd.nsv, Kd.wrs]))).trans hL) (by simp) fun S _ hSo => ⟨fun x => x = w.heap.size, ⟨fun _ => Iff.rfl, heap_alloc_new w _⟩, fun b hb => ?_, fun b hb _ => (by first | exact heap_alloc_old w _ b hb | exact heap_alloc_old w _ hb)⟩
  subst hb
  exact ⟨by simp, .inr (Nat.le_refl _)⟩
 ·obtain ⟨b, rfl⟩ : ∃ b, v' = .slice (some ⟨b, 0, none⟩) m m := hv'
  rw [hd]
  show Sq P cx ops F rest ss _ (L.set i (boxOf _ (cs (([q].map e).headD undef)) T))
  rw [hh]
  exact k b
theorem d_turnV {σ : Type} {o : Oper} {d i k b T : Nat} {rds : List Nat} {u : Value} {G : Value → σ → Value} {C : σ → Chunk} {Cv : Value → Value → Chunk} (x0 : σ) (hk : L[k]? = some (Jv b [u] T)) (h : Turns P cx e o L i (k :: rds) (G u) C) (hC : ∀ x, Cv u (G u x) = C x) (hw : Xz ops o e = true) (hd : o.dst = some d)
  (k' : ∀ x, Sq P cx ops F rest ss (upd e d (G u x)) (L.set i (C x))) : Sq P cx ops F (o :: rest) (.tv T i (k :: rds) G Cv :: ss) e L := by
 have hu : litOf T (((k :: rds).map (Go.Vc.look L)).headD none) = u := by
  show litOf T L[k]? = u
  rw [hk, litOf_eq]
 refine .take hw ⟨G u x0, x0, by rw [hu]⟩ ⟨fun w L' hF hS hl hi => ?_⟩ fun v' hv' => ?_
 ·refine (h w L' hF hS hl fun j hj => hi j (by simpa [Kd.tv, Kd.rds, Kd.wrs] using hj)).mono fun v w' ⟨x, hv, hF', hS'⟩ => ?_
  subst hv
  refine ⟨⟨x, by rw [hu]⟩, hF', ?_⟩
  show Sat cx w' (L'.set i (Cv (litOf T (((k :: rds).map (Go.Vc.look L)).headD none)) (G u x)))
  rw [hu, hC]; exact hS'
 ·obtain ⟨x, rfl⟩ : ∃ x, v' = G u x := by
   obtain ⟨x, hx⟩ : ∃ x, v' = G (litOf T (((k :: rds).map (Go.Vc.look L)).headD none)) x := hv'
   exact ⟨x, by rw [hx, hu]⟩
  show Sq P cx ops F rest ss (putD e o.dst (G u x)) (L.set i (Cv (litOf T (((k :: rds).map (Go.Vc.look L)).headD none)) (G u x)))
  rw [hu, hC, hd]
  exact k' x
end rules
end Go.Lx

/- Rules: stores of slices that a region makes into elements of nested rows. Conditions: none. -/
namespace Go.Lx
open Go Go.Vc Go.Md
def setR (css : List (List Value)) (i : Int) (j : Nat) (v : Value) : List (List Value) := css.set i.toNat ((css.getD i.toNat []).set j v)
def updF (c : Nat → Value) (j : Nat) (v : Value) (q : Nat) : Value := cond (Nat.beq q j) v (c q)
theorem setR_len (css : List (List Value)) (i : Int) (j : Nat) (v : Value) : (setR css i j v).length = css.length := by simp [setR]
theorem lenR {α : Type} {css : List (List Value)} {xs ys : List α} {i : Int} {j : Nat} {v : Value} {x : α} (h : css.length = xs.length) (g : gSet xs i x = some ys) : (setR css i j v).length = ys.length := by
 obtain ⟨_, _, rfl⟩ := Ut g
 rw [setR_len, h, List.length_set]
theorem ixR {α : Type} {css : List (List Value)} {xs : List α} {i : Int} {x : α} (h : css.length = xs.length) (g : Xt xs i = some x) : Xt css i = some (css.getD i.toNat []) := by
 obtain ⟨h0, h1, _⟩ := Yp g
 unfold Xt
 rw [if_pos h0, List.getD_eq_getElem?_getD, List.getElem?_eq_getElem (by rw [h]; exact h1)]; rfl
theorem AllC.setR {α : Type} {G : Jx → (Nat → Value) → α → Prop} {h : Jx} {sz : Nat} {css : List (List Value)} {xs ys : List α} (p : AllC G h sz css xs) {i : Int} {x x' : α} {j : Nat} {v : Value} (g : Xt xs i = some x) (g2 : gSet xs i x' = some ys) (hj : Nat.blt j sz = true)
  (hG : G h (updF (fun q => (css.getD i.toNat []).getD q undef) j v) x') : AllC G h sz (Go.Lx.setR css i j v) ys := by
 have hj' : j < sz := by simpa using hj
 obtain ⟨h0, h1, rfl⟩ := Ut g2
 have hget := p.get g
 have hl := (p.el _ _ _ hget (Yp g).2.2).1
 refine ⟨by rw [setR_len, p.len, List.length_set], fun k c y hc hy => ?_⟩
 unfold Go.Lx.setR at hc
 rw [List.getElem?_set] at hc hy
 by_cases hk : i.toNat = k
 ·subst hk
  rw [if_pos rfl, if_pos (by rw [p.len]; exact h1)] at hc
  rw [if_pos rfl, if_pos h1] at hy
  cases hc; cases hy
  refine ⟨by rw [List.length_set]; exact hl, ?_⟩
  have : (fun q => ((css.getD i.toNat []).set j v).getD q undef) = updF (fun q => (css.getD i.toNat []).getD q undef) j v := by
   funext q
   unfold updF
   simp only [List.getD_eq_getElem?_getD, List.getElem?_set]
   by_cases hq : j = q
   ·subst hq
    have : Nat.beq j j = true := by simp
    simp only [List.getD_eq_getElem?_getD] at hl
    rw [this, if_pos rfl, if_pos (by rw [hl]; exact hj')]; rfl
   ·have : Nat.beq q j = false := by
     cases hb : Nat.beq q j with
     | false => rfl
     | true => exact absurd (Nat.eq_of_beq_eq_true hb).symm hq
    rw [this, if_neg hq]; rfl
  rw [this]; exact hG
 ·rw [if_neg hk] at hc hy
  exact p.el k c y hc hy
theorem wr_set {y : List Value} {j : Nat} {v : Value} (h : j < y.length) : wr y j [v] = some (y.set j v) := by
 induction y generalizing j with
 | nil => simp at h
 | cons a y ih =>
  cases j with
  | zero => simp [wr, wrn]
  | succ j =>
   show (wr y j [v]).map (a :: ·) = _
   rw [ih (by simpa using h)]; rfl
end Go.Lx
namespace Go.Lx
open Go Go.Vc Go.Md
theorem flatten_setR (sz j : Nat) (x : Value) : ∀ (css : List (List Value)) (i : Nat), (∀ y ∈ css, y.length = sz) → i < css.length → j < sz → (css.set i ((css.getD i []).set j x)).flatten = css.flatten.set (i * sz + j) x
 | [], i, _, h, _ => by simp at h
 | y :: css, 0, hl, _, hj => by
  have hy := hl y (by simp)
  simp only [List.set_cons_zero, List.getD_cons_zero, List.flatten_cons, Nat.zero_mul, Nat.zero_add]
  rw [List.set_append_left _ _ (by rw [hy]; exact hj)]
 | y :: css, i + 1, hl, h, hj => by
  have hy := hl y (by simp)
  have ih := flatten_setR sz j x css i (fun z hz => hl z (List.mem_cons_of_mem _ hz)) (by simpa using h) hj
  simp only [List.set_cons_succ, List.getD_cons_succ, List.flatten_cons]
  rw [ih, List.set_append_right _ _ (by rw [hy, Nat.add_mul]; omega), hy]
  congr 2
  rw [Nat.add_mul]; omega
section rules
variable {P : Program} {n : Nat} {cx : Cx} {e : Xd} {L : List Chunk} {ops : Array Oper} {rest : List Oper} {F : Xd → List Chunk → Prop} {ss : List Kd} {ty : TypeId} {pos : String} {af : Array Edge} {g : Option (Nat × Bool)}
end rules
end Go.Lx
namespace Go.Lx
open Go Go.Vc Go.Md
section
variable {cx : Cx} {K : Xd → World → Prop} {e : Xd} {L : List Chunk}
end
end Go.Lx
namespace Go.Lx
open Go Go.Vc Go.Md
section
variable {P : Program} {n : Nat} {cx : Cx} {e : Xd} {L : List Chunk} {ops : Array Oper} {rest : List Oper} {F : Xd → List Chunk → Prop} {ss : List Kd} {ty : TypeId} {pos : String} {af : Array Edge} {g : Option (Nat × Bool)}
theorem d_readE {o : Oper} {d : Nat} {v : Value} {rds : List Nat} (hw : Xz ops o e = true) (hd : o.dst = some d) (hr : ∀ w L', Fr cx w → Sat cx w L' → (∀ i ∈ rds, L'[i]? = L[i]?) → (execOp (ev e) o).run P w = .ok (.value v) w)
  (k : Sq P cx ops F rest ss (upd e d v) L) : Sq P cx ops F (o :: rest) (.d rds v :: ss) e L := Wz hr hw hd k
theorem run_fieldG {α : Type} {f : α → List Value} {xs : List α} {x' : α} {i : Int} {d : Option Nat} {T fld k fo ft fsz bo : Nat} {a : Option Addr} {nm tg pk : String} {em : Bool} {X : Operand} {fs : Array Field} {sz' : Nat} {w : World} (hu : ∀ w, (underlying T).run P w = .ok (.struct fs) w)
  (hf : fs[fld]? = some ⟨nm, ft, fo, em, tg, pk, bo⟩) (hs : ∀ w, (sizeOf ft).run P w = .ok fsz w) (hsz : Nat.blt 0 fsz = true) (hp : ev e X = V4 a k) (hR : Row w a sz' (xs.map f)) (hg : Xt xs i = some x') :
  (execOp (ev e) ⟨d, .fieldAddr T X fld, ty, pos, af, g⟩).run P w = .ok (.value (V4 a (k + fo))) w :=
 r_fieldP hu hf hs hsz hp (hR.some (by rw [List.length_map]; exact (Yp hg).2.1)) w
end
end Go.Lx
namespace Go.Lx
open Go Go.Vc Go.Md
theorem Q4 (l : List (List Value)) : l.map idC = l := by
 have : (idC : List Value → List Value) = id := rfl
 rw [this, List.map_id]
section
variable {P : Program} {n : Nat} {cx : Cx} {e : Xd} {L : List Chunk} {ops : Array Oper} {rest : List Oper} {F : Xd → List Chunk → Prop} {ss : List Kd} {ty : TypeId} {pos : String} {af : Array Edge} {g : Option (Nat × Bool)}
end
end Go.Lx
namespace Go.Lx
open Go Go.Vc Go.Md
section
variable {P : Program} {n : Nat} {cx : Cx} {e : Xd} {L : List Chunk} {ty : TypeId} {pos : String} {af : Array Edge} {g : Option (Nat × Bool)}
theorem turns_storeV {α : Type} {q T j sz k c E m : Nat} {A X : Operand} {x : Value} {a : Option Addr} {css : List (List Value)} {xs : List α} {i : Int} {xe : α} (hm : m = css.length) (hml : css.length = xs.length) (hs : ∀ w, (sizeOf T).run P w = .ok 1 w)
  (hp : ev e A = V4 a k) (hk : k = i.toNat * sz + j) (hx : ev e X = x) (hc : x.cells.toList = [x]) (hone : [x].all Value.oneCell' = true) (hj : Nat.blt j sz = true)
  (hL : L[q]? = some (Xa E sz (.slice a m c) m (css.map idC))) (hg : Xt xs i = some xe) :
  Turns P cx e ⟨none, .store T A X, ty, pos, af, g⟩ L q [] (fun _ : Unit => undef) (fun _ => Xa E sz (.slice a m c) m ((setR css i j x).map idC)) := by
 subst hm
 intro w L' hF hS hl hi
 have hL' := (hi q (.inr rfl)).trans hL
 rw [Q4] at hL'
 rw [Q4]
 obtain ⟨_, h1, hget⟩ := Yp (ixR hml hg)
 obtain ⟨S0, ⟨⟨ho, hlen, hlx⟩, hob⟩, hlt⟩ := hS.at hL'
 have hyl := hlx _ (List.mem_of_getElem? hget)
 have hv' : wr (css.getD i.toNat []) j [x] = some ((css.getD i.toNat []).set j x) := wr_set (by rw [hyl]; simpa using hj)
 obtain ⟨w', hr, h2, h3⟩ := run_storeR (P := P) (ty := ty) (pos := pos) (af := af) (g := g) hs hp hk hx hc rfl rfl hone hget hv' ho hlen hlx
 obtain ⟨hF', hS'⟩ := hS.turnOf hF hL' (C := Xa E sz (.slice a css.length c) css.length (css.set i.toNat ((css.getD i.toNat []).set j x))) fun S1 hp => Uw hp.2 h2 h3 (.inl rfl) (by simp [hlen]) (by
  intro z' hz
  rcases List.mem_or_eq_of_mem_set hz with h | h
  ·exact hlx z' h
  ·subst h; rw [List.length_set]; exact hyl)
 unfold RunsTo
 rw [hr]
 exact ⟨(), rfl, hF', hS'⟩
end
end Go.Lx

/- Rules: slices.Delete's operations at a row of one's own that may be a part of a longer one. Conditions: none. -/
namespace Go.Lx
open Go Go.Vc Go.Md
theorem rowO_off {S : Nat → Prop} {w : World} {E sz n c : Nat} {a : Option Addr} {xs : List (List Value)} (h : (Z1 E sz (.slice a n c) n xs).P S w) (hc : 0 < c) :
  ∃ g off cur, a = some ⟨g, off, none⟩ ∧ S g ∧ w.heap[g]? = some (.cells cur E (0, 0)) ∧ n ≤ c ∧ c ≤ maxLen ∧ off + c * sz ≤ cur.size ∧ (cur.toList.drop off).take (n * sz) = xs.flatten := by
 obtain ⟨⟨h1, hlen, hlx⟩, hb⟩ := h
 rcases h1 with h1 | ⟨g, off, cap, cur, hv, hh, q1, q2, q3, q4⟩
 ·rcases h1.2 with ⟨hv, h0⟩ | ⟨g, cap, cur, hv, hbase, hh, q1, q2, q3, q4⟩
  ·simp only [Value.slice.injEq] at hv; omega
  ·simp only [Value.slice.injEq] at hv
   obtain ⟨rfl, -, rfl⟩ := hv
   exact ⟨g, 0, cur, rfl, hb g rfl, hh, q1, q2, by omega, by simpa using q4⟩
 ·simp only [Value.slice.injEq] at hv
  obtain ⟨rfl, -, rfl⟩ := hv
  exact ⟨g, off, cur, rfl, hb g rfl, hh, q1, q2, q3, q4⟩
section
variable {P : Program} {n : Nat} {cx : Cx} {e : Xd} {L : List Chunk} {d : Option Nat} {ty : TypeId} {pos : String} {af : Array Edge} {g : Option (Nat × Bool)}
theorem capOfO {w : World} {i E sz n c : Nat} {a : Option Addr} {xs : List (List Value)} (hS : Sat cx w L) (hL : L[i]? = some (Z1 E sz (.slice a n c) n xs)) : n ≤ c := by
 obtain ⟨S, ⟨⟨h1, hlen, hlx⟩, hb⟩, _⟩ := hS.at hL
 rcases h1 with h1 | ⟨g, off, cap, cur, hv, hh, q1, _⟩
 ·rcases h1.2 with ⟨hv, h0⟩ | ⟨g, cap, cur, hv, hbase, hh, q1, _⟩
  ·omega
  ·simp only [Value.slice.injEq] at hv; omega
 ·simp only [Value.slice.injEq] at hv; omega
theorem cutA_none {a : Option Addr} {l m sz : Nat} (h : Qz a l m sz = none) : a = none := by
 unfold Qz at h
 split at h
 ·exact h
 ·cases a with
  | none => rfl
  | some a => cases h
theorem turns_delO {xs news : List (List Value)} {i : Nat} {S X : Operand} {t E : TypeId} {I : TypeInfo} {sz : Nat} {p : Option Addr × Nat} {rds : List Nat} {ax : Option Addr} {c m a q : Nat} (hm0 : 0 < m) {dd : Nat}
  (ht : P.underlying t = some (.slice E)) (hi : P.info? E = some I) (hsize : I.size = sz)
  (hL : L[i]? = some (Z1 E sz (.slice p.1 m p.2) m xs)) (ha : a + q ≤ m) (hs : ev e S = .slice p.1 a p.2) (hx : ev e X = .slice ax q c) (hax0 : ax = none → p.1 = none) (hq : q = news.length)
  (hnews : ∀ w L', Fr cx w → Sat cx w L' → L'[i]? = L[i]? → Row w ax sz news) (hnl : ∀ x ∈ news, x.length = sz) (h1 : ∀ x ∈ news, ∀ u ∈ x, u.oneCell' = true) :
  Turns P cx e ⟨some dd, .call ⟨.builtin .append, #[S, X], #[t, t]⟩, ty, pos, af, g⟩ L i rds (fun _ : Unit => .slice p.1 (a + q) p.2) (fun _ => Z1 E sz (.slice p.1 (a + q) p.2) (a + q) (xs.take a ++ news)) := by
 subst hsize hq
 intro w L' hF hS hl hi'
 have hLi := hi' i (.inr rfl)
 have hr := hnews w L' hF hS hLi
 have hL' := hLi.trans hL
 obtain ⟨S0, hC, hlt⟩ := hS.at hL'
 have hmc : m ≤ p.2 := capOfO hS hL'
 have hlen : xs.length = m := hC.1.2.1
 have hlx : ∀ x ∈ xs, x.length = I.size := hC.1.2.2
 obtain ⟨g0, off, cur, e1, hSg, hh, hnc, hcm, hfit, htk⟩ := rowO_off hC (by omega)
 have hta : (xs.take a).length = a := by rw [List.length_take]; omega
 have hall : ∀ x ∈ xs.take a ++ news, x.length = I.size := fun x hx => by
  rcases List.mem_append.1 hx with h | h
  ·exact hlx x (List.mem_of_mem_take h)
  ·exact hnl x h
 have hfl : news.flatten.length = news.length * I.size := by rw [Yk news hnl]
 have hone : ∀ u ∈ news.flatten, u.oneCell' = true := fun u hu => by
  obtain ⟨x, hx, hux⟩ := List.mem_flatten.1 hu
  exact h1 x hx u hux
 have hcur : cur.toList.length = cur.size := Array.length_toList
 have hs' : ev e S = .slice (some ⟨g0, off, none⟩) a p.2 := by rw [hs, e1]
 have hexec : ∀ v w', (Builtin.append_ #[t, t] ty #[.slice (some ⟨g0, off, none⟩) a p.2, .slice ax news.length c]).run P w = .ok v w' → (execOp (ev e) ⟨some dd, .call ⟨.builtin .append, #[S, X], #[t, t]⟩, ty, pos, af, g⟩).run P w = .ok (.value v) w' := by
  intro v w' hr
  simp only [execOp, resolve, invoke, builtin, Sem.run_bind, Sem.run_pure, Result.andThen_ok, List.map_toArray, List.map_cons, List.map_nil, hs', hx, hr]
 have hroom : a + news.length ≤ p.2 := by omega
 have hpre : (cur.toList.drop off).take (a * I.size) = (xs.take a).flatten := by
  have hle : a * I.size ≤ m * I.size := Nat.mul_le_mul_right _ (by omega)
  have : ((cur.toList.drop off).take (m * I.size)).take (a * I.size) = (cur.toList.drop off).take (a * I.size) := by rw [List.take_take, Nat.min_eq_left hle]
  rw [← this, htk]
  have hsplit : xs.flatten = (xs.take a).flatten ++ (xs.drop a).flatten := by rw [← List.flatten_append, List.take_append_drop]
  have hl3 : (xs.take a).flatten.length = a * I.size := by rw [Yk _ (fun x hx => hlx x (List.mem_of_mem_take hx)), hta]
  rw [hsplit, ← hl3, List.take_left]
 have hfit' : off + a * I.size + news.flatten.length ≤ cur.size := by
  have : (a + news.length) * I.size ≤ p.2 * I.size := Nat.mul_le_mul_right _ hroom
  rw [Nat.add_mul] at this; omega
 have hst := run_storeCells_at (P := P) g0 (off + a * I.size) E news.flatten 0 cur w hh (by simpa using hfit') hone
 simp only [Nat.add_zero] at hst
 have hr2 : (Builtin.append_ #[t, t] ty #[.slice (some ⟨g0, off, none⟩) a p.2, .slice ax news.length c]).run P w = .ok (.slice (some ⟨g0, off, none⟩) (a + news.length) p.2) (w.setRow g0 (cur.toList.take (off + a * I.size) ++ news.flatten ++ cur.toList.drop (off + a * I.size + news.flatten.length)).toArray) := by
  cases hax : ax with
  | some ad =>
   subst hax
   have hcell : ∀ j u, news.flatten[j]? = some u → w.cell? (ad.add j) = some u := by
    intro j u hj
    obtain ⟨i', k', x, g1, g2, g3⟩ := Uj news hnl j u hj
    rcases hr with h | ⟨b, off, ha, h⟩
    ·subst h; simp at g1
    ·cases ha
     have := (h i' x g1).2 k' u g2
     rw [Addr.add_lit, g3, ← Nat.add_assoc]
     exact this
   have hfc := run_firstCells_some (P := P) w I.size news.length ad news.length c news.flatten hfl hcell
   simp [Builtin.append_, run_underlying ht, sizeOf, typeInfo, hi, Builtin.lenOf, hroom, hfc, Addr.add_lit, hst]
  | none =>
   subst hax
   rw [hax0 rfl] at e1
   cases e1
 have hr := hexec _ _ hr2
 have hlen2 : (cur.toList.take (off + a * I.size) ++ news.flatten ++ cur.toList.drop (off + a * I.size + news.flatten.length)).length = cur.size := by
  simp only [List.length_append, List.length_take, List.length_drop, hcur]; omega
 obtain ⟨hF', hS'⟩ := hS.turnOf hF hL' (C := Z1 E I.size (.slice p.1 (a + news.length) p.2) (a + news.length) (xs.take a ++ news)) (w' := w.setRow g0 (cur.toList.take (off + a * I.size) ++ news.flatten ++ cur.toList.drop (off + a * I.size + news.flatten.length)).toArray) fun S1 hp => by
  have hg1 : S1 g0 := hp.2 g0 (by rw [e1]; rfl)
  refine ⟨rfl, rfl, rfl, by simp [World.setRow], fun b' hb' hn => ?_, (fun x => x = g0), ⟨⟨.inr ⟨g0, off, p.2, _, by rw [e1], setRow_heap w g0 cur _ E _ hh, hroom, hcm, by rw [List.size_toArray, hlen2]; exact hfit, ?_⟩, by rw [List.length_append, hta], hall⟩, fun b' hb' => by rw [e1] at hb'; cases hb'; rfl⟩, fun b' hb' => ⟨?_, .inl (by rw [hb']; exact hg1)⟩⟩
  ·exact setRow_other w g0 b' _ fun h => hn (by rw [h]; exact hg1)
  ·rw [List.flatten_append]
   have hd : (cur.toList.take (off + a * I.size) ++ news.flatten ++ cur.toList.drop (off + a * I.size + news.flatten.length)).drop off = ((cur.toList.drop off).take (a * I.size) ++ news.flatten) ++ cur.toList.drop (off + a * I.size + news.flatten.length) := by
    rw [List.append_assoc, List.drop_append_of_le_length (by rw [List.length_take, hcur]; omega), List.drop_take, Nat.add_sub_cancel_left, List.append_assoc]
   have hl2 : ((cur.toList.drop off).take (a * I.size) ++ news.flatten).length = (a + news.length) * I.size := by
    rw [List.length_append, List.length_take, List.length_drop, hcur, Nat.add_mul, Nat.min_eq_left (by omega)]; omega
   show ((cur.toList.take (off + a * I.size) ++ news.flatten ++ cur.toList.drop (off + a * I.size + news.flatten.length)).toArray.toList.drop off).take _ = _
   rw [List.toList_toArray, hd, ← hl2, List.take_left, hpre]
  ·rw [hb', setRow_size]; exact (Array.getElem?_eq_some_iff.1 hh).1
 unfold RunsTo
 rw [hr]
 exact ⟨(), by rw [e1], hF', hS'⟩
theorem turns_clearO {i : Nat} {X : Operand} {t E : TypeId} {z : Value} {sz : Nat} {p : Option Addr × Nat} {rds : List Nat} {c m q : Nat} {xs : List (List Value)}
  (ht : P.underlying t = some (.slice E)) (hz : ∀ w, (zeroValue E).run P w = .ok z w) (hzs : z.cells.size = sz) (h1 : z.cells.toList.all Value.oneCell' = true)
  (hL : L[i]? = some (Z1 E sz (.slice p.1 m p.2) m xs)) (hx : ev e X = .slice (Qz p.1 m p.2 sz) q c) (hq : m + q ≤ p.2) {dst : Option Nat} :
  Turns P cx e ⟨dst, .call ⟨.builtin .clear, #[X], #[t]⟩, ty, pos, af, g⟩ L i rds (fun _ : Unit => .tuple #[]) (fun _ => Z1 E sz (.slice p.1 m p.2) m xs) := by
 intro w L' hF hS hl hi'
 have hL' := (hi' i (.inr rfl)).trans hL
 obtain ⟨S0, hC, hlt⟩ := hS.at hL'
 have hset : L'.set i (Z1 E sz (.slice p.1 m p.2) m xs) = L' := by
  refine List.ext_getElem? fun j => ?_
  rw [List.getElem?_set]
  split
  ·rename_i h; subst h
   split
   ·exact hL'.symm
   ·rename_i h; rw [List.getElem?_eq_none (by omega)]
  ·rfl
 rcases Nat.eq_zero_or_pos q with hq0 | hq0
 ·subst hq0
  have he : (execOp (ev e) ⟨dst, .call ⟨.builtin .clear, #[X], #[t]⟩, ty, pos, af, g⟩).run P w = .ok (.value (.tuple #[])) w := by
   have hr : (Builtin.clear_ #[t] ty #[.slice (Qz p.1 m p.2 sz) 0 c]).run P w = .ok (.tuple #[]) w := by
    cases Qz p.1 m p.2 sz <;> simp [Builtin.clear_, run_underlying ht]
   simp only [execOp, resolve, invoke, builtin, Sem.run_bind, Sem.run_pure, Result.andThen_ok, List.map_toArray, List.map_cons, List.map_nil, hx, hr]
  unfold RunsTo
  rw [he]
  exact ⟨(), rfl, hF, by rw [hset]; exact hS⟩
 ·obtain ⟨g0, off, cur, e1, hSg, hg, hnc, hcm, hfit0, htk⟩ := rowO_off hC (by omega)
  have hlen : xs.length = m := hC.1.2.1
  have hlx : ∀ x ∈ xs, x.length = sz := hC.1.2.2
  have hcut : Qz p.1 m p.2 sz = some ⟨g0, off + m * sz, none⟩ := by
   unfold Qz
   rw [if_neg (by omega), e1]; simp [Addr.add]
  rw [hcut] at hx
  have hzl : (Builtin.zeroCells z.cells q).toList.length = q * sz := by unfold Builtin.zeroCells; simp [hzs]
  have hmq : m * sz + q * sz ≤ p.2 * sz := by rw [← Nat.add_mul]; exact Nat.mul_le_mul_right _ hq
  have hfit : off + m * sz + 0 + (Builtin.zeroCells z.cells q).toList.length ≤ cur.size := by rw [hzl]; omega
  have hst := run_storeCells_at (P := P) g0 (off + m * sz) E (Builtin.zeroCells z.cells q).toList 0 cur w hg hfit (zero_one h1)
  generalize hnew : (cur.toList.take (off + m * sz + 0) ++ (Builtin.zeroCells z.cells q).toList ++ cur.toList.drop (off + m * sz + 0 + (Builtin.zeroCells z.cells q).toList.length)) = new at hst
  have he : (execOp (ev e) ⟨dst, .call ⟨.builtin .clear, #[X], #[t]⟩, ty, pos, af, g⟩).run P w = .ok (.value (.tuple #[])) (w.setRow g0 new.toArray) := by
   have hr : (Builtin.clear_ #[t] ty #[.slice (some ⟨g0, off + m * sz, none⟩) q c]).run P w = .ok (.tuple #[]) (w.setRow g0 new.toArray) := by
    obtain ⟨q', rfl⟩ : ∃ q', q = q' + 1 := ⟨q - 1, by omega⟩
    simp only [Builtin.clear_, Sem.run_bind, run_underlying ht, Result.andThen_ok, hz, hst, Sem.run_pure, List.getElem?_toArray, List.getElem?_cons_zero]
   simp only [execOp, resolve, invoke, builtin, Sem.run_bind, Sem.run_pure, Result.andThen_ok, List.map_toArray, List.map_cons, List.map_nil, hx, hr]
  have hsz2 : new.toArray.size = cur.size := by
   have hf2 := hfit
   rw [← hnew]
   simp only [List.size_toArray, List.length_append, List.length_take, List.length_drop, Array.length_toList] at hf2 ⊢
   omega
  have htk2 : (new.drop off).take (m * sz) = xs.flatten := by
   rw [← htk, ← hnew, Nat.add_zero, List.append_assoc, List.drop_append_of_le_length (by rw [List.length_take, Array.length_toList]; omega), List.drop_take, Nat.add_sub_cancel_left]
   rw [List.take_append_of_le_length (by rw [List.length_take, List.length_drop, Array.length_toList]; omega), List.take_take, Nat.min_self]
  obtain ⟨hF', hS'⟩ := hS.turnOf hF hL' (C := Z1 E sz (.slice p.1 m p.2) m xs) (w' := w.setRow g0 new.toArray) fun S1 hp => by
   have hg1 : S1 g0 := hp.2 g0 (by rw [e1]; rfl)
   refine ⟨rfl, rfl, rfl, by simp [World.setRow], fun b' hb' hn => ?_, (fun x => x = g0), ⟨⟨.inr ⟨g0, off, p.2, _, by rw [e1], setRow_heap w g0 cur _ E _ hg, hnc, hcm, by rw [hsz2]; exact hfit0, htk2⟩, hlen, hlx⟩, fun b' hb' => by rw [e1] at hb'; cases hb'; rfl⟩, fun b' hb' => ⟨?_, .inl (by rw [hb']; exact hg1)⟩⟩
   ·exact setRow_other w g0 b' _ fun h => hn (by rw [h]; exact hg1)
   ·rw [hb', setRow_size]; exact (Array.getElem?_eq_some_iff.1 hg).1
  unfold RunsTo
  rw [he]
  exact ⟨(), rfl, hF', hS'⟩
end
end Go.Lx
namespace Go.Lx
open Go Go.Vc Go.Md
theorem AllC.del {α : Type} {G : Jx → (Nat → Value) → α → Prop} {h : Jx} {sz : Nat} {css : List (List Value)} {xs ys : List α} {i j : Int} (p : AllC G h sz css xs) (g : gDelN xs i j = some ys) : gDelN css i j = some (Wx css i j) ∧ AllC G h sz (Wx css i j) ys := by
 obtain ⟨rfl, h0, h1, h2⟩ := gDelN_some g
 have hl := p.len
 refine ⟨gDelN_ok ⟨h0, h1, by rw [hl]; exact h2⟩, ?_⟩
 unfold Wx
 have q1 := p.cut (l := 0) (q := i) (ys := xs.take i.toNat) (by rw [gCut_to (by omega)])
 have q2 := p.cut (l := j) (q := xs.length) (ys := xs.drop j.toNat) (by rw [Vq (by omega)])
 have e1 : cutL css 0 i = css.take i.toNat := by unfold cutL; simp
 have e2 : cutL css j xs.length = css.drop j.toNat := by
  unfold cutL
  rw [List.take_of_length_le (by rw [List.length_drop, hl]; omega)]
 rw [e1] at q1
 rw [e2] at q2
 exact q1.append q2
theorem AllC.ones {α : Type} {G : Jx → (Nat → Value) → α → Prop} {h : Jx} {sz : Nat} {css : List (List Value)} {xs : List α} (p : AllC G h sz css xs) (hG : ∀ (c : Nat → Value) x, G h c x → ∀ j, j < sz → (c j).oneCell' = true) : ∀ cs ∈ css, ∀ u ∈ cs, u.oneCell' = true := by
 intro cs hcs u hu
 obtain ⟨i, hi, rfl⟩ := List.getElem_of_mem hcs
 obtain ⟨j, hj, rfl⟩ := List.getElem_of_mem hu
 have hx : i < xs.length := by rw [← p.len]; exact hi
 obtain ⟨h1, h2⟩ := p.el i css[i] xs[i] (List.getElem?_eq_getElem hi) (List.getElem?_eq_getElem hx)
 have := hG _ _ h2 j (by omega)
 simpa [List.getD_eq_getElem?_getD, List.getElem?_eq_getElem hj] using this
section
variable {cx : Cx} {L : List Chunk} {w : World}
theorem rowO_all {i E sz n c : Nat} {a : Option Addr} {xs : List (List Value)} (hS : Sat cx w L) (hL : L[i]? = some (Z1 E sz (.slice a n c) n xs)) : ∀ x ∈ xs, x.length = sz := by
 obtain ⟨S, ⟨⟨h1, hlen, hlx⟩, hb⟩, _⟩ := hS.at hL
 exact hlx
end
end Go.Lx
namespace Go.Lx
open Go Go.Vc Go.Md
theorem imp_clipRO (E sz : Nat) (a : Option Addr) (n c : Nat) (xs : List (List Value)) : Imp (Z1 E sz (.slice a n c) n xs) (Z1 E sz (.slice (Qz a 0 n sz) n n) n xs) := ⟨fun S w h => by
 have hcut : Qz a 0 n sz = a := cutA_zero _ _ _
 rw [hcut]
 obtain ⟨⟨h1, hlen, hlx⟩, hb⟩ := h
 refine ⟨⟨?_, hlen, hlx⟩, fun b hb' => hb b (by rw [← hb']; cases a <;> rfl)⟩
 rcases h1 with h1 | ⟨g, off, cap, cur, hv, hh, q1, q2, q3, q4⟩
 ·rcases h1.2 with ⟨hv, h0⟩ | ⟨g, cap, cur, hv, hbase, hh, q1, q2, q3, q4⟩
  ·simp only [Value.slice.injEq] at hv
   obtain ⟨rfl, rfl, rfl⟩ := hv
   exact .inl ⟨h1.1, .inl ⟨rfl, rfl⟩⟩
  ·simp only [Value.slice.injEq] at hv
   obtain ⟨rfl, -, rfl⟩ := hv
   have := Nat.mul_le_mul_right sz q1
   exact .inr ⟨g, 0, n, cur, rfl, hh, Nat.le_refl _, by omega, by omega, by simpa using q4⟩
 ·simp only [Value.slice.injEq] at hv
  obtain ⟨rfl, -, rfl⟩ := hv
  have := Nat.mul_le_mul_right sz q1
  exact .inr ⟨g, off, n, cur, rfl, hh, Nat.le_refl _, by omega, by omega, q4⟩⟩
end Go.Lx

/- Rules: slices.Insert's operations at a row of one's own without room: an append that makes a new row with zeros, copies of elements of many cells. Conditions: none. -/
namespace Go.Lx
open Go Go.Vc Go.Md
section
variable {P : Program} {n : Nat} {cx : Cx} {e : Xd} {L : List Chunk} {d : Nat} {ty : TypeId} {pos : String} {af : Array Edge} {g : Option (Nat × Bool)}
theorem zeros_rep (z : Array Value) (n : Nat) (hz : 0 < z.size) : (Builtin.zeroCells z n).toList = (List.replicate n z.toList).flatten := made_rep z n hz
theorem makes_growZ {xs : List (List Value)} {i : Nat} {S N : Operand} {t tn E : TypeId} {I : TypeInfo} {z : Value} {sz by_ : Nat} {p : Option Addr × Nat} {m a k : Nat} {kn kk : IntKind}
  (ht : P.underlying t = some (.slice E)) (htn : P.underlying tn = some (.int kn)) (hi : P.info? E = some I) (hz : I.zero = some z) (hsize : I.size = sz) (hby : I.bytes = by_) (hzs : z.cells.size = sz) (hsz : Nat.blt 0 sz = true)
  (hL : L[i]? = some (Z1 E sz (.slice p.1 m p.2) m xs)) (hs : ev e S = .slice p.1 a p.2) (ha : a ≤ m) (hx : ev e N = .int kk (k : Int)) (h0 : 0 < p.2) (hg : p.2 < a + k) (h63 : a + k ≤ maxLen) (hbytes : (a + k) * by_ ≤ 140737488355328) :
  Makes P cx e ⟨some d, .call ⟨.builtin .append, #[S, N], #[t, tn]⟩, ty, pos, af, g⟩ L [i] (fun p' : Option Addr × Nat => .slice p'.1 (a + k) p'.2) (fun p' => Xa E sz (.slice p'.1 (a + k) p'.2) (a + k) (xs.take a ++ List.replicate k z.cells.toList)) := by
 subst hsize hby
 intro w L' hF hS hi'
 have hL' := (hi' i (by simp)).trans hL
 obtain ⟨S0, hC, hlt⟩ := hS.at hL'
 have hlen : xs.length = m := hC.1.2.1
 have hlx : ∀ x ∈ xs, x.length = I.size := hC.1.2.2
 obtain ⟨g0, off, cur, e1, hSg, hh, hnc, hcm, hfit, htk⟩ := rowO_off hC h0
 have hsz' : 0 < I.size := by simpa using hsz
 have hta : (xs.take a).length = a := by rw [List.length_take]; omega
 have hlo : (xs.take a).flatten.length = a * I.size := by rw [Yk _ (fun x hx => hlx x (List.mem_of_mem_take hx)), hta]
 have hcell : ∀ j u, (xs.take a).flatten[j]? = some u → w.cell? ((⟨g0, off, none⟩ : Addr).add j) = some u := by
  intro j u hj
  obtain ⟨i', k', x, g1, g2, g3⟩ := Uj _ (fun x hx => hlx x (List.mem_of_mem_take hx)) j u hj
  have hr := offOf hS hL'
  rcases hr with h | ⟨b, off', ha', h⟩
  ·subst h; simp at g1
  ·rw [e1] at ha'; cases ha'
   have hg1 : xs[i']? = some x := by
    rw [List.getElem?_take] at g1
    split at g1
    ·exact g1
    ·cases g1
   have := (h i' x hg1).2 k' u g2
   rw [Addr.add_lit, g3, ← Nat.add_assoc]
   exact this
 have hw : IntKind.i64.wrap (k : Int) = k := by rw [IntKind.wrap_i64]; simp only [maxLen] at h63; omega
 have hn : ¬ (a + k ≤ p.2) := by omega
 have hk0 : 0 < k := by omega
 have h63' : ¬ (9223372036854775807 < ((a : Int) + (k : Int))) := by simp only [maxLen] at h63; omega
 have h48 : Builtin.nextslicecap (a + k) p.2 * I.bytes ≤ 281474976710656 := growslice_fits hg hbytes
 have h48' : ¬ (281474976710656 < Builtin.nextslicecap (a + k) p.2 * I.bytes) := by omega
 have hkb : k * I.bytes ≤ 140737488355328 := Nat.le_trans (Nat.mul_le_mul_right _ (by omega)) hbytes
 have h48i : ¬ (281474976710656 < (k : Int) * (I.bytes : Int)) := by
  rw [← Int.natCast_mul]; omega
 have hneg : ¬ ((k : Int) < 0) := by omega
 have hns : ¬ (k * I.size = 0) := Nat.mul_ne_zero (by omega) (by omega)
 have hns1 : ¬ k = 0 := by omega
 have hns2 : ¬ I.size = 0 := by omega
 have hfo := run_firstCells_some (P := P) w.drew I.size a ⟨g0, off, none⟩ a p.2 (xs.take a).flatten hlo (by simpa using hcell)
 have hr2 : (Builtin.append_ #[t, tn] ty #[.slice (some ⟨g0, off, none⟩) a p.2, .int kk k]).run P w =
   .ok (.slice (some ⟨w.heap.size, 0, none⟩) (a + k) (grownCap w (a + k) p.2 E))
    (w.drew.alloc (.cells ((xs.take a).flatten.toArray ++ Builtin.zeroCells z.cells k ++ Builtin.zeroCells z.cells (grownCap w (a + k) p.2 E - (a + k))) E)) := by
  simp [Builtin.append_, run_underlying ht, run_underlying htn, sizeOf, typeInfo, zeroValue, hi, hz, asInt, asIntOf, hw, hn, hneg, hns, h63', h48', h48i, Question.forced, hfo, newRow, grownCap]
 have hge := grownCap_ge w (a + k) p.2 E
 have hcm2 : grownCap w (a + k) p.2 E ≤ maxLen := grownCap_le_maxLen w (a + k) p.2 E h63
 have hexec : (execOp (ev e) ⟨some d, .call ⟨.builtin .append, #[S, N], #[t, tn]⟩, ty, pos, af, g⟩).run P w = .ok (.value (.slice (some ⟨w.heap.size, 0, none⟩) (a + k) (grownCap w (a + k) p.2 E))) (w.drew.alloc (.cells ((xs.take a).flatten.toArray ++ Builtin.zeroCells z.cells k ++ Builtin.zeroCells z.cells (grownCap w (a + k) p.2 E - (a + k))) E)) := by
  have hs' : ev e S = .slice (some ⟨g0, off, none⟩) a p.2 := by rw [hs, e1]
  simp only [execOp, resolve, invoke, builtin, Sem.run_bind, Sem.run_pure, Result.andThen_ok, List.map_toArray, List.map_cons, List.map_nil, hs', hx, hr2]
 have hall : ∀ x ∈ xs.take a ++ List.replicate k z.cells.toList, x.length = I.size := fun x hx => by
  rcases List.mem_append.1 hx with h | h
  ·exact hlx x (List.mem_of_mem_take h)
  ·rw [List.eq_of_mem_replicate h]; simpa using hzs
 have hown : (w.drew.alloc (.cells ((xs.take a).flatten.toArray ++ Builtin.zeroCells z.cells k ++ Builtin.zeroCells z.cells (grownCap w (a + k) p.2 E - (a + k))) E)).ownsRow w.heap.size E I.size (.slice (some ⟨w.heap.size, 0, none⟩) (a + k) (grownCap w (a + k) p.2 E)) (a + k) (xs.take a ++ List.replicate k z.cells.toList).flatten := by
  have hfl : (xs.take a ++ List.replicate k z.cells.toList).flatten.length = (a + k) * I.size := by rw [Yk _ hall]; congr 1; simp [hta]
  refine ⟨hfl, .inr ⟨w.heap.size, _, _, rfl, Nat.le_refl _, heap_alloc_new w.drew _, hge, hcm2, ?_, ?_⟩⟩
  ·simp only [Array.size_append, List.size_toArray, size_zeroCells, hzs, hlo, ← Nat.add_mul]
   congr 1
   omega
  ·simp only [Array.toList_append, List.append_assoc]
   rw [zeros_rep _ k (by rw [hzs]; exact hsz'), ← hfl, List.flatten_append, ← List.append_assoc, List.take_left]
 unfold RunsTo
 rw [hexec]
 refine ⟨(_, _), rfl, ⟨rfl, rfl, rfl, by simp, fun b hb _ => (by first | exact heap_alloc_old w.drew _ b hb | exact heap_alloc_old w.drew _ hb), fun b' => b' = w.heap.size, ⟨⟨own0 hown, by simp [hta], hall⟩, fun b hb => by cases hb; rfl⟩, fun b hb => ?_⟩⟩
 subst hb
 exact ⟨(hown.lt _ rfl).2, .inr (Nat.le_refl _)⟩
theorem turns_copyK {xs news : List (List Value)} {i : Nat} {D X : Operand} {t u E : TypeId} {I : TypeInfo} {sz : Nat} {p : Option Addr × Nat} {rds : List Nat} {ax : Option Addr} {dl cd c m a q : Nat} {dst : Option Nat}
  (ht : P.underlying t = some (.slice E)) (hi : P.info? E = some I) (hsize : I.size = sz)
  (hL : L[i]? = some (Xa E sz (.slice p.1 m p.2) m xs)) (hm : m = xs.length) (hd : ev e D = .slice (Qz p.1 a p.2 sz) dl cd) (ha : a + dl ≤ m) (hx : ev e X = .slice ax q c) (hql : q ≤ dl) (hq : q = news.length) (hq0 : 0 < q)
  (hnews : ∀ w L', Fr cx w → Sat cx w L' → (∀ j, j ∈ rds → L'[j]? = L[j]?) → Row w ax sz news) (hnl : ∀ x ∈ news, x.length = sz) (h1 : ∀ x ∈ news, ∀ u ∈ x, u.oneCell' = true) :
  Turns P cx e ⟨dst, .call ⟨.builtin .copy, #[D, X], #[t, u]⟩, ty, pos, af, g⟩ L i rds (fun _ : Unit => .int .i64 (q : Int)) (fun _ => Xa E sz (.slice p.1 m p.2) m (xs.take a ++ news ++ xs.drop (a + q))) := by
 subst hsize hq hm
 intro w L' hF hS hl hi'
 have hr := hnews w L' hF hS (fun j hj => hi' j (.inl hj))
 have hL' := (hi' i (.inr rfl)).trans hL
 obtain ⟨S0, ⟨⟨ho, hlen, hlx⟩, hob⟩, hlt⟩ := hS.at hL'
 have hall : ∀ x ∈ xs.take a ++ news ++ xs.drop (a + news.length), x.length = I.size := fun x hx => by
  rcases List.mem_append.1 hx with h | h
  ·rcases List.mem_append.1 h with h | h
   ·exact hlx x (List.mem_of_mem_take h)
   ·exact hnl x h
  ·exact hlx x (List.mem_of_mem_drop h)
 have hle : (xs.take a ++ news ++ xs.drop (a + news.length)).length = xs.length := by
  simp only [List.length_append, List.length_take, List.length_drop]; omega
 have hmin : Nat.min news.length dl = news.length := Nat.min_eq_left hql
 ·rcases ho.2 with ⟨_, hz⟩ | ⟨g0, cap, cur, hv0, hb0, hh, hnc, hcm, hcs, htk⟩
  ·omega
  ·simp only [Value.slice.injEq] at hv0
   obtain ⟨hp1, _, hp2⟩ := hv0
   have hcut : Qz p.1 a p.2 I.size = some ⟨g0, a * I.size, none⟩ := by
    rw [hp1]; unfold Qz
    rw [if_neg (by omega)]; simp [Addr.add_lit]
   rcases hr with hr | ⟨b, off, hax, hr⟩
   ·rw [hr] at hq0; exact absurd hq0 (by simp)
   subst hax
   have hfl : news.flatten.length = news.length * I.size := by rw [Yk news hnl]
   have hcell : ∀ j u, news.flatten[j]? = some u → w.cell? ((⟨b, off, none⟩ : Addr).add j) = some u := by
    intro j u hj
    obtain ⟨i', k', x, g1, g2, g3⟩ := Uj news hnl j u hj
    have := (hr i' x g1).2 k' u g2
    rw [Addr.add_lit, g3, ← Nat.add_assoc]
    exact this
   have hone : ∀ u ∈ news.flatten, u.oneCell' = true := fun u hu => by
    obtain ⟨x, hx, hux⟩ := List.mem_flatten.1 hu
    exact h1 x hx u hux
   have hcur : cur.toList.length = cur.size := Array.length_toList
   have hsum : (a + news.length) * I.size ≤ xs.length * I.size := Nat.mul_le_mul_right _ (by omega)
   have hsum2 : xs.length * I.size ≤ cap * I.size := Nat.mul_le_mul_right _ hnc
   have hfit : a * I.size + news.flatten.length ≤ cur.size := by
    rw [Nat.add_mul] at hsum; omega
   have hfc := run_firstCells_some (P := P) w I.size news.length ⟨b, off, none⟩ news.length c news.flatten hfl hcell
   have hst := run_storeCells_at (P := P) g0 (a * I.size) E news.flatten 0 cur w hh (by simpa using hfit) hone
   simp only [Nat.add_zero] at hst
   have hr2 : (Builtin.copy_ #[t, u] ty #[.slice (some ⟨g0, a * I.size, none⟩) dl cd, .slice (some ⟨b, off, none⟩) news.length c]).run P w = .ok (goInt news.length) (w.setRow g0 (cur.toList.take (a * I.size) ++ news.flatten ++ cur.toList.drop (a * I.size + news.flatten.length)).toArray) := by
    have hmin2 : min news.length dl = news.length := hmin
    simp [Builtin.copy_, run_underlying ht, Builtin.lenOf, sizeOf, typeInfo, hi, hmin, hmin2, hfc, hst]
   have hexec : (execOp (ev e) ⟨dst, .call ⟨.builtin .copy, #[D, X], #[t, u]⟩, ty, pos, af, g⟩).run P w = .ok (.value (.int .i64 (news.length : Int))) (w.setRow g0 (cur.toList.take (a * I.size) ++ news.flatten ++ cur.toList.drop (a * I.size + news.flatten.length)).toArray) := by
    simp only [execOp, resolve, invoke, builtin, Sem.run_bind, Sem.run_pure, Result.andThen_ok, List.map_toArray, List.map_cons, List.map_nil, hd, hcut, hx, hr2]
    rfl
   have hxf : xs.flatten.length = xs.length * I.size := Yk xs hlx
   have e2 : (xs.take a ++ news ++ xs.drop (a + news.length)).flatten = xs.flatten.take (a * I.size) ++ news.flatten ++ xs.flatten.drop ((a + news.length) * I.size) := by
    rw [List.flatten_append, List.flatten_append, ← flat_takeN _ hlx, ← flat_dropN _ hlx]
   have hlen2 : (cur.toList.take (a * I.size) ++ news.flatten ++ cur.toList.drop (a * I.size + news.flatten.length)).length = cur.size := by
    simp only [List.length_append, List.length_take, List.length_drop, hcur]; omega
   have e1 : cur.toList = xs.flatten ++ cur.toList.drop (xs.length * I.size) := by rw [← htk, List.take_append_drop]
   have hown : (w.setRow g0 (cur.toList.take (a * I.size) ++ news.flatten ++ cur.toList.drop (a * I.size + news.flatten.length)).toArray).ownsRow 0 E I.size (.slice p.1 xs.length p.2) xs.length (xs.take a ++ news ++ xs.drop (a + news.length)).flatten := by
    refine ⟨by rw [Yk _ hall, hle], .inr ⟨g0, cap, _, by rw [hp1, hp2], hb0, setRow_heap w g0 cur _ E (0, 0) hh, hnc, hcm, by rw [List.size_toArray, hlen2]; exact hcs, ?_⟩⟩
    rw [List.toList_toArray, e2]
    have hal : a * I.size ≤ xs.flatten.length := by rw [hxf]; exact Nat.mul_le_mul_right _ (by omega)
    have e3 : cur.toList.take (a * I.size) = xs.flatten.take (a * I.size) := by
     rw [e1, List.take_append_of_le_length hal]
    have e4 : cur.toList.drop (a * I.size + news.flatten.length) = xs.flatten.drop ((a + news.length) * I.size) ++ cur.toList.drop (xs.length * I.size) := by
     conv => lhs; rw [e1]
     rw [hfl, ← Nat.add_mul, List.drop_append_of_le_length (by rw [hxf]; exact hsum)]
    rw [e3, e4, ← List.append_assoc]
    have hl3 : (xs.flatten.take (a * I.size) ++ news.flatten ++ xs.flatten.drop ((a + news.length) * I.size)).length = xs.length * I.size := by
     rw [← e2, Yk _ hall, hle]
    rw [← hl3, List.take_left]
   have hgb : w.grownBy (w.setRow g0 (cur.toList.take (a * I.size) ++ news.flatten ++ cur.toList.drop (a * I.size + news.flatten.length)).toArray) (Value.slice p.1 xs.length p.2).ownBlock :=
    ⟨rfl, rfl, rfl, by simp, fun b' _ hb => setRow_other w g0 b' _ (fun e => hb (by simp [Value.ownBlock, hp1, e]))⟩
   obtain ⟨hF', hS'⟩ := hS.turnOf hF hL' (C := Xa E I.size (.slice p.1 xs.length p.2) xs.length (xs.take a ++ news ++ xs.drop (a + news.length))) fun S1 hp => Uw hp.2 hown hgb (.inl rfl) hle hall
   unfold RunsTo
   rw [hexec]
   exact ⟨(), rfl, hF', hS'⟩
end
end Go.Lx
namespace Go.Lx
open Go Go.Vc Go.Md
theorem AllC.ins {α : Type} {G : Jx → (Nat → Value) → α → Prop} {h : Jx} {sz by_ : Nat} {css : List (List Value)} {xs ys : List α} {i : Int} {x : α} {cs : List Value} (p : AllC G h sz css xs) (g : gInsN by_ xs i x = some ys) (hl : cs.length = sz) (hG : G h (fun j => cs.getD j undef) x) :
  gInsN by_ css i cs = some (Y4 css i cs) ∧ AllC G h sz (Y4 css i cs) ys := by
 obtain ⟨rfl, h0, h1, h2, h3⟩ := gInsN_some g
 have hn := p.len
 refine ⟨gInsN_ok ⟨h0, by rw [hn]; exact h1, by rw [hn]; exact h2, by rw [hn]; exact h3⟩, ?_⟩
 unfold Y4
 have q1 := p.cut (l := 0) (q := i) (ys := xs.take i.toNat) (by rw [gCut_to (by omega)])
 have q2 := p.cut (l := i) (q := xs.length) (ys := xs.drop i.toNat) (by rw [Vq (by omega)])
 have e1 : cutL css 0 i = css.take i.toNat := by unfold cutL; simp
 have e2 : cutL css i xs.length = css.drop i.toNat := by
  unfold cutL
  rw [List.take_of_length_le (by rw [List.length_drop, hn]; omega)]
 rw [e1] at q1
 rw [e2] at q2
 have q3 : AllC G h sz [cs] [x] := by
  have := (AllC.nil (G := G) (h := h) (sz := sz)).snoc hl hG
  simpa using this
 exact q1.append (q3.append q2)
theorem insL_len {α : Type} {xs : List α} {i : Int} {x : α} (h : i ≤ xs.length) (h0 : 0 ≤ i) : (Y4 xs i x).length = xs.length + 1 := by
 unfold Y4
 simp only [List.length_append, List.length_take, List.length_drop, List.length_cons, List.length_nil]; omega
end Go.Lx
namespace Go.Vc
open Go
section
variable {P : Program} {cx : Cx} {e : Xd} {L : List Chunk}
end
end Go.Vc

/- Rules: rows that may be known, over the frozen memory. Conditions: none. -/
namespace Go.Lx
open Go Go.Vc Go.Md
section
variable {cx : Cx} {L : List Chunk}
theorem know_pool {w : World} {i : Nat} {base hp : Jx} (hS : Sat cx w L) (hL : L[i]? = some (X9 base hp)) (hb : ∀ b o, base b = some o → w.heap[b]? = some o) : Know hp w X3 := fun b o h => ⟨Xe hS hL hb b o h, fun h => h⟩
end
end Go.Lx

/- The kit's contract of slices.SortFunc at nested rows, by a number that each element has for itself. Conditions: the numbers are different, and not too large. -/
namespace Go.Lx
open Go Go.Md Go.Vc Go.Shelf Go.Sort Go.Proofs
end Go.Lx

/- Short forms of rules, for walks that would be too long for one claim. Conditions: none. -/
namespace Go.Lx
open Go Go.Md Go.Vc Go.Shelf Go.Sort Go.Proofs
section
variable {P : Program} {n : Nat} {cx : Cx} {Q : Ui} {e : Xd} {L : List Chunk} {ops : Array Oper} {rest : List Oper} {d : Nat} {ty : TypeId} {pos : String} {af : Array Edge} {g : Option (Nat × Bool)} {X : Operand}
theorem ag (v : Value) (k : At cx (WL P n ops Q rest) (upd e d v) L) (hw : Xz ops ⟨some d, .assign X, ty, pos, af, g⟩ e = true := by exact rfl) (hn : Nat.blt d n = true := by exact rfl) (hx : ev e X = v := by exact rfl) :
  At cx (WL P n ops Q (⟨some d, .assign X, ty, pos, af, g⟩ :: rest)) e L := Ja hw rfl hn (Jc hx) k
theorem c_dr {K : Xd → World → Prop} (i : Nat) (k : At cx K e (L.eraseIdx i)) : At cx K e L := by
 refine c_sel ((List.range L.length).eraseIdx i) (L.eraseIdx i) ?_ (List.nodup_range.sublist (List.eraseIdx_sublist _ _)) k
 refine List.ext_getElem? fun j => ?_
 rw [List.getElem?_map, List.getElem?_map, List.getElem?_eraseIdx, List.getElem?_eraseIdx]
 split
 ·by_cases h : j < L.length
  ·rw [List.getElem?_range h]; simp [List.getElem?_eq_getElem h]
  ·rw [List.getElem?_eq_none (by simpa using h), List.getElem?_eq_none (by simpa using h)]; rfl
 ·by_cases h : j + 1 < L.length
  ·rw [List.getElem?_range h]; simp [List.getElem?_eq_getElem h]
  ·rw [List.getElem?_eq_none (by simpa using h), List.getElem?_eq_none (by simpa using h)]; rfl
end
section
variable {P : Program} {cx : Cx} {e : Xd} {L : List Chunk} {ops : Array Oper} {F : Xd → List Chunk → Prop} {rest : List Oper} {ss : List Kd} {d : Nat} {ty : TypeId} {pos : String} {af : Array Edge} {g : Option (Nat × Bool)} {X : Operand}
end
section
variable {α : Type} {a b : α} {l : List α} {n : Nat}
theorem z1 : (a :: l).set 0 b = b :: l := rfl
theorem z2 : (a :: l).set (n + 1) b = a :: l.set n b := rfl
theorem z3 : (a :: l).eraseIdx 0 = l := rfl
theorem z4 : (a :: l).eraseIdx (n + 1) = a :: l.eraseIdx n := rfl
theorem z5 {m : List α} : (a :: l) ++ m = a :: (l ++ m) := rfl
theorem z6 {m : List α} : [] ++ m = m := rfl
theorem z7 : List.replicate (n + 1) a = a :: List.replicate n a := rfl
theorem z8 : List.replicate 0 a = [] := rfl
end
end Go.Lx

/- Rules: maps whose keys are structs, compared part by part. Conditions: those that each rule names. -/
namespace Go.Lx
open Go Go.Vc Go.Md
open Go.MapKept (IsKey Stamped)
structure KeyG {κ : Type} [DecidableEq κ] (P : Program) (kt : TypeId) (fk : κ → Value) : Prop where
 inj : ∀ a b, fk a = fk b → a = b
 chk : ∀ k em w, (Instr.checkKey em 10000 kt (fk k)).run P w = .ok () w
 now : ∃ d, P.underlying kt = some d ∧ ∀ a b, Instr.sameNow d (fk a) (fk b) = none
 eql : ∀ a b w, (Op.equal kt (fk a) (fk b)).run P w = .ok (decide (a = b)) w
 bits : ∀ k, Instr.sameBits 10000 (fk k) (fk k) = true
section find
variable {κ ν : Type} [DecidableEq κ] {P : Program} {kt : TypeId} {fk : κ → Value} {fv : ν → Value}
end find
section rules
variable {P : Program} {cx : Cx} {e : Xd} {L : List Chunk} {ty : TypeId} {pos : String} {af : Array Edge} {g : Option (Nat × Bool)}
variable {κ ν : Type} [DecidableEq κ] {fk : κ → Value} {fv : ν → Value}
end rules
end Go.Lx

/- In a drawn region: a call that turns two chunks at once; what it leaves is told behind the region. Conditions: those that each rule names. -/
namespace Go.Lx
open Go Go.Vc Go.Md
def exC {σ : Type} (C : σ → Chunk) : Chunk where
 P S w := ∃ x, (C x).P S w
 loc S w w' h := fun ⟨x, hx⟩ => ⟨x, (C x).loc S w w' h hx⟩
section
variable {P : Program} {cx : Cx} {e : Xd} {L : List Chunk} {ops : Array Oper} {F : Xd → List Chunk → Prop} {rest : List Oper} {ss : List Kd}
theorem sat_ex {σ : Type} {w : World} {i : Nat} {C : σ → Chunk} (hL : L[i]? = some (exC C)) (hS : Sat cx w L) : ∃ x, Sat cx w (L.set i (C x)) := by
 obtain ⟨fp, h1, h2, h3⟩ := hS.out
 obtain ⟨x, hx⟩ := h1 i _ hL
 have hil : i < L.length := by
  rcases Nat.lt_or_ge i L.length with h | h
  ·exact h
  ·simp [List.getElem?_eq_none h] at hL
 refine ⟨x, fp, fun j c hc => ?_, fun j b hb => ?_, h3⟩
 ·by_cases hji : j = i
  ·subst hji
   rw [List.getElem?_set_self hil] at hc
   cases hc; exact hx
  ·rw [List.getElem?_set_ne (fun h => hji h.symm)] at hc
   exact h1 j c hc
 ·have := h2 j b hb
  exact ⟨by simpa using this.1, this.2⟩
theorem c_ex {σ : Type} {K : Xd → World → Prop} (i : Nat) {C : σ → Chunk} (hL : L[i]? = some (exC C)) (k : ∀ x, At cx K e (L.set i (C x))) : At cx K e L :=
 ⟨fun w hF hS => by
  obtain ⟨x, hx⟩ := sat_ex hL hS
  exact (k x).out w hF hx⟩
def _root_.Go.Vc.Kd.t2 (i j : Nat) (rds : List Nat) (v0 : Value) (C : Chunk) : Kd := .g [] rds [i, j] (fun _ _ v => v = v0) (fun _ _ _ => [C, empC])
end
end Go.Lx

/- Rules: rows of one's own that may be parts of their blocks: length, stores of whole elements. Conditions: those that each rule names. -/
namespace Go.Lx
open Go Go.Vc Go.Md
section rules
variable {P : Program} {n : Nat} {cx : Cx} {e : Xd} {L : List Chunk} {ops : Array Oper} {rest : List Oper} {ty : TypeId} {pos : String} {af : Array Edge} {g : Option (Nat × Bool)}
end rules
end Go.Lx

/- The kit's contract of slices.SortFunc at rows of one's own that may be parts of their blocks. Conditions: the row is shorter than 2^62; the comparing function is an order, and tells all elements apart. -/
namespace Go.Lx
open Go Go.Vc Go.Md Go.Shelf Go.Sort Go.Proofs
section ops
variable {P : Program} {e : Xd} {d : Option Nat} {ty : TypeId} {pos : String} {af : Array Edge} {g : Option (Nat × Bool)}
end ops
end Go.Lx

/- Rules: loops that go a known number of rounds; slices of three pointers to new memory, or nil. Conditions: none. -/
namespace Go.Lx
open Go Go.Vc Go.Md
structure RC (P : Program) (n : Nat) (c : Code) (Q : Ui) (m : Nat) (e : Xd) (w : World) : Prop where
 out : ∀ a, Sim n a e → Code.rounds P c (lift n Q) m a w
section rules
variable {P : Program} {n : Nat} {Q : Ui} {cx : Cx} {K : Xd → World → Prop} {e : Xd} {L : List Chunk}
end rules
end Go.Lx

/- Rules: three results, of which the first one is a cell. Conditions: named in each rule. -/
namespace Go.Lx
open Go Go.Vc Go.Md Go.Shelf Go.Sort Go.Proofs
variable {P : Program} {cx : Cx} {L : List Chunk} {e : Xd}
section
open Go.Sort Go.Shelf
end
end Go.Lx

/- Rules: the store of a whole element into a nested row. Conditions: none. -/
namespace Go.Lx
open Go Go.Vc Go.Md
section
variable {α : Type} {G : Jx → (Nat → Value) → α → Prop} {h : Jx} {sz : Nat} {css : List (List Value)} {xs ys : List α} {i : Int} {x' : α} {vs : List Value}
theorem AllC.setE (p : AllC G h sz css xs) (g : gSet xs i x' = some ys) (hl : vs.length = sz) (hG : G h (fun q => vs.getD q undef) x') : AllC G h sz (css.set i.toNat vs) ys := by
 obtain ⟨h0, h1, rfl⟩ := Ut g
 refine ⟨by rw [List.length_set, p.len, List.length_set], fun k c y hc hy => ?_⟩
 rw [List.getElem?_set] at hc hy
 by_cases hk : i.toNat = k
 ·subst hk
  rw [if_pos rfl, if_pos (by rw [p.len]; exact h1)] at hc
  rw [if_pos rfl, if_pos h1] at hy
  cases hc; cases hy
  exact ⟨hl, hG⟩
 ·rw [if_neg hk] at hc hy
  exact p.el k c y hc hy
end
end Go.Lx

/- Rules: calls whose result the memory leaves open: what follows is told ahead (the model takes what follows as an argument). Conditions: named in each rule. -/
namespace Go.Lx
open Go Go.Vc Go.Md Go.Shelf Go.Sort Go.Proofs
section rules
variable {P : Program} {n : Nat} {cx : Cx} {Q : Ui} {e : Xd} {L : List Chunk} {ops : Array Oper} {rest : List Oper} {ty : TypeId} {pos : String} {af : Array Edge} {g : Option (Nat × Bool)}
end rules
section
end
section
open Go.Vc
variable {P : Program} {n : Nat} {cx : Cx} {e : Xd} {L : List Chunk} {d : Nat} {ty : TypeId} {pos : String} {af : Array Edge} {g : Option (Nat × Bool)}
theorem imp_room1 {E sz n c : Nat} {a : Option Addr} {xs : List (List Value)} (h : n + 1 ≤ c) : Imp (Z1 E sz (.slice a n c) n xs) (exC fun y : List Value => Z1 E sz (.slice a (n + 1) c) (n + 1) (xs ++ [y])) := ⟨fun S w hp => by
 obtain ⟨g0, off, cur, rfl, hSg, hh, hnc, hcm, hfit, htk⟩ := rowO_off hp (by omega)
 have hle : (n + 1) * sz ≤ c * sz := Nat.mul_le_mul_right _ h
 have hl : (((cur.toList.drop off).drop (n * sz)).take sz).length = sz := by
  rw [Nat.add_mul, Nat.one_mul] at hle
  rw [List.length_take, List.length_drop, List.length_drop, Array.length_toList]; omega
 refine ⟨((cur.toList.drop off).drop (n * sz)).take sz, ⟨.inr ⟨g0, off, c, cur, rfl, hh, h, hcm, hfit, ?_⟩, ?_, ?_⟩, hp.2⟩
 ·rw [Nat.add_mul, Nat.one_mul, List.take_add, htk, List.flatten_append]; simp
 ·rw [List.length_append, hp.1.2.1]; rfl
 ·intro x hx
  rcases List.mem_append.1 hx with hx | hx
  ·exact hp.1.2.2 x hx
  ·rw [List.mem_singleton.1 hx]; exact hl⟩
theorem turns_copyKO {xs news : List (List Value)} {i : Nat} {D X : Operand} {t u E : TypeId} {I : TypeInfo} {sz : Nat} {p : Option Addr × Nat} {rds : List Nat} {ax : Option Addr} {dl cd c m a q k : Nat} {dst : Option Nat}
  (ht : P.underlying t = some (.slice E)) (hi : P.info? E = some I) (hsize : I.size = sz)
  (hL : L[i]? = some (Z1 E sz (.slice p.1 m p.2) m xs)) (hm : m = xs.length) (hd : ev e D = .slice (Qz p.1 a p.2 sz) dl cd) (ha : a + dl ≤ m) (hx : ev e X = .slice ax q c) (hql : min q dl = k) (hk : k = news.length) (hq0 : 0 < k)
  (hnews : ∀ w L', Fr cx w → Sat cx w L' → (∀ j, j ∈ rds ∨ j = i → L'[j]? = L[j]?) → Row w ax sz news) (hnl : ∀ x ∈ news, x.length = sz) (h1 : ∀ x ∈ news, ∀ u ∈ x, u.oneCell' = true) :
  Turns P cx e ⟨dst, .call ⟨.builtin .copy, #[D, X], #[t, u]⟩, ty, pos, af, g⟩ L i rds (fun _ : Unit => .int .i64 (k : Int)) (fun _ => Z1 E sz (.slice p.1 m p.2) m (xs.take a ++ news ++ xs.drop (a + k))) := by
 subst hsize hm
 intro w L' hF hS hl hi'
 have hr := hnews w L' hF hS hi'
 have hL' := (hi' i (.inr rfl)).trans hL
 obtain ⟨S0, hC, hlt⟩ := hS.at hL'
 have hlx : ∀ x ∈ xs, x.length = I.size := hC.1.2.2
 have hkd : k ≤ dl := by omega
 have hcap : 0 < p.2 := by
  have := capOfO hS hL'
  omega
 obtain ⟨g0, off, cur, e1, hSg, hh, hnc, hcm, hfit0, htk⟩ := rowO_off hC hcap
 have hall : ∀ x ∈ xs.take a ++ news ++ xs.drop (a + k), x.length = I.size := fun x hx => by
  rcases List.mem_append.1 hx with h | h
  ·rcases List.mem_append.1 h with h | h
   ·exact hlx x (List.mem_of_mem_take h)
   ·exact hnl x h
  ·exact hlx x (List.mem_of_mem_drop h)
 have hle : (xs.take a ++ news ++ xs.drop (a + k)).length = xs.length := by
  simp only [List.length_append, List.length_take, List.length_drop]; omega
 have hcut : Qz p.1 a p.2 I.size = some ⟨g0, off + a * I.size, none⟩ := by
  rw [e1]; unfold Qz
  rw [if_neg (by omega)]; simp [Addr.add_lit]
 rcases hr with hr | ⟨b, off', hax, hr⟩
 ·rw [hr] at hk; exact absurd hq0 (by simp [hk])
 subst hax
 have hfl : news.flatten.length = k * I.size := by rw [Yk news hnl, hk]
 have hcell : ∀ j u, news.flatten[j]? = some u → w.cell? ((⟨b, off', none⟩ : Addr).add j) = some u := by
  intro j u hj
  obtain ⟨i', k', x, g1, g2, g3⟩ := Uj news hnl j u hj
  have := (hr i' x g1).2 k' u g2
  rw [Addr.add_lit, g3, ← Nat.add_assoc]
  exact this
 have hone : ∀ u ∈ news.flatten, u.oneCell' = true := fun u hu => by
  obtain ⟨x, hx, hux⟩ := List.mem_flatten.1 hu
  exact h1 x hx u hux
 have hcur : cur.toList.length = cur.size := Array.length_toList
 have hsum : (a + k) * I.size ≤ xs.length * I.size := Nat.mul_le_mul_right _ (by omega)
 have hsum2 : xs.length * I.size ≤ p.2 * I.size := Nat.mul_le_mul_right _ hnc
 have hfit : off + a * I.size + news.flatten.length ≤ cur.size := by
  rw [Nat.add_mul] at hsum; omega
 have hfc := run_firstCells_some (P := P) w I.size k ⟨b, off', none⟩ q c news.flatten hfl hcell
 have hst := run_storeCells_at (P := P) g0 (off + a * I.size) E news.flatten 0 cur w hh (by simpa using hfit) hone
 simp only [Nat.add_zero] at hst
 have hk1 : ¬ k = 0 := by omega
 have hr2 : (Builtin.copy_ #[t, u] ty #[.slice (some ⟨g0, off + a * I.size, none⟩) dl cd, .slice (some ⟨b, off', none⟩) q c]).run P w = .ok (goInt k) (w.setRow g0 (cur.toList.take (off + a * I.size) ++ news.flatten ++ cur.toList.drop (off + a * I.size + news.flatten.length)).toArray) := by
  have hql2 : Nat.min q dl = k := hql
  simp [Builtin.copy_, run_underlying ht, Builtin.lenOf, sizeOf, typeInfo, hi, hql, hql2, hfc, hst]
 have hexec : (execOp (ev e) ⟨dst, .call ⟨.builtin .copy, #[D, X], #[t, u]⟩, ty, pos, af, g⟩).run P w = .ok (.value (.int .i64 (k : Int))) (w.setRow g0 (cur.toList.take (off + a * I.size) ++ news.flatten ++ cur.toList.drop (off + a * I.size + news.flatten.length)).toArray) := by
  simp only [execOp, resolve, invoke, builtin, Sem.run_bind, Sem.run_pure, Result.andThen_ok, List.map_toArray, List.map_cons, List.map_nil, hd, hcut, hx, hr2]
  rfl
 have hxf : xs.flatten.length = xs.length * I.size := Yk xs hlx
 have e2 : (xs.take a ++ news ++ xs.drop (a + k)).flatten = xs.flatten.take (a * I.size) ++ news.flatten ++ xs.flatten.drop ((a + k) * I.size) := by
  rw [List.flatten_append, List.flatten_append, ← flat_takeN _ hlx, ← flat_dropN _ hlx]
 generalize hnew : (cur.toList.take (off + a * I.size) ++ news.flatten ++ cur.toList.drop (off + a * I.size + news.flatten.length)) = new at hexec
 have hsz2 : new.toArray.size = cur.size := by
  rw [← hnew]
  simp only [List.size_toArray, List.length_append, List.length_take, List.length_drop, hcur]; omega
 have htk2 : (new.drop off).take (xs.length * I.size) = (xs.take a ++ news ++ xs.drop (a + k)).flatten := by
  have hal : a * I.size ≤ xs.flatten.length := by rw [hxf]; exact Nat.mul_le_mul_right _ (by omega)
  have e3 : (cur.toList.take (off + a * I.size)).drop off = xs.flatten.take (a * I.size) := by
   rw [List.drop_take, Nat.add_sub_cancel_left, ← htk, List.take_take, Nat.min_eq_left (by rw [hxf] at hal; exact hal)]
  have e5 : (cur.toList.drop (off + a * I.size + news.flatten.length)) = (cur.toList.drop off).drop ((a + k) * I.size) := by
   rw [List.drop_drop, hfl, Nat.add_mul, Nat.add_assoc]
  have e6 : cur.toList.drop off = xs.flatten ++ (cur.toList.drop off).drop (xs.length * I.size) := by rw [← htk, List.take_append_drop]
  rw [e2, ← hnew, List.append_assoc, List.drop_append_of_le_length (by rw [List.length_take, hcur]; omega), e3, e5, e6, List.drop_append_of_le_length (by rw [hxf]; exact hsum)]
  rw [← List.append_assoc, ← List.append_assoc]
  have hl3 : (xs.flatten.take (a * I.size) ++ news.flatten ++ xs.flatten.drop ((a + k) * I.size)).length = xs.length * I.size := by
   rw [← e2, Yk _ hall, hle]
  rw [← hl3, List.take_left]
 obtain ⟨hF', hS'⟩ := hS.turnOf hF hL' (C := Z1 E I.size (.slice p.1 xs.length p.2) xs.length (xs.take a ++ news ++ xs.drop (a + k))) (w' := w.setRow g0 new.toArray) fun S1 hp => by
  have hg1 : S1 g0 := hp.2 g0 (by rw [e1]; rfl)
  refine ⟨rfl, rfl, rfl, by simp [World.setRow], fun b' hb' hn => ?_, (fun x => x = g0), ⟨⟨.inr ⟨g0, off, p.2, _, by rw [e1], setRow_heap w g0 cur _ E _ hh, hnc, hcm, by rw [hsz2]; exact hfit0, htk2⟩, hle, hall⟩, fun b' hb' => by rw [e1] at hb'; cases hb'; rfl⟩, fun b' hb' => ⟨?_, .inl (by rw [hb']; exact hg1)⟩⟩
  ·exact setRow_other w g0 b' _ fun h => hn (by rw [h]; exact hg1)
  ·rw [hb', setRow_size]; exact (Array.getElem?_eq_some_iff.1 hh).1
 unfold RunsTo
 rw [hexec]
 exact ⟨(), rfl, hF', hS'⟩
end
section
variable {P : Program} {e : Xd} {d : Option Nat} {ty : TypeId} {pos : String} {af : Array Edge} {g : Option (Nat × Bool)}
theorem Row.pre {w : World} {a : Option Addr} {sz : Nat} {xs ys : List (List Value)} (h : Row w a sz (xs ++ ys)) : Row w a sz xs := by
 rcases h with h | ⟨b, off, ha, h⟩
 ·exact .inl (List.append_eq_nil_iff.1 h).1
 ·refine .inr ⟨b, off, ha, fun i x hx => h i x ?_⟩
  rw [List.getElem?_append_left (List.getElem?_eq_some_iff.1 hx).1]; exact hx
theorem run_sliceHRoom {X B : Operand} {a : Option Addr} {m c : Nat} {t u sz : Nat} {kb : IntKind} {q : Int} (hu : P.underlying t = some (.slice u)) (hs : ∀ w, (sizeOf u).run P w = .ok sz w)
  (hx : ev e X = .slice a m c) (hb : ev e B = .int kb q) (h0 : 0 ≤ q) (h1 : q ≤ c) (w : World) :
  (execOp (ev e) ⟨d, .slice t X none (some B) none, ty, pos, af, g⟩).run P w = .ok (.value (.slice a q.toNat c)) w := by
 rw [r_sliceH hu hs hx hb h0 h1 w, cutA_zero]
theorem run_ovl {f t tb E E' sz b2 T2 : Nat} {cs1 : Array Value} (h0 : ∀ x y w, (callFunc f (List.toArray [x, y])).run P w = (do pure (.value (← Extern.SlicesOverlaps.overlaps #[t, t] #[tb] #[x, y])) : Sem Next).run P w) (ht : P.underlying t = some (.slice E)) (hs : ∀ w, (sizeOf E).run P w = .ok sz w) (hsz : Nat.blt 0 sz = true)
  {w : World} {S : Nat → Prop} {n c l q k : Nat} {a : Option Addr} {xs : List (List Value)} (hC : (Z1 E' sz (.slice a n c) n xs).P S w) (hc : 0 < c) (hb2 : w.heap[b2]? = some (.cells cs1 T2 (0, 0))) (hne : ¬ S b2) {X Y : Operand} {tys : Array TypeId}
  (hx : ev e X = .slice (some ⟨b2, 0, none⟩) 1 1) (hy : ev e Y = .slice (Qz a l c sz) q k) : (execOp (ev e) ⟨d, .call ⟨.value (.func f), #[X, Y], tys⟩, ty, pos, af, g⟩).run P w = .ok (.value (.bool false)) w := by
 obtain ⟨g0, off, cur, rfl, hSg, hh, _, _, hfit, _⟩ := rowO_off hC hc
 have hsz' : 0 < sz := by simpa using hsz
 have hcs : 0 < c * sz := Nat.mul_pos hc hsz'
 have hcut : ∃ o, Qz (some ⟨g0, off, none⟩) l c sz = some ⟨g0, o, none⟩ := by
  unfold Qz
  split
  ·exact ⟨off, rfl⟩
  ·exact ⟨off + l * sz, by simp [Addr.add_lit]⟩
 obtain ⟨o, ho⟩ := hcut
 rw [ho] at hy
 have hbg : b2 ≠ g0 := fun h => hne (h ▸ hSg)
 have key := Lib.run_overlaps_apart (P := P) w t tb E ht sz hs ⟨b2, 0, none⟩ ⟨g0, o, none⟩ 1 1 q k hbg T2 E' cs1.size cur.size (by simp [World.shape?, hb2]) (by simp [World.shape?, hh]) (by omega) (by simp [World.frozen?, hb2]) (by simp [World.frozen?, hb2])
 have hcall : (callFunc f (List.toArray [.slice (some ⟨b2, 0, none⟩) 1 1, .slice (some ⟨g0, o, none⟩) q k])).run P w = .ok (.value (.bool false)) w := by
  rw [h0]
  simp only [Sem.run_bind, key, Result.andThen_ok, Sem.run_pure]
 have hA : (#[X, Y] : Array Operand).map (ev e) = List.toArray [.slice (some ⟨b2, 0, none⟩) 1 1, .slice (some ⟨g0, o, none⟩) q k] := by simp [hx, hy]
 simp only [execOp, resolve, ev, Deferred.ofValue, Sem.run_bind, Sem.run_pure, Result.andThen_ok, invoke, hcall, Array.append_empty, Array.empty_append]
 rw [hA, hcall]
end
section
open Go.Vc
variable {P : Program} {cx : Cx} {e : Xd} {L : List Chunk} {d : Option Nat} {ty : TypeId} {pos : String} {af : Array Edge} {g : Option (Nat × Bool)}
end
end Go.Lx

/- Short forms of rules, second part; a return of four values. Conditions: none. -/
namespace Go.Lx
open Go Go.Md Go.Vc Go.Shelf Go.Sort Go.Proofs
section
variable {P : Program} {n : Nat} {cx : Cx} {Q : Ui} {e : Xd} {L : List Chunk} {ops : Array Oper} {rest : List Oper} {d : Nat} {ty : TypeId} {pos : String} {af : Array Edge} {g : Option (Nat × Bool)}
theorem st {i : Nat} {T T0 b o sz : Nat} {A X : Operand} {x : Value} {cs : List Value} (vs cs' : List Value) (hs : ∀ w, (sizeOf T).run P w = .ok sz w)
  (hp : ev e A = .pointer (some ⟨b, o, none⟩)) (hL : L[i]? = some (Jv b cs T0)) (k : At cx (WL P n ops Q rest) e (L.set i (Jv b cs' T0)))
  (hw : Xz ops ⟨none, .store T A X, ty, pos, af, g⟩ e = true := by exact rfl) (hx : ev e X = x := by exact rfl) (hc : x.cells.toList = vs := by exact rfl) (hsz : vs.length = sz := by exact rfl) (hpos : Nat.blt 0 sz = true := by exact rfl)
  (hone : vs.all Value.oneCell' = true := by exact rfl) (hv : wr cs o vs = some cs' := by exact rfl) :
  At cx (WL P n ops Q (⟨none, .store T A X, ty, pos, af, g⟩ :: rest)) e L := Qi hs hw hp hx hc hsz hpos hone hL hv k
theorem bo {K : Xd → World → Prop} (i j : Nat) {C D : Chunk} (hi : L[i]? = some C) (hj : L[j]? = some D) (k : At cx K e ((L.set i (Xx C D)).set j empC)) (hne : i ≠ j := by decide) : At cx K e L := Wy i j hi hj hne k
theorem cl {σ τ : Type} {sv : σ → τ → List (Nat × Value)} {hp : σ → τ → List Chunk} {I : σ → τ → Nat → Prop} {m : Nat} (s : σ) (t : τ) (k : Nat) (sel : List Nat) (hI : I s t k)
  (hst : Agree e (sv s t) := by (repeat (first | exact trivial | refine ⟨rfl, ?_⟩))) (hnd : sel.Nodup := by decide) (hL : sel.map (fun i => L[i]?) = (hp s t).map some := by kernel_rfl) (hm : k < m := by exact Nat.lt_succ_self _) :
  At cx (RoundA cx sv hp I m) e L := Jr s t k sel hst hnd hL hI hm
theorem sp {α : Type} {x y r : Option α} {K : Xd → World → Prop} {b : Bool} (ht : b = true → x = r → At cx K (upd e d (.bool true)) L) (hf : b = false → y = r → At cx K (upd e d (.bool false)) L) (H : Qj b x y = r) :
  At cx K (upd e d (.bool b)) L := split (fun h => ht h (Jo h H)) (fun h => hf h (Jp h H))
end
section
variable {P : Program} {cx : Cx} {e : Xd} {L : List Chunk} {ops : Array Oper} {F : Xd → List Chunk → Prop} {rest : List Oper} {ss : List Kd} {d : Nat} {ty : TypeId} {pos : String} {af : Array Edge} {g : Option (Nat × Bool)}
theorem dv {o : Op} {v : Value} (hr : ∀ w, (execOp (ev e) ⟨some d, o, ty, pos, af, g⟩).run P w = .ok (.value v) w) (k : Sq P cx ops F rest ss (upd e d v) L) (hw : Xz ops ⟨some d, o, ty, pos, af, g⟩ e = true := by exact rfl) :
  Sq P cx ops F (⟨some d, o, ty, pos, af, g⟩ :: rest) (.p :: ss) e L := Jj hw rfl hr k
theorem dl {i : Nat} {T T0 b o : Nat} {A : Operand} {cs : List Value} (v : Value) (hA : ∀ w, (isAgg T).run P w = .ok false w) (k : Sq P cx ops F rest ss (upd e d v) L)
  (hw : Xz ops ⟨some d, .load T A, ty, pos, af, g⟩ e = true := by exact rfl) (hp : ev e A = .pointer (some ⟨b, o, none⟩) := by exact rfl) (hL : L[i]? = some (Jv b cs T0) := by exact rfl) (hv : rg cs o = some v := by exact rfl) :
  Sq P cx ops F (⟨some d, .load T A, ty, pos, af, g⟩ :: rest) (.d [i] v :: ss) e L := Qx hA hw hp hL hv k
end
section
variable {P : Program} {cx : Cx} {e : Xd} {L : List Chunk}
theorem r1 {fn : Func} {t : Tmp} {v : Value} {w0 : World} (V : Value) (hr : fn.results = #[.tmp t] := by exact rfl) (ht : e t = V := by exact rfl) (h : V = v := by exact rfl) :
  At ⟨w0, fun _ => False⟩ (BodyQ P fn (fun v' w' => v' = v ∧ Grow w0 w') .ret) e L := J5 hr ht (fin h)
end
end Go.Lx

/- append onto a slice without room whose elements are only read: a new row. Conditions: none. -/
namespace Go.Lx
open Go Go.Vc Go.Md
section
variable {P : Program} {n : Nat} {cx : Cx} {Q : Ui} {e : Xd} {L : List Chunk} {ops : Array Oper} {rest : List Oper} {d : Nat} {ty : TypeId} {pos : String} {af : Array Edge} {g : Option (Nat × Bool)}
theorem makes_appR {xs news : List (List Value)} {S X : Operand} {t E : TypeId} {I : TypeInfo} {z : Value} {sz by_ m q c cap : Nat} {a : Option Addr} {ad : Addr} {rds : List Nat}
  (ht : P.underlying t = some (.slice E)) (hi : P.info? E = some I) (hz : I.zero = some z) (hsize : I.size = sz) (hby : I.bytes = by_) (hzs : z.cells.size = sz) (hsz : Nat.blt 0 sz = true)
  (hs : ev e S = .slice a m cap) (hx : ev e X = .slice (some ad) q c) (hm : xs.length = m) (hxl : ∀ x ∈ xs, x.length = sz)
  (hxr : ∀ w L', Fr cx w → Sat cx w L' → (∀ j, j ∈ rds → L'[j]? = L[j]?) → Row w a sz xs) (hnone : a = none → cap = 0) (hq : news.length = q) (hnl : ∀ x ∈ news, x.length = sz)
  (hnews : ∀ w L', Fr cx w → Sat cx w L' → (∀ j, j ∈ rds → L'[j]? = L[j]?) → Row w (some ad) sz news) (h1 : ∀ x ∈ news, ∀ u ∈ x, u.oneCell' = true)
  (hg : cap < m + q) (h63 : m + q ≤ maxLen) (hbytes : (m + q) * by_ ≤ 140737488355328) :
  Makes P cx e ⟨some d, .call ⟨.builtin .append, #[S, X], #[t, t]⟩, ty, pos, af, g⟩ L rds (fun p' : Option Addr × Nat => .slice p'.1 (m + q) p'.2) (fun p' => Xa E sz (.slice p'.1 (m + q) p'.2) (m + q) (xs ++ news)) := by
 subst hsize
 intro w L' hF hS hi'
 have hsz' : 0 < I.size := by simpa using hsz
 have hfl : news.flatten.length = q * I.size := by rw [Yk news hnl, hq]
 have hfx : xs.flatten.length = m * I.size := by rw [Yk xs hxl, hm]
 have hle : (xs ++ news).length = m + q := by simp [hm, hq]
 have hall : ∀ x ∈ xs ++ news, x.length = I.size := fun x hx => by
  rcases List.mem_append.1 hx with h | h
  ·exact hxl x h
  ·exact hnl x h
 have hflat : (xs ++ news).flatten = xs.flatten ++ news.flatten := List.flatten_append
 have cell : ∀ (zs : List (List Value)) (b : Addr), (∀ x ∈ zs, x.length = I.size) → Row w (some b) I.size zs → ∀ j u, zs.flatten[j]? = some u → w.cell? (b.add j) = some u := by
  intro zs b hl hr j u hj
  obtain ⟨i', k', x, g1, g2, g3⟩ := Uj zs hl j u hj
  rcases hr with h | ⟨b', off, ha, h⟩
  ·subst h; simp at g1
  ·cases ha
   have := (h i' x g1).2 k' u g2
   rw [Addr.add_lit, g3, ← Nat.add_assoc]
   exact this
 have hcell := cell news ad hnl (hnews w L' hF hS hi')
 have hone : ∀ u ∈ news.flatten, u.oneCell' = true := fun u hu => by
  obtain ⟨x, hx, hux⟩ := List.mem_flatten.1 hu
  exact h1 x hx u hux
 have fin : ∀ v' w', (execOp (ev e) ⟨some d, .call ⟨.builtin .append, #[S, X], #[t, t]⟩, ty, pos, af, g⟩).run P w = .ok (.value v') w' → w'.ownsRow 0 E I.size v' (m + q) (xs.flatten ++ news.flatten) → (∀ b', v'.ownBlock = some b' → w.heap.size ≤ b') →
   (w'.os = w.os ∧ w'.tape = w.tape ∧ w'.output = w.output ∧ w.heap.size ≤ w'.heap.size ∧ ∀ b', b' < w.heap.size → w'.heap[b']? = w.heap[b']?) →
   RunsTo P (ev e) ⟨some d, .call ⟨.builtin .append, #[S, X], #[t, t]⟩, ty, pos, af, g⟩ w fun v w' => ∃ x : Option Addr × Nat, v = .slice x.1 (m + q) x.2 ∧ Turn w w' X3 (Xa E I.size (.slice x.1 (m + q) x.2) (m + q) (xs ++ news)) := by
  intro v' w' hr h2 hb ⟨k1, k2, k3, k4, k5⟩
  obtain ⟨p', rfl⟩ := U3 h2
  rw [← hflat] at h2
  unfold RunsTo
  rw [hr]
  exact ⟨p', rfl, ⟨k1, k2, k3, k4, fun b' hb' _ => k5 b' hb', fun b' => (Value.slice p'.1 (m + q) p'.2).ownBlock = some b', ⟨⟨h2, hle, hall⟩, fun _ h => h⟩, fun b' hb' => ⟨(h2.lt b' hb').2, .inr (hb b' hb')⟩⟩⟩
 cases a with
 | none =>
  have hc0 := hnone rfl
  subst hc0
  have hx0 : xs = [] := by
   rcases hxr w L' hF hS hi' with h | ⟨_, _, ha, _⟩
   ·exact h
   ·cases ha
  subst hx0
  have hm0 : m = 0 := hm.symm
  subst hm0
  obtain ⟨v', w', hr, h2, h3, h5⟩ := run_append_at (P := P) (ty := ty) (pos := pos) (af := af) (g := g) (d := some d) (v := .slice none 0 0) (m := 0) (xs := []) ht hi hz rfl hby hzs hsz' hs ⟨by simp, .inl ⟨rfl, rfl⟩⟩ hx hfl hcell hone h63 hbytes
  refine fin v' w' hr h2 (fun b' hb' => ?_) ⟨h3.os, h3.tape, h3.output, h3.size, fun b' hb' => h3.block b' hb' (by simp [Value.ownBlock])⟩
  rcases h5 with h | h
  ·rw [h] at hb'; cases hb'
  ·rw [h] at hb'; cases hb'; exact Nat.le_refl _
 | some a0 =>
  obtain ⟨v', w', hr, h2, h3⟩ := run_append_arg_grows (P := P) w t ty E I z I.size by_ ht hi hz rfl hby hzs hsz' a0 m cap xs.flatten hfx (cell xs a0 hxl (hxr w L' hF hS hi')) ad q c news.flatten hfl hcell hg h63 hbytes
  refine fin v' w' ?_ (own0 h2) (fun b' hb' => (h2.lt b' hb').1) ⟨h3.os, h3.tape, h3.output, h3.size, fun b' hb' => h3.block b' hb' (by simp)⟩
  simp only [execOp, resolve, invoke, builtin, Sem.run_bind, Sem.run_pure, Result.andThen_ok, List.map_toArray, List.map_cons, List.map_nil, hs, hx, hr]
end
def clipV (sz : Nat) : Value → Value
 | .slice a n _ => .slice (Qz a 0 n sz) n n
 | v => v
theorem cut_self {h : Jx} {a : Option Addr} {sz n : Nat} {xs : List (List Value)} (hr : RowH h a sz xs) : RowH h (Qz a 0 n sz) sz xs ∧ (Qz a 0 n sz = none → a = none) := by
 unfold Qz
 by_cases hn : n = 0
 ·rw [if_pos hn]; exact ⟨hr, id⟩
 ·rw [if_neg hn]
  rcases hr with h0 | ⟨b, off, cs, T, m, rfl, h1, h2⟩
  ·exact ⟨.inl h0, fun e => by cases a with | none => rfl | some _ => cases e⟩
  ·exact ⟨.inr ⟨b, off, cs, T, m, by simp [Addr.add_lit], h1, h2⟩, fun e => by cases e⟩
theorem FrS.clip {h : Jx} {sz : Nat} {v : Value} {xs : List (List Value)} (s : FrS h sz v xs) : FrS h sz (clipV sz v) xs := by
 obtain ⟨a, c, rfl, h1, h2, h3⟩ := s.out
 exact ⟨_, _, rfl, Nat.le_refl _, by omega, (cut_self h3).1⟩
theorem FrS.clipFull {h : Jx} {sz : Nat} {v : Value} {xs : List (List Value)} (s : FrS h sz v xs) : ∃ a, clipV sz v = .slice a xs.length xs.length ∧ (a = none → xs.length = 0) := by
 obtain ⟨a, c, rfl, h1, h2, h3⟩ := s.out
 refine ⟨_, rfl, fun e => ?_⟩
 have := (cut_self (n := xs.length) h3).2 e
 subst this
 rcases h3 with h0 | ⟨_, _, _, _, _, e, _⟩
 ·rw [h0]; rfl
 ·cases e
section
variable {P : Program} {cx : Cx} {e : Xd} {L : List Chunk} {d : Nat} {ty : TypeId} {pos : String} {af : Array Edge} {g : Option (Nat × Bool)}
theorem makes_appZ {α : Type} {f : α → List Value} {H : Jx} {ys ls zs : List α} {S X : Operand} {t E : TypeId} {I : TypeInfo} {z : Value} {sz by_ q c : Nat} {v V : Value} {ad : Addr} {rds : List Nat}
  (ht : P.underlying t = some (.slice E)) (hi : P.info? E = some I) (hz : I.zero = some z) (hsize : I.size = sz) (hby : I.bytes = by_) (hzs : z.cells.size = sz) (hsz : Nat.blt 0 sz = true)
  (hs : ev e S = clipV sz v) (F : FrS H sz v (ys.map f)) (hH : ∀ w, Fr cx w → ∀ b o, H b = some o → w.heap[b]? = some o) (hx : ev e X = V) (hV : V = .slice (some ad) q c) (hq : q = ls.length) (hq0 : 0 < ls.length)
  (hnews : ∀ w L', Fr cx w → Sat cx w L' → (∀ j, j ∈ rds → L'[j]? = L[j]?) → Row w (some ad) sz (ls.map f)) (hf : ∀ x, (f x).length = sz) (h1 : ∀ x, (f x).all Value.oneCell' = true) (hg : Vj by_ ys ls = some zs) :
  Makes P cx e ⟨some d, .call ⟨.builtin .append, #[S, X], #[t, t]⟩, ty, pos, af, g⟩ L rds (fun p' : Option Addr × Nat => .slice p'.1 zs.length p'.2) (fun p' => Xa E sz (.slice p'.1 zs.length p'.2) zs.length (zs.map f)) := by
 subst hq
 obtain ⟨rfl, hb1, hb2⟩ := Vu hg
 obtain ⟨a, ha, hn⟩ := F.clipFull
 have hl : (ys.map f).length = ys.length := List.length_map ..
 rw [hl] at ha hn
 rw [List.length_append, List.map_append]
 have hall : ∀ (l : List α), ∀ x ∈ l.map f, x.length = sz := fun l x hx => by
  obtain ⟨y, _, rfl⟩ := List.mem_map.1 hx; exact hf y
 have hrow : ∀ w, Fr cx w → Row w a sz (ys.map f) := fun w hF => by
  have := (F.clip).row (w := w) (hH w hF)
  rwa [ha] at this
 exact makes_appR (a := a) (cap := ys.length) ht hi hz hsize hby hzs hsz (hs.trans ha) (hx.trans hV) hl (hall ys) (fun w L' hF _ _ => hrow w hF) hn (by rw [List.length_map]) (hall ls) hnews (fun x hx u hu => by
  obtain ⟨y, _, rfl⟩ := List.mem_map.1 hx; exact List.all_eq_true.1 (h1 y) u hu) (by omega) (by simp only [maxLen]; omega) hb2
end
section
variable {P : Program} {cx : Cx} {e : Xd} {L : List Chunk} {ops : Array Oper} {F : Xd → List Chunk → Prop} {rest : List Oper} {ss : List Kd} {d : Nat} {ty : TypeId} {pos : String} {af : Array Edge} {g : Option (Nat × Bool)}
theorem d_callDV {f : FuncId} {A : Array Operand} {tys : Array TypeId} {args : List Value} {v : Value} {φ : Value → Value} {a : Nat} {rds : List Nat} (hv : φ (e a) = v)
  (h : ∀ w L', Fr cx w → Sat cx w L' → (∀ i ∈ rds, L'[i]? = L[i]?) → Does P f args.toArray w fun v' w' => v' = v ∧ Grow w w') (hc : ∀ args w, (callFunc f args).run P w = .ok (.enter f args) w)
  (hw : Xz ops ⟨some d, .call ⟨.value (.func f), A, tys⟩, ty, pos, af, g⟩ e = true) (ha : A.toList.map (ev e) = args)
  (k : Sq P cx ops F rest ss (upd e d v) L) : Sq P cx ops F (⟨some d, .call ⟨.value (.func f), A, tys⟩, ty, pos, af, g⟩ :: rest) (.dv a rds φ :: ss) e L := by
 subst hv
 refine .take hw ⟨_, rfl⟩ ⟨fun w L' hF hS _ hi => ?_⟩ fun v' hv' => ?_
 ·have h2 := h w L' hF hS fun i hm => hi i (.inl hm)
  unfold RunsTo
  rw [run_call hc ha]
  exact h2.mono fun v' w' ⟨h1, h3⟩ => ⟨h1, hF.grow h3, hS.grow h3⟩
 ·have : v' = φ (e a) := hv'
  subst this
  exact k
end
section
variable {P : Program} {cx : Cx} {e : Xd} {L : List Chunk} {d : Nat} {ty : TypeId} {pos : String} {af : Array Edge} {g : Option (Nat × Bool)}
theorem turns_appGm {α : Type} {f : α → List Value} {ys ls zs : List α} {i : Nat} {S X : Operand} {t E : TypeId} {I : TypeInfo} {z : Value} {sz by_ : Nat} {p : Option Addr × Nat} {rds : List Nat} {V : Value} {a : Option Addr} {c m q : Nat} (hn : m = ys.length)
  (ht : P.underlying t = some (.slice E)) (hi : P.info? E = some I) (hz : I.zero = some z) (hsize : I.size = sz) (hby : I.bytes = by_) (hzs : z.cells.size = sz) (hsz : Nat.blt 0 sz = true)
  (hL : L[i]? = some (Xa E sz (.slice p.1 m p.2) m (ys.map f))) (hs : ev e S = .slice p.1 m p.2) (hx : ev e X = V) (hV : V = .slice a q c) (hq : q = ls.length)
  (hnews : ∀ w L', Fr cx w → Sat cx w L' → (∀ j, j ∈ rds → L'[j]? = L[j]?) → Row w a sz (ls.map f)) (hf : ∀ x ∈ ls, (f x).length = sz) (h1 : ∀ x ∈ ls, (f x).all Value.oneCell' = true) (hg : Vj by_ ys ls = some zs) :
  Turns P cx e ⟨some d, .call ⟨.builtin .append, #[S, X], #[t, t]⟩, ty, pos, af, g⟩ L i rds (fun p' : Option Addr × Nat => .slice p'.1 zs.length p'.2) (fun p' => Xa E sz (.slice p'.1 zs.length p'.2) zs.length (zs.map f)) := by
 subst hn hq
 obtain ⟨rfl, hb1, hb2⟩ := Vu hg
 rw [List.length_append]
 cases ha : a with
 | some ad =>
  subst ha
  exact turns_append (ad := ad) ht hi hz hsize hby hzs hsz hL hs (hx.trans hV) (by rw [List.length_map]) (fun x hx => by
   obtain ⟨y, hy, rfl⟩ := List.mem_map.1 hx; exact hf y hy) hnews (fun x hx u hu => by
   obtain ⟨y, hy, rfl⟩ := List.mem_map.1 hx; exact List.all_eq_true.1 (h1 y hy) u hu) (by rw [List.map_append]) rfl (by omega) hb2
 | none =>
  subst ha
  intro w L' hF hS hl hi'
  have hr := hnews w L' hF hS fun j hj => hi' j (.inl hj)
  have hls : ls = [] := by
   rcases hr with h | ⟨b, off, h, _⟩
   ·simpa using h
   ·cases h
  subst hls
  have hL' := (hi' i (.inr rfl)).trans hL
  obtain ⟨S0, ⟨⟨ho, _⟩, _⟩, _⟩ := hS.at hL'
  have he : (execOp (ev e) ⟨some d, .call ⟨.builtin .append, #[S, X], #[t, t]⟩, ty, pos, af, g⟩).run P w = .ok (.value (.slice p.1 ys.length p.2)) w := by
   simp only [execOp, resolve, invoke, builtin, Sem.run_bind, Sem.run_pure, Result.andThen_ok, List.map_toArray, List.map_cons, List.map_nil, hs, hx, hV, List.length_nil, run_append_none_cap t ty E I sz ht hi _ _ _ c ho]
  unfold RunsTo
  rw [he]
  refine ⟨p, by simp, hF, ?_⟩
  have : L'.set i (Xa E sz (.slice p.1 (ys.length + 0) p.2) (ys.length + 0) ((ys ++ []).map f)) = L' := by
   rw [List.append_nil, Nat.add_zero]
   refine List.ext_getElem? fun j => ?_
   rw [List.getElem?_set]
   split
   ·rename_i h; subst h
    split
    ·exact hL'.symm
    ·rename_i h; rw [List.getElem?_eq_none (by omega)]
   ·rfl
  show Sat cx w (L'.set i (Xa E sz (.slice p.1 (ys.length + ([] : List α).length) p.2) (ys.length + ([] : List α).length) ((ys ++ []).map f)))
  rw [List.length_nil, this]
  exact hS
end
section
variable {α : Type} {G : Jx → (Nat → Value) → α → Prop} {h : Jx} {sz : Nat} {css : List (List Value)} {xs : List α}
theorem AllC.lens (p : AllC G h sz css xs) : ∀ x ∈ css, (idC x).length = sz := by
 intro x hx
 obtain ⟨i, hi, rfl⟩ := List.getElem_of_mem hx
 have hi2 : i < xs.length := p.len ▸ hi
 exact (p.el i css[i] xs[i] (List.getElem?_eq_getElem hi) (List.getElem?_eq_getElem hi2)).1
theorem AllC.one1 (hG : ∀ {c : Nat → Value} {x : α}, G h c x → (c 0).oneCell' = true) (p : AllC G h 1 css xs) : ∀ x ∈ css, (idC x).all Value.oneCell' = true := by
 intro x hx
 obtain ⟨i, hi, rfl⟩ := List.getElem_of_mem hx
 have hi2 : i < xs.length := p.len ▸ hi
 obtain ⟨h1, h2⟩ := p.el i css[i] xs[i] (List.getElem?_eq_getElem hi) (List.getElem?_eq_getElem hi2)
 have h3 := hG h2
 match hc : css[i], h1 with
 | [v], _ => simp only [hc, List.getD_cons_zero] at h3; simp [idC, h3]
end
end Go.Lx

/- In a drawn region: a nested result appended to a nested row; what it leaves is told behind the region. Conditions: those that each rule names. -/
namespace Go.Lx
open Go Go.Vc Go.Md
section
variable {P : Program} {cx : Cx} {e : Xd} {L : List Chunk} {ops : Array Oper} {F : Xd → List Chunk → Prop} {rest : List Oper} {ss : List Kd}
variable {d : Nat} {ty : TypeId} {pos : String} {af : Array Edge} {g : Option (Nat × Bool)}
end
section
variable {α : Type} {G : Jx → (Nat → Value) → α → Prop} {h : Jx} {sz : Nat} {v : Value} {xs : List α}
theorem elC_getD (h : Jx) (v : Value) (sz i : Nat) : (fun j => (Wu h v sz i).getD j undef) = Qb h v sz i := by
 funext j
 rw [List.getD_eq_getElem?_getD]
 unfold Wu
 by_cases hj : j < sz
 ·simp [List.getElem?_range hj]
 ·rw [List.getElem?_eq_none (by simp; omega)]
  simp [Qb, hj]
theorem FrN.allC (f : FrN h sz v G xs) : AllC G h sz ((List.range xs.length).map (Wu h v sz)) xs := by
 refine ⟨by simp, fun i cs x hc hxi => ?_⟩
 have hi : i < xs.length := (List.getElem?_eq_some_iff.1 hxi).1
 rw [List.getElem?_map, List.getElem?_range hi] at hc
 cases hc
 refine ⟨by simp [Wu], ?_⟩
 rw [elC_getD]
 exact f.el i x hxi
theorem AllC.oneN {css : List (List Value)} (hG : ∀ {c : Nat → Value} {x : α}, G h c x → ∀ j, j < sz → (c j).oneCell' = true) (p : AllC G h sz css xs) : ∀ x ∈ css, (idC x).all Value.oneCell' = true := by
 intro x hx
 obtain ⟨i, hi, rfl⟩ := List.getElem_of_mem hx
 have hi2 : i < xs.length := p.len ▸ hi
 obtain ⟨h1, h2⟩ := p.el i css[i] xs[i] (List.getElem?_eq_getElem hi) (List.getElem?_eq_getElem hi2)
 show css[i].all Value.oneCell' = true
 refine List.all_eq_true.2 fun u hu => ?_
 obtain ⟨j, hj, rfl⟩ := List.getElem_of_mem hu
 have h3 := hG h2 j (h1 ▸ hj)
 rwa [List.getD_eq_getElem?_getD, List.getElem?_eq_getElem hj, Option.getD_some] at h3
end
end Go.Lx

/- A nested result whose elements lie in what came in. Conditions: those that each rule names. -/
namespace Go.Lx
open Go Go.Vc Go.Md
section
variable {P : Program} {cx : Cx} {e : Xd} {L : List Chunk}
def rowHD {α : Type} (h : Jx) (E sz : Nat) (G : Jx → (Nat → Value) → α → Prop) (v : Value) (n : Nat) (xs : List α) : Chunk where
 P S w := ∃ css : List (List Value), AllC G h sz css xs ∧ n = css.length ∧ (Xa E sz v n (css.map idC)).P S w
 loc S w w' h := by
  rintro ⟨css, h1, h2, h3⟩
  exact ⟨css, h1, h2, Chunk.loc _ _ _ _ h h3⟩
theorem imp_rowHD {α : Type} {h : Jx} {G : Jx → (Nat → Value) → α → Prop} {E sz n : Nat} {p : Option Addr × Nat} {css : List (List Value)} {xs : List α} (hn : n = css.length) (f : AllC G h sz css xs) :
  Imp (Xa E sz (.slice p.1 n p.2) n (css.map idC)) (rowHD h E sz G (.slice p.1 n p.2) n xs) := ⟨fun S w k => ⟨css, f, hn, k⟩⟩
theorem c_rowHD {K : Xd → World → Prop} {α : Type} {h : Jx} {G : Jx → (Nat → Value) → α → Prop} {E sz n : Nat} {p : Option Addr × Nat} {xs : List α} (i : Nat) (hi : L[i]? = some (rowHD h E sz G (.slice p.1 n p.2) n xs))
  (k : ∀ css : List (List Value), n = css.length → AllC G h sz css xs → At cx K e (L.set i (Xa E sz (.slice p.1 n p.2) n (css.map idC)))) : At cx K e L :=
 c_show (τ := List (List Value)) (D := fun t => Xa E sz (.slice p.1 n p.2) n (t.map idC)) (φ := fun t => n = t.length ∧ AllC G h sz t xs) i hi (fun S w ⟨css, h1, h2, h3⟩ => ⟨css, ⟨h2, h1⟩, h3⟩) fun t ht => k t ht.1 ht.2
end
end Go.Lx

/- Memory of one's own as a heap that is known: what is told over it, a store into it, a row out of it. Conditions: those that each rule names. -/
namespace Go.Lx
open Go Go.Vc Go.Md
def Yi (base : Jx) (Φ : Jx → Prop) : Chunk where
 P S w := ∃ hp, Φ hp ∧ (X9 base hp).P S w
 loc S w w' h := fun ⟨hp, h1, h2⟩ => ⟨hp, h1, Chunk.loc _ _ _ _ h h2⟩
theorem V1 {base hp : Jx} {Φ : Jx → Prop} (h : Φ hp) : Imp (X9 base hp) (Yi base Φ) := ⟨fun _ _ k => ⟨hp, h, k⟩⟩
noncomputable def restr (w : World) (S : Nat → Prop) : Jx := open Classical in fun b => if S b then w.heap[b]? else none
theorem restr_some {w : World} {S : Nat → Prop} {b : Nat} {o : Obj} : restr w S b = some o ↔ S b ∧ w.heap[b]? = some o := by
 classical
 unfold restr
 split
 ·rename_i h; exact ⟨fun k => ⟨h, k⟩, fun k => k.2⟩
 ·rename_i h; exact ⟨fun k => (by cases k), fun k => absurd k.1 h⟩
theorem restr_pool (w : World) (S : Nat → Prop) : (X9 U0 (restr w S)).P S w := ⟨Y7, fun b o h => .inr (restr_some.1 h)⟩
def RowP (h : Jx) (E sz : Nat) (v : Value) (css : List (List Value)) : Prop :=
 (∀ x ∈ css, x.length = sz) ∧ ((v = .slice none 0 0 ∧ css = []) ∨
  ∃ g cap cur, v = .slice (some ⟨g, 0, none⟩) css.length cap ∧ h g = some (.cells cur E (0, 0)) ∧ css.length ≤ cap ∧ cap ≤ maxLen ∧ cur.size = cap * sz ∧ cur.toList.take (css.length * sz) = css.flatten)
theorem RowP.mono {h h' : Jx} {E sz : Nat} {v : Value} {css : List (List Value)} (r : RowP h E sz v css) (k : ∀ b, v.ownBlock = some b → ∀ o, h b = some o → h' b = some o) : RowP h' E sz v css := by
 refine ⟨r.1, r.2.imp id ?_⟩
 rintro ⟨g, cap, cur, rfl, hb, rest⟩
 exact ⟨g, cap, cur, rfl, k g rfl _ hb, rest⟩
theorem RowP.of {w : World} {S : Nat → Prop} {E sz n : Nat} {v : Value} {css : List (List Value)} (h : (Xa E sz v n css).P S w) : RowP (restr w S) E sz v css ∧ n = css.length ∧ ∀ b, v.ownBlock = some b → S b := by
 obtain ⟨⟨⟨h1, h2⟩, h3, h5⟩, h4⟩ := h
 subst h3
 refine ⟨⟨h5, ?_⟩, rfl, h4⟩
 rcases h2 with ⟨rfl, h0⟩ | ⟨g, cap, cur, rfl, _, hh, q1, q2, q3, q4⟩
 ·exact .inl ⟨rfl, List.length_eq_zero_iff.1 h0⟩
 ·exact .inr ⟨g, cap, cur, rfl, restr_some.2 ⟨h4 g rfl, hh⟩, q1, q2, q3, q4⟩
theorem RowP.row {h : Jx} {E sz : Nat} {v : Value} {css : List (List Value)} (r : RowP h E sz v css) {w : World} {S : Nat → Prop} (hw : ∀ b, v.ownBlock = some b → S b ∧ ∀ o, h b = some o → w.heap[b]? = some o) : (Xa E sz v css.length css).P S w := by
 have hfl : css.flatten.length = css.length * sz := by
  have := r.1
  clear r hw
  induction css with
  | nil => simp
  | cons x l ih =>
   rw [List.flatten_cons, List.length_append, ih (fun y hy => this y (.tail _ hy)), this x (.head _), List.length_cons, Nat.add_mul]; omega
 refine ⟨⟨⟨hfl, ?_⟩, rfl, r.1⟩, fun b hb => (hw b hb).1⟩
 rcases r.2 with ⟨rfl, h0⟩ | ⟨g, cap, cur, rfl, hb, q1, q2, q3, q4⟩
 ·exact .inl ⟨rfl, by rw [h0]; rfl⟩
 ·exact .inr ⟨g, cap, cur, rfl, Nat.zero_le _, (hw g rfl).2 _ hb, q1, q2, q3, q4⟩
theorem RowP.frs {h : Jx} {E sz : Nat} {v : Value} {css : List (List Value)} (r : RowP h E sz v css) : FrS h sz v css := by
 rcases r.2 with ⟨rfl, rfl⟩ | ⟨g, cap, cur, rfl, hb, q1, q2, q3, q4⟩
 ·exact ⟨none, 0, rfl, Nat.le_refl _, by decide, .inl rfl⟩
 ·refine ⟨some ⟨g, 0, none⟩, cap, rfl, q1, by simpa [maxLen] using q2, .inr ⟨g, 0, cur, E, (0, 0), rfl, hb, fun i x hx => ⟨r.1 x (List.mem_of_getElem? hx), fun j v hv => ?_⟩⟩⟩
  have hr := row_get css i x (List.all_eq_true.2 fun x hx => by simpa using r.1 x hx) hx j v hv
  rw [← q4, List.getElem?_take] at hr
  split at hr
  ·rw [Array.getElem?_toList] at hr
   rw [← hr, Nat.zero_add]
  ·cases hr
def rmV (h : Jx) (v : Value) : Jx := fun b => if v.ownBlock = some b then none else h b
def updH (h : Jx) (b : Nat) (o : Obj) : Jx := fun c => if c = b then some o else h c
theorem updH_self {h : Jx} {b : Nat} {o : Obj} : updH h b o b = some o := if_pos rfl
theorem updH_ne {h : Jx} {b c : Nat} {o : Obj} (k : c ≠ b) : updH h b o c = h c := if_neg k
section
variable {P : Program} {cx : Cx} {e : Xd} {L : List Chunk} {K : Xd → World → Prop} {ops : Array Oper} {rest : List Oper} {d : Nat} {ty : TypeId} {pos : String} {af : Array Edge} {g : Option (Nat × Bool)}
theorem Ud {base : Jx} {Φ : Jx → Prop} (i : Nat) (hi : L[i]? = some (Yi base Φ)) (k : ∀ hp, Φ hp → At cx K e (L.set i (X9 base hp))) : At cx K e L :=
 c_show (τ := Jx) (D := fun hp => X9 base hp) (φ := Φ) i hi (fun S w h => h) k
theorem imp_thaw {hp : Jx} {E sz n : Nat} {v : Value} {css : List (List Value)} (r : RowP hp E sz v css) (hn : n = css.length) : Imp (X9 U0 hp) (Xx (X9 U0 (rmV hp v)) (Xa E sz v n css)) := ⟨fun S w ⟨h1, h2⟩ => by
 subst hn
 have own : ∀ b, v.ownBlock = some b → ∃ o, hp b = some o := by
  rcases r.2 with ⟨rfl, _⟩ | ⟨g, cap, cur, rfl, hb, _⟩
  ·intro b hb; cases hb
  ·intro b hb'; cases hb'; exact ⟨_, hb⟩
 have key : ∀ b o, hp b = some o → S b ∧ w.heap[b]? = some o := fun b o h => (h2 b o h).elim (fun h => by cases h) id
 refine ⟨fun b => S b ∧ v.ownBlock ≠ some b, fun b => v.ownBlock = some b, ⟨Y7, fun b o h => ?_⟩, r.row fun b hb => ⟨hb, fun o ho => (key b o ho).2⟩, fun b h => h.1, fun b h => ?_, fun b h h' => h.2 h'⟩
 ·have h : (if v.ownBlock = some b then none else hp b) = some o := h
  split at h
  ·cases h
  ·rename_i hb; exact .inr ⟨⟨(key b o h).1, hb⟩, (key b o h).2⟩
 ·obtain ⟨o, ho⟩ := own b h
  exact (key b o ho).1⟩
theorem turns_storeP {q T szT b o T0 : Nat} {A X : Operand} {x : Value} {cs cs' vs : List Value} {hp : Jx} (hs : ∀ w, (sizeOf T).run P w = .ok szT w) (ha : ev e A = .pointer (some ⟨b, o, none⟩)) (hx : ev e X = x) (hc : x.cells.toList = vs) (hsz : vs.length = szT)
  (hpos : Nat.blt 0 szT = true) (hone : vs.all Value.oneCell' = true) (hv : wr cs o vs = some cs') (hL : L[q]? = some (X9 U0 hp)) (hb : hp b = some (.cells cs.toArray T0 (0, 0))) :
  Turns P cx e ⟨none, .store T A X, ty, pos, af, g⟩ L q [] (fun _ : Unit => undef) (fun _ => X9 U0 (updH hp b (.cells cs'.toArray T0 (0, 0)))) := by
 intro w L' hF hS hl hi
 have hL' := (hi q (.inr rfl)).trans hL
 have hrun : ∀ (S1 : Nat → Prop), (X9 U0 hp).P S1 w → (∀ b, S1 b → b < w.heap.size) → ∃ w', (execOp (ev e) ⟨none, .store T A X, ty, pos, af, g⟩).run P w = .ok .skip w' ∧ Turn w w' S1 (X9 U0 (updH hp b (.cells cs'.toArray T0 (0, 0)))) := fun S1 h hlt => by
  have key : ∀ b o, hp b = some o → S1 b ∧ w.heap[b]? = some o := fun b o k => (h.2 b o k).elim (fun k => by cases k) id
  obtain ⟨hSb, hb'⟩ := key b _ hb
  refine ⟨_, Go.Vc.run_store hs ha hx hc hsz hpos hone hv hb', ?_⟩
  have hset := setRow_heap w b cs.toArray cs'.toArray T0 (0, 0) hb'
  refine ⟨rfl, rfl, rfl, by simp, fun d hd hn => setRow_other w b d _ (fun e => hn (e ▸ hSb)), S1, ⟨Y7, fun c o hc => ?_⟩, fun d hd => ⟨by simpa using hlt d hd, .inl hd⟩⟩
  have hc : (if c = b then some (.cells cs'.toArray T0 (0, 0)) else hp c) = some o := hc
  split at hc
  ·rename_i e
   have hc := Option.some.inj hc
   rw [← hc, e]; exact .inr ⟨hSb, hset⟩
  ·rename_i hne
   obtain ⟨k1, k2⟩ := key c o hc
   exact .inr ⟨k1, (setRow_other w b c _ hne).trans k2⟩
 obtain ⟨S0, hC, hlt⟩ := hS.at hL'
 obtain ⟨w', hr, ht⟩ := hrun S0 hC (fun b hb => (hlt b hb).1)
 have hF' := hF.turn ht fun b hs => (hlt b hs).2
 have hS' := hS.turnAt hF hL' (w' := w') (C := X9 U0 (updH hp b (.cells cs'.toArray T0 (0, 0)))) (fun S1 hp1 hlt1 => by
  obtain ⟨w1, hr1, ht1⟩ := hrun S1 hp1 fun b hb => (hlt1 b hb).1
  rw [hr] at hr1
  cases hr1
  exact ht1) ht.size
 unfold RunsTo
 rw [hr]
 exact ⟨(), rfl, hF', hS'⟩
end
def ownC (Φ : Jx → List Nat → Prop) : Chunk := Yi U0 fun hp => ∃ bs, Φ hp bs ∧ bs.Nodup ∧ ∀ b ∈ bs, ∃ o, hp b = some o
theorem own_both {Φ Ψ Χ : Jx → List Nat → Prop} (m1 : ∀ h h' bs, (∀ b o, h b = some o → h' b = some o) → Φ h bs → Φ h' bs) (m2 : ∀ h h' bs, (∀ b o, h b = some o → h' b = some o) → Ψ h bs → Ψ h' bs)
  (k : ∀ h b1 b2, Φ h b1 → Ψ h b2 → Χ h (b1 ++ b2)) : Imp (Xx (ownC Φ) (ownC Ψ)) (ownC Χ) := ⟨fun S w => by
 rintro ⟨S1, S2, ⟨h1, ⟨b1, f1, n1, d1⟩, p1⟩, ⟨h2, ⟨b2, f2, n2, d2⟩, p2⟩, s1, s2, sd⟩
 have q1 : ∀ b o, h1 b = some o → S1 b ∧ w.heap[b]? = some o := fun b o h => (p1.2 b o h).elim (fun h => by cases h) id
 have q2 : ∀ b o, h2 b = some o → S2 b ∧ w.heap[b]? = some o := fun b o h => (p2.2 b o h).elim (fun h => by cases h) id
 have l1 : ∀ b o, h1 b = some o → restr w S b = some o := fun b o h => restr_some.2 ⟨s1 b (q1 b o h).1, (q1 b o h).2⟩
 have l2 : ∀ b o, h2 b = some o → restr w S b = some o := fun b o h => restr_some.2 ⟨s2 b (q2 b o h).1, (q2 b o h).2⟩
 refine ⟨restr w S, ⟨b1 ++ b2, k _ _ _ (m1 _ _ _ l1 f1) (m2 _ _ _ l2 f2), List.nodup_append.2 ⟨n1, n2, fun a ha b hb e => ?_⟩, fun b hb => ?_⟩, restr_pool w S⟩
 ·subst e
  obtain ⟨o1, g1⟩ := d1 a ha
  obtain ⟨o2, g2⟩ := d2 a hb
  exact sd a (q1 a o1 g1).1 (q2 a o2 g2).1
 ·rcases List.mem_append.1 hb with h | h
  ·obtain ⟨o, g⟩ := d1 b h; exact ⟨o, l1 b o g⟩
  ·obtain ⟨o, g⟩ := d2 b h; exact ⟨o, l2 b o g⟩⟩
theorem imp_bothM {C C' D D' : Chunk} (h1 : Imp C C') (h2 : Imp D D') : Imp (Xx C D) (Xx C' D') :=
 ⟨fun _ _ ⟨S1, S2, a, b, c⟩ => ⟨S1, S2, h1.out _ _ a, h2.out _ _ b, c⟩⟩
theorem imp_trans {C D F : Chunk} (h1 : Imp C D) (h2 : Imp D F) : Imp C F := ⟨fun _ _ k => h2.out _ _ (h1.out _ _ k)⟩
theorem own_nodup {v : Value} : v.ownBlock.toList.Nodup := by cases v.ownBlock <;> simp
theorem imp_rowOwn {E sz n : Nat} {v : Value} {css : List (List Value)} : Imp (Xa E sz v n css) (ownC fun h bs => RowP h E sz v css ∧ n = css.length ∧ bs = v.ownBlock.toList) := ⟨fun S w k => by
 obtain ⟨r, hn, hb⟩ := RowP.of k
 refine ⟨restr w S, ⟨_, ⟨r, hn, rfl⟩, own_nodup, fun b h => ?_⟩, restr_pool w S⟩
 rcases r.2 with ⟨rfl, _⟩ | ⟨g, cap, cur, rfl, hg, _⟩
 ·cases h
 ·simp [Value.ownBlock] at h; subst h; exact ⟨_, hg⟩⟩
def roB (v : Value) (n : Nat) : List Nat := if n = 0 then [] else v.ownBlock.toList
theorem imp_roOwn {sz n : Nat} {v : Value} {xs : List (List Value)} : Imp (roV sz v n xs) (ownC fun h bs => FrS h sz v xs ∧ bs = roB v xs.length) := ⟨fun S w ⟨hn, f, hb⟩ => by
 have f' : FrS (restr w S) sz v xs := f.sub hb fun b o hs h => restr_some.2 ⟨hs, h⟩
 refine ⟨restr w S, ⟨_, ⟨f', rfl⟩, ?_, fun b h => ?_⟩, restr_pool w S⟩
 ·unfold roB; split
  ·exact List.nodup_nil
  ·exact own_nodup
 ·unfold roB at h
  split at h
  ·cases h
  ·rename_i hne
   obtain ⟨a, c, rfl, _, _, r⟩ := f'.out
   rcases r with r | ⟨g, off, cs, T, m, rfl, hg, _⟩
   ·rw [r] at hne; simp at hne
   ·simp [Value.ownBlock] at h; subst h; exact ⟨_, hg⟩⟩
theorem imp_emptyOwn {Φ : Jx → List Nat → Prop} (h : Φ U0 []) : Imp empC (ownC Φ) := ⟨fun S w k => ⟨U0, ⟨[], h, List.nodup_nil, fun b hb => by cases hb⟩, Y7, fun b o hb => by cases hb⟩⟩
theorem FrS.agree {h h' : Jx} {sz : Nat} {v : Value} {xs : List (List Value)} (f : FrS h sz v xs) (k : ∀ b ∈ roB v xs.length, ∀ o, h b = some o → h' b = some o) : FrS h' sz v xs := by
 obtain ⟨a, c, rfl, h1, h2, r⟩ := f.out
 refine ⟨a, c, rfl, h1, h2, ?_⟩
 rcases r with r | ⟨b, off, cs, T, m, rfl, hb, r⟩
 ·exact .inl r
 ·by_cases h0 : xs.length = 0
  ·exact .inl (List.length_eq_zero_iff.1 h0)
  ·exact .inr ⟨b, off, cs, T, m, rfl, k b (by unfold roB; rw [if_neg h0]; simp [Value.ownBlock]) _ hb, r⟩
end Go.Lx
namespace Go.Lx
open Go Go.Vc Go.Md
def cntB (n : Nat) (next : Nat → Option Unit) (i : Nat) : Option Unit := if i < n then next (i + 1) else some ()
theorem cnt_fix (n : Nat) : V6 (cntB n) 0 = some () :=
 fix_of (F := cntB n) (fun _ => some ()) (fun _ => True) (fun i => n - i) (fun next i _ ih => by
  unfold cntB
  split
  ·exact ih (i + 1) trivial (by omega)
  ·rfl) 0 trivial
theorem cnt_step {n i m : Nat} (h : cntB n (it (cntB n) m) i = some ()) (hi : i < n) : it (cntB n) m (i + 1) = some () := by
 unfold cntB at h; rwa [if_pos hi] at h
end Go.Lx
namespace Go.Lx
theorem take_snocS {α : Type} {xs : List α} {i : Nat} (h : i < xs.length) : xs.take (i + 1) = xs.take i ++ [xs[i]] := by
 rw [List.take_add_one, List.getElem?_eq_getElem h]; rfl
theorem take_setS {α : Type} {xs : List α} {i : Nat} {c : α} (h : i < xs.length) : (xs.set i c).take (i + 1) = xs.take i ++ [c] := by
 rw [take_snocS (by simpa using h), List.getElem_set_self, List.take_set_of_le (Nat.le_refl _)]
end Go.Lx
namespace Go.Lx
open Go Go.Vc Go.Md
def KidsG {α : Type} (T : Jx → List Value → α → List Nat → Prop) (h : Jx) : List (List Value) → List α → List Nat → Prop
 | [], [], bs => bs = []
 | c :: css, x :: xs, bs => ∃ b1 b2, T h c x b1 ∧ KidsG T h css xs b2 ∧ bs = b1 ++ b2
 | _, _, _ => False
section
variable {α : Type} {T : Jx → List Value → α → List Nat → Prop} {h h' : Jx}
theorem KidsG.len : ∀ {css : List (List Value)} {xs : List α} {bs : List Nat}, KidsG T h css xs bs → css.length = xs.length
 | [], [], _, _ => rfl
 | _ :: _, _ :: _, _, ⟨_, _, _, k, _⟩ => by rw [List.length_cons, List.length_cons, k.len]
theorem KidsG.snoc {c : List Value} {x : α} {b : List Nat} (e : T h c x b) : ∀ {css : List (List Value)} {xs : List α} {bs : List Nat}, KidsG T h css xs bs → KidsG T h (css ++ [c]) (xs ++ [x]) (bs ++ b)
 | [], [], _, k => ⟨b, [], e, rfl, by rw [show _ = _ from k]; simp⟩
 | _ :: _, _ :: _, _, ⟨b1, b2, k1, k2, k3⟩ => ⟨b1, b2 ++ b, k1, k2.snoc e, by rw [k3, List.append_assoc]⟩
theorem KidsG.agree (hT : ∀ c x b, T h c x b → (∀ q ∈ b, ∀ o, h q = some o → h' q = some o) → T h' c x b) :
  ∀ {css : List (List Value)} {xs : List α} {bs : List Nat}, KidsG T h css xs bs → (∀ q ∈ bs, ∀ o, h q = some o → h' q = some o) → KidsG T h' css xs bs
 | [], [], _, k, _ => k
 | _ :: _, _ :: _, _, ⟨b1, b2, k1, k2, k3⟩, q => by
  subst k3
  exact ⟨b1, b2, hT _ _ _ k1 fun y hy => q y (List.mem_append_left _ hy), k2.agree hT fun y hy => q y (List.mem_append_right _ hy), rfl⟩
theorem KidsG.allC {G : Jx → (Nat → Value) → α → Prop} {sz : Nat} (hT : ∀ c x b, T h c x b → c.length = sz ∧ G h (fun j => c.getD j undef) x) : ∀ {css : List (List Value)} {xs : List α} {bs : List Nat}, KidsG T h css xs bs → AllC G h sz css xs
 | [], [], _, _ => AllC.nil
 | c :: css, x :: xs, _, ⟨b1, b2, k1, k2, _⟩ => by
  have hk := k2.allC hT
  refine ⟨by rw [List.length_cons, List.length_cons, hk.len], fun i c' x' hc hx => ?_⟩
  cases i with
  | zero => cases hc; cases hx; exact hT _ _ _ k1
  | succ i => exact hk.el i c' x' hc hx
theorem KidsG.map {T2 : Jx → List Value → α → List Nat → Prop} (hT : ∀ c x b, T h c x b → (∀ q ∈ b, ∀ o, h q = some o → h' q = some o) → T2 h' c x b) :
  ∀ {css : List (List Value)} {xs : List α} {bs : List Nat}, KidsG T h css xs bs → (∀ q ∈ bs, ∀ o, h q = some o → h' q = some o) → KidsG T2 h' css xs bs
 | [], [], _, k, _ => k
 | _ :: _, _ :: _, _, ⟨b1, b2, k1, k2, k3⟩, q => by
  subst k3
  exact ⟨b1, b2, hT _ _ _ k1 fun y hy => q y (List.mem_append_left _ hy), k2.map hT fun y hy => q y (List.mem_append_right _ hy), rfl⟩
theorem KidsG.at : ∀ {css : List (List Value)} {xs : List α} {bs : List Nat} (k : Nat) {c : List Value} {x : α}, KidsG T h css xs bs → css[k]? = some c → xs[k]? = some x → bs.Nodup →
  ∃ b, T h c x b ∧ (∀ q ∈ b, q ∈ bs) ∧ b.Nodup ∧ ∀ (T2 : Jx → List Value → α → List Nat → Prop) (h' : Jx) (c' : List Value) (x' : α), (∀ c x b, T h c x b → (∀ q ∈ b, ∀ o, h q = some o → h' q = some o) → T2 h' c x b) → (∀ q ∈ bs, q ∉ b → ∀ o, h q = some o → h' q = some o) → T2 h' c' x' b →
   KidsG T2 h' (css.set k c') (xs.set k x') bs
 | [], [], _, _, _, _, _, hc, _, _ => by cases hc
 | [], _ :: _, _, _, _, _, k, _, _, _ => k.elim
 | _ :: _, [], _, _, _, _, k, _, _, _ => k.elim
 | c0 :: css, x0 :: xs, bs, k, c, x, ⟨b1, b2, k1, k2, k3⟩, hc, hx, hn => by
  subst k3
  obtain ⟨n1, n2, n3⟩ := List.nodup_append.1 hn
  cases k with
  | zero =>
   cases hc; cases hx
   refine ⟨b1, k1, fun q hq => List.mem_append_left _ hq, n1, fun T2 h' c' x' hT ha t => ⟨b1, b2, t, k2.map (fun c x b t k => hT c x b t k) fun q hq => ha q (List.mem_append_right _ hq) fun hq1 => n3 q hq1 q hq rfl, rfl⟩⟩
  | succ k =>
   obtain ⟨b, t1, t2, t3, t4⟩ := KidsG.at k k2 hc hx n2
   refine ⟨b, t1, fun q hq => List.mem_append_right _ (t2 q hq), t3, fun T2 h' c' x' hT ha t => ?_⟩
   have g := t4 T2 h' c' x' hT (fun q hq hb => ha q (List.mem_append_right _ hq) hb) t
   exact ⟨b1, b2, hT _ _ _ k1 (fun q hq => ha q (List.mem_append_left _ hq) fun hb => n3 q hq q (t2 q hb) rfl), g, rfl⟩
end
end Go.Lx
namespace Go.Lx
open Go Go.Vc Go.Md
section
variable {P : Program} {cx : Cx} {e : Xd} {L : List Chunk} {ops : Array Oper} {F : Xd → List Chunk → Prop} {rest : List Oper} {ss : List Kd}
def _root_.Go.Vc.Kd.sp (a q i : Nat) (C : Value → Chunk) : Kd := .g [a, q] [i] [i] (fun _ _ v => v = undef) (fun vs _ _ => [C (vs.getD 1 undef)])
theorem d_storeP {o : Oper} {i a q : Nat} {C : Value → Chunk} (h : Turns P cx e o L i [] (fun _ : Unit => undef) (fun _ => C (e q))) (hw : Xz ops o e = true) (hd : o.dst = none) (k : Sq P cx ops F rest ss e (L.set i (C (e q)))) : Sq P cx ops F (o :: rest) (.sp a q i C :: ss) e L := by
 have hq : C (([a, q].map e).getD 1 undef) = C (e q) := rfl
 refine .take hw ⟨undef, rfl⟩ ⟨fun w L' hF hS hl hi => ?_⟩ fun v' hv' => ?_
 ·refine (h w L' hF hS hl fun j hj => hi j (by simpa [Kd.sp, Kd.rds, Kd.wrs] using hj)).mono fun v w' ⟨x, hv, hF', hS'⟩ => ?_
  subst hv
  exact ⟨rfl, hF', hS'⟩
 ·obtain rfl : v' = undef := hv'
  show Sq P cx ops F rest ss (putD e o.dst undef) (L.set i (C (e q)))
  rw [hd]
  exact k
end
end Go.Lx
namespace Go.Lx
open Go Go.Vc Go.Md
theorem fz_offO {E sz n : Nat} {v : Value} {xs : List (List Value)} (hp : Jx) : ∀ S w (H : Jx), (Z1 E sz v n (xs.map idC)).P S w → (∀ b o, S b → w.heap[b]? = some o → H b = some o) → (∀ b o, hp b = some o → H b = some o) → FrS H sz v (xs.map idC) :=
 fun S w H hP hH _ => (rowO_frs0 hP).sub hP.2 hH
section
variable {cx : Cx} {K : Xd → World → Prop} {e : Xd} {L : List Chunk} {base hp hp1 : Jx}
theorem c_poolJoinB (i j : Nat) (hi : L[i]? = some (X9 base hp)) (hj : L[j]? = some (X9 base hp1)) (hne : i ≠ j) (hb : ∀ w, Fr cx w → ∀ b o, base b = some o → w.heap[b]? = some o)
  (k : ∀ hp', (∀ b o, hp b = some o → hp' b = some o) → (∀ b o, hp1 b = some o → hp' b = some o) → At cx K e ((L.set i (X9 base hp')).set j empC)) : At cx K e L :=
 Ue i hi fun hle => Ws (Φ := fun H => ∀ b o, hp1 b = some o → H b = some o) i j hi hj hne hb (fun S w H hP hH hl b o h => (hP.2 b o h).elim (fun h => hl b o (hle b o h)) fun h => hH b o h.1 h.2) k
end
end Go.Lx
