/- Rules: results that came in; rows that are only read and may be the caller's; slices compared with nil; parts of known slices. Conditions: none. -/
import Derived.Test.YthhaabhnlndnoaaGreatLx10
namespace Go.Lx
open Go Go.Vc Go.Md

theorem does_ex {P : Program} {f : FuncId} {args : Array Value} {w : World} {R : Value → World → Prop} (h : Does P f args w R) : ∃ v w', R v w' := by
  obtain ⟨_, w', _, ⟨v, _, hv⟩, _⟩ := h []
  exact ⟨v, w', hv⟩

theorem Know.weak {h : Heap} {w : World} {S : Nat → Prop} (k : Know h w S) : Know h w noS := fun b o hb => ⟨(k b o hb).1, fun x => x⟩
theorem Know.at {h : Heap} {w0 w : World} {S : Nat → Prop} (k : Know h w0 S) (hF : Fr ⟨w0, S⟩ w) : Know h w noS := fun b o hb => ⟨k.now hF b o hb, fun x => x⟩

/-- A part of a known slice, its value told otherwise. -/
theorem FrS.cutL {α : Type} {h : Heap} {sz : Nat} {a : Option Addr} {n c : Nat} {f : α → List Value} {xs ys : List α} {l q : Int} (s : FrS h sz (.slice a n c) (xs.map f)) (e : gCut xs l q = some ys) : FrS h sz (.slice (cutA a l.toNat c sz) ys.length (c - l.toNat)) (ys.map f) := by
  have := s.cut e
  rw [gCut_len e]
  exact this

theorem FrS.form {h : Heap} {sz : Nat} {v : Value} {α : Type} {f : α → List Value} {xs : List α} (s : FrS h sz v (xs.map f)) : ∃ p : Option Addr × Nat, v = .slice p.1 xs.length p.2 := by
  obtain ⟨a, c, rfl, _⟩ := s.out
  exact ⟨(a, c), by rw [List.length_map]⟩

/-! ### slices and nil -/

def isNilV : Value → Bool | .slice none _ _ => true | _ => false

theorem FrS.nilV {h : Heap} {sz : Nat} {v : Value} {α : Type} {f : α → List Value} {xs : List α} (s : FrS h sz v (xs.map f)) (hb : isNilV v = true) : xs = [] := by
  obtain ⟨a, c, rfl, _, _, r⟩ := s.out
  rcases r with r | ⟨b, off, cs, T, m, rfl, _⟩
  · simpa using r
  · simp [isNilV] at hb

section ops
variable {P : Program} {e : Env} {d : Option Nat} {ty : TypeId} {pos : String} {af : Array Edge} {g : Option (Nat × Bool)}

theorem eq_nilS {a : Option Addr} {m c : Nat} {t u : TypeId} (ht : P.underlying t = some (.slice u)) (n : Nat) (w : World) : (Op.equalIn (n + 1) t (.slice a m c) (.slice none 0 0)).run P w = .ok (isNilV (.slice a m c)) w := by
  cases a <;> simp [Op.equalIn, run_underlying ht, isNilV]

theorem r_eqlNilS {X Y : Operand} {v : Value} {t t' u sz : TypeId} {h : Heap} {xs : List (List Value)} (ht : P.underlying t = some (.slice u)) (s : FrS h sz v xs) (hx : ev e X = v) (hy : ev e Y = .slice none 0 0) (w : World) :
    (execOp (ev e) ⟨d, .binOp .eql t X Y t', ty, pos, af, g⟩).run P w = .ok (.value (.bool (isNilV v))) w := by
  obtain ⟨a, c, rfl, _⟩ := s.out
  have h0 := eq_nilS (P := P) (a := a) (m := xs.length) (c := c) ht 9999 w
  simp [execOp, hx, hy, eqGuard, binOp, Op.equal, Op.maxDepth, h0]

end ops

/-! ### results that came in -/

theorem finC {σ : Type} {w0 : World} {L : List Chunk} {v : Value} {G : σ → Value} {Φ : σ → Prop} (x : σ) (hv : v = G x) (h : Φ x) : ∀ w, Fr ⟨w0, fun _ => False⟩ w → Sat ⟨w0, fun _ => False⟩ w L → (∃ x, v = G x ∧ Φ x) ∧ Grow w0 w :=
  fun w hF _ => ⟨⟨x, hv, h⟩, hF.os, hF.tape, hF.output, hF.size, fun k hk => hF.block k (by simp [Cx.own]; exact hk)⟩

def _root_.Go.Vc.Kd.cv {σ : Type} (G : σ → Value) (Φ : σ → Prop) : Kd := .g [] [] [] (fun _ _ v => ∃ x, v = G x ∧ Φ x) (fun _ _ _ => [])

section rules
variable {P : Program} {n : Nat} {cx : Cx} {e : Env} {L : List Chunk} {ops : Array Oper} {rest : List Oper} {Q : Post} {F : Env → List Chunk → Prop} {ss : List Kd} {d : Nat} {ty : TypeId} {pos : String} {af : Array Edge} {g : Option (Nat × Bool)}

theorem l_callC {σ : Type} {f : FuncId} {A : Array Operand} {tys : Array TypeId} {args : List Value} {G : σ → Value} {Φ : σ → Prop} (h : ∀ w, Fr cx w → Sat cx w L → Does P f args.toArray w fun v w' => (∃ x, v = G x ∧ Φ x) ∧ Grow w w') (hc : ∀ args w, (callFunc f args).run P w = .ok (.enter f args) w)
    (hw : want ops ⟨some d, .call ⟨.value (.func f), A, tys⟩, ty, pos, af, g⟩ e = true) (hn : Nat.blt d n = true) (ha : A.toList.map (ev e) = args)
    (k : ∀ x, Φ x → At cx (WL P n ops Q rest) (upd e d (G x)) L) : At cx (WL P n ops Q (⟨some d, .call ⟨.value (.func f), A, tys⟩, ty, pos, af, g⟩ :: rest)) e L :=
  l_calls hw rfl hn (run_call hc ha) fun w hF hS => (h w hF hS).mono fun v' w' ⟨⟨x, hv, hp⟩, hg⟩ => by
    subst hv
    exact (k x hp).out w' (hF.grow hg) (hS.grow hg)

theorem d_callC {σ : Type} {f : FuncId} {A : Array Operand} {tys : Array TypeId} {args : List Value} {G : σ → Value} {Φ : σ → Prop} (h : ∀ w, Fr cx w → Does P f args.toArray w fun v w' => (∃ x, v = G x ∧ Φ x) ∧ Grow w w') (h0 : Does P f args.toArray cx.w0 fun v w' => (∃ x, v = G x ∧ Φ x) ∧ Grow cx.w0 w') (hc : ∀ args w, (callFunc f args).run P w = .ok (.enter f args) w)
    (hw : want ops ⟨some d, .call ⟨.value (.func f), A, tys⟩, ty, pos, af, g⟩ e = true) (ha : A.toList.map (ev e) = args)
    (k : ∀ x, Φ x → Sq P cx ops F rest ss (upd e d (G x)) L) : Sq P cx ops F (⟨some d, .call ⟨.value (.func f), A, tys⟩, ty, pos, af, g⟩ :: rest) (.cv G Φ :: ss) e L := by
  refine .take hw ?_ ⟨fun w L' hF hS _ hi => ?_⟩ fun v' hv' => ?_
  · obtain ⟨v, w', h1, _⟩ := does_ex h0
    exact ⟨v, h1⟩
  · unfold RunsTo
    rw [run_call hc ha]
    exact (h w hF).mono fun v' w' ⟨h1, h2⟩ => ⟨h1, hF.grow h2, hS.grow h2⟩
  · obtain ⟨x, rfl, hp⟩ : ∃ x, v' = G x ∧ Φ x := hv'
    exact k x hp

/-! ### rows that are only read: of one's own, or known -/

def roH (h : Heap) (sz : Nat) (v : Value) (n : Nat) (xs : List (List Value)) : Chunk where
  P S w := (roV sz v n xs).P S w ∨ ((∀ b, ¬ S b) ∧ n = xs.length ∧ FrS h sz v xs)
  loc S w w' hb hp := hp.elim (fun h => .inl ((roV sz v n xs).loc S w w' hb h)) .inr

theorem c_frz {α : Type} {K : Env → World → Prop} {h : Heap} {sz : Nat} {p : Option Addr × Nat} {xs : List α} {f : α → List Value} (s : FrS h sz (.slice p.1 xs.length p.2) (xs.map f)) (k : At cx K e (L ++ [roH h sz (.slice p.1 xs.length p.2) xs.length (xs.map f)])) : At cx K e L :=
  ⟨fun w hF hS => k.out w hF (hS.snoc hF (Grow.refl w) (S := noS) (.inr ⟨fun _ h => h, by rw [List.length_map], s⟩) (fun _ h => h.elim))⟩

theorem imp_roH (h : Heap) (sz : Nat) (v : Value) (n : Nat) (xs : List (List Value)) : Imp (roV sz v n xs) (roH h sz v n xs) := ⟨fun _ _ hp => .inl hp⟩
theorem imp_rowH (h : Heap) (E sz : Nat) (v : Value) (n : Nat) (xs : List (List Value)) : Imp (rowV E sz v n xs) (roH h sz v n xs) := ⟨fun S w hp => .inl ((row_ro E sz v n xs).out S w hp)⟩

theorem frs_roh {α : Type} {h : Heap} {w : World} {i sz n : Nat} {v : Value} {xs : List α} {f : α → List Value} (hS : Sat cx w L) (hL : L[i]? = some (roH h sz v n (xs.map f))) (k : ∀ b o, h b = some o → w.heap[b]? = some o) : FrS (fun b => w.heap[b]?) sz v (xs.map f) := by
  obtain ⟨S, hp, _⟩ := hS.at hL
  rcases hp with hp | ⟨_, _, hp⟩
  · exact hp.2.1
  · exact hp.mono k
theorem rohOf {h : Heap} {w : World} {i sz n c : Nat} {a : Option Addr} {xs : List (List Value)} (hS : Sat cx w L) (hL : L[i]? = some (roH h sz (.slice a n c) n xs)) (k : ∀ b o, h b = some o → w.heap[b]? = some o) : Row w a sz xs := by
  obtain ⟨S, hp, _⟩ := hS.at hL
  rcases hp with hp | ⟨_, _, hp⟩
  · exact hp.2.1.row fun b o hb => hb
  · exact hp.row k
theorem frb_roh {α : Type} {h : Heap} {w : World} {S : Nat → Prop} {i j sz n : Nat} {v : Value} {xs : List α} {f : α → List Value} {L' : List Chunk} (hA : Apart L' i w S) (hji : j ≠ i) (hL : L'[j]? = some (roH h sz v n (xs.map f))) (k : ∀ b o, h b = some o → but w S b = some o) : FrS (but w S) sz v (xs.map f) := by
  obtain ⟨S', h1, h2⟩ := hA j _ hji hL
  rcases h1 with h1 | ⟨_, _, h1⟩
  · exact h1.2.1.but fun b hb => h2 b (h1.2.2 b hb)
  · exact h1.mono k

/-! ### stores of values that the region itself makes -/

def _root_.Go.Vc.Kd.sv (a b i : Nat) (cs : Value → List Value) (T : TypeId) : Kd := .g [a, b] [i] [i] (fun _ _ v => v = undef) (fun vs _ _ => [boxOf (vs.headD undef) (cs (vs.getD 1 undef)) T])

theorem d_storeV {i : Nat} {a q T T0 b o sz : Nat} {x : Value} {cs vs : List Value} {cs' : Value → List Value} (hs : ∀ w, (sizeOf T).run P w = .ok sz w)
    (hw : want ops ⟨none, .store T (.tmp a) (.tmp q), ty, pos, af, g⟩ e = true) (hp : e a = .pointer (some ⟨b, o, none⟩)) (hx : e q = x) (hc : x.cells.toList = vs) (hsz : vs.length = sz) (hpos : Nat.blt 0 sz = true)
    (hone : vs.all Value.oneCell' = true) (hL : L[i]? = some (cellsC b cs T0)) (hv : wr cs o vs = some (cs' x))
    (k : Sq P cx ops F rest ss e (L.set i (cellsC b (cs' x) T0))) : Sq P cx ops F (⟨none, .store T (.tmp a) (.tmp q), ty, pos, af, g⟩ :: rest) (.sv a q i cs' T0 :: ss) e L := by
  have hbox : boxOf (([a, q].map e).headD undef) (cs' (([a, q].map e).getD 1 undef)) T0 = cellsC b (cs' x) T0 := by
    have h1 : ([a, q].map e).headD undef = e a := rfl
    have h2 : ([a, q].map e).getD 1 undef = e q := rfl
    rw [h1, h2, hp, hx]; rfl
  refine .take hw ⟨undef, rfl⟩ ⟨fun w L' hF hS _ hi => ?_⟩ fun v' hv' => ?_
  · have hL' := (hi i (.inl (by simp [Kd.sv, Kd.rds]))).trans hL
    have hb := sat_cell hS hL'
    unfold RunsTo
    rw [Go.Vc.run_store hs (by exact hp) (by exact hx) hc hsz hpos hone hv hb]
    have hset := setRow_heap w b cs.toArray (cs' x).toArray T0 (0, 0) hb
    refine ⟨rfl, ⟨hF.os, hF.tape, hF.output, by simpa using hF.size, fun c hcn => ?_⟩, ?_⟩
    · rw [setRow_other w b c _ (fun e => ?_)]
      · exact hF.block c hcn
      · obtain ⟨fp, f1, f2, _⟩ := hS.out
        have := (f2 i b ((f1 i _ hL').1 b |>.2 rfl)).2.2
        subst e
        exact hcn this
    · show Sat cx _ (L'.set i (boxOf (([a, q].map e).headD undef) (cs' (([a, q].map e).getD 1 undef)) T0))
      rw [hbox]
      exact hS.set hF hL' (by simp) fun S hSp hSo => ⟨S, ⟨hSp.1, hset⟩, fun c hc => ⟨by simpa using (hSo c hc).1, .inl hc⟩, fun c _ hcS => setRow_other w b c _ (fun e => hcS ((hSp.1 c).2 e))⟩
  · have hbox' := hbox
    show Sq P cx ops F rest ss (putD e none v') (L.set i (boxOf (([a, q].map e).headD undef) (cs' (([a, q].map e).getD 1 undef)) T0))
    rw [hbox]
    exact k

end rules
end Go.Lx
