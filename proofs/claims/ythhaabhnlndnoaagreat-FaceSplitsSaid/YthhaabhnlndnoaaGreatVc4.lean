/- A region whose order Go leaves open: one walk in the order of the text serves every order, also where operations make memory or turn it. Conditions: what two operations both touch is ordered by the region's edges (a Bool that the kernel reckons). -/
import Derived.Test.YthhaabhnlndnoaaGreatVc3
namespace Go.Vc
open Go

/-- What an operation of the region may yield, and which chunks it turns. -/
inductive Kd where
  | p
  | g (rs rds wrs : List Nat) (V : List Value → List (Option Chunk) → Value → Prop) (T : List Value → List (Option Chunk) → Value → List Chunk)

/-- One value, off chunks that are read. -/
def Kd.d (rds : List Nat) (v0 : Value) : Kd := .g [] rds [] (fun _ _ v => v = v0) (fun _ _ _ => [])

abbrev Look := Nat → Option Chunk
def look (L : List Chunk) : Look := fun i => L[i]?

def Kd.rs : Kd → List Nat | .p => [] | .g rs _ _ _ _ => rs
def Kd.rds : Kd → List Nat | .p => [] | .g _ rds _ _ _ => rds
def Kd.wrs : Kd → List Nat | .p => [] | .g _ _ wrs _ _ => wrs
def Kd.V (P : Program) (o : Oper) (s : Kd) (e : Env) (l : Look) (v : Value) : Prop :=
  match s with
  | .p => ∀ w, (execOp (ev e) o).run P w = .ok (.value v) w
  | .g rs rds _ V _ => V (rs.map e) (rds.map l) v
def Kd.T (s : Kd) (e : Env) (l : Look) (v : Value) : List (Nat × Chunk) :=
  match s with
  | .p => []
  | .g rs rds wrs _ T => wrs.zip (T (rs.map e) (rds.map l) v)

def setAll (L : List Chunk) : List (Nat × Chunk) → List Chunk
  | [] => L
  | (i, c) :: r => setAll (L.set i c) r

def putD (e : Env) (d : Option Nat) (v : Value) : Env := match d with | some d => upd e d v | none => e

def RunsTo (P : Program) (ρ : Operand → Value) (o : Oper) (w : World) (R : Value → World → Prop) : Prop :=
  match (execOp ρ o).run P w with
  | .ok (.value v) w' => R v w'
  | .ok .skip w' => R undef w'
  | .ok (.enter f args) w' => Does P f args w' R
  | _ => False

theorem RunsTo.mono {P : Program} {ρ : Operand → Value} {o : Oper} {w : World} {R R' : Value → World → Prop} (h : RunsTo P ρ o w R) (hr : ∀ v w', R v w' → R' v w') : RunsTo P ρ o w R' := by
  unfold RunsTo at *
  generalize (execOp ρ o).run P w = r at *
  cases r with
  | halt x w' => exact h
  | ok nx w' =>
    cases nx <;> first | exact hr _ _ h | exact Does.mono h hr | exact h

/-- The operation, wherever the chunks that it touches are as they are now. -/
structure LV (P : Program) (cx : Cx) (o : Oper) (s : Kd) (e : Env) (L : List Chunk) : Prop where
  out : ∀ (w : World) (L' : List Chunk), Fr cx w → Sat cx w L' → L'.length = L.length → (∀ i, i ∈ s.rds ∨ i ∈ s.wrs → L'[i]? = L[i]?) →
    RunsTo P (ev e) o w (fun v w' => s.V P o e (look L) v ∧ Fr cx w' ∧ Sat cx w' (setAll L' (s.T e (look L) v)))

/-- The walk in the order of the text. -/
inductive Sq (P : Program) (cx : Cx) (ops : Array Oper) (F : Env → List Chunk → Prop) : List Oper → List Kd → Env → List Chunk → Prop
  | nil {e : Env} {L : List Chunk} (h : F e L) : Sq P cx ops F [] [] e L
  | pass {o : Oper} {os : List Oper} {s : Kd} {ss : List Kd} {e : Env} {L : List Chunk} (hw : want ops o e = false) (h : Sq P cx ops F os ss (putD e o.dst undef) L) : Sq P cx ops F (o :: os) (s :: ss) e L
  | take {o : Oper} {os : List Oper} {s : Kd} {ss : List Kd} {e : Env} {L : List Chunk} (hw : want ops o e = true) (hi : ∃ v, s.V P o e (look L) v) (hl : LV P cx o s e L)
      (h : ∀ v, s.V P o e (look L) v → Sq P cx ops F os ss (putD e o.dst v) (setAll L (s.T e (look L) v))) : Sq P cx ops F (o :: os) (s :: ss) e L

/-! ### the Bool -/

def binding (o : Oper) (i : Nat) : Bool := o.after.toList.any fun x => Region.binds .any x && Nat.beq x.on i

def reach (l : List Oper) : Nat → Nat → Nat → Bool
  | 0, _, _ => false
  | f + 1, k, i =>
    match l[k]? with
    | none => false
    | some o => binding o i || o.after.toList.any fun x => Region.binds .any x && reach l f x.on i

def meets (a b : List Nat) : Bool := a.any fun x => b.any fun y => Nat.beq x y

def clash (ops : Array Oper) (o1 o2 : Oper) (s1 s2 : Kd) : Bool :=
  meets o1.dst.toList (o2.looksAt ops) || meets o1.dst.toList o2.dst.toList || meets o2.dst.toList (o1.looksAt ops) ||
  meets s1.wrs s2.rds || meets s1.wrs s2.wrs || meets s1.rds s2.wrs

def subs (a b : List Nat) : Bool := a.all fun x => b.any fun y => Nat.beq x y

def checkD (n : Nat) (l : List Oper) (sp : List Kd) : Bool :=
  Nat.beq l.length sp.length && Region.noSelect l.toArray &&
  (List.range l.length).all fun k =>
    match l[k]?, sp[k]? with
    | some o, some s =>
      (o.after.toList.all fun x => !Region.binds .any x || Nat.blt x.on k) && (o.dst.all fun d => Nat.blt d n) && subs s.rs (o.looksAt l.toArray) &&
      (List.range k).all fun i =>
        match l[i]?, sp[i]? with
        | some o1, some s1 => !clash l.toArray o1 o s1 s || reach l 3 k i
        | _, _ => false
    | _, _ => false

theorem meets_of {a b : List Nat} {x : Nat} (ha : x ∈ a) (hb : x ∈ b) : meets a b = true := by
  unfold meets
  rw [List.any_eq_true]
  exact ⟨x, ha, List.any_eq_true.2 ⟨x, hb, by simp⟩⟩

/-! ### the soundness -/

section sound
variable {P : Program} {n : Nat} {cx : Cx} {Q : Post} {l : List Oper} {sp : List Kd} {e0 : Env} {L0 : List Chunk}

def od (l : List Oper) (k : Nat) : Oper := l.getD k default
def sd (sp : List Kd) (k : Nat) : Kd := sp.getD k .p

/-- The frame and the chunks after those of the first k operations that lie in S. -/
def EL (P : Program) (l : List Oper) (sp : List Kd) (e0 : Env) (L0 : List Chunk) (S : Nat → Bool) (val : Nat → Value) : Nat → Env × List Chunk
  | 0 => (e0, L0)
  | k + 1 =>
    let x := EL P l sp e0 L0 S val k
    if S k then (putD x.1 (od l k).dst (val k), if want l.toArray (od l k) x.1 = true then setAll x.2 ((sd sp k).T x.1 (look x.2) (val k)) else x.2) else x

structure Ok (n : Nat) (l : List Oper) (sp : List Kd) : Prop where
  len : l.length = sp.length
  nosel : Region.noSelect l.toArray = true
  back : ∀ k x, k < l.length → x ∈ (od l k).after.toList → Region.binds .any x = true → x.on < k
  dst : ∀ k d, k < l.length → (od l k).dst = some d → Nat.blt d n = true
  rs : ∀ k t, k < l.length → t ∈ (sd sp k).rs → t ∈ (od l k).looksAt l.toArray
  ord : ∀ k i, k < l.length → i < k → clash l.toArray (od l i) (od l k) (sd sp i) (sd sp k) = true → reach l 3 k i = true

theorem ok_of (h : checkD n l sp = true) : Ok n l sp := by
  unfold checkD at h
  simp only [Bool.and_eq_true, List.all_eq_true, List.mem_range] at h
  obtain ⟨⟨h1, h2⟩, h3⟩ := h
  have hlen : l.length = sp.length := by simpa using h1
  have key : ∀ k, k < l.length → l[k]? = some (od l k) ∧ sp[k]? = some (sd sp k) := by
    intro k hk
    have hk' : k < sp.length := by omega
    exact ⟨by simp [od, List.getD_eq_getElem?_getD, List.getElem?_eq_getElem hk], by simp [sd, List.getD_eq_getElem?_getD, List.getElem?_eq_getElem hk']⟩
  have h4 : ∀ k, k < l.length → _ := fun k hk => by
    have := h3 k hk
    rw [(key k hk).1, (key k hk).2] at this
    simp only [Bool.and_eq_true, List.all_eq_true, List.mem_range] at this
    exact this
  refine ⟨hlen, h2, ?_, ?_, ?_, ?_⟩
  · intro k x hk hx hb
    have := (h4 k hk).1.1.1
    have := this x hx
    simpa [hb] using this
  · intro k d hk hd
    have := (h4 k hk).1.1.2
    rw [hd] at this
    simpa using this
  · intro k t hk ht
    have := (h4 k hk).1.2
    unfold subs at this
    rw [List.all_eq_true] at this
    obtain ⟨y, hy, hyt⟩ := List.any_eq_true.1 (this t ht)
    have : t = y := by simpa using hyt
    rw [this]; exact hy
  · intro k i hk hi hc
    have := (h4 k hk).2 i hi
    rw [(key i (by omega)).1, (key i (by omega)).2] at this
    simpa [hc] using this

/-- Nothing of S is missing below. -/
def Closed (l : List Oper) (S : Nat → Prop) (k : Nat) : Prop := ∀ x ∈ (od l k).after.toList, Region.binds .any x = true → S x.on

theorem reach_in (S : Nat → Prop) (hS : ∀ k, k < l.length → S k → Closed l S k) (hb : ∀ k x, k < l.length → x ∈ (od l k).after.toList → Region.binds .any x = true → x.on < k) :
    ∀ f k i, k < l.length → Closed l S k → reach l f k i = true → S i := by
  intro f
  induction f with
  | zero => intro k i _ _ h; simp [reach] at h
  | succ f ih =>
    intro k i hk hc h
    have hlk : l[k]? = some (od l k) := by simp [od, List.getD_eq_getElem?_getD, List.getElem?_eq_getElem hk]
    simp only [reach, hlk, Bool.or_eq_true] at h
    rcases h with h | h
    · unfold binding at h
      rw [List.any_eq_true] at h
      obtain ⟨x, hx, hxb⟩ := h
      simp only [Bool.and_eq_true] at hxb
      have : x.on = i := by simpa using hxb.2
      rw [← this]
      exact hc x hx hxb.1
    · rw [List.any_eq_true] at h
      obtain ⟨x, hx, hxb⟩ := h
      simp only [Bool.and_eq_true] at hxb
      have hlt := hb k x hk hx hxb.1
      exact ih x.on i (by omega) (hS x.on (by omega) (hc x hx hxb.1)) hxb.2

theorem setAll_length (T : List (Nat × Chunk)) : ∀ L : List Chunk, (setAll L T).length = L.length := by
  induction T with
  | nil => intro L; rfl
  | cons p T ih => intro L; obtain ⟨i, c⟩ := p; simp [setAll, ih]

theorem setAll_other (T : List (Nat × Chunk)) : ∀ (L : List Chunk) (i : Nat), (∀ p ∈ T, p.1 ≠ i) → (setAll L T)[i]? = L[i]? := by
  induction T with
  | nil => intro L i _; rfl
  | cons p T ih =>
    intro L i h
    obtain ⟨j, c⟩ := p
    simp only [setAll]
    rw [ih _ i (fun p hp => h p (List.mem_cons_of_mem _ hp)), List.getElem?_set_ne]
    exact h (j, c) (List.mem_cons_self ..)

theorem setAll_same (T : List (Nat × Chunk)) : ∀ (L L' : List Chunk) (i : Nat), L.length = L'.length → L[i]? = L'[i]? → (setAll L T)[i]? = (setAll L' T)[i]? := by
  induction T with
  | nil => intro L L' i _ h; exact h
  | cons p T ih =>
    intro L L' i hl h
    obtain ⟨j, c⟩ := p
    simp only [setAll]
    refine ih _ _ i (by simp [hl]) ?_
    by_cases hji : j = i
    · subst hji
      rw [List.getElem?_set, List.getElem?_set, if_pos rfl, if_pos rfl, hl]
    · rw [List.getElem?_set_ne hji, List.getElem?_set_ne hji, h]

theorem T_in (s : Kd) (e : Env) (lk : Look) (v : Value) : ∀ p ∈ s.T e lk v, p.1 ∈ s.wrs := by
  intro p hp
  cases s with
  | p => simp [Kd.T] at hp
  | g rs rds wrs V T =>
    simp only [Kd.T] at hp
    exact (List.of_mem_zip (a := p.1) (b := p.2) hp).1

theorem T_loc (s : Kd) {e e' : Env} {lk lk' : Look} (h1 : ∀ t ∈ s.rs, e t = e' t) (h2 : ∀ i ∈ s.rds, lk i = lk' i) (v : Value) : s.T e lk v = s.T e' lk' v := by
  cases s with
  | p => rfl
  | g rs rds wrs V T =>
    have h1' : rs.map e = rs.map e' := List.map_congr_left h1
    have h2' : rds.map lk = rds.map lk' := List.map_congr_left h2
    simp only [Kd.T, h1', h2']

theorem ev_loc {e e' : Env} {o : Oper} (hs : ∀ cs b, o.op ≠ .select cs b) {ops : Array Oper} (h : ∀ t ∈ o.looksAt ops, e t = e' t) : execOp (ev e) o = execOp (ev e') o := by
  refine execOp_congr o hs fun x hx => ?_
  cases x with
  | tmp t => exact h t (List.mem_append_left _ (List.mem_filterMap.2 ⟨.tmp t, by simpa using hx, rfl⟩))
  | const v => rfl
  | global g => rfl
  | func f => rfl

theorem V_loc {o : Oper} (s : Kd) (hs : ∀ cs b, o.op ≠ .select cs b) {ops : Array Oper} {e e' : Env} {lk lk' : Look} (h : ∀ t ∈ o.looksAt ops, e t = e' t) (h1 : ∀ t ∈ s.rs, e t = e' t) (h2 : ∀ i ∈ s.rds, lk i = lk' i) (v : Value) :
    s.V P o e lk v = s.V P o e' lk' v := by
  cases s with
  | p => simp only [Kd.V]; rw [ev_loc hs h]
  | g rs rds wrs V T =>
    have h1' : rs.map e = rs.map e' := List.map_congr_left h1
    have h2' : rds.map lk = rds.map lk' := List.map_congr_left h2
    simp only [Kd.V, h1', h2']

theorem V_locL {o : Oper} (s : Kd) (hs : ∀ cs b, o.op ≠ .select cs b) {ops : Array Oper} {e e' : Env} {L L' : List Chunk} (h : ∀ t ∈ o.looksAt ops, e t = e' t) (h1 : ∀ t ∈ s.rs, e t = e' t) (h2 : ∀ i ∈ s.rds, L[i]? = L'[i]?) (v : Value) :
    s.V P o e (look L) v = s.V P o e' (look L') v := V_loc s hs h h1 h2 v

theorem want_loc {o : Oper} {ops : Array Oper} {e e' : Env} (h : ∀ t ∈ o.looksAt ops, e t = e' t) : want ops o e = want ops o e' := by
  unfold want
  cases hg : o.guard with
  | none => rfl
  | some jb =>
    obtain ⟨j, b⟩ := jb
    simp only
    cases hd : (ops[j]?).bind (·.dst) with
    | none => rfl
    | some d =>
      have : e d = e' d := h d (by unfold Oper.looksAt; rw [hg]; exact List.mem_append_right _ (by simp [hd]))
      simp only [this]

theorem putD_same {e e' : Env} {t : Nat} (d : Option Nat) (v : Value) (h : d ≠ some t → e t = e' t) : putD e d v t = putD e' d v t := by
  cases d with
  | none => exact h (by simp)
  | some d =>
    by_cases ht : t = d
    · subst ht; simp [putD, upd_same]
    · simp only [putD]; rw [upd_ne _ _ _ _ ht, upd_ne _ _ _ _ ht]; exact h (by simpa using fun h => ht h.symm)

theorem putD_other {e : Env} {t : Nat} {d : Option Nat} (v : Value) (h : d ≠ some t) : putD e d v t = e t := by
  cases d with
  | none => rfl
  | some d => simp only [putD]; exact upd_ne _ _ _ _ (by simpa using fun h' => h (by rw [h']))

theorem EL_length (S : Nat → Bool) (val : Nat → Value) : ∀ k, (EL P l sp e0 L0 S val k).2.length = L0.length := by
  intro k
  induction k with
  | zero => rfl
  | succ k ih =>
    simp only [EL]
    split
    · split
      · simp [setAll_length, ih]
      · exact ih
    · exact ih

theorem clash_dl {ops : Array Oper} {o1 o2 : Oper} {s1 s2 : Kd} {t : Nat} (h1 : o1.dst = some t) (h2 : t ∈ o2.looksAt ops) : clash ops o1 o2 s1 s2 = true := by
  unfold clash; rw [meets_of (a := o1.dst.toList) (x := t) (by simp [h1]) h2]; rfl
theorem clash_dd {ops : Array Oper} {o1 o2 : Oper} {s1 s2 : Kd} {t : Nat} (h1 : o1.dst = some t) (h2 : o2.dst = some t) : clash ops o1 o2 s1 s2 = true := by
  unfold clash; rw [meets_of (a := o1.dst.toList) (b := o2.dst.toList) (x := t) (by simp [h1]) (by simp [h2])]; simp
theorem clash_ld {ops : Array Oper} {o1 o2 : Oper} {s1 s2 : Kd} {t : Nat} (h1 : t ∈ o1.looksAt ops) (h2 : o2.dst = some t) : clash ops o1 o2 s1 s2 = true := by
  unfold clash; rw [meets_of (a := o2.dst.toList) (x := t) (by simp [h2]) h1]; simp
theorem clash_wr {ops : Array Oper} {o1 o2 : Oper} {s1 s2 : Kd} {i : Nat} (h1 : i ∈ s1.wrs) (h2 : i ∈ s2.rds ∨ i ∈ s2.wrs) : clash ops o1 o2 s1 s2 = true := by
  unfold clash
  rcases h2 with h2 | h2
  · rw [meets_of h1 h2]; simp
  · rw [meets_of (a := s1.wrs) (b := s2.wrs) h1 h2]; simp
theorem clash_rw {ops : Array Oper} {o1 o2 : Oper} {s1 s2 : Kd} {i : Nat} (h1 : i ∈ s1.rds ∨ i ∈ s1.wrs) (h2 : i ∈ s2.wrs) : clash ops o1 o2 s1 s2 = true := by
  unfold clash
  rcases h1 with h1 | h1
  · rw [meets_of (a := s1.rds) (b := s2.wrs) h1 h2]; simp
  · rw [meets_of (a := s1.wrs) (b := s2.wrs) h1 h2]; simp

/-- Two runs that agree on a set that is closed below k agree on what operation k touches. -/
theorem EL_agree (ok : Ok n l sp) {S S' : Nat → Bool} {val val' : Nat → Value} :
    ∀ k, k < l.length → (∀ i, i < k → reach l 3 k i = true → S i ∧ S' i ∧ val i = val' i) →
      (∀ i, i < k → S i → S' i → val i = val' i ∧
        ((∀ t ∈ (od l i).looksAt l.toArray, (EL P l sp e0 L0 S val i).1 t = (EL P l sp e0 L0 S' val' i).1 t) ∧
         (∀ r, r ∈ (sd sp i).rds ∨ r ∈ (sd sp i).wrs → (EL P l sp e0 L0 S val i).2[r]? = (EL P l sp e0 L0 S' val' i).2[r]?))) →
      ∀ j, j ≤ k → (∀ t ∈ (od l k).looksAt l.toArray, (EL P l sp e0 L0 S val j).1 t = (EL P l sp e0 L0 S' val' j).1 t) ∧
        (∀ r, r ∈ (sd sp k).rds ∨ r ∈ (sd sp k).wrs → (EL P l sp e0 L0 S val j).2[r]? = (EL P l sp e0 L0 S' val' j).2[r]?) := by
  intro k hk hcl hin j
  induction j with
  | zero => intro _; exact ⟨fun _ _ => rfl, fun _ _ => rfl⟩
  | succ j ih =>
    intro hj
    obtain ⟨ih1, ih2⟩ := ih (by omega)
    by_cases hb : S j ∧ S' j
    · obtain ⟨hv, hl1, hl2⟩ := hin j (by omega) hb.1 hb.2
      have hw : want l.toArray (od l j) (EL P l sp e0 L0 S val j).1 = want l.toArray (od l j) (EL P l sp e0 L0 S' val' j).1 := want_loc hl1
      have hT : (sd sp j).T (EL P l sp e0 L0 S val j).1 (look (EL P l sp e0 L0 S val j).2) (val j) = (sd sp j).T (EL P l sp e0 L0 S' val' j).1 (look (EL P l sp e0 L0 S' val' j).2) (val' j) := by
        rw [hv]
        exact T_loc _ (fun t ht => hl1 t (ok.rs j t (by omega) ht)) (fun i hi => hl2 i (.inl hi)) _
      simp only [EL, if_pos hb.1, if_pos hb.2]
      refine ⟨fun t ht => ?_, fun r hr => ?_⟩
      · rw [hv]; exact putD_same _ _ (fun _ => ih1 t ht)
      · rw [hw, hT]
        split
        · exact setAll_same _ _ _ r (by rw [EL_length, EL_length]) (ih2 r hr)
        · exact ih2 r hr
    · have hnr : ¬ reach l 3 k j = true := fun hr => hb ⟨(hcl j (by omega) hr).1, (hcl j (by omega) hr).2.1⟩
      have hnc : ¬ clash l.toArray (od l j) (od l k) (sd sp j) (sd sp k) = true := fun hc => hnr (ok.ord k j hk (by omega) hc)
      have one : ∀ (X : Nat → Bool) (va : Nat → Value), (∀ t ∈ (od l k).looksAt l.toArray, (EL P l sp e0 L0 X va (j + 1)).1 t = (EL P l sp e0 L0 X va j).1 t) ∧
          (∀ r, r ∈ (sd sp k).rds ∨ r ∈ (sd sp k).wrs → (EL P l sp e0 L0 X va (j + 1)).2[r]? = (EL P l sp e0 L0 X va j).2[r]?) := by
        intro X va
        simp only [EL]
        split
        · refine ⟨fun t ht => ?_, fun r hr => ?_⟩
          · exact putD_other _ (fun hd => hnc (clash_dl hd ht))
          · split
            · exact setAll_other _ _ r (fun p hp hpr => hnc (clash_wr (by rw [← hpr]; exact T_in _ _ _ _ p hp) hr))
            · rfl
        · exact ⟨fun _ _ => rfl, fun _ _ => rfl⟩
      refine ⟨fun t ht => ?_, fun r hr => ?_⟩
      · rw [(one S val).1 t ht, (one S' val').1 t ht]; exact ih1 t ht
      · rw [(one S val).2 r hr, (one S' val').2 r hr]; exact ih2 r hr

def Sc (l : List Oper) (S : Nat → Bool) : Prop := ∀ k, k < l.length → S k = true → Closed l (fun i => S i = true) k

theorem closed_reach (ok : Ok n l sp) {S : Nat → Bool} (hS : Sc l S) {k i : Nat} (hk : k < l.length) (hc : Closed l (fun i => S i = true) k) (h : reach l 3 k i = true) : S i = true :=
  reach_in (fun i => S i = true) (fun k hk h => hS k hk h) ok.back 3 k i hk hc h

theorem agree_all (ok : Ok n l sp) {S S' : Nat → Bool} {val val' : Nat → Value} (hS : Sc l S) (hS' : ∀ i, S i = true → S' i = true) (hv : ∀ i, S i = true → val i = val' i) :
    ∀ k, k < l.length → Closed l (fun i => S i = true) k → (∀ t ∈ (od l k).looksAt l.toArray, (EL P l sp e0 L0 S val k).1 t = (EL P l sp e0 L0 S' val' k).1 t) ∧
        (∀ r, r ∈ (sd sp k).rds ∨ r ∈ (sd sp k).wrs → (EL P l sp e0 L0 S val k).2[r]? = (EL P l sp e0 L0 S' val' k).2[r]?) := by
  intro k
  induction k using Nat.strongRecOn with
  | _ k ih =>
    intro hk hc
    exact EL_agree ok k hk (fun i hi hr => ⟨closed_reach ok hS hk hc hr, hS' i (closed_reach ok hS hk hc hr), hv i (closed_reach ok hS hk hc hr)⟩)
      (fun i hi hs _ => ⟨hv i hs, ih i hi (by omega) (hS i (by omega) hs)⟩) k (Nat.le_refl _)

theorem EL_congr (S : Nat → Bool) {val val' : Nat → Value} : ∀ k, (∀ i, i < k → val i = val' i) → EL P l sp e0 L0 S val k = EL P l sp e0 L0 S val' k := by
  intro k
  induction k with
  | zero => intro _; rfl
  | succ k ih =>
    intro h
    simp only [EL]
    rw [ih (fun i hi => h i (by omega)), h k (by omega)]

def Cons (P : Program) (l : List Oper) (sp : List Kd) (e0 : Env) (L0 : List Chunk) (S : Nat → Bool) (val : Nat → Value) (k : Nat) : Prop :=
  ∀ j, j < k → S j = true → if want l.toArray (od l j) (EL P l sp e0 L0 S val j).1 = true then (sd sp j).V P (od l j) (EL P l sp e0 L0 S val j).1 (look (EL P l sp e0 L0 S val j).2) (val j) else val j = undef

def full : Nat → Bool := fun _ => true

theorem drop_od {k : Nat} (hk : k < l.length) : l.drop k = od l k :: l.drop (k + 1) := by
  rw [List.drop_eq_getElem_cons hk]; simp [od, List.getD_eq_getElem?_getD, List.getElem?_eq_getElem hk]
theorem drop_sd {k : Nat} (hk : k < sp.length) : sp.drop k = sd sp k :: sp.drop (k + 1) := by
  rw [List.drop_eq_getElem_cons hk]; simp [sd, List.getD_eq_getElem?_getD, List.getElem?_eq_getElem hk]

theorem sq_at (ok : Ok n l sp) {F : Env → List Chunk → Prop} (h : Sq P cx l.toArray F l sp e0 L0) : ∀ k, k ≤ l.length → ∀ val, Cons P l sp e0 L0 full val k →
    Sq P cx l.toArray F (l.drop k) (sp.drop k) (EL P l sp e0 L0 full val k).1 (EL P l sp e0 L0 full val k).2 := by
  intro k
  induction k with
  | zero => intro _ _ _; simpa [EL] using h
  | succ k ih =>
    intro hk val hc
    have h0 := ih (by omega) val (fun j hj => hc j (by omega))
    rw [drop_od (by omega), drop_sd (by have := ok.len; omega)] at h0
    have hck := hc k (by omega) rfl
    simp only [EL, full, if_true]
    cases h0 with
    | pass hw h1 =>
      rw [if_neg (by rw [hw]; simp)] at hck
      rw [if_neg (by rw [hw]; simp), hck]
      exact h1
    | take hw hi hl h1 =>
      rw [if_pos hw] at hck
      rw [if_pos hw]
      exact h1 _ hck

theorem fill (ok : Ok n l sp) {F : Env → List Chunk → Prop} (h : Sq P cx l.toArray F l sp e0 L0) {S : Nat → Bool} {val : Nat → Value} (hS : Sc l S) (hc : Cons P l sp e0 L0 S val l.length) :
    ∀ k, k ≤ l.length → ∃ val', (∀ i, S i = true → val' i = val i) ∧ Cons P l sp e0 L0 full val' k := by
  intro k
  induction k with
  | zero => intro _; exact ⟨val, fun _ _ => rfl, fun j hj => by omega⟩
  | succ k ih =>
    intro hk
    obtain ⟨val', hv, hcf⟩ := ih (by omega)
    by_cases hSk : S k = true
    · refine ⟨val', hv, fun j hj hf => ?_⟩
      by_cases hjk : j = k
      · subst hjk
        have hj' := hc j (by omega) hSk
        obtain ⟨a1, a2⟩ := agree_all (P := P) (e0 := e0) (L0 := L0) ok (S' := full) (val' := val') hS (fun _ _ => rfl) (fun i hi => (hv i hi).symm) j (by omega) (hS j (by omega) hSk)
        rw [← want_loc (ops := l.toArray) a1, hv j hSk]
        split
        · rename_i hw
          rw [if_pos hw] at hj'
          rw [← V_loc (lk := look (EL P l sp e0 L0 S val j).2) (lk' := look (EL P l sp e0 L0 full val' j).2) (sd sp j) (Region.noSelect_spec ok.nosel j _ · · (by simp [od, List.getD_eq_getElem?_getD, List.getElem?_eq_getElem (show j < l.length by omega)])) (ops := l.toArray) a1 (fun t ht => a1 t (ok.rs j t (by omega) ht)) (fun i hi => a2 i (.inl hi))]
          exact hj'
        · rename_i hw
          rw [if_neg hw] at hj'
          exact hj'
      · exact hcf j (by omega) hf
    · have h0 := sq_at ok h k (by omega) val' hcf
      rw [drop_od (by omega), drop_sd (by have := ok.len; omega)] at h0
      have fin : ∀ v : Value, (if want l.toArray (od l k) (EL P l sp e0 L0 full val' k).1 = true then (sd sp k).V P (od l k) (EL P l sp e0 L0 full val' k).1 (look (EL P l sp e0 L0 full val' k).2) v else v = undef) →
          ∃ val'', (∀ i, S i = true → val'' i = val i) ∧ Cons P l sp e0 L0 full val'' (k + 1) := by
        intro v hvv
        refine ⟨fun i => if i = k then v else val' i, fun i hi => ?_, fun j hj hf => ?_⟩
        · have : i ≠ k := fun e => hSk (by rw [← e]; exact hi)
          simp [this, hv i hi]
        · have he : EL P l sp e0 L0 full (fun i => if i = k then v else val' i) j = EL P l sp e0 L0 full val' j := EL_congr full j (fun i hi => by
            have : i ≠ k := by omega
            simp [this])
          rw [he]
          by_cases hjk : j = k
          · subst hjk
            simpa using hvv
          · simp only [hjk, if_false]
            exact hcf j (by omega) hf
      cases h0 with
      | pass hw h1 => exact fin undef (by rw [if_neg (by rw [hw]; simp)])
      | take hw hi hl h1 =>
        obtain ⟨v, hv'⟩ := hi
        exact fin v (by rw [if_pos hw]; exact hv')

/-- What stands behind k in the text, and has been taken, does not touch what k touches. -/
theorem tail_agree (ok : Ok n l sp) {S : Nat → Bool} {val : Nat → Value} (hS : Sc l S) {k : Nat} (hSk : S k = false) :
    ∀ j, k ≤ j → j ≤ l.length → (∀ t ∈ (od l k).looksAt l.toArray, (EL P l sp e0 L0 S val j).1 t = (EL P l sp e0 L0 S val k).1 t) ∧
        (∀ r, r ∈ (sd sp k).rds ∨ r ∈ (sd sp k).wrs → (EL P l sp e0 L0 S val j).2[r]? = (EL P l sp e0 L0 S val k).2[r]?) := by
  intro j hj
  obtain ⟨d, rfl⟩ := Nat.exists_eq_add_of_le hj
  clear hj
  induction d with
  | zero => intro _; exact ⟨fun _ _ => rfl, fun _ _ => rfl⟩
  | succ d ih =>
    intro hjl
    obtain ⟨a1, a2⟩ := ih (by omega)
    rw [show k + (d + 1) = (k + d) + 1 from rfl] at *
    generalize hjd : k + d = j at *
    have hj : k ≤ j := by omega
    simp only [EL]
    by_cases hSj : S j = true
    · have hjk : k < j := by
        rcases Nat.lt_or_ge k j with h | h
        · exact h
        · have : j = k := by omega
          rw [this, hSk] at hSj; cases hSj
      have hnc : ¬ clash l.toArray (od l k) (od l j) (sd sp k) (sd sp j) = true := fun hc => by
        have := closed_reach ok hS (by omega) (hS j (by omega) hSj) (ok.ord j k (by omega) hjk hc)
        rw [hSk] at this; cases this
      rw [if_pos hSj]
      refine ⟨fun t ht => ?_, fun r hr => ?_⟩
      · rw [← a1 t ht]
        exact putD_other _ (fun hd => hnc (clash_ld ht hd))
      · rw [← a2 r hr]
        show (if _ then _ else _)[r]? = _
        split
        · exact setAll_other _ _ r (fun p hp hpr => hnc (clash_rw hr (by rw [← hpr]; exact T_in _ _ _ _ p hp)))
        · rfl
    · rw [if_neg hSj]
      exact ⟨a1, a2⟩

theorem putD_comm {e : Env} {d1 d2 : Option Nat} {v1 v2 : Value} (h : ∀ t, d1 = some t → d2 ≠ some t) : putD (putD e d1 v1) d2 v2 = putD (putD e d2 v2) d1 v1 := by
  funext t
  by_cases h1 : d1 = some t
  · have h2 := h t h1
    subst h1
    rw [putD_other _ h2]
    exact putD_same _ _ (fun hh => absurd rfl hh)
  · rw [putD_other (d := d1) _ h1]
    exact putD_same _ _ (fun _ => putD_other _ h1)

theorem setAll_comm (A B : List (Nat × Chunk)) (L : List Chunk) (h : ∀ p ∈ A, ∀ q ∈ B, p.1 ≠ q.1) : setAll (setAll L A) B = setAll (setAll L B) A := by
  apply List.ext_getElem?
  intro i
  by_cases hA : ∃ p ∈ A, p.1 = i
  · obtain ⟨p, hp, hpi⟩ := hA
    rw [setAll_other B _ i (fun q hq hqi => h p hp q hq (by omega))]
    exact setAll_same A _ _ i (by simp [setAll_length]) (setAll_other B _ i (fun q hq hqi => h p hp q hq (by omega))).symm
  · have hA' : ∀ p ∈ A, p.1 ≠ i := fun p hp hpi => hA ⟨p, hp, hpi⟩
    rw [setAll_other A _ i hA']
    exact setAll_same B _ _ i (by simp [setAll_length]) (setAll_other A _ i hA')

def with1 (S : Nat → Bool) (k : Nat) : Nat → Bool := fun i => if i = k then true else S i
def val1 (val : Nat → Value) (k : Nat) (v : Value) : Nat → Value := fun i => if i = k then v else val i

theorem EL_below (S : Nat → Bool) (val : Nat → Value) (k : Nat) (v : Value) : ∀ j, j ≤ k → EL P l sp e0 L0 (with1 S k) (val1 val k v) j = EL P l sp e0 L0 S val j := by
  intro j
  induction j with
  | zero => intro _; rfl
  | succ j ih =>
    intro hj
    have hjk : j ≠ k := by omega
    simp only [EL, ih (by omega), with1, val1, hjk, if_false]

/-- One operation more. -/
theorem EL_step (ok : Ok n l sp) {S : Nat → Bool} {val : Nat → Value} (hS : Sc l S) {k : Nat} (hSk : S k = false) (v : Value) :
    ∀ j, k + 1 ≤ j → j ≤ l.length → EL P l sp e0 L0 (with1 S k) (val1 val k v) j =
      (putD (EL P l sp e0 L0 S val j).1 (od l k).dst v, if want l.toArray (od l k) (EL P l sp e0 L0 S val k).1 = true then setAll (EL P l sp e0 L0 S val j).2 ((sd sp k).T (EL P l sp e0 L0 S val k).1 (look (EL P l sp e0 L0 S val k).2) v) else (EL P l sp e0 L0 S val j).2) := by
  intro j hj
  obtain ⟨d, rfl⟩ := Nat.exists_eq_add_of_le hj
  clear hj
  induction d with
  | zero =>
    intro _
    have h1 : EL P l sp e0 L0 (with1 S k) (val1 val k v) (k + 1) = _ := rfl
    rw [h1]
    simp only [EL, EL_below S val k v k (Nat.le_refl _), with1, val1, if_true, hSk]
    rfl
  | succ d ih =>
    intro hjl
    have ih := ih (by omega)
    rw [show k + 1 + (d + 1) = (k + 1 + d) + 1 from rfl] at *
    generalize hjd : k + 1 + d = j at *
    have hjk : j ≠ k := by omega
    by_cases hSj : S j = true
    · have hnc : ¬ clash l.toArray (od l k) (od l j) (sd sp k) (sd sp j) = true := fun hc => by
        have := closed_reach ok hS (by omega) (hS j (by omega) hSj) (ok.ord j k (by omega) (by omega) hc)
        rw [hSk] at this; cases this
      have e1 : ∀ t ∈ (od l j).looksAt l.toArray, putD (EL P l sp e0 L0 S val j).1 (od l k).dst v t = (EL P l sp e0 L0 S val j).1 t :=
        fun t ht => putD_other _ (fun hd => hnc (clash_dl hd ht))
      have e2 : ∀ r, r ∈ (sd sp j).rds ∨ r ∈ (sd sp j).wrs → (if want l.toArray (od l k) (EL P l sp e0 L0 S val k).1 = true then setAll (EL P l sp e0 L0 S val j).2 ((sd sp k).T (EL P l sp e0 L0 S val k).1 (look (EL P l sp e0 L0 S val k).2) v) else (EL P l sp e0 L0 S val j).2)[r]? = (EL P l sp e0 L0 S val j).2[r]? := by
        intro r hr
        split
        · exact setAll_other _ _ r (fun p hp hpr => hnc (clash_wr (by rw [← hpr]; exact T_in _ _ _ _ p hp) hr))
        · rfl
      have hT := T_loc (sd sp j) (e := putD (EL P l sp e0 L0 S val j).1 (od l k).dst v) (e' := (EL P l sp e0 L0 S val j).1)
        (lk := look (if want l.toArray (od l k) (EL P l sp e0 L0 S val k).1 = true then setAll (EL P l sp e0 L0 S val j).2 ((sd sp k).T (EL P l sp e0 L0 S val k).1 (look (EL P l sp e0 L0 S val k).2) v) else (EL P l sp e0 L0 S val j).2)) (lk' := look (EL P l sp e0 L0 S val j).2)
        (fun t ht => e1 t (ok.rs j t (by omega) ht)) (fun i hi => e2 i (.inl hi)) (val j)
      have hw := want_loc (ops := l.toArray) e1
      have h1 : EL P l sp e0 L0 (with1 S k) (val1 val k v) (j + 1) = (putD (EL P l sp e0 L0 (with1 S k) (val1 val k v) j).1 (od l j).dst (val j), if want l.toArray (od l j) (EL P l sp e0 L0 (with1 S k) (val1 val k v) j).1 = true then setAll (EL P l sp e0 L0 (with1 S k) (val1 val k v) j).2 ((sd sp j).T (EL P l sp e0 L0 (with1 S k) (val1 val k v) j).1 (look (EL P l sp e0 L0 (with1 S k) (val1 val k v) j).2) (val j)) else (EL P l sp e0 L0 (with1 S k) (val1 val k v) j).2) := by
        simp [EL, with1, val1, hjk, hSj]
      have h2 : EL P l sp e0 L0 S val (j + 1) = (putD (EL P l sp e0 L0 S val j).1 (od l j).dst (val j), if want l.toArray (od l j) (EL P l sp e0 L0 S val j).1 = true then setAll (EL P l sp e0 L0 S val j).2 ((sd sp j).T (EL P l sp e0 L0 S val j).1 (look (EL P l sp e0 L0 S val j).2) (val j)) else (EL P l sp e0 L0 S val j).2) := by
        simp [EL, hSj]
      rw [h1, h2, ih]
      simp only
      rw [hw, hT]
      refine Prod.ext ?_ ?_
      · exact putD_comm (fun t ht1 ht2 => hnc (clash_dd ht1 ht2))
      · show (if _ then _ else _) = (if _ then _ else _)
        by_cases hwj : want l.toArray (od l j) (EL P l sp e0 L0 S val j).1 = true <;> by_cases hwk : want l.toArray (od l k) (EL P l sp e0 L0 S val k).1 = true
        · simp only [hwj, hwk, if_true]
          exact setAll_comm _ _ _ (fun p hp q hq hpq => hnc (clash_wr (T_in _ _ _ _ p hp) (.inr (by rw [hpq]; exact T_in _ _ _ _ q hq))))
        · simp only [hwj, hwk, if_true]; rfl
        · simp only [hwj, hwk, if_true]; rfl
        · simp only [hwj, hwk]; rfl
    · have h1 : EL P l sp e0 L0 (with1 S k) (val1 val k v) (j + 1) = EL P l sp e0 L0 (with1 S k) (val1 val k v) j := by
        simp [EL, with1, hjk, hSj]
      have h2 : EL P l sp e0 L0 S val (j + 1) = EL P l sp e0 L0 S val j := by simp [EL, hSj]
      rw [h1, h2, ih]

def listedS (listed : Array Bool) : Nat → Bool := fun k => listed.getD k false

theorem cons_step (ok : Ok n l sp) {S : Nat → Bool} {val : Nat → Value} (hS : Sc l S) {k : Nat} (hk : k < l.length) (hSk : S k = false) (hc : Cons P l sp e0 L0 S val l.length) {v : Value}
    (hv : if want l.toArray (od l k) (EL P l sp e0 L0 S val k).1 = true then (sd sp k).V P (od l k) (EL P l sp e0 L0 S val k).1 (look (EL P l sp e0 L0 S val k).2) v else v = undef) :
    Cons P l sp e0 L0 (with1 S k) (val1 val k v) l.length := by
  intro j hj hSj
  by_cases hjk : j = k
  · subst hjk
    rw [EL_below S val j v j (Nat.le_refl _)]
    simpa [val1] using hv
  · have hSj' : S j = true := by simpa [with1, hjk] using hSj
    have hcj := hc j hj hSj'
    have hval : val1 val k v j = val j := by simp [val1, hjk]
    rw [hval]
    by_cases hlt : j < k
    · rw [EL_below S val k v j (by omega)]
      exact hcj
    · have hkj : k < j := by omega
      have hnc : ¬ clash l.toArray (od l k) (od l j) (sd sp k) (sd sp j) = true := fun hh => by
        have := closed_reach ok hS hj (hS j hj hSj') (ok.ord j k hj hkj hh)
        rw [hSk] at this; cases this
      rw [EL_step ok hS hSk v j (by omega) (by omega)]
      have e1 : ∀ t ∈ (od l j).looksAt l.toArray, putD (EL P l sp e0 L0 S val j).1 (od l k).dst v t = (EL P l sp e0 L0 S val j).1 t :=
        fun t ht => putD_other _ (fun hd => hnc (clash_dl hd ht))
      have e2 : ∀ r, r ∈ (sd sp j).rds ∨ r ∈ (sd sp j).wrs → (if want l.toArray (od l k) (EL P l sp e0 L0 S val k).1 = true then setAll (EL P l sp e0 L0 S val j).2 ((sd sp k).T (EL P l sp e0 L0 S val k).1 (look (EL P l sp e0 L0 S val k).2) v) else (EL P l sp e0 L0 S val j).2)[r]? = (EL P l sp e0 L0 S val j).2[r]? := by
        intro r hr
        split
        · exact setAll_other _ _ r (fun p hp hpr => hnc (clash_wr (by rw [← hpr]; exact T_in _ _ _ _ p hp) hr))
        · rfl
      simp only
      rw [want_loc (ops := l.toArray) e1]
      split
      · rename_i hw
        rw [if_pos hw] at hcj
        rw [V_locL (L' := (EL P l sp e0 L0 S val j).2) (sd sp j) (Region.noSelect_spec ok.nosel j _ · · (by simp [od, List.getD_eq_getElem?_getD, List.getElem?_eq_getElem hj])) (ops := l.toArray) e1 (fun t ht => e1 t (ok.rs j t hj ht)) (fun i hi => e2 i (.inl hi))]
        exact hcj
      · rename_i hw
        rw [if_neg hw] at hcj
        exact hcj

theorem ready_mem {md : Region.Mode} {ops : Array Oper} {listed : Array Bool} {k : Nat} (h : k ∈ Region.ready md ops listed) :
    k < ops.size ∧ listed.getD k true = false ∧ ∃ o, ops[k]? = some o ∧ ∀ x ∈ o.after.toList, Region.binds md x = true → listed.getD x.on false = true := by
  unfold Region.ready at h
  rw [List.mem_filter] at h
  obtain ⟨h1, h2⟩ := h
  rw [List.mem_range] at h1
  simp only [Bool.and_eq_true, Bool.not_eq_true'] at h2
  obtain ⟨h2, h3⟩ := h2
  refine ⟨h1, h2, ops[k], Array.getElem?_eq_getElem h1, fun x hx hb => ?_⟩
  rw [Array.getElem?_eq_getElem h1] at h3
  simp only [Option.map_some, Option.getD_some] at h3
  have := Array.all_eq_true_iff_forall_mem.1 h3 x (by simpa using hx)
  simpa [hb] using this

theorem any_of (ok : Ok n l sp) (h : Sq P cx l.toArray (fun e L => At cx (Q .normal) e L) l sp e0 L0) : ∀ (fuel : Nat) (listed : Array Bool) (a : Act) (w : World) (val : Nat → Value), listed.size = l.length →
    Sc l (listedS listed) → Cons P l sp e0 L0 (listedS listed) val l.length →
    ((List.range l.length).filter fun k => !listedS listed k).length ≤ fuel →
    Sim n a (EL P l sp e0 L0 (listedS listed) val l.length).1 → Fr cx w → Sat cx w (EL P l sp e0 L0 (listedS listed) val l.length).2 →
    wpAny P .any l.toArray (lift n Q) fuel listed a w := by
  have final : ∀ (listed : Array Bool) (a : Act) (w : World) (val : Nat → Value), (∀ k, k < l.length → listedS listed k = true) → Cons P l sp e0 L0 (listedS listed) val l.length →
      Sim n a (EL P l sp e0 L0 (listedS listed) val l.length).1 → Fr cx w → Sat cx w (EL P l sp e0 L0 (listedS listed) val l.length).2 → lift n Q .normal a w := by
    intro listed a w val hall hc hs hF hS
    have he : ∀ k, k ≤ l.length → EL P l sp e0 L0 (listedS listed) val k = EL P l sp e0 L0 full val k := by
      intro k
      induction k with
      | zero => intro _; rfl
      | succ k ih => intro hk; simp only [EL, ih (by omega), hall k (by omega), full]
    have hcf : Cons P l sp e0 L0 full val l.length := fun j hj hf => by
      have := hc j hj (hall j hj)
      rwa [he j (by omega)] at this
    have h0 := sq_at ok h l.length (Nat.le_refl _) val hcf
    rw [List.drop_length, ok.len, List.drop_length, ← ok.len] at h0
    cases h0 with
    | nil hh =>
      rw [← he _ (Nat.le_refl _)] at hh
      exact ⟨_, hs, hh.out w hF hS⟩
  have ready_all : ∀ (listed : Array Bool), listed.size = l.length → Region.ready .any l.toArray listed = [] → ∀ k, k < l.length → listedS listed k = true := by
    intro listed hsz hr k
    induction k using Nat.strongRecOn with
    | _ k ih =>
      intro hk
      rcases Bool.eq_false_or_eq_true (listedS listed k) with hh | hh
      · exact hh
      · exfalso
        have : k ∈ Region.ready .any l.toArray listed := by
          unfold Region.ready
          rw [List.mem_filter]
          refine ⟨by simpa using hk, ?_⟩
          have hg : listed.getD k true = false := by
            have hh' : listed.getD k false = false := hh
            rw [Array.getD_eq_getD_getElem?, Array.getElem?_eq_getElem (by omega)] at hh' ⊢
            simpa using hh'
          have hok : l.toArray[k]? = some (od l k) := by simp [od, List.getD_eq_getElem?_getD, List.getElem?_eq_getElem hk]
          simp only [hg, Bool.not_false, Bool.true_and, hok, Option.map_some, Option.getD_some]
          rw [Array.all_eq_true_iff_forall_mem]
          intro x hx
          by_cases hb : Region.binds .any x = true
          · have hlt := ok.back k x hk (by simpa using hx) hb
            have := ih x.on hlt (by omega)
            simp only [hb, Bool.not_true, Bool.false_or]
            exact this
          · simp only [Bool.not_eq_true] at hb
            simp [hb]
        rw [hr] at this
        cases this
  intro fuel
  induction fuel with
  | zero =>
    intro listed a w val hsz hSc hc hcount hs hF hS
    have hall : ∀ k, k < l.length → listedS listed k = true := by
      intro k hk
      have h0 : (List.range l.length).filter (fun k => !listedS listed k) = [] := List.eq_nil_of_length_eq_zero (by omega)
      rw [List.filter_eq_nil_iff] at h0
      simpa using h0 k (by simpa using hk)
    refine ⟨?_, final listed a w val hall hc hs hF hS⟩
    cases hr : Region.ready .any l.toArray listed with
    | nil => rfl
    | cons x xs =>
      exfalso
      obtain ⟨h1, h2, _⟩ := ready_mem (md := .any) (ops := l.toArray) (listed := listed) (k := x) (by rw [hr]; simp)
      have h1' : x < l.length := by simpa using h1
      have := hall x h1'
      unfold listedS at this
      rw [Array.getD_eq_getD_getElem?, Array.getElem?_eq_getElem (by omega)] at this h2
      simp at this h2
      rw [this] at h2
      cases h2
  | succ fuel ih =>
    intro listed a w val hsz hSc hc hcount hs hF hS
    refine ⟨fun hr => final listed a w val (ready_all listed hsz hr) hc hs hF hS, fun k hk => ?_⟩
    obtain ⟨h1, h2, o, ho, hafter⟩ := ready_mem hk
    have hkl : k < l.length := by simpa using h1
    have hoe : o = od l k := by
      have : l[k]? = some o := by simpa using ho
      simp [od, List.getD_eq_getElem?_getD, this]
    subst hoe
    have hSk : listedS listed k = false := by
      unfold listedS
      rw [Array.getD_eq_getD_getElem?, Array.getElem?_eq_getElem (by omega)] at h2 ⊢
      simpa using h2
    have hclk : Closed l (fun i => listedS listed i = true) k := fun x hx hb => hafter x hx hb
    obtain ⟨val', hv, hcf⟩ := fill ok h hSc hc k (by omega)
    have h0 := sq_at ok h k (by omega) val' hcf
    rw [drop_od hkl, drop_sd (by have := ok.len; omega)] at h0
    obtain ⟨a1, a2⟩ := agree_all (P := P) (e0 := e0) (L0 := L0) ok (S' := full) (val' := val') hSc (fun _ _ => rfl) (fun i hi => (hv i hi).symm) k hkl hclk
    obtain ⟨b1, b2⟩ := tail_agree (P := P) (e0 := e0) (L0 := L0) (val := val) ok hSc hSk l.length (by omega) (Nat.le_refl _)
    have hsel : ∀ cs b, (od l k).op ≠ .select cs b := (Region.noSelect_spec ok.nosel k _ · · (by simpa using ho))
    have hSn : listedS (listed.setIfInBounds k true) = with1 (listedS listed) k := by
      funext i
      unfold listedS with1
      simp only [Array.getD_eq_getD_getElem?, Array.getElem?_setIfInBounds]
      by_cases hik : i = k
      · subst hik; simp [show i < listed.size by omega]
      · have : ¬ k = i := fun e => hik e.symm
        simp [hik, this]
    have hScn : Sc l (with1 (listedS listed) k) := by
      intro j hj hSj x hx hb
      by_cases hjk : j = k
      · subst hjk
        have := hclk x hx hb
        simp only [with1]
        split
        · rfl
        · exact this
      · have hSj' : listedS listed j = true := by simpa [with1, hjk] using hSj
        have := hSc j hj hSj' x hx hb
        simp only [with1]
        split
        · rfl
        · exact this
    have hcnt : ((List.range l.length).filter fun i => !with1 (listedS listed) k i).length ≤ fuel := by
      have hsub : ((List.range l.length).filter fun i => !with1 (listedS listed) k i).length < ((List.range l.length).filter fun i => !listedS listed i).length := by
        have e1 : (List.range l.length).filter (fun i => !with1 (listedS listed) k i) = ((List.range l.length).filter fun i => !listedS listed i).filter fun i => decide (i ≠ k) := by
          rw [List.filter_filter]
          apply List.filter_congr
          intro i _
          unfold with1
          by_cases hik : i = k <;> simp [hik]
        rw [e1]
        refine List.length_filter_lt_length_iff_exists.2 ⟨k, ?_, by simp⟩
        rw [List.mem_filter]
        exact ⟨by simpa using hkl, by simp [hSk]⟩
      omega
    have hwa : want l.toArray (od l k) (EL P l sp e0 L0 (listedS listed) val l.length).1 = want l.toArray (od l k) (EL P l sp e0 L0 full val' k).1 := (want_loc b1).trans (want_loc a1)
    have hwk : want l.toArray (od l k) (EL P l sp e0 L0 (listedS listed) val k).1 = want l.toArray (od l k) (EL P l sp e0 L0 full val' k).1 := want_loc a1
    -- what stands after the operation
    have next : ∀ (v : Value) (a' : Act) (w' : World), (if want l.toArray (od l k) (EL P l sp e0 L0 full val' k).1 = true then (sd sp k).V P (od l k) (EL P l sp e0 L0 full val' k).1 (look (EL P l sp e0 L0 full val' k).2) v else v = undef) →
        Sim n a' (putD (EL P l sp e0 L0 (listedS listed) val l.length).1 (od l k).dst v) → Fr cx w' →
        Sat cx w' (if want l.toArray (od l k) (EL P l sp e0 L0 full val' k).1 = true then setAll (EL P l sp e0 L0 (listedS listed) val l.length).2 ((sd sp k).T (EL P l sp e0 L0 full val' k).1 (look (EL P l sp e0 L0 full val' k).2) v) else (EL P l sp e0 L0 (listedS listed) val l.length).2) →
        wpAny P .any l.toArray (lift n Q) fuel (listed.setIfInBounds k true) a' w' := by
      intro v a' w' hvv hs' hF' hS'
      have hstep := EL_step (P := P) (e0 := e0) (L0 := L0) ok hSc hSk v (val := val) l.length (by omega) (Nat.le_refl _)
      have hT : (sd sp k).T (EL P l sp e0 L0 (listedS listed) val k).1 (look (EL P l sp e0 L0 (listedS listed) val k).2) v = (sd sp k).T (EL P l sp e0 L0 full val' k).1 (look (EL P l sp e0 L0 full val' k).2) v :=
        T_loc _ (fun t ht => a1 t (ok.rs k t hkl ht)) (fun i hi => a2 i (.inl hi)) v
      refine ih (listed.setIfInBounds k true) a' w' (val1 val k v) (by simpa using hsz) (by rw [hSn]; exact hScn) ?_ (by rw [hSn]; exact hcnt) ?_ hF' ?_
      · rw [hSn]
        refine cons_step ok hSc hkl hSk hc ?_
        rw [hwk]
        split
        · rename_i hw
          rw [if_pos hw] at hvv
          rw [V_locL (L' := (EL P l sp e0 L0 full val' k).2) (sd sp k) hsel (ops := l.toArray) a1 (fun t ht => a1 t (ok.rs k t hkl ht)) (fun i hi => a2 i (.inl hi))]
          exact hvv
        · rename_i hw
          rw [if_neg hw] at hvv
          exact hvv
      · rw [hSn, hstep]; exact hs'
      · rw [hSn, hstep]
        simp only
        rw [hwk, hT]
        exact hS'
    unfold wpOp
    rw [ho]
    simp only
    rw [want_eq hs, hwa]
    cases h0 with
    | pass hw h3 =>
      rw [hw]
      simp only [Bool.false_eq_true, if_false]
      refine next undef _ w (by rw [if_neg (by rw [hw]; simp)]) ?_ hF (by rw [if_neg (by rw [hw]; simp)]; exact hS)
      cases hd : (od l k).dst with
      | none => exact hs
      | some d => exact hs.put (ok.dst k d hkl hd) undef
    | take hw hi hl h3 =>
      rw [hw, if_pos rfl]
      refine .inl ?_
      have hr := hl.out w _ hF hS (by rw [EL_length, EL_length]) (fun i hi => (b2 i hi).trans (a2 i hi))
      have hev : execOp (ev (EL P l sp e0 L0 full val' k).1) (od l k) = execOp (ev (EL P l sp e0 L0 (listedS listed) val l.length).1) (od l k) :=
        ev_loc hsel (ops := l.toArray) (fun t ht => ((b1 t ht).trans (a1 t ht)).symm)
      unfold RunsTo at hr
      rw [hev] at hr
      unfold Oper.wp
      rw [hs.ev]
      have put : ∀ v : Value, Sim n (a.put (od l k).dst v) (putD (EL P l sp e0 L0 (listedS listed) val l.length).1 (od l k).dst v) := by
        intro v
        cases hd : (od l k).dst with
        | none => exact hs
        | some d => exact hs.put (ok.dst k d hkl hd) v
      have go : ∀ v w', (sd sp k).V P (od l k) (EL P l sp e0 L0 full val' k).1 (look (EL P l sp e0 L0 full val' k).2) v ∧ Fr cx w' ∧ Sat cx w' (setAll (EL P l sp e0 L0 (listedS listed) val l.length).2 ((sd sp k).T (EL P l sp e0 L0 full val' k).1 (look (EL P l sp e0 L0 full val' k).2) v)) →
          wpAny P .any l.toArray (lift n Q) fuel (listed.setIfInBounds k true) (a.put (od l k).dst v) w' :=
        fun v w' ⟨g1, g2, g3⟩ => next v _ w' (by rw [if_pos hw]; exact g1) (put v) g2 (by rw [if_pos hw]; exact g3)
      generalize (execOp (ev (EL P l sp e0 L0 (listedS listed) val l.length).1) (od l k)).run P w = r at *
      cases r with
      | halt x w' => exact hr.elim
      | ok nx w' =>
        cases nx with
        | value v => exact go v w' hr
        | skip => exact go undef w' hr
        | enter f args =>
          show Calls P f args w' _
          refine Calls.mono hr ?_
          rintro en w'' ⟨v, rfl, hk'⟩
          exact go v w'' hk'
        | _ => exact hr.elim

theorem EL_none (S : Nat → Bool) (h : ∀ k, S k = false) (val : Nat → Value) : ∀ k, EL P l sp e0 L0 S val k = (e0, L0) := by
  intro k
  induction k with
  | zero => rfl
  | succ k ih => simp only [EL, h k]; exact ih

end sound

/-- No memory at all. -/
def empC : Chunk := ⟨fun S _ => ∀ b, ¬ S b, fun _ _ _ _ h => h⟩

theorem Sat.emp {cx : Cx} {w : World} {L : List Chunk} (h : Sat cx w L) (hF : Fr cx w) : Sat cx w (L ++ [empC]) :=
  h.snoc hF (Grow.refl w) (S := fun _ => False) (fun _ h => h) (fun _ h => h.elim)

theorem Sat.pad {cx : Cx} {w : World} (hF : Fr cx w) : ∀ (k : Nat) {L : List Chunk}, Sat cx w L → Sat cx w (L ++ List.replicate k empC)
  | 0, L, h => by simpa using h
  | k + 1, L, h => by
    have := Sat.pad hF k (h.emp hF)
    rwa [List.append_assoc, List.singleton_append, ← List.replicate_succ] at this

/-- A region that draws its order: one walk in the order of the text. -/
theorem c_regionD {P : Program} {n : Nat} {cx : Cx} {Q : Post} {e : Env} {L : List Chunk} {id : Nat} {l : List Oper} (sp : List Kd) (k : Nat) (hm : P.follows .mixedOrders = true)
    (h : Sq P cx l.toArray (fun e L => At cx (Q .normal) e L) l sp e (L ++ List.replicate k empC)) (hB : checkD n l sp = true) : At cx (WC P n (.region id l.toArray true) Q) e L :=
  ⟨fun w hF hS => ⟨fun a ha => by
    have ok := ok_of hB
    have hno : ∀ i, listedS (Array.replicate l.toArray.size false) i = false := by
      intro i
      simp only [listedS, Array.getD_eq_getD_getElem?, Array.getElem?_replicate]
      split <;> rfl
    refine wp_region_any hm (any_of ok h l.toArray.size (Array.replicate l.toArray.size false) a _ (fun _ => undef) (by simp) (fun k _ hk => by rw [hno k] at hk; cases hk) (fun j _ hj => by rw [hno j] at hj; cases hj) ?_ ?_ ⟨hF.os, hF.tape, hF.output, hF.size, hF.block⟩ ?_)
    · exact Nat.le_trans (List.length_filter_le _ _) (by simp)
    · rw [EL_none _ hno]; exact ha
    · rw [EL_none _ hno]
      have hg : Grow w { w with drawn := w.drawn + 1 } := ⟨rfl, rfl, rfl, Nat.le_refl _, fun _ _ => rfl⟩
      exact (hS.pad hF k).grow hg⟩⟩

end Go.Vc
