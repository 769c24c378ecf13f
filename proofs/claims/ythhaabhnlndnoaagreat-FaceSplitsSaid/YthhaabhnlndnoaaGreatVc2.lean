/- The rules for single operations of a region, over the functional frame. Conditions: none. -/
import Derived.Test.YthhaabhnlndnoaaGreatVc1
import Derived.Laws.Cells
import Derived.Laws.CopyRow
import Derived.Laws.Externs
import Derived.IntWalk
namespace Go.Vc
open Go

/-- Is the operation carried out? (Its guard is a bool that an operation of the region has left.) -/
def want (ops : Array Oper) (o : Oper) (e : Env) : Bool :=
  match o.guard with
  | none => true
  | some (j, b) => match (ops[j]?).bind (·.dst) with
    | none => false
    | some d => match e d, b with
      | .bool true, b => b
      | .bool false, true => false
      | .bool false, false => true
      | _, _ => false

theorem want_eq {n : Nat} {a : Act} {e : Env} (h : Sim n a e) (ops : Array Oper) (o : Oper) : Region.wanted o (yielded ops a.tmps) = want ops o e := by
  unfold Region.wanted want
  cases hg : o.guard with
  | none => rfl
  | some jb =>
    obtain ⟨j, b⟩ := jb
    simp only [yielded]
    cases hd : (ops[j]?).bind (·.dst) with
    | none => rfl
    | some d =>
      simp only [Option.bind_some]
      have hv := h.val d
      rw [Array.getD_eq_getD_getElem?] at hv
      cases ht : a.tmps[d]? with
      | none =>
        rw [ht] at hv
        simp only [Option.getD_none] at hv
        rw [← hv]
        rfl
      | some v =>
        rw [ht] at hv
        simp only [Option.getD_some] at hv
        rw [← hv]
        cases v <;> first | rfl | (rename_i x; cases x <;> cases b <;> rfl)

section rules
variable {P : Program} {n : Nat} {cx : Cx} {Q : Post} {e : Env} {L : List Chunk} {ops : Array Oper} {rest : List Oper}

theorem l_passed {o : Oper} {d : Nat} (hw : want ops o e = false) (hd : o.dst = some d) (hn : Nat.blt d n = true) (k : At cx (WL P n ops Q rest) (upd e d undef) L) : At cx (WL P n ops Q (o :: rest)) e L :=
  ⟨fun w hF hS => ⟨fun a ha => by
    unfold wpList
    rw [want_eq ha, hw]
    rw [hd]
    exact (k.out w hF hS).out _ (ha.put hn undef)⟩⟩

theorem l_passed' {o : Oper} (hw : want ops o e = false) (hd : o.dst = none) (k : At cx (WL P n ops Q rest) e L) : At cx (WL P n ops Q (o :: rest)) e L :=
  ⟨fun w hF hS => ⟨fun a ha => by
    unfold wpList
    rw [want_eq ha, hw]
    rw [hd]
    exact (k.out w hF hS).out _ ha⟩⟩

/-- An operation that yields a value, in whatever world fits. -/
theorem l_yields {o : Oper} {d : Nat} (hw : want ops o e = true) (hd : o.dst = some d) (hn : Nat.blt d n = true)
    (h : ∀ w, Fr cx w → Sat cx w L → ∃ v w', (execOp (ev e) o).run P w = .ok (.value v) w' ∧ WL P n ops Q rest (upd e d v) w') : At cx (WL P n ops Q (o :: rest)) e L :=
  ⟨fun w hF hS => ⟨fun a ha => by
    obtain ⟨v, w', hr, hk⟩ := h w hF hS
    unfold wpList
    rw [want_eq ha, hw, if_pos rfl]
    refine .inl ?_
    unfold Oper.wp
    rw [ha.ev, hr]
    show wpList P ops (lift n Q) rest (a.put o.dst v) w'
    rw [hd]
    exact hk.out _ (ha.put hn v)⟩⟩

/-- The same for one that yields nothing. -/
theorem l_acts {o : Oper} (hw : want ops o e = true) (hd : o.dst = none)
    (h : ∀ w, Fr cx w → Sat cx w L → ∃ w', (execOp (ev e) o).run P w = .ok .skip w' ∧ WL P n ops Q rest e w') : At cx (WL P n ops Q (o :: rest)) e L :=
  ⟨fun w hF hS => ⟨fun a ha => by
    obtain ⟨w', hr, hk⟩ := h w hF hS
    unfold wpList
    rw [want_eq ha, hw, if_pos rfl]
    refine .inl ?_
    unfold Oper.wp
    rw [ha.ev, hr]
    show wpList P ops (lift n Q) rest (a.put o.dst undef) w'
    rw [hd]
    exact hk.out _ ha⟩⟩

/-- The frame of a call. -/
theorem l_calls {o : Oper} {d : Nat} {f : FuncId} {args : Array Value} (hw : want ops o e = true) (hd : o.dst = some d) (hn : Nat.blt d n = true)
    (hr : ∀ w, (execOp (ev e) o).run P w = .ok (.enter f args) w)
    (h : ∀ w, Fr cx w → Sat cx w L → Does P f args w fun v w' => WL P n ops Q rest (upd e d v) w') : At cx (WL P n ops Q (o :: rest)) e L :=
  ⟨fun w hF hS => ⟨fun a ha => by
    unfold wpList
    rw [want_eq ha, hw, if_pos rfl]
    refine .inl ?_
    unfold Oper.wp
    rw [ha.ev, hr]
    show Calls P f args w _
    refine Calls.mono (h w hF hS) ?_
    rintro en w' ⟨v, rfl, hk⟩
    show wpList P ops (lift n Q) rest (a.put o.dst v) w'
    rw [hd]
    exact hk.out _ (ha.put hn v)⟩⟩

/-- Any operation that only computes. -/
theorem l_val {o : Oper} {d : Nat} {v : Value} (hw : want ops o e = true) (hd : o.dst = some d) (hn : Nat.blt d n = true)
    (hr : ∀ w, (execOp (ev e) o).run P w = .ok (.value v) w) (k : At cx (WL P n ops Q rest) (upd e d v) L) : At cx (WL P n ops Q (o :: rest)) e L :=
  l_yields hw hd hn fun w hF hS => ⟨v, w, hr w, k.out w hF hS⟩

section ops
variable {d : Option Nat} {ty : TypeId} {pos : String} {af : Array Edge} {g : Option (Nat × Bool)}

theorem r_move {X : Operand} {v : Value} (hx : ev e X = v) (w : World) :
    (execOp (ev e) ⟨d, .move X, ty, pos, af, g⟩).run P w = .ok (.value v) w :=
  by subst hx; rfl

theorem r_assign {X : Operand} {v : Value} (hx : ev e X = v) (w : World) :
    (execOp (ev e) ⟨d, .assign X, ty, pos, af, g⟩).run P w = .ok (.value v) w :=
  by subst hx; rfl

theorem r_pickT {c A B : Operand} {v : Value} (hc : ev e c = .bool true) (hx : ev e A = v) (w : World) :
    (execOp (ev e) ⟨d, .pick c A B, ty, pos, af, g⟩).run P w = .ok (.value v) w :=
  by subst hx; simp [execOp, hc, asBool]

theorem r_pickF {c A B : Operand} {v : Value} (hc : ev e c = .bool false) (hx : ev e B = v) (w : World) :
    (execOp (ev e) ⟨d, .pick c A B, ty, pos, af, g⟩).run P w = .ok (.value v) w :=
  by subst hx; simp [execOp, hc, asBool]

/-- The chain's newest slot holds a bool: part on it. -/
theorem split {K : Env → World → Prop} {b : Bool} {d : Nat} (ht : b = true → At cx K (upd e d (.bool true)) L) (hf : b = false → At cx K (upd e d (.bool false)) L) : At cx K (upd e d (.bool b)) L := by
  cases b
  · exact hf rfl
  · exact ht rfl

theorem splitD {K : Env → World → Prop} {p : Prop} [Decidable p] {d : Nat} (ht : p → At cx K (upd e d (.bool true)) L) (hf : ¬ p → At cx K (upd e d (.bool false)) L) : At cx K (upd e d (.bool (decide p))) L :=
  split (fun h => ht (of_decide_eq_true h)) (fun h => hf (of_decide_eq_false h))

theorem r_not {X : Operand} {b : Bool} {t : TypeId} (hx : ev e X = .bool b) (w : World) :
    (execOp (ev e) ⟨d, .unOp .not t X, ty, pos, af, g⟩).run P w = .ok (.value (.bool (!b))) w :=
  by simp [execOp, hx, Op.unary]

theorem r_notT {X : Operand} {t : TypeId} (hx : ev e X = .bool true) (w : World) :
    (execOp (ev e) ⟨d, .unOp .not t X, ty, pos, af, g⟩).run P w = .ok (.value (.bool false)) w :=
  by simp [execOp, hx, Op.unary]

theorem r_notF {X : Operand} {t : TypeId} (hx : ev e X = .bool false) (w : World) :
    (execOp (ev e) ⟨d, .unOp .not t X, ty, pos, af, g⟩).run P w = .ok (.value (.bool true)) w :=
  by simp [execOp, hx, Op.unary]

theorem r_neg {X : Operand} {x : Int} {t : TypeId} (hx : ev e X = .int .i64 x)
    (hr : -9223372036854775807 ≤ x ∧ x ≤ 9223372036854775807) (w : World) :
    (execOp (ev e) ⟨d, .unOp .neg t X, ty, pos, af, g⟩).run P w = .ok (.value (.int .i64 (-x))) w :=
  by
    have h0 : IntKind.i64.wrap (0 - x) = -x := by rw [IntWalk.i64_in _ (by omega)]; omega
    simp [execOp, hx, Op.unary, Op.intArith] ; simpa using h0

section bin
variable {X Y : Operand} {x y : Int} {t t' : TypeId} {kd : IntKind}

theorem run_guard_int (w : World) (op : BinOp) : (eqGuard op t X Y (.int kd x) (.int kd y)).run P w = .ok () w := by
  unfold eqGuard; cases op <;> rfl

theorem r_bin {op : BinOp} {v : Value} (hx : ev e X = .int kd x) (hy : ev e Y = .int kd y)
    (hr : ∀ w, (binOp op t (.int kd x) (.int kd y)).run P w = .ok v w) (w : World) :
    (execOp (ev e) ⟨d, .binOp op t X Y t', ty, pos, af, g⟩).run P w = .ok (.value v) w :=
  by simp [execOp, hx, hy, run_guard_int, hr]

theorem r_add (hx : ev e X = .int .i64 x) (hy : ev e Y = .int .i64 y)
    (hr : -9223372036854775808 ≤ x + y ∧ x + y ≤ 9223372036854775807) (w : World) :
    (execOp (ev e) ⟨d, .binOp .add t X Y t', ty, pos, af, g⟩).run P w = .ok (.value (.int .i64 (x + y))) w :=
  r_bin hx hy (fun w => by simp [binOp, Op.intArith, IntWalk.i64_in _ hr]) w

theorem r_sub (hx : ev e X = .int .i64 x) (hy : ev e Y = .int .i64 y)
    (hr : -9223372036854775808 ≤ x - y ∧ x - y ≤ 9223372036854775807) (w : World) :
    (execOp (ev e) ⟨d, .binOp .sub t X Y t', ty, pos, af, g⟩).run P w = .ok (.value (.int .i64 (x - y))) w :=
  r_bin hx hy (fun w => by simp [binOp, Op.intArith, IntWalk.i64_in _ hr]) w

theorem r_mul (hx : ev e X = .int .i64 x) (hy : ev e Y = .int .i64 y)
    (hr : -9223372036854775808 ≤ x * y ∧ x * y ≤ 9223372036854775807) (w : World) :
    (execOp (ev e) ⟨d, .binOp .mul t X Y t', ty, pos, af, g⟩).run P w = .ok (.value (.int .i64 (x * y))) w :=
  r_bin hx hy (fun w => by simp [binOp, Op.intArith, IntWalk.i64_in _ hr]) w

theorem tdiv_in (x y : Int) (hx : -9223372036854775807 ≤ x ∧ x ≤ 9223372036854775807) : -9223372036854775808 ≤ x.tdiv y ∧ x.tdiv y ≤ 9223372036854775807 := by
  have h := Int.natAbs_tdiv_le_natAbs x y
  omega

theorem r_quo (hx : ev e X = .int .i64 x) (hy : ev e Y = .int .i64 y)
    (hy0 : y ≠ 0) (hr : -9223372036854775807 ≤ x ∧ x ≤ 9223372036854775807) (w : World) :
    (execOp (ev e) ⟨d, .binOp .quo t X Y t', ty, pos, af, g⟩).run P w = .ok (.value (.int .i64 (x.tdiv y))) w :=
  r_bin hx hy (fun w => by simp [binOp, Op.intDiv, hy0, IntWalk.i64_in _ (tdiv_in x y hr)]) w

theorem r_rem (hx : ev e X = .int kd x) (hy : ev e Y = .int kd y)
    (hy0 : y ≠ 0) (w : World) :
    (execOp (ev e) ⟨d, .binOp .rem t X Y t', ty, pos, af, g⟩).run P w = .ok (.value (.int kd (x.tmod y))) w :=
  r_bin hx hy (fun w => by simp [binOp, Op.intDiv, hy0]) w

theorem r_lss (hx : ev e X = .int kd x) (hy : ev e Y = .int kd y) (w : World) :
    (execOp (ev e) ⟨d, .binOp .lss t X Y t', ty, pos, af, g⟩).run P w = .ok (.value (.bool (decide (x < y)))) w :=
  r_bin hx hy (fun w => by simp [binOp, Op.intCmp]) w

theorem r_leq (hx : ev e X = .int kd x) (hy : ev e Y = .int kd y) (w : World) :
    (execOp (ev e) ⟨d, .binOp .leq t X Y t', ty, pos, af, g⟩).run P w = .ok (.value (.bool (decide (x ≤ y)))) w :=
  r_bin hx hy (fun w => by simp [binOp, Op.intCmp]) w

theorem r_gtr (hx : ev e X = .int kd x) (hy : ev e Y = .int kd y) (w : World) :
    (execOp (ev e) ⟨d, .binOp .gtr t X Y t', ty, pos, af, g⟩).run P w = .ok (.value (.bool (decide (y < x)))) w :=
  r_bin hx hy (fun w => by simp [binOp, Op.intCmp]) w

theorem r_geq (hx : ev e X = .int kd x) (hy : ev e Y = .int kd y) (w : World) :
    (execOp (ev e) ⟨d, .binOp .geq t X Y t', ty, pos, af, g⟩).run P w = .ok (.value (.bool (decide (y ≤ x)))) w :=
  r_bin hx hy (fun w => by simp [binOp, Op.intCmp]) w

theorem r_eql (hx : ev e X = .int kd x) (hy : ev e Y = .int kd y) (w : World) :
    (execOp (ev e) ⟨d, .binOp .eql t X Y t', ty, pos, af, g⟩).run P w = .ok (.value (.bool (decide (x = y)))) w :=
  r_bin hx hy (fun w => by simp [binOp, Op.intCmp]; rfl) w

theorem r_neq (hx : ev e X = .int kd x) (hy : ev e Y = .int kd y) (w : World) :
    (execOp (ev e) ⟨d, .binOp .neq t X Y t', ty, pos, af, g⟩).run P w = .ok (.value (.bool (decide (x ≠ y)))) w :=
  r_bin hx hy (fun w => by simp [binOp, Op.intCmp, bne]; rfl) w

end bin

theorem r_convInt {X : Operand} {s t : TypeId} {k0 k1 : IntKind} {x : Int} {su : TypeDesc} (hs : ∀ w, (underlying s).run P w = .ok su w) (ht : ∀ w, (underlying t).run P w = .ok (.int k1) w)
    (hx : ev e X = .int k0 x)
    (hr : k1.wrap x = x) (w : World) :
    (execOp (ev e) ⟨d, .convert s t X, ty, pos, af, g⟩).run P w = .ok (.value (.int k1 x)) w :=
  by simp [execOp, hx, convert, hs, ht, Conv.intToInt, hr]

theorem r_extract {X : Operand} {ix : Nat} {vs : Array Value} {v : Value} (hx : ev e X = .tuple vs) (hv : vs[ix]? = some v) (w : World) :
    (execOp (ev e) ⟨d, .extract X ix, ty, pos, af, g⟩).run P w = .ok (.value v) w :=
  by simp [execOp, hx, Instr.extract, hv]

theorem r_min {X Y : Operand} {x y : Int} {kd : IntKind} {tys : Array TypeId}
    (hx : ev e X = .int kd x) (hy : ev e Y = .int kd y) (w : World) :
    (execOp (ev e) ⟨d, .call ⟨.builtin .min, #[X, Y], tys⟩, ty, pos, af, g⟩).run P w = .ok (.value (.int kd (min x y))) w :=
  by
    have : (if y < x then y else x) = min x y := by rw [Int.min_def]; split <;> split <;> omega
    simp [execOp, resolve, invoke, builtin, hx, hy, Builtin.min_, Builtin.min2, this]

theorem r_max {X Y : Operand} {x y : Int} {kd : IntKind} {tys : Array TypeId}
    (hx : ev e X = .int kd x) (hy : ev e Y = .int kd y) (w : World) :
    (execOp (ev e) ⟨d, .call ⟨.builtin .max, #[X, Y], tys⟩, ty, pos, af, g⟩).run P w = .ok (.value (.int kd (max x y))) w :=
  by
    have : (if y > x then y else x) = max x y := by rw [Int.max_def]; split <;> split <;> omega
    simp [execOp, resolve, invoke, builtin, hx, hy, Builtin.max_, Builtin.max2]; simpa using this

/-- Struct literals. -/
theorem r_build {t : TypeId} {parts : Array (Nat × Operand)} {fs : Array Field} {pl : Array (Nat × Nat)} {z cells : Array Value} {ps : List (Nat × Value)}
    (hz : ∀ w, (zeroValue t).run P w = .ok (.agg z) w) (hu : ∀ w, (underlying t).run P w = .ok (.struct fs) w)
    (hpl : ∀ w, (fs.mapM fun f => do pure (f.offset, ← sizeOf f.type) : Sem (Array (Nat × Nat))).run P w = .ok pl w)
    
    (hps : parts.toList.map (fun (i, x) => (i, ev e x)) = ps) (hf : Instr.fill (pl[·]?) z ps = some cells) (w : World) :
    (execOp (ev e) ⟨d, .build t parts, ty, pos, af, g⟩).run P w = .ok (.value (.agg cells)) w :=
  by
    have hz' : (Value.agg z).cells = z := rfl
    have hps' : (parts.map fun (i, x) => (i, ev e x)).toList = ps := by rw [← hps, Array.toList_map]
    simp only [execOp, Instr.build, Sem.run_bind, hz, hu, Result.andThen_ok, hpl, hps', hz', hf, Sem.run_pure]

end ops
end rules
end Go.Vc
