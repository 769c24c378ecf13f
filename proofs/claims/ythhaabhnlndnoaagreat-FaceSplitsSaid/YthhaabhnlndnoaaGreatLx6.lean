/- Rules: floating-point numbers; stores into rows in a drawn region. Conditions: none. -/
import Derived.Test.YthhaabhnlndnoaaGreatLx5
import Derived.Test.YthhaabhnlndnoaaGreatFl
namespace Go.Lx
open Go Go.Vc Go.Md

section ops
variable {P : Program} {e : Env} {d : Option Nat} {ty : TypeId} {pos : String} {af : Array Edge} {g : Option (Nat × Bool)}

theorem r_convIFG {X : Operand} {s t : TypeId} {x : Int} {b : Nat} {su : TypeDesc} (hs : ∀ w, (underlying s).run P w = .ok su w) (ht : ∀ w, (underlying t).run P w = .ok (.float .f64) w) (hx : ev e X = .int .i64 x) (h : gIF x = some b) (w : World) :
    (execOp (ev e) ⟨d, .convert s t X, ty, pos, af, g⟩).run P w = .ok (.value (.float .f64 b)) w := by
  unfold gIF at h
  split at h
  · cases h; exact r_convIF hs ht hx (by assumption) w
  · cases h

theorem r_convFIG {X : Operand} {s t : TypeId} {b : Nat} {r : Int} {su : TypeDesc} (hs : ∀ w, (underlying s).run P w = .ok su w) (ht : ∀ w, (underlying t).run P w = .ok (.int .i64) w) (hx : ev e X = .float .f64 b) (h : gFI b = some r) (w : World) :
    (execOp (ev e) ⟨d, .convert s t X, ty, pos, af, g⟩).run P w = .ok (.value (.int .i64 r)) w := by
  obtain ⟨q, h1, h2⟩ := bnd_some h
  obtain ⟨rfl, hb⟩ := gI_some h2
  exact r_convFI hs ht hx h1 hb w

theorem run_sqrt {b s : Nat} (h : gSqrt b = some s) (w : World) : (Extern.MathSqrt.sqrt #[.float .f64 b]).run P w = .ok (.float .f64 s) w := by
  have h1 : Extern.MathSqrt.sqrt #[.float .f64 b] = (match FloatKind.f64.format.sqrt b with | some r => pure (.float .f64 r) | none => do pure (.float .f64 (← choose (.nanBits .f64 b b)))) := by kernel_rfl
  rw [h1, show FloatKind.f64.format = Ieee.double from rfl, show Ieee.double.sqrt b = some s from h]
  rfl

theorem r_lenN {X : Operand} {a : Option Addr} {m c k : Nat} {t u : TypeId} (hu : P.underlying t = some (.slice u)) (hx : ev e X = .slice a m c) (h : m = k) (w : World) :
    (execOp (ev e) ⟨d, .call ⟨.builtin .len, #[X], #[t]⟩, ty, pos, af, g⟩).run P w = .ok (.value (.int .i64 k)) w := by
  subst h; exact r_len hu hx w

theorem r_negW {X : Operand} {x z : Int} {t : TypeId} {kd : IntKind} (hx : ev e X = .int kd x) (h : kd.wrap (0 - x) = z) (w : World) :
    (execOp (ev e) ⟨d, .unOp .neg t X, ty, pos, af, g⟩).run P w = .ok (.value (.int kd z)) w := by
  subst h
  simp [execOp, hx, Op.unary, Op.intArith]

theorem r_quoU {X Y : Operand} {x y z : Int} {t t' : TypeId} {kd : IntKind} {bits : Nat} (hx : ev e X = .int kd x) (hy : ev e Y = .int kd y) (hk : (kd.bits = bits ∧ kd.signed = false)) (h : gQuoU bits x y = some z) (w : World) :
    (execOp (ev e) ⟨d, .binOp .quo t X Y t', ty, pos, af, g⟩).run P w = .ok (.value (.int kd z)) w := by
  unfold gQuoU at h
  split at h
  · cases h
  · rename_i hn
    cases h
    have h0 : 0 ≤ x ∧ 0 < y ∧ x < 2 ^ bits := by omega
    have hw : kd.wrap (x.tdiv y) = x / y := by
      rw [Int.tdiv_eq_ediv_of_nonneg h0.1]
      have h1 : 0 ≤ x / y := Int.ediv_nonneg h0.1 (by omega)
      have h2 : x / y ≤ x := Int.ediv_le_self y h0.1
      unfold IntKind.wrap
      rw [hk.1, hk.2]
      simp
      exact Int.emod_eq_of_lt h1 (by omega)
    exact r_bin hx hy (fun w => by simp [binOp, Op.intDiv, show y ≠ 0 by omega, hw]) w

end ops

/-- A store into a row of one's own, in a drawn region. -/
def Kd.sr (i : Nat) (C : Chunk) : Kd := .g [] [i] [i] (fun _ _ v => v = undef) (fun _ _ _ => [C])

section rules
variable {P : Program} {n : Nat} {cx : Cx} {e : Env} {L : List Chunk} {ops : Array Oper} {rest : List Oper} {F : Env → List Chunk → Prop} {ss : List Kd} {ty : TypeId} {pos : String} {af : Array Edge} {g : Option (Nat × Bool)}

theorem d_storeG {α : Type} {q T j sz szT k c E m : Nat} {A X : Operand} {x : Value} {a : Option Addr} {vs : List Value} {f : α → List Value} {xs ys : List α} {i : Int} {z : α} (hm : m = xs.length) (hs : ∀ w, (sizeOf T).run P w = .ok szT w)
    (hw : want ops ⟨none, .store T A X, ty, pos, af, g⟩ e = true) (hp : ev e A = ptrAt a k) (hk : k = i.toNat * sz + j) (hx : ev e X = x) (hc : x.cells.toList = vs) (hsz : vs.length = szT)
    (hpos : Nat.blt 0 szT = true) (hone : vs.all Value.oneCell' = true) (hL : L[q]? = some (rowV E sz (.slice a m c) m (xs.map f))) (hv : ∀ y, gAt xs i = some y → wr (f y) j vs = some (f z)) (hg : gSet xs i z = some ys)
    (k' : Sq P cx ops F rest ss e (L.set q (rowV E sz (.slice a m c) m (ys.map f)))) : Sq P cx ops F (⟨none, .store T A X, ty, pos, af, g⟩ :: rest) (Kd.sr q (rowV E sz (.slice a m c) m (ys.map f)) :: ss) e L := by
  subst hm
  obtain ⟨h0, h1, rfl⟩ := gSet_some hg
  have hat : gAt xs i = some xs[i.toNat] := gAt_ok h0 h1
  have hv' := hv _ hat
  have hy := map_at (f := f) hat
  refine .take hw ⟨undef, rfl⟩ ⟨fun w L' hF hS _ hi => ?_⟩ fun v' hv' => ?_
  · have hL' := (hi q (.inl (by simp [Kd.sr, Kd.rds]))).trans hL
    obtain ⟨S0, ⟨⟨ho, hlen, hlx⟩, hob⟩, _⟩ := hS.at hL'
    obtain ⟨w', hr, h2, h3⟩ := run_storeR (P := P) (ty := ty) (pos := pos) (af := af) (g := g) hs hp hk hx hc hsz hpos hone hy hv' ho hlen hlx
    have hpos' : 0 < vs.length := by rw [hsz]; simpa using hpos
    obtain ⟨g1, g2⟩ := wr_eq hv' hpos'
    obtain ⟨hF', hS'⟩ := hS.turnOf hF hL' (C := rowV E sz (.slice a xs.length c) xs.length ((xs.map f).set i.toNat (f z))) fun S1 hp => turn_append hp.2 h2 h3 (.inl rfl) (by simp [hlen]) (by
      intro z' hz
      rcases List.mem_or_eq_of_mem_set hz with h | h
      · exact hlx z' h
      · subst h; rw [g2]; have := hlx _ (List.mem_of_getElem? hy); simp only [List.length_append, List.length_take, List.length_drop]; omega)
    unfold RunsTo
    rw [hr]
    refine ⟨rfl, hF', ?_⟩
    rw [← List.map_set] at hS'
    exact hS'
  · exact k'

end rules
end Go.Lx
