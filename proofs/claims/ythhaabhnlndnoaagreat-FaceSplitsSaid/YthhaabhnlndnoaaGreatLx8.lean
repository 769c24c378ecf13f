/- Rules: a character as a string; strings in their order. Conditions: none. -/
import Derived.Test.YthhaabhnlndnoaaGreatLx7
namespace Go.Lx
open Go Go.Vc Go.Md

theorem less_eq : ∀ (a b : List UInt8), Op.bytesLess a b = ltB a b
  | [], [] => rfl
  | [], _ :: _ => rfl
  | _ :: _, [] => rfl
  | a :: x, b :: y => by rw [Op.bytesLess, ltB, less_eq x y]

section ops
variable {P : Program} {e : Env} {d : Option Nat} {ty : TypeId} {pos : String} {af : Array Edge} {g : Option (Nat × Bool)}

theorem r_convRuneG {X : Operand} {s t : TypeId} {x : Int} {k : IntKind} {u : List UInt8} (hs : ∀ w, (underlying s).run P w = .ok (.int k) w) (ht : ∀ w, (underlying t).run P w = .ok .string w) (hx : ev e X = .int k x) (h : gRune x = some u) (w : World) :
    (execOp (ev e) ⟨d, .convert s t X, ty, pos, af, g⟩).run P w = .ok (.value (str u)) w := by
  obtain ⟨h0, h1, rfl⟩ := gRune_some h
  exact r_convRune hs ht hx h0 h1 rfl w

theorem r_lssT {X Y : Operand} {a b : List UInt8} {t t' : TypeId} (hx : ev e X = str a) (hy : ev e Y = str b) (w : World) :
    (execOp (ev e) ⟨d, .binOp .lss t X Y t', ty, pos, af, g⟩).run P w = .ok (.value (.bool (ltB a b))) w := by
  simp [execOp, hx, hy, eqGuard, binOp_string_lss, less_eq]

end ops
end Go.Lx
