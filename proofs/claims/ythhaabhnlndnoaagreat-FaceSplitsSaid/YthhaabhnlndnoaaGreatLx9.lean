/- Rules: parts of rows of one's own, that are only read. Conditions: none. -/
import Derived.Test.YthhaabhnlndnoaaGreatLx8
namespace Go.Lx
open Go Go.Vc Go.Md

theorem gCut_len {α : Type} {xs ys : List α} {l q : Int} (e : gCut xs l q = some ys) : ys.length = q.toNat - l.toNat := by
  obtain ⟨g0, g1, g2, rfl⟩ := gCut_some e
  rw [List.length_take, List.length_drop]; omega

theorem Row.cutG {α : Type} {w : World} {a : Option Addr} {m c sz : Nat} {f : α → List Value} {xs ys : List α} {l q : Int} (h : Row w a sz (xs.map f)) (hm : m = xs.length) (hc : m ≤ c) (e : gCut xs l q = some ys) : Row w (cutA a l.toNat c sz) sz (ys.map f) := by
  obtain ⟨g0, g1, g2, rfl⟩ := gCut_some e
  have := Row.cut h l.toNat (q.toNat - l.toNat) c (by omega)
  rw [← List.map_drop, ← List.map_take] at this
  exact this

section ops
variable {P : Program} {e : Env} {d : Option Nat} {ty : TypeId} {pos : String} {af : Array Edge} {g : Option (Nat × Bool)}

theorem run_sliceLO {α : Type} {X A : Operand} {a : Option Addr} {m c : Nat} {t u sz : Nat} {ka : IntKind} {l : Int} {xs ys : List α} {w : World} (hu : P.underlying t = some (.slice u)) (hs : ∀ w, (sizeOf u).run P w = .ok sz w)
    (hx : ev e X = .slice a m c) (ha : ev e A = .int ka l) (hm : m = xs.length) (_hc : m ≤ c) (hg : gCut xs l xs.length = some ys) :
    (execOp (ev e) ⟨d, .slice t X (some A) none none, ty, pos, af, g⟩).run P w = .ok (.value (.slice (cutA a l.toNat c sz) ys.length (c - l.toNat))) w := by
  obtain ⟨g0, g1, g2, _⟩ := gCut_some hg
  have hl := gCut_len hg
  rw [r_sliceL hu hs hx ha g0 (by omega) w]
  congr 4; omega

theorem run_sliceHO {α : Type} {X B : Operand} {a : Option Addr} {m c : Nat} {t u sz : Nat} {kb : IntKind} {q : Int} {xs ys : List α} {w : World} (hu : P.underlying t = some (.slice u)) (hs : ∀ w, (sizeOf u).run P w = .ok sz w)
    (hx : ev e X = .slice a m c) (hb : ev e B = .int kb q) (hm : m = xs.length) (hc : m ≤ c) (hg : gCut xs 0 q = some ys) :
    (execOp (ev e) ⟨d, .slice t X none (some B) none, ty, pos, af, g⟩).run P w = .ok (.value (.slice (cutA a (0 : Int).toNat c sz) ys.length (c - (0 : Int).toNat))) w := by
  obtain ⟨g0, g1, g2, _⟩ := gCut_some hg
  have hl := gCut_len hg
  rw [r_sliceH hu hs hx hb g1 (by omega) w, hl]; rfl

theorem run_sliceLHO {α : Type} {X A B : Operand} {a : Option Addr} {m c : Nat} {t u sz : Nat} {ka kb : IntKind} {l q : Int} {xs ys : List α} {w : World} (hu : P.underlying t = some (.slice u)) (hs : ∀ w, (sizeOf u).run P w = .ok sz w)
    (hx : ev e X = .slice a m c) (ha : ev e A = .int ka l) (hb : ev e B = .int kb q) (hm : m = xs.length) (hc : m ≤ c) (hg : gCut xs l q = some ys) :
    (execOp (ev e) ⟨d, .slice t X (some A) (some B) none, ty, pos, af, g⟩).run P w = .ok (.value (.slice (cutA a l.toNat c sz) ys.length (c - l.toNat))) w := by
  obtain ⟨g0, g1, g2, _⟩ := gCut_some hg
  have hl := gCut_len hg
  rw [r_sliceLH hu hs hx ha hb g0 g1 (by omega) w, hl]

theorem r_indexPA0 {t u len sz b o : Nat} {X I : Operand} {k : IntKind} (hu : ∀ w, (underlying t).run P w = .ok (.array len u) w) (hs : ∀ w, (sizeOf u).run P w = .ok sz w)
    (hx : ev e X = .pointer (some ⟨b, o, none⟩)) (hi : ev e I = .int k 0) (h1 : (0 : Int) < len) (w : World) :
    (execOp (ev e) ⟨d, .indexAddr t X I, ty, pos, af, g⟩).run P w = .ok (.value (.pointer (some ⟨b, o, none⟩))) w := by
  have := r_indexPA (d := d) (ty := ty) (pos := pos) (af := af) (g := g) hu hs hx hi (Int.le_refl 0) h1 w
  simpa using this

end ops
end Go.Lx
