/- Tables among the package's variables, out of a card's condition. Conditions: none. -/
import Derived.Test.YtaonhnkojkkmbaaDoorLx17
import Derived.Lib.LaidTab
import Derived.MakeChecks
namespace Go.Lx
open Go Go.Vc Go.Md

theorem tab_vars {P : Program} {W : World} {name : String} {k : IntKind} {zs : List Int} {g : Nat} {t e : TypeId} {n : Nat}
    (hg : P.globalNamed name = some g) (hty : (P.globals[g]?).map (·.type) = some t) (ht : P.underlying t = some (.array n e)) (he : P.underlying e = some (.int k)) (hce : P.cellsOf e = 1) (hct : P.cellsOf t = n) :
    ∀ (l : List (String × DataW Unit)) (ps : List MemPlace) (i : Nat), DataW.LaidVars P W l ps → l[i]? = some (name, Lib.tabData k zs) → Lib.TabIs P W name k zs
  | [], _, i, _, h => by simp at h
  | (n', d) :: r, ps, 0, hv, h => by
    simp only [List.getElem?_cons_zero, Option.some.injEq, Prod.mk.injEq] at h
    obtain ⟨rfl, rfl⟩ := h
    obtain ⟨g', t', cs, fuel, p, q, hg', ht', hvar, hd, _, _⟩ := hv
    obtain rfl := Option.some.inj (hg.symm.trans hg')
    obtain rfl := Option.some.inj (hty.symm.trans ht')
    unfold Lib.TabIs
    rw [hvar, ← Lib.cells_of_tab ht he hce hct hd]
  | _ :: r, ps, i + 1, hv, h => by
    obtain ⟨_, _, _, _, _, q, _, _, _, _, h2, _⟩ := hv
    exact tab_vars hg hty ht he hce hct r q i h2 (by simpa using h)

theorem tab_at {P : Program} {W : World} {name : String} {k : IntKind} {zs : List Int} {g : Nat} {t e : TypeId} {n : Nat} {l : List (String × DataW Unit)} (i : Nat)
    (hg : P.globalNamed name = some g) (hty : (P.globals[g]?).map (·.type) = some t) (ht : P.underlying t = some (.array n e)) (he : P.underlying e = some (.int k)) (hce : P.cellsOf e = 1) (hct : P.cellsOf t = n)
    (hL : laidMetH P l W) (hp : (l.all fun x => x.2.handleName?.isNone) = true) (hi : l[i]? = some (name, Lib.tabData k zs)) : TabH P (fun b => W.heap[b]?) name k zs := by
  rw [MakeChecks.laidMetH_plain _ _ _ hp] at hL
  obtain ⟨ps, hv, _⟩ := hL
  exact tabH_of (tab_vars hg hty ht he hce hct l ps i hv hi)
end Go.Lx
