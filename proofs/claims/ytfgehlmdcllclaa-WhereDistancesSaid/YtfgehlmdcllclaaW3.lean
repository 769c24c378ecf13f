/- Distances and places between. Conditions: those that each contract names. -/
import Derived.Test.YtfgehlmdcllclaaW2
import Derived.Test.YtfgehlmdcllclaaSqrt
namespace Go.Proofs.Ytfgehlmdcllclaa
open Go Go.Vc Go.Vc.Where
set_option maxRecDepth 100000

theorem f117 (f t : Int) (b1 : -180000000 ≤ f ∧ f ≤ 179999999) (b2 : -180000000 ≤ t ∧ t ≤ 179999999) : Ret Try.prog 117 [.int .i64 f, .int .i64 t] (.int .i64 (shortS f t)) := by
  refine enterRet (n := 14) Try.func117 rfl rfl rfl (fun wd => ?_)
  refine c_seq ?_
  refine c_region ?_
  refine l_val rfl rfl rfl (r_assign (v := .int _ _) rfl) ?_
  refine l_nil ?_
  refine c_seq ?_
  refine c_region ?_
  refine l_val rfl rfl rfl (r_move (v := .int _ _) rfl) ?_
  refine l_val rfl rfl rfl (r_move (v := .int _ _) rfl) ?_
  refine l_call (f108 _ _ (by first | omega | assumption) (by first | omega | assumption)) Try.call108 rfl rfl rfl ?_
  refine l_val rfl rfl rfl (r_assign (v := .int _ _) rfl) ?_
  refine l_nil ?_
  refine c_seq ?_
  refine c_seq ?_
  refine c_region ?_
  have he := east_bd f t
  refine l_val rfl rfl rfl (r_move (v := .int _ _) rfl) ?_
  refine l_val rfl rfl rfl (r_geq rfl rfl) ?_
  refine splitD (fun h1 => ?_) (fun h1 => ?_)
  · refine l_nil ?_
    refine c_true rfl ?_
    refine c_region ?_
    refine l_val rfl rfl rfl (r_move (v := .int _ _) rfl) ?_
    refine l_val rfl rfl rfl (r_sub rfl rfl (by omega)) ?_
    refine l_val rfl rfl rfl (r_assign (v := .int _ _) rfl) ?_
    refine l_nil ?_
    refine c_seq ?_
    refine c_region ?_
    refine l_val rfl rfl rfl (r_move (v := .int _ _) rfl) ?_
    refine l_val rfl rfl rfl (r_assign (v := .int _ _) rfl) ?_
    refine l_nil ?_
    refine c_ret ?_
    refine ret1 (v := .int _ _) rfl rfl (fin ?_)
    refine vI ?_
    unfold shortS
    first | rw [if_pos (by omega)] | rw [if_neg (by omega)]
  · refine l_nil ?_
    refine c_false rfl ?_
    refine c_skip ?_
    refine c_seq ?_
    refine c_region ?_
    refine l_val rfl rfl rfl (r_move (v := .int _ _) rfl) ?_
    refine l_val rfl rfl rfl (r_assign (v := .int _ _) rfl) ?_
    refine l_nil ?_
    refine c_ret ?_
    refine ret1 (v := .int _ _) rfl rfl (fin ?_)
    refine vI ?_
    unfold shortS
    first | rw [if_pos (by omega)] | rw [if_neg (by omega)]

theorem f84 (f t : Int) (b1 : -180000000 ≤ f ∧ f ≤ 179999999) (b2 : -180000000 ≤ t ∧ t ≤ 179999999) : Ret Try.prog 84 [.int .i64 f, .int .i64 t] (.int .i64 (shortS f t)) := by
  refine enterRet (n := 14) Try.func84 rfl rfl rfl (fun wd => ?_)
  refine c_seq ?_
  refine c_region ?_
  refine l_val rfl rfl rfl (r_assign (v := .int _ _) rfl) ?_
  refine l_nil ?_
  refine c_seq ?_
  refine c_region ?_
  refine l_val rfl rfl rfl (r_move (v := .int _ _) rfl) ?_
  refine l_val rfl rfl rfl (r_move (v := .int _ _) rfl) ?_
  refine l_call (f70 _ _ (by first | omega | assumption) (by first | omega | assumption) (by first | omega | assumption)) Try.call70 rfl rfl rfl ?_
  refine l_val rfl rfl rfl (r_assign (v := .int _ _) rfl) ?_
  refine l_nil ?_
  refine c_seq ?_
  refine c_seq ?_
  refine c_region ?_
  have he := east_bd f t
  refine l_val rfl rfl rfl (r_move (v := .int _ _) rfl) ?_
  refine l_val rfl rfl rfl (r_geq rfl rfl) ?_
  refine splitD (fun h1 => ?_) (fun h1 => ?_)
  · refine l_nil ?_
    refine c_true rfl ?_
    refine c_region ?_
    refine l_val rfl rfl rfl (r_move (v := .int _ _) rfl) ?_
    refine l_val rfl rfl rfl (r_sub rfl rfl (by omega)) ?_
    refine l_val rfl rfl rfl (r_assign (v := .int _ _) rfl) ?_
    refine l_nil ?_
    refine c_seq ?_
    refine c_region ?_
    refine l_val rfl rfl rfl (r_move (v := .int _ _) rfl) ?_
    refine l_val rfl rfl rfl (r_assign (v := .int _ _) rfl) ?_
    refine l_nil ?_
    refine c_ret ?_
    refine ret1 (v := .int _ _) rfl rfl (fin ?_)
    refine vI ?_
    unfold shortS
    first | rw [if_pos (by omega)] | rw [if_neg (by omega)]
  · refine l_nil ?_
    refine c_false rfl ?_
    refine c_skip ?_
    refine c_seq ?_
    refine c_region ?_
    refine l_val rfl rfl rfl (r_move (v := .int _ _) rfl) ?_
    refine l_val rfl rfl rfl (r_assign (v := .int _ _) rfl) ?_
    refine l_nil ?_
    refine c_ret ?_
    refine ret1 (v := .int _ _) rfl rfl (fin ?_)
    refine vI ?_
    unfold shortS
    first | rw [if_pos (by omega)] | rw [if_neg (by omega)]

theorem f118 (a b : Int) (p1 : -9223372036854775807 ≤ a ∧ a ≤ 9223372036854775807) (p2 : 0 < b) : Ret Try.prog 118 [.int .i64 a, .int .i64 b] (.int .i64 (a / b)) := by
  refine enterRet (n := 16) Try.func118 rfl rfl rfl (fun wd => ?_)
  refine c_seq ?_
  refine c_region ?_
  refine l_val rfl rfl rfl (r_assign (v := .int _ _) rfl) ?_
  refine l_nil ?_
  refine c_seq ?_
  refine c_region ?_
  refine l_val rfl rfl rfl (r_move (v := .int _ _) rfl) ?_
  refine l_val rfl rfl rfl (r_move (v := .int _ _) rfl) ?_
  refine l_val rfl rfl rfl (r_quo rfl rfl (by omega) (by omega)) ?_
  refine l_val rfl rfl rfl (r_assign (v := .int _ _) rfl) ?_
  refine l_nil ?_
  refine c_seq ?_
  refine c_seq ?_
  refine c_region ?_
  refine l_val rfl rfl rfl (r_move (v := .int _ _) rfl) ?_
  refine l_val rfl rfl rfl (r_move (v := .int _ _) rfl) ?_
  refine l_val rfl rfl rfl (r_rem rfl rfl (by omega)) ?_
  refine l_val rfl rfl rfl (r_lss rfl rfl) ?_
  refine splitD (fun h1 => ?_) (fun h1 => ?_)
  · refine l_nil ?_
    refine c_true rfl ?_
    refine c_region ?_
    have hq := floor_in a b p1 p2
    refine l_val rfl rfl rfl (r_move (v := .int _ _) rfl) ?_
    refine l_val rfl rfl rfl (r_sub rfl rfl (by omega)) ?_
    refine l_val rfl rfl rfl (r_assign (v := .int _ _) rfl) ?_
    refine l_nil ?_
    refine c_seq ?_
    refine c_region ?_
    refine l_val rfl rfl rfl (r_move (v := .int _ _) rfl) ?_
    refine l_val rfl rfl rfl (r_assign (v := .int _ _) rfl) ?_
    refine l_nil ?_
    refine c_ret ?_
    refine ret1 (v := .int _ _) rfl rfl (fin ?_)
    refine vI ?_
    first | exact (tdivmod a b p2).1 (by omega) | exact (tdivmod a b p2).2 (by omega)
  · refine l_nil ?_
    refine c_false rfl ?_
    refine c_skip ?_
    refine c_seq ?_
    refine c_region ?_
    refine l_val rfl rfl rfl (r_move (v := .int _ _) rfl) ?_
    refine l_val rfl rfl rfl (r_assign (v := .int _ _) rfl) ?_
    refine l_nil ?_
    refine c_ret ?_
    refine ret1 (v := .int _ _) rfl rfl (fin ?_)
    refine vI ?_
    first | exact (tdivmod a b p2).1 (by omega) | exact (tdivmod a b p2).2 (by omega)

theorem f85 (a b : Int) (p1 : -9223372036854775807 ≤ a ∧ a ≤ 9223372036854775807) (p2 : 0 < b) : Ret Try.prog 85 [.int .i64 a, .int .i64 b] (.int .i64 (a / b)) := by
  refine enterRet (n := 23) Try.func85 rfl rfl rfl (fun wd => ?_)
  refine c_seq ?_
  refine c_region ?_
  refine l_val rfl rfl rfl (r_assign (v := .int _ _) rfl) ?_
  refine l_nil ?_
  refine c_seq ?_
  refine c_region ?_
  have hsg := tmod_sign a b p2
  refine l_val rfl rfl rfl (r_move (v := .int _ _) rfl) ?_
  refine l_val rfl rfl rfl (r_move (v := .int _ _) rfl) ?_
  refine l_val rfl rfl rfl (r_quo rfl rfl (by omega) (by omega)) ?_
  refine l_val rfl rfl rfl (r_assign (v := .int _ _) rfl) ?_
  refine l_nil ?_
  refine c_seq ?_
  refine c_seq ?_
  refine c_region ?_
  refine l_val rfl rfl rfl (r_move (v := .int _ _) rfl) ?_
  refine l_val rfl rfl rfl (r_move (v := .int _ _) rfl) ?_
  refine l_val rfl rfl rfl (r_rem rfl rfl (by omega)) ?_
  refine l_val rfl rfl rfl (r_neq rfl rfl) ?_
  refine splitD (fun h1 => ?_) (fun h1 => ?_)
  · refine l_val rfl rfl rfl (r_move (v := .bool _) rfl) ?_
    refine l_val rfl rfl rfl (r_move (v := .int _ _) rfl) ?_
    refine l_val rfl rfl rfl (r_lss rfl rfl) ?_
    refine l_val rfl rfl rfl (r_move (v := .int _ _) rfl) ?_
    refine l_val rfl rfl rfl (r_decF (r_lss rfl rfl) (by omega)) ?_
    refine l_val rfl rfl rfl (r_neqB Try.underlying4 rfl rfl) ?_
    refine splitD (fun h2 => ?_) (fun h2 => ?_)
    · refine l_val rfl rfl rfl (r_pickT (v := .bool _) rfl rfl) ?_
      refine l_nil ?_
      refine c_true rfl ?_
      refine c_region ?_
      have hq := floor_in a b p1 p2
      refine l_val rfl rfl rfl (r_move (v := .int _ _) rfl) ?_
      refine l_val rfl rfl rfl (r_sub rfl rfl (by omega)) ?_
      refine l_val rfl rfl rfl (r_assign (v := .int _ _) rfl) ?_
      refine l_nil ?_
      refine c_seq ?_
      refine c_region ?_
      refine l_val rfl rfl rfl (r_move (v := .int _ _) rfl) ?_
      refine l_val rfl rfl rfl (r_assign (v := .int _ _) rfl) ?_
      refine l_nil ?_
      refine c_ret ?_
      refine ret1 (v := .int _ _) rfl rfl (fin ?_)
      refine vI ?_
      simp only [ne_eq, decide_eq_false_iff_not, Classical.not_not] at h1 h2
      first | exact (tdivmod a b p2).1 (by omega) | exact (tdivmod a b p2).2 (by omega)
    · refine l_val rfl rfl rfl (r_pickT (v := .bool _) rfl rfl) ?_
      refine l_nil ?_
      refine c_false rfl ?_
      refine c_skip ?_
      refine c_seq ?_
      refine c_region ?_
      refine l_val rfl rfl rfl (r_move (v := .int _ _) rfl) ?_
      refine l_val rfl rfl rfl (r_assign (v := .int _ _) rfl) ?_
      refine l_nil ?_
      refine c_ret ?_
      refine ret1 (v := .int _ _) rfl rfl (fin ?_)
      refine vI ?_
      simp only [ne_eq, decide_eq_false_iff_not, Classical.not_not] at h1 h2
      first | exact (tdivmod a b p2).1 (by omega) | exact (tdivmod a b p2).2 (by omega)
  · refine l_val rfl rfl rfl (r_move (v := .bool _) rfl) ?_
    refine l_passed rfl rfl rfl ?_
    refine l_passed rfl rfl rfl ?_
    refine l_passed rfl rfl rfl ?_
    refine l_passed rfl rfl rfl ?_
    refine l_passed rfl rfl rfl ?_
    refine l_val rfl rfl rfl (r_pickF (v := .bool _) rfl rfl) ?_
    refine l_nil ?_
    refine c_false rfl ?_
    refine c_skip ?_
    refine c_seq ?_
    refine c_region ?_
    refine l_val rfl rfl rfl (r_move (v := .int _ _) rfl) ?_
    refine l_val rfl rfl rfl (r_assign (v := .int _ _) rfl) ?_
    refine l_nil ?_
    refine c_ret ?_
    refine ret1 (v := .int _ _) rfl rfl (fin ?_)
    refine vI ?_
    simp only [ne_eq, decide_eq_false_iff_not, Classical.not_not] at h1
    first | exact (tdivmod a b p2).1 (by omega) | exact (tdivmod a b p2).2 (by omega)

theorem f83 (d p q : Int) (p1 : -1000000000 ≤ d ∧ d ≤ 1000000000) (p2 : 0 ≤ p ∧ p ≤ q) (p3 : 1 ≤ q ∧ q ≤ 9000000000) : Ret Try.prog 83 [.int .i64 d, .int .i64 p, .int .i64 q] (.int .i64 (d * p / q)) := by
  have hm := mul_bd p1 (B := 9000000000) (by omega : 0 ≤ p ∧ p ≤ 9000000000) (by omega)
  refine enterRet (n := 12) Try.func83 rfl rfl rfl (fun wd => ?_)
  refine c_seq ?_
  refine c_region ?_
  refine l_val rfl rfl rfl (r_assign (v := .int _ _) rfl) ?_
  refine l_nil ?_
  refine c_seq ?_
  refine c_region ?_
  refine l_val rfl rfl rfl (r_move (v := .int _ _) rfl) ?_
  refine l_val rfl rfl rfl (r_move (v := .int _ _) rfl) ?_
  refine l_val rfl rfl rfl (r_mul rfl rfl (by omega)) ?_
  refine l_val rfl rfl rfl (r_move (v := .int _ _) rfl) ?_
  refine l_call (f85 _ _ (by first | omega | assumption) (by first | omega | assumption)) Try.call85 rfl rfl rfl ?_
  refine l_val rfl rfl rfl (r_assign (v := .int _ _) rfl) ?_
  refine l_nil ?_
  refine c_ret ?_
  refine ret1 (v := .int _ _) rfl rfl (fin ?_)
  rfl

theorem ext135 (x s : Nat) (w : World) (hq : Ieee.double.sqrt x = some s) : (callFunc 135 #[.float .f64 x]).run Try.prog w = .ok (.value (.float .f64 s)) w := by
  have h0 : (callFunc 135 #[.float .f64 x]).run Try.prog w = (do pure (.value (← Extern.MathSqrt.sqrt #[.float .f64 x])) : Sem Next).run Try.prog w := by kernel_rfl
  have h1 : Extern.MathSqrt.sqrt #[.float .f64 x] = (match FloatKind.f64.format.sqrt x with | some r => pure (.float .f64 r) | none => do pure (.float .f64 (← choose (.nanBits .f64 x x)))) := by kernel_rfl
  rw [h0, h1, show FloatKind.f64.format = Ieee.double from rfl, hq]
  rfl

theorem f123 (x s : Nat) (hq : Ieee.double.sqrt x = some s) : Ret Try.prog 123 [.float .f64 x] (.float .f64 s) := by
  refine enterRet (n := 5) Try.func123 rfl rfl rfl (fun wd => ?_)
  refine c_seq ?_
  refine c_region ?_
  refine l_val rfl rfl rfl (r_assign (v := .float _ _) rfl) ?_
  refine l_nil ?_
  refine c_seq ?_
  refine c_region ?_
  refine l_val rfl rfl rfl (r_move (v := .float _ _) rfl) ?_
  refine l_val rfl rfl rfl (r_ext (args := [.float _ _]) (fun w => ext135 _ _ w ‹_›) rfl) ?_
  refine l_val rfl rfl rfl (r_assign (v := .float _ _) rfl) ?_
  refine l_nil ?_
  refine c_ret ?_
  refine ret1 (v := .float _ _) rfl rfl (fin ?_)
  rfl

theorem f119 (n : Int) (hn : 0 ≤ n ∧ n ≤ 64800000000000000) : Ret Try.prog 119 [.int .i64 n] (.int .i64 (rootS n)) := by
  refine enterRet (n := 25) Try.func119 rfl rfl rfl (fun wd => ?_)
  refine c_seq ?_
  refine c_region ?_
  refine l_val rfl rfl rfl (r_assign (v := .int _ _) rfl) ?_
  refine l_nil ?_
  refine c_seq ?_
  refine c_region ?_
  refine l_val rfl rfl rfl (r_move (v := .int _ _) rfl) ?_
  refine l_val rfl rfl rfl (r_convIF Try.runUnderlying3 Try.runUnderlying141 rfl (by omega)) ?_
  obtain ⟨sq, r, hsq, hr, g0, g1⟩ := Go.Vc.Float.sqrt_int n.toNat (by omega)
  refine l_call (f123 _ _ (by first | omega | assumption)) Try.call123 rfl rfl rfl ?_
  refine l_val rfl rfl rfl (r_convFI Try.runUnderlying141 Try.runUnderlying3 rfl hr (by omega)) ?_
  refine l_val rfl rfl rfl (r_assign (v := .int _ _) rfl) ?_
  refine l_nil ?_
  refine c_seq ?_
  refine c_block ?_
  refine c_loopK (σ := Int) [3, 8, 9, 10, 11, 12, 13, 14] (fun k : Int => [(3, .int .i64 k)]) (fun _ => []) (fun k => 0 ≤ k ∧ k ≤ 1073741824) (fun k => k.toNat) (r) ⟨g0, g1⟩ (by exact ⟨rfl, trivial⟩) rfl (fun k gg hI => ?_)
  have hk := sq1073 hI
  refine c_seq ?_
  refine c_seq ?_
  refine c_region ?_
  refine l_val rfl rfl rfl (r_move (v := .int _ _) rfl) ?_
  refine l_val rfl rfl rfl (r_move (v := .int _ _) rfl) ?_
  refine l_val rfl rfl rfl (r_mul rfl rfl (by omega)) ?_
  refine l_val rfl rfl rfl (r_move (v := .int _ _) rfl) ?_
  refine l_val rfl rfl rfl (r_gtr rfl rfl) ?_
  refine splitD (fun h1 => ?_) (fun h1 => ?_)
  · refine l_nil ?_
    refine c_true rfl ?_
    refine c_skip ?_
    refine c_block ?_
    refine c_region ?_
    refine l_val rfl rfl rfl (r_move (v := .int _ _) rfl) ?_
    refine l_val rfl rfl rfl (r_sub rfl rfl (by omega)) ?_
    refine l_val rfl rfl rfl (r_assign (v := .int _ _) rfl) ?_
    refine l_nil ?_
    refine c_roundK (k - 1) [] (by exact ⟨rfl, trivial⟩) (by repeat (first | exact Keeps.refl _ _ | exact Keeps.mix | refine Keeps.upd ?_ rfl | refine Keeps.mkE ?_ _ rfl | refine Keeps.mix2 ?_ rfl)) (by decide) rfl ⟨pos_of_sq (n := n) (k := k) (by omega) ⟨by omega, by omega⟩, by omega⟩ (by have := pos_of_sq (n := n) (k := k) (by omega) ⟨by omega, by omega⟩; omega)
  · refine l_nil ?_
    refine c_false rfl ?_
    refine c_exit ?_
    refine c_seq ?_
    refine c_block ?_
    refine c_loopK (σ := Int) [3, 15, 16, 17, 18, 19, 20, 21, 22, 23] (fun k : Int => [(3, .int .i64 k)]) (fun _ => []) (fun k => 0 ≤ k ∧ k ≤ 1073741824 ∧ k * k ≤ n) (fun k => (1073741824 - k).toNat) (k) ⟨by omega, by omega, by omega⟩ (by exact ⟨rfl, trivial⟩) rfl (fun k2 gg hI2 => ?_)
    have hk2 := sq1073 (k := k2 + 1) (by have := root28 hI2.2.2 hn.2; omega)
    have h28 := root28 hI2.2.2 hn.2
    refine c_seq ?_
    refine c_seq ?_
    refine c_region ?_
    refine l_val rfl rfl rfl (r_move (v := .int _ _) rfl) ?_
    refine l_val rfl rfl rfl (r_add rfl rfl (by omega)) ?_
    refine l_val rfl rfl rfl (r_move (v := .int _ _) rfl) ?_
    refine l_val rfl rfl rfl (r_add rfl rfl (by omega)) ?_
    refine l_val rfl rfl rfl (r_mul rfl rfl (by omega)) ?_
    refine l_val rfl rfl rfl (r_move (v := .int _ _) rfl) ?_
    refine l_val rfl rfl rfl (r_leq rfl rfl) ?_
    refine splitD (fun h2 => ?_) (fun h2 => ?_)
    · refine l_nil ?_
      refine c_true rfl ?_
      refine c_skip ?_
      refine c_block ?_
      refine c_region ?_
      refine l_val rfl rfl rfl (r_move (v := .int _ _) rfl) ?_
      refine l_val rfl rfl rfl (r_add rfl rfl (by omega)) ?_
      refine l_val rfl rfl rfl (r_assign (v := .int _ _) rfl) ?_
      refine l_nil ?_
      refine c_roundK (k2 + 1) [] (by exact ⟨rfl, trivial⟩) (by repeat (first | exact Keeps.refl _ _ | exact Keeps.mix | refine Keeps.upd ?_ rfl | refine Keeps.mkE ?_ _ rfl | refine Keeps.mix2 ?_ rfl)) (by decide) rfl ⟨by omega, by omega, by omega⟩ (by omega)
    · refine l_nil ?_
      refine c_false rfl ?_
      refine c_exit ?_
      refine c_seq ?_
      refine c_region ?_
      refine l_val rfl rfl rfl (r_move (v := .int _ _) rfl) ?_
      refine l_val rfl rfl rfl (r_assign (v := .int _ _) rfl) ?_
      refine l_nil ?_
      refine c_ret ?_
      refine ret1 (v := .int _ _) rfl rfl (fin ?_)
      exact vI (root_eq (by omega) (by omega) (by omega))

theorem f86 (n : Int) (hn : 0 ≤ n ∧ n ≤ 64800000000000000) : Ret Try.prog 86 [.int .i64 n] (.int .i64 (rootS n)) := by
  refine enterRet (n := 23) Try.func86 rfl rfl rfl (fun wd => ?_)
  refine c_seq ?_
  refine c_region ?_
  refine l_val rfl rfl rfl (r_assign (v := .int _ _) rfl) ?_
  refine l_nil ?_
  refine c_seq ?_
  refine c_region ?_
  refine l_val rfl rfl rfl (r_assign (v := .int _ _) rfl) ?_
  refine l_val rfl rfl rfl (r_assign (v := .int _ _) rfl) ?_
  refine l_nil ?_
  refine c_seq ?_
  refine c_block ?_
  refine c_loopK (σ := Int × Int) [3, 4, 5, 6, 7, 8, 9, 10, 11, 12, 13, 14, 15, 16, 17, 18, 19, 20, 21] (fun k : Int × Int => [(3, .int .i64 k.1), (4, .int .i64 k.2)]) (fun _ => []) (fun k => 0 ≤ k.1 ∧ k.1 ≤ k.2 ∧ k.2 ≤ 2147483648 ∧ k.1 * k.1 ≤ n ∧ n < (k.2 + 1) * (k.2 + 1)) (fun k => (k.2 - k.1).toNat) ((0, 2147483648)) ⟨by omega, by omega, by omega, by omega, by omega⟩ (by exact ⟨rfl, rfl, trivial⟩) rfl (fun ⟨lo, hi⟩ gg hI => ?_)
  obtain ⟨g1, g2, g3, g4, g5⟩ := hI
  simp only at g1 g2 g3 g4 g5
  refine c_seq ?_
  refine c_seq ?_
  refine c_region ?_
  refine l_val rfl rfl rfl (r_move (v := .int _ _) rfl) ?_
  refine l_val rfl rfl rfl (r_move (v := .int _ _) rfl) ?_
  refine l_val rfl rfl rfl (r_lss rfl rfl) ?_
  refine splitD (fun h1 => ?_) (fun h1 => ?_)
  · refine l_nil ?_
    refine c_true rfl ?_
    refine c_skip ?_
    refine c_block ?_
    refine c_seq ?_
    refine c_region ?_
    refine l_val rfl rfl rfl (r_move (v := .int _ _) rfl) ?_
    refine l_val rfl rfl rfl (r_move (v := .int _ _) rfl) ?_
    refine l_val rfl rfl rfl (r_add rfl rfl (by omega)) ?_
    refine l_val rfl rfl rfl (r_add rfl rfl (by omega)) ?_
    refine l_val rfl rfl rfl (r_quo rfl rfl (by omega) (by omega)) ?_
    refine l_val rfl rfl rfl (r_assign (v := .int _ _) rfl) ?_
    refine l_nil ?_
    refine c_seq ?_
    refine c_region ?_
    obtain ⟨m, hm, hm1, hm2⟩ : ∃ m : Int, (lo + hi + 1).tdiv 2 = m ∧ lo < m ∧ m ≤ hi := ⟨(lo + hi + 1).tdiv 2, rfl, by rw [Int.tdiv_eq_ediv_of_nonneg (by omega)]; omega, by rw [Int.tdiv_eq_ediv_of_nonneg (by omega)]; omega⟩
    rw [hm]
    have hmm := sq_mono (a := m) (b := 2147483648) (by omega) (by omega)
    have hmm0 := sq_mono (a := 0) (b := m) (by omega) (by omega)
    refine l_val rfl rfl rfl (r_move (v := .int _ _) rfl) ?_
    refine l_val rfl rfl rfl (r_move (v := .int _ _) rfl) ?_
    refine l_val rfl rfl rfl (r_mul rfl rfl (by omega)) ?_
    refine l_val rfl rfl rfl (r_move (v := .int _ _) rfl) ?_
    refine l_val rfl rfl rfl (r_leq rfl rfl) ?_
    refine splitD (fun h2 => ?_) (fun h2 => ?_)
    · refine l_nil ?_
      refine c_true rfl ?_
      refine c_region ?_
      refine l_val rfl rfl rfl (r_move (v := .int _ _) rfl) ?_
      refine l_val rfl rfl rfl (r_assign (v := .int _ _) rfl) ?_
      refine l_nil ?_
      refine c_roundK ((m, hi)) [] (by exact ⟨rfl, rfl, trivial⟩) (by repeat (first | exact Keeps.refl _ _ | exact Keeps.mix | refine Keeps.upd ?_ rfl | refine Keeps.mkE ?_ _ rfl | refine Keeps.mix2 ?_ rfl)) (by decide) rfl ⟨by omega, by omega, by omega, by first | omega | (show m * m ≤ n; omega), by first | omega | (show n < (m - 1 + 1) * (m - 1 + 1); rw [show m - 1 + 1 = m from by omega]; omega)⟩ (by show (_ - _ : Int).toNat < (_ - _ : Int).toNat; omega)
    · refine l_nil ?_
      refine c_false rfl ?_
      refine c_region ?_
      refine l_val rfl rfl rfl (r_move (v := .int _ _) rfl) ?_
      refine l_val rfl rfl rfl (r_sub rfl rfl (by omega)) ?_
      refine l_val rfl rfl rfl (r_assign (v := .int _ _) rfl) ?_
      refine l_nil ?_
      refine c_roundK ((lo, m - 1)) [] (by exact ⟨rfl, rfl, trivial⟩) (by repeat (first | exact Keeps.refl _ _ | exact Keeps.mix | refine Keeps.upd ?_ rfl | refine Keeps.mkE ?_ _ rfl | refine Keeps.mix2 ?_ rfl)) (by decide) rfl ⟨by omega, by omega, by omega, by first | omega | (show m * m ≤ n; omega), by first | omega | (show n < (m - 1 + 1) * (m - 1 + 1); rw [show m - 1 + 1 = m from by omega]; omega)⟩ (by show (_ - _ : Int).toNat < (_ - _ : Int).toNat; omega)
  · refine l_nil ?_
    refine c_false rfl ?_
    refine c_exit ?_
    refine c_seq ?_
    refine c_region ?_
    refine l_val rfl rfl rfl (r_move (v := .int _ _) rfl) ?_
    refine l_val rfl rfl rfl (r_assign (v := .int _ _) rfl) ?_
    refine l_nil ?_
    refine c_ret ?_
    refine ret1 (v := .int _ _) rfl rfl (fin ?_)
    have he : lo = hi := by omega
    subst he
    exact vI (root_eq g1 g4 g5)

theorem f80 (a : Option Addr) (c : Nat) (xs : List (Int × Int)) (hn : xs.length ≤ 9223372036854775807) (w : World) (h : Row w a 2 (xs.map fun p => [Value.int .i64 p.1, Value.int .i64 p.2])) : Does Try.prog 80 (List.toArray [.slice a xs.length c]) w fun v w' => v = (.int .i64 (placesS xs)) ∧ Grow w w' := by
  refine enter (n := 18) Try.func80 rfl rfl rfl (fun _ => False) [] (Sat.nil _ _) ?_
  refine c_seq ?_
  refine c_region ?_
  refine l_val rfl rfl rfl (r_assign (v := .int _ _) rfl) ?_
  refine l_nil ?_
  refine c_seq ?_
  refine c_seq ?_
  refine c_region ?_
  refine l_val rfl rfl rfl (r_move (v := .slice _ _ _) rfl) ?_
  refine l_val rfl rfl rfl (r_len Try.underlying54 rfl) ?_
  refine l_val rfl rfl rfl (r_move (v := .int _ _) rfl) ?_
  refine l_nil ?_
  refine c_block ?_
  refine c_loopK (σ := Nat) [2, 4, 5, 8, 9, 10, 11, 12, 13, 14, 15, 16, 17] (fun k : Nat => [(8, .int .i64 (k : Int))]) (fun _ => []) (fun k => k ≤ xs.length ∧ placesS (xs.drop k) = placesS xs) (fun k => xs.length - k) (0) ⟨Nat.zero_le _, rfl⟩ (by exact ⟨rfl, trivial⟩) rfl (fun k gg hI => ?_)
  obtain ⟨hk, hd⟩ := hI
  refine c_seq ?_
  refine c_region ?_
  refine l_val rfl rfl rfl (r_lss rfl rfl) ?_
  refine splitD (fun h1 => ?_) (fun h1 => ?_)
  · refine l_nil ?_
    refine c_seq ?_
    refine c_true rfl ?_
    refine c_skip ?_
    refine c_seq ?_
    refine c_block ?_
    refine c_seq ?_
    refine c_region ?_
    have hlt : k < xs.length := by omega
    refine l_val rfl rfl rfl (r_index Try.underlying54 Try.sizeOf25 rfl rfl (Row.at h hlt) (by omega) (by omega)) ?_
    refine l_read (fun w hF hS => run_loadPN (i := k) (j := 0) (vs := [_, _]) Try.isAgg25 Try.sizeOf25 rfl (by omega) (Row.arg h hF) (el_map hlt) rfl) rfl rfl rfl ?_
    refine l_alloc (cs := [_, _]) Try.zeroValue25 rfl rfl rfl (fun b0 => ?_)
    refine l_store (i := 0) (vs := [_, _]) (cs' := [_, _]) Try.sizeOf25 rfl rfl rfl rfl rfl rfl rfl rfl rfl ?_
    refine l_nil ?_
    refine c_seq ?_
    refine c_region ?_
    refine l_loadN (i := 0) (vs := [_, _]) Try.isAgg25 Try.sizeOf25 rfl rfl rfl rfl rfl ?_
    refine l_call (f60 _ _) Try.call60 rfl rfl rfl ?_
    refine l_val rfl rfl rfl (r_assign (v := .int _ _) rfl) ?_
    refine l_nil ?_
    refine c_seq ?_
    refine c_region ?_
    refine l_val rfl rfl rfl (r_move (v := .int _ _) rfl) ?_
    refine l_val rfl rfl rfl (r_neq rfl rfl) ?_
    refine splitD (fun h2 => ?_) (fun h2 => ?_)
    · refine l_nil ?_
      refine c_true rfl ?_
      refine c_seq ?_
      refine c_region ?_
      refine l_val rfl rfl rfl (r_move (v := .int _ _) rfl) ?_
      refine l_val rfl rfl rfl (r_assign (v := .int _ _) rfl) ?_
      refine l_nil ?_
      refine c_ret ?_
      refine ret1 (v := .int _ _) rfl rfl (fin ?_)
      refine vI ?_
      rw [← hd]
      rw [places_drop xs k (by omega), if_neg (by omega)]
    · refine l_nil ?_
      refine c_false rfl ?_
      refine c_skip ?_
      refine c_region ?_
      refine l_val rfl rfl rfl (r_add rfl rfl (by omega)) ?_
      refine l_val rfl rfl rfl (r_move (v := .int _ _) rfl) ?_
      refine l_nil ?_
      refine c_roundK (k + 1) [] (by exact ⟨rfl, trivial⟩) (by repeat (first | exact Keeps.refl _ _ | exact Keeps.mix | refine Keeps.upd ?_ rfl | refine Keeps.mkE ?_ _ rfl | refine Keeps.mix2 ?_ rfl)) (by decide) rfl ⟨by omega, by rw [places_drop xs k (by omega), if_pos (by omega)] at hd; exact hd⟩ (by omega)
  · refine l_nil ?_
    refine c_seq ?_
    refine c_false rfl ?_
    refine c_exit ?_
    refine c_seq ?_
    refine c_region ?_
    refine l_val rfl rfl rfl (r_assign (v := .int _ _) rfl) ?_
    refine l_nil ?_
    refine c_ret ?_
    refine ret1 (v := .int _ _) rfl rfl (fin ?_)
    refine vI ?_
    rw [← hd]
    rw [List.drop_of_length_le (by omega)]; rfl

theorem f81 (la1 lo1 la2 lo2 : Int) (p1 : placeS la1 lo1 = 0) (p2 : placeS la2 lo2 = 0) : Ret Try.prog 81 [.agg #[.int .i64 la1, .int .i64 lo1], .agg #[.int .i64 la2, .int .i64 lo2]] (.int .i64 (distS la1 lo1 la2 lo2)) := by
  have k1 := place_ok p1
  have k2 := place_ok p2
  clear p1 p2
  obtain ⟨hx1, hx2⟩ := xway_bd (lo1 := lo1) (lo2 := lo2) k1.1 k2.1
  unfold xwayS at hx2
  have hsy := sqb (x := la2 - la1) (by omega)
  have hsx := sqb hx2
  have hrt := root_bd (n := (la2 - la1) * (la2 - la1) + (shortS lo1 lo2 * cosS ((la1 + la2) / 2)).tdiv 1000000 * (shortS lo1 lo2 * cosS ((la1 + la2) / 2)).tdiv 1000000) (by omega)
  refine enterRet (n := 36) Try.func81 rfl rfl rfl (fun wd => ?_)
  refine c_seq ?_
  refine c_region ?_
  refine l_box (cs := [_, _]) rfl rfl rfl rfl (fun b0 => ?_)
  refine l_box (cs := [_, _]) rfl rfl rfl rfl (fun b1 => ?_)
  refine l_val rfl rfl rfl (r_assign (v := .int _ _) rfl) ?_
  refine l_nil ?_
  refine c_seq ?_
  refine c_region ?_
  refine l_val rfl rfl rfl (r_field Try.runUnderlying25 rfl Try.sizeOf3 rfl rfl) ?_
  refine l_load1 (i := 1) (v := .int _ _) Try.isAgg3 rfl rfl rfl rfl rfl ?_
  refine l_val rfl rfl rfl (r_field Try.runUnderlying25 rfl Try.sizeOf3 rfl rfl) ?_
  refine l_load1 (i := 0) (v := .int _ _) Try.isAgg3 rfl rfl rfl rfl rfl ?_
  refine l_val rfl rfl rfl (r_sub rfl rfl (by omega)) ?_
  refine l_val rfl rfl rfl (r_assign (v := .int _ _) rfl) ?_
  refine l_nil ?_
  refine c_seq ?_
  exact c_regionD (Kd.p :: Kd.d [0] _ :: Kd.p :: Kd.d [1] _ :: Kd.d [] _ :: Kd.p :: Kd.d [0] _ :: Kd.p :: Kd.d [1] _ :: Kd.p :: Kd.d [] _ :: Kd.d [] _ :: Kd.p :: Kd.p :: Kd.p :: []) 0 mixed (by
    refine d_val rfl rfl (r_field Try.runUnderlying25 rfl Try.sizeOf3 rfl rfl) ?_
    refine d_load1 (i := 0) (v := .int _ _) Try.isAgg3 rfl rfl rfl rfl ?_
    refine d_val rfl rfl (r_field Try.runUnderlying25 rfl Try.sizeOf3 rfl rfl) ?_
    refine d_load1 (i := 1) (v := .int _ _) Try.isAgg3 rfl rfl rfl rfl ?_
    refine d_call (f117 _ _ (by first | omega | assumption) (by first | omega | assumption)) Try.call117 rfl rfl ?_
    refine d_val rfl rfl (r_field Try.runUnderlying25 rfl Try.sizeOf3 rfl rfl) ?_
    refine d_load1 (i := 0) (v := .int _ _) Try.isAgg3 rfl rfl rfl rfl ?_
    refine d_val rfl rfl (r_field Try.runUnderlying25 rfl Try.sizeOf3 rfl rfl) ?_
    refine d_load1 (i := 1) (v := .int _ _) Try.isAgg3 rfl rfl rfl rfl ?_
    refine d_val rfl rfl (r_add rfl rfl (by omega)) ?_
    refine d_call (f118 _ _ (by first | omega | assumption) (by first | omega | assumption)) Try.call118 rfl rfl ?_
    refine d_call (f64 _ (by first | omega | assumption)) Try.call64 rfl rfl ?_
    refine d_val rfl rfl (r_mul rfl rfl (by omega)) ?_
    refine d_val rfl rfl (r_quo rfl rfl (by omega) (by omega)) ?_
    refine d_val rfl rfl (r_assign (v := .int _ _) rfl) ?_
    refine d_nil ?_
    refine c_seq ?_
    refine c_region ?_
    refine l_val rfl rfl rfl (r_move (v := .int _ _) rfl) ?_
    refine l_val rfl rfl rfl (r_move (v := .int _ _) rfl) ?_
    refine l_val rfl rfl rfl (r_mul rfl rfl (by omega)) ?_
    refine l_val rfl rfl rfl (r_move (v := .int _ _) rfl) ?_
    refine l_val rfl rfl rfl (r_move (v := .int _ _) rfl) ?_
    refine l_val rfl rfl rfl (r_mul rfl rfl (by omega)) ?_
    refine l_val rfl rfl rfl (r_add rfl rfl (by omega)) ?_
    refine l_call (f119 _ (by first | omega | assumption)) Try.call119 rfl rfl rfl ?_
    refine l_val rfl rfl rfl (r_mul rfl rfl (by omega)) ?_
    refine l_val rfl rfl rfl (r_quo rfl rfl (by omega) (by omega)) ?_
    refine l_val rfl rfl rfl (r_assign (v := .int _ _) rfl) ?_
    refine l_nil ?_
    refine c_ret ?_
    refine ret1 (v := .int _ _) rfl rfl (fin ?_)
    rfl
    ) (by kernel_rfl)

theorem f39 (la1 lo1 la2 lo2 : Int) (p1 : placeS la1 lo1 = 0) (p2 : placeS la2 lo2 = 0) : Ret Try.prog 39 [.agg #[.int .i64 la1, .int .i64 lo1], .agg #[.int .i64 la2, .int .i64 lo2]] (.int .i64 (distS la1 lo1 la2 lo2)) := by
  have k1 := place_ok p1
  have k2 := place_ok p2
  clear p1 p2
  obtain ⟨hx1, hx2⟩ := xway_bd (lo1 := lo1) (lo2 := lo2) k1.1 k2.1
  unfold xwayS at hx2
  have hsy := sqb (x := la2 - la1) (by omega)
  have hsx := sqb hx2
  have hrt := root_bd (n := (la2 - la1) * (la2 - la1) + (shortS lo1 lo2 * cosS ((la1 + la2) / 2)).tdiv 1000000 * (shortS lo1 lo2 * cosS ((la1 + la2) / 2)).tdiv 1000000) (by omega)
  refine enterRet (n := 36) Try.func39 rfl rfl rfl (fun wd => ?_)
  refine c_seq ?_
  refine c_region ?_
  refine l_box (cs := [_, _]) rfl rfl rfl rfl (fun b0 => ?_)
  refine l_box (cs := [_, _]) rfl rfl rfl rfl (fun b1 => ?_)
  refine l_val rfl rfl rfl (r_assign (v := .int _ _) rfl) ?_
  refine l_nil ?_
  refine c_seq ?_
  refine c_region ?_
  refine l_val rfl rfl rfl (r_field Try.runUnderlying25 rfl Try.sizeOf3 rfl rfl) ?_
  refine l_load1 (i := 1) (v := .int _ _) Try.isAgg3 rfl rfl rfl rfl rfl ?_
  refine l_val rfl rfl rfl (r_field Try.runUnderlying25 rfl Try.sizeOf3 rfl rfl) ?_
  refine l_load1 (i := 0) (v := .int _ _) Try.isAgg3 rfl rfl rfl rfl rfl ?_
  refine l_val rfl rfl rfl (r_sub rfl rfl (by omega)) ?_
  refine l_val rfl rfl rfl (r_assign (v := .int _ _) rfl) ?_
  refine l_nil ?_
  refine c_seq ?_
  exact c_regionD (Kd.p :: Kd.d [0] _ :: Kd.p :: Kd.d [1] _ :: Kd.d [] _ :: Kd.p :: Kd.d [0] _ :: Kd.p :: Kd.d [1] _ :: Kd.p :: Kd.d [] _ :: Kd.d [] _ :: Kd.p :: Kd.p :: Kd.p :: []) 0 mixed (by
    refine d_val rfl rfl (r_field Try.runUnderlying25 rfl Try.sizeOf3 rfl rfl) ?_
    refine d_load1 (i := 0) (v := .int _ _) Try.isAgg3 rfl rfl rfl rfl ?_
    refine d_val rfl rfl (r_field Try.runUnderlying25 rfl Try.sizeOf3 rfl rfl) ?_
    refine d_load1 (i := 1) (v := .int _ _) Try.isAgg3 rfl rfl rfl rfl ?_
    refine d_call (f84 _ _ (by first | omega | assumption) (by first | omega | assumption)) Try.call84 rfl rfl ?_
    refine d_val rfl rfl (r_field Try.runUnderlying25 rfl Try.sizeOf3 rfl rfl) ?_
    refine d_load1 (i := 0) (v := .int _ _) Try.isAgg3 rfl rfl rfl rfl ?_
    refine d_val rfl rfl (r_field Try.runUnderlying25 rfl Try.sizeOf3 rfl rfl) ?_
    refine d_load1 (i := 1) (v := .int _ _) Try.isAgg3 rfl rfl rfl rfl ?_
    refine d_val rfl rfl (r_add rfl rfl (by omega)) ?_
    refine d_call (f85 _ _ (by first | omega | assumption) (by first | omega | assumption)) Try.call85 rfl rfl ?_
    refine d_call (f66 _ (by first | omega | assumption)) Try.call66 rfl rfl ?_
    refine d_val rfl rfl (r_mul rfl rfl (by omega)) ?_
    refine d_val rfl rfl (r_quo rfl rfl (by omega) (by omega)) ?_
    refine d_val rfl rfl (r_assign (v := .int _ _) rfl) ?_
    refine d_nil ?_
    refine c_seq ?_
    refine c_region ?_
    refine l_val rfl rfl rfl (r_move (v := .int _ _) rfl) ?_
    refine l_val rfl rfl rfl (r_move (v := .int _ _) rfl) ?_
    refine l_val rfl rfl rfl (r_mul rfl rfl (by omega)) ?_
    refine l_val rfl rfl rfl (r_move (v := .int _ _) rfl) ?_
    refine l_val rfl rfl rfl (r_move (v := .int _ _) rfl) ?_
    refine l_val rfl rfl rfl (r_mul rfl rfl (by omega)) ?_
    refine l_val rfl rfl rfl (r_add rfl rfl (by omega)) ?_
    refine l_call (f86 _ (by first | omega | assumption)) Try.call86 rfl rfl rfl ?_
    refine l_val rfl rfl rfl (r_mul rfl rfl (by omega)) ?_
    refine l_val rfl rfl rfl (r_quo rfl rfl (by omega) (by omega)) ?_
    refine l_val rfl rfl rfl (r_assign (v := .int _ _) rfl) ?_
    refine l_nil ?_
    refine c_ret ?_
    refine ret1 (v := .int _ _) rfl rfl (fin ?_)
    rfl
    ) (by kernel_rfl)

theorem f82 (la1 lo1 la2 lo2 p q : Int) (p1 : placeS la1 lo1 = 0) (p2 : placeS la2 lo2 = 0) (p3 : 0 ≤ p ∧ p ≤ q) (p4 : 1 ≤ q ∧ q ≤ 6311433599) : Ret Try.prog 82 [.agg #[.int .i64 la1, .int .i64 lo1], .agg #[.int .i64 la2, .int .i64 lo2], .int .i64 p, .int .i64 q] (.agg #[.int .i64 (betwS la1 lo1 la2 lo2 p q).1, .int .i64 (betwS la1 lo1 la2 lo2 p q).2]) := by
  have k1 := place_ok p1
  have k2 := place_ok p2
  clear p1 p2
  have hs := short_bd lo1 lo2
  have hm1 := mul_bd (a := la2 - la1) (b := p) (A := 180000000) (B := 6311433599) (by omega) (by omega) (by omega)
  have hm2 := mul_bd (a := shortS lo1 lo2) (b := p) (A := 180000000) (B := 6311433599) (by omega) (by omega) (by omega)
  have hd1 := share_bd (d := la2 - la1) (A := 180000000) (by omega) p3 p4.1 (by omega)
  have hd2 := share_bd (d := shortS lo1 lo2) (A := 180000000) (by omega) p3 p4.1 (by omega)
  refine enterRet (n := 35) Try.func82 rfl rfl rfl (fun wd => ?_)
  refine c_seq ?_
  refine c_region ?_
  refine l_box (cs := [_, _]) rfl rfl rfl rfl (fun b0 => ?_)
  refine l_box (cs := [_, _]) rfl rfl rfl rfl (fun b1 => ?_)
  refine l_alloc (cs := [_, _]) Try.zeroValue25 rfl rfl rfl (fun b2 => ?_)
  refine l_nil ?_
  refine c_seq ?_
  exact c_regionD (Kd.p :: Kd.d [0] _ :: Kd.p :: Kd.d [1] _ :: Kd.p :: Kd.d [0] _ :: Kd.p :: Kd.p :: Kd.p :: Kd.p :: Kd.d [] _ :: Kd.p :: Kd.p :: Kd.d [0] _ :: Kd.p :: Kd.d [0] _ :: Kd.p :: Kd.d [1] _ :: Kd.d [] _ :: Kd.p :: Kd.p :: Kd.p :: Kd.d [] _ :: Kd.p :: Kd.d [] _ :: Kd.p :: Kd.st 8 2 [_, _] 25 :: []) 0 mixed (by
    refine d_val rfl rfl (r_field Try.runUnderlying25 rfl Try.sizeOf3 rfl rfl) ?_
    refine d_load1 (i := 0) (v := .int _ _) Try.isAgg3 rfl rfl rfl rfl ?_
    refine d_val rfl rfl (r_field Try.runUnderlying25 rfl Try.sizeOf3 rfl rfl) ?_
    refine d_load1 (i := 1) (v := .int _ _) Try.isAgg3 rfl rfl rfl rfl ?_
    refine d_val rfl rfl (r_field Try.runUnderlying25 rfl Try.sizeOf3 rfl rfl) ?_
    refine d_load1 (i := 0) (v := .int _ _) Try.isAgg3 rfl rfl rfl rfl ?_
    refine d_val rfl rfl (r_sub rfl rfl (by omega)) ?_
    refine d_val rfl rfl (r_move (v := .int _ _) rfl) ?_
    refine d_val rfl rfl (r_mul rfl rfl (by omega)) ?_
    refine d_val rfl rfl (r_move (v := .int _ _) rfl) ?_
    refine d_call (f118 _ _ (by first | omega | assumption) (by first | omega | assumption)) Try.call118 rfl rfl ?_
    refine d_val rfl rfl (r_add rfl rfl (by omega)) ?_
    refine d_val rfl rfl (r_field Try.runUnderlying25 rfl Try.sizeOf3 rfl rfl) ?_
    refine d_load1 (i := 0) (v := .int _ _) Try.isAgg3 rfl rfl rfl rfl ?_
    refine d_val rfl rfl (r_field Try.runUnderlying25 rfl Try.sizeOf3 rfl rfl) ?_
    refine d_load1 (i := 0) (v := .int _ _) Try.isAgg3 rfl rfl rfl rfl ?_
    refine d_val rfl rfl (r_field Try.runUnderlying25 rfl Try.sizeOf3 rfl rfl) ?_
    refine d_load1 (i := 1) (v := .int _ _) Try.isAgg3 rfl rfl rfl rfl ?_
    refine d_call (f117 _ _ (by first | omega | assumption) (by first | omega | assumption)) Try.call117 rfl rfl ?_
    refine d_val rfl rfl (r_move (v := .int _ _) rfl) ?_
    refine d_val rfl rfl (r_mul rfl rfl (by omega)) ?_
    refine d_val rfl rfl (r_move (v := .int _ _) rfl) ?_
    refine d_call (f118 _ _ (by first | omega | assumption) (by first | omega | assumption)) Try.call118 rfl rfl ?_
    refine d_val rfl rfl (r_add rfl rfl (by omega)) ?_
    refine d_call (f65 _ (by first | omega | assumption)) Try.call65 rfl rfl ?_
    refine d_val rfl rfl (r_build (pl := #[(0, 1), (1, 1)]) (ps := [(0, .int _ _), (1, .int _ _)]) (cells := #[_, _]) Try.zeroValue25 Try.runUnderlying25 (fun w => by kernel_rfl) rfl rfl) ?_
    refine d_store (i := 2) (vs := [_, _]) Try.sizeOf25 rfl rfl rfl rfl rfl rfl rfl rfl rfl ?_
    refine d_nil ?_
    refine c_ret ?_
    refine retC (i := 2) (vs := [_, _]) Try.isAgg25 Try.sizeOf25 rfl rfl rfl rfl (fin ?_)
    rfl
    ) (by kernel_rfl)

theorem f38 (la1 lo1 la2 lo2 p q : Int) (p1 : placeS la1 lo1 = 0) (p2 : placeS la2 lo2 = 0) (p3 : 0 ≤ p ∧ p ≤ q) (p4 : 1 ≤ q ∧ q ≤ 6311433599) : Ret Try.prog 38 [.agg #[.int .i64 la1, .int .i64 lo1], .agg #[.int .i64 la2, .int .i64 lo2], .int .i64 p, .int .i64 q] (.agg #[.int .i64 (betwS la1 lo1 la2 lo2 p q).1, .int .i64 (betwS la1 lo1 la2 lo2 p q).2]) := by
  have k1 := place_ok p1
  have k2 := place_ok p2
  clear p1 p2
  have hs := short_bd lo1 lo2
  have hm1 := mul_bd (a := la2 - la1) (b := p) (A := 180000000) (B := 6311433599) (by omega) (by omega) (by omega)
  have hm2 := mul_bd (a := shortS lo1 lo2) (b := p) (A := 180000000) (B := 6311433599) (by omega) (by omega) (by omega)
  have hd1 := share_bd (d := la2 - la1) (A := 180000000) (by omega) p3 p4.1 (by omega)
  have hd2 := share_bd (d := shortS lo1 lo2) (A := 180000000) (by omega) p3 p4.1 (by omega)
  refine enterRet (n := 33) Try.func38 rfl rfl rfl (fun wd => ?_)
  refine c_seq ?_
  refine c_region ?_
  refine l_box (cs := [_, _]) rfl rfl rfl rfl (fun b0 => ?_)
  refine l_box (cs := [_, _]) rfl rfl rfl rfl (fun b1 => ?_)
  refine l_alloc (cs := [_, _]) Try.zeroValue25 rfl rfl rfl (fun b2 => ?_)
  refine l_nil ?_
  refine c_seq ?_
  exact c_regionD (Kd.p :: Kd.d [0] _ :: Kd.p :: Kd.d [1] _ :: Kd.p :: Kd.d [0] _ :: Kd.p :: Kd.p :: Kd.p :: Kd.d [] _ :: Kd.p :: Kd.p :: Kd.d [0] _ :: Kd.p :: Kd.d [0] _ :: Kd.p :: Kd.d [1] _ :: Kd.d [] _ :: Kd.p :: Kd.p :: Kd.d [] _ :: Kd.p :: Kd.d [] _ :: Kd.p :: Kd.st 8 2 [_, _] 25 :: []) 0 mixed (by
    refine d_val rfl rfl (r_field Try.runUnderlying25 rfl Try.sizeOf3 rfl rfl) ?_
    refine d_load1 (i := 0) (v := .int _ _) Try.isAgg3 rfl rfl rfl rfl ?_
    refine d_val rfl rfl (r_field Try.runUnderlying25 rfl Try.sizeOf3 rfl rfl) ?_
    refine d_load1 (i := 1) (v := .int _ _) Try.isAgg3 rfl rfl rfl rfl ?_
    refine d_val rfl rfl (r_field Try.runUnderlying25 rfl Try.sizeOf3 rfl rfl) ?_
    refine d_load1 (i := 0) (v := .int _ _) Try.isAgg3 rfl rfl rfl rfl ?_
    refine d_val rfl rfl (r_sub rfl rfl (by omega)) ?_
    refine d_val rfl rfl (r_move (v := .int _ _) rfl) ?_
    refine d_val rfl rfl (r_move (v := .int _ _) rfl) ?_
    refine d_call (f83 _ _ _ (by first | omega | assumption) (by first | omega | assumption) (by first | omega | assumption)) Try.call83 rfl rfl ?_
    refine d_val rfl rfl (r_add rfl rfl (by omega)) ?_
    refine d_val rfl rfl (r_field Try.runUnderlying25 rfl Try.sizeOf3 rfl rfl) ?_
    refine d_load1 (i := 0) (v := .int _ _) Try.isAgg3 rfl rfl rfl rfl ?_
    refine d_val rfl rfl (r_field Try.runUnderlying25 rfl Try.sizeOf3 rfl rfl) ?_
    refine d_load1 (i := 0) (v := .int _ _) Try.isAgg3 rfl rfl rfl rfl ?_
    refine d_val rfl rfl (r_field Try.runUnderlying25 rfl Try.sizeOf3 rfl rfl) ?_
    refine d_load1 (i := 1) (v := .int _ _) Try.isAgg3 rfl rfl rfl rfl ?_
    refine d_call (f84 _ _ (by first | omega | assumption) (by first | omega | assumption)) Try.call84 rfl rfl ?_
    refine d_val rfl rfl (r_move (v := .int _ _) rfl) ?_
    refine d_val rfl rfl (r_move (v := .int _ _) rfl) ?_
    refine d_call (f83 _ _ _ (by first | omega | assumption) (by first | omega | assumption) (by first | omega | assumption)) Try.call83 rfl rfl ?_
    refine d_val rfl rfl (r_add rfl rfl (by omega)) ?_
    refine d_call (f67 _ (by first | omega | assumption)) Try.call67 rfl rfl ?_
    refine d_val rfl rfl (r_build (pl := #[(0, 1), (1, 1)]) (ps := [(0, .int _ _), (1, .int _ _)]) (cells := #[_, _]) Try.zeroValue25 Try.runUnderlying25 (fun w => by kernel_rfl) rfl rfl) ?_
    refine d_store (i := 2) (vs := [_, _]) Try.sizeOf25 rfl rfl rfl rfl rfl rfl rfl rfl rfl ?_
    refine d_nil ?_
    refine c_ret ?_
    refine retC (i := 2) (vs := [_, _]) Try.isAgg25 Try.sizeOf25 rfl rfl rfl rfl (fin ?_)
    rfl
    ) (by kernel_rfl)

theorem f34 (la1 lo1 la2 lo2 : Int) : Ret Try.prog 34 [.agg #[.int .i64 la1, .int .i64 lo1], .agg #[.int .i64 la2, .int .i64 lo2]] (.tuple #[.int .i64 (if firstS [placeS la1 lo1, placeS la2 lo2] = 0 then distS la1 lo1 la2 lo2 else 0), .int .i64 (firstS [placeS la1 lo1, placeS la2 lo2])]) := by
  refine enterRet (n := 17) Try.func34 rfl rfl rfl (fun wd => ?_)
  refine c_seq ?_
  refine c_region ?_
  refine l_box (cs := [_, _]) rfl rfl rfl rfl (fun b0 => ?_)
  refine l_box (cs := [_, _]) rfl rfl rfl rfl (fun b1 => ?_)
  refine l_val rfl rfl rfl (r_assign (v := .int _ _) rfl) ?_
  refine l_val rfl rfl rfl (r_assign (v := .int _ _) rfl) ?_
  refine l_nil ?_
  refine c_seq ?_
  refine c_seq ?_
  refine c_region ?_
  refine l_loadN (i := 0) (vs := [_, _]) Try.isAgg25 Try.sizeOf25 rfl rfl rfl rfl rfl ?_
  refine l_loadN (i := 1) (vs := [_, _]) Try.isAgg25 Try.sizeOf25 rfl rfl rfl rfl rfl ?_
  refine l_buildSlice (vs := [.agg #[_, _], .agg #[_, _]]) (cs := [_, _, _, _]) Try.underlying54 Try.sizeOf25 Try.zeroValue25 rfl rfl rfl rfl rfl rfl rfl (fun b2 => ?_)
  refine l_callG (fun w hF hS => f80 _ _ [(_, _), (_, _)] (by simp) w (row_box (i := 2) hS rfl rfl rfl)) Try.call80 rfl rfl rfl ?_
  refine l_val rfl rfl rfl (r_assign (v := .int _ _) rfl) ?_
  refine l_nil ?_
  refine c_seq ?_
  refine c_region ?_
  refine l_val rfl rfl rfl (r_move (v := .int _ _) rfl) ?_
  refine l_val rfl rfl rfl (r_neq rfl rfl) ?_
  refine splitD (fun h1 => ?_) (fun h1 => ?_)
  · refine l_nil ?_
    refine c_true rfl ?_
    refine c_seq ?_
    refine c_region ?_
    refine l_val rfl rfl rfl (r_move (v := .int _ _) rfl) ?_
    refine l_val rfl rfl rfl (r_assign (v := .int _ _) rfl) ?_
    refine l_val rfl rfl rfl (r_assign (v := .int _ _) rfl) ?_
    refine l_nil ?_
    refine c_ret ?_
    refine ret2 (v1 := .int _ _) (v2 := .int _ _) rfl rfl rfl (fin ?_)
    rw [← places2]
    simp_all
  · refine l_nil ?_
    refine c_false rfl ?_
    refine c_skip ?_
    refine c_seq ?_
    refine c_region ?_
    refine l_loadN (i := 0) (vs := [_, _]) Try.isAgg25 Try.sizeOf25 rfl rfl rfl rfl rfl ?_
    refine l_loadN (i := 1) (vs := [_, _]) Try.isAgg25 Try.sizeOf25 rfl rfl rfl rfl rfl ?_
    obtain ⟨q1, q2⟩ := first2 ((places2 la1 lo1 la2 lo2).symm.trans (Classical.not_not.1 ‹_›))
    refine l_call (f81 _ _ _ _ (by first | omega | assumption) (by first | omega | assumption)) Try.call81 rfl rfl rfl ?_
    refine l_val rfl rfl rfl (r_assign (v := .int _ _) rfl) ?_
    refine l_val rfl rfl rfl (r_assign (v := .int _ _) rfl) ?_
    refine l_nil ?_
    refine c_ret ?_
    refine ret2 (v1 := .int _ _) (v2 := .int _ _) rfl rfl rfl (fin ?_)
    rw [← places2]
    simp_all

theorem f35 (la1 lo1 la2 lo2 p q : Int) : Ret Try.prog 35 [.agg #[.int .i64 la1, .int .i64 lo1], .agg #[.int .i64 la2, .int .i64 lo2], .int .i64 p, .int .i64 q] (.tuple #[.agg #[.int .i64 (if firstS [placeS la1 lo1, placeS la2 lo2, if 1 ≤ q ∧ q ≤ 6311433599 ∧ 0 ≤ p ∧ p ≤ q then 0 else 2] = 0 then betwS la1 lo1 la2 lo2 p q else (0, 0)).1, .int .i64 (if firstS [placeS la1 lo1, placeS la2 lo2, if 1 ≤ q ∧ q ≤ 6311433599 ∧ 0 ≤ p ∧ p ≤ q then 0 else 2] = 0 then betwS la1 lo1 la2 lo2 p q else (0, 0)).2], .int .i64 (firstS [placeS la1 lo1, placeS la2 lo2, if 1 ≤ q ∧ q ≤ 6311433599 ∧ 0 ≤ p ∧ p ≤ q then 0 else 2])]) := by
  refine enterRet (n := 32) Try.func35 rfl rfl rfl (fun wd => ?_)
  refine c_seq ?_
  refine c_region ?_
  refine l_box (cs := [_, _]) rfl rfl rfl rfl (fun b0 => ?_)
  refine l_box (cs := [_, _]) rfl rfl rfl rfl (fun b1 => ?_)
  refine l_alloc (cs := [_, _]) Try.zeroValue25 rfl rfl rfl (fun b2 => ?_)
  refine l_val rfl rfl rfl (r_assign (v := .int _ _) rfl) ?_
  refine l_nil ?_
  refine c_seq ?_
  refine c_seq ?_
  refine c_region ?_
  refine l_loadN (i := 0) (vs := [_, _]) Try.isAgg25 Try.sizeOf25 rfl rfl rfl rfl rfl ?_
  refine l_loadN (i := 1) (vs := [_, _]) Try.isAgg25 Try.sizeOf25 rfl rfl rfl rfl rfl ?_
  refine l_buildSlice (vs := [.agg #[_, _], .agg #[_, _]]) (cs := [_, _, _, _]) Try.underlying54 Try.sizeOf25 Try.zeroValue25 rfl rfl rfl rfl rfl rfl rfl (fun b3 => ?_)
  refine l_callG (fun w hF hS => f80 _ _ [(_, _), (_, _)] (by simp) w (row_box (i := 3) hS rfl rfl rfl)) Try.call80 rfl rfl rfl ?_
  refine l_val rfl rfl rfl (r_assign (v := .int _ _) rfl) ?_
  refine l_nil ?_
  refine c_seq ?_
  refine c_region ?_
  refine l_val rfl rfl rfl (r_move (v := .int _ _) rfl) ?_
  refine l_val rfl rfl rfl (r_neq rfl rfl) ?_
  refine splitD (fun h1 => ?_) (fun h1 => ?_)
  · refine l_nil ?_
    refine c_true rfl ?_
    refine c_seq ?_
    refine c_region ?_
    refine l_val rfl rfl rfl (r_build (pl := #[(0, 1), (1, 1)]) (ps := []) (cells := #[_, _]) Try.zeroValue25 Try.runUnderlying25 (fun w => by kernel_rfl) rfl rfl) ?_
    refine l_val rfl rfl rfl (r_move (v := .int _ _) rfl) ?_
    refine l_store (i := 2) (vs := [_, _]) (cs' := [_, _]) Try.sizeOf25 rfl rfl rfl rfl rfl rfl rfl rfl rfl ?_
    refine l_val rfl rfl rfl (r_assign (v := .int _ _) rfl) ?_
    refine l_nil ?_
    refine c_ret ?_
    refine retCt (i := 2) (vs := [_, _]) (v2 := .int _ _) Try.isAgg25 Try.sizeOf25 rfl rfl rfl rfl rfl (fin ?_)
    rw [first3, ← places2]
    exact betw_leaf (by simp [h1]) (by simp [h1]) (by simp [h1])
  · refine l_nil ?_
    refine c_false rfl ?_
    refine c_skip ?_
    refine c_seq ?_
    refine c_seq ?_
    refine c_region ?_
    refine l_val rfl rfl rfl (r_move (v := .int _ _) rfl) ?_
    refine l_call (f61 _ _ _) Try.call61 rfl rfl rfl ?_
    refine split (fun h2 => ?_) (fun h2 => ?_)
    · refine l_val rfl rfl rfl (r_move (v := .bool _) rfl) ?_
      refine l_passed rfl rfl rfl ?_
      refine l_passed rfl rfl rfl ?_
      refine l_passed rfl rfl rfl ?_
      refine l_val rfl rfl rfl (r_pickT (v := .bool _) rfl rfl) ?_
      refine l_nil ?_
      refine c_true rfl ?_
      refine c_seq ?_
      refine c_region ?_
      refine l_val rfl rfl rfl (r_build (pl := #[(0, 1), (1, 1)]) (ps := []) (cells := #[_, _]) Try.zeroValue25 Try.runUnderlying25 (fun w => by kernel_rfl) rfl rfl) ?_
      refine l_store (i := 2) (vs := [_, _]) (cs' := [_, _]) Try.sizeOf25 rfl rfl rfl rfl rfl rfl rfl rfl rfl ?_
      refine l_val rfl rfl rfl (r_assign (v := .int _ _) rfl) ?_
      refine l_nil ?_
      refine c_ret ?_
      refine retCt (i := 2) (vs := [_, _]) (v2 := .int _ _) Try.isAgg25 Try.sizeOf25 rfl rfl rfl rfl rfl (fin ?_)
      rw [first3, ← places2]
      exact betw_leaf (by simp_all [outsideS] <;> rw [if_neg (by omega)]) (by simp_all [outsideS] <;> rw [if_neg (by omega)]) (by simp_all [outsideS] <;> omega)
    · refine l_val rfl rfl rfl (r_move (v := .bool _) rfl) ?_
      refine l_val rfl rfl rfl (r_move (v := .int _ _) rfl) ?_
      refine l_val rfl rfl rfl (r_move (v := .int _ _) rfl) ?_
      refine l_call (f61 _ _ _) Try.call61 rfl rfl rfl ?_
      refine split (fun h3 => ?_) (fun h3 => ?_)
      · refine l_val rfl rfl rfl (r_pickF (v := .bool _) rfl rfl) ?_
        refine l_nil ?_
        refine c_true rfl ?_
        refine c_seq ?_
        refine c_region ?_
        refine l_val rfl rfl rfl (r_build (pl := #[(0, 1), (1, 1)]) (ps := []) (cells := #[_, _]) Try.zeroValue25 Try.runUnderlying25 (fun w => by kernel_rfl) rfl rfl) ?_
        refine l_store (i := 2) (vs := [_, _]) (cs' := [_, _]) Try.sizeOf25 rfl rfl rfl rfl rfl rfl rfl rfl rfl ?_
        refine l_val rfl rfl rfl (r_assign (v := .int _ _) rfl) ?_
        refine l_nil ?_
        refine c_ret ?_
        refine retCt (i := 2) (vs := [_, _]) (v2 := .int _ _) Try.isAgg25 Try.sizeOf25 rfl rfl rfl rfl rfl (fin ?_)
        rw [first3, ← places2]
        exact betw_leaf (by simp_all [outsideS] <;> rw [if_neg (by omega)]) (by simp_all [outsideS] <;> rw [if_neg (by omega)]) (by simp_all [outsideS] <;> omega)
      · refine l_val rfl rfl rfl (r_pickF (v := .bool _) rfl rfl) ?_
        refine l_nil ?_
        refine c_false rfl ?_
        refine c_skip ?_
        refine c_seq ?_
        refine c_region ?_
        refine l_loadN (i := 0) (vs := [_, _]) Try.isAgg25 Try.sizeOf25 rfl rfl rfl rfl rfl ?_
        refine l_loadN (i := 1) (vs := [_, _]) Try.isAgg25 Try.sizeOf25 rfl rfl rfl rfl rfl ?_
        refine l_val rfl rfl rfl (r_move (v := .int _ _) rfl) ?_
        refine l_val rfl rfl rfl (r_move (v := .int _ _) rfl) ?_
        have k2 := outsideF h2
        have k3 := outsideF h3
        obtain ⟨q1, q2⟩ := first2 ((places2 la1 lo1 la2 lo2).symm.trans (Classical.not_not.1 ‹_›))
        refine l_call (f82 _ _ _ _ _ _ (by first | omega | assumption) (by first | omega | assumption) (by first | omega | assumption) (by first | omega | assumption)) Try.call82 rfl rfl rfl ?_
        refine l_store (i := 2) (vs := [_, _]) (cs' := [_, _]) Try.sizeOf25 rfl rfl rfl rfl rfl rfl rfl rfl rfl ?_
        refine l_val rfl rfl rfl (r_assign (v := .int _ _) rfl) ?_
        refine l_nil ?_
        refine c_ret ?_
        refine retCt (i := 2) (vs := [_, _]) (v2 := .int _ _) Try.isAgg25 Try.sizeOf25 rfl rfl rfl rfl rfl (fin ?_)
        rw [first3, ← places2]
        exact betw_leaf (by rw [if_pos (by simp_all)]) (by rw [if_pos (by simp_all)]) (by simp_all)

theorem f36 (v e want fault : Int) : Ret Try.prog 36 [.int .i64 v, .int .i64 e, .int .i64 want, .int .i64 fault] (.bool (decide (v = (if fault = 0 then want else 0) ∧ e = fault))) := by
  refine enterRet (n := 21) Try.func36 rfl rfl rfl (fun wd => ?_)
  refine c_seq ?_
  refine c_region ?_
  refine l_val rfl rfl rfl (r_assign (v := .bool _) rfl) ?_
  refine l_nil ?_
  refine c_seq ?_
  refine c_region ?_
  refine l_val rfl rfl rfl (r_assign (v := .int _ _) rfl) ?_
  refine l_nil ?_
  refine c_seq ?_
  refine c_seq ?_
  refine c_region ?_
  refine l_val rfl rfl rfl (r_move (v := .int _ _) rfl) ?_
  refine l_val rfl rfl rfl (r_neq rfl rfl) ?_
  refine splitD (fun h1 => ?_) (fun h1 => ?_)
  · refine l_nil ?_
    refine c_true rfl ?_
    refine c_region ?_
    refine l_val rfl rfl rfl (r_move (v := .int _ _) rfl) ?_
    refine l_val rfl rfl rfl (r_assign (v := .int _ _) rfl) ?_
    refine l_nil ?_
    refine c_seq ?_
    refine c_region ?_
    refine l_val rfl rfl rfl (r_move (v := .int _ _) rfl) ?_
    refine l_val rfl rfl rfl (r_move (v := .int _ _) rfl) ?_
    refine l_val rfl rfl rfl (r_eql rfl rfl) ?_
    refine splitD (fun h2 => ?_) (fun h2 => ?_)
    · refine l_val rfl rfl rfl (r_move (v := .bool _) rfl) ?_
      refine l_val rfl rfl rfl (r_move (v := .int _ _) rfl) ?_
      refine l_val rfl rfl rfl (r_move (v := .int _ _) rfl) ?_
      refine l_val rfl rfl rfl (r_eql rfl rfl) ?_
      refine l_val rfl rfl rfl (r_pickT (v := .bool _) rfl rfl) ?_
      refine l_val rfl rfl rfl (r_assign (v := .bool _) rfl) ?_
      refine l_nil ?_
      refine c_ret ?_
      refine ret1 (v := .bool _) rfl rfl (fin ?_)
      simp_all
    · refine l_val rfl rfl rfl (r_move (v := .bool _) rfl) ?_
      refine l_passed rfl rfl rfl ?_
      refine l_passed rfl rfl rfl ?_
      refine l_passed rfl rfl rfl ?_
      refine l_val rfl rfl rfl (r_pickF (v := .bool _) rfl rfl) ?_
      refine l_val rfl rfl rfl (r_assign (v := .bool _) rfl) ?_
      refine l_nil ?_
      refine c_ret ?_
      refine ret1 (v := .bool _) rfl rfl (fin ?_)
      simp_all
  · refine l_nil ?_
    refine c_false rfl ?_
    refine c_skip ?_
    refine c_seq ?_
    refine c_region ?_
    refine l_val rfl rfl rfl (r_move (v := .int _ _) rfl) ?_
    refine l_val rfl rfl rfl (r_move (v := .int _ _) rfl) ?_
    refine l_val rfl rfl rfl (r_eql rfl rfl) ?_
    refine splitD (fun h3 => ?_) (fun h3 => ?_)
    · refine l_val rfl rfl rfl (r_move (v := .bool _) rfl) ?_
      refine l_val rfl rfl rfl (r_move (v := .int _ _) rfl) ?_
      refine l_val rfl rfl rfl (r_move (v := .int _ _) rfl) ?_
      refine l_val rfl rfl rfl (r_eql rfl rfl) ?_
      refine l_val rfl rfl rfl (r_pickT (v := .bool _) rfl rfl) ?_
      refine l_val rfl rfl rfl (r_assign (v := .bool _) rfl) ?_
      refine l_nil ?_
      refine c_ret ?_
      refine ret1 (v := .bool _) rfl rfl (fin ?_)
      simp_all
    · refine l_val rfl rfl rfl (r_move (v := .bool _) rfl) ?_
      refine l_passed rfl rfl rfl ?_
      refine l_passed rfl rfl rfl ?_
      refine l_passed rfl rfl rfl ?_
      refine l_val rfl rfl rfl (r_pickF (v := .bool _) rfl rfl) ?_
      refine l_val rfl rfl rfl (r_assign (v := .bool _) rfl) ?_
      refine l_nil ?_
      refine c_ret ?_
      refine ret1 (v := .bool _) rfl rfl (fin ?_)
      simp_all

theorem f37 (a b e a2 b2 fault : Int) : Ret Try.prog 37 [.agg #[.int .i64 a, .int .i64 b], .int .i64 e, .agg #[.int .i64 a2, .int .i64 b2], .int .i64 fault] (.bool (decide (((a, b) : Int × Int) = (if fault = 0 then (a2, b2) else (0, 0)) ∧ e = fault))) := by
  refine enterRet (n := 21) Try.func37 rfl rfl rfl (fun wd => ?_)
  refine c_seq ?_
  refine c_region ?_
  refine l_box (cs := [_, _]) rfl rfl rfl rfl (fun b0 => ?_)
  refine l_box (cs := [_, _]) rfl rfl rfl rfl (fun b1 => ?_)
  refine l_val rfl rfl rfl (r_assign (v := .bool _) rfl) ?_
  refine l_nil ?_
  refine c_seq ?_
  refine c_region ?_
  refine l_alloc (cs := [_, _]) Try.zeroValue25 rfl rfl rfl (fun b2 => ?_)
  refine l_nil ?_
  refine c_seq ?_
  refine c_seq ?_
  refine c_region ?_
  refine l_val rfl rfl rfl (r_move (v := .int _ _) rfl) ?_
  refine l_val rfl rfl rfl (r_neq rfl rfl) ?_
  refine splitD (fun h1 => ?_) (fun h1 => ?_)
  · refine l_nil ?_
    refine c_true rfl ?_
    refine c_region ?_
    refine l_loadN (i := 2) (vs := [_, _]) Try.isAgg25 Try.sizeOf25 rfl rfl rfl rfl rfl ?_
    refine l_store (i := 1) (vs := [_, _]) (cs' := [_, _]) Try.sizeOf25 rfl rfl rfl rfl rfl rfl rfl rfl rfl ?_
    refine l_nil ?_
    refine c_seq ?_
    refine c_region ?_
    refine l_loadN (i := 0) (vs := [_, _]) Try.isAgg25 Try.sizeOf25 rfl rfl rfl rfl rfl ?_
    refine l_loadN (i := 1) (vs := [_, _]) Try.isAgg25 Try.sizeOf25 rfl rfl rfl rfl rfl ?_
    refine l_val rfl rfl rfl (r_eqlA (xs := #[_, _]) (ys := #[_, _]) Try.eqGuardType25 (fun w => eqv25 w _ _ _ _) rfl rfl) ?_
    refine splitD (fun h2 => ?_) (fun h2 => ?_)
    · refine l_val rfl rfl rfl (r_move (v := .bool _) rfl) ?_
      refine l_val rfl rfl rfl (r_move (v := .int _ _) rfl) ?_
      refine l_val rfl rfl rfl (r_move (v := .int _ _) rfl) ?_
      refine l_val rfl rfl rfl (r_eql rfl rfl) ?_
      refine l_val rfl rfl rfl (r_pickT (v := .bool _) rfl rfl) ?_
      refine l_val rfl rfl rfl (r_assign (v := .bool _) rfl) ?_
      refine l_nil ?_
      refine c_ret ?_
      refine ret1 (v := .bool _) rfl rfl (fin ?_)
      simp_all
    · refine l_val rfl rfl rfl (r_move (v := .bool _) rfl) ?_
      refine l_passed rfl rfl rfl ?_
      refine l_passed rfl rfl rfl ?_
      refine l_passed rfl rfl rfl ?_
      refine l_val rfl rfl rfl (r_pickF (v := .bool _) rfl rfl) ?_
      refine l_val rfl rfl rfl (r_assign (v := .bool _) rfl) ?_
      refine l_nil ?_
      refine c_ret ?_
      refine ret1 (v := .bool _) rfl rfl (fin ?_)
      simp_all
  · refine l_nil ?_
    refine c_false rfl ?_
    refine c_skip ?_
    refine c_seq ?_
    refine c_region ?_
    refine l_loadN (i := 0) (vs := [_, _]) Try.isAgg25 Try.sizeOf25 rfl rfl rfl rfl rfl ?_
    refine l_loadN (i := 1) (vs := [_, _]) Try.isAgg25 Try.sizeOf25 rfl rfl rfl rfl rfl ?_
    refine l_val rfl rfl rfl (r_eqlA (xs := #[_, _]) (ys := #[_, _]) Try.eqGuardType25 (fun w => eqv25 w _ _ _ _) rfl rfl) ?_
    refine splitD (fun h3 => ?_) (fun h3 => ?_)
    · refine l_val rfl rfl rfl (r_move (v := .bool _) rfl) ?_
      refine l_val rfl rfl rfl (r_move (v := .int _ _) rfl) ?_
      refine l_val rfl rfl rfl (r_move (v := .int _ _) rfl) ?_
      refine l_val rfl rfl rfl (r_eql rfl rfl) ?_
      refine l_val rfl rfl rfl (r_pickT (v := .bool _) rfl rfl) ?_
      refine l_val rfl rfl rfl (r_assign (v := .bool _) rfl) ?_
      refine l_nil ?_
      refine c_ret ?_
      refine ret1 (v := .bool _) rfl rfl (fin ?_)
      simp_all
    · refine l_val rfl rfl rfl (r_move (v := .bool _) rfl) ?_
      refine l_passed rfl rfl rfl ?_
      refine l_passed rfl rfl rfl ?_
      refine l_passed rfl rfl rfl ?_
      refine l_val rfl rfl rfl (r_pickF (v := .bool _) rfl rfl) ?_
      refine l_val rfl rfl rfl (r_assign (v := .bool _) rfl) ?_
      refine l_nil ?_
      refine c_ret ?_
      refine ret1 (v := .bool _) rfl rfl (fin ?_)
      simp_all

end Go.Proofs.Ytfgehlmdcllclaa
