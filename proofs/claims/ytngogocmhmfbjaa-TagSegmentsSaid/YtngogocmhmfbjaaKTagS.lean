/- TagSegments: the walks, printed by our generator; each follows its model. Conditions: the model yields a value. -/
import Derived.Test.YtngogocmhmfbjaaMTagS
import Derived.Test.YtngogocmhmfbjaaProg
import Derived.Test.YtngogocmhmfbjaaLx3
namespace Go.Proofs.Ytngogocmhmfbjaa
open Go Go.Vc Go.Md Go.M Go.Lx
set_option maxRecDepth 100000
set_option maxHeartbeats 4000000
set_option linter.unusedVariables false

theorem mixed : Try.prog.follows .mixedOrders = true := by kernel_rfl

abbrev e_tag_Segment (x : T_tag_Segment) : List Value := [.int .i64 x.Kind, str x.Text]
abbrev e_u8 (x : Int) : List Value := [.int .u8 x]

theorem run_eq_tag_Segment_d (d : Nat) (w : World) (a0 b0 : Int) (a1 b1 : (List UInt8)) : (Op.equalIn (d + 2) 55 (.agg #[.int .i64 a0, str a1]) (.agg #[.int .i64 b0, str b1])).run Try.prog w = .ok (decide (a0 = b0 ∧ a1 = b1)) w := by
  rw [run_equalIn_struct w (d + 1) 55 _ _ (by simp only [Program.fieldsOf, Try.underlying55]) Try.stoodInHeld55]
  simp only [Program.fieldsOf, Try.underlying55, Op.eqFields]
  simp [part, run_equalIn_int, run_equalIn_strL, run_equalIn_bool', Try.underlying3, Try.underlying9]
  repeat' split
  all_goals simp_all
theorem run_eq_tag_Segment (w : World) (x y : T_tag_Segment) : (Op.equalIn Op.maxDepth 55 (.agg #[.int .i64 x.Kind, str x.Text]) (.agg #[.int .i64 y.Kind, str y.Text])).run Try.prog w = .ok (eq_tag_Segment x y) w :=
  run_eq_tag_Segment_d 9998 w _ _ _ _

theorem k84 {a0 : Int} {a1 : Int} {a2 : Int} {r : Bool} (H : tag_outside a0 a1 a2 = some r) : Ret Try.prog 84 [.int .i64 a0, .int .i64 a1, .int .i64 a2] (.bool r) := by
  refine enterRet (n := 15) Try.func84 rfl rfl rfl (fun wd => ?_)
  refine c_seq ?_
  refine c_region ?_
  refine l_val rfl rfl rfl (r_assign (v := .bool false) rfl) ?_
  refine l_nil ?_
  refine c_seq ?_
  refine c_region ?_
  refine l_val rfl rfl rfl (r_move (v := .int .i64 a0) rfl) ?_
  refine l_val rfl rfl rfl (r_move (v := .int .i64 a1) rfl) ?_
  refine l_val rfl rfl rfl (r_lss rfl rfl) ?_
  refine l_val rfl rfl rfl (r_move (v := .bool (decide (a0 < a1))) rfl) ?_
  refine split (fun hb => ?_) (fun hb => ?_)
  · have H3 := cnd_t hb H; clear H
    refine l_passed rfl rfl rfl ?_
    refine l_passed rfl rfl rfl ?_
    refine l_passed rfl rfl rfl ?_
    refine l_val rfl rfl rfl (r_pickT (v := .bool true) rfl rfl) ?_
    refine l_val rfl rfl rfl (r_assign (v := .bool true) rfl) ?_
    refine l_nil ?_
    refine c_ret ?_
    obtain rfl := Option.some.inj H3
    refine ret1 (v := .bool true) rfl rfl (fin rfl)
  · have H4 := cnd_f hb H; clear H
    refine l_val rfl rfl rfl (r_move (v := .int .i64 a0) rfl) ?_
    refine l_val rfl rfl rfl (r_move (v := .int .i64 a2) rfl) ?_
    refine l_val rfl rfl rfl (r_gtr rfl rfl) ?_
    refine l_val rfl rfl rfl (r_pickF (v := .bool (decide (a2 < a0))) rfl rfl) ?_
    refine l_val rfl rfl rfl (r_assign (v := .bool (decide (a2 < a0))) rfl) ?_
    refine l_nil ?_
    refine c_ret ?_
    obtain rfl := Option.some.inj H4
    refine ret1 (v := .bool (decide (a2 < a0))) rfl rfl (fin rfl)
theorem k90 {a0 : Int} {r : Bool} (H : tag_isKind a0 = some r) : Ret Try.prog 90 [.int .i64 a0] (.bool r) := by
  refine enterRet (n := 14) Try.func90 rfl rfl rfl (fun wd => ?_)
  refine c_seq ?_
  refine c_region ?_
  refine l_val rfl rfl rfl (r_assign (v := .bool false) rfl) ?_
  refine l_nil ?_
  refine c_seq ?_
  refine c_region ?_
  refine l_val rfl rfl rfl (r_move (v := .int .i64 a0) rfl) ?_
  obtain ⟨t4, h_t4, H6⟩ := bnd_some H; clear H
  refine l_call (k84 h_t4) Try.call84 rfl rfl rfl ?_
  refine l_val rfl rfl rfl (r_not rfl) ?_
  refine l_val rfl rfl rfl (r_move (v := .bool (!t4)) rfl) ?_
  refine split (fun hb => ?_) (fun hb => ?_)
  · have H7 := cnd_t hb H6; clear H6
    refine l_val rfl rfl rfl (r_move (v := .int .i64 a0) rfl) ?_
    refine l_val rfl rfl rfl (r_neq rfl rfl) ?_
    refine l_val rfl rfl rfl (r_pickT (v := .bool (decide (a0 ≠ 216))) rfl rfl) ?_
    refine l_val rfl rfl rfl (r_move (v := .bool (decide (a0 ≠ 216))) rfl) ?_
    refine split (fun hb => ?_) (fun hb => ?_)
    · have H8 := cnd_t hb H7; clear H7
      refine l_val rfl rfl rfl (r_move (v := .int .i64 a0) rfl) ?_
      refine l_val rfl rfl rfl (r_neq rfl rfl) ?_
      refine l_val rfl rfl rfl (r_pickT (v := .bool (decide (a0 ≠ 217))) rfl rfl) ?_
      refine l_val rfl rfl rfl (r_assign (v := .bool (decide (a0 ≠ 217))) rfl) ?_
      refine l_nil ?_
      refine c_ret ?_
      obtain rfl := Option.some.inj H8
      refine ret1 (v := .bool (decide (a0 ≠ 217))) rfl rfl (fin rfl)
    · have H9 := cnd_f hb H7; clear H7
      refine l_passed rfl rfl rfl ?_
      refine l_passed rfl rfl rfl ?_
      refine l_val rfl rfl rfl (r_pickF (v := .bool false) rfl rfl) ?_
      refine l_val rfl rfl rfl (r_assign (v := .bool false) rfl) ?_
      refine l_nil ?_
      refine c_ret ?_
      obtain rfl := Option.some.inj H9
      refine ret1 (v := .bool false) rfl rfl (fin rfl)
  · have H10 := cnd_f hb H6; clear H6
    refine l_passed rfl rfl rfl ?_
    refine l_passed rfl rfl rfl ?_
    refine l_val rfl rfl rfl (r_pickF (v := .bool false) rfl rfl) ?_
    refine l_val rfl rfl rfl (r_move (v := .bool false) rfl) ?_
    refine l_passed rfl rfl rfl ?_
    refine l_passed rfl rfl rfl ?_
    refine l_val rfl rfl rfl (r_pickF (v := .bool false) rfl rfl) ?_
    refine l_val rfl rfl rfl (r_assign (v := .bool false) rfl) ?_
    refine l_nil ?_
    refine c_ret ?_
    obtain rfl := Option.some.inj H10
    refine ret1 (v := .bool false) rfl rfl (fin rfl)
theorem k91 {a : Option Addr} {n c : Nat} (hc : n ≤ c) : Ret Try.prog 91 [.slice a n c] (.slice (cutA a 0 n 2) n n) := by
  refine enterRet (n := 9) Try.func91 rfl rfl rfl (fun wd => ?_)
  refine c_seq ?_
  refine c_region ?_
  refine l_val rfl rfl rfl (r_assign (v := .slice none 0 0) rfl) ?_
  refine l_nil ?_
  refine c_seq ?_
  refine c_region ?_
  refine l_val rfl rfl rfl (r_move (v := .slice a n c) rfl) ?_
  refine l_val rfl rfl rfl (r_move (v := .slice a n c) rfl) ?_
  refine l_val rfl rfl rfl (r_len Try.underlying48 rfl) ?_
  refine l_val rfl rfl rfl (r_move (v := .slice a n c) rfl) ?_
  refine l_val rfl rfl rfl (r_len Try.underlying48 rfl) ?_
  refine l_val rfl rfl rfl (r_sliceHM (a := a) (m := n) (c := c) (h := (n : Int)) (q := (n : Int)) Try.underlying48 Try.sizeOf55 rfl rfl rfl (Int.natCast_nonneg n) (Int.le_refl _) (Int.ofNat_le.2 hc)) ?_
  refine l_val rfl rfl rfl (r_assign (v := .slice (cutA a 0 n 2) n n) rfl) ?_
  refine l_nil ?_
  refine c_ret ?_
  exact ret1 (v := .slice (cutA a 0 n 2) n n) rfl rfl (fin rfl)

theorem k27 {a0 : (List UInt8)} {r : (List T_tag_Segment) × Int} {w : World} {h : Heap} (hw : Know h w noS)  (H : tag_Segments a0 = some r) : Does Try.prog 27 (List.toArray [str a0]) w (fun v w' => ∃ x : (Option Addr × Nat), v = (.tuple #[.slice x.1 r.1.length x.2, .int .i64 r.2]) ∧ Turn w w' noS (roV 2 (.slice x.1 r.1.length x.2) r.1.length (r.1.map e_tag_Segment))) := by
  refine enter (n := 98) Try.func27 rfl rfl rfl noS [] (Sat.nil _ _) ?_
  refine c_seq ?_
  refine c_region ?_
  refine l_val rfl rfl rfl (r_assign (v := .slice none 0 0) rfl) ?_
  refine l_val rfl rfl rfl (r_assign (v := .int .i64 0) rfl) ?_
  refine l_nil ?_
  refine c_seq ?_
  refine c_seq ?_
  refine c_region ?_
  refine l_val rfl rfl rfl (r_move (v := str a0) rfl) ?_
  refine l_val rfl rfl rfl (r_lenT Try.underlying9 rfl) ?_
  refine l_val rfl rfl rfl (r_gtr rfl rfl) ?_
  refine l_nil ?_
  refine c_if (b := (decide (200000 < (a0.length : Int)))) rfl (fun hb => ?_) (fun hb => ?_)
  · have H53 := cnd_t hb H; clear H
    refine c_seq ?_
    refine c_region ?_
    refine l_val rfl rfl rfl (r_assign (v := .slice none 0 0) rfl) ?_
    refine l_val rfl rfl rfl (r_assign (v := .int .i64 4) rfl) ?_
    refine l_nil ?_
    refine c_ret ?_
    refine c_nilRow 55 2 ?_
    obtain rfl := Option.some.inj H53
    refine c_imp 0 rfl (row_ro _ _ _ _ _) ?_
    refine ret2 (v1 := .slice ((none, 0) : Option Addr × Nat).1 ([] : List T_tag_Segment).length ((none, 0) : Option Addr × Nat).2) (v2 := .int .i64 4) rfl rfl rfl (finX ((none, 0) : Option Addr × Nat) (i := 0) rfl rfl (Imp.refl _))
  · have H54 := cnd_f hb H; clear H
    refine c_skip ?_
    refine c_seq ?_
    refine c_seq ?_
    refine c_region ?_
    refine l_val rfl rfl rfl (r_move (v := str a0) rfl) ?_
    refine l_val rfl rfl rfl (r_lenT Try.underlying9 rfl) ?_
    refine l_val rfl rfl rfl (r_lss rfl rfl) ?_
    refine l_val rfl rfl rfl (r_move (v := .bool (decide ((a0.length : Int) < 2))) rfl) ?_
    refine split (fun hb => ?_) (fun hb => ?_)
    · have H55 := cnd_t hb H54; clear H54
      refine l_passed rfl rfl rfl ?_
      refine l_passed rfl rfl rfl ?_
      refine l_passed rfl rfl rfl ?_
      refine l_val rfl rfl rfl (r_pickT (v := .bool true) rfl rfl) ?_
      refine l_nil ?_
      refine c_true rfl ?_
      refine c_seq ?_
      refine c_region ?_
      refine l_val rfl rfl rfl (r_assign (v := .slice none 0 0) rfl) ?_
      refine l_val rfl rfl rfl (r_assign (v := .int .i64 8) rfl) ?_
      refine l_nil ?_
      refine c_ret ?_
      refine c_nilRow 55 2 ?_
      obtain rfl := Option.some.inj H55
      refine c_imp 0 rfl (row_ro _ _ _ _ _) ?_
      refine ret2 (v1 := .slice ((none, 0) : Option Addr × Nat).1 ([] : List T_tag_Segment).length ((none, 0) : Option Addr × Nat).2) (v2 := .int .i64 8) rfl rfl rfl (finX ((none, 0) : Option Addr × Nat) (i := 0) rfl rfl (Imp.refl _))
    · have H56 := cnd_f hb H54; clear H54
      refine l_val rfl rfl rfl (r_move (v := str a0) rfl) ?_
      obtain ⟨t15, h_t15, H57⟩ := bnd_some H56; clear H56
      refine l_val rfl rfl rfl (r_cutToG Try.underlying9 rfl rfl h_t15) ?_
      refine l_val rfl rfl rfl (r_neqT rfl rfl) ?_
      refine l_val rfl rfl rfl (r_pickF (v := .bool (decide (t15 ≠ [255, 216]))) rfl rfl) ?_
      refine l_nil ?_
      refine c_if (b := (decide (t15 ≠ [255, 216]))) rfl (fun hb => ?_) (fun hb => ?_)
      · have H58 := cnd_t hb H57; clear H57
        refine c_seq ?_
        refine c_region ?_
        refine l_val rfl rfl rfl (r_assign (v := .slice none 0 0) rfl) ?_
        refine l_val rfl rfl rfl (r_assign (v := .int .i64 8) rfl) ?_
        refine l_nil ?_
        refine c_ret ?_
        refine c_nilRow 55 2 ?_
        obtain rfl := Option.some.inj H58
        refine c_imp 0 rfl (row_ro _ _ _ _ _) ?_
        refine ret2 (v1 := .slice ((none, 0) : Option Addr × Nat).1 ([] : List T_tag_Segment).length ((none, 0) : Option Addr × Nat).2) (v2 := .int .i64 8) rfl rfl rfl (finX ((none, 0) : Option Addr × Nat) (i := 0) rfl rfl (Imp.refl _))
      · have H59 := cnd_f hb H57; clear H57
        refine c_skip ?_
        refine c_seq ?_
        refine c_region ?_
        refine l_val rfl rfl rfl (r_assign (v := .slice none 0 0) rfl) ?_
        refine l_nil ?_
        refine c_meet (r := r) (σ := (List UInt8) × (List T_tag_Segment)) (τ := (Option Addr × Nat)) (fun s => tag_Segments_j1 s.1 s.2) (fun s t => [(0, str s.1), (4, .slice t.1 s.2.length t.2)]) (fun s t => [rowV 55 2 (.slice t.1 s.2.length t.2) s.2.length (s.2.map e_tag_Segment)]) (fun s t => True) ?_ ?_
        · refine c_seq ?_
          refine c_region ?_
          refine l_val rfl rfl rfl (r_move (v := str a0) rfl) ?_
          obtain ⟨t19, h_t19, H72⟩ := bnd_some H59; clear H59
          refine l_val rfl rfl rfl (r_cutFromG Try.underlying9 rfl rfl h_t19) ?_
          refine l_val rfl rfl rfl (r_assign (v := str t19) rfl) ?_
          refine l_nil ?_
          refine c_block ?_
          refine c_nilRow 55 2 ?_
          refine c_fix (σ := (List UInt8) × (List T_tag_Segment)) (τ := (Option Addr × Nat)) (fun next2 s => tag_Segments_l2 next2 s.1 s.2) (fun s t => [(0, str s.1), (4, .slice t.1 s.2.length t.2)]) (fun s t => [rowV 55 2 (.slice t.1 s.2.length t.2) s.2.length (s.2.map e_tag_Segment)]) (fun s t => True) (t19, ([] : List T_tag_Segment)) ((none, 0) : Option Addr × Nat) [0] H72 (by exact trivial) (by exact ⟨rfl, rfl, trivial⟩) (by decide) rfl ?_
          rintro ⟨x0_3, l_3⟩ p_3 m2 gg H73 _
          clear H72
          replace H73 : tag_Segments_l2 (it (fun next2 s => tag_Segments_l2 next2 s.1 s.2) m2) x0_3 l_3 = some r := H73
          generalize hn2 : it (fun next2 s => tag_Segments_l2 next2 s.1 s.2) m2 = next2 at H73
          refine c_tidyF [(0, str x0_3), (4, .slice p_3.1 l_3.length p_3.2)] [rowV 55 2 (.slice p_3.1 l_3.length p_3.2) l_3.length (l_3.map e_tag_Segment)] rfl rfl ?_
          refine c_block ?_
          refine c_seq ?_
          refine c_seq ?_
          refine c_region ?_
          refine l_val rfl rfl rfl (r_move (v := str x0_3) rfl) ?_
          refine l_val rfl rfl rfl (r_lenT Try.underlying9 rfl) ?_
          refine l_val rfl rfl rfl (r_lss rfl rfl) ?_
          refine l_val rfl rfl rfl (r_move (v := .bool (decide ((x0_3.length : Int) < 2))) rfl) ?_
          refine split (fun hb => ?_) (fun hb => ?_)
          · have H74 := cnd_t hb H73; clear H73
            refine l_passed rfl rfl rfl ?_
            refine l_passed rfl rfl rfl ?_
            refine l_passed rfl rfl rfl ?_
            refine l_val rfl rfl rfl (r_pickT (v := .bool true) rfl rfl) ?_
            refine l_val rfl rfl rfl (r_move (v := .bool true) rfl) ?_
            refine l_passed rfl rfl rfl ?_
            refine l_passed rfl rfl rfl ?_
            refine l_passed rfl rfl rfl ?_
            refine l_passed rfl rfl rfl ?_
            refine l_passed rfl rfl rfl ?_
            refine l_val rfl rfl rfl (r_pickT (v := .bool true) rfl rfl) ?_
            refine l_nil ?_
            refine c_true rfl ?_
            refine c_seq ?_
            refine c_region ?_
            refine l_val rfl rfl rfl (r_assign (v := .slice none 0 0) rfl) ?_
            refine l_val rfl rfl rfl (r_assign (v := .int .i64 8) rfl) ?_
            refine l_nil ?_
            refine c_ret ?_
            refine c_nilRow 55 2 ?_
            obtain rfl := Option.some.inj H74
            refine c_imp 1 rfl (row_ro _ _ _ _ _) ?_
            refine ret2 (v1 := .slice ((none, 0) : Option Addr × Nat).1 ([] : List T_tag_Segment).length ((none, 0) : Option Addr × Nat).2) (v2 := .int .i64 8) rfl rfl rfl (finX ((none, 0) : Option Addr × Nat) (i := 1) rfl rfl (Imp.refl _))
          · have H75 := cnd_f hb H73; clear H73
            refine l_val rfl rfl rfl (r_move (v := str x0_3) rfl) ?_
            obtain ⟨t25, h_t25, H76⟩ := bnd_some H75; clear H75
            refine l_val rfl rfl rfl (r_octG Try.underlying9 rfl rfl h_t25) ?_
            refine l_val rfl rfl rfl (r_neq rfl rfl) ?_
            refine l_val rfl rfl rfl (r_pickF (v := .bool (decide (t25 ≠ 255))) rfl rfl) ?_
            refine l_val rfl rfl rfl (r_move (v := .bool (decide (t25 ≠ 255))) rfl) ?_
            refine split (fun hb => ?_) (fun hb => ?_)
            · have H77 := cnd_t hb H76; clear H76
              refine l_passed rfl rfl rfl ?_
              refine l_passed rfl rfl rfl ?_
              refine l_passed rfl rfl rfl ?_
              refine l_passed rfl rfl rfl ?_
              refine l_passed rfl rfl rfl ?_
              refine l_val rfl rfl rfl (r_pickT (v := .bool true) rfl rfl) ?_
              refine l_nil ?_
              refine c_true rfl ?_
              refine c_seq ?_
              refine c_region ?_
              refine l_val rfl rfl rfl (r_assign (v := .slice none 0 0) rfl) ?_
              refine l_val rfl rfl rfl (r_assign (v := .int .i64 8) rfl) ?_
              refine l_nil ?_
              refine c_ret ?_
              refine c_nilRow 55 2 ?_
              obtain rfl := Option.some.inj H77
              refine c_imp 1 rfl (row_ro _ _ _ _ _) ?_
              refine ret2 (v1 := .slice ((none, 0) : Option Addr × Nat).1 ([] : List T_tag_Segment).length ((none, 0) : Option Addr × Nat).2) (v2 := .int .i64 8) rfl rfl rfl (finX ((none, 0) : Option Addr × Nat) (i := 1) rfl rfl (Imp.refl _))
            · have H78 := cnd_f hb H76; clear H76
              refine l_val rfl rfl rfl (r_move (v := str x0_3) rfl) ?_
              obtain ⟨t30, h_t30, H79⟩ := bnd_some H78; clear H78
              refine l_val rfl rfl rfl (r_octG Try.underlying9 rfl rfl h_t30) ?_
              obtain ⟨t31, h_t31, H80⟩ := bnd_some H79; clear H79
              refine l_val rfl rfl rfl (r_convG Try.runUnderlying5 Try.runUnderlying3 rfl (gK_i64 h_t31)) ?_
              obtain ⟨t32, h_t32, H81⟩ := bnd_some H80; clear H80
              refine l_call (k90 h_t32) Try.call90 rfl rfl rfl ?_
              refine l_val rfl rfl rfl (r_not rfl) ?_
              refine l_val rfl rfl rfl (r_pickF (v := .bool (!t32)) rfl rfl) ?_
              refine l_nil ?_
              refine c_if (b := (!t32)) rfl (fun hb => ?_) (fun hb => ?_)
              · have H82 := cnd_t hb H81; clear H81
                refine c_seq ?_
                refine c_region ?_
                refine l_val rfl rfl rfl (r_assign (v := .slice none 0 0) rfl) ?_
                refine l_val rfl rfl rfl (r_assign (v := .int .i64 8) rfl) ?_
                refine l_nil ?_
                refine c_ret ?_
                refine c_nilRow 55 2 ?_
                obtain rfl := Option.some.inj H82
                refine c_imp 1 rfl (row_ro _ _ _ _ _) ?_
                refine ret2 (v1 := .slice ((none, 0) : Option Addr × Nat).1 ([] : List T_tag_Segment).length ((none, 0) : Option Addr × Nat).2) (v2 := .int .i64 8) rfl rfl rfl (finX ((none, 0) : Option Addr × Nat) (i := 1) rfl rfl (Imp.refl _))
              · have H83 := cnd_f hb H81; clear H81
                refine c_skip ?_
                refine c_seq ?_
                refine c_region ?_
                refine l_val rfl rfl rfl (r_move (v := str x0_3) rfl) ?_
                obtain ⟨t36, h_t36, H84⟩ := bnd_some H83; clear H83
                refine l_val rfl rfl rfl (r_octG Try.underlying9 rfl rfl h_t36) ?_
                obtain ⟨t37, h_t37, H85⟩ := bnd_some H84; clear H84
                refine l_val rfl rfl rfl (r_convG Try.runUnderlying5 Try.runUnderlying3 rfl (gK_i64 h_t37)) ?_
                refine l_val rfl rfl rfl (r_assign (v := .int .i64 t37) rfl) ?_
                refine l_nil ?_
                refine c_seq ?_
                refine c_seq ?_
                refine c_region ?_
                refine l_val rfl rfl rfl (r_move (v := .int .i64 t37) rfl) ?_
                refine l_val rfl rfl rfl (r_eql rfl rfl) ?_
                refine l_nil ?_
                refine c_if (b := (decide (t37 = 218))) rfl (fun hb => ?_) (fun hb => ?_)
                · have H86 := cnd_t hb H85; clear H85
                  refine c_exit ?_
                  refine c_close (x0_3, l_3) p_3 0 [0] (by exact ⟨rfl, rfl, trivial⟩) (by decide) rfl (by exact ⟨H86, trivial⟩) (Nat.lt_succ_self _)
                · have H87 := cnd_f hb H85; clear H85
                  refine c_skip ?_
                  refine c_seq ?_
                  refine c_seq ?_
                  refine c_region ?_
                  refine l_val rfl rfl rfl (r_move (v := str x0_3) rfl) ?_
                  refine l_val rfl rfl rfl (r_lenT Try.underlying9 rfl) ?_
                  refine l_val rfl rfl rfl (r_lss rfl rfl) ?_
                  refine l_nil ?_
                  refine c_if (b := (decide ((x0_3.length : Int) < 4))) rfl (fun hb => ?_) (fun hb => ?_)
                  · have H88 := cnd_t hb H87; clear H87
                    refine c_seq ?_
                    refine c_region ?_
                    refine l_val rfl rfl rfl (r_assign (v := .slice none 0 0) rfl) ?_
                    refine l_val rfl rfl rfl (r_assign (v := .int .i64 8) rfl) ?_
                    refine l_nil ?_
                    refine c_ret ?_
                    refine c_nilRow 55 2 ?_
                    obtain rfl := Option.some.inj H88
                    refine c_imp 1 rfl (row_ro _ _ _ _ _) ?_
                    refine ret2 (v1 := .slice ((none, 0) : Option Addr × Nat).1 ([] : List T_tag_Segment).length ((none, 0) : Option Addr × Nat).2) (v2 := .int .i64 8) rfl rfl rfl (finX ((none, 0) : Option Addr × Nat) (i := 1) rfl rfl (Imp.refl _))
                  · have H89 := cnd_f hb H87; clear H87
                    refine c_skip ?_
                    refine c_seq ?_
                    exact c_regionD (Kd.p :: Kd.p :: Kd.p :: Kd.p :: Kd.p :: Kd.p :: Kd.p :: Kd.p :: Kd.p :: []) 0 mixed (by
                      refine d_val rfl rfl (r_move (v := str x0_3) rfl) ?_
                      have h_t44 := bnd_val H89
                      have H90 := bnd_rest H89
                      refine d_val rfl rfl (r_octG Try.underlying9 rfl rfl h_t44) ?_
                      have h_t45 := bnd_val H90
                      have H91 := bnd_rest H90
                      refine d_val rfl rfl (r_convG Try.runUnderlying5 Try.runUnderlying3 rfl (gK_i64 h_t45)) ?_
                      have h_t46 := bnd_val H91
                      have H92 := bnd_rest H91
                      refine d_val rfl rfl (r_shlG rfl rfl h_t46) ?_
                      refine d_val rfl rfl (r_move (v := str x0_3) rfl) ?_
                      have h_t48 := bnd_val H92
                      have H93 := bnd_rest H92
                      refine d_val rfl rfl (r_octG Try.underlying9 rfl rfl h_t48) ?_
                      have h_t49 := bnd_val H93
                      have H94 := bnd_rest H93
                      refine d_val rfl rfl (r_convG Try.runUnderlying5 Try.runUnderlying3 rfl (gK_i64 h_t49)) ?_
                      refine d_val rfl rfl (r_bitsOr (bits := 64) rfl rfl rfl (wr_i64 _)) ?_
                      refine d_val rfl rfl (r_assign (v := .int .i64 (wI64 (bOr 64 (val (gShl (val (gK (-9223372036854775808) 9223372036854775807 (val (gOct x0_3 2)))) 8)) (val (gK (-9223372036854775808) 9223372036854775807 (val (gOct x0_3 3))))))) rfl) ?_
                      refine d_nil ?_
                      refine c_seq ?_
                      refine c_seq ?_
                      refine c_region ?_
                      refine l_val rfl rfl rfl (r_move (v := .int .i64 (wI64 (bOr 64 (val (gShl (val (gK (-9223372036854775808) 9223372036854775807 (val (gOct x0_3 2)))) 8)) (val (gK (-9223372036854775808) 9223372036854775807 (val (gOct x0_3 3))))))) rfl) ?_
                      refine l_val rfl rfl rfl (r_lss rfl rfl) ?_
                      refine l_val rfl rfl rfl (r_move (v := .bool (decide ((wI64 (bOr 64 (val (gShl (val (gK (-9223372036854775808) 9223372036854775807 (val (gOct x0_3 2)))) 8)) (val (gK (-9223372036854775808) 9223372036854775807 (val (gOct x0_3 3)))))) < 2))) rfl) ?_
                      refine split (fun hb => ?_) (fun hb => ?_)
                      · have H95 := cnd_t hb H94; clear H94
                        refine l_passed rfl rfl rfl ?_
                        refine l_passed rfl rfl rfl ?_
                        refine l_passed rfl rfl rfl ?_
                        refine l_passed rfl rfl rfl ?_
                        refine l_passed rfl rfl rfl ?_
                        refine l_val rfl rfl rfl (r_pickT (v := .bool true) rfl rfl) ?_
                        refine l_nil ?_
                        refine c_true rfl ?_
                        refine c_seq ?_
                        refine c_region ?_
                        refine l_val rfl rfl rfl (r_assign (v := .slice none 0 0) rfl) ?_
                        refine l_val rfl rfl rfl (r_assign (v := .int .i64 8) rfl) ?_
                        refine l_nil ?_
                        refine c_ret ?_
                        refine c_nilRow 55 2 ?_
                        obtain rfl := Option.some.inj H95
                        refine c_imp 1 rfl (row_ro _ _ _ _ _) ?_
                        refine ret2 (v1 := .slice ((none, 0) : Option Addr × Nat).1 ([] : List T_tag_Segment).length ((none, 0) : Option Addr × Nat).2) (v2 := .int .i64 8) rfl rfl rfl (finX ((none, 0) : Option Addr × Nat) (i := 1) rfl rfl (Imp.refl _))
                      · have H96 := cnd_f hb H94; clear H94
                        refine l_val rfl rfl rfl (r_move (v := .int .i64 (wI64 (bOr 64 (val (gShl (val (gK (-9223372036854775808) 9223372036854775807 (val (gOct x0_3 2)))) 8)) (val (gK (-9223372036854775808) 9223372036854775807 (val (gOct x0_3 3))))))) rfl) ?_
                        refine l_val rfl rfl rfl (r_move (v := str x0_3) rfl) ?_
                        refine l_val rfl rfl rfl (r_lenT Try.underlying9 rfl) ?_
                        obtain ⟨t57, h_t57, H97⟩ := bnd_some H96; clear H96
                        refine l_val rfl rfl rfl (r_subG rfl rfl h_t57) ?_
                        refine l_val rfl rfl rfl (r_gtr rfl rfl) ?_
                        refine l_val rfl rfl rfl (r_pickF (v := .bool (decide (t57 < (wI64 (bOr 64 (val (gShl (val (gK (-9223372036854775808) 9223372036854775807 (val (gOct x0_3 2)))) 8)) (val (gK (-9223372036854775808) 9223372036854775807 (val (gOct x0_3 3))))))))) rfl rfl) ?_
                        refine l_nil ?_
                        refine c_if (b := (decide (t57 < (wI64 (bOr 64 (val (gShl (val (gK (-9223372036854775808) 9223372036854775807 (val (gOct x0_3 2)))) 8)) (val (gK (-9223372036854775808) 9223372036854775807 (val (gOct x0_3 3))))))))) rfl (fun hb => ?_) (fun hb => ?_)
                        · have H98 := cnd_t hb H97; clear H97
                          refine c_seq ?_
                          refine c_region ?_
                          refine l_val rfl rfl rfl (r_assign (v := .slice none 0 0) rfl) ?_
                          refine l_val rfl rfl rfl (r_assign (v := .int .i64 8) rfl) ?_
                          refine l_nil ?_
                          refine c_ret ?_
                          refine c_nilRow 55 2 ?_
                          obtain rfl := Option.some.inj H98
                          refine c_imp 1 rfl (row_ro _ _ _ _ _) ?_
                          refine ret2 (v1 := .slice ((none, 0) : Option Addr × Nat).1 ([] : List T_tag_Segment).length ((none, 0) : Option Addr × Nat).2) (v2 := .int .i64 8) rfl rfl rfl (finX ((none, 0) : Option Addr × Nat) (i := 1) rfl rfl (Imp.refl _))
                        · have H99 := cnd_f hb H97; clear H97
                          refine c_skip ?_
                          refine c_seq ?_
                          refine c_region ?_
                          refine l_val rfl rfl rfl (r_move (v := .slice p_3.1 l_3.length p_3.2) rfl) ?_
                          refine l_val rfl rfl rfl (r_move (v := .int .i64 t37) rfl) ?_
                          refine l_val rfl rfl rfl (r_move (v := str x0_3) rfl) ?_
                          refine l_val rfl rfl rfl (r_move (v := .int .i64 (wI64 (bOr 64 (val (gShl (val (gK (-9223372036854775808) 9223372036854775807 (val (gOct x0_3 2)))) 8)) (val (gK (-9223372036854775808) 9223372036854775807 (val (gOct x0_3 3))))))) rfl) ?_
                          obtain ⟨t64, h_t64, H100⟩ := bnd_some H99; clear H99
                          refine l_val rfl rfl rfl (r_addG rfl rfl h_t64) ?_
                          obtain ⟨t65, h_t65, H101⟩ := bnd_some H100; clear H100
                          refine l_val rfl rfl rfl (r_cutTG Try.underlying9 rfl rfl rfl h_t65) ?_
                          refine l_val rfl rfl rfl (r_build (pl := #[(0, 1), (1, 1)]) (ps := [(0, .int .i64 t37), (1, str t65)]) (cells := #[.int .i64 t37, str t65]) Try.zeroValue55 Try.runUnderlying55 (fun w => by kernel_rfl) rfl rfl) ?_
                          refine l_buildSlice (vs := [.agg #[.int .i64 t37, str t65]]) (cs := [.int .i64 t37, str t65]) Try.underlying48 Try.sizeOf55 Try.zeroValue55 rfl rfl rfl rfl rfl rfl rfl (fun b3 => ?_)
                          obtain ⟨l68, h_l68, H102⟩ := bnd_some H101; clear H101
                          refine l_turn (turns_appG (i := 0) (hn := rfl) (rds := [1]) (p := p_3) (sz := 2) (by_ := 24) (f := e_tag_Segment) (ys := l_3) (ls := ([(⟨t37, t65⟩ : T_tag_Segment)] : List T_tag_Segment)) (V := .slice (some ⟨b3, 0, none⟩) 1 1) Try.underlying48 (info_of Try.typeInfo55) rfl rfl rfl rfl rfl rfl rfl rfl rfl rfl (fun w L' hF hS hi => row_box (i := 1) hS ((hi 1 (by simp)).trans rfl) rfl rfl) (fun _ => rfl) (fun _ => rfl) h_l68) rfl rfl rfl (fun p_4 => ?_)
                          refine l_val rfl rfl rfl (r_assign (v := .slice p_4.1 l68.length p_4.2) rfl) ?_
                          refine l_nil ?_
                          refine c_region ?_
                          refine l_val rfl rfl rfl (r_move (v := str x0_3) rfl) ?_
                          refine l_val rfl rfl rfl (r_move (v := .int .i64 (wI64 (bOr 64 (val (gShl (val (gK (-9223372036854775808) 9223372036854775807 (val (gOct x0_3 2)))) 8)) (val (gK (-9223372036854775808) 9223372036854775807 (val (gOct x0_3 3))))))) rfl) ?_
                          obtain ⟨t71, h_t71, H103⟩ := bnd_some H102; clear H102
                          refine l_val rfl rfl rfl (r_addG rfl rfl h_t71) ?_
                          obtain ⟨t72, h_t72, H104⟩ := bnd_some H103; clear H103
                          refine l_val rfl rfl rfl (r_cutFromG Try.underlying9 rfl rfl h_t72) ?_
                          refine l_val rfl rfl rfl (r_assign (v := str t72) rfl) ?_
                          refine l_nil ?_
                          refine c_close (t72, l68) p_4 m2 [0] (by exact ⟨rfl, rfl, trivial⟩) (by decide) rfl (by exact ⟨(by subst hn2; exact H104), trivial⟩) (Nat.lt_succ_self _)
                      ) (by kernel_rfl)
        · rintro ⟨x0, l⟩ p gg H60 _
          replace H60 : tag_Segments_j1 x0 l = some r := H60
          refine c_tidyF [(0, str x0), (4, .slice p.1 l.length p.2)] [rowV 55 2 (.slice p.1 l.length p.2) l.length (l.map e_tag_Segment)] rfl rfl ?_
          refine c_seq ?_
          refine c_seq ?_
          refine c_region ?_
          refine l_val rfl rfl rfl (r_move (v := str x0) rfl) ?_
          refine l_val rfl rfl rfl (r_lenT Try.underlying9 rfl) ?_
          refine l_val rfl rfl rfl (r_lss rfl rfl) ?_
          refine l_val rfl rfl rfl (r_move (v := .bool (decide ((x0.length : Int) < 4))) rfl) ?_
          refine split (fun hb => ?_) (fun hb => ?_)
          · have H61 := cnd_t hb H60; clear H60
            refine l_passed rfl rfl rfl ?_
            refine l_passed rfl rfl rfl ?_
            refine l_passed rfl rfl rfl ?_
            refine l_passed rfl rfl rfl ?_
            refine l_passed rfl rfl rfl ?_
            refine l_passed rfl rfl rfl ?_
            refine l_val rfl rfl rfl (r_pickT (v := .bool true) rfl rfl) ?_
            refine l_nil ?_
            refine c_true rfl ?_
            refine c_seq ?_
            refine c_region ?_
            refine l_val rfl rfl rfl (r_assign (v := .slice none 0 0) rfl) ?_
            refine l_val rfl rfl rfl (r_assign (v := .int .i64 8) rfl) ?_
            refine l_nil ?_
            refine c_ret ?_
            refine c_nilRow 55 2 ?_
            obtain rfl := Option.some.inj H61
            refine c_imp 1 rfl (row_ro _ _ _ _ _) ?_
            refine ret2 (v1 := .slice ((none, 0) : Option Addr × Nat).1 ([] : List T_tag_Segment).length ((none, 0) : Option Addr × Nat).2) (v2 := .int .i64 8) rfl rfl rfl (finX ((none, 0) : Option Addr × Nat) (i := 1) rfl rfl (Imp.refl _))
          · have H62 := cnd_f hb H60; clear H60
            refine l_val rfl rfl rfl (r_move (v := str x0) rfl) ?_
            refine l_val rfl rfl rfl (r_move (v := str x0) rfl) ?_
            refine l_val rfl rfl rfl (r_lenT Try.underlying9 rfl) ?_
            obtain ⟨t80, h_t80, H63⟩ := bnd_some H62; clear H62
            refine l_val rfl rfl rfl (r_subG rfl rfl h_t80) ?_
            obtain ⟨t81, h_t81, H64⟩ := bnd_some H63; clear H63
            refine l_val rfl rfl rfl (r_cutFromG Try.underlying9 rfl rfl h_t81) ?_
            refine l_val rfl rfl rfl (r_neqT rfl rfl) ?_
            refine l_val rfl rfl rfl (r_pickF (v := .bool (decide (t81 ≠ [255, 217]))) rfl rfl) ?_
            refine l_nil ?_
            refine c_if (b := (decide (t81 ≠ [255, 217]))) rfl (fun hb => ?_) (fun hb => ?_)
            · have H65 := cnd_t hb H64; clear H64
              refine c_seq ?_
              refine c_region ?_
              refine l_val rfl rfl rfl (r_assign (v := .slice none 0 0) rfl) ?_
              refine l_val rfl rfl rfl (r_assign (v := .int .i64 8) rfl) ?_
              refine l_nil ?_
              refine c_ret ?_
              refine c_nilRow 55 2 ?_
              obtain rfl := Option.some.inj H65
              refine c_imp 1 rfl (row_ro _ _ _ _ _) ?_
              refine ret2 (v1 := .slice ((none, 0) : Option Addr × Nat).1 ([] : List T_tag_Segment).length ((none, 0) : Option Addr × Nat).2) (v2 := .int .i64 8) rfl rfl rfl (finX ((none, 0) : Option Addr × Nat) (i := 1) rfl rfl (Imp.refl _))
            · have H66 := cnd_f hb H64; clear H64
              refine c_skip ?_
              refine c_seq ?_
              refine c_region ?_
              refine l_val rfl rfl rfl (r_move (v := .slice p.1 l.length p.2) rfl) ?_
              refine l_val rfl rfl rfl (r_move (v := str x0) rfl) ?_
              refine l_val rfl rfl rfl (r_move (v := str x0) rfl) ?_
              refine l_val rfl rfl rfl (r_lenT Try.underlying9 rfl) ?_
              obtain ⟨t88, h_t88, H67⟩ := bnd_some H66; clear H66
              refine l_val rfl rfl rfl (r_subG rfl rfl h_t88) ?_
              obtain ⟨t89, h_t89, H68⟩ := bnd_some H67; clear H67
              refine l_val rfl rfl rfl (r_cutTG Try.underlying9 rfl rfl rfl h_t89) ?_
              refine l_val rfl rfl rfl (r_build (pl := #[(0, 1), (1, 1)]) (ps := [(0, .int .i64 218), (1, str t89)]) (cells := #[.int .i64 218, str t89]) Try.zeroValue55 Try.runUnderlying55 (fun w => by kernel_rfl) rfl rfl) ?_
              refine l_buildSlice (vs := [.agg #[.int .i64 218, str t89]]) (cs := [.int .i64 218, str t89]) Try.underlying48 Try.sizeOf55 Try.zeroValue55 rfl rfl rfl rfl rfl rfl rfl (fun b2 => ?_)
              obtain ⟨l92, h_l92, H69⟩ := bnd_some H68; clear H68
              refine l_turn (turns_appG (i := 0) (hn := rfl) (rds := [1]) (p := p) (sz := 2) (by_ := 24) (f := e_tag_Segment) (ys := l) (ls := ([(⟨218, t89⟩ : T_tag_Segment)] : List T_tag_Segment)) (V := .slice (some ⟨b2, 0, none⟩) 1 1) Try.underlying48 (info_of Try.typeInfo55) rfl rfl rfl rfl rfl rfl rfl rfl rfl rfl (fun w L' hF hS hi => row_box (i := 1) hS ((hi 1 (by simp)).trans rfl) rfl rfl) (fun _ => rfl) (fun _ => rfl) h_l92) rfl rfl rfl (fun p_2 => ?_)
              refine l_val rfl rfl rfl (r_assign (v := .slice p_2.1 l92.length p_2.2) rfl) ?_
              refine l_nil ?_
              refine c_seq ?_
              refine c_seq ?_
              refine c_region ?_
              refine l_val rfl rfl rfl (r_move (v := .slice p_2.1 l92.length p_2.2) rfl) ?_
              refine l_val rfl rfl rfl (r_len Try.underlying48 rfl) ?_
              refine l_val rfl rfl rfl (r_gtr rfl rfl) ?_
              refine l_nil ?_
              refine c_if (b := (decide (200 < (l92.length : Int)))) rfl (fun hb => ?_) (fun hb => ?_)
              · have H70 := cnd_t hb H69; clear H69
                refine c_seq ?_
                refine c_region ?_
                refine l_val rfl rfl rfl (r_assign (v := .slice none 0 0) rfl) ?_
                refine l_val rfl rfl rfl (r_assign (v := .int .i64 4) rfl) ?_
                refine l_nil ?_
                refine c_ret ?_
                refine c_nilRow 55 2 ?_
                obtain rfl := Option.some.inj H70
                refine c_imp 2 rfl (row_ro _ _ _ _ _) ?_
                refine ret2 (v1 := .slice ((none, 0) : Option Addr × Nat).1 ([] : List T_tag_Segment).length ((none, 0) : Option Addr × Nat).2) (v2 := .int .i64 4) rfl rfl rfl (finX ((none, 0) : Option Addr × Nat) (i := 2) rfl rfl (Imp.refl _))
              · have H71 := cnd_f hb H69; clear H69
                refine c_skip ?_
                refine c_seq ?_
                refine c_region ?_
                refine l_val rfl rfl rfl (r_move (v := .slice p_2.1 l92.length p_2.2) rfl) ?_
                refine l_callG (fun w hF hS => k91 (capOf (i := 0) hS rfl) w) Try.call91 rfl rfl rfl ?_
                refine l_val rfl rfl rfl (r_assign (v := .slice (cutA p_2.1 0 l92.length 2) l92.length l92.length) rfl) ?_
                refine l_val rfl rfl rfl (r_assign (v := .int .i64 0) rfl) ?_
                refine l_nil ?_
                refine c_ret ?_
                obtain rfl := Option.some.inj H71
                refine c_imp 0 rfl (imp_clipO _ _ _ _ _ _) ?_
                refine ret2 (v1 := .slice (cutA p_2.1 0 l92.length 2) l92.length l92.length) (v2 := .int .i64 0) rfl rfl rfl (finX (cutA p_2.1 0 l92.length 2, l92.length) (i := 0) rfl rfl (Imp.refl _))
theorem k145 {a0 : (List UInt8)} {a1 : (List UInt8)} {r : Bool} (H : internal_stringslite_HasPrefix a0 a1 = some r) : Ret Try.prog 145 [str a0, str a1] (.bool r) := by
  refine enterRet (n := 18) Try.func145 rfl rfl rfl (fun wd => ?_)
  refine c_seq ?_
  refine c_region ?_
  refine l_val rfl rfl rfl (r_assign (v := .bool false) rfl) ?_
  refine l_nil ?_
  refine c_seq ?_
  refine c_region ?_
  refine l_val rfl rfl rfl (r_move (v := str a0) rfl) ?_
  refine l_val rfl rfl rfl (r_lenT Try.underlying9 rfl) ?_
  refine l_val rfl rfl rfl (r_move (v := str a1) rfl) ?_
  refine l_val rfl rfl rfl (r_lenT Try.underlying9 rfl) ?_
  refine l_val rfl rfl rfl (r_geq rfl rfl) ?_
  refine l_val rfl rfl rfl (r_move (v := .bool (decide ((a1.length : Int) ≤ (a0.length : Int)))) rfl) ?_
  refine split (fun hb => ?_) (fun hb => ?_)
  · have H4 := cnd_t hb H; clear H
    refine l_val rfl rfl rfl (r_move (v := str a0) rfl) ?_
    refine l_val rfl rfl rfl (r_move (v := str a1) rfl) ?_
    refine l_val rfl rfl rfl (r_lenT Try.underlying9 rfl) ?_
    obtain ⟨t14, h_t14, H5⟩ := bnd_some H4; clear H4
    refine l_val rfl rfl rfl (r_cutToG Try.underlying9 rfl rfl h_t14) ?_
    refine l_val rfl rfl rfl (r_move (v := str a1) rfl) ?_
    refine l_val rfl rfl rfl (r_eqlT rfl rfl) ?_
    refine l_val rfl rfl rfl (r_pickT (v := .bool (decide (t14 = a1))) rfl rfl) ?_
    refine l_val rfl rfl rfl (r_assign (v := .bool (decide (t14 = a1))) rfl) ?_
    refine l_nil ?_
    refine c_ret ?_
    obtain rfl := Option.some.inj H5
    refine ret1 (v := .bool (decide (t14 = a1))) rfl rfl (fin rfl)
  · have H6 := cnd_f hb H; clear H
    refine l_passed rfl rfl rfl ?_
    refine l_passed rfl rfl rfl ?_
    refine l_passed rfl rfl rfl ?_
    refine l_passed rfl rfl rfl ?_
    refine l_passed rfl rfl rfl ?_
    refine l_passed rfl rfl rfl ?_
    refine l_val rfl rfl rfl (r_pickF (v := .bool false) rfl rfl) ?_
    refine l_val rfl rfl rfl (r_assign (v := .bool false) rfl) ?_
    refine l_nil ?_
    refine c_ret ?_
    obtain rfl := Option.some.inj H6
    refine ret1 (v := .bool false) rfl rfl (fin rfl)
theorem k92 {a0 : (List UInt8)} {a1 : (List UInt8)} {r : Bool} (H : strings_HasPrefix a0 a1 = some r) : Ret Try.prog 92 [str a0, str a1] (.bool r) := by
  refine enterRet (n := 8) Try.func92 rfl rfl rfl (fun wd => ?_)
  refine c_seq ?_
  refine c_region ?_
  refine l_val rfl rfl rfl (r_assign (v := .bool false) rfl) ?_
  refine l_nil ?_
  refine c_seq ?_
  refine c_region ?_
  refine l_val rfl rfl rfl (r_move (v := str a0) rfl) ?_
  refine l_val rfl rfl rfl (r_move (v := str a1) rfl) ?_
  obtain ⟨t7, h_t7, H2⟩ := bnd_some H; clear H
  refine l_call (k145 h_t7) Try.call145 rfl rfl rfl ?_
  refine l_val rfl rfl rfl (r_assign (v := .bool t7) rfl) ?_
  refine l_nil ?_
  refine c_ret ?_
  obtain rfl := Option.some.inj H2
  refine ret1 (v := .bool t7) rfl rfl (fin rfl)
theorem k93 {a0 : Int} {r : Bool} (H : R_segmentKind a0 = some r) : Ret Try.prog 93 [.int .i64 a0] (.bool r) := by
  refine enterRet (n := 17) Try.func93 rfl rfl rfl (fun wd => ?_)
  refine c_seq ?_
  refine c_region ?_
  refine l_val rfl rfl rfl (r_assign (v := .bool false) rfl) ?_
  refine l_nil ?_
  refine c_seq ?_
  refine c_region ?_
  refine l_val rfl rfl rfl (r_move (v := .int .i64 a0) rfl) ?_
  refine l_val rfl rfl rfl (r_geq rfl rfl) ?_
  refine l_val rfl rfl rfl (r_move (v := .bool (decide (192 ≤ a0))) rfl) ?_
  refine split (fun hb => ?_) (fun hb => ?_)
  · have H7 := cnd_t hb H; clear H
    refine l_val rfl rfl rfl (r_move (v := .int .i64 a0) rfl) ?_
    refine l_val rfl rfl rfl (r_leq rfl rfl) ?_
    refine l_val rfl rfl rfl (r_pickT (v := .bool (decide (a0 ≤ 254))) rfl rfl) ?_
    refine l_val rfl rfl rfl (r_move (v := .bool (decide (a0 ≤ 254))) rfl) ?_
    refine split (fun hb => ?_) (fun hb => ?_)
    · have H8 := cnd_t hb H7; clear H7
      refine l_val rfl rfl rfl (r_move (v := .int .i64 a0) rfl) ?_
      refine l_val rfl rfl rfl (r_neq rfl rfl) ?_
      refine l_val rfl rfl rfl (r_pickT (v := .bool (decide (a0 ≠ 216))) rfl rfl) ?_
      refine l_val rfl rfl rfl (r_move (v := .bool (decide (a0 ≠ 216))) rfl) ?_
      refine split (fun hb => ?_) (fun hb => ?_)
      · have H9 := cnd_t hb H8; clear H8
        refine l_val rfl rfl rfl (r_move (v := .int .i64 a0) rfl) ?_
        refine l_val rfl rfl rfl (r_neq rfl rfl) ?_
        refine l_val rfl rfl rfl (r_pickT (v := .bool (decide (a0 ≠ 217))) rfl rfl) ?_
        refine l_val rfl rfl rfl (r_assign (v := .bool (decide (a0 ≠ 217))) rfl) ?_
        refine l_nil ?_
        refine c_ret ?_
        obtain rfl := Option.some.inj H9
        refine ret1 (v := .bool (decide (a0 ≠ 217))) rfl rfl (fin rfl)
      · have H10 := cnd_f hb H8; clear H8
        refine l_passed rfl rfl rfl ?_
        refine l_passed rfl rfl rfl ?_
        refine l_val rfl rfl rfl (r_pickF (v := .bool false) rfl rfl) ?_
        refine l_val rfl rfl rfl (r_assign (v := .bool false) rfl) ?_
        refine l_nil ?_
        refine c_ret ?_
        obtain rfl := Option.some.inj H10
        refine ret1 (v := .bool false) rfl rfl (fin rfl)
    · have H11 := cnd_f hb H7; clear H7
      refine l_passed rfl rfl rfl ?_
      refine l_passed rfl rfl rfl ?_
      refine l_val rfl rfl rfl (r_pickF (v := .bool false) rfl rfl) ?_
      refine l_val rfl rfl rfl (r_move (v := .bool false) rfl) ?_
      refine l_passed rfl rfl rfl ?_
      refine l_passed rfl rfl rfl ?_
      refine l_val rfl rfl rfl (r_pickF (v := .bool false) rfl rfl) ?_
      refine l_val rfl rfl rfl (r_assign (v := .bool false) rfl) ?_
      refine l_nil ?_
      refine c_ret ?_
      obtain rfl := Option.some.inj H11
      refine ret1 (v := .bool false) rfl rfl (fin rfl)
  · have H12 := cnd_f hb H; clear H
    refine l_passed rfl rfl rfl ?_
    refine l_passed rfl rfl rfl ?_
    refine l_val rfl rfl rfl (r_pickF (v := .bool false) rfl rfl) ?_
    refine l_val rfl rfl rfl (r_move (v := .bool false) rfl) ?_
    refine l_passed rfl rfl rfl ?_
    refine l_passed rfl rfl rfl ?_
    refine l_val rfl rfl rfl (r_pickF (v := .bool false) rfl rfl) ?_
    refine l_val rfl rfl rfl (r_move (v := .bool false) rfl) ?_
    refine l_passed rfl rfl rfl ?_
    refine l_passed rfl rfl rfl ?_
    refine l_val rfl rfl rfl (r_pickF (v := .bool false) rfl rfl) ?_
    refine l_val rfl rfl rfl (r_assign (v := .bool false) rfl) ?_
    refine l_nil ?_
    refine c_ret ?_
    obtain rfl := Option.some.inj H12
    refine ret1 (v := .bool false) rfl rfl (fin rfl)
theorem k28 {a0 : (List UInt8)} {r : (List T_tag_Segment) × Int} {w : World} {h : Heap} (hw : Know h w noS)  (H : R_SegmentsOf a0 = some r) : Does Try.prog 28 (List.toArray [str a0]) w (fun v w' => ∃ x : (Option Addr × Nat), v = (.tuple #[.slice x.1 r.1.length x.2, .int .i64 r.2]) ∧ Turn w w' noS (rowV 55 2 (.slice x.1 r.1.length x.2) r.1.length (r.1.map e_tag_Segment))) := by
  refine enter (n := 112) Try.func28 rfl rfl rfl noS [] (Sat.nil _ _) ?_
  refine c_seq ?_
  refine c_region ?_
  refine l_val rfl rfl rfl (r_assign (v := .slice none 0 0) rfl) ?_
  refine l_val rfl rfl rfl (r_assign (v := .int .i64 0) rfl) ?_
  refine l_nil ?_
  refine c_seq ?_
  refine c_seq ?_
  refine c_region ?_
  refine l_val rfl rfl rfl (r_move (v := str a0) rfl) ?_
  refine l_val rfl rfl rfl (r_lenT Try.underlying9 rfl) ?_
  refine l_val rfl rfl rfl (r_gtr rfl rfl) ?_
  refine l_nil ?_
  refine c_if (b := (decide (200000 < (a0.length : Int)))) rfl (fun hb => ?_) (fun hb => ?_)
  · have H57 := cnd_t hb H; clear H
    refine c_seq ?_
    refine c_region ?_
    refine l_val rfl rfl rfl (r_assign (v := .slice none 0 0) rfl) ?_
    refine l_val rfl rfl rfl (r_assign (v := .int .i64 4) rfl) ?_
    refine l_nil ?_
    refine c_ret ?_
    refine c_nilRow 55 2 ?_
    obtain rfl := Option.some.inj H57
    refine ret2 (v1 := .slice ((none, 0) : Option Addr × Nat).1 ([] : List T_tag_Segment).length ((none, 0) : Option Addr × Nat).2) (v2 := .int .i64 4) rfl rfl rfl (finX ((none, 0) : Option Addr × Nat) (i := 0) rfl rfl (Imp.refl _))
  · have H58 := cnd_f hb H; clear H
    refine c_skip ?_
    refine c_seq ?_
    refine c_seq ?_
    refine c_region ?_
    refine l_val rfl rfl rfl (r_move (v := str a0) rfl) ?_
    obtain ⟨t12, h_t12, H59⟩ := bnd_some H58; clear H58
    refine l_call (k92 h_t12) Try.call92 rfl rfl rfl ?_
    refine l_val rfl rfl rfl (r_not rfl) ?_
    refine l_nil ?_
    refine c_if (b := (!t12)) rfl (fun hb => ?_) (fun hb => ?_)
    · have H60 := cnd_t hb H59; clear H59
      refine c_seq ?_
      refine c_region ?_
      refine l_val rfl rfl rfl (r_assign (v := .slice none 0 0) rfl) ?_
      refine l_val rfl rfl rfl (r_assign (v := .int .i64 8) rfl) ?_
      refine l_nil ?_
      refine c_ret ?_
      refine c_nilRow 55 2 ?_
      obtain rfl := Option.some.inj H60
      refine ret2 (v1 := .slice ((none, 0) : Option Addr × Nat).1 ([] : List T_tag_Segment).length ((none, 0) : Option Addr × Nat).2) (v2 := .int .i64 8) rfl rfl rfl (finX ((none, 0) : Option Addr × Nat) (i := 0) rfl rfl (Imp.refl _))
    · have H61 := cnd_f hb H59; clear H59
      refine c_skip ?_
      refine c_seq ?_
      refine c_region ?_
      refine l_val rfl rfl rfl (r_assign (v := .slice none 0 0) rfl) ?_
      refine l_nil ?_
      refine c_meet (r := r) (σ := (List T_tag_Segment)) (τ := (Option Addr × Nat)) (fun s => R_SegmentsOf_j1 s) (fun s t => [(4, .slice t.1 s.length t.2)]) (fun s t => [rowV 55 2 (.slice t.1 s.length t.2) s.length (s.map e_tag_Segment)]) (fun s t => True) ?_ ?_
      · refine c_seq ?_
        refine c_region ?_
        refine l_val rfl rfl rfl (r_assign (v := .int .i64 2) rfl) ?_
        refine l_nil ?_
        refine c_block ?_
        refine c_nilRow 55 2 ?_
        refine c_fix (σ := Int × (List T_tag_Segment)) (τ := (Option Addr × Nat)) (fun next2 s => R_SegmentsOf_l2 a0 next2 s.1 s.2) (fun s t => [(0, str a0), (4, .slice t.1 s.2.length t.2), (5, .int .i64 s.1)]) (fun s t => [rowV 55 2 (.slice t.1 s.2.length t.2) s.2.length (s.2.map e_tag_Segment)]) (fun s t => True) (2, ([] : List T_tag_Segment)) ((none, 0) : Option Addr × Nat) [0] H61 (by exact trivial) (by exact ⟨rfl, rfl, rfl, trivial⟩) (by decide) rfl ?_
        rintro ⟨x5_2, l_3⟩ p_2 m2 gg H65 _
        clear H61
        replace H65 : R_SegmentsOf_l2 a0 (it (fun next2 s => R_SegmentsOf_l2 a0 next2 s.1 s.2) m2) x5_2 l_3 = some r := H65
        generalize hn2 : it (fun next2 s => R_SegmentsOf_l2 a0 next2 s.1 s.2) m2 = next2 at H65
        refine c_tidyF [(0, str a0), (4, .slice p_2.1 l_3.length p_2.2), (5, .int .i64 x5_2)] [rowV 55 2 (.slice p_2.1 l_3.length p_2.2) l_3.length (l_3.map e_tag_Segment)] rfl rfl ?_
        refine c_block ?_
        refine c_seq ?_
        refine c_seq ?_
        refine c_region ?_
        refine l_val rfl rfl rfl (r_move (v := str a0) rfl) ?_
        refine l_val rfl rfl rfl (r_lenT Try.underlying9 rfl) ?_
        refine l_val rfl rfl rfl (r_move (v := .int .i64 x5_2) rfl) ?_
        obtain ⟨t17, h_t17, H66⟩ := bnd_some H65; clear H65
        refine l_val rfl rfl rfl (r_subG rfl rfl h_t17) ?_
        refine l_val rfl rfl rfl (r_lss rfl rfl) ?_
        refine l_val rfl rfl rfl (r_move (v := .bool (decide (t17 < 2))) rfl) ?_
        refine split (fun hb => ?_) (fun hb => ?_)
        · have H67 := cnd_t hb H66; clear H66
          refine l_passed rfl rfl rfl ?_
          refine l_passed rfl rfl rfl ?_
          refine l_passed rfl rfl rfl ?_
          refine l_passed rfl rfl rfl ?_
          refine l_val rfl rfl rfl (r_pickT (v := .bool true) rfl rfl) ?_
          refine l_val rfl rfl rfl (r_move (v := .bool true) rfl) ?_
          refine l_passed rfl rfl rfl ?_
          refine l_passed rfl rfl rfl ?_
          refine l_passed rfl rfl rfl ?_
          refine l_passed rfl rfl rfl ?_
          refine l_passed rfl rfl rfl ?_
          refine l_passed rfl rfl rfl ?_
          refine l_passed rfl rfl rfl ?_
          refine l_val rfl rfl rfl (r_pickT (v := .bool true) rfl rfl) ?_
          refine l_nil ?_
          refine c_true rfl ?_
          refine c_seq ?_
          refine c_region ?_
          refine l_val rfl rfl rfl (r_assign (v := .slice none 0 0) rfl) ?_
          refine l_val rfl rfl rfl (r_assign (v := .int .i64 8) rfl) ?_
          refine l_nil ?_
          refine c_ret ?_
          refine c_nilRow 55 2 ?_
          obtain rfl := Option.some.inj H67
          refine ret2 (v1 := .slice ((none, 0) : Option Addr × Nat).1 ([] : List T_tag_Segment).length ((none, 0) : Option Addr × Nat).2) (v2 := .int .i64 8) rfl rfl rfl (finX ((none, 0) : Option Addr × Nat) (i := 1) rfl rfl (Imp.refl _))
        · have H68 := cnd_f hb H66; clear H66
          refine l_val rfl rfl rfl (r_move (v := str a0) rfl) ?_
          refine l_val rfl rfl rfl (r_move (v := .int .i64 x5_2) rfl) ?_
          obtain ⟨t22, h_t22, H69⟩ := bnd_some H68; clear H68
          refine l_val rfl rfl rfl (r_octG Try.underlying9 rfl rfl h_t22) ?_
          refine l_val rfl rfl rfl (r_neq rfl rfl) ?_
          refine l_val rfl rfl rfl (r_pickF (v := .bool (decide (t22 ≠ 255))) rfl rfl) ?_
          refine l_val rfl rfl rfl (r_move (v := .bool (decide (t22 ≠ 255))) rfl) ?_
          refine split (fun hb => ?_) (fun hb => ?_)
          · have H70 := cnd_t hb H69; clear H69
            refine l_passed rfl rfl rfl ?_
            refine l_passed rfl rfl rfl ?_
            refine l_passed rfl rfl rfl ?_
            refine l_passed rfl rfl rfl ?_
            refine l_passed rfl rfl rfl ?_
            refine l_passed rfl rfl rfl ?_
            refine l_passed rfl rfl rfl ?_
            refine l_val rfl rfl rfl (r_pickT (v := .bool true) rfl rfl) ?_
            refine l_nil ?_
            refine c_true rfl ?_
            refine c_seq ?_
            refine c_region ?_
            refine l_val rfl rfl rfl (r_assign (v := .slice none 0 0) rfl) ?_
            refine l_val rfl rfl rfl (r_assign (v := .int .i64 8) rfl) ?_
            refine l_nil ?_
            refine c_ret ?_
            refine c_nilRow 55 2 ?_
            obtain rfl := Option.some.inj H70
            refine ret2 (v1 := .slice ((none, 0) : Option Addr × Nat).1 ([] : List T_tag_Segment).length ((none, 0) : Option Addr × Nat).2) (v2 := .int .i64 8) rfl rfl rfl (finX ((none, 0) : Option Addr × Nat) (i := 1) rfl rfl (Imp.refl _))
          · have H71 := cnd_f hb H69; clear H69
            refine l_val rfl rfl rfl (r_move (v := str a0) rfl) ?_
            refine l_val rfl rfl rfl (r_move (v := .int .i64 x5_2) rfl) ?_
            obtain ⟨t28, h_t28, H72⟩ := bnd_some H71; clear H71
            refine l_val rfl rfl rfl (r_addG rfl rfl h_t28) ?_
            obtain ⟨t29, h_t29, H73⟩ := bnd_some H72; clear H72
            refine l_val rfl rfl rfl (r_octG Try.underlying9 rfl rfl h_t29) ?_
            obtain ⟨t30, h_t30, H74⟩ := bnd_some H73; clear H73
            refine l_val rfl rfl rfl (r_convG Try.runUnderlying5 Try.runUnderlying3 rfl (gK_i64 h_t30)) ?_
            obtain ⟨t31, h_t31, H75⟩ := bnd_some H74; clear H74
            refine l_call (k93 h_t31) Try.call93 rfl rfl rfl ?_
            refine l_val rfl rfl rfl (r_not rfl) ?_
            refine l_val rfl rfl rfl (r_pickF (v := .bool (!t31)) rfl rfl) ?_
            refine l_nil ?_
            refine c_if (b := (!t31)) rfl (fun hb => ?_) (fun hb => ?_)
            · have H76 := cnd_t hb H75; clear H75
              refine c_seq ?_
              refine c_region ?_
              refine l_val rfl rfl rfl (r_assign (v := .slice none 0 0) rfl) ?_
              refine l_val rfl rfl rfl (r_assign (v := .int .i64 8) rfl) ?_
              refine l_nil ?_
              refine c_ret ?_
              refine c_nilRow 55 2 ?_
              obtain rfl := Option.some.inj H76
              refine ret2 (v1 := .slice ((none, 0) : Option Addr × Nat).1 ([] : List T_tag_Segment).length ((none, 0) : Option Addr × Nat).2) (v2 := .int .i64 8) rfl rfl rfl (finX ((none, 0) : Option Addr × Nat) (i := 1) rfl rfl (Imp.refl _))
            · have H77 := cnd_f hb H75; clear H75
              refine c_skip ?_
              refine c_seq ?_
              refine c_region ?_
              refine l_val rfl rfl rfl (r_move (v := str a0) rfl) ?_
              refine l_val rfl rfl rfl (r_move (v := .int .i64 x5_2) rfl) ?_
              obtain ⟨t36, h_t36, H78⟩ := bnd_some H77; clear H77
              refine l_val rfl rfl rfl (r_addG rfl rfl h_t36) ?_
              obtain ⟨t37, h_t37, H79⟩ := bnd_some H78; clear H78
              refine l_val rfl rfl rfl (r_octG Try.underlying9 rfl rfl h_t37) ?_
              obtain ⟨t38, h_t38, H80⟩ := bnd_some H79; clear H79
              refine l_val rfl rfl rfl (r_convG Try.runUnderlying5 Try.runUnderlying3 rfl (gK_i64 h_t38)) ?_
              refine l_val rfl rfl rfl (r_assign (v := .int .i64 t38) rfl) ?_
              refine l_nil ?_
              refine c_seq ?_
              refine c_region ?_
              refine l_val rfl rfl rfl (r_move (v := .int .i64 x5_2) rfl) ?_
              obtain ⟨t40, h_t40, H81⟩ := bnd_some H80; clear H80
              refine l_val rfl rfl rfl (r_addG rfl rfl h_t40) ?_
              refine l_val rfl rfl rfl (r_assign (v := .int .i64 t40) rfl) ?_
              refine l_nil ?_
              refine c_seq ?_
              refine c_seq ?_
              refine c_region ?_
              refine l_val rfl rfl rfl (r_move (v := .int .i64 t38) rfl) ?_
              refine l_val rfl rfl rfl (r_eql rfl rfl) ?_
              refine l_nil ?_
              refine c_if (b := (decide (t38 = 218))) rfl (fun hb => ?_) (fun hb => ?_)
              · have H82 := cnd_t hb H81; clear H81
                refine c_seq ?_
                refine c_seq ?_
                refine c_region ?_
                refine l_val rfl rfl rfl (r_move (v := str a0) rfl) ?_
                refine l_val rfl rfl rfl (r_lenT Try.underlying9 rfl) ?_
                refine l_val rfl rfl rfl (r_move (v := .int .i64 t40) rfl) ?_
                obtain ⟨t46, h_t46, H83⟩ := bnd_some H82; clear H82
                refine l_val rfl rfl rfl (r_subG rfl rfl h_t46) ?_
                refine l_val rfl rfl rfl (r_lss rfl rfl) ?_
                refine l_val rfl rfl rfl (r_move (v := .bool (decide (t46 < 2))) rfl) ?_
                refine split (fun hb => ?_) (fun hb => ?_)
                · have H84 := cnd_t hb H83; clear H83
                  refine l_passed rfl rfl rfl ?_
                  refine l_passed rfl rfl rfl ?_
                  refine l_passed rfl rfl rfl ?_
                  refine l_passed rfl rfl rfl ?_
                  refine l_passed rfl rfl rfl ?_
                  refine l_passed rfl rfl rfl ?_
                  refine l_val rfl rfl rfl (r_pickT (v := .bool true) rfl rfl) ?_
                  refine l_nil ?_
                  refine c_true rfl ?_
                  refine c_seq ?_
                  refine c_region ?_
                  refine l_val rfl rfl rfl (r_assign (v := .slice none 0 0) rfl) ?_
                  refine l_val rfl rfl rfl (r_assign (v := .int .i64 8) rfl) ?_
                  refine l_nil ?_
                  refine c_ret ?_
                  refine c_nilRow 55 2 ?_
                  obtain rfl := Option.some.inj H84
                  refine ret2 (v1 := .slice ((none, 0) : Option Addr × Nat).1 ([] : List T_tag_Segment).length ((none, 0) : Option Addr × Nat).2) (v2 := .int .i64 8) rfl rfl rfl (finX ((none, 0) : Option Addr × Nat) (i := 1) rfl rfl (Imp.refl _))
                · have H85 := cnd_f hb H83; clear H83
                  refine l_val rfl rfl rfl (r_move (v := str a0) rfl) ?_
                  refine l_val rfl rfl rfl (r_move (v := str a0) rfl) ?_
                  refine l_val rfl rfl rfl (r_lenT Try.underlying9 rfl) ?_
                  obtain ⟨t52, h_t52, H86⟩ := bnd_some H85; clear H85
                  refine l_val rfl rfl rfl (r_subG rfl rfl h_t52) ?_
                  obtain ⟨t53, h_t53, H87⟩ := bnd_some H86; clear H86
                  refine l_val rfl rfl rfl (r_cutFromG Try.underlying9 rfl rfl h_t53) ?_
                  refine l_val rfl rfl rfl (r_neqT rfl rfl) ?_
                  refine l_val rfl rfl rfl (r_pickF (v := .bool (decide (t53 ≠ [255, 217]))) rfl rfl) ?_
                  refine l_nil ?_
                  refine c_if (b := (decide (t53 ≠ [255, 217]))) rfl (fun hb => ?_) (fun hb => ?_)
                  · have H88 := cnd_t hb H87; clear H87
                    refine c_seq ?_
                    refine c_region ?_
                    refine l_val rfl rfl rfl (r_assign (v := .slice none 0 0) rfl) ?_
                    refine l_val rfl rfl rfl (r_assign (v := .int .i64 8) rfl) ?_
                    refine l_nil ?_
                    refine c_ret ?_
                    refine c_nilRow 55 2 ?_
                    obtain rfl := Option.some.inj H88
                    refine ret2 (v1 := .slice ((none, 0) : Option Addr × Nat).1 ([] : List T_tag_Segment).length ((none, 0) : Option Addr × Nat).2) (v2 := .int .i64 8) rfl rfl rfl (finX ((none, 0) : Option Addr × Nat) (i := 1) rfl rfl (Imp.refl _))
                  · have H89 := cnd_f hb H87; clear H87
                    refine c_skip ?_
                    refine c_seq ?_
                    refine c_region ?_
                    refine l_val rfl rfl rfl (r_move (v := .slice p_2.1 l_3.length p_2.2) rfl) ?_
                    refine l_val rfl rfl rfl (r_move (v := .int .i64 t38) rfl) ?_
                    refine l_val rfl rfl rfl (r_move (v := str a0) rfl) ?_
                    refine l_val rfl rfl rfl (r_move (v := .int .i64 t40) rfl) ?_
                    refine l_val rfl rfl rfl (r_move (v := str a0) rfl) ?_
                    refine l_val rfl rfl rfl (r_lenT Try.underlying9 rfl) ?_
                    obtain ⟨t62, h_t62, H90⟩ := bnd_some H89; clear H89
                    refine l_val rfl rfl rfl (r_subG rfl rfl h_t62) ?_
                    obtain ⟨t63, h_t63, H91⟩ := bnd_some H90; clear H90
                    refine l_val rfl rfl rfl (r_cutTG Try.underlying9 rfl rfl rfl h_t63) ?_
                    refine l_val rfl rfl rfl (r_build (pl := #[(0, 1), (1, 1)]) (ps := [(0, .int .i64 t38), (1, str t63)]) (cells := #[.int .i64 t38, str t63]) Try.zeroValue55 Try.runUnderlying55 (fun w => by kernel_rfl) rfl rfl) ?_
                    refine l_buildSlice (vs := [.agg #[.int .i64 t38, str t63]]) (cs := [.int .i64 t38, str t63]) Try.underlying48 Try.sizeOf55 Try.zeroValue55 rfl rfl rfl rfl rfl rfl rfl (fun b2 => ?_)
                    obtain ⟨l66, h_l66, H92⟩ := bnd_some H91; clear H91
                    refine l_turn (turns_appG (i := 0) (hn := rfl) (rds := [1]) (p := p_2) (sz := 2) (by_ := 24) (f := e_tag_Segment) (ys := l_3) (ls := ([(⟨t38, t63⟩ : T_tag_Segment)] : List T_tag_Segment)) (V := .slice (some ⟨b2, 0, none⟩) 1 1) Try.underlying48 (info_of Try.typeInfo55) rfl rfl rfl rfl rfl rfl rfl rfl rfl rfl (fun w L' hF hS hi => row_box (i := 1) hS ((hi 1 (by simp)).trans rfl) rfl rfl) (fun _ => rfl) (fun _ => rfl) h_l66) rfl rfl rfl (fun p_3 => ?_)
                    refine l_val rfl rfl rfl (r_assign (v := .slice p_3.1 l66.length p_3.2) rfl) ?_
                    refine l_nil ?_
                    refine c_exit ?_
                    refine c_close l66 p_3 0 [0] (by exact ⟨rfl, trivial⟩) (by decide) rfl (by exact ⟨H92, trivial⟩) (Nat.lt_succ_self _)
              · have H93 := cnd_f hb H81; clear H81
                refine c_skip ?_
                refine c_seq ?_
                refine c_seq ?_
                refine c_region ?_
                refine l_val rfl rfl rfl (r_move (v := str a0) rfl) ?_
                refine l_val rfl rfl rfl (r_lenT Try.underlying9 rfl) ?_
                refine l_val rfl rfl rfl (r_move (v := .int .i64 t40) rfl) ?_
                obtain ⟨t70, h_t70, H94⟩ := bnd_some H93; clear H93
                refine l_val rfl rfl rfl (r_subG rfl rfl h_t70) ?_
                refine l_val rfl rfl rfl (r_lss rfl rfl) ?_
                refine l_nil ?_
                refine c_if (b := (decide (t70 < 2))) rfl (fun hb => ?_) (fun hb => ?_)
                · have H95 := cnd_t hb H94; clear H94
                  refine c_seq ?_
                  refine c_region ?_
                  refine l_val rfl rfl rfl (r_assign (v := .slice none 0 0) rfl) ?_
                  refine l_val rfl rfl rfl (r_assign (v := .int .i64 8) rfl) ?_
                  refine l_nil ?_
                  refine c_ret ?_
                  refine c_nilRow 55 2 ?_
                  obtain rfl := Option.some.inj H95
                  refine ret2 (v1 := .slice ((none, 0) : Option Addr × Nat).1 ([] : List T_tag_Segment).length ((none, 0) : Option Addr × Nat).2) (v2 := .int .i64 8) rfl rfl rfl (finX ((none, 0) : Option Addr × Nat) (i := 1) rfl rfl (Imp.refl _))
                · have H96 := cnd_f hb H94; clear H94
                  refine c_skip ?_
                  refine c_seq ?_
                  exact c_regionD (Kd.p :: Kd.p :: Kd.p :: Kd.p :: Kd.p :: Kd.p :: Kd.p :: Kd.p :: Kd.p :: Kd.p :: Kd.p :: Kd.p :: []) 0 mixed (by
                    refine d_val rfl rfl (r_move (v := str a0) rfl) ?_
                    refine d_val rfl rfl (r_move (v := .int .i64 t40) rfl) ?_
                    have h_t74 := bnd_val H96
                    have H97 := bnd_rest H96
                    refine d_val rfl rfl (r_octG Try.underlying9 rfl rfl h_t74) ?_
                    have h_t75 := bnd_val H97
                    have H98 := bnd_rest H97
                    refine d_val rfl rfl (r_convG Try.runUnderlying5 Try.runUnderlying3 rfl (gK_i64 h_t75)) ?_
                    have h_t76 := bnd_val H98
                    have H99 := bnd_rest H98
                    refine d_val rfl rfl (r_shlG rfl rfl h_t76) ?_
                    refine d_val rfl rfl (r_move (v := str a0) rfl) ?_
                    refine d_val rfl rfl (r_move (v := .int .i64 t40) rfl) ?_
                    have h_t79 := bnd_val H99
                    have H100 := bnd_rest H99
                    refine d_val rfl rfl (r_addG rfl rfl h_t79) ?_
                    have h_t80 := bnd_val H100
                    have H101 := bnd_rest H100
                    refine d_val rfl rfl (r_octG Try.underlying9 rfl rfl h_t80) ?_
                    have h_t81 := bnd_val H101
                    have H102 := bnd_rest H101
                    refine d_val rfl rfl (r_convG Try.runUnderlying5 Try.runUnderlying3 rfl (gK_i64 h_t81)) ?_
                    refine d_val rfl rfl (r_bitsOr (bits := 64) rfl rfl rfl (wr_i64 _)) ?_
                    refine d_val rfl rfl (r_assign (v := .int .i64 (wI64 (bOr 64 (val (gShl (val (gK (-9223372036854775808) 9223372036854775807 (val (gOct a0 t40)))) 8)) (val (gK (-9223372036854775808) 9223372036854775807 (val (gOct a0 (val (gI (t40 + 1)))))))))) rfl) ?_
                    refine d_nil ?_
                    refine c_seq ?_
                    refine c_seq ?_
                    refine c_region ?_
                    refine l_val rfl rfl rfl (r_move (v := .int .i64 (wI64 (bOr 64 (val (gShl (val (gK (-9223372036854775808) 9223372036854775807 (val (gOct a0 t40)))) 8)) (val (gK (-9223372036854775808) 9223372036854775807 (val (gOct a0 (val (gI (t40 + 1)))))))))) rfl) ?_
                    refine l_val rfl rfl rfl (r_lss rfl rfl) ?_
                    refine l_val rfl rfl rfl (r_move (v := .bool (decide ((wI64 (bOr 64 (val (gShl (val (gK (-9223372036854775808) 9223372036854775807 (val (gOct a0 t40)))) 8)) (val (gK (-9223372036854775808) 9223372036854775807 (val (gOct a0 (val (gI (t40 + 1))))))))) < 2))) rfl) ?_
                    refine split (fun hb => ?_) (fun hb => ?_)
                    · have H103 := cnd_t hb H102; clear H102
                      refine l_passed rfl rfl rfl ?_
                      refine l_passed rfl rfl rfl ?_
                      refine l_passed rfl rfl rfl ?_
                      refine l_passed rfl rfl rfl ?_
                      refine l_passed rfl rfl rfl ?_
                      refine l_passed rfl rfl rfl ?_
                      refine l_val rfl rfl rfl (r_pickT (v := .bool true) rfl rfl) ?_
                      refine l_nil ?_
                      refine c_true rfl ?_
                      refine c_seq ?_
                      refine c_region ?_
                      refine l_val rfl rfl rfl (r_assign (v := .slice none 0 0) rfl) ?_
                      refine l_val rfl rfl rfl (r_assign (v := .int .i64 8) rfl) ?_
                      refine l_nil ?_
                      refine c_ret ?_
                      refine c_nilRow 55 2 ?_
                      obtain rfl := Option.some.inj H103
                      refine ret2 (v1 := .slice ((none, 0) : Option Addr × Nat).1 ([] : List T_tag_Segment).length ((none, 0) : Option Addr × Nat).2) (v2 := .int .i64 8) rfl rfl rfl (finX ((none, 0) : Option Addr × Nat) (i := 1) rfl rfl (Imp.refl _))
                    · have H104 := cnd_f hb H102; clear H102
                      refine l_val rfl rfl rfl (r_move (v := .int .i64 (wI64 (bOr 64 (val (gShl (val (gK (-9223372036854775808) 9223372036854775807 (val (gOct a0 t40)))) 8)) (val (gK (-9223372036854775808) 9223372036854775807 (val (gOct a0 (val (gI (t40 + 1)))))))))) rfl) ?_
                      refine l_val rfl rfl rfl (r_move (v := str a0) rfl) ?_
                      refine l_val rfl rfl rfl (r_lenT Try.underlying9 rfl) ?_
                      refine l_val rfl rfl rfl (r_move (v := .int .i64 t40) rfl) ?_
                      obtain ⟨t90, h_t90, H105⟩ := bnd_some H104; clear H104
                      refine l_val rfl rfl rfl (r_subG rfl rfl h_t90) ?_
                      refine l_val rfl rfl rfl (r_gtr rfl rfl) ?_
                      refine l_val rfl rfl rfl (r_pickF (v := .bool (decide (t90 < (wI64 (bOr 64 (val (gShl (val (gK (-9223372036854775808) 9223372036854775807 (val (gOct a0 t40)))) 8)) (val (gK (-9223372036854775808) 9223372036854775807 (val (gOct a0 (val (gI (t40 + 1)))))))))))) rfl rfl) ?_
                      refine l_nil ?_
                      refine c_if (b := (decide (t90 < (wI64 (bOr 64 (val (gShl (val (gK (-9223372036854775808) 9223372036854775807 (val (gOct a0 t40)))) 8)) (val (gK (-9223372036854775808) 9223372036854775807 (val (gOct a0 (val (gI (t40 + 1)))))))))))) rfl (fun hb => ?_) (fun hb => ?_)
                      · have H106 := cnd_t hb H105; clear H105
                        refine c_seq ?_
                        refine c_region ?_
                        refine l_val rfl rfl rfl (r_assign (v := .slice none 0 0) rfl) ?_
                        refine l_val rfl rfl rfl (r_assign (v := .int .i64 8) rfl) ?_
                        refine l_nil ?_
                        refine c_ret ?_
                        refine c_nilRow 55 2 ?_
                        obtain rfl := Option.some.inj H106
                        refine ret2 (v1 := .slice ((none, 0) : Option Addr × Nat).1 ([] : List T_tag_Segment).length ((none, 0) : Option Addr × Nat).2) (v2 := .int .i64 8) rfl rfl rfl (finX ((none, 0) : Option Addr × Nat) (i := 1) rfl rfl (Imp.refl _))
                      · have H107 := cnd_f hb H105; clear H105
                        refine c_skip ?_
                        refine c_seq ?_
                        refine c_region ?_
                        refine l_val rfl rfl rfl (r_move (v := .slice p_2.1 l_3.length p_2.2) rfl) ?_
                        refine l_val rfl rfl rfl (r_move (v := .int .i64 t38) rfl) ?_
                        refine l_val rfl rfl rfl (r_move (v := str a0) rfl) ?_
                        refine l_val rfl rfl rfl (r_move (v := .int .i64 t40) rfl) ?_
                        obtain ⟨t97, h_t97, H108⟩ := bnd_some H107; clear H107
                        refine l_val rfl rfl rfl (r_addG rfl rfl h_t97) ?_
                        refine l_val rfl rfl rfl (r_move (v := .int .i64 t40) rfl) ?_
                        refine l_val rfl rfl rfl (r_move (v := .int .i64 (wI64 (bOr 64 (val (gShl (val (gK (-9223372036854775808) 9223372036854775807 (val (gOct a0 t40)))) 8)) (val (gK (-9223372036854775808) 9223372036854775807 (val (gOct a0 (val (gI (t40 + 1)))))))))) rfl) ?_
                        obtain ⟨t100, h_t100, H109⟩ := bnd_some H108; clear H108
                        refine l_val rfl rfl rfl (r_addG rfl rfl h_t100) ?_
                        obtain ⟨t101, h_t101, H110⟩ := bnd_some H109; clear H109
                        refine l_val rfl rfl rfl (r_cutTG Try.underlying9 rfl rfl rfl h_t101) ?_
                        refine l_val rfl rfl rfl (r_build (pl := #[(0, 1), (1, 1)]) (ps := [(0, .int .i64 t38), (1, str t101)]) (cells := #[.int .i64 t38, str t101]) Try.zeroValue55 Try.runUnderlying55 (fun w => by kernel_rfl) rfl rfl) ?_
                        refine l_buildSlice (vs := [.agg #[.int .i64 t38, str t101]]) (cs := [.int .i64 t38, str t101]) Try.underlying48 Try.sizeOf55 Try.zeroValue55 rfl rfl rfl rfl rfl rfl rfl (fun b3 => ?_)
                        obtain ⟨l104, h_l104, H111⟩ := bnd_some H110; clear H110
                        refine l_turn (turns_appG (i := 0) (hn := rfl) (rds := [1]) (p := p_2) (sz := 2) (by_ := 24) (f := e_tag_Segment) (ys := l_3) (ls := ([(⟨t38, t101⟩ : T_tag_Segment)] : List T_tag_Segment)) (V := .slice (some ⟨b3, 0, none⟩) 1 1) Try.underlying48 (info_of Try.typeInfo55) rfl rfl rfl rfl rfl rfl rfl rfl rfl rfl (fun w L' hF hS hi => row_box (i := 1) hS ((hi 1 (by simp)).trans rfl) rfl rfl) (fun _ => rfl) (fun _ => rfl) h_l104) rfl rfl rfl (fun p_4 => ?_)
                        refine l_val rfl rfl rfl (r_assign (v := .slice p_4.1 l104.length p_4.2) rfl) ?_
                        refine l_nil ?_
                        refine c_region ?_
                        refine l_val rfl rfl rfl (r_move (v := .int .i64 t40) rfl) ?_
                        refine l_val rfl rfl rfl (r_move (v := .int .i64 (wI64 (bOr 64 (val (gShl (val (gK (-9223372036854775808) 9223372036854775807 (val (gOct a0 t40)))) 8)) (val (gK (-9223372036854775808) 9223372036854775807 (val (gOct a0 (val (gI (t40 + 1)))))))))) rfl) ?_
                        obtain ⟨t107, h_t107, H112⟩ := bnd_some H111; clear H111
                        refine l_val rfl rfl rfl (r_addG rfl rfl h_t107) ?_
                        refine l_val rfl rfl rfl (r_assign (v := .int .i64 t107) rfl) ?_
                        refine l_nil ?_
                        refine c_close (t107, l104) p_4 m2 [0] (by exact ⟨rfl, rfl, rfl, trivial⟩) (by decide) rfl (by exact ⟨(by subst hn2; exact H112), trivial⟩) (Nat.lt_succ_self _)
                    ) (by kernel_rfl)
      · rintro l p gg H62 _
        replace H62 : R_SegmentsOf_j1 l = some r := H62
        refine c_tidyF [(4, .slice p.1 l.length p.2)] [rowV 55 2 (.slice p.1 l.length p.2) l.length (l.map e_tag_Segment)] rfl rfl ?_
        refine c_seq ?_
        refine c_seq ?_
        refine c_region ?_
        refine l_val rfl rfl rfl (r_move (v := .slice p.1 l.length p.2) rfl) ?_
        refine l_val rfl rfl rfl (r_len Try.underlying48 rfl) ?_
        refine l_val rfl rfl rfl (r_gtr rfl rfl) ?_
        refine l_nil ?_
        refine c_if (b := (decide (200 < (l.length : Int)))) rfl (fun hb => ?_) (fun hb => ?_)
        · have H63 := cnd_t hb H62; clear H62
          refine c_seq ?_
          refine c_region ?_
          refine l_val rfl rfl rfl (r_assign (v := .slice none 0 0) rfl) ?_
          refine l_val rfl rfl rfl (r_assign (v := .int .i64 4) rfl) ?_
          refine l_nil ?_
          refine c_ret ?_
          refine c_nilRow 55 2 ?_
          obtain rfl := Option.some.inj H63
          refine ret2 (v1 := .slice ((none, 0) : Option Addr × Nat).1 ([] : List T_tag_Segment).length ((none, 0) : Option Addr × Nat).2) (v2 := .int .i64 4) rfl rfl rfl (finX ((none, 0) : Option Addr × Nat) (i := 1) rfl rfl (Imp.refl _))
        · have H64 := cnd_f hb H62; clear H62
          refine c_skip ?_
          refine c_seq ?_
          refine c_region ?_
          refine l_val rfl rfl rfl (r_move (v := .slice p.1 l.length p.2) rfl) ?_
          refine l_val rfl rfl rfl (r_assign (v := .slice p.1 l.length p.2) rfl) ?_
          refine l_val rfl rfl rfl (r_assign (v := .int .i64 0) rfl) ?_
          refine l_nil ?_
          refine c_ret ?_
          obtain rfl := Option.some.inj H64
          refine ret2 (v1 := .slice p.1 l.length p.2) (v2 := .int .i64 0) rfl rfl rfl (finX p (i := 0) rfl rfl (Imp.refl _))
theorem k94 {a0 : T_tag_Segment} {a1 : Bool} {r : Int} (H : tag_checkSegment a0 a1 = some r) : Ret Try.prog 94 [.agg #[.int .i64 a0.Kind, str a0.Text], .bool a1] (.int .i64 r) := by
  refine enterRet (n := 26) Try.func94 rfl rfl rfl (fun wd => ?_)
  refine c_seq ?_
  refine c_region ?_
  refine l_box (cs := [.int .i64 a0.Kind, str a0.Text]) rfl rfl rfl rfl (fun b1 => ?_)
  refine l_val rfl rfl rfl (r_assign (v := .int .i64 0) rfl) ?_
  refine l_nil ?_
  refine c_seq ?_
  refine c_block ?_
  refine c_seq ?_
  refine c_region ?_
  refine l_val rfl rfl rfl (r_field Try.runUnderlying55 rfl Try.sizeOf3 rfl rfl) ?_
  refine l_load1 (i := 0) (v := .int .i64 a0.Kind) Try.isAgg3 rfl rfl rfl rfl rfl ?_
  obtain ⟨t8, h_t8, H10⟩ := bnd_some H; clear H
  refine l_call (k90 h_t8) Try.call90 rfl rfl rfl ?_
  refine l_val rfl rfl rfl (r_not rfl) ?_
  refine l_val rfl rfl rfl (r_assign (v := .bool (!t8)) rfl) ?_
  refine l_nil ?_
  refine c_if (b := (!t8)) rfl (fun hb => ?_) (fun hb => ?_)
  · have H11 := cnd_t hb H10; clear H10
    refine c_seq ?_
    refine c_region ?_
    refine l_val rfl rfl rfl (r_assign (v := .int .i64 10) rfl) ?_
    refine l_nil ?_
    refine c_ret ?_
    obtain rfl := Option.some.inj H11
    refine ret1 (v := .int .i64 10) rfl rfl (fin rfl)
  · have H12 := cnd_f hb H10; clear H10
    refine c_seq ?_
    refine c_region ?_
    refine l_val rfl rfl rfl (r_field Try.runUnderlying55 rfl Try.sizeOf3 rfl rfl) ?_
    refine l_load1 (i := 0) (v := .int .i64 a0.Kind) Try.isAgg3 rfl rfl rfl rfl rfl ?_
    refine l_val rfl rfl rfl (r_eql rfl rfl) ?_
    refine l_val rfl rfl rfl (r_move (v := .bool a1) rfl) ?_
    refine l_val rfl rfl rfl (r_neqB Try.underlying4 rfl rfl) ?_
    refine l_val rfl rfl rfl (r_assign (v := .bool (decide ((decide (a0.Kind = 218)) ≠ a1))) rfl) ?_
    refine l_nil ?_
    refine c_if (b := (decide ((decide (a0.Kind = 218)) ≠ a1))) rfl (fun hb => ?_) (fun hb => ?_)
    · have H13 := cnd_t hb H12; clear H12
      refine c_seq ?_
      refine c_region ?_
      refine l_val rfl rfl rfl (r_assign (v := .int .i64 5) rfl) ?_
      refine l_nil ?_
      refine c_ret ?_
      obtain rfl := Option.some.inj H13
      refine ret1 (v := .int .i64 5) rfl rfl (fin rfl)
    · have H14 := cnd_f hb H12; clear H12
      refine c_seq ?_
      refine c_region ?_
      refine l_val rfl rfl rfl (r_field Try.runUnderlying55 rfl Try.sizeOf3 rfl rfl) ?_
      refine l_load1 (i := 0) (v := .int .i64 a0.Kind) Try.isAgg3 rfl rfl rfl rfl rfl ?_
      refine l_val rfl rfl rfl (r_neq rfl rfl) ?_
      refine l_val rfl rfl rfl (r_move (v := .bool (decide (a0.Kind ≠ 218))) rfl) ?_
      refine split (fun hb => ?_) (fun hb => ?_)
      · have H15 := cnd_t hb H14; clear H14
        refine l_val rfl rfl rfl (r_field Try.runUnderlying55 rfl Try.sizeOf9 rfl rfl) ?_
        refine l_load1 (i := 0) (v := str a0.Text) Try.isAgg9 rfl rfl rfl rfl rfl ?_
        refine l_val rfl rfl rfl (r_lenT Try.underlying9 rfl) ?_
        refine l_val rfl rfl rfl (r_gtr rfl rfl) ?_
        refine l_val rfl rfl rfl (r_pickT (v := .bool (decide (65533 < (a0.Text.length : Int)))) rfl rfl) ?_
        refine l_val rfl rfl rfl (r_assign (v := .bool (decide (65533 < (a0.Text.length : Int)))) rfl) ?_
        refine l_nil ?_
        refine c_if (b := (decide (65533 < (a0.Text.length : Int)))) rfl (fun hb => ?_) (fun hb => ?_)
        · have H16 := cnd_t hb H15; clear H15
          refine c_seq ?_
          refine c_region ?_
          refine l_val rfl rfl rfl (r_assign (v := .int .i64 4) rfl) ?_
          refine l_nil ?_
          refine c_ret ?_
          obtain rfl := Option.some.inj H16
          refine ret1 (v := .int .i64 4) rfl rfl (fin rfl)
        · have H17 := cnd_f hb H15; clear H15
          refine c_skip ?_
          refine c_seq ?_
          refine c_region ?_
          refine l_val rfl rfl rfl (r_assign (v := .int .i64 0) rfl) ?_
          refine l_nil ?_
          refine c_ret ?_
          obtain rfl := Option.some.inj H17
          refine ret1 (v := .int .i64 0) rfl rfl (fin rfl)
      · have H18 := cnd_f hb H14; clear H14
        refine l_passed rfl rfl rfl ?_
        refine l_passed rfl rfl rfl ?_
        refine l_passed rfl rfl rfl ?_
        refine l_passed rfl rfl rfl ?_
        refine l_val rfl rfl rfl (r_pickF (v := .bool false) rfl rfl) ?_
        refine l_val rfl rfl rfl (r_assign (v := .bool false) rfl) ?_
        refine l_nil ?_
        refine c_false rfl ?_
        refine c_skip ?_
        refine c_seq ?_
        refine c_region ?_
        refine l_val rfl rfl rfl (r_assign (v := .int .i64 0) rfl) ?_
        refine l_nil ?_
        refine c_ret ?_
        obtain rfl := Option.some.inj H18
        refine ret1 (v := .int .i64 0) rfl rfl (fin rfl)
theorem k95 {a0 : Bool} {a1 : Int} {a2 : Int} {r : (List Int)} {w : World} {h : Heap} (hw : Know h w noS)  (H : tag_number a0 a1 a2 = some r) : Does Try.prog 95 (List.toArray [.bool a0, .int .i64 a1, .int .i64 a2]) w (fun v w' => ∃ x : (Option Addr × Nat), v = (.slice x.1 r.length x.2) ∧ Turn w w' noS (rowV 5 1 (.slice x.1 r.length x.2) r.length (r.map e_u8))) := by
  refine enter (n := 33) Try.func95 rfl rfl rfl noS [] (Sat.nil _ _) ?_
  refine c_seq ?_
  refine c_region ?_
  refine l_val rfl rfl rfl (r_assign (v := .slice none 0 0) rfl) ?_
  refine l_nil ?_
  refine c_seq ?_
  refine c_region ?_
  refine l_val rfl rfl rfl (r_move (v := .int .i64 a2) rfl) ?_
  obtain ⟨t11, h_t11, H15⟩ := bnd_some H; clear H
  refine l_make (rds := []) (makes_makeG (E := 5) (sz := 1) (f := e_u8) (xs := t11) Try.underlying95 (info_of Try.typeInfo5) rfl rfl rfl rfl rfl rfl ⟨rfl, rfl⟩ h_t11) rfl rfl rfl (fun p => ?_)
  refine l_val rfl rfl rfl (r_assign (v := .slice p.1 t11.length p.2) rfl) ?_
  refine l_nil ?_
  refine c_seq ?_
  refine c_seq ?_
  refine c_region ?_
  refine l_val rfl rfl rfl (r_move (v := .slice p.1 t11.length p.2) rfl) ?_
  refine l_val rfl rfl rfl (r_len Try.underlying95 rfl) ?_
  refine l_val rfl rfl rfl (r_move (v := .int .i64 0) rfl) ?_
  refine l_nil ?_
  refine c_block ?_
  refine c_fix (σ := Int × (List Int)) (τ := Unit) (fun next1 s => tag_number_l1 a0 a1 a2 t11 next1 s.1 s.2) (fun s t => [(0, .bool a0), (1, .int .i64 a1), (2, .int .i64 a2), (7, .slice p.1 t11.length p.2), (13, .int .i64 (t11.length : Int)), (14, .int .i64 s.1)]) (fun s t => [rowV 5 1 (.slice p.1 t11.length p.2) t11.length (s.2.map e_u8)]) (fun s t => t11.length = s.2.length) (0, t11) () [0] H15 (by exact rfl) (by exact ⟨rfl, rfl, rfl, rfl, rfl, rfl, trivial⟩) (by decide) rfl ?_
  rintro ⟨x14_2, l_2⟩ _ m1 gg H16 hl_2
  clear H15
  replace H16 : tag_number_l1 a0 a1 a2 t11 (it (fun next1 s => tag_number_l1 a0 a1 a2 t11 next1 s.1 s.2) m1) x14_2 l_2 = some r := H16
  generalize hn1 : it (fun next1 s => tag_number_l1 a0 a1 a2 t11 next1 s.1 s.2) m1 = next1 at H16
  refine c_tidyF [(0, .bool a0), (1, .int .i64 a1), (2, .int .i64 a2), (7, .slice p.1 t11.length p.2), (13, .int .i64 (t11.length : Int)), (14, .int .i64 x14_2)] [rowV 5 1 (.slice p.1 t11.length p.2) t11.length (l_2.map e_u8)] rfl rfl ?_
  refine c_seq ?_
  refine c_region ?_
  refine l_val rfl rfl rfl (r_lss rfl rfl) ?_
  refine l_nil ?_
  refine c_seq ?_
  refine c_if (b := (decide (x14_2 < (t11.length : Int)))) rfl (fun hb => ?_) (fun hb => ?_)
  · have H17 := cnd_t hb H16; clear H16
    refine c_skip ?_
    refine c_seq ?_
    refine c_block ?_
    refine c_seq ?_
    refine c_region ?_
    refine l_val rfl rfl rfl (r_move (v := .int .i64 x14_2) rfl) ?_
    refine l_val rfl rfl rfl (r_assign (v := .int .i64 x14_2) rfl) ?_
    refine l_nil ?_
    refine c_seq ?_
    refine c_region ?_
    refine l_val rfl rfl rfl (r_move (v := .int .i64 x14_2) rfl) ?_
    refine l_val rfl rfl rfl (r_assign (v := .int .i64 x14_2) rfl) ?_
    refine l_nil ?_
    refine c_meet (r := r) (σ := Int) (τ := Unit) (fun s => tag_number_j2 a1 x14_2 l_2 next1 s) (fun s t => [(0, .bool a0), (1, .int .i64 a1), (2, .int .i64 a2), (7, .slice p.1 t11.length p.2), (8, .int .i64 x14_2), (9, .int .i64 s), (13, .int .i64 (t11.length : Int)), (14, .int .i64 x14_2)]) (fun s t => [rowV 5 1 (.slice p.1 t11.length p.2) t11.length (l_2.map e_u8)]) (fun s t => True) ?_ ?_
    · refine c_seq ?_
      refine c_region ?_
      refine l_val rfl rfl rfl (r_move (v := .bool a0) rfl) ?_
      refine l_nil ?_
      refine c_if (b := a0) rfl (fun hb => ?_) (fun hb => ?_)
      · have H24 := cnd_t hb H17; clear H17
        refine c_region ?_
        refine l_val rfl rfl rfl (r_move (v := .int .i64 a2) rfl) ?_
        obtain ⟨t20, h_t20, H25⟩ := bnd_some H24; clear H24
        refine l_val rfl rfl rfl (r_subG rfl rfl h_t20) ?_
        refine l_val rfl rfl rfl (r_move (v := .int .i64 x14_2) rfl) ?_
        obtain ⟨t22, h_t22, H26⟩ := bnd_some H25; clear H25
        refine l_val rfl rfl rfl (r_subG rfl rfl h_t22) ?_
        refine l_val rfl rfl rfl (r_assign (v := .int .i64 t22) rfl) ?_
        refine l_nil ?_
        refine c_close t22 () 0 [0] (by exact ⟨rfl, rfl, rfl, rfl, rfl, rfl, rfl, rfl, trivial⟩) (by decide) rfl (by exact ⟨H26, trivial⟩) (Nat.lt_succ_self _)
      · have H27 := cnd_f hb H17; clear H17
        refine c_skip ?_
        refine c_close x14_2 () 0 [0] (by exact ⟨rfl, rfl, rfl, rfl, rfl, rfl, rfl, rfl, trivial⟩) (by decide) rfl (by exact ⟨H27, trivial⟩) (Nat.lt_succ_self _)
    · rintro x9 _ gg H18 _
      replace H18 : tag_number_j2 a1 x14_2 l_2 next1 x9 = some r := H18
      refine c_tidyF [(0, .bool a0), (1, .int .i64 a1), (2, .int .i64 a2), (7, .slice p.1 t11.length p.2), (8, .int .i64 x14_2), (9, .int .i64 x9), (13, .int .i64 (t11.length : Int)), (14, .int .i64 x14_2)] [rowV 5 1 (.slice p.1 t11.length p.2) t11.length (l_2.map e_u8)] rfl rfl ?_
      refine c_region ?_
      refine l_val rfl rfl rfl (r_move (v := .slice p.1 t11.length p.2) rfl) ?_
      refine l_val rfl rfl rfl (r_move (v := .int .i64 x9) rfl) ?_
      refine l_val rfl rfl rfl (r_move (v := .int .i64 a1) rfl) ?_
      refine l_val rfl rfl rfl (r_move (v := .int .i64 x14_2) rfl) ?_
      obtain ⟨t27, h_t27, H19⟩ := bnd_some H18; clear H18
      refine l_val rfl rfl rfl (r_mulG rfl rfl h_t27) ?_
      obtain ⟨t28, h_t28, H20⟩ := bnd_some H19; clear H19
      refine l_val rfl rfl rfl (r_shrG rfl rfl rfl h_t28) ?_
      refine l_val rfl rfl rfl (r_convG Try.runUnderlying3 Try.runUnderlying5 rfl (wr_u8 _)) ?_
      obtain ⟨t30, h_t30, H21⟩ := bnd_some H20; clear H20
      refine l_read (fun w hF hS => run_indexO Try.underlying95 Try.sizeOf5 rfl rfl (rowOf (i := 0) hS rfl) hl_2 h_t30) rfl rfl rfl ?_
      obtain ⟨l0, h_l0, H22⟩ := bnd_some H21; clear H21
      refine l_storeG (q := 0) (j := 0) (hm := hl_2) (f := e_u8) (vs := [.int .u8 (wU8 t28)]) Try.sizeOf5 rfl rfl rfl rfl rfl rfl rfl rfl rfl (fun y_ hy_ => by first | rfl | (cases hy_.symm.trans h_t30; rfl)) h_l0 ?_
      refine l_nil ?_
      refine c_region ?_
      obtain ⟨t31, h_t31, H23⟩ := bnd_some H22; clear H22
      refine l_val rfl rfl rfl (r_addG rfl rfl h_t31) ?_
      refine l_val rfl rfl rfl (r_move (v := .int .i64 t31) rfl) ?_
      refine l_nil ?_
      refine c_close (t31, l0) () m1 [0] (by exact ⟨rfl, rfl, rfl, rfl, rfl, rfl, trivial⟩) (by decide) rfl (by exact ⟨(by subst hn1; exact H23), (gSet_n hl_2 h_l0)⟩) (Nat.lt_succ_self _)
  · have H28 := cnd_f hb H16; clear H16
    refine c_exit ?_
    refine c_seq ?_
    refine c_region ?_
    refine l_val rfl rfl rfl (r_move (v := .slice p.1 t11.length p.2) rfl) ?_
    refine l_val rfl rfl rfl (r_assign (v := .slice p.1 t11.length p.2) rfl) ?_
    refine l_nil ?_
    refine c_ret ?_
    obtain rfl := Option.some.inj H28
    refine ret1 (v := .slice p.1 t11.length p.2) rfl rfl (finX p (i := 0) rfl (by rw [(hl_2 : t11.length = l_2.length)]) (Imp.of (by rw [(hl_2 : t11.length = l_2.length)])))
theorem k29 {a0 : (List T_tag_Segment)} {v0 : Value} {r : (List UInt8) × Int} {w : World} {h : Heap} (hw : Know h w noS) (f0 : FrS h 2 v0 (a0.map e_tag_Segment)) (H : tag_Joined a0 = some r) : Does Try.prog 29 (List.toArray [v0]) w (fun v w' => v = (.tuple #[str r.1, .int .i64 r.2]) ∧ Grow w w') := by
  refine enter (n := 67) Try.func29 rfl rfl rfl noS [] (Sat.nil _ _) ?_
  refine c_seq ?_
  refine c_region ?_
  refine l_val rfl rfl rfl (r_assign (v := str []) rfl) ?_
  refine l_val rfl rfl rfl (r_assign (v := .int .i64 0) rfl) ?_
  refine l_nil ?_
  refine c_seq ?_
  refine c_block ?_
  refine c_seq ?_
  refine c_region ?_
  refine l_val rfl rfl rfl (r_move (v := v0) rfl) ?_
  refine l_val rfl rfl rfl (r_lenF Try.underlying48 rfl f0 rfl) ?_
  refine l_val rfl rfl rfl (r_gtr rfl rfl) ?_
  refine l_val rfl rfl rfl (r_assign (v := .bool (decide (200 < (a0.length : Int)))) rfl) ?_
  refine l_nil ?_
  refine c_if (b := (decide (200 < (a0.length : Int)))) rfl (fun hb => ?_) (fun hb => ?_)
  · have H29 := cnd_t hb H; clear H
    refine c_seq ?_
    refine c_region ?_
    refine l_val rfl rfl rfl (r_assign (v := str []) rfl) ?_
    refine l_val rfl rfl rfl (r_assign (v := .int .i64 4) rfl) ?_
    refine l_nil ?_
    refine c_ret ?_
    obtain rfl := Option.some.inj H29
    refine ret2 (v1 := str []) (v2 := .int .i64 4) rfl rfl rfl (fin rfl)
  · have H30 := cnd_f hb H; clear H
    refine c_seq ?_
    refine c_region ?_
    refine l_val rfl rfl rfl (r_move (v := v0) rfl) ?_
    refine l_val rfl rfl rfl (r_lenF Try.underlying48 rfl f0 rfl) ?_
    refine l_val rfl rfl rfl (r_eql rfl rfl) ?_
    refine l_val rfl rfl rfl (r_assign (v := .bool (decide ((a0.length : Int) = 0))) rfl) ?_
    refine l_nil ?_
    refine c_if (b := (decide ((a0.length : Int) = 0))) rfl (fun hb => ?_) (fun hb => ?_)
    · have H31 := cnd_t hb H30; clear H30
      refine c_seq ?_
      refine c_region ?_
      refine l_val rfl rfl rfl (r_assign (v := str []) rfl) ?_
      refine l_val rfl rfl rfl (r_assign (v := .int .i64 5) rfl) ?_
      refine l_nil ?_
      refine c_ret ?_
      obtain rfl := Option.some.inj H31
      refine ret2 (v1 := str []) (v2 := .int .i64 5) rfl rfl rfl (fin rfl)
    · have H32 := cnd_f hb H30; clear H30
      refine c_skip ?_
      refine c_seq ?_
      refine c_region ?_
      refine l_buildSlice (vs := [.int .u8 255, .int .u8 216]) (cs := [.int .u8 255, .int .u8 216]) Try.underlying95 Try.sizeOf5 Try.zeroValue5 rfl rfl rfl rfl rfl rfl rfl (fun b4 => ?_)
      refine l_turn (turns_mark (i := 0) (rds := []) (f := e_u8) (xs := ([255, 216] : List Int)) (m := 2) (sz := 1) rfl Try.underlying95 Try.underlying5 rfl rfl rfl rfl rfl rfl) rfl rfl rfl (fun _ => ?_)
      refine l_val rfl rfl rfl (r_assign (v := .slice ((some ⟨b4, 0, none⟩, 2) : Option Addr × Nat).1 2 ((some ⟨b4, 0, none⟩, 2) : Option Addr × Nat).2) rfl) ?_
      refine l_nil ?_
      refine c_meet (r := r) (σ := (List Int)) (τ := (Option Addr × Nat) × Nat) (fun s => tag_Joined_j1 s) (fun s t => [(4, .slice t.1.1 t.2 t.1.2)]) (fun s t => [apV 5 1 (.slice t.1.1 t.2 t.1.2) t.2 (s.map e_u8)]) (fun s t => t.2 = s.length) ?_ ?_
      · refine c_seq ?_
        refine c_region ?_
        refine l_val rfl rfl rfl (r_move (v := v0) rfl) ?_
        refine l_val rfl rfl rfl (r_lenF Try.underlying48 rfl f0 rfl) ?_
        refine l_val rfl rfl rfl (r_move (v := .int .i64 0) rfl) ?_
        refine l_nil ?_
        refine c_block ?_
        refine c_fix (σ := Int × (List Int)) (τ := (Option Addr × Nat) × Nat) (fun next2 s => tag_Joined_l2 a0 next2 s.1 s.2) (fun s t => [(0, v0), (4, .slice t.1.1 t.2 t.1.2), (18, v0), (19, .int .i64 (a0.length : Int)), (20, .int .i64 s.1)]) (fun s t => [apV 5 1 (.slice t.1.1 t.2 t.1.2) t.2 (s.2.map e_u8)]) (fun s t => t.2 = s.2.length) (0, ([255, 216] : List Int)) (((some ⟨b4, 0, none⟩, 2) : Option Addr × Nat), 2) [0] H32 (by exact rfl) (by exact ⟨rfl, rfl, rfl, rfl, rfl, trivial⟩) (by decide) rfl ?_
        rintro ⟨x20_2, l_3⟩ ⟨p_3, n_2⟩ m2 gg H37 hl_3
        clear H32
        replace H37 : tag_Joined_l2 a0 (it (fun next2 s => tag_Joined_l2 a0 next2 s.1 s.2) m2) x20_2 l_3 = some r := H37
        generalize hn2 : it (fun next2 s => tag_Joined_l2 a0 next2 s.1 s.2) m2 = next2 at H37
        refine c_tidyF [(0, v0), (4, .slice p_3.1 n_2 p_3.2), (18, v0), (19, .int .i64 (a0.length : Int)), (20, .int .i64 x20_2)] [apV 5 1 (.slice p_3.1 n_2 p_3.2) n_2 (l_3.map e_u8)] rfl rfl ?_
        refine c_seq ?_
        refine c_region ?_
        refine l_val rfl rfl rfl (r_lss rfl rfl) ?_
        refine l_nil ?_
        refine c_seq ?_
        refine c_if (b := (decide (x20_2 < (a0.length : Int)))) rfl (fun hb => ?_) (fun hb => ?_)
        · have H38 := cnd_t hb H37; clear H37
          refine c_skip ?_
          refine c_meet (r := r) (σ := (List Int)) (τ := (Option Addr × Nat)) (fun s => tag_Joined_j3 x20_2 next2 s) (fun s t => [(0, v0), (4, .slice t.1 s.length t.2), (18, v0), (19, .int .i64 (a0.length : Int)), (20, .int .i64 x20_2)]) (fun s t => [apV 5 1 (.slice t.1 s.length t.2) s.length (s.map e_u8)]) (fun s t => True) ?_ ?_
          · refine c_block ?_
            refine c_seq ?_
            refine c_region ?_
            refine l_val rfl rfl rfl (r_move (v := .int .i64 x20_2) rfl) ?_
            obtain ⟨t23, h_t23, H41⟩ := bnd_some H38; clear H38
            refine l_val rfl rfl rfl (r_indexF Try.underlying48 Try.sizeOf55 rfl rfl f0 h_t23) ?_
            refine l_read (fun w hF hS => run_loadGN (j := 0) (vs := [.int .i64 t23.Kind, str t23.Text]) Try.isAgg55 Try.sizeOf55 rfl rfl (f0.row (hw.now hF)) h_t23 rfl) rfl rfl rfl ?_
            refine l_alloc (cs := [.int .i64 0, str []]) Try.zeroValue55 rfl rfl rfl (fun b6 => ?_)
            refine l_val rfl rfl rfl (r_assign (v := .int .i64 x20_2) rfl) ?_
            refine l_store (i := 1) (vs := [.int .i64 t23.Kind, str t23.Text]) (cs' := [.int .i64 t23.Kind, str t23.Text]) Try.sizeOf55 rfl rfl rfl rfl rfl rfl rfl rfl rfl ?_
            refine l_nil ?_
            refine c_seq ?_
            refine c_seq ?_
            refine c_region ?_
            refine l_loadN (i := 1) (vs := [.int .i64 t23.Kind, str t23.Text]) Try.isAgg55 Try.sizeOf55 rfl rfl rfl rfl rfl ?_
            refine l_val rfl rfl rfl (r_move (v := .int .i64 x20_2) rfl) ?_
            refine l_val rfl rfl rfl (r_move (v := v0) rfl) ?_
            refine l_val rfl rfl rfl (r_lenF Try.underlying48 rfl f0 rfl) ?_
            obtain ⟨t29, h_t29, H42⟩ := bnd_some H41; clear H41
            refine l_val rfl rfl rfl (r_subG rfl rfl h_t29) ?_
            refine l_val rfl rfl rfl (r_eql rfl rfl) ?_
            obtain ⟨t31, h_t31, H43⟩ := bnd_some H42; clear H42
            refine l_call (k94 h_t31) Try.call94 rfl rfl rfl ?_
            refine l_val rfl rfl rfl (r_assign (v := .int .i64 t31) rfl) ?_
            refine l_nil ?_
            refine c_seq ?_
            refine c_region ?_
            refine l_val rfl rfl rfl (r_move (v := .int .i64 t31) rfl) ?_
            refine l_val rfl rfl rfl (r_neq rfl rfl) ?_
            refine l_nil ?_
            refine c_if (b := (decide (t31 ≠ 0))) rfl (fun hb => ?_) (fun hb => ?_)
            · have H44 := cnd_t hb H43; clear H43
              refine c_seq ?_
              refine c_region ?_
              refine l_val rfl rfl rfl (r_move (v := .int .i64 t31) rfl) ?_
              refine l_val rfl rfl rfl (r_assign (v := str []) rfl) ?_
              refine l_val rfl rfl rfl (r_assign (v := .int .i64 t31) rfl) ?_
              refine l_nil ?_
              refine c_ret ?_
              obtain rfl := Option.some.inj H44
              refine ret2 (v1 := str []) (v2 := .int .i64 t31) rfl rfl rfl (fin rfl)
            · have H45 := cnd_f hb H43; clear H43
              refine c_skip ?_
              refine c_seq ?_
              refine c_region ?_
              refine l_val rfl rfl rfl (r_move (v := .slice p_3.1 n_2 p_3.2) rfl) ?_
              refine l_val rfl rfl rfl (r_field Try.runUnderlying55 rfl Try.sizeOf3 rfl rfl) ?_
              refine l_load1 (i := 1) (v := .int .i64 t23.Kind) Try.isAgg3 rfl rfl rfl rfl rfl ?_
              refine l_val rfl rfl rfl (r_convG Try.runUnderlying3 Try.runUnderlying5 rfl (wr_u8 _)) ?_
              refine l_buildSlice (vs := [.int .u8 255, .int .u8 (wU8 t23.Kind)]) (cs := [.int .u8 255, .int .u8 (wU8 t23.Kind)]) Try.underlying95 Try.sizeOf5 Try.zeroValue5 rfl rfl rfl rfl rfl rfl rfl (fun b7 => ?_)
              obtain ⟨l40, h_l40, H46⟩ := bnd_some H45; clear H45
              refine l_turn (turns_appA (i := 0) (hn := hl_3) (rds := [2]) (p := p_3) (sz := 1) (by_ := 1) (f := e_u8) (ys := l_3) (ls := ([255, (wU8 t23.Kind)] : List Int)) (V := .slice (some ⟨b7, 0, none⟩) 2 2) Try.underlying95 (info_of Try.typeInfo5) rfl rfl rfl rfl rfl rfl rfl rfl rfl rfl (fun w L' hF hS hi => row_box (i := 2) hS ((hi 2 (by simp)).trans rfl) rfl rfl) (fun _ => rfl) (fun _ => rfl) h_l40) rfl rfl rfl (fun p_5 => ?_)
              refine l_val rfl rfl rfl (r_assign (v := .slice p_5.1 l40.length p_5.2) rfl) ?_
              refine l_nil ?_
              refine c_meet (r := r) (σ := (List Int)) (τ := (Option Addr × Nat)) (fun s => tag_Joined_j4 x20_2 next2 t23 s) (fun s t => [(0, v0), (4, .slice t.1 s.length t.2), (6, .pointer (some ⟨b6, 0, none⟩)), (18, v0), (19, .int .i64 (a0.length : Int)), (20, .int .i64 x20_2)]) (fun s t => [apV 5 1 (.slice t.1 s.length t.2) s.length (s.map e_u8), cellsC b6 [.int .i64 t23.Kind, str t23.Text] 55]) (fun s t => True) ?_ ?_
              · refine c_seq ?_
                refine c_region ?_
                refine l_val rfl rfl rfl (r_field Try.runUnderlying55 rfl Try.sizeOf3 rfl rfl) ?_
                refine l_load1 (i := 1) (v := .int .i64 t23.Kind) Try.isAgg3 rfl rfl rfl rfl rfl ?_
                refine l_val rfl rfl rfl (r_neq rfl rfl) ?_
                refine l_nil ?_
                refine c_if (b := (decide (t23.Kind ≠ 218))) rfl (fun hb => ?_) (fun hb => ?_)
                · have H51 := cnd_t hb H46; clear H46
                  refine c_region ?_
                  refine l_val rfl rfl rfl (r_move (v := .slice p_5.1 l40.length p_5.2) rfl) ?_
                  refine l_val rfl rfl rfl (r_field Try.runUnderlying55 rfl Try.sizeOf9 rfl rfl) ?_
                  refine l_load1 (i := 1) (v := str t23.Text) Try.isAgg9 rfl rfl rfl rfl rfl ?_
                  refine l_val rfl rfl rfl (r_lenT Try.underlying9 rfl) ?_
                  obtain ⟨t48, h_t48, H52⟩ := bnd_some H51; clear H51
                  refine l_val rfl rfl rfl (r_addG rfl rfl h_t48) ?_
                  obtain ⟨t49, h_t49, H53⟩ := bnd_some H52; clear H52
                  refine l_make (makes_call (rds := []) (G := fun x : (Option Addr × Nat) => .slice x.1 t49.length x.2) (C := fun x : (Option Addr × Nat) => rowV 5 1 (.slice x.1 t49.length x.2) t49.length (t49.map e_u8)) (fun w L' hF hS hi => k95 (know_all w)  h_t49) Try.call95 rfl) rfl rfl rfl (fun p_8 => ?_)
                  obtain ⟨l50, h_l50, H54⟩ := bnd_some H53; clear H53
                  refine l_turn (turns_appA (i := 0) (hn := rfl) (rds := [3]) (p := p_5) (sz := 1) (by_ := 1) (f := e_u8) (ys := l40) (ls := t49) (V := .slice p_8.1 t49.length p_8.2) Try.underlying95 (info_of Try.typeInfo5) rfl rfl rfl rfl rfl rfl rfl rfl rfl rfl (fun w L' hF hS hi => rowOf (i := 3) hS ((hi 3 (by simp)).trans rfl)) (fun _ => rfl) (fun _ => rfl) h_l50) rfl rfl rfl (fun p_9 => ?_)
                  refine l_val rfl rfl rfl (r_assign (v := .slice p_9.1 l50.length p_9.2) rfl) ?_
                  refine l_nil ?_
                  refine c_close l50 p_9 0 [0, 1] (by exact ⟨rfl, rfl, rfl, rfl, rfl, rfl, trivial⟩) (by decide) rfl (by exact ⟨H54, trivial⟩) (Nat.lt_succ_self _)
                · have H55 := cnd_f hb H46; clear H46
                  refine c_skip ?_
                  refine c_close l40 p_5 0 [0, 1] (by exact ⟨rfl, rfl, rfl, rfl, rfl, rfl, trivial⟩) (by decide) rfl (by exact ⟨H55, trivial⟩) (Nat.lt_succ_self _)
              · rintro l_5 p_6 gg H47 _
                replace H47 : tag_Joined_j4 x20_2 next2 t23 l_5 = some r := H47
                refine c_tidyF [(0, v0), (4, .slice p_6.1 l_5.length p_6.2), (6, .pointer (some ⟨b6, 0, none⟩)), (18, v0), (19, .int .i64 (a0.length : Int)), (20, .int .i64 x20_2)] [apV 5 1 (.slice p_6.1 l_5.length p_6.2) l_5.length (l_5.map e_u8), cellsC b6 [.int .i64 t23.Kind, str t23.Text] 55] rfl rfl ?_
                refine c_seq ?_
                refine c_region ?_
                refine l_val rfl rfl rfl (r_move (v := .slice p_6.1 l_5.length p_6.2) rfl) ?_
                refine l_val rfl rfl rfl (r_len Try.underlying95 rfl) ?_
                refine l_val rfl rfl rfl (r_leq rfl rfl) ?_
                refine l_nil ?_
                refine c_if (b := (decide ((l_5.length : Int) ≤ 200000))) rfl (fun hb => ?_) (fun hb => ?_)
                · have H48 := cnd_t hb H47; clear H47
                  refine c_region ?_
                  refine l_val rfl rfl rfl (r_move (v := .slice p_6.1 l_5.length p_6.2) rfl) ?_
                  refine l_val rfl rfl rfl (r_field Try.runUnderlying55 rfl Try.sizeOf9 rfl rfl) ?_
                  refine l_load1 (i := 1) (v := str t23.Text) Try.isAgg9 rfl rfl rfl rfl rfl ?_
                  obtain ⟨l57, h_l57, H49⟩ := bnd_some H48; clear H48
                  refine l_turn (turns_strA (i := 0) (rds := []) (p := p_6) (f := e_u8) (ys := l_5) rfl Try.underlying95 Try.underlying9 (info_of Try.typeInfo5) rfl rfl rfl rfl rfl rfl (fun _ => rfl) h_l57) rfl rfl rfl (fun p_7 => ?_)
                  refine l_val rfl rfl rfl (r_assign (v := .slice p_7.1 l57.length p_7.2) rfl) ?_
                  refine l_nil ?_
                  refine c_close l57 p_7 0 [0] (by exact ⟨rfl, rfl, rfl, rfl, rfl, trivial⟩) (by decide) rfl (by exact ⟨H49, trivial⟩) (Nat.lt_succ_self _)
                · have H50 := cnd_f hb H47; clear H47
                  refine c_skip ?_
                  refine c_close l_5 p_6 0 [0] (by exact ⟨rfl, rfl, rfl, rfl, rfl, trivial⟩) (by decide) rfl (by exact ⟨H50, trivial⟩) (Nat.lt_succ_self _)
          · rintro l_4 p_4 gg H39 _
            replace H39 : tag_Joined_j3 x20_2 next2 l_4 = some r := H39
            refine c_tidyF [(0, v0), (4, .slice p_4.1 l_4.length p_4.2), (18, v0), (19, .int .i64 (a0.length : Int)), (20, .int .i64 x20_2)] [apV 5 1 (.slice p_4.1 l_4.length p_4.2) l_4.length (l_4.map e_u8)] rfl rfl ?_
            refine c_region ?_
            obtain ⟨t58, h_t58, H40⟩ := bnd_some H39; clear H39
            refine l_val rfl rfl rfl (r_addG rfl rfl h_t58) ?_
            refine l_val rfl rfl rfl (r_move (v := .int .i64 t58) rfl) ?_
            refine l_nil ?_
            refine c_close (t58, l_4) (p_4, l_4.length) m2 [0] (by exact ⟨rfl, rfl, rfl, rfl, rfl, trivial⟩) (by decide) rfl (by exact ⟨(by subst hn2; exact H40), rfl⟩) (Nat.lt_succ_self _)
        · have H56 := cnd_f hb H37; clear H37
          refine c_exit ?_
          refine c_close l_3 (p_3, n_2) 0 [0] (by exact ⟨rfl, trivial⟩) (by decide) rfl (by exact ⟨H56, hl_3⟩) (Nat.lt_succ_self _)
      · rintro l ⟨p, n⟩ gg H33 hl
        replace H33 : tag_Joined_j1 l = some r := H33
        refine c_tidyF [(4, .slice p.1 n p.2)] [apV 5 1 (.slice p.1 n p.2) n (l.map e_u8)] rfl rfl ?_
        refine c_seq ?_
        refine c_region ?_
        refine l_val rfl rfl rfl (r_move (v := .slice p.1 n p.2) rfl) ?_
        refine l_buildSlice (vs := [.int .u8 255, .int .u8 217]) (cs := [.int .u8 255, .int .u8 217]) Try.underlying95 Try.sizeOf5 Try.zeroValue5 rfl rfl rfl rfl rfl rfl rfl (fun b5 => ?_)
        obtain ⟨l61, h_l61, H34⟩ := bnd_some H33; clear H33
        refine l_turn (turns_appA (i := 0) (hn := hl) (rds := [1]) (p := p) (sz := 1) (by_ := 1) (f := e_u8) (ys := l) (ls := ([255, 217] : List Int)) (V := .slice (some ⟨b5, 0, none⟩) 2 2) Try.underlying95 (info_of Try.typeInfo5) rfl rfl rfl rfl rfl rfl rfl rfl rfl rfl (fun w L' hF hS hi => row_box (i := 1) hS ((hi 1 (by simp)).trans rfl) rfl rfl) (fun _ => rfl) (fun _ => rfl) h_l61) rfl rfl rfl (fun p_2 => ?_)
        refine l_val rfl rfl rfl (r_assign (v := .slice p_2.1 l61.length p_2.2) rfl) ?_
        refine l_nil ?_
        refine c_seq ?_
        refine c_seq ?_
        refine c_region ?_
        refine l_val rfl rfl rfl (r_move (v := .slice p_2.1 l61.length p_2.2) rfl) ?_
        refine l_val rfl rfl rfl (r_len Try.underlying95 rfl) ?_
        refine l_val rfl rfl rfl (r_gtr rfl rfl) ?_
        refine l_nil ?_
        refine c_if (b := (decide (200000 < (l61.length : Int)))) rfl (fun hb => ?_) (fun hb => ?_)
        · have H35 := cnd_t hb H34; clear H34
          refine c_seq ?_
          refine c_region ?_
          refine l_val rfl rfl rfl (r_assign (v := str []) rfl) ?_
          refine l_val rfl rfl rfl (r_assign (v := .int .i64 4) rfl) ?_
          refine l_nil ?_
          refine c_ret ?_
          obtain rfl := Option.some.inj H35
          refine ret2 (v1 := str []) (v2 := .int .i64 4) rfl rfl rfl (fin rfl)
        · have H36 := cnd_f hb H34; clear H34
          refine c_skip ?_
          refine c_seq ?_
          refine c_region ?_
          refine l_val rfl rfl rfl (r_move (v := .slice p_2.1 l61.length p_2.2) rfl) ?_
          refine l_read (fun w hF hS => run_bytes (f := e_u8) (xs := l61) rfl Try.underlying95 Try.underlying5 Try.underlying9 rfl (fun _ => rfl) (apOf (i := 0) hS rfl)) rfl rfl rfl ?_
          refine l_val rfl rfl rfl (r_assign (v := str (toStr l61)) rfl) ?_
          refine l_val rfl rfl rfl (r_assign (v := .int .i64 0) rfl) ?_
          refine l_nil ?_
          refine c_ret ?_
          obtain rfl := Option.some.inj H36
          refine ret2 (v1 := str (toStr l61)) (v2 := .int .i64 0) rfl rfl rfl (fin rfl)
theorem k96 {a0 : Bool} {a1 : Int} {a2 : Int} {r : (List UInt8)} (H : R_number a0 a1 a2 = some r) : Ret Try.prog 96 [.bool a0, .int .i64 a1, .int .i64 a2] (str r) := by
  refine enterRet (n := 34) Try.func96 rfl rfl rfl (fun wd => ?_)
  refine c_seq ?_
  refine c_region ?_
  refine l_val rfl rfl rfl (r_assign (v := str []) rfl) ?_
  refine l_nil ?_
  refine c_seq ?_
  refine c_region ?_
  refine l_val rfl rfl rfl (r_move (v := .int .i64 a2) rfl) ?_
  obtain ⟨t11, h_t11, H16⟩ := bnd_some H; clear H
  refine l_make (rds := []) (makes_makeG (E := 5) (sz := 1) (f := e_u8) (xs := t11) Try.underlying95 (info_of Try.typeInfo5) rfl rfl rfl rfl rfl rfl ⟨rfl, rfl⟩ h_t11) rfl rfl rfl (fun p => ?_)
  refine l_val rfl rfl rfl (r_assign (v := .slice p.1 t11.length p.2) rfl) ?_
  refine l_nil ?_
  refine c_meet (r := r) (σ := (List Int)) (τ := Unit) (fun s => R_number_j1 s) (fun s t => [(7, .slice p.1 t11.length p.2)]) (fun s t => [rowV 5 1 (.slice p.1 t11.length p.2) t11.length (s.map e_u8)]) (fun s t => t11.length = s.length) ?_ ?_
  · refine c_seq ?_
    refine c_region ?_
    refine l_val rfl rfl rfl (r_move (v := .slice p.1 t11.length p.2) rfl) ?_
    refine l_val rfl rfl rfl (r_len Try.underlying95 rfl) ?_
    refine l_val rfl rfl rfl (r_move (v := .int .i64 0) rfl) ?_
    refine l_nil ?_
    refine c_block ?_
    refine c_fix (σ := Int × (List Int)) (τ := Unit) (fun next2 s => R_number_l2 a0 a1 a2 t11 next2 s.1 s.2) (fun s t => [(0, .bool a0), (1, .int .i64 a1), (2, .int .i64 a2), (7, .slice p.1 t11.length p.2), (13, .int .i64 (t11.length : Int)), (14, .int .i64 s.1)]) (fun s t => [rowV 5 1 (.slice p.1 t11.length p.2) t11.length (s.2.map e_u8)]) (fun s t => t11.length = s.2.length) (0, t11) () [0] H16 (by exact rfl) (by exact ⟨rfl, rfl, rfl, rfl, rfl, rfl, trivial⟩) (by decide) rfl ?_
    rintro ⟨x14_2, l_3⟩ _ m2 gg H18 hl_3
    clear H16
    replace H18 : R_number_l2 a0 a1 a2 t11 (it (fun next2 s => R_number_l2 a0 a1 a2 t11 next2 s.1 s.2) m2) x14_2 l_3 = some r := H18
    generalize hn2 : it (fun next2 s => R_number_l2 a0 a1 a2 t11 next2 s.1 s.2) m2 = next2 at H18
    refine c_tidyF [(0, .bool a0), (1, .int .i64 a1), (2, .int .i64 a2), (7, .slice p.1 t11.length p.2), (13, .int .i64 (t11.length : Int)), (14, .int .i64 x14_2)] [rowV 5 1 (.slice p.1 t11.length p.2) t11.length (l_3.map e_u8)] rfl rfl ?_
    refine c_seq ?_
    refine c_region ?_
    refine l_val rfl rfl rfl (r_lss rfl rfl) ?_
    refine l_nil ?_
    refine c_seq ?_
    refine c_if (b := (decide (x14_2 < (t11.length : Int)))) rfl (fun hb => ?_) (fun hb => ?_)
    · have H19 := cnd_t hb H18; clear H18
      refine c_skip ?_
      refine c_seq ?_
      refine c_block ?_
      refine c_seq ?_
      refine c_region ?_
      refine l_val rfl rfl rfl (r_move (v := .int .i64 x14_2) rfl) ?_
      refine l_val rfl rfl rfl (r_assign (v := .int .i64 x14_2) rfl) ?_
      refine l_nil ?_
      refine c_seq ?_
      refine c_region ?_
      refine l_val rfl rfl rfl (r_move (v := .int .i64 x14_2) rfl) ?_
      refine l_val rfl rfl rfl (r_assign (v := .int .i64 x14_2) rfl) ?_
      refine l_nil ?_
      refine c_meet (r := r) (σ := Int) (τ := Unit) (fun s => R_number_j3 a1 x14_2 l_3 next2 s) (fun s t => [(0, .bool a0), (1, .int .i64 a1), (2, .int .i64 a2), (7, .slice p.1 t11.length p.2), (8, .int .i64 x14_2), (9, .int .i64 s), (13, .int .i64 (t11.length : Int)), (14, .int .i64 x14_2)]) (fun s t => [rowV 5 1 (.slice p.1 t11.length p.2) t11.length (l_3.map e_u8)]) (fun s t => True) ?_ ?_
      · refine c_seq ?_
        refine c_region ?_
        refine l_val rfl rfl rfl (r_move (v := .bool a0) rfl) ?_
        refine l_nil ?_
        refine c_if (b := a0) rfl (fun hb => ?_) (fun hb => ?_)
        · have H26 := cnd_t hb H19; clear H19
          refine c_region ?_
          refine l_val rfl rfl rfl (r_move (v := .int .i64 a2) rfl) ?_
          obtain ⟨t20, h_t20, H27⟩ := bnd_some H26; clear H26
          refine l_val rfl rfl rfl (r_subG rfl rfl h_t20) ?_
          refine l_val rfl rfl rfl (r_move (v := .int .i64 x14_2) rfl) ?_
          obtain ⟨t22, h_t22, H28⟩ := bnd_some H27; clear H27
          refine l_val rfl rfl rfl (r_subG rfl rfl h_t22) ?_
          refine l_val rfl rfl rfl (r_assign (v := .int .i64 t22) rfl) ?_
          refine l_nil ?_
          refine c_close t22 () 0 [0] (by exact ⟨rfl, rfl, rfl, rfl, rfl, rfl, rfl, rfl, trivial⟩) (by decide) rfl (by exact ⟨H28, trivial⟩) (Nat.lt_succ_self _)
        · have H29 := cnd_f hb H19; clear H19
          refine c_skip ?_
          refine c_close x14_2 () 0 [0] (by exact ⟨rfl, rfl, rfl, rfl, rfl, rfl, rfl, rfl, trivial⟩) (by decide) rfl (by exact ⟨H29, trivial⟩) (Nat.lt_succ_self _)
      · rintro x9 _ gg H20 _
        replace H20 : R_number_j3 a1 x14_2 l_3 next2 x9 = some r := H20
        refine c_tidyF [(0, .bool a0), (1, .int .i64 a1), (2, .int .i64 a2), (7, .slice p.1 t11.length p.2), (8, .int .i64 x14_2), (9, .int .i64 x9), (13, .int .i64 (t11.length : Int)), (14, .int .i64 x14_2)] [rowV 5 1 (.slice p.1 t11.length p.2) t11.length (l_3.map e_u8)] rfl rfl ?_
        refine c_region ?_
        refine l_val rfl rfl rfl (r_move (v := .slice p.1 t11.length p.2) rfl) ?_
        refine l_val rfl rfl rfl (r_move (v := .int .i64 x9) rfl) ?_
        refine l_val rfl rfl rfl (r_move (v := .int .i64 a1) rfl) ?_
        refine l_val rfl rfl rfl (r_move (v := .int .i64 x14_2) rfl) ?_
        obtain ⟨t27, h_t27, H21⟩ := bnd_some H20; clear H20
        refine l_val rfl rfl rfl (r_mulG rfl rfl h_t27) ?_
        obtain ⟨t28, h_t28, H22⟩ := bnd_some H21; clear H21
        refine l_val rfl rfl rfl (r_shrG rfl rfl rfl h_t28) ?_
        refine l_val rfl rfl rfl (r_convG Try.runUnderlying3 Try.runUnderlying5 rfl (wr_u8 _)) ?_
        obtain ⟨t30, h_t30, H23⟩ := bnd_some H22; clear H22
        refine l_read (fun w hF hS => run_indexO Try.underlying95 Try.sizeOf5 rfl rfl (rowOf (i := 0) hS rfl) hl_3 h_t30) rfl rfl rfl ?_
        obtain ⟨l0, h_l0, H24⟩ := bnd_some H23; clear H23
        refine l_storeG (q := 0) (j := 0) (hm := hl_3) (f := e_u8) (vs := [.int .u8 (wU8 t28)]) Try.sizeOf5 rfl rfl rfl rfl rfl rfl rfl rfl rfl (fun y_ hy_ => by first | rfl | (cases hy_.symm.trans h_t30; rfl)) h_l0 ?_
        refine l_nil ?_
        refine c_region ?_
        obtain ⟨t31, h_t31, H25⟩ := bnd_some H24; clear H24
        refine l_val rfl rfl rfl (r_addG rfl rfl h_t31) ?_
        refine l_val rfl rfl rfl (r_move (v := .int .i64 t31) rfl) ?_
        refine l_nil ?_
        refine c_close (t31, l0) () m2 [0] (by exact ⟨rfl, rfl, rfl, rfl, rfl, rfl, trivial⟩) (by decide) rfl (by exact ⟨(by subst hn2; exact H25), (gSet_n hl_3 h_l0)⟩) (Nat.lt_succ_self _)
    · have H30 := cnd_f hb H18; clear H18
      refine c_exit ?_
      refine c_close l_3 () 0 [0] (by exact ⟨rfl, trivial⟩) (by decide) rfl (by exact ⟨H30, hl_3⟩) (Nat.lt_succ_self _)
  · rintro l _ gg H17 hl
    replace H17 : R_number_j1 l = some r := H17
    refine c_tidyF [(7, .slice p.1 t11.length p.2)] [rowV 5 1 (.slice p.1 t11.length p.2) t11.length (l.map e_u8)] rfl rfl ?_
    refine c_seq ?_
    refine c_region ?_
    refine l_val rfl rfl rfl (r_move (v := .slice p.1 t11.length p.2) rfl) ?_
    refine l_read (fun w hF hS => run_bytes (f := e_u8) (xs := l) hl Try.underlying95 Try.underlying5 Try.underlying9 rfl (fun _ => rfl) (rowOf (i := 0) hS rfl)) rfl rfl rfl ?_
    refine l_val rfl rfl rfl (r_assign (v := str (toStr l)) rfl) ?_
    refine l_nil ?_
    refine c_ret ?_
    obtain rfl := Option.some.inj H17
    refine ret1 (v := str (toStr l)) rfl rfl (fin rfl)
theorem k30 {a0 : (List T_tag_Segment)} {v0 : Value} {r : (List UInt8) × Int} {w : World} {h : Heap} (hw : Know h w noS) (f0 : FrS h 2 v0 (a0.map e_tag_Segment)) (H : R_JoinedOf a0 = some r) : Does Try.prog 30 (List.toArray [v0]) w (fun v w' => v = (.tuple #[str r.1, .int .i64 r.2]) ∧ Grow w w') := by
  refine enter (n := 74) Try.func30 rfl rfl rfl noS [] (Sat.nil _ _) ?_
  refine c_seq ?_
  refine c_region ?_
  refine l_val rfl rfl rfl (r_assign (v := str []) rfl) ?_
  refine l_val rfl rfl rfl (r_assign (v := .int .i64 0) rfl) ?_
  refine l_nil ?_
  refine c_seq ?_
  refine c_seq ?_
  refine c_region ?_
  refine l_val rfl rfl rfl (r_move (v := v0) rfl) ?_
  refine l_val rfl rfl rfl (r_lenF Try.underlying48 rfl f0 rfl) ?_
  refine l_val rfl rfl rfl (r_gtr rfl rfl) ?_
  refine l_nil ?_
  refine c_if (b := (decide (200 < (a0.length : Int)))) rfl (fun hb => ?_) (fun hb => ?_)
  · have H34 := cnd_t hb H; clear H
    refine c_seq ?_
    refine c_region ?_
    refine l_val rfl rfl rfl (r_assign (v := str []) rfl) ?_
    refine l_val rfl rfl rfl (r_assign (v := .int .i64 4) rfl) ?_
    refine l_nil ?_
    refine c_ret ?_
    obtain rfl := Option.some.inj H34
    refine ret2 (v1 := str []) (v2 := .int .i64 4) rfl rfl rfl (fin rfl)
  · have H35 := cnd_f hb H; clear H
    refine c_skip ?_
    refine c_seq ?_
    refine c_seq ?_
    refine c_region ?_
    refine l_val rfl rfl rfl (r_move (v := v0) rfl) ?_
    refine l_val rfl rfl rfl (r_lenF Try.underlying48 rfl f0 rfl) ?_
    refine l_val rfl rfl rfl (r_eql rfl rfl) ?_
    refine l_nil ?_
    refine c_if (b := (decide ((a0.length : Int) = 0))) rfl (fun hb => ?_) (fun hb => ?_)
    · have H36 := cnd_t hb H35; clear H35
      refine c_seq ?_
      refine c_region ?_
      refine l_val rfl rfl rfl (r_assign (v := str []) rfl) ?_
      refine l_val rfl rfl rfl (r_assign (v := .int .i64 5) rfl) ?_
      refine l_nil ?_
      refine c_ret ?_
      obtain rfl := Option.some.inj H36
      refine ret2 (v1 := str []) (v2 := .int .i64 5) rfl rfl rfl (fin rfl)
    · have H37 := cnd_f hb H35; clear H35
      refine c_skip ?_
      refine c_seq ?_
      refine c_region ?_
      refine l_val rfl rfl rfl (r_assign (v := str [255, 216]) rfl) ?_
      refine l_nil ?_
      refine c_meet (r := r) (σ := (List UInt8)) (τ := Unit) (fun s => R_JoinedOf_j1 s) (fun s t => [(4, str s)]) (fun s t => []) (fun s t => True) ?_ ?_
      · refine c_seq ?_
        refine c_region ?_
        refine l_val rfl rfl rfl (r_move (v := v0) rfl) ?_
        refine l_val rfl rfl rfl (r_lenF Try.underlying48 rfl f0 rfl) ?_
        refine l_val rfl rfl rfl (r_move (v := .int .i64 0) rfl) ?_
        refine l_nil ?_
        refine c_block ?_
        refine c_fix (σ := (List UInt8) × Int) (τ := Unit) (fun next2 s => R_JoinedOf_l2 a0 next2 s.1 s.2) (fun s t => [(0, v0), (4, str s.1), (14, v0), (15, .int .i64 (a0.length : Int)), (16, .int .i64 s.2)]) (fun s t => []) (fun s t => True) ([255, 216], 0) () [] H37 (by exact trivial) (by exact ⟨rfl, rfl, rfl, rfl, rfl, trivial⟩) (by decide) rfl ?_
        rintro ⟨x4_3, x16_2⟩ _ m2 gg H42 _
        clear H37
        replace H42 : R_JoinedOf_l2 a0 (it (fun next2 s => R_JoinedOf_l2 a0 next2 s.1 s.2) m2) x4_3 x16_2 = some r := H42
        generalize hn2 : it (fun next2 s => R_JoinedOf_l2 a0 next2 s.1 s.2) m2 = next2 at H42
        refine c_tidyF [(0, v0), (4, str x4_3), (14, v0), (15, .int .i64 (a0.length : Int)), (16, .int .i64 x16_2)] [] rfl rfl ?_
        refine c_seq ?_
        refine c_region ?_
        refine l_val rfl rfl rfl (r_lss rfl rfl) ?_
        refine l_nil ?_
        refine c_seq ?_
        refine c_if (b := (decide (x16_2 < (a0.length : Int)))) rfl (fun hb => ?_) (fun hb => ?_)
        · have H43 := cnd_t hb H42; clear H42
          refine c_skip ?_
          refine c_seq ?_
          refine c_block ?_
          refine c_seq ?_
          refine c_region ?_
          refine l_val rfl rfl rfl (r_move (v := .int .i64 x16_2) rfl) ?_
          obtain ⟨t19, h_t19, H44⟩ := bnd_some H43; clear H43
          refine l_val rfl rfl rfl (r_indexF Try.underlying48 Try.sizeOf55 rfl rfl f0 h_t19) ?_
          refine l_read (fun w hF hS => run_loadGN (j := 0) (vs := [.int .i64 t19.Kind, str t19.Text]) Try.isAgg55 Try.sizeOf55 rfl rfl (f0.row (hw.now hF)) h_t19 rfl) rfl rfl rfl ?_
          refine l_alloc (cs := [.int .i64 0, str []]) Try.zeroValue55 rfl rfl rfl (fun b2 => ?_)
          refine l_val rfl rfl rfl (r_assign (v := .int .i64 x16_2) rfl) ?_
          refine l_store (i := 0) (vs := [.int .i64 t19.Kind, str t19.Text]) (cs' := [.int .i64 t19.Kind, str t19.Text]) Try.sizeOf55 rfl rfl rfl rfl rfl rfl rfl rfl rfl ?_
          refine l_nil ?_
          refine c_seq ?_
          refine c_region ?_
          refine l_val rfl rfl rfl (r_field Try.runUnderlying55 rfl Try.sizeOf3 rfl rfl) ?_
          refine l_load1 (i := 0) (v := .int .i64 t19.Kind) Try.isAgg3 rfl rfl rfl rfl rfl ?_
          refine l_val rfl rfl rfl (r_eql rfl rfl) ?_
          refine l_val rfl rfl rfl (r_assign (v := .bool (decide (t19.Kind = 218))) rfl) ?_
          refine l_nil ?_
          refine c_meet (r := r) (σ := Unit) (τ := Unit) (fun s => R_JoinedOf_j3 x4_3 x16_2 next2 t19) (fun s t => [(0, v0), (4, str x4_3), (6, .pointer (some ⟨b2, 0, none⟩)), (7, .bool (decide (t19.Kind = 218))), (14, v0), (15, .int .i64 (a0.length : Int)), (16, .int .i64 x16_2)]) (fun s t => [cellsC b2 [.int .i64 t19.Kind, str t19.Text] 55]) (fun s t => True) ?_ ?_
          · refine c_block ?_
            refine c_seq ?_
            refine c_region ?_
            refine l_val rfl rfl rfl (r_field Try.runUnderlying55 rfl Try.sizeOf3 rfl rfl) ?_
            refine l_load1 (i := 0) (v := .int .i64 t19.Kind) Try.isAgg3 rfl rfl rfl rfl rfl ?_
            obtain ⟨t27, h_t27, H56⟩ := bnd_some H44; clear H44
            refine l_call (k93 h_t27) Try.call93 rfl rfl rfl ?_
            refine l_val rfl rfl rfl (r_not rfl) ?_
            refine l_val rfl rfl rfl (r_assign (v := .bool (!t27)) rfl) ?_
            refine l_nil ?_
            refine c_if (b := (!t27)) rfl (fun hb => ?_) (fun hb => ?_)
            · have H57 := cnd_t hb H56; clear H56
              refine c_seq ?_
              refine c_region ?_
              refine l_val rfl rfl rfl (r_assign (v := str []) rfl) ?_
              refine l_val rfl rfl rfl (r_assign (v := .int .i64 10) rfl) ?_
              refine l_nil ?_
              refine c_ret ?_
              obtain rfl := Option.some.inj H57
              refine ret2 (v1 := str []) (v2 := .int .i64 10) rfl rfl rfl (fin rfl)
            · have H58 := cnd_f hb H56; clear H56
              refine c_seq ?_
              refine c_region ?_
              refine l_val rfl rfl rfl (r_move (v := .bool (decide (t19.Kind = 218))) rfl) ?_
              refine l_val rfl rfl rfl (r_move (v := .int .i64 x16_2) rfl) ?_
              refine l_val rfl rfl rfl (r_move (v := v0) rfl) ?_
              refine l_val rfl rfl rfl (r_lenF Try.underlying48 rfl f0 rfl) ?_
              obtain ⟨t34, h_t34, H59⟩ := bnd_some H58; clear H58
              refine l_val rfl rfl rfl (r_subG rfl rfl h_t34) ?_
              refine l_val rfl rfl rfl (r_eql rfl rfl) ?_
              refine l_val rfl rfl rfl (r_neqB Try.underlying4 rfl rfl) ?_
              refine l_val rfl rfl rfl (r_assign (v := .bool (decide ((decide (t19.Kind = 218)) ≠ (decide (x16_2 = t34))))) rfl) ?_
              refine l_nil ?_
              refine c_if (b := (decide ((decide (t19.Kind = 218)) ≠ (decide (x16_2 = t34))))) rfl (fun hb => ?_) (fun hb => ?_)
              · have H60 := cnd_t hb H59; clear H59
                refine c_seq ?_
                refine c_region ?_
                refine l_val rfl rfl rfl (r_assign (v := str []) rfl) ?_
                refine l_val rfl rfl rfl (r_assign (v := .int .i64 5) rfl) ?_
                refine l_nil ?_
                refine c_ret ?_
                obtain rfl := Option.some.inj H60
                refine ret2 (v1 := str []) (v2 := .int .i64 5) rfl rfl rfl (fin rfl)
              · have H61 := cnd_f hb H59; clear H59
                refine c_seq ?_
                refine c_region ?_
                refine l_val rfl rfl rfl (r_move (v := .bool (decide (t19.Kind = 218))) rfl) ?_
                refine l_val rfl rfl rfl (r_not rfl) ?_
                refine l_val rfl rfl rfl (r_move (v := .bool (!(decide (t19.Kind = 218)))) rfl) ?_
                refine split (fun hb => ?_) (fun hb => ?_)
                · have H62 := cnd_t hb H61; clear H61
                  refine l_val rfl rfl rfl (r_field Try.runUnderlying55 rfl Try.sizeOf9 rfl rfl) ?_
                  refine l_load1 (i := 0) (v := str t19.Text) Try.isAgg9 rfl rfl rfl rfl rfl ?_
                  refine l_val rfl rfl rfl (r_lenT Try.underlying9 rfl) ?_
                  refine l_val rfl rfl rfl (r_gtr rfl rfl) ?_
                  refine l_val rfl rfl rfl (r_pickT (v := .bool (decide (65533 < (t19.Text.length : Int)))) rfl rfl) ?_
                  refine l_val rfl rfl rfl (r_assign (v := .bool (decide (65533 < (t19.Text.length : Int)))) rfl) ?_
                  refine l_nil ?_
                  refine c_if (b := (decide (65533 < (t19.Text.length : Int)))) rfl (fun hb => ?_) (fun hb => ?_)
                  · have H63 := cnd_t hb H62; clear H62
                    refine c_seq ?_
                    refine c_region ?_
                    refine l_val rfl rfl rfl (r_assign (v := str []) rfl) ?_
                    refine l_val rfl rfl rfl (r_assign (v := .int .i64 4) rfl) ?_
                    refine l_nil ?_
                    refine c_ret ?_
                    obtain rfl := Option.some.inj H63
                    refine ret2 (v1 := str []) (v2 := .int .i64 4) rfl rfl rfl (fin rfl)
                  · have H64 := cnd_f hb H62; clear H62
                    refine c_skip ?_
                    refine c_close () () 0 [0] (by exact ⟨rfl, rfl, rfl, rfl, rfl, rfl, rfl, trivial⟩) (by decide) rfl (by exact ⟨H64, trivial⟩) (Nat.lt_succ_self _)
                · have H65 := cnd_f hb H61; clear H61
                  refine l_passed rfl rfl rfl ?_
                  refine l_passed rfl rfl rfl ?_
                  refine l_passed rfl rfl rfl ?_
                  refine l_passed rfl rfl rfl ?_
                  refine l_val rfl rfl rfl (r_pickF (v := .bool false) rfl rfl) ?_
                  refine l_val rfl rfl rfl (r_assign (v := .bool false) rfl) ?_
                  refine l_nil ?_
                  refine c_false rfl ?_
                  refine c_skip ?_
                  refine c_close () () 0 [0] (by exact ⟨rfl, rfl, rfl, rfl, rfl, rfl, rfl, trivial⟩) (by decide) rfl (by exact ⟨H65, trivial⟩) (Nat.lt_succ_self _)
          · rintro _ _ gg H45 _
            replace H45 : R_JoinedOf_j3 x4_3 x16_2 next2 t19 = some r := H45
            refine c_tidyF [(0, v0), (4, str x4_3), (6, .pointer (some ⟨b2, 0, none⟩)), (7, .bool (decide (t19.Kind = 218))), (14, v0), (15, .int .i64 (a0.length : Int)), (16, .int .i64 x16_2)] [cellsC b2 [.int .i64 t19.Kind, str t19.Text] 55] rfl rfl ?_
            refine c_seq ?_
            refine c_region ?_
            refine l_val rfl rfl rfl (r_move (v := str x4_3) rfl) ?_
            refine l_val rfl rfl rfl (r_field Try.runUnderlying55 rfl Try.sizeOf3 rfl rfl) ?_
            refine l_load1 (i := 0) (v := .int .i64 t19.Kind) Try.isAgg3 rfl rfl rfl rfl rfl ?_
            refine l_val rfl rfl rfl (r_convG Try.runUnderlying3 Try.runUnderlying5 rfl (wr_u8 _)) ?_
            refine l_buildSlice (vs := [.int .u8 (wU8 t19.Kind)]) (cs := [.int .u8 (wU8 t19.Kind)]) Try.underlying95 Try.sizeOf5 Try.zeroValue5 rfl rfl rfl rfl rfl rfl rfl (fun b3 => ?_)
            refine l_read (fun w hF hS => run_bytes (f := e_u8) (xs := ([(wU8 t19.Kind)] : List Int)) rfl Try.underlying95 Try.underlying5 Try.underlying9 rfl (fun _ => rfl) (row_box (sz := 1) (xs := ([(wU8 t19.Kind)] : List Int).map e_u8) (i := 1) hS rfl rfl rfl)) rfl rfl rfl ?_
            obtain ⟨t52, h_t52, H46⟩ := bnd_some H45; clear H45
            refine l_val rfl rfl rfl (r_concatG rfl rfl h_t52) ?_
            obtain ⟨t53, h_t53, H47⟩ := bnd_some H46; clear H46
            refine l_val rfl rfl rfl (r_concatG rfl rfl h_t53) ?_
            refine l_val rfl rfl rfl (r_assign (v := str t53) rfl) ?_
            refine l_nil ?_
            refine c_meet (r := r) (σ := (List UInt8)) (τ := Unit) (fun s => R_JoinedOf_j4 x16_2 next2 t19 s) (fun s t => [(0, v0), (4, str s), (6, .pointer (some ⟨b2, 0, none⟩)), (14, v0), (15, .int .i64 (a0.length : Int)), (16, .int .i64 x16_2)]) (fun s t => [cellsC b2 [.int .i64 t19.Kind, str t19.Text] 55]) (fun s t => True) ?_ ?_
            · refine c_seq ?_
              refine c_region ?_
              refine l_val rfl rfl rfl (r_move (v := .bool (decide (t19.Kind = 218))) rfl) ?_
              refine l_val rfl rfl rfl (r_not rfl) ?_
              refine l_nil ?_
              refine c_if (b := (!(decide (t19.Kind = 218)))) rfl (fun hb => ?_) (fun hb => ?_)
              · have H51 := cnd_t hb H47; clear H47
                refine c_region ?_
                refine l_val rfl rfl rfl (r_move (v := str t53) rfl) ?_
                refine l_val rfl rfl rfl (r_field Try.runUnderlying55 rfl Try.sizeOf9 rfl rfl) ?_
                refine l_load1 (i := 0) (v := str t19.Text) Try.isAgg9 rfl rfl rfl rfl rfl ?_
                refine l_val rfl rfl rfl (r_lenT Try.underlying9 rfl) ?_
                obtain ⟨t60, h_t60, H52⟩ := bnd_some H51; clear H51
                refine l_val rfl rfl rfl (r_addG rfl rfl h_t60) ?_
                obtain ⟨t61, h_t61, H53⟩ := bnd_some H52; clear H52
                refine l_call (k96 h_t61) Try.call96 rfl rfl rfl ?_
                obtain ⟨t62, h_t62, H54⟩ := bnd_some H53; clear H53
                refine l_val rfl rfl rfl (r_concatG rfl rfl h_t62) ?_
                refine l_val rfl rfl rfl (r_assign (v := str t62) rfl) ?_
                refine l_nil ?_
                refine c_close t62 () 0 [0] (by exact ⟨rfl, rfl, rfl, rfl, rfl, rfl, trivial⟩) (by decide) rfl (by exact ⟨H54, trivial⟩) (Nat.lt_succ_self _)
              · have H55 := cnd_f hb H47; clear H47
                refine c_skip ?_
                refine c_close t53 () 0 [0] (by exact ⟨rfl, rfl, rfl, rfl, rfl, rfl, trivial⟩) (by decide) rfl (by exact ⟨H55, trivial⟩) (Nat.lt_succ_self _)
            · rintro x4_4 _ gg H48 _
              replace H48 : R_JoinedOf_j4 x16_2 next2 t19 x4_4 = some r := H48
              refine c_tidyF [(0, v0), (4, str x4_4), (6, .pointer (some ⟨b2, 0, none⟩)), (14, v0), (15, .int .i64 (a0.length : Int)), (16, .int .i64 x16_2)] [cellsC b2 [.int .i64 t19.Kind, str t19.Text] 55] rfl rfl ?_
              refine c_region ?_
              refine l_val rfl rfl rfl (r_move (v := str x4_4) rfl) ?_
              refine l_val rfl rfl rfl (r_field Try.runUnderlying55 rfl Try.sizeOf9 rfl rfl) ?_
              refine l_load1 (i := 0) (v := str t19.Text) Try.isAgg9 rfl rfl rfl rfl rfl ?_
              obtain ⟨t66, h_t66, H49⟩ := bnd_some H48; clear H48
              refine l_val rfl rfl rfl (r_concatG rfl rfl h_t66) ?_
              refine l_val rfl rfl rfl (r_assign (v := str t66) rfl) ?_
              refine l_nil ?_
              refine c_region ?_
              obtain ⟨t67, h_t67, H50⟩ := bnd_some H49; clear H49
              refine l_val rfl rfl rfl (r_addG rfl rfl h_t67) ?_
              refine l_val rfl rfl rfl (r_move (v := .int .i64 t67) rfl) ?_
              refine l_nil ?_
              refine c_close (t66, t67) () m2 [] (by exact ⟨rfl, rfl, rfl, rfl, rfl, trivial⟩) (by decide) rfl (by exact ⟨(by subst hn2; exact H50), trivial⟩) (Nat.lt_succ_self _)
        · have H66 := cnd_f hb H42; clear H42
          refine c_exit ?_
          refine c_close x4_3 () 0 [] (by exact ⟨rfl, trivial⟩) (by decide) rfl (by exact ⟨H66, trivial⟩) (Nat.lt_succ_self _)
      · rintro x4 _ gg H38 _
        replace H38 : R_JoinedOf_j1 x4 = some r := H38
        refine c_tidyF [(4, str x4)] [] rfl rfl ?_
        refine c_seq ?_
        refine c_seq ?_
        refine c_region ?_
        refine l_val rfl rfl rfl (r_move (v := str x4) rfl) ?_
        obtain ⟨t69, h_t69, H39⟩ := bnd_some H38; clear H38
        refine l_val rfl rfl rfl (r_concatG rfl rfl h_t69) ?_
        refine l_val rfl rfl rfl (r_assign (v := str t69) rfl) ?_
        refine l_nil ?_
        refine c_seq ?_
        refine c_region ?_
        refine l_val rfl rfl rfl (r_move (v := str t69) rfl) ?_
        refine l_val rfl rfl rfl (r_lenT Try.underlying9 rfl) ?_
        refine l_val rfl rfl rfl (r_gtr rfl rfl) ?_
        refine l_nil ?_
        refine c_if (b := (decide (200000 < (t69.length : Int)))) rfl (fun hb => ?_) (fun hb => ?_)
        · have H40 := cnd_t hb H39; clear H39
          refine c_seq ?_
          refine c_region ?_
          refine l_val rfl rfl rfl (r_assign (v := str []) rfl) ?_
          refine l_val rfl rfl rfl (r_assign (v := .int .i64 4) rfl) ?_
          refine l_nil ?_
          refine c_ret ?_
          obtain rfl := Option.some.inj H40
          refine ret2 (v1 := str []) (v2 := .int .i64 4) rfl rfl rfl (fin rfl)
        · have H41 := cnd_f hb H39; clear H39
          refine c_skip ?_
          refine c_seq ?_
          refine c_region ?_
          refine l_val rfl rfl rfl (r_move (v := str t69) rfl) ?_
          refine l_val rfl rfl rfl (r_assign (v := str t69) rfl) ?_
          refine l_val rfl rfl rfl (r_assign (v := .int .i64 0) rfl) ?_
          refine l_nil ?_
          refine c_ret ?_
          obtain rfl := Option.some.inj H41
          refine ret2 (v1 := str t69) (v2 := .int .i64 0) rfl rfl rfl (fin rfl)
theorem k97 {a0 : (List T_tag_Segment)} {v0 : Value} {a1 : (List T_tag_Segment)} {v1 : Value} {r : Bool} {w : World} {h : Heap} (hw : Know h w noS) (f0 : FrS h 2 v0 (a0.map e_tag_Segment)) (f1 : FrS h 2 v1 (a1.map e_tag_Segment)) (H : slices_Equal_tag_Segment a0 a1 = some r) : Does Try.prog 97 (List.toArray [v0, v1]) w (fun v w' => v = (.bool r) ∧ Grow w w') := by
  refine enter (n := 26) Try.func97 rfl rfl rfl noS [] (Sat.nil _ _) ?_
  refine c_seq ?_
  refine c_region ?_
  refine l_val rfl rfl rfl (r_assign (v := .bool false) rfl) ?_
  refine l_nil ?_
  refine c_seq ?_
  refine c_seq ?_
  refine c_region ?_
  refine l_val rfl rfl rfl (r_move (v := v0) rfl) ?_
  refine l_val rfl rfl rfl (r_lenF Try.underlying48 rfl f0 rfl) ?_
  refine l_val rfl rfl rfl (r_move (v := v1) rfl) ?_
  refine l_val rfl rfl rfl (r_lenF Try.underlying48 rfl f1 rfl) ?_
  refine l_val rfl rfl rfl (r_neq rfl rfl) ?_
  refine l_nil ?_
  refine c_if (b := (decide ((a0.length : Int) ≠ (a1.length : Int)))) rfl (fun hb => ?_) (fun hb => ?_)
  · have H11 := cnd_t hb H; clear H
    refine c_seq ?_
    refine c_region ?_
    refine l_val rfl rfl rfl (r_assign (v := .bool false) rfl) ?_
    refine l_nil ?_
    refine c_ret ?_
    obtain rfl := Option.some.inj H11
    refine ret1 (v := .bool false) rfl rfl (fin rfl)
  · have H12 := cnd_f hb H; clear H
    refine c_skip ?_
    refine c_seq ?_
    refine c_seq ?_
    refine c_region ?_
    refine l_val rfl rfl rfl (r_move (v := v0) rfl) ?_
    refine l_val rfl rfl rfl (r_lenF Try.underlying48 rfl f0 rfl) ?_
    refine l_val rfl rfl rfl (r_move (v := .int .i64 0) rfl) ?_
    refine l_nil ?_
    refine c_block ?_
    refine c_fix (σ := Int) (τ := Unit) (fun next1 s => slices_Equal_tag_Segment_l1 a0 a1 next1 s) (fun s t => [(0, v0), (1, v1), (12, .int .i64 (a0.length : Int)), (13, .int .i64 s)]) (fun s t => []) (fun s t => True) 0 () [] H12 (by exact trivial) (by exact ⟨rfl, rfl, rfl, rfl, trivial⟩) (by decide) rfl ?_
    rintro x13_2 _ m1 gg H13 _
    clear H12
    replace H13 : slices_Equal_tag_Segment_l1 a0 a1 (it (fun next1 s => slices_Equal_tag_Segment_l1 a0 a1 next1 s) m1) x13_2 = some r := H13
    generalize hn1 : it (fun next1 s => slices_Equal_tag_Segment_l1 a0 a1 next1 s) m1 = next1 at H13
    refine c_tidyF [(0, v0), (1, v1), (12, .int .i64 (a0.length : Int)), (13, .int .i64 x13_2)] [] rfl rfl ?_
    refine c_seq ?_
    refine c_region ?_
    refine l_val rfl rfl rfl (r_lss rfl rfl) ?_
    refine l_nil ?_
    refine c_seq ?_
    refine c_if (b := (decide (x13_2 < (a0.length : Int)))) rfl (fun hb => ?_) (fun hb => ?_)
    · have H14 := cnd_t hb H13; clear H13
      refine c_skip ?_
      refine c_seq ?_
      refine c_block ?_
      refine c_seq ?_
      refine c_region ?_
      refine l_val rfl rfl rfl (r_move (v := .int .i64 x13_2) rfl) ?_
      refine l_val rfl rfl rfl (r_assign (v := .int .i64 x13_2) rfl) ?_
      refine l_nil ?_
      refine c_seq ?_
      exact c_regionD (Kd.p :: Kd.p :: Kd.p :: Kd.d [] _ :: Kd.p :: Kd.p :: Kd.p :: Kd.d [] _ :: Kd.p :: []) 0 mixed (by
        refine d_val rfl rfl (r_move (v := v0) rfl) ?_
        refine d_val rfl rfl (r_move (v := .int .i64 x13_2) rfl) ?_
        have h_t18 := bnd_val H14
        have H15 := bnd_rest H14
        refine d_val rfl rfl (r_indexF Try.underlying48 Try.sizeOf55 rfl rfl f0 h_t18) ?_
        refine d_read (fun w hF => run_loadGN (j := 0) (vs := [.int .i64 (val (gAt a0 x13_2)).Kind, str (val (gAt a0 x13_2)).Text]) Try.isAgg55 Try.sizeOf55 rfl rfl (f0.row (hw.now hF)) h_t18 rfl) rfl rfl ?_
        refine d_val rfl rfl (r_move (v := v1) rfl) ?_
        refine d_val rfl rfl (r_move (v := .int .i64 x13_2) rfl) ?_
        have h_t22 := bnd_val H15
        have H16 := bnd_rest H15
        refine d_val rfl rfl (r_indexF Try.underlying48 Try.sizeOf55 rfl rfl f1 h_t22) ?_
        refine d_read (fun w hF => run_loadGN (j := 0) (vs := [.int .i64 (val (gAt a1 x13_2)).Kind, str (val (gAt a1 x13_2)).Text]) Try.isAgg55 Try.sizeOf55 rfl rfl (f1.row (hw.now hF)) h_t22 rfl) rfl rfl ?_
        refine d_val rfl rfl (r_neqA (xs := #[.int .i64 (val (gAt a0 x13_2)).Kind, str (val (gAt a0 x13_2)).Text]) (ys := #[.int .i64 (val (gAt a1 x13_2)).Kind, str (val (gAt a1 x13_2)).Text]) Try.eqGuardType55 (fun w => run_eq_tag_Segment w (val (gAt a0 x13_2)) (val (gAt a1 x13_2))) rfl rfl) ?_
        refine d_nil ?_
        refine c_if (b := (!(eq_tag_Segment (val (gAt a0 x13_2)) (val (gAt a1 x13_2))))) rfl (fun hb => ?_) (fun hb => ?_)
        · have H17 := cnd_t hb H16; clear H16
          refine c_seq ?_
          refine c_region ?_
          refine l_val rfl rfl rfl (r_assign (v := .bool false) rfl) ?_
          refine l_nil ?_
          refine c_ret ?_
          obtain rfl := Option.some.inj H17
          refine ret1 (v := .bool false) rfl rfl (fin rfl)
        · have H18 := cnd_f hb H16; clear H16
          refine c_skip ?_
          refine c_region ?_
          obtain ⟨t25, h_t25, H19⟩ := bnd_some H18; clear H18
          refine l_val rfl rfl rfl (r_addG rfl rfl h_t25) ?_
          refine l_val rfl rfl rfl (r_move (v := .int .i64 t25) rfl) ?_
          refine l_nil ?_
          refine c_close t25 () m1 [] (by exact ⟨rfl, rfl, rfl, rfl, trivial⟩) (by decide) rfl (by exact ⟨(by subst hn1; exact H19), trivial⟩) (Nat.lt_succ_self _)
        ) (by kernel_rfl)
    · have H20 := cnd_f hb H13; clear H13
      refine c_exit ?_
      refine c_seq ?_
      refine c_region ?_
      refine l_val rfl rfl rfl (r_assign (v := .bool true) rfl) ?_
      refine l_nil ?_
      refine c_ret ?_
      obtain rfl := Option.some.inj H20
      refine ret1 (v := .bool true) rfl rfl (fin rfl)
theorem k31 {a0 : (List T_tag_Segment)} {v0 : Value} {a1 : Int} {a2 : (List T_tag_Segment)} {v2 : Value} {a3 : Int} {r : Bool} {w : World} {h : Heap} (hw : Know h w noS) (f0 : FrS h 2 v0 (a0.map e_tag_Segment)) (f2 : FrS h 2 v2 (a2.map e_tag_Segment)) (H : Law_listed_tag_Segment a0 a1 a2 a3 = some r) : Does Try.prog 31 (List.toArray [v0, .int .i64 a1, v2, .int .i64 a3]) w (fun v w' => v = (.bool r) ∧ Grow w w') := by
  refine enter (n := 19) Try.func31 rfl rfl rfl noS [] (Sat.nil _ _) ?_
  refine c_seq ?_
  refine c_region ?_
  refine l_val rfl rfl rfl (r_assign (v := .bool false) rfl) ?_
  refine l_nil ?_
  refine c_meet (r := r) (σ := (List T_tag_Segment)) (τ := Value) (fun s => Law_listed_tag_Segment_j1 a0 a1 a3 s) (fun s t => [(0, v0), (1, .int .i64 a1), (2, t), (3, .int .i64 a3)]) (fun s t => []) (fun s t => FrS h 2 t (s.map e_tag_Segment)) ?_ ?_
  · refine c_seq ?_
    refine c_region ?_
    refine l_val rfl rfl rfl (r_move (v := .int .i64 a3) rfl) ?_
    refine l_val rfl rfl rfl (r_neq rfl rfl) ?_
    refine l_nil ?_
    refine c_if (b := (decide (a3 ≠ 0))) rfl (fun hb => ?_) (fun hb => ?_)
    · have H11 := cnd_t hb H; clear H
      refine c_region ?_
      refine l_val rfl rfl rfl (r_assign (v := .slice none 0 0) rfl) ?_
      refine l_nil ?_
      refine c_close ([] : (List T_tag_Segment)) (.slice none 0 0) 0 [] (by exact ⟨rfl, rfl, rfl, rfl, trivial⟩) (by decide) rfl (by exact ⟨H11, (FrS.nil _ _)⟩) (Nat.lt_succ_self _)
    · have H12 := cnd_f hb H; clear H
      refine c_skip ?_
      refine c_close a2 v2 0 [] (by exact ⟨rfl, rfl, rfl, rfl, trivial⟩) (by decide) rfl (by exact ⟨H12, f2⟩) (Nat.lt_succ_self _)
  · rintro x2 gv gg H7 gf
    replace H7 : Law_listed_tag_Segment_j1 a0 a1 a3 x2 = some r := H7
    refine c_tidyF [(0, v0), (1, .int .i64 a1), (2, gv), (3, .int .i64 a3)] [] rfl rfl ?_
    refine c_seq ?_
    refine c_region ?_
    refine l_val rfl rfl rfl (r_move (v := v0) rfl) ?_
    refine l_val rfl rfl rfl (r_move (v := gv) rfl) ?_
    obtain ⟨t13, h_t13, H8⟩ := bnd_some H7; clear H7
    refine l_callG (fun w hF hS => k97 (know_all w) (f0.mono (hw.now hF)) (gf.mono (hw.now hF)) h_t13) Try.call97 rfl rfl rfl ?_
    refine l_val rfl rfl rfl (r_move (v := .bool t13) rfl) ?_
    refine split (fun hb => ?_) (fun hb => ?_)
    · have H9 := cnd_t hb H8; clear H8
      refine l_val rfl rfl rfl (r_move (v := .int .i64 a1) rfl) ?_
      refine l_val rfl rfl rfl (r_move (v := .int .i64 a3) rfl) ?_
      refine l_val rfl rfl rfl (r_eql rfl rfl) ?_
      refine l_val rfl rfl rfl (r_pickT (v := .bool (decide (a1 = a3))) rfl rfl) ?_
      refine l_val rfl rfl rfl (r_assign (v := .bool (decide (a1 = a3))) rfl) ?_
      refine l_nil ?_
      refine c_ret ?_
      obtain rfl := Option.some.inj H9
      refine ret1 (v := .bool (decide (a1 = a3))) rfl rfl (fin rfl)
    · have H10 := cnd_f hb H8; clear H8
      refine l_passed rfl rfl rfl ?_
      refine l_passed rfl rfl rfl ?_
      refine l_passed rfl rfl rfl ?_
      refine l_val rfl rfl rfl (r_pickF (v := .bool false) rfl rfl) ?_
      refine l_val rfl rfl rfl (r_assign (v := .bool false) rfl) ?_
      refine l_nil ?_
      refine c_ret ?_
      obtain rfl := Option.some.inj H10
      refine ret1 (v := .bool false) rfl rfl (fin rfl)
theorem k32 {a0 : (List UInt8)} {a1 : Int} {a2 : (List UInt8)} {a3 : Int} {r : Bool} (H : Law_told_string a0 a1 a2 a3 = some r) : Ret Try.prog 32 [str a0, .int .i64 a1, str a2, .int .i64 a3] (.bool r) := by
  refine enterRet (n := 21) Try.func32 rfl rfl rfl (fun wd => ?_)
  refine c_seq ?_
  refine c_region ?_
  refine l_val rfl rfl rfl (r_assign (v := .bool false) rfl) ?_
  refine l_nil ?_
  refine c_seq ?_
  refine c_region ?_
  refine l_val rfl rfl rfl (r_assign (v := str []) rfl) ?_
  refine l_nil ?_
  refine c_meet (r := r) (σ := (List UInt8)) (τ := Unit) (fun s => Law_told_string_j1 a0 a1 a3 s) (fun s t => [(0, str a0), (1, .int .i64 a1), (2, str s), (3, .int .i64 a3)]) (fun s t => []) (fun s t => True) ?_ ?_
  · refine c_seq ?_
    refine c_region ?_
    refine l_val rfl rfl rfl (r_move (v := .int .i64 a3) rfl) ?_
    refine l_val rfl rfl rfl (r_neq rfl rfl) ?_
    refine l_nil ?_
    refine c_if (b := (decide (a3 ≠ 0))) rfl (fun hb => ?_) (fun hb => ?_)
    · have H9 := cnd_t hb H; clear H
      refine c_region ?_
      refine l_val rfl rfl rfl (r_move (v := str []) rfl) ?_
      refine l_val rfl rfl rfl (r_assign (v := str []) rfl) ?_
      refine l_nil ?_
      refine c_close [] () 0 [] (by exact ⟨rfl, rfl, rfl, rfl, trivial⟩) (by decide) rfl (by exact ⟨H9, trivial⟩) (Nat.lt_succ_self _)
    · have H10 := cnd_f hb H; clear H
      refine c_skip ?_
      refine c_close a2 () 0 [] (by exact ⟨rfl, rfl, rfl, rfl, trivial⟩) (by decide) rfl (by exact ⟨H10, trivial⟩) (Nat.lt_succ_self _)
  · rintro x2 _ gg H6 _
    replace H6 : Law_told_string_j1 a0 a1 a3 x2 = some r := H6
    refine c_tidyF [(0, str a0), (1, .int .i64 a1), (2, str x2), (3, .int .i64 a3)] [] rfl rfl ?_
    refine c_seq ?_
    refine c_region ?_
    refine l_val rfl rfl rfl (r_move (v := str a0) rfl) ?_
    refine l_val rfl rfl rfl (r_move (v := str x2) rfl) ?_
    refine l_val rfl rfl rfl (r_eqlT rfl rfl) ?_
    refine l_val rfl rfl rfl (r_move (v := .bool (decide (a0 = x2))) rfl) ?_
    refine split (fun hb => ?_) (fun hb => ?_)
    · have H7 := cnd_t hb H6; clear H6
      refine l_val rfl rfl rfl (r_move (v := .int .i64 a1) rfl) ?_
      refine l_val rfl rfl rfl (r_move (v := .int .i64 a3) rfl) ?_
      refine l_val rfl rfl rfl (r_eql rfl rfl) ?_
      refine l_val rfl rfl rfl (r_pickT (v := .bool (decide (a1 = a3))) rfl rfl) ?_
      refine l_val rfl rfl rfl (r_assign (v := .bool (decide (a1 = a3))) rfl) ?_
      refine l_nil ?_
      refine c_ret ?_
      obtain rfl := Option.some.inj H7
      refine ret1 (v := .bool (decide (a1 = a3))) rfl rfl (fin rfl)
    · have H8 := cnd_f hb H6; clear H6
      refine l_passed rfl rfl rfl ?_
      refine l_passed rfl rfl rfl ?_
      refine l_passed rfl rfl rfl ?_
      refine l_val rfl rfl rfl (r_pickF (v := .bool false) rfl rfl) ?_
      refine l_val rfl rfl rfl (r_assign (v := .bool false) rfl) ?_
      refine l_nil ?_
      refine c_ret ?_
      obtain rfl := Option.some.inj H8
      refine ret1 (v := .bool false) rfl rfl (fin rfl)
theorem k5 {a0 : (List UInt8)} {a1 : (List T_tag_Segment)} {v1 : Value} {r : Bool} {w : World} {h : Heap} (hw : Know h w noS) (f1 : FrS h 2 v1 (a1.map e_tag_Segment)) (H : Law_TagSegments a0 a1 = some r) : Does Try.prog 5 (List.toArray [str a0, v1]) w (fun v w' => v = (.bool r) ∧ Grow w w') := by
  refine enter (n := 45) Try.func5 rfl rfl rfl noS [] (Sat.nil _ _) ?_
  refine c_seq ?_
  refine c_region ?_
  refine l_val rfl rfl rfl (r_assign (v := .bool false) rfl) ?_
  refine l_nil ?_
  refine c_seq ?_
  refine c_region ?_
  refine l_val rfl rfl rfl (r_move (v := str a0) rfl) ?_
  obtain ⟨t15, h_t15, H9⟩ := bnd_some H; clear H
  refine l_make (makes_call (rds := []) (G := fun x : (Option Addr × Nat) => .tuple #[.slice x.1 t15.1.length x.2, .int .i64 t15.2]) (C := fun x : (Option Addr × Nat) => roV 2 (.slice x.1 t15.1.length x.2) t15.1.length (t15.1.map e_tag_Segment)) (fun w L' hF hS hi => k27 (know_all w)  h_t15) Try.call27 rfl) rfl rfl rfl (fun p => ?_)
  refine l_val rfl rfl rfl (r_move (v := .tuple #[.slice p.1 t15.1.length p.2, .int .i64 t15.2]) rfl) ?_
  refine l_val rfl rfl rfl (r_extract (v := .slice p.1 t15.1.length p.2) rfl rfl) ?_
  refine l_val rfl rfl rfl (r_extract (v := .int .i64 t15.2) rfl rfl) ?_
  refine l_val rfl rfl rfl (r_assign (v := .slice p.1 t15.1.length p.2) rfl) ?_
  refine l_val rfl rfl rfl (r_assign (v := .int .i64 t15.2) rfl) ?_
  refine l_nil ?_
  refine c_seq ?_
  refine c_region ?_
  refine l_val rfl rfl rfl (r_move (v := str a0) rfl) ?_
  obtain ⟨t20, h_t20, H10⟩ := bnd_some H9; clear H9
  refine l_make (makes_call (rds := []) (G := fun x : (Option Addr × Nat) => .tuple #[.slice x.1 t20.1.length x.2, .int .i64 t20.2]) (C := fun x : (Option Addr × Nat) => rowV 55 2 (.slice x.1 t20.1.length x.2) t20.1.length (t20.1.map e_tag_Segment)) (fun w L' hF hS hi => k28 (know_all w)  h_t20) Try.call28 rfl) rfl rfl rfl (fun p_2 => ?_)
  refine l_val rfl rfl rfl (r_move (v := .tuple #[.slice p_2.1 t20.1.length p_2.2, .int .i64 t20.2]) rfl) ?_
  refine l_val rfl rfl rfl (r_extract (v := .slice p_2.1 t20.1.length p_2.2) rfl rfl) ?_
  refine l_val rfl rfl rfl (r_extract (v := .int .i64 t20.2) rfl rfl) ?_
  refine l_val rfl rfl rfl (r_assign (v := .slice p_2.1 t20.1.length p_2.2) rfl) ?_
  refine l_val rfl rfl rfl (r_assign (v := .int .i64 t20.2) rfl) ?_
  refine l_nil ?_
  refine c_seq ?_
  refine c_region ?_
  refine l_val rfl rfl rfl (r_move (v := v1) rfl) ?_
  obtain ⟨t25, h_t25, H11⟩ := bnd_some H10; clear H10
  refine l_callG (fun w hF hS => k29 (know_all w) (f1.mono (hw.now hF)) h_t25) Try.call29 rfl rfl rfl ?_
  refine l_val rfl rfl rfl (r_move (v := .tuple #[str t25.1, .int .i64 t25.2]) rfl) ?_
  refine l_val rfl rfl rfl (r_extract (v := str t25.1) rfl rfl) ?_
  refine l_val rfl rfl rfl (r_extract (v := .int .i64 t25.2) rfl rfl) ?_
  refine l_val rfl rfl rfl (r_assign (v := str t25.1) rfl) ?_
  refine l_val rfl rfl rfl (r_assign (v := .int .i64 t25.2) rfl) ?_
  refine l_nil ?_
  refine c_seq ?_
  refine c_region ?_
  refine l_val rfl rfl rfl (r_move (v := v1) rfl) ?_
  obtain ⟨t30, h_t30, H12⟩ := bnd_some H11; clear H11
  refine l_callG (fun w hF hS => k30 (know_all w) (f1.mono (hw.now hF)) h_t30) Try.call30 rfl rfl rfl ?_
  refine l_val rfl rfl rfl (r_move (v := .tuple #[str t30.1, .int .i64 t30.2]) rfl) ?_
  refine l_val rfl rfl rfl (r_extract (v := str t30.1) rfl rfl) ?_
  refine l_val rfl rfl rfl (r_extract (v := .int .i64 t30.2) rfl rfl) ?_
  refine l_val rfl rfl rfl (r_assign (v := str t30.1) rfl) ?_
  refine l_val rfl rfl rfl (r_assign (v := .int .i64 t30.2) rfl) ?_
  refine l_nil ?_
  refine c_seq ?_
  refine c_region ?_
  refine l_val rfl rfl rfl (r_move (v := .slice p.1 t15.1.length p.2) rfl) ?_
  refine l_val rfl rfl rfl (r_move (v := .int .i64 t15.2) rfl) ?_
  refine l_val rfl rfl rfl (r_move (v := .slice p_2.1 t20.1.length p_2.2) rfl) ?_
  refine l_val rfl rfl rfl (r_move (v := .int .i64 t20.2) rfl) ?_
  obtain ⟨t37, h_t37, H13⟩ := bnd_some H12; clear H12
  refine l_callG (fun w hF hS => k31 (know_all w) (frs_rd (i := 0) hS rfl) (frs_own (i := 1) rfl hS rfl) h_t37) Try.call31 rfl rfl rfl ?_
  refine l_val rfl rfl rfl (r_move (v := .bool t37) rfl) ?_
  refine split (fun hb => ?_) (fun hb => ?_)
  · have H14 := cnd_t hb H13; clear H13
    refine l_val rfl rfl rfl (r_move (v := str t25.1) rfl) ?_
    refine l_val rfl rfl rfl (r_move (v := .int .i64 t25.2) rfl) ?_
    refine l_val rfl rfl rfl (r_move (v := str t30.1) rfl) ?_
    refine l_val rfl rfl rfl (r_move (v := .int .i64 t30.2) rfl) ?_
    obtain ⟨t43, h_t43, H15⟩ := bnd_some H14; clear H14
    refine l_call (k32 h_t43) Try.call32 rfl rfl rfl ?_
    refine l_val rfl rfl rfl (r_pickT (v := .bool t43) rfl rfl) ?_
    refine l_val rfl rfl rfl (r_assign (v := .bool t43) rfl) ?_
    refine l_nil ?_
    refine c_ret ?_
    obtain rfl := Option.some.inj H15
    refine ret1 (v := .bool t43) rfl rfl (fin rfl)
  · have H16 := cnd_f hb H13; clear H13
    refine l_passed rfl rfl rfl ?_
    refine l_passed rfl rfl rfl ?_
    refine l_passed rfl rfl rfl ?_
    refine l_passed rfl rfl rfl ?_
    refine l_passed rfl rfl rfl ?_
    refine l_val rfl rfl rfl (r_pickF (v := .bool false) rfl rfl) ?_
    refine l_val rfl rfl rfl (r_assign (v := .bool false) rfl) ?_
    refine l_nil ?_
    refine c_ret ?_
    obtain rfl := Option.some.inj H16
    refine ret1 (v := .bool false) rfl rfl (fin rfl)
end Go.Proofs.Ytngogocmhmfbjaa
