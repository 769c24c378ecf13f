/- EditSteps, strings: the walks, printed by our generator; each follows its model. Conditions: the model yields a value. -/
import Derived.Test.YtaonhnkojkkmbaaDoorKEa
namespace Go.Proofs.YtaonhnkojkkmbaaDoor
open Go Go.Vc Go.Md Go.M Go.Lx
set_option maxRecDepth 100000
set_option maxHeartbeats 4000000
set_option linter.unusedVariables false

theorem ext137 (s : List UInt8) (c r : Int) (h : gIxB s c = some r) (w : World) : (callFunc 137 (List.toArray [str s, .int .u8 c])).run Tryd.prog w = .ok (.value (.int .i64 r)) w := by
  have h0 : (callFunc 137 #[str s, .int .u8 c]).run Tryd.prog w = (do pure (.value (← Extern.BytealgIndexByte.indexByte #[str s, .int .u8 c])) : Sem Next).run Tryd.prog w := by kernel_rfl
  rw [h0]
  simp only [Sem.run_bind, Go.Lx.run_ixB h, Result.andThen_ok, Sem.run_pure]

theorem k114 {a0 : (List UInt8)} {a1 : Int} {r : Int} (H : internal_stringslite_IndexByte a0 a1 = some r) : Ret Tryd.prog 114 [str a0, .int .u8 a1] (.int .i64 r) := by
  refine enterRet (n := 8) Tryd.func114 rfl rfl rfl (fun wd => ?_)
  refine c_seq ?_
  refine c_region ?_
  refine l_val rfl rfl rfl (r_assign (v := .int .i64 0) rfl) ?_
  refine l_nil ?_
  refine c_seq ?_
  refine c_region ?_
  refine l_val rfl rfl rfl (r_move (v := str a0) rfl) ?_
  refine l_val rfl rfl rfl (r_move (v := .int .u8 a1) rfl) ?_
  obtain ⟨t7, h_t7, H2⟩ := bnd_some H; clear H
  refine l_val rfl rfl rfl (r_ext (args := [str a0, .int .u8 a1]) (ext137 _ _ _ h_t7) rfl) ?_
  refine l_val rfl rfl rfl (r_assign (v := .int .i64 t7) rfl) ?_
  refine l_nil ?_
  refine c_ret ?_
  obtain rfl := Option.some.inj H2
  refine ret1 (v := .int .i64 t7) rfl rfl (fin rfl)
theorem k116 {a0 : Int} {r : Int} (H : internal_bytealg_Cutover a0 = some r) : Ret Tryd.prog 116 [.int .i64 a0] (.int .i64 r) := by
  refine enterRet (n := 6) Tryd.func116 rfl rfl rfl (fun wd => ?_)
  refine c_seq ?_
  refine c_region ?_
  refine l_val rfl rfl rfl (r_assign (v := .int .i64 0) rfl) ?_
  refine l_nil ?_
  refine c_seq ?_
  refine c_region ?_
  refine l_val rfl rfl rfl (r_move (v := .int .i64 a0) rfl) ?_
  obtain ⟨t4, h_t4, H3⟩ := bnd_some H; clear H
  refine l_val rfl rfl rfl (r_addG rfl rfl h_t4) ?_
  obtain ⟨t5, h_t5, H4⟩ := bnd_some H3; clear H3
  refine l_val rfl rfl rfl (r_quoG rfl rfl h_t5) ?_
  refine l_val rfl rfl rfl (r_assign (v := .int .i64 t5) rfl) ?_
  refine l_nil ?_
  refine c_ret ?_
  obtain rfl := Option.some.inj H4
  refine ret1 (v := .int .i64 t5) rfl rfl (fin rfl)
theorem k138 {a0 : (List UInt8)} {r : Int × Int} (H : internal_bytealg_hashStr_string a0 = some r) : Ret Tryd.prog 138 [str a0] (.tuple #[.int .u32 r.1, .int .u32 r.2]) := by
  refine enterRet (n := 39) Tryd.func138 rfl rfl rfl (fun wd => ?_)
  refine c_seq ?_
  refine c_region ?_
  refine l_val rfl rfl rfl (r_assign (v := .int .u32 0) rfl) ?_
  refine l_val rfl rfl rfl (r_assign (v := .int .u32 0) rfl) ?_
  refine l_nil ?_
  refine c_seq ?_
  refine c_region ?_
  refine l_val rfl rfl rfl (r_assign (v := .int .u32 0) rfl) ?_
  refine l_nil ?_
  refine c_meet (r := r) (σ := Int) (τ := Unit) (fun s => internal_bytealg_hashStr_string_j1 a0 s) (fun s t => [(0, str a0), (4, .int .u32 s)]) (fun s t => []) (fun s t => True) ?_ ?_
  · refine c_seq ?_
    refine c_region ?_
    refine l_val rfl rfl rfl (r_assign (v := .int .i64 0) rfl) ?_
    refine l_nil ?_
    refine c_block ?_
    refine c_fix (σ := Int × Int) (τ := Unit) (fun next5 s => internal_bytealg_hashStr_string_l5 a0 next5 s.1 s.2) (fun s t => [(0, str a0), (4, .int .u32 s.1), (5, .int .i64 s.2)]) (fun s t => []) (fun s t => True) (0, 0) () [] H (by exact trivial) (by exact ⟨rfl, rfl, rfl, trivial⟩) (by decide) rfl ?_
    rintro ⟨x4_3, x5_2⟩ _ m5 gg H25 _
    clear H
    replace H25 : internal_bytealg_hashStr_string_l5 a0 (it (fun next5 s => internal_bytealg_hashStr_string_l5 a0 next5 s.1 s.2) m5) x4_3 x5_2 = some r := H25
    generalize hn5 : it (fun next5 s => internal_bytealg_hashStr_string_l5 a0 next5 s.1 s.2) m5 = next5 at H25
    refine c_tidyF [(0, str a0), (4, .int .u32 x4_3), (5, .int .i64 x5_2)] [] rfl rfl ?_
    refine c_seq ?_
    refine c_seq ?_
    refine c_region ?_
    refine l_val rfl rfl rfl (r_move (v := .int .i64 x5_2) rfl) ?_
    refine l_val rfl rfl rfl (r_move (v := str a0) rfl) ?_
    refine l_val rfl rfl rfl (r_lenT Tryd.underlying9 rfl) ?_
    refine l_val rfl rfl rfl (r_lss rfl rfl) ?_
    refine l_nil ?_
    refine c_if (b := (decide (x5_2 < (a0.length : Int)))) rfl (fun hb => ?_) (fun hb => ?_)
    · have H26 := cnd_t hb H25; clear H25
      refine c_skip ?_
      refine c_seq ?_
      refine c_block ?_
      refine c_region ?_
      refine l_val rfl rfl rfl (r_move (v := .int .u32 x4_3) rfl) ?_
      refine l_val rfl rfl rfl (r_mulW rfl rfl (wr_u32 _)) ?_
      refine l_val rfl rfl rfl (r_move (v := str a0) rfl) ?_
      refine l_val rfl rfl rfl (r_move (v := .int .i64 x5_2) rfl) ?_
      obtain ⟨t19, h_t19, H27⟩ := bnd_some H26; clear H26
      refine l_val rfl rfl rfl (r_octG Tryd.underlying9 rfl rfl h_t19) ?_
      obtain ⟨t20, h_t20, H28⟩ := bnd_some H27; clear H27
      refine l_val rfl rfl rfl (r_convG Tryd.runUnderlying5 Tryd.runUnderlying167 rfl (gK_u32 h_t20)) ?_
      refine l_val rfl rfl rfl (r_addW rfl rfl (wr_u32 _)) ?_
      refine l_val rfl rfl rfl (r_assign (v := .int .u32 (wU32 ((wU32 (x4_3 * 16777619)) + t20))) rfl) ?_
      refine l_nil ?_
      refine c_region ?_
      refine l_val rfl rfl rfl (r_move (v := .int .i64 x5_2) rfl) ?_
      obtain ⟨t14, h_t14, H29⟩ := bnd_some H28; clear H28
      refine l_val rfl rfl rfl (r_addG rfl rfl h_t14) ?_
      refine l_val rfl rfl rfl (r_assign (v := .int .i64 t14) rfl) ?_
      refine l_nil ?_
      refine c_close ((wU32 ((wU32 (x4_3 * 16777619)) + t20)), t14) () m5 [] (by exact ⟨rfl, rfl, rfl, trivial⟩) (by decide) rfl (by exact ⟨(by subst hn5; exact H29), trivial⟩) (Nat.lt_succ_self _)
    · have H30 := cnd_f hb H25; clear H25
      refine c_exit ?_
      refine c_close x4_3 () 0 [] (by exact ⟨rfl, rfl, trivial⟩) (by decide) rfl (by exact ⟨H30, trivial⟩) (Nat.lt_succ_self _)
  · rintro x4 _ gg H16 _
    replace H16 : internal_bytealg_hashStr_string_j1 a0 x4 = some r := H16
    refine c_tidyF [(0, str a0), (4, .int .u32 x4)] [] rfl rfl ?_
    refine c_seq ?_
    refine c_region ?_
    refine l_val rfl rfl rfl (r_assign (v := .int .u32 1) rfl) ?_
    refine l_val rfl rfl rfl (r_assign (v := .int .u32 16777619) rfl) ?_
    refine l_nil ?_
    refine c_meet (r := r) (σ := Int) (τ := Unit) (fun s => internal_bytealg_hashStr_string_j2 x4 s) (fun s t => [(4, .int .u32 x4), (6, .int .u32 s)]) (fun s t => []) (fun s t => True) ?_ ?_
    · refine c_seq ?_
      refine c_region ?_
      refine l_val rfl rfl rfl (r_move (v := str a0) rfl) ?_
      refine l_val rfl rfl rfl (r_lenT Tryd.underlying9 rfl) ?_
      refine l_val rfl rfl rfl (r_assign (v := .int .i64 (a0.length : Int)) rfl) ?_
      refine l_nil ?_
      refine c_block ?_
      refine c_fix (σ := Int × Int × Int) (τ := Unit) (fun next3 s => internal_bytealg_hashStr_string_l3 x4 next3 s.1 s.2.1 s.2.2) (fun s t => [(4, .int .u32 x4), (6, .int .u32 s.1), (7, .int .u32 s.2.1), (8, .int .i64 s.2.2)]) (fun s t => []) (fun s t => True) (1, 16777619, (a0.length : Int)) () [] H16 (by exact trivial) (by exact ⟨rfl, rfl, rfl, rfl, trivial⟩) (by decide) rfl ?_
      rintro ⟨x6_3, x7_2, x8_2⟩ _ m3 gg H18 _
      clear H16
      replace H18 : internal_bytealg_hashStr_string_l3 x4 (it (fun next3 s => internal_bytealg_hashStr_string_l3 x4 next3 s.1 s.2.1 s.2.2) m3) x6_3 x7_2 x8_2 = some r := H18
      generalize hn3 : it (fun next3 s => internal_bytealg_hashStr_string_l3 x4 next3 s.1 s.2.1 s.2.2) m3 = next3 at H18
      refine c_tidyF [(4, .int .u32 x4), (6, .int .u32 x6_3), (7, .int .u32 x7_2), (8, .int .i64 x8_2)] [] rfl rfl ?_
      refine c_seq ?_
      refine c_seq ?_
      refine c_region ?_
      refine l_val rfl rfl rfl (r_move (v := .int .i64 x8_2) rfl) ?_
      refine l_val rfl rfl rfl (r_gtr rfl rfl) ?_
      refine l_nil ?_
      refine c_if (b := (decide (0 < x8_2))) rfl (fun hb => ?_) (fun hb => ?_)
      · have H19 := cnd_t hb H18; clear H18
        refine c_skip ?_
        refine c_seq ?_
        refine c_block ?_
        refine c_meet (r := r) (σ := Int) (τ := Unit) (fun s => internal_bytealg_hashStr_string_j4 x7_2 x8_2 next3 s) (fun s t => [(4, .int .u32 x4), (6, .int .u32 s), (7, .int .u32 x7_2), (8, .int .i64 x8_2)]) (fun s t => []) (fun s t => True) ?_ ?_
        · refine c_seq ?_
          refine c_region ?_
          refine l_val rfl rfl rfl (r_move (v := .int .i64 x8_2) rfl) ?_
          refine l_val rfl rfl rfl (r_bitsAnd (bits := 64) rfl rfl rfl (wr_i64 _)) ?_
          refine l_val rfl rfl rfl (r_neq rfl rfl) ?_
          refine l_nil ?_
          refine c_if (b := (decide ((wI64 (bAnd 64 x8_2 1)) ≠ 0))) rfl (fun hb => ?_) (fun hb => ?_)
          · have H22 := cnd_t hb H19; clear H19
            refine c_region ?_
            refine l_val rfl rfl rfl (r_move (v := .int .u32 x6_3) rfl) ?_
            refine l_val rfl rfl rfl (r_move (v := .int .u32 x7_2) rfl) ?_
            refine l_val rfl rfl rfl (r_mulW rfl rfl (wr_u32 _)) ?_
            refine l_val rfl rfl rfl (r_assign (v := .int .u32 (wU32 (x6_3 * x7_2))) rfl) ?_
            refine l_nil ?_
            refine c_close (wU32 (x6_3 * x7_2)) () 0 [] (by exact ⟨rfl, rfl, rfl, rfl, trivial⟩) (by decide) rfl (by exact ⟨H22, trivial⟩) (Nat.lt_succ_self _)
          · have H23 := cnd_f hb H19; clear H19
            refine c_skip ?_
            refine c_close x6_3 () 0 [] (by exact ⟨rfl, rfl, rfl, rfl, trivial⟩) (by decide) rfl (by exact ⟨H23, trivial⟩) (Nat.lt_succ_self _)
        · rintro x6_4 _ gg H20 _
          replace H20 : internal_bytealg_hashStr_string_j4 x7_2 x8_2 next3 x6_4 = some r := H20
          refine c_tidyF [(4, .int .u32 x4), (6, .int .u32 x6_4), (7, .int .u32 x7_2), (8, .int .i64 x8_2)] [] rfl rfl ?_
          refine c_region ?_
          refine l_val rfl rfl rfl (r_move (v := .int .u32 x7_2) rfl) ?_
          refine l_val rfl rfl rfl (r_move (v := .int .u32 x7_2) rfl) ?_
          refine l_val rfl rfl rfl (r_mulW rfl rfl (wr_u32 _)) ?_
          refine l_val rfl rfl rfl (r_assign (v := .int .u32 (wU32 (x7_2 * x7_2))) rfl) ?_
          refine l_nil ?_
          refine c_region ?_
          refine l_val rfl rfl rfl (r_move (v := .int .i64 x8_2) rfl) ?_
          obtain ⟨t27, h_t27, H21⟩ := bnd_some H20; clear H20
          refine l_val rfl rfl rfl (r_shrG rfl rfl rfl h_t27) ?_
          refine l_val rfl rfl rfl (r_assign (v := .int .i64 t27) rfl) ?_
          refine l_nil ?_
          refine c_close (x6_4, (wU32 (x7_2 * x7_2)), t27) () m3 [] (by exact ⟨rfl, rfl, rfl, rfl, trivial⟩) (by decide) rfl (by exact ⟨(by subst hn3; exact H21), trivial⟩) (Nat.lt_succ_self _)
      · have H24 := cnd_f hb H18; clear H18
        refine c_exit ?_
        refine c_close x6_3 () 0 [] (by exact ⟨rfl, rfl, trivial⟩) (by decide) rfl (by exact ⟨H24, trivial⟩) (Nat.lt_succ_self _)
    · rintro x6 _ gg H17 _
      replace H17 : internal_bytealg_hashStr_string_j2 x4 x6 = some r := H17
      refine c_tidyF [(4, .int .u32 x4), (6, .int .u32 x6)] [] rfl rfl ?_
      refine c_seq ?_
      refine c_region ?_
      refine l_val rfl rfl rfl (r_move (v := .int .u32 x4) rfl) ?_
      refine l_val rfl rfl rfl (r_move (v := .int .u32 x6) rfl) ?_
      refine l_val rfl rfl rfl (r_assign (v := .int .u32 x4) rfl) ?_
      refine l_val rfl rfl rfl (r_assign (v := .int .u32 x6) rfl) ?_
      refine l_nil ?_
      refine c_ret ?_
      obtain rfl := Option.some.inj H17
      refine ret2 (v1 := .int .u32 x4) (v2 := .int .u32 x6) rfl rfl rfl (fin rfl)
theorem k117 {a0 : (List UInt8)} {a1 : (List UInt8)} {r : Int} (H : internal_bytealg_IndexRabinKarp_string a0 a1 = some r) : Ret Tryd.prog 117 [str a0, str a1] (.int .i64 r) := by
  refine enterRet (n := 81) Tryd.func117 rfl rfl rfl (fun wd => ?_)
  refine c_seq ?_
  refine c_region ?_
  refine l_val rfl rfl rfl (r_assign (v := .int .i64 0) rfl) ?_
  refine l_nil ?_
  refine c_seq ?_
  refine c_region ?_
  refine l_val rfl rfl rfl (r_move (v := str a1) rfl) ?_
  obtain ⟨t13, h_t13, H31⟩ := bnd_some H; clear H
  refine l_call (k138 h_t13) Tryd.call138 rfl rfl rfl ?_
  refine l_val rfl rfl rfl (r_move (v := .tuple #[.int .u32 t13.1, .int .u32 t13.2]) rfl) ?_
  refine l_val rfl rfl rfl (r_extract (v := .int .u32 t13.1) rfl rfl) ?_
  refine l_val rfl rfl rfl (r_extract (v := .int .u32 t13.2) rfl rfl) ?_
  refine l_val rfl rfl rfl (r_assign (v := .int .u32 t13.1) rfl) ?_
  refine l_val rfl rfl rfl (r_assign (v := .int .u32 t13.2) rfl) ?_
  refine l_nil ?_
  refine c_seq ?_
  refine c_region ?_
  refine l_val rfl rfl rfl (r_move (v := str a1) rfl) ?_
  refine l_val rfl rfl rfl (r_lenT Tryd.underlying9 rfl) ?_
  refine l_val rfl rfl rfl (r_assign (v := .int .i64 (a1.length : Int)) rfl) ?_
  refine l_nil ?_
  refine c_seq ?_
  refine c_region ?_
  refine l_val rfl rfl rfl (r_assign (v := .int .u32 0) rfl) ?_
  refine l_nil ?_
  refine c_meet (r := r) (σ := Int) (τ := Unit) (fun s => internal_bytealg_IndexRabinKarp_string_j1 a0 a1 t13 s) (fun s t => [(0, str a0), (1, str a1), (5, .int .u32 t13.1), (6, .int .u32 t13.2), (7, .int .i64 (a1.length : Int)), (8, .int .u32 s)]) (fun s t => []) (fun s t => True) ?_ ?_
  · refine c_seq ?_
    refine c_region ?_
    refine l_val rfl rfl rfl (r_assign (v := .int .i64 0) rfl) ?_
    refine l_nil ?_
    refine c_block ?_
    refine c_fix (σ := Int × Int) (τ := Unit) (fun next4 s => internal_bytealg_IndexRabinKarp_string_l4 a0 a1 t13 next4 s.1 s.2) (fun s t => [(0, str a0), (1, str a1), (5, .int .u32 t13.1), (6, .int .u32 t13.2), (7, .int .i64 (a1.length : Int)), (8, .int .u32 s.1), (9, .int .i64 s.2)]) (fun s t => []) (fun s t => True) (0, 0) () [] H31 (by exact trivial) (by exact ⟨rfl, rfl, rfl, rfl, rfl, rfl, rfl, trivial⟩) (by decide) rfl ?_
    rintro ⟨x8_5, x9_2⟩ _ m4 gg H55 _
    clear H31
    replace H55 : internal_bytealg_IndexRabinKarp_string_l4 a0 a1 t13 (it (fun next4 s => internal_bytealg_IndexRabinKarp_string_l4 a0 a1 t13 next4 s.1 s.2) m4) x8_5 x9_2 = some r := H55
    generalize hn4 : it (fun next4 s => internal_bytealg_IndexRabinKarp_string_l4 a0 a1 t13 next4 s.1 s.2) m4 = next4 at H55
    refine c_tidyF [(0, str a0), (1, str a1), (5, .int .u32 t13.1), (6, .int .u32 t13.2), (7, .int .i64 (a1.length : Int)), (8, .int .u32 x8_5), (9, .int .i64 x9_2)] [] rfl rfl ?_
    refine c_seq ?_
    refine c_seq ?_
    refine c_region ?_
    refine l_val rfl rfl rfl (r_move (v := .int .i64 x9_2) rfl) ?_
    refine l_val rfl rfl rfl (r_move (v := .int .i64 (a1.length : Int)) rfl) ?_
    refine l_val rfl rfl rfl (r_lss rfl rfl) ?_
    refine l_nil ?_
    refine c_if (b := (decide (x9_2 < (a1.length : Int)))) rfl (fun hb => ?_) (fun hb => ?_)
    · have H56 := cnd_t hb H55; clear H55
      refine c_skip ?_
      refine c_seq ?_
      refine c_block ?_
      refine c_region ?_
      refine l_val rfl rfl rfl (r_move (v := .int .u32 x8_5) rfl) ?_
      refine l_val rfl rfl rfl (r_mulW rfl rfl (wr_u32 _)) ?_
      refine l_val rfl rfl rfl (r_move (v := str a0) rfl) ?_
      refine l_val rfl rfl rfl (r_move (v := .int .i64 x9_2) rfl) ?_
      obtain ⟨t27, h_t27, H57⟩ := bnd_some H56; clear H56
      refine l_val rfl rfl rfl (r_octG Tryd.underlying9 rfl rfl h_t27) ?_
      obtain ⟨t28, h_t28, H58⟩ := bnd_some H57; clear H57
      refine l_val rfl rfl rfl (r_convG Tryd.runUnderlying5 Tryd.runUnderlying167 rfl (gK_u32 h_t28)) ?_
      refine l_val rfl rfl rfl (r_addW rfl rfl (wr_u32 _)) ?_
      refine l_val rfl rfl rfl (r_assign (v := .int .u32 (wU32 ((wU32 (x8_5 * 16777619)) + t28))) rfl) ?_
      refine l_nil ?_
      refine c_region ?_
      refine l_val rfl rfl rfl (r_move (v := .int .i64 x9_2) rfl) ?_
      obtain ⟨t22, h_t22, H59⟩ := bnd_some H58; clear H58
      refine l_val rfl rfl rfl (r_addG rfl rfl h_t22) ?_
      refine l_val rfl rfl rfl (r_assign (v := .int .i64 t22) rfl) ?_
      refine l_nil ?_
      refine c_close ((wU32 ((wU32 (x8_5 * 16777619)) + t28)), t22) () m4 [] (by exact ⟨rfl, rfl, rfl, rfl, rfl, rfl, rfl, trivial⟩) (by decide) rfl (by exact ⟨(by subst hn4; exact H59), trivial⟩) (Nat.lt_succ_self _)
    · have H60 := cnd_f hb H55; clear H55
      refine c_exit ?_
      refine c_close x8_5 () 0 [] (by exact ⟨rfl, rfl, rfl, rfl, rfl, rfl, trivial⟩) (by decide) rfl (by exact ⟨H60, trivial⟩) (Nat.lt_succ_self _)
  · rintro x8 _ gg H32 _
    replace H32 : internal_bytealg_IndexRabinKarp_string_j1 a0 a1 t13 x8 = some r := H32
    refine c_tidyF [(0, str a0), (1, str a1), (5, .int .u32 t13.1), (6, .int .u32 t13.2), (7, .int .i64 (a1.length : Int)), (8, .int .u32 x8)] [] rfl rfl ?_
    refine c_meet (r := r) (σ := Unit) (τ := Unit) (fun s => internal_bytealg_IndexRabinKarp_string_j2 a0 a1 t13 x8) (fun s t => [(0, str a0), (1, str a1), (5, .int .u32 t13.1), (6, .int .u32 t13.2), (7, .int .i64 (a1.length : Int)), (8, .int .u32 x8)]) (fun s t => []) (fun s t => True) ?_ ?_
    · refine c_seq ?_
      refine c_region ?_
      refine l_val rfl rfl rfl (r_move (v := .int .u32 x8) rfl) ?_
      refine l_val rfl rfl rfl (r_move (v := .int .u32 t13.1) rfl) ?_
      refine l_val rfl rfl rfl (r_eql rfl rfl) ?_
      refine l_val rfl rfl rfl (r_move (v := .bool (decide (x8 = t13.1))) rfl) ?_
      refine split (fun hb => ?_) (fun hb => ?_)
      · have H50 := cnd_t hb H32; clear H32
        refine l_val rfl rfl rfl (r_move (v := str a0) rfl) ?_
        refine l_val rfl rfl rfl (r_move (v := .int .i64 (a1.length : Int)) rfl) ?_
        obtain ⟨t36, h_t36, H51⟩ := bnd_some H50; clear H50
        refine l_val rfl rfl rfl (r_cutToG Tryd.underlying9 rfl rfl h_t36) ?_
        refine l_val rfl rfl rfl (r_move (v := str a1) rfl) ?_
        refine l_val rfl rfl rfl (r_eqlT rfl rfl) ?_
        refine l_val rfl rfl rfl (r_pickT (v := .bool (decide (t36 = a1))) rfl rfl) ?_
        refine l_nil ?_
        refine c_if (b := (decide (t36 = a1))) rfl (fun hb => ?_) (fun hb => ?_)
        · have H52 := cnd_t hb H51; clear H51
          refine c_seq ?_
          refine c_region ?_
          refine l_val rfl rfl rfl (r_assign (v := .int .i64 0) rfl) ?_
          refine l_nil ?_
          refine c_ret ?_
          obtain rfl := Option.some.inj H52
          refine ret1 (v := .int .i64 0) rfl rfl (fin rfl)
        · have H53 := cnd_f hb H51; clear H51
          refine c_skip ?_
          refine c_close () () 0 [] (by exact ⟨rfl, rfl, rfl, rfl, rfl, rfl, trivial⟩) (by decide) rfl (by exact ⟨H53, trivial⟩) (Nat.lt_succ_self _)
      · have H54 := cnd_f hb H32; clear H32
        refine l_passed rfl rfl rfl ?_
        refine l_passed rfl rfl rfl ?_
        refine l_passed rfl rfl rfl ?_
        refine l_passed rfl rfl rfl ?_
        refine l_passed rfl rfl rfl ?_
        refine l_val rfl rfl rfl (r_pickF (v := .bool false) rfl rfl) ?_
        refine l_nil ?_
        refine c_false rfl ?_
        refine c_skip ?_
        refine c_close () () 0 [] (by exact ⟨rfl, rfl, rfl, rfl, rfl, rfl, trivial⟩) (by decide) rfl (by exact ⟨H54, trivial⟩) (Nat.lt_succ_self _)
    · rintro _ _ gg H33 _
      replace H33 : internal_bytealg_IndexRabinKarp_string_j2 a0 a1 t13 x8 = some r := H33
      refine c_tidyF [(0, str a0), (1, str a1), (5, .int .u32 t13.1), (6, .int .u32 t13.2), (7, .int .i64 (a1.length : Int)), (8, .int .u32 x8)] [] rfl rfl ?_
      refine c_seq ?_
      refine c_seq ?_
      refine c_region ?_
      refine l_val rfl rfl rfl (r_move (v := .int .i64 (a1.length : Int)) rfl) ?_
      refine l_val rfl rfl rfl (r_assign (v := .int .i64 (a1.length : Int)) rfl) ?_
      refine l_nil ?_
      refine c_block ?_
      refine c_fix (σ := Int × Int) (τ := Unit) (fun next3 s => internal_bytealg_IndexRabinKarp_string_l3 a0 a1 t13 next3 s.1 s.2) (fun s t => [(0, str a0), (1, str a1), (5, .int .u32 t13.1), (6, .int .u32 t13.2), (7, .int .i64 (a1.length : Int)), (8, .int .u32 s.1), (10, .int .i64 s.2)]) (fun s t => []) (fun s t => True) (x8, (a1.length : Int)) () [] H33 (by exact trivial) (by exact ⟨rfl, rfl, rfl, rfl, rfl, rfl, rfl, trivial⟩) (by decide) rfl ?_
      rintro ⟨x8_3, x10_2⟩ _ m3 gg H34 _
      clear H33
      replace H34 : internal_bytealg_IndexRabinKarp_string_l3 a0 a1 t13 (it (fun next3 s => internal_bytealg_IndexRabinKarp_string_l3 a0 a1 t13 next3 s.1 s.2) m3) x8_3 x10_2 = some r := H34
      generalize hn3 : it (fun next3 s => internal_bytealg_IndexRabinKarp_string_l3 a0 a1 t13 next3 s.1 s.2) m3 = next3 at H34
      refine c_tidyF [(0, str a0), (1, str a1), (5, .int .u32 t13.1), (6, .int .u32 t13.2), (7, .int .i64 (a1.length : Int)), (8, .int .u32 x8_3), (10, .int .i64 x10_2)] [] rfl rfl ?_
      refine c_seq ?_
      refine c_seq ?_
      refine c_region ?_
      refine l_val rfl rfl rfl (r_move (v := .int .i64 x10_2) rfl) ?_
      refine l_val rfl rfl rfl (r_move (v := str a0) rfl) ?_
      refine l_val rfl rfl rfl (r_lenT Tryd.underlying9 rfl) ?_
      refine l_val rfl rfl rfl (r_lss rfl rfl) ?_
      refine l_nil ?_
      refine c_if (b := (decide (x10_2 < (a0.length : Int)))) rfl (fun hb => ?_) (fun hb => ?_)
      · have H35 := cnd_t hb H34; clear H34
        refine c_skip ?_
        refine c_block ?_
        refine c_seq ?_
        refine c_region ?_
        refine l_val rfl rfl rfl (r_move (v := .int .u32 x8_3) rfl) ?_
        refine l_val rfl rfl rfl (r_mulW rfl rfl (wr_u32 _)) ?_
        refine l_val rfl rfl rfl (r_assign (v := .int .u32 (wU32 (x8_3 * 16777619))) rfl) ?_
        refine l_nil ?_
        refine c_seq ?_
        refine c_region ?_
        refine l_val rfl rfl rfl (r_move (v := .int .u32 (wU32 (x8_3 * 16777619))) rfl) ?_
        refine l_val rfl rfl rfl (r_move (v := str a0) rfl) ?_
        refine l_val rfl rfl rfl (r_move (v := .int .i64 x10_2) rfl) ?_
        obtain ⟨t50, h_t50, H36⟩ := bnd_some H35; clear H35
        refine l_val rfl rfl rfl (r_octG Tryd.underlying9 rfl rfl h_t50) ?_
        obtain ⟨t51, h_t51, H37⟩ := bnd_some H36; clear H36
        refine l_val rfl rfl rfl (r_convG Tryd.runUnderlying5 Tryd.runUnderlying167 rfl (gK_u32 h_t51)) ?_
        refine l_val rfl rfl rfl (r_addW rfl rfl (wr_u32 _)) ?_
        refine l_val rfl rfl rfl (r_assign (v := .int .u32 (wU32 ((wU32 (x8_3 * 16777619)) + t51))) rfl) ?_
        refine l_nil ?_
        refine c_seq ?_
        refine c_region ?_
        refine l_val rfl rfl rfl (r_move (v := .int .u32 (wU32 ((wU32 (x8_3 * 16777619)) + t51))) rfl) ?_
        refine l_val rfl rfl rfl (r_move (v := .int .u32 t13.2) rfl) ?_
        refine l_val rfl rfl rfl (r_move (v := str a0) rfl) ?_
        refine l_val rfl rfl rfl (r_move (v := .int .i64 x10_2) rfl) ?_
        refine l_val rfl rfl rfl (r_move (v := .int .i64 (a1.length : Int)) rfl) ?_
        obtain ⟨t58, h_t58, H38⟩ := bnd_some H37; clear H37
        refine l_val rfl rfl rfl (r_subG rfl rfl h_t58) ?_
        obtain ⟨t59, h_t59, H39⟩ := bnd_some H38; clear H38
        refine l_val rfl rfl rfl (r_octG Tryd.underlying9 rfl rfl h_t59) ?_
        obtain ⟨t60, h_t60, H40⟩ := bnd_some H39; clear H39
        refine l_val rfl rfl rfl (r_convG Tryd.runUnderlying5 Tryd.runUnderlying167 rfl (gK_u32 h_t60)) ?_
        refine l_val rfl rfl rfl (r_mulW rfl rfl (wr_u32 _)) ?_
        refine l_val rfl rfl rfl (r_subW rfl rfl (wr_u32 _)) ?_
        refine l_val rfl rfl rfl (r_assign (v := .int .u32 (wU32 ((wU32 ((wU32 (x8_3 * 16777619)) + t51)) - (wU32 (t13.2 * t60))))) rfl) ?_
        refine l_nil ?_
        refine c_seq ?_
        refine c_region ?_
        refine l_val rfl rfl rfl (r_move (v := .int .i64 x10_2) rfl) ?_
        obtain ⟨t64, h_t64, H41⟩ := bnd_some H40; clear H40
        refine l_val rfl rfl rfl (r_addG rfl rfl h_t64) ?_
        refine l_val rfl rfl rfl (r_assign (v := .int .i64 t64) rfl) ?_
        refine l_nil ?_
        refine c_seq ?_
        refine c_region ?_
        refine l_val rfl rfl rfl (r_move (v := .int .u32 (wU32 ((wU32 ((wU32 (x8_3 * 16777619)) + t51)) - (wU32 (t13.2 * t60))))) rfl) ?_
        refine l_val rfl rfl rfl (r_move (v := .int .u32 t13.1) rfl) ?_
        refine l_val rfl rfl rfl (r_eql rfl rfl) ?_
        refine l_val rfl rfl rfl (r_move (v := .bool (decide ((wU32 ((wU32 ((wU32 (x8_3 * 16777619)) + t51)) - (wU32 (t13.2 * t60)))) = t13.1))) rfl) ?_
        refine split (fun hb => ?_) (fun hb => ?_)
        · have H42 := cnd_t hb H41; clear H41
          refine l_val rfl rfl rfl (r_move (v := str a0) rfl) ?_
          refine l_val rfl rfl rfl (r_move (v := .int .i64 t64) rfl) ?_
          refine l_val rfl rfl rfl (r_move (v := .int .i64 (a1.length : Int)) rfl) ?_
          obtain ⟨t72, h_t72, H43⟩ := bnd_some H42; clear H42
          refine l_val rfl rfl rfl (r_subG rfl rfl h_t72) ?_
          refine l_val rfl rfl rfl (r_move (v := .int .i64 t64) rfl) ?_
          obtain ⟨t74, h_t74, H44⟩ := bnd_some H43; clear H43
          refine l_val rfl rfl rfl (r_cutTG Tryd.underlying9 rfl rfl rfl h_t74) ?_
          refine l_val rfl rfl rfl (r_move (v := str a1) rfl) ?_
          refine l_val rfl rfl rfl (r_eqlT rfl rfl) ?_
          refine l_val rfl rfl rfl (r_pickT (v := .bool (decide (t74 = a1))) rfl rfl) ?_
          refine l_nil ?_
          refine c_if (b := (decide (t74 = a1))) rfl (fun hb => ?_) (fun hb => ?_)
          · have H45 := cnd_t hb H44; clear H44
            refine c_seq ?_
            refine c_region ?_
            refine l_val rfl rfl rfl (r_move (v := .int .i64 t64) rfl) ?_
            refine l_val rfl rfl rfl (r_move (v := .int .i64 (a1.length : Int)) rfl) ?_
            obtain ⟨t80, h_t80, H46⟩ := bnd_some H45; clear H45
            refine l_val rfl rfl rfl (r_subG rfl rfl h_t80) ?_
            refine l_val rfl rfl rfl (r_assign (v := .int .i64 t80) rfl) ?_
            refine l_nil ?_
            refine c_ret ?_
            obtain rfl := Option.some.inj H46
            refine ret1 (v := .int .i64 t80) rfl rfl (fin rfl)
          · have H47 := cnd_f hb H44; clear H44
            refine c_skip ?_
            refine c_close ((wU32 ((wU32 ((wU32 (x8_3 * 16777619)) + t51)) - (wU32 (t13.2 * t60)))), t64) () m3 [] (by exact ⟨rfl, rfl, rfl, rfl, rfl, rfl, rfl, trivial⟩) (by decide) rfl (by exact ⟨(by subst hn3; exact H47), trivial⟩) (Nat.lt_succ_self _)
        · have H48 := cnd_f hb H41; clear H41
          refine l_passed rfl rfl rfl ?_
          refine l_passed rfl rfl rfl ?_
          refine l_passed rfl rfl rfl ?_
          refine l_passed rfl rfl rfl ?_
          refine l_passed rfl rfl rfl ?_
          refine l_passed rfl rfl rfl ?_
          refine l_passed rfl rfl rfl ?_
          refine l_passed rfl rfl rfl ?_
          refine l_val rfl rfl rfl (r_pickF (v := .bool false) rfl rfl) ?_
          refine l_nil ?_
          refine c_false rfl ?_
          refine c_skip ?_
          refine c_close ((wU32 ((wU32 ((wU32 (x8_3 * 16777619)) + t51)) - (wU32 (t13.2 * t60)))), t64) () m3 [] (by exact ⟨rfl, rfl, rfl, rfl, rfl, rfl, rfl, trivial⟩) (by decide) rfl (by exact ⟨(by subst hn3; exact H48), trivial⟩) (Nat.lt_succ_self _)
      · have H49 := cnd_f hb H34; clear H34
        refine c_exit ?_
        refine c_seq ?_
        refine c_region ?_
        refine l_val rfl rfl rfl (r_assign (v := .int .i64 (-1)) rfl) ?_
        refine l_nil ?_
        refine c_ret ?_
        obtain rfl := Option.some.inj H49
        refine ret1 (v := .int .i64 (-1)) rfl rfl (fin rfl)
theorem k96 {a0 : (List UInt8)} {a1 : (List UInt8)} {r : Int} (H : internal_stringslite_Index a0 a1 = some r) : Ret Tryd.prog 96 [str a0, str a1] (.int .i64 r) := by
  refine enterRet (n := 143) Tryd.func96 rfl rfl rfl (fun wd => ?_)
  refine c_seq ?_
  refine c_region ?_
  refine l_val rfl rfl rfl (r_assign (v := .int .i64 0) rfl) ?_
  refine l_nil ?_
  refine c_seq ?_
  refine c_region ?_
  refine l_val rfl rfl rfl (r_move (v := str a1) rfl) ?_
  refine l_val rfl rfl rfl (r_lenT Tryd.underlying9 rfl) ?_
  refine l_val rfl rfl rfl (r_assign (v := .int .i64 (a1.length : Int)) rfl) ?_
  refine l_nil ?_
  refine c_seq ?_
  refine c_block ?_
  refine c_seq ?_
  refine c_region ?_
  refine l_val rfl rfl rfl (r_move (v := .int .i64 (a1.length : Int)) rfl) ?_
  refine l_val rfl rfl rfl (r_eql rfl rfl) ?_
  refine l_val rfl rfl rfl (r_move (v := .bool (decide ((a1.length : Int) = 0))) rfl) ?_
  refine split (fun hb => ?_) (fun hb => ?_)
  · have H11 := cnd_t hb H; clear H
    refine l_passed rfl rfl rfl ?_
    refine l_passed rfl rfl rfl ?_
    refine l_passed rfl rfl rfl ?_
    refine l_val rfl rfl rfl (r_pickT (v := .bool true) rfl rfl) ?_
    refine l_val rfl rfl rfl (r_assign (v := .bool true) rfl) ?_
    refine l_nil ?_
    refine c_true rfl ?_
    refine c_seq ?_
    refine c_region ?_
    refine l_val rfl rfl rfl (r_assign (v := .int .i64 0) rfl) ?_
    refine l_nil ?_
    refine c_ret ?_
    obtain rfl := Option.some.inj H11
    refine ret1 (v := .int .i64 0) rfl rfl (fin rfl)
  · have H12 := cnd_f hb H; clear H
    refine l_val rfl rfl rfl (r_move (v := str a1) rfl) ?_
    refine l_val rfl rfl rfl (r_move (v := str a0) rfl) ?_
    refine l_val rfl rfl rfl (r_eqlT rfl rfl) ?_
    refine l_val rfl rfl rfl (r_pickF (v := .bool (decide (a1 = a0))) rfl rfl) ?_
    refine l_val rfl rfl rfl (r_assign (v := .bool (decide (a1 = a0))) rfl) ?_
    refine l_nil ?_
    refine c_if (b := (decide (a1 = a0))) rfl (fun hb => ?_) (fun hb => ?_)
    · have H13 := cnd_t hb H12; clear H12
      refine c_seq ?_
      refine c_region ?_
      refine l_val rfl rfl rfl (r_assign (v := .int .i64 0) rfl) ?_
      refine l_nil ?_
      refine c_ret ?_
      obtain rfl := Option.some.inj H13
      refine ret1 (v := .int .i64 0) rfl rfl (fin rfl)
    · have H14 := cnd_f hb H12; clear H12
      refine c_seq ?_
      refine c_region ?_
      refine l_val rfl rfl rfl (r_move (v := .int .i64 (a1.length : Int)) rfl) ?_
      refine l_val rfl rfl rfl (r_eql rfl rfl) ?_
      refine l_val rfl rfl rfl (r_assign (v := .bool (decide ((a1.length : Int) = 1))) rfl) ?_
      refine l_nil ?_
      refine c_if (b := (decide ((a1.length : Int) = 1))) rfl (fun hb => ?_) (fun hb => ?_)
      · have H15 := cnd_t hb H14; clear H14
        refine c_seq ?_
        refine c_region ?_
        refine l_val rfl rfl rfl (r_move (v := str a0) rfl) ?_
        refine l_val rfl rfl rfl (r_move (v := str a1) rfl) ?_
        obtain ⟨t29, h_t29, H16⟩ := bnd_some H15; clear H15
        refine l_val rfl rfl rfl (r_octG Tryd.underlying9 rfl rfl h_t29) ?_
        obtain ⟨t30, h_t30, H17⟩ := bnd_some H16; clear H16
        refine l_call (k114 h_t30) Tryd.call114 rfl rfl rfl ?_
        refine l_val rfl rfl rfl (r_assign (v := .int .i64 t30) rfl) ?_
        refine l_nil ?_
        refine c_ret ?_
        obtain rfl := Option.some.inj H17
        refine ret1 (v := .int .i64 t30) rfl rfl (fin rfl)
      · have H18 := cnd_f hb H14; clear H14
        refine c_seq ?_
        refine c_region ?_
        refine l_val rfl rfl rfl (r_move (v := .int .i64 (a1.length : Int)) rfl) ?_
        refine l_val rfl rfl rfl (r_move (v := str a0) rfl) ?_
        refine l_val rfl rfl rfl (r_lenT Tryd.underlying9 rfl) ?_
        refine l_val rfl rfl rfl (r_geq rfl rfl) ?_
        refine l_val rfl rfl rfl (r_assign (v := .bool (decide ((a0.length : Int) ≤ (a1.length : Int)))) rfl) ?_
        refine l_nil ?_
        refine c_if (b := (decide ((a0.length : Int) ≤ (a1.length : Int)))) rfl (fun hb => ?_) (fun hb => ?_)
        · have H19 := cnd_t hb H18; clear H18
          refine c_seq ?_
          refine c_region ?_
          refine l_val rfl rfl rfl (r_assign (v := .int .i64 (-1)) rfl) ?_
          refine l_nil ?_
          refine c_ret ?_
          obtain rfl := Option.some.inj H19
          refine ret1 (v := .int .i64 (-1)) rfl rfl (fin rfl)
        · have H20 := cnd_f hb H18; clear H18
          exact absurd (show (none : Option (Int)) = some r from H20) (fun h => by cases h)
theorem k74 {a0 : (List UInt8)} {a1 : (List UInt8)} {r : (List UInt8) × (List UInt8) × Bool} (H : internal_stringslite_Cut a0 a1 = some r) : Ret Tryd.prog 74 [str a0, str a1] (.tuple #[str r.1, str r.2.1, .bool r.2.2]) := by
  refine enterRet (n := 23) Tryd.func74 rfl rfl rfl (fun wd => ?_)
  refine c_seq ?_
  refine c_region ?_
  refine l_val rfl rfl rfl (r_assign (v := str []) rfl) ?_
  refine l_val rfl rfl rfl (r_assign (v := str []) rfl) ?_
  refine l_val rfl rfl rfl (r_assign (v := .bool false) rfl) ?_
  refine l_nil ?_
  refine c_seq ?_
  refine c_seq ?_
  refine c_region ?_
  refine l_val rfl rfl rfl (r_move (v := str a0) rfl) ?_
  refine l_val rfl rfl rfl (r_move (v := str a1) rfl) ?_
  obtain ⟨t10, h_t10, H7⟩ := bnd_some H; clear H
  refine l_call (k96 h_t10) Tryd.call96 rfl rfl rfl ?_
  refine l_val rfl rfl rfl (r_assign (v := .int .i64 t10) rfl) ?_
  refine l_nil ?_
  refine c_seq ?_
  refine c_region ?_
  refine l_val rfl rfl rfl (r_move (v := .int .i64 t10) rfl) ?_
  refine l_val rfl rfl rfl (r_geq rfl rfl) ?_
  refine l_nil ?_
  refine c_if (b := (decide (0 ≤ t10))) rfl (fun hb => ?_) (fun hb => ?_)
  · have H8 := cnd_t hb H7; clear H7
    refine c_seq ?_
    exact c_regionD (Kd.p :: Kd.p :: Kd.p :: Kd.p :: Kd.p :: Kd.p :: Kd.p :: Kd.p :: Kd.p :: Kd.p :: Kd.p :: Kd.p :: []) 0 mixed (by
      refine d_val rfl rfl (r_move (v := str a0) rfl) ?_
      refine d_val rfl rfl (r_move (v := .int .i64 t10) rfl) ?_
      have h_t15 := bnd_val H8
      have H9 := bnd_rest H8
      refine d_val rfl rfl (r_cutToG Tryd.underlying9 rfl rfl h_t15) ?_
      refine d_val rfl rfl (r_move (v := str a0) rfl) ?_
      refine d_val rfl rfl (r_move (v := .int .i64 t10) rfl) ?_
      refine d_val rfl rfl (r_move (v := str a1) rfl) ?_
      refine d_val rfl rfl (r_lenT Tryd.underlying9 rfl) ?_
      have h_t20 := bnd_val H9
      have H10 := bnd_rest H9
      refine d_val rfl rfl (r_addG rfl rfl h_t20) ?_
      have h_t21 := bnd_val H10
      have H11 := bnd_rest H10
      refine d_val rfl rfl (r_cutFromG Tryd.underlying9 rfl rfl h_t21) ?_
      refine d_val rfl rfl (r_assign (v := str (val (gCut a0 0 t10))) rfl) ?_
      refine d_val rfl rfl (r_assign (v := str (val (gCut a0 (val (gI (t10 + (a1.length : Int)))) a0.length))) rfl) ?_
      refine d_val rfl rfl (r_assign (v := .bool true) rfl) ?_
      refine d_nil ?_
      refine c_ret ?_
      obtain rfl := Option.some.inj H11
      refine ret3 (v1 := str (val (gCut a0 0 t10))) (v2 := str (val (gCut a0 (val (gI (t10 + (a1.length : Int)))) a0.length))) (v3 := .bool true) rfl rfl rfl rfl (fin rfl)
      ) (by kernel_rfl)
  · have H12 := cnd_f hb H7; clear H7
    refine c_skip ?_
    refine c_seq ?_
    refine c_region ?_
    refine l_val rfl rfl rfl (r_move (v := str a0) rfl) ?_
    refine l_val rfl rfl rfl (r_assign (v := str a0) rfl) ?_
    refine l_val rfl rfl rfl (r_assign (v := str []) rfl) ?_
    refine l_val rfl rfl rfl (r_assign (v := .bool false) rfl) ?_
    refine l_nil ?_
    refine c_ret ?_
    obtain rfl := Option.some.inj H12
    refine ret3 (v1 := str a0) (v2 := str []) (v3 := .bool false) rfl rfl rfl rfl (fin rfl)
theorem k45 {a0 : (List UInt8)} {a1 : (List UInt8)} {r : (List UInt8) × (List UInt8) × Bool} (H : strings_Cut a0 a1 = some r) : Ret Tryd.prog 45 [str a0, str a1] (.tuple #[str r.1, str r.2.1, .bool r.2.2]) := by
  refine enterRet (n := 13) Tryd.func45 rfl rfl rfl (fun wd => ?_)
  refine c_seq ?_
  refine c_region ?_
  refine l_val rfl rfl rfl (r_assign (v := str []) rfl) ?_
  refine l_val rfl rfl rfl (r_assign (v := str []) rfl) ?_
  refine l_val rfl rfl rfl (r_assign (v := .bool false) rfl) ?_
  refine l_nil ?_
  refine c_seq ?_
  refine c_region ?_
  refine l_val rfl rfl rfl (r_move (v := str a0) rfl) ?_
  refine l_val rfl rfl rfl (r_move (v := str a1) rfl) ?_
  obtain ⟨t9, h_t9, H2⟩ := bnd_some H; clear H
  refine l_call (k74 h_t9) Tryd.call74 rfl rfl rfl ?_
  refine l_val rfl rfl rfl (r_extract (v := str t9.1) rfl rfl) ?_
  refine l_val rfl rfl rfl (r_extract (v := str t9.2.1) rfl rfl) ?_
  refine l_val rfl rfl rfl (r_extract (v := .bool t9.2.2) rfl rfl) ?_
  refine l_val rfl rfl rfl (r_assign (v := str t9.1) rfl) ?_
  refine l_val rfl rfl rfl (r_assign (v := str t9.2.1) rfl) ?_
  refine l_val rfl rfl rfl (r_assign (v := .bool t9.2.2) rfl) ?_
  refine l_nil ?_
  refine c_ret ?_
  obtain rfl := Option.some.inj H2
  refine ret3 (v1 := str t9.1) (v2 := str t9.2.1) (v3 := .bool t9.2.2) rfl rfl rfl rfl (fin rfl)
theorem k130 {a0 : (List UInt8)} {r : Int × Int} (H : unicode_utf8_decodeRuneInStringSlow a0 = some r) : Ret Tryd.prog 130 [str a0] (.tuple #[.int .i32 r.1, .int .i64 r.2]) := by
  refine enterRet (n := 117) Tryd.func130 rfl rfl rfl (fun wd => ?_)
  refine c_seq ?_
  refine c_region ?_
  refine l_val rfl rfl rfl (r_assign (v := .int .i32 0) rfl) ?_
  refine l_val rfl rfl rfl (r_assign (v := .int .i64 0) rfl) ?_
  refine l_nil ?_
  refine c_seq ?_
  refine c_region ?_
  refine l_val rfl rfl rfl (r_move (v := str a0) rfl) ?_
  refine l_val rfl rfl rfl (r_lenT Tryd.underlying9 rfl) ?_
  refine l_val rfl rfl rfl (r_assign (v := .int .i64 (a0.length : Int)) rfl) ?_
  refine l_nil ?_
  refine c_seq ?_
  refine c_seq ?_
  refine c_region ?_
  refine l_val rfl rfl rfl (r_move (v := .int .i64 (a0.length : Int)) rfl) ?_
  refine l_val rfl rfl rfl (r_lss rfl rfl) ?_
  refine l_nil ?_
  refine c_if (b := (decide ((a0.length : Int) < 1))) rfl (fun hb => ?_) (fun hb => ?_)
  · have H3 := cnd_t hb H; clear H
    refine c_seq ?_
    refine c_region ?_
    refine l_val rfl rfl rfl (r_assign (v := .int .i32 65533) rfl) ?_
    refine l_val rfl rfl rfl (r_assign (v := .int .i64 0) rfl) ?_
    refine l_nil ?_
    refine c_ret ?_
    obtain rfl := Option.some.inj H3
    refine ret2 (v1 := .int .i32 65533) (v2 := .int .i64 0) rfl rfl rfl (fin rfl)
  · have H4 := cnd_f hb H; clear H
    exact absurd (show (none : Option (Int × Int)) = some r from H4) (fun h => by cases h)
theorem k110 {a0 : (List UInt8)} {r : Int × Int} (H : unicode_utf8_DecodeRuneInString a0 = some r) : Ret Tryd.prog 110 [str a0] (.tuple #[.int .i32 r.1, .int .i64 r.2]) := by
  refine enterRet (n := 19) Tryd.func110 rfl rfl rfl (fun wd => ?_)
  refine c_seq ?_
  refine c_region ?_
  refine l_val rfl rfl rfl (r_assign (v := .int .i32 0) rfl) ?_
  refine l_val rfl rfl rfl (r_assign (v := .int .i64 0) rfl) ?_
  refine l_nil ?_
  refine c_seq ?_
  refine c_meet (r := r) (σ := Bool) (τ := Unit) (fun s => unicode_utf8_DecodeRuneInString_j1 a0 s) (fun s t => [(0, str a0), (10, .bool s)]) (fun s t => []) (fun s t => True) ?_ ?_
  · refine c_region ?_
    refine l_val rfl rfl rfl (r_move (v := str a0) rfl) ?_
    refine l_val rfl rfl rfl (r_neqT rfl rfl) ?_
    refine l_val rfl rfl rfl (r_move (v := .bool (decide (a0 ≠ []))) rfl) ?_
    refine split (fun hb => ?_) (fun hb => ?_)
    · have H16 := cnd_t hb H; clear H
      refine l_val rfl rfl rfl (r_move (v := str a0) rfl) ?_
      obtain ⟨t8, h_t8, H17⟩ := bnd_some H16; clear H16
      refine l_val rfl rfl rfl (r_octG Tryd.underlying9 rfl rfl h_t8) ?_
      refine l_val rfl rfl rfl (r_lss rfl rfl) ?_
      refine l_val rfl rfl rfl (r_pickT (v := .bool (decide (t8 < 128))) rfl rfl) ?_
      refine l_nil ?_
      refine c_close (decide (t8 < 128)) () 0 [] (by exact ⟨rfl, rfl, trivial⟩) (by decide) rfl (by exact ⟨H17, trivial⟩) (Nat.lt_succ_self _)
    · have H18 := cnd_f hb H; clear H
      refine l_passed rfl rfl rfl ?_
      refine l_passed rfl rfl rfl ?_
      refine l_passed rfl rfl rfl ?_
      refine l_val rfl rfl rfl (r_pickF (v := .bool false) rfl rfl) ?_
      refine l_nil ?_
      refine c_close false () 0 [] (by exact ⟨rfl, rfl, trivial⟩) (by decide) rfl (by exact ⟨H18, trivial⟩) (Nat.lt_succ_self _)
  · rintro x10 _ gg H10 _
    replace H10 : unicode_utf8_DecodeRuneInString_j1 a0 x10 = some r := H10
    refine c_tidyF [(0, str a0), (10, .bool x10)] [] rfl rfl ?_
    refine c_if (b := x10) rfl (fun hb => ?_) (fun hb => ?_)
    · have H11 := cnd_t hb H10; clear H10
      refine c_seq ?_
      refine c_region ?_
      refine l_val rfl rfl rfl (r_move (v := str a0) rfl) ?_
      obtain ⟨t12, h_t12, H12⟩ := bnd_some H11; clear H11
      refine l_val rfl rfl rfl (r_octG Tryd.underlying9 rfl rfl h_t12) ?_
      obtain ⟨t13, h_t13, H13⟩ := bnd_some H12; clear H12
      refine l_val rfl rfl rfl (r_convG Tryd.runUnderlying5 Tryd.runUnderlying21 rfl (gK_i32 h_t13)) ?_
      refine l_val rfl rfl rfl (r_assign (v := .int .i32 t13) rfl) ?_
      refine l_val rfl rfl rfl (r_assign (v := .int .i64 1) rfl) ?_
      refine l_nil ?_
      refine c_ret ?_
      obtain rfl := Option.some.inj H13
      refine ret2 (v1 := .int .i32 t13) (v2 := .int .i64 1) rfl rfl rfl (fin rfl)
    · have H14 := cnd_f hb H10; clear H10
      refine c_region ?_
      refine l_val rfl rfl rfl (r_move (v := str a0) rfl) ?_
      obtain ⟨t16, h_t16, H15⟩ := bnd_some H14; clear H14
      refine l_call (k130 h_t16) Tryd.call130 rfl rfl rfl ?_
      refine l_val rfl rfl rfl (r_move (v := .tuple #[.int .i32 t16.1, .int .i64 t16.2]) rfl) ?_
      refine l_val rfl rfl rfl (r_extract (v := .int .i32 t16.1) rfl rfl) ?_
      refine l_val rfl rfl rfl (r_extract (v := .int .i64 t16.2) rfl rfl) ?_
      refine l_val rfl rfl rfl (r_assign (v := .int .i32 t16.1) rfl) ?_
      refine l_val rfl rfl rfl (r_assign (v := .int .i64 t16.2) rfl) ?_
      refine l_nil ?_
      refine c_ret ?_
      obtain rfl := Option.some.inj H15
      refine ret2 (v1 := .int .i32 t16.1) (v2 := .int .i64 t16.2) rfl rfl rfl (fin rfl)
theorem k118 {a0 : (List UInt8)} {r : Int} (H : unicode_utf8_RuneCountInString a0 = some r) : Ret Tryd.prog 118 [str a0] (.int .i64 r) := by
  refine enterRet (n := 10) Tryd.func118 rfl rfl rfl (fun wd => ?_)
  refine c_seq ?_
  refine c_region ?_
  refine l_val rfl rfl rfl (r_assign (v := .int .i64 0) rfl) ?_
  refine l_nil ?_
  refine c_seq ?_
  refine c_seq ?_
  refine c_region ?_
  refine l_val rfl rfl rfl (r_move (v := str a0) rfl) ?_
  refine l_make (rds := []) (makes_range (s := a0) Tryd.underlying9 rfl) rfl rfl rfl (fun b1 => ?_)
  refine l_nil ?_
  refine c_block ?_
  refine c_fix (σ := Int × Nat) (τ := Unit) (fun next1 s => unicode_utf8_RuneCountInString_l1 a0 next1 s.1 s.2) (fun s t => [(2, .int .i64 s.1), (4, .pointer (some ⟨b1, 0, none⟩))]) (fun s t => [iterC b1 a0 s.2]) (fun s t => True) (0, 0) () [0] H (by exact trivial) (by exact ⟨rfl, rfl, trivial⟩) (by decide) rfl ?_
  rintro ⟨x2_2, k_2⟩ _ m1 gg H6 _
  clear H
  replace H6 : unicode_utf8_RuneCountInString_l1 a0 (it (fun next1 s => unicode_utf8_RuneCountInString_l1 a0 next1 s.1 s.2) m1) x2_2 k_2 = some r := H6
  generalize hn1 : it (fun next1 s => unicode_utf8_RuneCountInString_l1 a0 next1 s.1 s.2) m1 = next1 at H6
  refine c_tidyF [(2, .int .i64 x2_2), (4, .pointer (some ⟨b1, 0, none⟩))] [iterC b1 a0 k_2] rfl rfl ?_
  refine c_seq ?_
  refine c_region ?_
  refine caseB (decide (k_2 < a0.length)) (fun hb => ?_) (fun hb => ?_)
  · have H7 := cnd_t hb H6; clear H6
    obtain ⟨t5, h_t5, H8⟩ := bnd_some H7; clear H7
    refine l_turn (turns_next (i := 0) (rds := []) rfl rfl h_t5) rfl rfl rfl (fun _ => ?_)
    refine l_val rfl rfl rfl (r_extract (v := .bool true) rfl rfl) ?_
    refine l_nil ?_
    refine c_seq ?_
    refine c_true rfl ?_
    refine c_skip ?_
    refine c_block ?_
    refine c_region ?_
    refine l_val rfl rfl rfl (r_move (v := .int .i64 x2_2) rfl) ?_
    obtain ⟨t8, h_t8, H9⟩ := bnd_some H8; clear H8
    refine l_val rfl rfl rfl (r_addG rfl rfl h_t8) ?_
    refine l_val rfl rfl rfl (r_assign (v := .int .i64 t8) rfl) ?_
    refine l_nil ?_
    refine c_close (t8, (k_2 + 1)) () m1 [0] (by exact ⟨rfl, rfl, trivial⟩) (by decide) rfl (by exact ⟨(by subst hn1; exact H9), trivial⟩) (Nat.lt_succ_self _)
  · have H10 := cnd_f hb H6; clear H6
    refine l_read (fun w hF hS => r_nextOver (i := 0) hS rfl rfl hb) rfl rfl rfl ?_
    refine l_val rfl rfl rfl (r_extract (v := .bool false) rfl rfl) ?_
    refine l_nil ?_
    refine c_seq ?_
    refine c_false rfl ?_
    refine c_exit ?_
    refine c_seq ?_
    refine c_region ?_
    refine l_val rfl rfl rfl (r_move (v := .int .i64 x2_2) rfl) ?_
    refine l_val rfl rfl rfl (r_assign (v := .int .i64 x2_2) rfl) ?_
    refine l_nil ?_
    refine c_ret ?_
    obtain rfl := Option.some.inj H10
    refine ret1 (v := .int .i64 x2_2) rfl rfl (fin rfl)
theorem k97 {a0 : (List UInt8)} {a1 : Int} {r : (List (List UInt8))} {w : World} {h : Heap} (hw : Know h w noS) (H : strings_explode a0 a1 = some r) : Does Tryd.prog 97 (List.toArray [str a0, .int .i64 a1]) w (fun v w' => ∃ x : (Option Addr × Nat), v = (.slice x.1 r.length x.2) ∧ Turn w w' noS (rowV 9 1 (.slice x.1 r.length x.2) r.length (r.map e_string))) := by
  refine enter (n := 50) Tryd.func97 rfl rfl rfl noS [] (Sat.nil _ _) ?_
  refine c_seq ?_
  refine c_region ?_
  refine l_val rfl rfl rfl (r_assign (v := .slice none 0 0) rfl) ?_
  refine l_nil ?_
  refine c_seq ?_
  refine c_region ?_
  refine l_val rfl rfl rfl (r_move (v := str a0) rfl) ?_
  obtain ⟨t11, h_t11, H24⟩ := bnd_some H; clear H
  refine l_call (k118 h_t11) Tryd.call118 rfl rfl rfl ?_
  refine l_val rfl rfl rfl (r_assign (v := .int .i64 t11) rfl) ?_
  refine l_nil ?_
  refine c_meet (r := r) (σ := Int) (τ := Unit) (fun s => strings_explode_j1 a0 s) (fun s t => [(0, str a0), (1, .int .i64 s)]) (fun s t => []) (fun s t => True) ?_ ?_
  · refine c_seq ?_
    refine c_region ?_
    refine l_val rfl rfl rfl (r_move (v := .int .i64 a1) rfl) ?_
    refine l_val rfl rfl rfl (r_lss rfl rfl) ?_
    refine l_val rfl rfl rfl (r_move (v := .bool (decide (a1 < 0))) rfl) ?_
    refine split (fun hb => ?_) (fun hb => ?_)
    · have H43 := cnd_t hb H24; clear H24
      refine l_passed rfl rfl rfl ?_
      refine l_passed rfl rfl rfl ?_
      refine l_passed rfl rfl rfl ?_
      refine l_val rfl rfl rfl (r_pickT (v := .bool true) rfl rfl) ?_
      refine l_nil ?_
      refine c_true rfl ?_
      refine c_region ?_
      refine l_val rfl rfl rfl (r_move (v := .int .i64 t11) rfl) ?_
      refine l_val rfl rfl rfl (r_assign (v := .int .i64 t11) rfl) ?_
      refine l_nil ?_
      refine c_close t11 () 0 [] (by exact ⟨rfl, rfl, trivial⟩) (by decide) rfl (by exact ⟨H43, trivial⟩) (Nat.lt_succ_self _)
    · have H44 := cnd_f hb H24; clear H24
      refine l_val rfl rfl rfl (r_move (v := .int .i64 a1) rfl) ?_
      refine l_val rfl rfl rfl (r_move (v := .int .i64 t11) rfl) ?_
      refine l_val rfl rfl rfl (r_gtr rfl rfl) ?_
      refine l_val rfl rfl rfl (r_pickF (v := .bool (decide (t11 < a1))) rfl rfl) ?_
      refine l_nil ?_
      refine c_if (b := (decide (t11 < a1))) rfl (fun hb => ?_) (fun hb => ?_)
      · have H45 := cnd_t hb H44; clear H44
        refine c_region ?_
        refine l_val rfl rfl rfl (r_move (v := .int .i64 t11) rfl) ?_
        refine l_val rfl rfl rfl (r_assign (v := .int .i64 t11) rfl) ?_
        refine l_nil ?_
        refine c_close t11 () 0 [] (by exact ⟨rfl, rfl, trivial⟩) (by decide) rfl (by exact ⟨H45, trivial⟩) (Nat.lt_succ_self _)
      · have H46 := cnd_f hb H44; clear H44
        refine c_skip ?_
        refine c_close a1 () 0 [] (by exact ⟨rfl, rfl, trivial⟩) (by decide) rfl (by exact ⟨H46, trivial⟩) (Nat.lt_succ_self _)
  · rintro x1 _ gg H25 _
    replace H25 : strings_explode_j1 a0 x1 = some r := H25
    refine c_tidyF [(0, str a0), (1, .int .i64 x1)] [] rfl rfl ?_
    refine c_seq ?_
    refine c_region ?_
    refine l_val rfl rfl rfl (r_move (v := .int .i64 x1) rfl) ?_
    obtain ⟨t21, h_t21, H26⟩ := bnd_some H25; clear H25
    refine l_make (rds := []) (makes_makeG (E := 9) (sz := 1) (f := e_string) (xs := t21) Tryd.underlying34 (info_of Tryd.typeInfo9) rfl rfl rfl rfl rfl rfl ⟨rfl, rfl⟩ h_t21) rfl rfl rfl (fun p => ?_)
    refine l_val rfl rfl rfl (r_assign (v := .slice p.1 t21.length p.2) rfl) ?_
    refine l_nil ?_
    refine c_meet (r := r) (σ := (List UInt8) × (List (List UInt8))) (τ := Unit) (fun s => strings_explode_j2 x1 s.1 s.2) (fun s t => [(0, str s.1), (1, .int .i64 x1), (6, .slice p.1 t21.length p.2)]) (fun s t => [rowV 9 1 (.slice p.1 t21.length p.2) t21.length (s.2.map e_string)]) (fun s t => t21.length = s.2.length) ?_ ?_
    · refine c_seq ?_
      refine c_region ?_
      refine l_val rfl rfl rfl (r_assign (v := .int .i64 0) rfl) ?_
      refine l_nil ?_
      refine c_block ?_
      refine c_fix (σ := (List UInt8) × Int × (List (List UInt8))) (τ := Unit) (fun next3 s => strings_explode_l3 x1 next3 s.1 s.2.1 s.2.2) (fun s t => [(0, str s.1), (1, .int .i64 x1), (6, .slice p.1 t21.length p.2), (7, .int .i64 s.2.1)]) (fun s t => [rowV 9 1 (.slice p.1 t21.length p.2) t21.length (s.2.2.map e_string)]) (fun s t => t21.length = s.2.2.length) (a0, 0, t21) () [0] H26 (by exact rfl) (by exact ⟨rfl, rfl, rfl, rfl, trivial⟩) (by decide) rfl ?_
      rintro ⟨x0_3, x7_2, l_3⟩ _ m3 gg H33 hl_3
      clear H26
      replace H33 : strings_explode_l3 x1 (it (fun next3 s => strings_explode_l3 x1 next3 s.1 s.2.1 s.2.2) m3) x0_3 x7_2 l_3 = some r := H33
      generalize hn3 : it (fun next3 s => strings_explode_l3 x1 next3 s.1 s.2.1 s.2.2) m3 = next3 at H33
      refine c_tidyF [(0, str x0_3), (1, .int .i64 x1), (6, .slice p.1 t21.length p.2), (7, .int .i64 x7_2)] [rowV 9 1 (.slice p.1 t21.length p.2) t21.length (l_3.map e_string)] rfl rfl ?_
      refine c_seq ?_
      refine c_seq ?_
      refine c_region ?_
      refine l_val rfl rfl rfl (r_move (v := .int .i64 x7_2) rfl) ?_
      refine l_val rfl rfl rfl (r_move (v := .int .i64 x1) rfl) ?_
      obtain ⟨t24, h_t24, H34⟩ := bnd_some H33; clear H33
      refine l_val rfl rfl rfl (r_subG rfl rfl h_t24) ?_
      refine l_val rfl rfl rfl (r_lss rfl rfl) ?_
      refine l_nil ?_
      refine c_if (b := (decide (x7_2 < t24))) rfl (fun hb => ?_) (fun hb => ?_)
      · have H35 := cnd_t hb H34; clear H34
        refine c_skip ?_
        refine c_seq ?_
        refine c_block ?_
        refine c_seq ?_
        refine c_region ?_
        refine l_val rfl rfl rfl (r_move (v := str x0_3) rfl) ?_
        obtain ⟨t30, h_t30, H36⟩ := bnd_some H35; clear H35
        refine l_call (k110 h_t30) Tryd.call110 rfl rfl rfl ?_
        refine l_val rfl rfl rfl (r_move (v := .tuple #[.int .i32 t30.1, .int .i64 t30.2]) rfl) ?_
        refine l_val rfl rfl rfl (r_extract (v := .int .i32 t30.1) rfl rfl) ?_
        refine l_val rfl rfl rfl (r_extract (v := .int .i64 t30.2) rfl rfl) ?_
        refine l_val rfl rfl rfl (r_assign (v := .int .i32 t30.1) rfl) ?_
        refine l_val rfl rfl rfl (r_assign (v := .int .i64 t30.2) rfl) ?_
        refine l_nil ?_
        refine c_seq ?_
        refine c_region ?_
        refine l_val rfl rfl rfl (r_move (v := .slice p.1 t21.length p.2) rfl) ?_
        refine l_val rfl rfl rfl (r_move (v := .int .i64 x7_2) rfl) ?_
        refine l_val rfl rfl rfl (r_move (v := str x0_3) rfl) ?_
        refine l_val rfl rfl rfl (r_move (v := .int .i64 t30.2) rfl) ?_
        obtain ⟨t37, h_t37, H37⟩ := bnd_some H36; clear H36
        refine l_val rfl rfl rfl (r_cutToG Tryd.underlying9 rfl rfl h_t37) ?_
        obtain ⟨t38, h_t38, H38⟩ := bnd_some H37; clear H37
        refine l_read (fun w hF hS => run_indexO Tryd.underlying34 Tryd.sizeOf9 rfl rfl (rowOf (i := 0) hS rfl) hl_3 h_t38) rfl rfl rfl ?_
        obtain ⟨l0_2, h_l0_2, H39⟩ := bnd_some H38; clear H38
        refine l_storeG (q := 0) (j := 0) (i := x7_2) (sz := 1) (hm := hl_3) (f := e_string) (vs := [str t37]) Tryd.sizeOf9 rfl rfl rfl rfl rfl rfl rfl rfl rfl (fun y_ hy_ => by first | rfl | (cases hy_.symm.trans h_t38; rfl)) h_l0_2 ?_
        refine l_nil ?_
        refine c_region ?_
        refine l_val rfl rfl rfl (r_move (v := str x0_3) rfl) ?_
        refine l_val rfl rfl rfl (r_move (v := .int .i64 t30.2) rfl) ?_
        obtain ⟨t41, h_t41, H40⟩ := bnd_some H39; clear H39
        refine l_val rfl rfl rfl (r_cutFromG Tryd.underlying9 rfl rfl h_t41) ?_
        refine l_val rfl rfl rfl (r_assign (v := str t41) rfl) ?_
        refine l_nil ?_
        refine c_region ?_
        refine l_val rfl rfl rfl (r_move (v := .int .i64 x7_2) rfl) ?_
        obtain ⟨t27, h_t27, H41⟩ := bnd_some H40; clear H40
        refine l_val rfl rfl rfl (r_addG rfl rfl h_t27) ?_
        refine l_val rfl rfl rfl (r_assign (v := .int .i64 t27) rfl) ?_
        refine l_nil ?_
        refine c_close (t41, t27, l0_2) () m3 [0] (by exact ⟨rfl, rfl, rfl, rfl, trivial⟩) (by decide) rfl (by exact ⟨(by subst hn3; exact H41), (gSet_n hl_3 h_l0_2)⟩) (Nat.lt_succ_self _)
      · have H42 := cnd_f hb H34; clear H34
        refine c_exit ?_
        refine c_close (x0_3, l_3) () 0 [0] (by exact ⟨rfl, rfl, rfl, trivial⟩) (by decide) rfl (by exact ⟨H42, hl_3⟩) (Nat.lt_succ_self _)
    · rintro ⟨x0, l⟩ _ gg H27 hl
      replace H27 : strings_explode_j2 x1 x0 l = some r := H27
      refine c_tidyF [(0, str x0), (1, .int .i64 x1), (6, .slice p.1 t21.length p.2)] [rowV 9 1 (.slice p.1 t21.length p.2) t21.length (l.map e_string)] rfl rfl ?_
      refine c_seq ?_
      refine c_seq ?_
      refine c_region ?_
      refine l_val rfl rfl rfl (r_move (v := .int .i64 x1) rfl) ?_
      refine l_val rfl rfl rfl (r_gtr rfl rfl) ?_
      refine l_nil ?_
      refine c_if (b := (decide (0 < x1))) rfl (fun hb => ?_) (fun hb => ?_)
      · have H28 := cnd_t hb H27; clear H27
        refine c_region ?_
        refine l_val rfl rfl rfl (r_move (v := .slice p.1 t21.length p.2) rfl) ?_
        refine l_val rfl rfl rfl (r_move (v := .int .i64 x1) rfl) ?_
        obtain ⟨t46, h_t46, H29⟩ := bnd_some H28; clear H28
        refine l_val rfl rfl rfl (r_subG rfl rfl h_t46) ?_
        refine l_val rfl rfl rfl (r_move (v := str x0) rfl) ?_
        obtain ⟨t48, h_t48, H30⟩ := bnd_some H29; clear H29
        refine l_read (fun w hF hS => run_indexO Tryd.underlying34 Tryd.sizeOf9 rfl rfl (rowOf (i := 0) hS rfl) hl h_t48) rfl rfl rfl ?_
        obtain ⟨l0, h_l0, H31⟩ := bnd_some H30; clear H30
        refine l_storeG (q := 0) (j := 0) (i := t46) (sz := 1) (hm := hl) (f := e_string) (vs := [str x0]) Tryd.sizeOf9 rfl rfl rfl rfl rfl rfl rfl rfl rfl (fun y_ hy_ => by first | rfl | (cases hy_.symm.trans h_t48; rfl)) h_l0 ?_
        refine l_nil ?_
        refine c_seq ?_
        refine c_region ?_
        refine l_val rfl rfl rfl (r_move (v := .slice p.1 t21.length p.2) rfl) ?_
        refine l_val rfl rfl rfl (r_assign (v := .slice p.1 t21.length p.2) rfl) ?_
        refine l_nil ?_
        refine c_ret ?_
        obtain rfl := Option.some.inj H31
        refine ret1 (v := .slice p.1 t21.length p.2) rfl rfl (finX p (i := 0) rfl (by first | rfl | rw [(show t21.length = l0.length from (gSet_n hl h_l0))]) (by first | exact Imp.refl _ | exact Imp.of (by rw [(show t21.length = l0.length from (gSet_n hl h_l0))])))
      · have H32 := cnd_f hb H27; clear H27
        refine c_skip ?_
        refine c_seq ?_
        refine c_region ?_
        refine l_val rfl rfl rfl (r_move (v := .slice p.1 t21.length p.2) rfl) ?_
        refine l_val rfl rfl rfl (r_assign (v := .slice p.1 t21.length p.2) rfl) ?_
        refine l_nil ?_
        refine c_ret ?_
        obtain rfl := Option.some.inj H32
        refine ret1 (v := .slice p.1 t21.length p.2) rfl rfl (finX p (i := 0) rfl (by first | rfl | rw [(show t21.length = l.length from hl)]) (by first | exact Imp.refl _ | exact Imp.of (by rw [(show t21.length = l.length from hl)])))
theorem k99 {a0 : (List UInt8)} {a1 : (List UInt8)} {r : Int} (H : strings_Index a0 a1 = some r) : Ret Tryd.prog 99 [str a0, str a1] (.int .i64 r) := by
  refine enterRet (n := 8) Tryd.func99 rfl rfl rfl (fun wd => ?_)
  refine c_seq ?_
  refine c_region ?_
  refine l_val rfl rfl rfl (r_assign (v := .int .i64 0) rfl) ?_
  refine l_nil ?_
  refine c_seq ?_
  refine c_region ?_
  refine l_val rfl rfl rfl (r_move (v := str a0) rfl) ?_
  refine l_val rfl rfl rfl (r_move (v := str a1) rfl) ?_
  obtain ⟨t7, h_t7, H2⟩ := bnd_some H; clear H
  refine l_call (k96 h_t7) Tryd.call96 rfl rfl rfl ?_
  refine l_val rfl rfl rfl (r_assign (v := .int .i64 t7) rfl) ?_
  refine l_nil ?_
  refine c_ret ?_
  obtain rfl := Option.some.inj H2
  refine ret1 (v := .int .i64 t7) rfl rfl (fin rfl)
theorem ext119 (s : List UInt8) (c r : Int) (h : gCnB s c = some r) (w : World) : (callFunc 119 (List.toArray [str s, .int .u8 c])).run Tryd.prog w = .ok (.value (.int .i64 r)) w := by
  have h0 : (callFunc 119 #[str s, .int .u8 c]).run Tryd.prog w = (do pure (.value (← Extern.BytealgCount.count #[str s, .int .u8 c])) : Sem Next).run Tryd.prog w := by kernel_rfl
  rw [h0]
  simp only [Sem.run_bind, Go.Lx.run_cnB h, Result.andThen_ok, Sem.run_pure]

theorem k98 {a0 : (List UInt8)} {a1 : (List UInt8)} {r : Int} (H : strings_Count a0 a1 = some r) : Ret Tryd.prog 98 [str a0, str a1] (.int .i64 r) := by
  refine enterRet (n := 34) Tryd.func98 rfl rfl rfl (fun wd => ?_)
  refine c_seq ?_
  refine c_region ?_
  refine l_val rfl rfl rfl (r_assign (v := .int .i64 0) rfl) ?_
  refine l_nil ?_
  refine c_seq ?_
  refine c_seq ?_
  refine c_region ?_
  refine l_val rfl rfl rfl (r_move (v := str a1) rfl) ?_
  refine l_val rfl rfl rfl (r_lenT Tryd.underlying9 rfl) ?_
  refine l_val rfl rfl rfl (r_eql rfl rfl) ?_
  refine l_nil ?_
  refine c_if (b := (decide ((a1.length : Int) = 0))) rfl (fun hb => ?_) (fun hb => ?_)
  · have H16 := cnd_t hb H; clear H
    refine c_seq ?_
    refine c_region ?_
    refine l_val rfl rfl rfl (r_move (v := str a0) rfl) ?_
    obtain ⟨t11, h_t11, H17⟩ := bnd_some H16; clear H16
    refine l_call (k118 h_t11) Tryd.call118 rfl rfl rfl ?_
    obtain ⟨t12, h_t12, H18⟩ := bnd_some H17; clear H17
    refine l_val rfl rfl rfl (r_addG rfl rfl h_t12) ?_
    refine l_val rfl rfl rfl (r_assign (v := .int .i64 t12) rfl) ?_
    refine l_nil ?_
    refine c_ret ?_
    obtain rfl := Option.some.inj H18
    refine ret1 (v := .int .i64 t12) rfl rfl (fin rfl)
  · have H19 := cnd_f hb H; clear H
    refine c_skip ?_
    refine c_seq ?_
    refine c_seq ?_
    refine c_region ?_
    refine l_val rfl rfl rfl (r_move (v := str a1) rfl) ?_
    refine l_val rfl rfl rfl (r_lenT Tryd.underlying9 rfl) ?_
    refine l_val rfl rfl rfl (r_eql rfl rfl) ?_
    refine l_nil ?_
    refine c_if (b := (decide ((a1.length : Int) = 1))) rfl (fun hb => ?_) (fun hb => ?_)
    · have H20 := cnd_t hb H19; clear H19
      refine c_seq ?_
      refine c_region ?_
      refine l_val rfl rfl rfl (r_move (v := str a0) rfl) ?_
      refine l_val rfl rfl rfl (r_move (v := str a1) rfl) ?_
      obtain ⟨t18, h_t18, H21⟩ := bnd_some H20; clear H20
      refine l_val rfl rfl rfl (r_octG Tryd.underlying9 rfl rfl h_t18) ?_
      obtain ⟨t19, h_t19, H22⟩ := bnd_some H21; clear H21
      refine l_val rfl rfl rfl (r_ext (args := [str a0, .int .u8 t18]) (ext119 _ _ _ h_t19) rfl) ?_
      refine l_val rfl rfl rfl (r_assign (v := .int .i64 t19) rfl) ?_
      refine l_nil ?_
      refine c_ret ?_
      obtain rfl := Option.some.inj H22
      refine ret1 (v := .int .i64 t19) rfl rfl (fin rfl)
    · have H23 := cnd_f hb H19; clear H19
      refine c_skip ?_
      refine c_seq ?_
      refine c_region ?_
      refine l_val rfl rfl rfl (r_assign (v := .int .i64 0) rfl) ?_
      refine l_nil ?_
      refine c_block ?_
      refine c_fix (σ := (List UInt8) × Int) (τ := Unit) (fun next1 s => strings_Count_l1 a1 next1 s.1 s.2) (fun s t => [(0, str s.1), (1, str a1), (5, .int .i64 s.2)]) (fun s t => []) (fun s t => True) (a0, 0) () [] H23 (by exact trivial) (by exact ⟨rfl, rfl, rfl, trivial⟩) (by decide) rfl ?_
      rintro ⟨x0_2, x5_2⟩ _ m1 gg H24 _
      clear H23
      replace H24 : strings_Count_l1 a1 (it (fun next1 s => strings_Count_l1 a1 next1 s.1 s.2) m1) x0_2 x5_2 = some r := H24
      generalize hn1 : it (fun next1 s => strings_Count_l1 a1 next1 s.1 s.2) m1 = next1 at H24
      refine c_tidyF [(0, str x0_2), (1, str a1), (5, .int .i64 x5_2)] [] rfl rfl ?_
      refine c_block ?_
      refine c_seq ?_
      refine c_region ?_
      refine l_val rfl rfl rfl (r_move (v := str x0_2) rfl) ?_
      refine l_val rfl rfl rfl (r_move (v := str a1) rfl) ?_
      obtain ⟨t22, h_t22, H25⟩ := bnd_some H24; clear H24
      refine l_call (k99 h_t22) Tryd.call99 rfl rfl rfl ?_
      refine l_val rfl rfl rfl (r_assign (v := .int .i64 t22) rfl) ?_
      refine l_nil ?_
      refine c_seq ?_
      refine c_seq ?_
      refine c_region ?_
      refine l_val rfl rfl rfl (r_move (v := .int .i64 t22) rfl) ?_
      refine l_val rfl rfl rfl (r_eql rfl rfl) ?_
      refine l_nil ?_
      refine c_if (b := (decide (t22 = (-1)))) rfl (fun hb => ?_) (fun hb => ?_)
      · have H26 := cnd_t hb H25; clear H25
        refine c_seq ?_
        refine c_region ?_
        refine l_val rfl rfl rfl (r_move (v := .int .i64 x5_2) rfl) ?_
        refine l_val rfl rfl rfl (r_assign (v := .int .i64 x5_2) rfl) ?_
        refine l_nil ?_
        refine c_ret ?_
        obtain rfl := Option.some.inj H26
        refine ret1 (v := .int .i64 x5_2) rfl rfl (fin rfl)
      · have H27 := cnd_f hb H25; clear H25
        refine c_skip ?_
        refine c_seq ?_
        refine c_region ?_
        refine l_val rfl rfl rfl (r_move (v := .int .i64 x5_2) rfl) ?_
        obtain ⟨t27, h_t27, H28⟩ := bnd_some H27; clear H27
        refine l_val rfl rfl rfl (r_addG rfl rfl h_t27) ?_
        refine l_val rfl rfl rfl (r_assign (v := .int .i64 t27) rfl) ?_
        refine l_nil ?_
        refine c_region ?_
        refine l_val rfl rfl rfl (r_move (v := str x0_2) rfl) ?_
        refine l_val rfl rfl rfl (r_move (v := .int .i64 t22) rfl) ?_
        refine l_val rfl rfl rfl (r_move (v := str a1) rfl) ?_
        refine l_val rfl rfl rfl (r_lenT Tryd.underlying9 rfl) ?_
        obtain ⟨t32, h_t32, H29⟩ := bnd_some H28; clear H28
        refine l_val rfl rfl rfl (r_addG rfl rfl h_t32) ?_
        obtain ⟨t33, h_t33, H30⟩ := bnd_some H29; clear H29
        refine l_val rfl rfl rfl (r_cutFromG Tryd.underlying9 rfl rfl h_t33) ?_
        refine l_val rfl rfl rfl (r_assign (v := str t33) rfl) ?_
        refine l_nil ?_
        refine c_close (t33, t27) () m1 [] (by exact ⟨rfl, rfl, rfl, trivial⟩) (by decide) rfl (by exact ⟨(by subst hn1; exact H30), trivial⟩) (Nat.lt_succ_self _)
theorem k76 {a0 : (List UInt8)} {a1 : (List UInt8)} {a2 : Int} {a3 : Int} {r : (List (List UInt8))} {w : World} {h : Heap} (hw : Know h w noS) (H : strings_genSplit a0 a1 a2 a3 = some r) : Does Tryd.prog 76 (List.toArray [str a0, str a1, .int .i64 a2, .int .i64 a3]) w (fun v w' => ∃ x : (Option Addr × Nat), v = (.slice x.1 r.length x.2) ∧ Turn w w' noS (rowV 9 1 (.slice x.1 r.length x.2) r.length (r.map e_string))) := by
  refine enter (n := 66) Tryd.func76 rfl rfl rfl noS [] (Sat.nil _ _) ?_
  refine c_seq ?_
  refine c_region ?_
  refine l_val rfl rfl rfl (r_assign (v := .slice none 0 0) rfl) ?_
  refine l_nil ?_
  refine c_seq ?_
  refine c_seq ?_
  refine c_region ?_
  refine l_val rfl rfl rfl (r_move (v := .int .i64 a3) rfl) ?_
  refine l_val rfl rfl rfl (r_eql rfl rfl) ?_
  refine l_nil ?_
  refine c_if (b := (decide (a3 = 0))) rfl (fun hb => ?_) (fun hb => ?_)
  · have H32 := cnd_t hb H; clear H
    refine c_seq ?_
    refine c_region ?_
    refine l_val rfl rfl rfl (r_assign (v := .slice none 0 0) rfl) ?_
    refine l_nil ?_
    refine c_ret ?_
    refine c_nilRow 9 1 ?_
    obtain rfl := Option.some.inj H32
    refine ret1 (v := .slice ((none, 0) : Option Addr × Nat).1 ([] : List (List UInt8)).length ((none, 0) : Option Addr × Nat).2) rfl rfl (finX ((none, 0) : Option Addr × Nat) (i := 0) rfl rfl (Imp.refl _))
  · have H33 := cnd_f hb H; clear H
    refine c_skip ?_
    refine c_seq ?_
    refine c_seq ?_
    refine c_region ?_
    refine l_val rfl rfl rfl (r_move (v := str a1) rfl) ?_
    refine l_val rfl rfl rfl (r_eqlT rfl rfl) ?_
    refine l_nil ?_
    refine c_if (b := (decide (a1 = []))) rfl (fun hb => ?_) (fun hb => ?_)
    · have H34 := cnd_t hb H33; clear H33
      refine c_seq ?_
      refine c_region ?_
      refine l_val rfl rfl rfl (r_move (v := str a0) rfl) ?_
      refine l_val rfl rfl rfl (r_move (v := .int .i64 a3) rfl) ?_
      obtain ⟨t18, h_t18, H35⟩ := bnd_some H34; clear H34
      refine l_make (makes_call (rds := []) (G := fun x : (Option Addr × Nat) => .slice x.1 t18.length x.2) (C := fun x : (Option Addr × Nat) => rowV 9 1 (.slice x.1 t18.length x.2) t18.length (t18.map e_string)) (fun w L' hF hS hi => k97 (know_all w)  h_t18) Tryd.call97 rfl) rfl rfl rfl (fun p => ?_)
      refine l_val rfl rfl rfl (r_assign (v := .slice p.1 t18.length p.2) rfl) ?_
      refine l_nil ?_
      refine c_ret ?_
      obtain rfl := Option.some.inj H35
      refine ret1 (v := .slice p.1 t18.length p.2) rfl rfl (finX p (i := 0) rfl rfl (Imp.refl _))
    · have H36 := cnd_f hb H33; clear H33
      refine c_skip ?_
      refine c_meet (r := r) (σ := Int) (τ := Unit) (fun s => strings_genSplit_j1 a0 a1 a2 s) (fun s t => [(0, str a0), (1, str a1), (2, .int .i64 a2), (3, .int .i64 s)]) (fun s t => []) (fun s t => True) ?_ ?_
      · refine c_seq ?_
        refine c_region ?_
        refine l_val rfl rfl rfl (r_move (v := .int .i64 a3) rfl) ?_
        refine l_val rfl rfl rfl (r_lss rfl rfl) ?_
        refine l_nil ?_
        refine c_if (b := (decide (a3 < 0))) rfl (fun hb => ?_) (fun hb => ?_)
        · have H59 := cnd_t hb H36; clear H36
          refine c_region ?_
          refine l_val rfl rfl rfl (r_move (v := str a0) rfl) ?_
          refine l_val rfl rfl rfl (r_move (v := str a1) rfl) ?_
          obtain ⟨t23, h_t23, H60⟩ := bnd_some H59; clear H59
          refine l_call (k98 h_t23) Tryd.call98 rfl rfl rfl ?_
          obtain ⟨t24, h_t24, H61⟩ := bnd_some H60; clear H60
          refine l_val rfl rfl rfl (r_addG rfl rfl h_t24) ?_
          refine l_val rfl rfl rfl (r_assign (v := .int .i64 t24) rfl) ?_
          refine l_nil ?_
          refine c_close t24 () 0 [] (by exact ⟨rfl, rfl, rfl, rfl, trivial⟩) (by decide) rfl (by exact ⟨H61, trivial⟩) (Nat.lt_succ_self _)
        · have H62 := cnd_f hb H36; clear H36
          refine c_skip ?_
          refine c_close a3 () 0 [] (by exact ⟨rfl, rfl, rfl, rfl, trivial⟩) (by decide) rfl (by exact ⟨H62, trivial⟩) (Nat.lt_succ_self _)
      · rintro x3 _ gg H37 _
        replace H37 : strings_genSplit_j1 a0 a1 a2 x3 = some r := H37
        refine c_tidyF [(0, str a0), (1, str a1), (2, .int .i64 a2), (3, .int .i64 x3)] [] rfl rfl ?_
        refine c_seq ?_
        refine c_region ?_
        refine l_val rfl rfl rfl (r_move (v := .int .i64 x3) rfl) ?_
        refine l_val rfl rfl rfl (r_move (v := str a0) rfl) ?_
        refine l_val rfl rfl rfl (r_lenT Tryd.underlying9 rfl) ?_
        obtain ⟨t28, h_t28, H38⟩ := bnd_some H37; clear H37
        refine l_val rfl rfl rfl (r_addG rfl rfl h_t28) ?_
        refine l_val rfl rfl rfl (r_min rfl rfl) ?_
        refine l_val rfl rfl rfl (r_assign (v := .int .i64 (min x3 t28)) rfl) ?_
        refine l_nil ?_
        refine c_seq ?_
        refine c_region ?_
        refine l_val rfl rfl rfl (r_move (v := .int .i64 (min x3 t28)) rfl) ?_
        obtain ⟨t31, h_t31, H39⟩ := bnd_some H38; clear H38
        refine l_make (rds := []) (makes_makeG (E := 9) (sz := 1) (f := e_string) (xs := t31) Tryd.underlying34 (info_of Tryd.typeInfo9) rfl rfl rfl rfl rfl rfl ⟨rfl, rfl⟩ h_t31) rfl rfl rfl (fun p_2 => ?_)
        refine l_val rfl rfl rfl (r_assign (v := .slice p_2.1 t31.length p_2.2) rfl) ?_
        refine l_nil ?_
        refine c_seq ?_
        refine c_region ?_
        refine l_val rfl rfl rfl (r_move (v := .int .i64 (min x3 t28)) rfl) ?_
        obtain ⟨t33, h_t33, H40⟩ := bnd_some H39; clear H39
        refine l_val rfl rfl rfl (r_subG rfl rfl h_t33) ?_
        refine l_val rfl rfl rfl (r_assign (v := .int .i64 t33) rfl) ?_
        refine l_nil ?_
        refine c_seq ?_
        refine c_region ?_
        refine l_val rfl rfl rfl (r_assign (v := .int .i64 0) rfl) ?_
        refine l_nil ?_
        refine c_meet (r := r) (σ := (List UInt8) × Int × (List (List UInt8))) (τ := Unit) (fun s => strings_genSplit_j2 s.1 s.2.1 s.2.2) (fun s t => [(0, str s.1), (9, .slice p_2.1 t31.length p_2.2), (10, .int .i64 s.2.1)]) (fun s t => [rowV 9 1 (.slice p_2.1 t31.length p_2.2) t31.length (s.2.2.map e_string)]) (fun s t => t31.length = s.2.2.length) ?_ ?_
        · refine c_block ?_
          refine c_fix (σ := (List UInt8) × Int × (List (List UInt8))) (τ := Unit) (fun next3 s => strings_genSplit_l3 a1 a2 t33 next3 s.1 s.2.1 s.2.2) (fun s t => [(0, str s.1), (1, str a1), (2, .int .i64 a2), (3, .int .i64 t33), (9, .slice p_2.1 t31.length p_2.2), (10, .int .i64 s.2.1)]) (fun s t => [rowV 9 1 (.slice p_2.1 t31.length p_2.2) t31.length (s.2.2.map e_string)]) (fun s t => t31.length = s.2.2.length) (a0, 0, t31) () [0] H40 (by exact rfl) (by exact ⟨rfl, rfl, rfl, rfl, rfl, rfl, trivial⟩) (by decide) rfl ?_
          rintro ⟨x0_3, x10_3, l_3⟩ _ m3 gg H46 hl_3
          clear H40
          replace H46 : strings_genSplit_l3 a1 a2 t33 (it (fun next3 s => strings_genSplit_l3 a1 a2 t33 next3 s.1 s.2.1 s.2.2) m3) x0_3 x10_3 l_3 = some r := H46
          generalize hn3 : it (fun next3 s => strings_genSplit_l3 a1 a2 t33 next3 s.1 s.2.1 s.2.2) m3 = next3 at H46
          refine c_tidyF [(0, str x0_3), (1, str a1), (2, .int .i64 a2), (3, .int .i64 t33), (9, .slice p_2.1 t31.length p_2.2), (10, .int .i64 x10_3)] [rowV 9 1 (.slice p_2.1 t31.length p_2.2) t31.length (l_3.map e_string)] rfl rfl ?_
          refine c_seq ?_
          refine c_seq ?_
          refine c_region ?_
          refine l_val rfl rfl rfl (r_move (v := .int .i64 x10_3) rfl) ?_
          refine l_val rfl rfl rfl (r_move (v := .int .i64 t33) rfl) ?_
          refine l_val rfl rfl rfl (r_lss rfl rfl) ?_
          refine l_nil ?_
          refine c_if (b := (decide (x10_3 < t33))) rfl (fun hb => ?_) (fun hb => ?_)
          · have H47 := cnd_t hb H46; clear H46
            refine c_skip ?_
            refine c_block ?_
            refine c_seq ?_
            refine c_region ?_
            refine l_val rfl rfl rfl (r_move (v := str x0_3) rfl) ?_
            refine l_val rfl rfl rfl (r_move (v := str a1) rfl) ?_
            obtain ⟨t39, h_t39, H48⟩ := bnd_some H47; clear H47
            refine l_call (k99 h_t39) Tryd.call99 rfl rfl rfl ?_
            refine l_val rfl rfl rfl (r_assign (v := .int .i64 t39) rfl) ?_
            refine l_nil ?_
            refine c_seq ?_
            refine c_seq ?_
            refine c_region ?_
            refine l_val rfl rfl rfl (r_move (v := .int .i64 t39) rfl) ?_
            refine l_val rfl rfl rfl (r_lss rfl rfl) ?_
            refine l_nil ?_
            refine c_if (b := (decide (t39 < 0))) rfl (fun hb => ?_) (fun hb => ?_)
            · have H49 := cnd_t hb H48; clear H48
              refine c_exit ?_
              refine c_close (x0_3, x10_3, l_3) () 0 [0] (by exact ⟨rfl, rfl, rfl, trivial⟩) (by decide) rfl (by exact ⟨H49, hl_3⟩) (Nat.lt_succ_self _)
            · have H50 := cnd_f hb H48; clear H48
              refine c_skip ?_
              refine c_seq ?_
              refine c_region ?_
              refine l_val rfl rfl rfl (r_move (v := .slice p_2.1 t31.length p_2.2) rfl) ?_
              refine l_val rfl rfl rfl (r_move (v := .int .i64 x10_3) rfl) ?_
              refine l_val rfl rfl rfl (r_move (v := str x0_3) rfl) ?_
              refine l_val rfl rfl rfl (r_move (v := .int .i64 t39) rfl) ?_
              refine l_val rfl rfl rfl (r_move (v := .int .i64 a2) rfl) ?_
              obtain ⟨t47, h_t47, H51⟩ := bnd_some H50; clear H50
              refine l_val rfl rfl rfl (r_addG rfl rfl h_t47) ?_
              obtain ⟨t48, h_t48, H52⟩ := bnd_some H51; clear H51
              refine l_val rfl rfl rfl (r_cutToG Tryd.underlying9 rfl rfl h_t48) ?_
              obtain ⟨t49, h_t49, H53⟩ := bnd_some H52; clear H52
              refine l_read (fun w hF hS => run_indexO Tryd.underlying34 Tryd.sizeOf9 rfl rfl (rowOf (i := 0) hS rfl) hl_3 h_t49) rfl rfl rfl ?_
              obtain ⟨l0_2, h_l0_2, H54⟩ := bnd_some H53; clear H53
              refine l_storeG (q := 0) (j := 0) (i := x10_3) (sz := 1) (hm := hl_3) (f := e_string) (vs := [str t48]) Tryd.sizeOf9 rfl rfl rfl rfl rfl rfl rfl rfl rfl (fun y_ hy_ => by first | rfl | (cases hy_.symm.trans h_t49; rfl)) h_l0_2 ?_
              refine l_nil ?_
              refine c_seq ?_
              refine c_region ?_
              refine l_val rfl rfl rfl (r_move (v := str x0_3) rfl) ?_
              refine l_val rfl rfl rfl (r_move (v := .int .i64 t39) rfl) ?_
              refine l_val rfl rfl rfl (r_move (v := str a1) rfl) ?_
              refine l_val rfl rfl rfl (r_lenT Tryd.underlying9 rfl) ?_
              obtain ⟨t54, h_t54, H55⟩ := bnd_some H54; clear H54
              refine l_val rfl rfl rfl (r_addG rfl rfl h_t54) ?_
              obtain ⟨t55, h_t55, H56⟩ := bnd_some H55; clear H55
              refine l_val rfl rfl rfl (r_cutFromG Tryd.underlying9 rfl rfl h_t55) ?_
              refine l_val rfl rfl rfl (r_assign (v := str t55) rfl) ?_
              refine l_nil ?_
              refine c_region ?_
              refine l_val rfl rfl rfl (r_move (v := .int .i64 x10_3) rfl) ?_
              obtain ⟨t57, h_t57, H57⟩ := bnd_some H56; clear H56
              refine l_val rfl rfl rfl (r_addG rfl rfl h_t57) ?_
              refine l_val rfl rfl rfl (r_assign (v := .int .i64 t57) rfl) ?_
              refine l_nil ?_
              refine c_close (t55, t57, l0_2) () m3 [0] (by exact ⟨rfl, rfl, rfl, rfl, rfl, rfl, trivial⟩) (by decide) rfl (by exact ⟨(by subst hn3; exact H57), (gSet_n hl_3 h_l0_2)⟩) (Nat.lt_succ_self _)
          · have H58 := cnd_f hb H46; clear H46
            refine c_exit ?_
            refine c_close (x0_3, x10_3, l_3) () 0 [0] (by exact ⟨rfl, rfl, rfl, trivial⟩) (by decide) rfl (by exact ⟨H58, hl_3⟩) (Nat.lt_succ_self _)
        · rintro ⟨x0, x10, l⟩ _ gg H41 hl
          replace H41 : strings_genSplit_j2 x0 x10 l = some r := H41
          refine c_tidyF [(0, str x0), (9, .slice p_2.1 t31.length p_2.2), (10, .int .i64 x10)] [rowV 9 1 (.slice p_2.1 t31.length p_2.2) t31.length (l.map e_string)] rfl rfl ?_
          refine c_seq ?_
          refine c_region ?_
          refine l_val rfl rfl rfl (r_move (v := .slice p_2.1 t31.length p_2.2) rfl) ?_
          refine l_val rfl rfl rfl (r_move (v := .int .i64 x10) rfl) ?_
          refine l_val rfl rfl rfl (r_move (v := str x0) rfl) ?_
          obtain ⟨t61, h_t61, H42⟩ := bnd_some H41; clear H41
          refine l_read (fun w hF hS => run_indexO Tryd.underlying34 Tryd.sizeOf9 rfl rfl (rowOf (i := 0) hS rfl) hl h_t61) rfl rfl rfl ?_
          obtain ⟨l0, h_l0, H43⟩ := bnd_some H42; clear H42
          refine l_storeG (q := 0) (j := 0) (i := x10) (sz := 1) (hm := hl) (f := e_string) (vs := [str x0]) Tryd.sizeOf9 rfl rfl rfl rfl rfl rfl rfl rfl rfl (fun y_ hy_ => by first | rfl | (cases hy_.symm.trans h_t61; rfl)) h_l0 ?_
          refine l_nil ?_
          refine c_seq ?_
          refine c_region ?_
          refine l_val rfl rfl rfl (r_move (v := .slice p_2.1 t31.length p_2.2) rfl) ?_
          refine l_val rfl rfl rfl (r_move (v := .int .i64 x10) rfl) ?_
          obtain ⟨t64, h_t64, H44⟩ := bnd_some H43; clear H43
          refine l_val rfl rfl rfl (r_addG rfl rfl h_t64) ?_
          obtain ⟨t65, h_t65, H45⟩ := bnd_some H44; clear H44
          refine l_read (v := .slice p_2.1 t65.length p_2.2) (fun w hF hS => run_sliceHO0 (xs := l0) Tryd.underlying34 Tryd.sizeOf9 rfl rfl (gSet_n hl h_l0) (capOf (i := 0) hS rfl) h_t65) rfl rfl rfl ?_
          refine l_val rfl rfl rfl (r_assign (v := .slice p_2.1 t65.length p_2.2) rfl) ?_
          refine l_nil ?_
          refine c_ret ?_
          refine c_imp 0 rfl (imp_shrink (gSet_n hl h_l0) h_t65) ?_
          obtain rfl := Option.some.inj H45
          refine c_imp 0 rfl (imp_rowC _ _ _ _ _ _) ?_
          refine ret1 (v := .slice p_2.1 t65.length p_2.2) rfl rfl (finX p_2 (i := 0) rfl rfl (Imp.refl _))
theorem k48 {a0 : (List UInt8)} {a1 : (List UInt8)} {r : (List (List UInt8))} {w : World} {h : Heap} (hw : Know h w noS) (H : strings_Split a0 a1 = some r) : Does Tryd.prog 48 (List.toArray [str a0, str a1]) w (fun v w' => ∃ x : (Option Addr × Nat), v = (.slice x.1 r.length x.2) ∧ Turn w w' noS (rowV 9 1 (.slice x.1 r.length x.2) r.length (r.map e_string))) := by
  refine enter (n := 8) Tryd.func48 rfl rfl rfl noS [] (Sat.nil _ _) ?_
  refine c_seq ?_
  refine c_region ?_
  refine l_val rfl rfl rfl (r_assign (v := .slice none 0 0) rfl) ?_
  refine l_nil ?_
  refine c_seq ?_
  refine c_region ?_
  refine l_val rfl rfl rfl (r_move (v := str a0) rfl) ?_
  refine l_val rfl rfl rfl (r_move (v := str a1) rfl) ?_
  obtain ⟨t7, h_t7, H2⟩ := bnd_some H; clear H
  refine l_make (makes_call (rds := []) (G := fun x : (Option Addr × Nat) => .slice x.1 t7.length x.2) (C := fun x : (Option Addr × Nat) => rowV 9 1 (.slice x.1 t7.length x.2) t7.length (t7.map e_string)) (fun w L' hF hS hi => k76 (know_all w)  h_t7) Tryd.call76 rfl) rfl rfl rfl (fun p => ?_)
  refine l_val rfl rfl rfl (r_assign (v := .slice p.1 t7.length p.2) rfl) ?_
  refine l_nil ?_
  refine c_ret ?_
  obtain rfl := Option.some.inj H2
  refine ret1 (v := .slice p.1 t7.length p.2) rfl rfl (finX p (i := 0) rfl rfl (Imp.refl _))
theorem k87 {a0 : (List UInt8)} {a1 : Int} {r : (List UInt8)} (H : strings_trimLeftByte a0 a1 = some r) : Ret Tryd.prog 87 [str a0, .int .u8 a1] (str r) := by
  refine enterRet (n := 17) Tryd.func87 rfl rfl rfl (fun wd => ?_)
  refine c_seq ?_
  refine c_region ?_
  refine l_val rfl rfl rfl (r_assign (v := str []) rfl) ?_
  refine l_nil ?_
  refine c_seq ?_
  refine c_block ?_
  refine c_fix (σ := (List UInt8)) (τ := Unit) (fun next1 s => strings_trimLeftByte_l1 a1 next1 s) (fun s t => [(0, str s), (1, .int .u8 a1)]) (fun s t => []) (fun s t => True) a0 () [] H (by exact trivial) (by exact ⟨rfl, rfl, trivial⟩) (by decide) rfl ?_
  rintro x0_2 _ m1 gg H8 _
  clear H
  replace H8 : strings_trimLeftByte_l1 a1 (it (fun next1 s => strings_trimLeftByte_l1 a1 next1 s) m1) x0_2 = some r := H8
  generalize hn1 : it (fun next1 s => strings_trimLeftByte_l1 a1 next1 s) m1 = next1 at H8
  refine c_tidyF [(0, str x0_2), (1, .int .u8 a1)] [] rfl rfl ?_
  refine c_seq ?_
  refine c_seq ?_
  refine c_region ?_
  refine l_val rfl rfl rfl (r_move (v := str x0_2) rfl) ?_
  refine l_val rfl rfl rfl (r_lenT Tryd.underlying9 rfl) ?_
  refine l_val rfl rfl rfl (r_gtr rfl rfl) ?_
  refine l_val rfl rfl rfl (r_move (v := .bool (decide (0 < (x0_2.length : Int)))) rfl) ?_
  refine split (fun hb => ?_) (fun hb => ?_)
  · have H9 := cnd_t hb H8; clear H8
    refine l_val rfl rfl rfl (r_move (v := str x0_2) rfl) ?_
    obtain ⟨t10, h_t10, H10⟩ := bnd_some H9; clear H9
    refine l_val rfl rfl rfl (r_octG Tryd.underlying9 rfl rfl h_t10) ?_
    refine l_val rfl rfl rfl (r_move (v := .int .u8 a1) rfl) ?_
    refine l_val rfl rfl rfl (r_eql rfl rfl) ?_
    refine l_val rfl rfl rfl (r_pickT (v := .bool (decide (t10 = a1))) rfl rfl) ?_
    refine l_nil ?_
    refine c_if (b := (decide (t10 = a1))) rfl (fun hb => ?_) (fun hb => ?_)
    · have H11 := cnd_t hb H10; clear H10
      refine c_skip ?_
      refine c_block ?_
      refine c_region ?_
      refine l_val rfl rfl rfl (r_move (v := str x0_2) rfl) ?_
      obtain ⟨t15, h_t15, H12⟩ := bnd_some H11; clear H11
      refine l_val rfl rfl rfl (r_cutFromG Tryd.underlying9 rfl rfl h_t15) ?_
      refine l_val rfl rfl rfl (r_assign (v := str t15) rfl) ?_
      refine l_nil ?_
      refine c_close t15 () m1 [] (by exact ⟨rfl, rfl, trivial⟩) (by decide) rfl (by exact ⟨(by subst hn1; exact H12), trivial⟩) (Nat.lt_succ_self _)
    · have H13 := cnd_f hb H10; clear H10
      refine c_exit ?_
      refine c_seq ?_
      refine c_region ?_
      refine l_val rfl rfl rfl (r_move (v := str x0_2) rfl) ?_
      refine l_val rfl rfl rfl (r_assign (v := str x0_2) rfl) ?_
      refine l_nil ?_
      refine c_ret ?_
      obtain rfl := Option.some.inj H13
      refine ret1 (v := str x0_2) rfl rfl (fin rfl)
  · have H14 := cnd_f hb H8; clear H8
    refine l_passed rfl rfl rfl ?_
    refine l_passed rfl rfl rfl ?_
    refine l_passed rfl rfl rfl ?_
    refine l_passed rfl rfl rfl ?_
    refine l_val rfl rfl rfl (r_pickF (v := .bool false) rfl rfl) ?_
    refine l_nil ?_
    refine c_false rfl ?_
    refine c_exit ?_
    refine c_seq ?_
    refine c_region ?_
    refine l_val rfl rfl rfl (r_move (v := str x0_2) rfl) ?_
    refine l_val rfl rfl rfl (r_assign (v := str x0_2) rfl) ?_
    refine l_nil ?_
    refine c_ret ?_
    obtain rfl := Option.some.inj H14
    refine ret1 (v := str x0_2) rfl rfl (fin rfl)
theorem k88 {a0 : (List UInt8)} {a1 : Int} {r : (List UInt8)} (H : strings_trimRightByte a0 a1 = some r) : Ret Tryd.prog 88 [str a0, .int .u8 a1] (str r) := by
  refine enterRet (n := 23) Tryd.func88 rfl rfl rfl (fun wd => ?_)
  refine c_seq ?_
  refine c_region ?_
  refine l_val rfl rfl rfl (r_assign (v := str []) rfl) ?_
  refine l_nil ?_
  refine c_seq ?_
  refine c_block ?_
  refine c_fix (σ := (List UInt8)) (τ := Unit) (fun next1 s => strings_trimRightByte_l1 a1 next1 s) (fun s t => [(0, str s), (1, .int .u8 a1)]) (fun s t => []) (fun s t => True) a0 () [] H (by exact trivial) (by exact ⟨rfl, rfl, trivial⟩) (by decide) rfl ?_
  rintro x0_2 _ m1 gg H10 _
  clear H
  replace H10 : strings_trimRightByte_l1 a1 (it (fun next1 s => strings_trimRightByte_l1 a1 next1 s) m1) x0_2 = some r := H10
  generalize hn1 : it (fun next1 s => strings_trimRightByte_l1 a1 next1 s) m1 = next1 at H10
  refine c_tidyF [(0, str x0_2), (1, .int .u8 a1)] [] rfl rfl ?_
  refine c_seq ?_
  refine c_seq ?_
  refine c_region ?_
  refine l_val rfl rfl rfl (r_move (v := str x0_2) rfl) ?_
  refine l_val rfl rfl rfl (r_lenT Tryd.underlying9 rfl) ?_
  refine l_val rfl rfl rfl (r_gtr rfl rfl) ?_
  refine l_val rfl rfl rfl (r_move (v := .bool (decide (0 < (x0_2.length : Int)))) rfl) ?_
  refine split (fun hb => ?_) (fun hb => ?_)
  · have H11 := cnd_t hb H10; clear H10
    refine l_val rfl rfl rfl (r_move (v := str x0_2) rfl) ?_
    refine l_val rfl rfl rfl (r_move (v := str x0_2) rfl) ?_
    refine l_val rfl rfl rfl (r_lenT Tryd.underlying9 rfl) ?_
    obtain ⟨t12, h_t12, H12⟩ := bnd_some H11; clear H11
    refine l_val rfl rfl rfl (r_subG rfl rfl h_t12) ?_
    obtain ⟨t13, h_t13, H13⟩ := bnd_some H12; clear H12
    refine l_val rfl rfl rfl (r_octG Tryd.underlying9 rfl rfl h_t13) ?_
    refine l_val rfl rfl rfl (r_move (v := .int .u8 a1) rfl) ?_
    refine l_val rfl rfl rfl (r_eql rfl rfl) ?_
    refine l_val rfl rfl rfl (r_pickT (v := .bool (decide (t13 = a1))) rfl rfl) ?_
    refine l_nil ?_
    refine c_if (b := (decide (t13 = a1))) rfl (fun hb => ?_) (fun hb => ?_)
    · have H14 := cnd_t hb H13; clear H13
      refine c_skip ?_
      refine c_block ?_
      refine c_region ?_
      refine l_val rfl rfl rfl (r_move (v := str x0_2) rfl) ?_
      refine l_val rfl rfl rfl (r_move (v := str x0_2) rfl) ?_
      refine l_val rfl rfl rfl (r_lenT Tryd.underlying9 rfl) ?_
      obtain ⟨t20, h_t20, H15⟩ := bnd_some H14; clear H14
      refine l_val rfl rfl rfl (r_subG rfl rfl h_t20) ?_
      obtain ⟨t21, h_t21, H16⟩ := bnd_some H15; clear H15
      refine l_val rfl rfl rfl (r_cutToG Tryd.underlying9 rfl rfl h_t21) ?_
      refine l_val rfl rfl rfl (r_assign (v := str t21) rfl) ?_
      refine l_nil ?_
      refine c_close t21 () m1 [] (by exact ⟨rfl, rfl, trivial⟩) (by decide) rfl (by exact ⟨(by subst hn1; exact H16), trivial⟩) (Nat.lt_succ_self _)
    · have H17 := cnd_f hb H13; clear H13
      refine c_exit ?_
      refine c_seq ?_
      refine c_region ?_
      refine l_val rfl rfl rfl (r_move (v := str x0_2) rfl) ?_
      refine l_val rfl rfl rfl (r_assign (v := str x0_2) rfl) ?_
      refine l_nil ?_
      refine c_ret ?_
      obtain rfl := Option.some.inj H17
      refine ret1 (v := str x0_2) rfl rfl (fin rfl)
  · have H18 := cnd_f hb H10; clear H10
    refine l_passed rfl rfl rfl ?_
    refine l_passed rfl rfl rfl ?_
    refine l_passed rfl rfl rfl ?_
    refine l_passed rfl rfl rfl ?_
    refine l_passed rfl rfl rfl ?_
    refine l_passed rfl rfl rfl ?_
    refine l_passed rfl rfl rfl ?_
    refine l_val rfl rfl rfl (r_pickF (v := .bool false) rfl rfl) ?_
    refine l_nil ?_
    refine c_false rfl ?_
    refine c_exit ?_
    refine c_seq ?_
    refine c_region ?_
    refine l_val rfl rfl rfl (r_move (v := str x0_2) rfl) ?_
    refine l_val rfl rfl rfl (r_assign (v := str x0_2) rfl) ?_
    refine l_nil ?_
    refine c_ret ?_
    obtain rfl := Option.some.inj H18
    refine ret1 (v := str x0_2) rfl rfl (fin rfl)
theorem k89 {a0 : (List UInt8)} {r : (Nat → Bool) × Bool} (H : strings_makeASCIISet a0 = some r) : Ret Tryd.prog 89 [str a0] (.tuple #[.agg (List.toArray (arrC 256 (fun j_ => [.bool (r.1 j_)]))), .bool r.2]) := by
  refine enterRet (n := 21) Tryd.func89 rfl rfl rfl (fun wd => ?_)
  refine c_seq ?_
  refine c_region ?_
  refine l_alloc (cs := (arrC 256 (fun j_ => [.bool ((fun _ => false) j_)]))) Tryd.zeroValue133 (by kernel_rfl) rfl rfl (fun b1 => ?_)
  refine l_val rfl rfl rfl (r_assign (v := .bool false) rfl) ?_
  refine l_nil ?_
  refine c_meet (r := r) (σ := (Nat → Bool)) (τ := Unit) (fun s => strings_makeASCIISet_j1 s) (fun s t => [(2, .pointer (some ⟨b1, 0, none⟩))]) (fun s t => [cellsC b1 (arrC 256 (fun j_ => [.bool (s j_)])) 133]) (fun s t => True) ?_ ?_
  · refine c_seq ?_
    refine c_region ?_
    refine l_val rfl rfl rfl (r_assign (v := .int .i64 0) rfl) ?_
    refine l_nil ?_
    refine c_block ?_
    refine c_fix (σ := Int × (Nat → Bool)) (τ := Unit) (fun next2 s => strings_makeASCIISet_l2 a0 next2 s.1 s.2) (fun s t => [(0, str a0), (2, .pointer (some ⟨b1, 0, none⟩)), (4, .int .i64 s.1)]) (fun s t => [cellsC b1 (arrC 256 (fun j_ => [.bool (s.2 j_)])) 133]) (fun s t => True) (0, (fun _ => false)) () [0] H (by exact trivial) (by exact ⟨rfl, rfl, rfl, trivial⟩) (by decide) rfl ?_
    rintro ⟨x4_2, m_3⟩ _ m2 gg H11 _
    clear H
    replace H11 : strings_makeASCIISet_l2 a0 (it (fun next2 s => strings_makeASCIISet_l2 a0 next2 s.1 s.2) m2) x4_2 m_3 = some r := H11
    generalize hn2 : it (fun next2 s => strings_makeASCIISet_l2 a0 next2 s.1 s.2) m2 = next2 at H11
    refine c_tidyF [(0, str a0), (2, .pointer (some ⟨b1, 0, none⟩)), (4, .int .i64 x4_2)] [cellsC b1 (arrC 256 (fun j_ => [.bool (m_3 j_)])) 133] rfl rfl ?_
    refine c_seq ?_
    refine c_seq ?_
    refine c_region ?_
    refine l_val rfl rfl rfl (r_move (v := .int .i64 x4_2) rfl) ?_
    refine l_val rfl rfl rfl (r_move (v := str a0) rfl) ?_
    refine l_val rfl rfl rfl (r_lenT Tryd.underlying9 rfl) ?_
    refine l_val rfl rfl rfl (r_lss rfl rfl) ?_
    refine l_nil ?_
    refine c_if (b := (decide (x4_2 < (a0.length : Int)))) rfl (fun hb => ?_) (fun hb => ?_)
    · have H12 := cnd_t hb H11; clear H11
      refine c_skip ?_
      refine c_seq ?_
      refine c_block ?_
      refine c_seq ?_
      refine c_region ?_
      refine l_val rfl rfl rfl (r_move (v := str a0) rfl) ?_
      refine l_val rfl rfl rfl (r_move (v := .int .i64 x4_2) rfl) ?_
      obtain ⟨t14, h_t14, H13⟩ := bnd_some H12; clear H12
      refine l_val rfl rfl rfl (r_octG Tryd.underlying9 rfl rfl h_t14) ?_
      refine l_val rfl rfl rfl (r_assign (v := .int .u8 t14) rfl) ?_
      refine l_nil ?_
      refine c_seq ?_
      refine c_seq ?_
      refine c_region ?_
      refine l_val rfl rfl rfl (r_move (v := .int .u8 t14) rfl) ?_
      refine l_val rfl rfl rfl (r_geq rfl rfl) ?_
      refine l_nil ?_
      refine c_if (b := (decide (128 ≤ t14))) rfl (fun hb => ?_) (fun hb => ?_)
      · have H14 := cnd_t hb H13; clear H13
        refine c_seq ?_
        refine c_region ?_
        refine l_loadN (i := 0) (vs := (arrC 256 (fun j_ => [.bool (m_3 j_)]))) Tryd.isAgg133 Tryd.sizeOf133 rfl rfl rfl rfl (rd_whole (arrC_len (fun _ => rfl))) ?_
        refine l_store (i := 0) (vs := (arrC 256 (fun j_ => [.bool (m_3 j_)]))) (cs' := (arrC 256 (fun j_ => [.bool (m_3 j_)]))) Tryd.sizeOf133 rfl rfl rfl rfl (arrC_len (fun _ => rfl)) rfl (arrC_one (fun _ => rfl)) rfl (wr_whole ((arrC_len (fun _ => rfl)).trans (arrC_len (fun _ => rfl)).symm)) ?_
        refine l_val rfl rfl rfl (r_assign (v := .bool false) rfl) ?_
        refine l_nil ?_
        refine c_ret ?_
        obtain rfl := Option.some.inj H14
        refine retCt (i := 0) (vs := (arrC 256 (fun j_ => [.bool (m_3 j_)]))) (v2 := .bool false) Tryd.isAgg133 Tryd.sizeOf133 rfl rfl rfl (rd_whole (arrC_len (fun _ => rfl))) rfl (fin rfl)
      · have H15 := cnd_f hb H13; clear H13
        refine c_skip ?_
        refine c_region ?_
        refine l_val rfl rfl rfl (r_move (v := .int .u8 t14) rfl) ?_
        obtain ⟨k19, h_k19, H16⟩ := bnd_some H15; clear H15
        refine l_val rfl rfl rfl (r_indexPG Tryd.runUnderlying133 Tryd.sizeOf4 rfl rfl h_k19) ?_
        refine l_store (i := 0) (vs := [.bool true]) (cs' := (arrC 256 (fun j_ => [.bool ((setA m_3 k19 true) j_)]))) Tryd.sizeOf4 rfl rfl rfl rfl rfl rfl rfl rfl (wr_arr (pre := []) (post := []) (f := fun (j_ : Bool) => [.bool j_]) (n := 256) (sz := 1) (a := m_3) (x := true) (arr_whole _ _) rfl (fun _ => rfl) (gIx_lt h_k19) rfl (arr_whole _ _)) ?_
        refine l_nil ?_
        refine c_region ?_
        refine l_val rfl rfl rfl (r_move (v := .int .i64 x4_2) rfl) ?_
        obtain ⟨t11, h_t11, H17⟩ := bnd_some H16; clear H16
        refine l_val rfl rfl rfl (r_addG rfl rfl h_t11) ?_
        refine l_val rfl rfl rfl (r_assign (v := .int .i64 t11) rfl) ?_
        refine l_nil ?_
        refine c_close (t11, (setA m_3 k19 true)) () m2 [0] (by exact ⟨rfl, rfl, rfl, trivial⟩) (by decide) rfl (by exact ⟨(by subst hn2; exact H17), trivial⟩) (Nat.lt_succ_self _)
    · have H18 := cnd_f hb H11; clear H11
      refine c_exit ?_
      refine c_close m_3 () 0 [0] (by exact ⟨rfl, trivial⟩) (by decide) rfl (by exact ⟨H18, trivial⟩) (Nat.lt_succ_self _)
  · rintro m _ gg H10 _
    replace H10 : strings_makeASCIISet_j1 m = some r := H10
    refine c_tidyF [(2, .pointer (some ⟨b1, 0, none⟩))] [cellsC b1 (arrC 256 (fun j_ => [.bool (m j_)])) 133] rfl rfl ?_
    refine c_seq ?_
    refine c_region ?_
    refine l_loadN (i := 0) (vs := (arrC 256 (fun j_ => [.bool (m j_)]))) Tryd.isAgg133 Tryd.sizeOf133 rfl rfl rfl rfl (rd_whole (arrC_len (fun _ => rfl))) ?_
    refine l_store (i := 0) (vs := (arrC 256 (fun j_ => [.bool (m j_)]))) (cs' := (arrC 256 (fun j_ => [.bool (m j_)]))) Tryd.sizeOf133 rfl rfl rfl rfl (arrC_len (fun _ => rfl)) rfl (arrC_one (fun _ => rfl)) rfl (wr_whole ((arrC_len (fun _ => rfl)).trans (arrC_len (fun _ => rfl)).symm)) ?_
    refine l_val rfl rfl rfl (r_assign (v := .bool true) rfl) ?_
    refine l_nil ?_
    refine c_ret ?_
    obtain rfl := Option.some.inj H10
    refine retCt (i := 0) (vs := (arrC 256 (fun j_ => [.bool (m j_)]))) (v2 := .bool true) Tryd.isAgg133 Tryd.sizeOf133 rfl rfl rfl (rd_whole (arrC_len (fun _ => rfl))) rfl (fin rfl)
theorem k109 {a0 : (Nat → Bool)} {pb0 : Nat} {a1 : Int} {r : Bool × (Nat → Bool)} {w : World} {h : Heap} {S : Nat → Prop} (hcs : (cellsC pb0 (arrC 256 (fun j_ => [.bool (a0 j_)])) 133).P S w) (hlt : ∀ b, S b → b < w.heap.size) (hw : Know h w S) (H : strings_asciiSet_contains a0 a1 = some r) : Does Tryd.prog 109 (List.toArray [.pointer (some ⟨pb0, 0, none⟩), .int .u8 a1]) w (fun v w' => ∃ x : Unit, v = (.bool r.1) ∧ Turn w w' S (cellsC pb0 (arrC 256 (fun j_ => [.bool (r.2 j_)])) 133)) := by
  refine enter (n := 10) Tryd.func109 rfl rfl rfl S [cellsC pb0 (arrC 256 (fun j_ => [.bool (a0 j_)])) 133] (Sat.one hcs hlt) ?_
  refine c_seq ?_
  refine c_region ?_
  refine l_val rfl rfl rfl (r_assign (v := .bool false) rfl) ?_
  refine l_nil ?_
  refine c_seq ?_
  refine c_region ?_
  refine l_val rfl rfl rfl (r_move (v := .pointer (some ⟨pb0, 0, none⟩)) rfl) ?_
  refine l_val rfl rfl rfl (r_move (v := .int .u8 a1) rfl) ?_
  refine l_val rfl rfl rfl (r_nilCheck rfl) ?_
  obtain ⟨k8, h_k8, H2⟩ := bnd_some H; clear H
  refine l_val rfl rfl rfl (r_indexPG Tryd.runUnderlying133 Tryd.sizeOf4 rfl rfl h_k8) ?_
  refine l_load1 (i := 0) (v := .bool (a0 k8)) Tryd.isAgg4 rfl rfl rfl rfl (rg_arr (pre := []) (post := []) (f := fun j_ => [.bool (a0 j_)]) (n := 256) (sz := 1) (q := 0) (arr_whole _ _) rfl (fun _ => rfl) (gIx_lt h_k8) rfl) ?_
  refine l_val rfl rfl rfl (r_assign (v := .bool (a0 k8)) rfl) ?_
  refine l_nil ?_
  refine c_ret ?_
  obtain rfl := Option.some.inj H2
  refine ret1 (v := .bool (a0 k8)) rfl rfl (finX () (i := 0) rfl rfl (Imp.refl _))
theorem k90 {a0 : (List UInt8)} {a1 : (Nat → Bool)} {pb1 : Nat} {r : (List UInt8) × (Nat → Bool)} {w : World} {h : Heap} {S : Nat → Prop} (hcs : (cellsC pb1 (arrC 256 (fun j_ => [.bool (a1 j_)])) 133).P S w) (hlt : ∀ b, S b → b < w.heap.size) (hw : Know h w S) (H : strings_trimLeftASCII a0 a1 = some r) : Does Tryd.prog 90 (List.toArray [str a0, .pointer (some ⟨pb1, 0, none⟩)]) w (fun v w' => ∃ x : Unit, v = (str r.1) ∧ Turn w w' S (cellsC pb1 (arrC 256 (fun j_ => [.bool (r.2 j_)])) 133)) := by
  refine enter (n := 16) Tryd.func90 rfl rfl rfl S [cellsC pb1 (arrC 256 (fun j_ => [.bool (a1 j_)])) 133] (Sat.one hcs hlt) ?_
  refine c_seq ?_
  refine c_region ?_
  refine l_val rfl rfl rfl (r_assign (v := str []) rfl) ?_
  refine l_nil ?_
  refine c_seq ?_
  refine c_block ?_
  refine c_fix (σ := (List UInt8) × (Nat → Bool)) (τ := Unit) (fun next1 s => strings_trimLeftASCII_l1 next1 s.1 s.2) (fun s t => [(0, str s.1), (1, .pointer (some ⟨pb1, 0, none⟩))]) (fun s t => [cellsC pb1 (arrC 256 (fun j_ => [.bool (s.2 j_)])) 133]) (fun s t => True) (a0, a1) () [0] H (by exact trivial) (by exact ⟨rfl, rfl, trivial⟩) (by decide) rfl ?_
  rintro ⟨x0_2, m_2⟩ _ m1 gg H9 _
  clear H
  replace H9 : strings_trimLeftASCII_l1 (it (fun next1 s => strings_trimLeftASCII_l1 next1 s.1 s.2) m1) x0_2 m_2 = some r := H9
  generalize hn1 : it (fun next1 s => strings_trimLeftASCII_l1 next1 s.1 s.2) m1 = next1 at H9
  refine c_tidyF [(0, str x0_2), (1, .pointer (some ⟨pb1, 0, none⟩))] [cellsC pb1 (arrC 256 (fun j_ => [.bool (m_2 j_)])) 133] rfl rfl ?_
  refine c_seq ?_
  refine c_seq ?_
  refine c_region ?_
  refine l_val rfl rfl rfl (r_move (v := str x0_2) rfl) ?_
  refine l_val rfl rfl rfl (r_lenT Tryd.underlying9 rfl) ?_
  refine l_val rfl rfl rfl (r_gtr rfl rfl) ?_
  refine l_nil ?_
  refine c_if (b := (decide (0 < (x0_2.length : Int)))) rfl (fun hb => ?_) (fun hb => ?_)
  · have H10 := cnd_t hb H9; clear H9
    refine c_skip ?_
    refine c_block ?_
    refine c_seq ?_
    refine c_seq ?_
    refine c_region ?_
    refine l_val rfl rfl rfl (r_move (v := .pointer (some ⟨pb1, 0, none⟩)) rfl) ?_
    refine l_val rfl rfl rfl (r_move (v := str x0_2) rfl) ?_
    obtain ⟨t10, h_t10, H11⟩ := bnd_some H10; clear H10
    refine l_val rfl rfl rfl (r_octG Tryd.underlying9 rfl rfl h_t10) ?_
    obtain ⟨t11, h_t11, H12⟩ := bnd_some H11; clear H11
    refine l_turn (turns_callB (i := 0) (rds := []) (G := fun x : Unit => .bool t11.1) (C := fun x : Unit => cellsC pb1 (arrC 256 (fun j_ => [.bool (t11.2 j_)])) 133) rfl (fun w L' S hF hS hi hp hlt ho hA => k109 hp hlt (know_but w S)  h_t11) Tryd.call109 rfl) rfl rfl rfl (fun _ => ?_)
    refine l_val rfl rfl rfl (r_not rfl) ?_
    refine l_nil ?_
    refine c_if (b := (!t11.1)) rfl (fun hb => ?_) (fun hb => ?_)
    · have H13 := cnd_t hb H12; clear H12
      refine c_exit ?_
      refine c_seq ?_
      refine c_region ?_
      refine l_val rfl rfl rfl (r_move (v := str x0_2) rfl) ?_
      refine l_val rfl rfl rfl (r_assign (v := str x0_2) rfl) ?_
      refine l_nil ?_
      refine c_ret ?_
      obtain rfl := Option.some.inj H13
      refine ret1 (v := str x0_2) rfl rfl (finX () (i := 0) rfl rfl (Imp.refl _))
    · have H14 := cnd_f hb H12; clear H12
      refine c_skip ?_
      refine c_region ?_
      refine l_val rfl rfl rfl (r_move (v := str x0_2) rfl) ?_
      obtain ⟨t14, h_t14, H15⟩ := bnd_some H14; clear H14
      refine l_val rfl rfl rfl (r_cutFromG Tryd.underlying9 rfl rfl h_t14) ?_
      refine l_val rfl rfl rfl (r_assign (v := str t14) rfl) ?_
      refine l_nil ?_
      refine c_close (t14, t11.2) () m1 [0] (by exact ⟨rfl, rfl, trivial⟩) (by decide) rfl (by exact ⟨(by subst hn1; exact H15), trivial⟩) (Nat.lt_succ_self _)
  · have H16 := cnd_f hb H9; clear H9
    refine c_exit ?_
    refine c_seq ?_
    refine c_region ?_
    refine l_val rfl rfl rfl (r_move (v := str x0_2) rfl) ?_
    refine l_val rfl rfl rfl (r_assign (v := str x0_2) rfl) ?_
    refine l_nil ?_
    refine c_ret ?_
    obtain rfl := Option.some.inj H16
    refine ret1 (v := str x0_2) rfl rfl (finX () (i := 0) rfl rfl (Imp.refl _))
theorem k91 {a0 : (List UInt8)} {a1 : (Nat → Bool)} {pb1 : Nat} {r : (List UInt8) × (Nat → Bool)} {w : World} {h : Heap} {S : Nat → Prop} (hcs : (cellsC pb1 (arrC 256 (fun j_ => [.bool (a1 j_)])) 133).P S w) (hlt : ∀ b, S b → b < w.heap.size) (hw : Know h w S) (H : strings_trimRightASCII a0 a1 = some r) : Does Tryd.prog 91 (List.toArray [str a0, .pointer (some ⟨pb1, 0, none⟩)]) w (fun v w' => ∃ x : Unit, v = (str r.1) ∧ Turn w w' S (cellsC pb1 (arrC 256 (fun j_ => [.bool (r.2 j_)])) 133)) := by
  refine enter (n := 22) Tryd.func91 rfl rfl rfl S [cellsC pb1 (arrC 256 (fun j_ => [.bool (a1 j_)])) 133] (Sat.one hcs hlt) ?_
  refine c_seq ?_
  refine c_region ?_
  refine l_val rfl rfl rfl (r_assign (v := str []) rfl) ?_
  refine l_nil ?_
  refine c_seq ?_
  refine c_block ?_
  refine c_fix (σ := (List UInt8) × (Nat → Bool)) (τ := Unit) (fun next1 s => strings_trimRightASCII_l1 next1 s.1 s.2) (fun s t => [(0, str s.1), (1, .pointer (some ⟨pb1, 0, none⟩))]) (fun s t => [cellsC pb1 (arrC 256 (fun j_ => [.bool (s.2 j_)])) 133]) (fun s t => True) (a0, a1) () [0] H (by exact trivial) (by exact ⟨rfl, rfl, trivial⟩) (by decide) rfl ?_
  rintro ⟨x0_2, m_2⟩ _ m1 gg H11 _
  clear H
  replace H11 : strings_trimRightASCII_l1 (it (fun next1 s => strings_trimRightASCII_l1 next1 s.1 s.2) m1) x0_2 m_2 = some r := H11
  generalize hn1 : it (fun next1 s => strings_trimRightASCII_l1 next1 s.1 s.2) m1 = next1 at H11
  refine c_tidyF [(0, str x0_2), (1, .pointer (some ⟨pb1, 0, none⟩))] [cellsC pb1 (arrC 256 (fun j_ => [.bool (m_2 j_)])) 133] rfl rfl ?_
  refine c_seq ?_
  refine c_seq ?_
  refine c_region ?_
  refine l_val rfl rfl rfl (r_move (v := str x0_2) rfl) ?_
  refine l_val rfl rfl rfl (r_lenT Tryd.underlying9 rfl) ?_
  refine l_val rfl rfl rfl (r_gtr rfl rfl) ?_
  refine l_nil ?_
  refine c_if (b := (decide (0 < (x0_2.length : Int)))) rfl (fun hb => ?_) (fun hb => ?_)
  · have H12 := cnd_t hb H11; clear H11
    refine c_skip ?_
    refine c_block ?_
    refine c_seq ?_
    refine c_seq ?_
    refine c_region ?_
    refine l_val rfl rfl rfl (r_move (v := .pointer (some ⟨pb1, 0, none⟩)) rfl) ?_
    refine l_val rfl rfl rfl (r_move (v := str x0_2) rfl) ?_
    refine l_val rfl rfl rfl (r_move (v := str x0_2) rfl) ?_
    refine l_val rfl rfl rfl (r_lenT Tryd.underlying9 rfl) ?_
    obtain ⟨t12, h_t12, H13⟩ := bnd_some H12; clear H12
    refine l_val rfl rfl rfl (r_subG rfl rfl h_t12) ?_
    obtain ⟨t13, h_t13, H14⟩ := bnd_some H13; clear H13
    refine l_val rfl rfl rfl (r_octG Tryd.underlying9 rfl rfl h_t13) ?_
    obtain ⟨t14, h_t14, H15⟩ := bnd_some H14; clear H14
    refine l_turn (turns_callB (i := 0) (rds := []) (G := fun x : Unit => .bool t14.1) (C := fun x : Unit => cellsC pb1 (arrC 256 (fun j_ => [.bool (t14.2 j_)])) 133) rfl (fun w L' S hF hS hi hp hlt ho hA => k109 hp hlt (know_but w S)  h_t14) Tryd.call109 rfl) rfl rfl rfl (fun _ => ?_)
    refine l_val rfl rfl rfl (r_not rfl) ?_
    refine l_nil ?_
    refine c_if (b := (!t14.1)) rfl (fun hb => ?_) (fun hb => ?_)
    · have H16 := cnd_t hb H15; clear H15
      refine c_exit ?_
      refine c_seq ?_
      refine c_region ?_
      refine l_val rfl rfl rfl (r_move (v := str x0_2) rfl) ?_
      refine l_val rfl rfl rfl (r_assign (v := str x0_2) rfl) ?_
      refine l_nil ?_
      refine c_ret ?_
      obtain rfl := Option.some.inj H16
      refine ret1 (v := str x0_2) rfl rfl (finX () (i := 0) rfl rfl (Imp.refl _))
    · have H17 := cnd_f hb H15; clear H15
      refine c_skip ?_
      refine c_region ?_
      refine l_val rfl rfl rfl (r_move (v := str x0_2) rfl) ?_
      refine l_val rfl rfl rfl (r_move (v := str x0_2) rfl) ?_
      refine l_val rfl rfl rfl (r_lenT Tryd.underlying9 rfl) ?_
      obtain ⟨t19, h_t19, H18⟩ := bnd_some H17; clear H17
      refine l_val rfl rfl rfl (r_subG rfl rfl h_t19) ?_
      obtain ⟨t20, h_t20, H19⟩ := bnd_some H18; clear H18
      refine l_val rfl rfl rfl (r_cutToG Tryd.underlying9 rfl rfl h_t20) ?_
      refine l_val rfl rfl rfl (r_assign (v := str t20) rfl) ?_
      refine l_nil ?_
      refine c_close (t20, t14.2) () m1 [0] (by exact ⟨rfl, rfl, trivial⟩) (by decide) rfl (by exact ⟨(by subst hn1; exact H19), trivial⟩) (Nat.lt_succ_self _)
  · have H20 := cnd_f hb H11; clear H11
    refine c_exit ?_
    refine c_seq ?_
    refine c_region ?_
    refine l_val rfl rfl rfl (r_move (v := str x0_2) rfl) ?_
    refine l_val rfl rfl rfl (r_assign (v := str x0_2) rfl) ?_
    refine l_nil ?_
    refine c_ret ?_
    obtain rfl := Option.some.inj H20
    refine ret1 (v := str x0_2) rfl rfl (finX () (i := 0) rfl rfl (Imp.refl _))
theorem k142 {a0 : (List UInt8)} {a1 : Int} {r : Int} (H : strings_IndexByte a0 a1 = some r) : Ret Tryd.prog 142 [str a0, .int .u8 a1] (.int .i64 r) := by
  refine enterRet (n := 8) Tryd.func142 rfl rfl rfl (fun wd => ?_)
  refine c_seq ?_
  refine c_region ?_
  refine l_val rfl rfl rfl (r_assign (v := .int .i64 0) rfl) ?_
  refine l_nil ?_
  refine c_seq ?_
  refine c_region ?_
  refine l_val rfl rfl rfl (r_move (v := str a0) rfl) ?_
  refine l_val rfl rfl rfl (r_move (v := .int .u8 a1) rfl) ?_
  obtain ⟨t7, h_t7, H2⟩ := bnd_some H; clear H
  refine l_call (k114 h_t7) Tryd.call114 rfl rfl rfl ?_
  refine l_val rfl rfl rfl (r_assign (v := .int .i64 t7) rfl) ?_
  refine l_nil ?_
  refine c_ret ?_
  obtain rfl := Option.some.inj H2
  refine ret1 (v := .int .i64 t7) rfl rfl (fin rfl)
theorem k143 {a0 : Int} {r : Bool} (H : unicode_utf8_ValidRune a0 = some r) : Ret Tryd.prog 143 [.int .i32 a0] (.bool r) := by
  refine enterRet (n := 17) Tryd.func143 rfl rfl rfl (fun wd => ?_)
  refine c_seq ?_
  refine c_region ?_
  refine l_val rfl rfl rfl (r_assign (v := .bool false) rfl) ?_
  refine l_nil ?_
  refine c_seq ?_
  refine c_block ?_
  refine c_meet (r := r) (σ := Bool) (τ := Unit) (fun s => unicode_utf8_ValidRune_j1 a0 s) (fun s t => [(0, .int .i32 a0), (3, .bool s)]) (fun s t => []) (fun s t => True) ?_ ?_
  · refine c_region ?_
    refine l_val rfl rfl rfl (r_move (v := .int .i32 a0) rfl) ?_
    refine l_val rfl rfl rfl (r_leq rfl rfl) ?_
    refine l_val rfl rfl rfl (r_move (v := .bool (decide (0 ≤ a0))) rfl) ?_
    refine split (fun hb => ?_) (fun hb => ?_)
    · have H17 := cnd_t hb H; clear H
      refine l_val rfl rfl rfl (r_move (v := .int .i32 a0) rfl) ?_
      refine l_val rfl rfl rfl (r_lss rfl rfl) ?_
      refine l_val rfl rfl rfl (r_pickT (v := .bool (decide (a0 < 55296))) rfl rfl) ?_
      refine l_val rfl rfl rfl (r_assign (v := .bool (decide (a0 < 55296))) rfl) ?_
      refine l_nil ?_
      refine c_close (decide (a0 < 55296)) () 0 [] (by exact ⟨rfl, rfl, trivial⟩) (by decide) rfl (by exact ⟨H17, trivial⟩) (Nat.lt_succ_self _)
    · have H18 := cnd_f hb H; clear H
      refine l_passed rfl rfl rfl ?_
      refine l_passed rfl rfl rfl ?_
      refine l_val rfl rfl rfl (r_pickF (v := .bool false) rfl rfl) ?_
      refine l_val rfl rfl rfl (r_assign (v := .bool false) rfl) ?_
      refine l_nil ?_
      refine c_close false () 0 [] (by exact ⟨rfl, rfl, trivial⟩) (by decide) rfl (by exact ⟨H18, trivial⟩) (Nat.lt_succ_self _)
  · rintro x3 _ gg H10 _
    replace H10 : unicode_utf8_ValidRune_j1 a0 x3 = some r := H10
    refine c_tidyF [(0, .int .i32 a0), (3, .bool x3)] [] rfl rfl ?_
    refine c_if (b := x3) rfl (fun hb => ?_) (fun hb => ?_)
    · have H11 := cnd_t hb H10; clear H10
      refine c_seq ?_
      refine c_region ?_
      refine l_val rfl rfl rfl (r_assign (v := .bool true) rfl) ?_
      refine l_nil ?_
      refine c_ret ?_
      obtain rfl := Option.some.inj H11
      refine ret1 (v := .bool true) rfl rfl (fin rfl)
    · have H12 := cnd_f hb H10; clear H10
      refine c_seq ?_
      refine c_region ?_
      refine l_val rfl rfl rfl (r_move (v := .int .i32 a0) rfl) ?_
      refine l_val rfl rfl rfl (r_lss rfl rfl) ?_
      refine l_val rfl rfl rfl (r_move (v := .bool (decide (57343 < a0))) rfl) ?_
      refine split (fun hb => ?_) (fun hb => ?_)
      · have H13 := cnd_t hb H12; clear H12
        refine l_val rfl rfl rfl (r_move (v := .int .i32 a0) rfl) ?_
        refine l_val rfl rfl rfl (r_leq rfl rfl) ?_
        refine l_val rfl rfl rfl (r_pickT (v := .bool (decide (a0 ≤ 1114111))) rfl rfl) ?_
        refine l_val rfl rfl rfl (r_assign (v := .bool (decide (a0 ≤ 1114111))) rfl) ?_
        refine l_nil ?_
        refine c_if (b := (decide (a0 ≤ 1114111))) rfl (fun hb => ?_) (fun hb => ?_)
        · have H14 := cnd_t hb H13; clear H13
          refine c_seq ?_
          refine c_region ?_
          refine l_val rfl rfl rfl (r_assign (v := .bool true) rfl) ?_
          refine l_nil ?_
          refine c_ret ?_
          obtain rfl := Option.some.inj H14
          refine ret1 (v := .bool true) rfl rfl (fin rfl)
        · have H15 := cnd_f hb H13; clear H13
          refine c_skip ?_
          refine c_seq ?_
          refine c_region ?_
          refine l_val rfl rfl rfl (r_assign (v := .bool false) rfl) ?_
          refine l_nil ?_
          refine c_ret ?_
          obtain rfl := Option.some.inj H15
          refine ret1 (v := .bool false) rfl rfl (fin rfl)
      · have H16 := cnd_f hb H12; clear H12
        refine l_passed rfl rfl rfl ?_
        refine l_passed rfl rfl rfl ?_
        refine l_val rfl rfl rfl (r_pickF (v := .bool false) rfl rfl) ?_
        refine l_val rfl rfl rfl (r_assign (v := .bool false) rfl) ?_
        refine l_nil ?_
        refine c_false rfl ?_
        refine c_skip ?_
        refine c_seq ?_
        refine c_region ?_
        refine l_val rfl rfl rfl (r_assign (v := .bool false) rfl) ?_
        refine l_nil ?_
        refine c_ret ?_
        obtain rfl := Option.some.inj H16
        refine ret1 (v := .bool false) rfl rfl (fin rfl)
theorem k131 {a0 : (List UInt8)} {a1 : Int} {r : Int} (H : strings_IndexRune a0 a1 = some r) : Ret Tryd.prog 131 [str a0, .int .i32 a1] (.int .i64 r) := by
  refine enterRet (n := 187) Tryd.func131 rfl rfl rfl (fun wd => ?_)
  refine c_seq ?_
  refine c_region ?_
  refine l_val rfl rfl rfl (r_assign (v := .int .i64 0) rfl) ?_
  refine l_nil ?_
  refine c_block ?_
  refine c_meet (r := r) (σ := Bool) (τ := Unit) (fun s => strings_IndexRune_j1 a0 a1 s) (fun s t => [(0, str a0), (1, .int .i32 a1), (160, .bool s)]) (fun s t => []) (fun s t => True) ?_ ?_
  · refine c_region ?_
    refine l_val rfl rfl rfl (r_move (v := .int .i32 a1) rfl) ?_
    refine l_val rfl rfl rfl (r_leq rfl rfl) ?_
    refine l_val rfl rfl rfl (r_move (v := .bool (decide (0 ≤ a1))) rfl) ?_
    refine split (fun hb => ?_) (fun hb => ?_)
    · have H33 := cnd_t hb H; clear H
      refine l_val rfl rfl rfl (r_move (v := .int .i32 a1) rfl) ?_
      refine l_val rfl rfl rfl (r_lss rfl rfl) ?_
      refine l_val rfl rfl rfl (r_pickT (v := .bool (decide (a1 < 128))) rfl rfl) ?_
      refine l_val rfl rfl rfl (r_assign (v := .bool (decide (a1 < 128))) rfl) ?_
      refine l_nil ?_
      refine c_close (decide (a1 < 128)) () 0 [] (by exact ⟨rfl, rfl, rfl, trivial⟩) (by decide) rfl (by exact ⟨H33, trivial⟩) (Nat.lt_succ_self _)
    · have H34 := cnd_f hb H; clear H
      refine l_passed rfl rfl rfl ?_
      refine l_passed rfl rfl rfl ?_
      refine l_val rfl rfl rfl (r_pickF (v := .bool false) rfl rfl) ?_
      refine l_val rfl rfl rfl (r_assign (v := .bool false) rfl) ?_
      refine l_nil ?_
      refine c_close false () 0 [] (by exact ⟨rfl, rfl, rfl, trivial⟩) (by decide) rfl (by exact ⟨H34, trivial⟩) (Nat.lt_succ_self _)
  · rintro x160 _ gg H18 _
    replace H18 : strings_IndexRune_j1 a0 a1 x160 = some r := H18
    refine c_tidyF [(0, str a0), (1, .int .i32 a1), (160, .bool x160)] [] rfl rfl ?_
    refine c_if (b := x160) rfl (fun hb => ?_) (fun hb => ?_)
    · have H19 := cnd_t hb H18; clear H18
      refine c_seq ?_
      refine c_region ?_
      refine l_val rfl rfl rfl (r_move (v := str a0) rfl) ?_
      refine l_val rfl rfl rfl (r_move (v := .int .i32 a1) rfl) ?_
      refine l_val rfl rfl rfl (r_convG Tryd.runUnderlying21 Tryd.runUnderlying5 rfl (wr_u8 _)) ?_
      obtain ⟨t170, h_t170, H20⟩ := bnd_some H19; clear H19
      refine l_call (k142 h_t170) Tryd.call142 rfl rfl rfl ?_
      refine l_val rfl rfl rfl (r_assign (v := .int .i64 t170) rfl) ?_
      refine l_nil ?_
      refine c_ret ?_
      obtain rfl := Option.some.inj H20
      refine ret1 (v := .int .i64 t170) rfl rfl (fin rfl)
    · have H21 := cnd_f hb H18; clear H18
      refine c_seq ?_
      refine c_region ?_
      refine l_val rfl rfl rfl (r_move (v := .int .i32 a1) rfl) ?_
      refine l_val rfl rfl rfl (r_eql rfl rfl) ?_
      refine l_val rfl rfl rfl (r_assign (v := .bool (decide (a1 = 65533))) rfl) ?_
      refine l_nil ?_
      refine c_if (b := (decide (a1 = 65533))) rfl (fun hb => ?_) (fun hb => ?_)
      · have H22 := cnd_t hb H21; clear H21
        refine c_seq ?_
        refine c_seq ?_
        refine c_region ?_
        refine l_val rfl rfl rfl (r_move (v := str a0) rfl) ?_
        refine l_make (rds := []) (makes_range (s := a0) Tryd.underlying9 rfl) rfl rfl rfl (fun b1 => ?_)
        refine l_nil ?_
        refine c_block ?_
        refine c_fix (σ := Nat) (τ := Unit) (fun next2 s => strings_IndexRune_l2 a0 next2 s) (fun s t => [(175, .pointer (some ⟨b1, 0, none⟩))]) (fun s t => [iterC b1 a0 s]) (fun s t => True) 0 () [0] H22 (by exact trivial) (by exact ⟨rfl, trivial⟩) (by decide) rfl ?_
        rintro k_2 _ m2 gg H23 _
        clear H22
        replace H23 : strings_IndexRune_l2 a0 (it (fun next2 s => strings_IndexRune_l2 a0 next2 s) m2) k_2 = some r := H23
        generalize hn2 : it (fun next2 s => strings_IndexRune_l2 a0 next2 s) m2 = next2 at H23
        refine c_tidyF [(175, .pointer (some ⟨b1, 0, none⟩))] [iterC b1 a0 k_2] rfl rfl ?_
        refine c_seq ?_
        refine c_region ?_
        refine caseB (decide (k_2 < a0.length)) (fun hb => ?_) (fun hb => ?_)
        · have H24 := cnd_t hb H23; clear H23
          obtain ⟨t176, h_t176, H25⟩ := bnd_some H24; clear H24
          refine l_turn (turns_next (i := 0) (rds := []) rfl rfl h_t176) rfl rfl rfl (fun _ => ?_)
          refine l_val rfl rfl rfl (r_extract (v := .bool true) rfl rfl) ?_
          refine l_nil ?_
          refine c_seq ?_
          refine c_true rfl ?_
          refine c_skip ?_
          refine c_block ?_
          refine c_seq ?_
          refine c_region ?_
          refine l_val rfl rfl rfl (r_extract (v := .int .i64 ((k_2 : Nat) : Int)) rfl rfl) ?_
          refine l_val rfl rfl rfl (r_extract (v := .int .i32 t176) rfl rfl) ?_
          refine l_val rfl rfl rfl (r_assign (v := .int .i64 ((k_2 : Nat) : Int)) rfl) ?_
          refine l_val rfl rfl rfl (r_assign (v := .int .i32 t176) rfl) ?_
          refine l_nil ?_
          refine c_seq ?_
          refine c_region ?_
          refine l_val rfl rfl rfl (r_move (v := .int .i32 t176) rfl) ?_
          refine l_val rfl rfl rfl (r_eql rfl rfl) ?_
          refine l_nil ?_
          refine c_if (b := (decide (t176 = 65533))) rfl (fun hb => ?_) (fun hb => ?_)
          · have H26 := cnd_t hb H25; clear H25
            refine c_seq ?_
            refine c_region ?_
            refine l_val rfl rfl rfl (r_move (v := .int .i64 ((k_2 : Nat) : Int)) rfl) ?_
            refine l_val rfl rfl rfl (r_assign (v := .int .i64 ((k_2 : Nat) : Int)) rfl) ?_
            refine l_nil ?_
            refine c_ret ?_
            obtain rfl := Option.some.inj H26
            refine ret1 (v := .int .i64 ((k_2 : Nat) : Int)) rfl rfl (fin rfl)
          · have H27 := cnd_f hb H25; clear H25
            refine c_skip ?_
            refine c_close (k_2 + 1) () m2 [0] (by exact ⟨rfl, trivial⟩) (by decide) rfl (by exact ⟨(by subst hn2; exact H27), trivial⟩) (Nat.lt_succ_self _)
        · have H28 := cnd_f hb H23; clear H23
          refine l_read (fun w hF hS => r_nextOver (i := 0) hS rfl rfl hb) rfl rfl rfl ?_
          refine l_val rfl rfl rfl (r_extract (v := .bool false) rfl rfl) ?_
          refine l_nil ?_
          refine c_seq ?_
          refine c_false rfl ?_
          refine c_exit ?_
          refine c_seq ?_
          refine c_region ?_
          refine l_val rfl rfl rfl (r_assign (v := .int .i64 (-1)) rfl) ?_
          refine l_nil ?_
          refine c_ret ?_
          obtain rfl := Option.some.inj H28
          refine ret1 (v := .int .i64 (-1)) rfl rfl (fin rfl)
      · have H29 := cnd_f hb H21; clear H21
        refine c_seq ?_
        refine c_region ?_
        refine l_val rfl rfl rfl (r_move (v := .int .i32 a1) rfl) ?_
        obtain ⟨t185, h_t185, H30⟩ := bnd_some H29; clear H29
        refine l_call (k143 h_t185) Tryd.call143 rfl rfl rfl ?_
        refine l_val rfl rfl rfl (r_not rfl) ?_
        refine l_val rfl rfl rfl (r_assign (v := .bool (!t185)) rfl) ?_
        refine l_nil ?_
        refine c_if (b := (!t185)) rfl (fun hb => ?_) (fun hb => ?_)
        · have H31 := cnd_t hb H30; clear H30
          refine c_seq ?_
          refine c_region ?_
          refine l_val rfl rfl rfl (r_assign (v := .int .i64 (-1)) rfl) ?_
          refine l_nil ?_
          refine c_ret ?_
          obtain rfl := Option.some.inj H31
          refine ret1 (v := .int .i64 (-1)) rfl rfl (fin rfl)
        · have H32 := cnd_f hb H30; clear H30
          exact absurd (show (none : Option (Int)) = some r from H32) (fun h => by cases h)
theorem k111 {a0 : (List UInt8)} {a1 : Int} {r : Bool} (H : strings_ContainsRune a0 a1 = some r) : Ret Tryd.prog 111 [str a0, .int .i32 a1] (.bool r) := by
  refine enterRet (n := 9) Tryd.func111 rfl rfl rfl (fun wd => ?_)
  refine c_seq ?_
  refine c_region ?_
  refine l_val rfl rfl rfl (r_assign (v := .bool false) rfl) ?_
  refine l_nil ?_
  refine c_seq ?_
  refine c_region ?_
  refine l_val rfl rfl rfl (r_move (v := str a0) rfl) ?_
  refine l_val rfl rfl rfl (r_move (v := .int .i32 a1) rfl) ?_
  obtain ⟨t7, h_t7, H2⟩ := bnd_some H; clear H
  refine l_call (k131 h_t7) Tryd.call131 rfl rfl rfl ?_
  refine l_val rfl rfl rfl (r_geq rfl rfl) ?_
  refine l_val rfl rfl rfl (r_assign (v := .bool (decide (0 ≤ t7))) rfl) ?_
  refine l_nil ?_
  refine c_ret ?_
  obtain rfl := Option.some.inj H2
  refine ret1 (v := .bool (decide (0 ≤ t7))) rfl rfl (fin rfl)
theorem k92 {a0 : (List UInt8)} {a1 : (List UInt8)} {r : (List UInt8)} (H : strings_trimLeftUnicode a0 a1 = some r) : Ret Tryd.prog 92 [str a0, str a1] (str r) := by
  refine enterRet (n := 23) Tryd.func92 rfl rfl rfl (fun wd => ?_)
  refine c_seq ?_
  refine c_region ?_
  refine l_val rfl rfl rfl (r_assign (v := str []) rfl) ?_
  refine l_nil ?_
  refine c_seq ?_
  refine c_block ?_
  refine c_fix (σ := (List UInt8)) (τ := Unit) (fun next1 s => strings_trimLeftUnicode_l1 a1 next1 s) (fun s t => [(0, str s), (1, str a1)]) (fun s t => []) (fun s t => True) a0 () [] H (by exact trivial) (by exact ⟨rfl, rfl, trivial⟩) (by decide) rfl ?_
  rintro x0_2 _ m1 gg H9 _
  clear H
  replace H9 : strings_trimLeftUnicode_l1 a1 (it (fun next1 s => strings_trimLeftUnicode_l1 a1 next1 s) m1) x0_2 = some r := H9
  generalize hn1 : it (fun next1 s => strings_trimLeftUnicode_l1 a1 next1 s) m1 = next1 at H9
  refine c_tidyF [(0, str x0_2), (1, str a1)] [] rfl rfl ?_
  refine c_seq ?_
  refine c_seq ?_
  refine c_region ?_
  refine l_val rfl rfl rfl (r_move (v := str x0_2) rfl) ?_
  refine l_val rfl rfl rfl (r_lenT Tryd.underlying9 rfl) ?_
  refine l_val rfl rfl rfl (r_gtr rfl rfl) ?_
  refine l_nil ?_
  refine c_if (b := (decide (0 < (x0_2.length : Int)))) rfl (fun hb => ?_) (fun hb => ?_)
  · have H10 := cnd_t hb H9; clear H9
    refine c_skip ?_
    refine c_block ?_
    refine c_seq ?_
    refine c_region ?_
    refine l_val rfl rfl rfl (r_move (v := str x0_2) rfl) ?_
    obtain ⟨t12, h_t12, H11⟩ := bnd_some H10; clear H10
    refine l_call (k110 h_t12) Tryd.call110 rfl rfl rfl ?_
    refine l_val rfl rfl rfl (r_move (v := .tuple #[.int .i32 t12.1, .int .i64 t12.2]) rfl) ?_
    refine l_val rfl rfl rfl (r_extract (v := .int .i32 t12.1) rfl rfl) ?_
    refine l_val rfl rfl rfl (r_extract (v := .int .i64 t12.2) rfl rfl) ?_
    refine l_val rfl rfl rfl (r_assign (v := .int .i32 t12.1) rfl) ?_
    refine l_val rfl rfl rfl (r_assign (v := .int .i64 t12.2) rfl) ?_
    refine l_nil ?_
    refine c_seq ?_
    refine c_seq ?_
    refine c_region ?_
    refine l_val rfl rfl rfl (r_move (v := str a1) rfl) ?_
    refine l_val rfl rfl rfl (r_move (v := .int .i32 t12.1) rfl) ?_
    obtain ⟨t17, h_t17, H12⟩ := bnd_some H11; clear H11
    refine l_call (k111 h_t17) Tryd.call111 rfl rfl rfl ?_
    refine l_val rfl rfl rfl (r_not rfl) ?_
    refine l_nil ?_
    refine c_if (b := (!t17)) rfl (fun hb => ?_) (fun hb => ?_)
    · have H13 := cnd_t hb H12; clear H12
      refine c_exit ?_
      refine c_seq ?_
      refine c_region ?_
      refine l_val rfl rfl rfl (r_move (v := str x0_2) rfl) ?_
      refine l_val rfl rfl rfl (r_assign (v := str x0_2) rfl) ?_
      refine l_nil ?_
      refine c_ret ?_
      obtain rfl := Option.some.inj H13
      refine ret1 (v := str x0_2) rfl rfl (fin rfl)
    · have H14 := cnd_f hb H12; clear H12
      refine c_skip ?_
      refine c_region ?_
      refine l_val rfl rfl rfl (r_move (v := str x0_2) rfl) ?_
      refine l_val rfl rfl rfl (r_move (v := .int .i64 t12.2) rfl) ?_
      obtain ⟨t21, h_t21, H15⟩ := bnd_some H14; clear H14
      refine l_val rfl rfl rfl (r_cutFromG Tryd.underlying9 rfl rfl h_t21) ?_
      refine l_val rfl rfl rfl (r_assign (v := str t21) rfl) ?_
      refine l_nil ?_
      refine c_close t21 () m1 [] (by exact ⟨rfl, rfl, trivial⟩) (by decide) rfl (by exact ⟨(by subst hn1; exact H15), trivial⟩) (Nat.lt_succ_self _)
  · have H16 := cnd_f hb H9; clear H9
    refine c_exit ?_
    refine c_seq ?_
    refine c_region ?_
    refine l_val rfl rfl rfl (r_move (v := str x0_2) rfl) ?_
    refine l_val rfl rfl rfl (r_assign (v := str x0_2) rfl) ?_
    refine l_nil ?_
    refine c_ret ?_
    obtain rfl := Option.some.inj H16
    refine ret1 (v := str x0_2) rfl rfl (fin rfl)
theorem k132 {a0 : Int} {r : Bool} (H : unicode_utf8_RuneStart a0 = some r) : Ret Tryd.prog 132 [.int .u8 a0] (.bool r) := by
  refine enterRet (n := 6) Tryd.func132 rfl rfl rfl (fun wd => ?_)
  refine c_seq ?_
  refine c_region ?_
  refine l_val rfl rfl rfl (r_assign (v := .bool false) rfl) ?_
  refine l_nil ?_
  refine c_seq ?_
  refine c_region ?_
  refine l_val rfl rfl rfl (r_move (v := .int .u8 a0) rfl) ?_
  refine l_val rfl rfl rfl (r_bitsAnd (bits := 8) rfl rfl rfl (wr_u8 _)) ?_
  refine l_val rfl rfl rfl (r_neq rfl rfl) ?_
  refine l_val rfl rfl rfl (r_assign (v := .bool (decide ((wU8 (bAnd 8 a0 192)) ≠ 128))) rfl) ?_
  refine l_nil ?_
  refine c_ret ?_
  obtain rfl := Option.some.inj H
  refine ret1 (v := .bool (decide ((wU8 (bAnd 8 a0 192)) ≠ 128))) rfl rfl (fin rfl)
theorem k112 {a0 : (List UInt8)} {r : Int × Int} (H : unicode_utf8_DecodeLastRuneInString a0 = some r) : Ret Tryd.prog 112 [str a0] (.tuple #[.int .i32 r.1, .int .i64 r.2]) := by
  refine enterRet (n := 51) Tryd.func112 rfl rfl rfl (fun wd => ?_)
  refine c_seq ?_
  refine c_region ?_
  refine l_val rfl rfl rfl (r_assign (v := .int .i32 0) rfl) ?_
  refine l_val rfl rfl rfl (r_assign (v := .int .i64 0) rfl) ?_
  refine l_nil ?_
  refine c_seq ?_
  refine c_region ?_
  refine l_val rfl rfl rfl (r_move (v := str a0) rfl) ?_
  refine l_val rfl rfl rfl (r_lenT Tryd.underlying9 rfl) ?_
  refine l_val rfl rfl rfl (r_assign (v := .int .i64 (a0.length : Int)) rfl) ?_
  refine l_nil ?_
  refine c_seq ?_
  refine c_seq ?_
  refine c_region ?_
  refine l_val rfl rfl rfl (r_move (v := .int .i64 (a0.length : Int)) rfl) ?_
  refine l_val rfl rfl rfl (r_eql rfl rfl) ?_
  refine l_nil ?_
  refine c_if (b := (decide ((a0.length : Int) = 0))) rfl (fun hb => ?_) (fun hb => ?_)
  · have H27 := cnd_t hb H; clear H
    refine c_seq ?_
    refine c_region ?_
    refine l_val rfl rfl rfl (r_assign (v := .int .i32 65533) rfl) ?_
    refine l_val rfl rfl rfl (r_assign (v := .int .i64 0) rfl) ?_
    refine l_nil ?_
    refine c_ret ?_
    obtain rfl := Option.some.inj H27
    refine ret2 (v1 := .int .i32 65533) (v2 := .int .i64 0) rfl rfl rfl (fin rfl)
  · have H28 := cnd_f hb H; clear H
    refine c_skip ?_
    refine c_seq ?_
    refine c_region ?_
    refine l_val rfl rfl rfl (r_move (v := .int .i64 (a0.length : Int)) rfl) ?_
    obtain ⟨t12, h_t12, H29⟩ := bnd_some H28; clear H28
    refine l_val rfl rfl rfl (r_subG rfl rfl h_t12) ?_
    refine l_val rfl rfl rfl (r_assign (v := .int .i64 t12) rfl) ?_
    refine l_nil ?_
    refine c_seq ?_
    refine c_region ?_
    refine l_val rfl rfl rfl (r_move (v := str a0) rfl) ?_
    refine l_val rfl rfl rfl (r_move (v := .int .i64 t12) rfl) ?_
    obtain ⟨t15, h_t15, H30⟩ := bnd_some H29; clear H29
    refine l_val rfl rfl rfl (r_octG Tryd.underlying9 rfl rfl h_t15) ?_
    obtain ⟨t16, h_t16, H31⟩ := bnd_some H30; clear H30
    refine l_val rfl rfl rfl (r_convG Tryd.runUnderlying5 Tryd.runUnderlying21 rfl (gK_i32 h_t16)) ?_
    refine l_val rfl rfl rfl (r_assign (v := .int .i32 t16) rfl) ?_
    refine l_nil ?_
    refine c_seq ?_
    refine c_seq ?_
    refine c_region ?_
    refine l_val rfl rfl rfl (r_move (v := .int .i32 t16) rfl) ?_
    refine l_val rfl rfl rfl (r_lss rfl rfl) ?_
    refine l_nil ?_
    refine c_if (b := (decide (t16 < 128))) rfl (fun hb => ?_) (fun hb => ?_)
    · have H32 := cnd_t hb H31; clear H31
      refine c_seq ?_
      refine c_region ?_
      refine l_val rfl rfl rfl (r_move (v := .int .i32 t16) rfl) ?_
      refine l_val rfl rfl rfl (r_assign (v := .int .i32 t16) rfl) ?_
      refine l_val rfl rfl rfl (r_assign (v := .int .i64 1) rfl) ?_
      refine l_nil ?_
      refine c_ret ?_
      obtain rfl := Option.some.inj H32
      refine ret2 (v1 := .int .i32 t16) (v2 := .int .i64 1) rfl rfl rfl (fin rfl)
    · have H33 := cnd_f hb H31; clear H31
      refine c_skip ?_
      refine c_seq ?_
      refine c_region ?_
      refine l_val rfl rfl rfl (r_move (v := .int .i64 (a0.length : Int)) rfl) ?_
      obtain ⟨t21, h_t21, H34⟩ := bnd_some H33; clear H33
      refine l_val rfl rfl rfl (r_subG rfl rfl h_t21) ?_
      refine l_val rfl rfl rfl (r_max rfl rfl) ?_
      refine l_val rfl rfl rfl (r_assign (v := .int .i64 (max t21 0)) rfl) ?_
      refine l_nil ?_
      refine c_meet (r := r) (σ := Int) (τ := Unit) (fun s => unicode_utf8_DecodeLastRuneInString_j1 a0 s) (fun s t => [(0, str a0), (4, .int .i64 (a0.length : Int)), (5, .int .i64 s)]) (fun s t => []) (fun s t => True) ?_ ?_
      · refine c_seq ?_
        refine c_region ?_
        refine l_val rfl rfl rfl (r_move (v := .int .i64 t12) rfl) ?_
        obtain ⟨t24, h_t24, H44⟩ := bnd_some H34; clear H34
        refine l_val rfl rfl rfl (r_subG rfl rfl h_t24) ?_
        refine l_val rfl rfl rfl (r_assign (v := .int .i64 t24) rfl) ?_
        refine l_nil ?_
        refine c_block ?_
        refine c_fix (σ := Int) (τ := Unit) (fun next3 s => unicode_utf8_DecodeLastRuneInString_l3 a0 t21 next3 s) (fun s t => [(0, str a0), (4, .int .i64 (a0.length : Int)), (5, .int .i64 s), (6, .int .i64 (max t21 0))]) (fun s t => []) (fun s t => True) t24 () [] H44 (by exact trivial) (by exact ⟨rfl, rfl, rfl, rfl, trivial⟩) (by decide) rfl ?_
        rintro x5_4 _ m3 gg H45 _
        clear H44
        replace H45 : unicode_utf8_DecodeLastRuneInString_l3 a0 t21 (it (fun next3 s => unicode_utf8_DecodeLastRuneInString_l3 a0 t21 next3 s) m3) x5_4 = some r := H45
        generalize hn3 : it (fun next3 s => unicode_utf8_DecodeLastRuneInString_l3 a0 t21 next3 s) m3 = next3 at H45
        refine c_tidyF [(0, str a0), (4, .int .i64 (a0.length : Int)), (5, .int .i64 x5_4), (6, .int .i64 (max t21 0))] [] rfl rfl ?_
        refine c_seq ?_
        refine c_seq ?_
        refine c_region ?_
        refine l_val rfl rfl rfl (r_move (v := .int .i64 x5_4) rfl) ?_
        refine l_val rfl rfl rfl (r_move (v := .int .i64 (max t21 0)) rfl) ?_
        refine l_val rfl rfl rfl (r_geq rfl rfl) ?_
        refine l_nil ?_
        refine c_if (b := (decide ((max t21 0) ≤ x5_4))) rfl (fun hb => ?_) (fun hb => ?_)
        · have H46 := cnd_t hb H45; clear H45
          refine c_skip ?_
          refine c_seq ?_
          refine c_block ?_
          refine c_seq ?_
          refine c_region ?_
          refine l_val rfl rfl rfl (r_move (v := str a0) rfl) ?_
          refine l_val rfl rfl rfl (r_move (v := .int .i64 x5_4) rfl) ?_
          obtain ⟨t32, h_t32, H47⟩ := bnd_some H46; clear H46
          refine l_val rfl rfl rfl (r_octG Tryd.underlying9 rfl rfl h_t32) ?_
          obtain ⟨t33, h_t33, H48⟩ := bnd_some H47; clear H47
          refine l_call (k132 h_t33) Tryd.call132 rfl rfl rfl ?_
          refine l_nil ?_
          refine c_if (b := t33) rfl (fun hb => ?_) (fun hb => ?_)
          · have H49 := cnd_t hb H48; clear H48
            refine c_exit ?_
            refine c_close x5_4 () 0 [] (by exact ⟨rfl, rfl, rfl, trivial⟩) (by decide) rfl (by exact ⟨H49, trivial⟩) (Nat.lt_succ_self _)
          · have H50 := cnd_f hb H48; clear H48
            refine c_skip ?_
            refine c_region ?_
            refine l_val rfl rfl rfl (r_move (v := .int .i64 x5_4) rfl) ?_
            obtain ⟨t29, h_t29, H51⟩ := bnd_some H50; clear H50
            refine l_val rfl rfl rfl (r_subG rfl rfl h_t29) ?_
            refine l_val rfl rfl rfl (r_assign (v := .int .i64 t29) rfl) ?_
            refine l_nil ?_
            refine c_close t29 () m3 [] (by exact ⟨rfl, rfl, rfl, rfl, trivial⟩) (by decide) rfl (by exact ⟨(by subst hn3; exact H51), trivial⟩) (Nat.lt_succ_self _)
        · have H52 := cnd_f hb H45; clear H45
          refine c_exit ?_
          refine c_close x5_4 () 0 [] (by exact ⟨rfl, rfl, rfl, trivial⟩) (by decide) rfl (by exact ⟨H52, trivial⟩) (Nat.lt_succ_self _)
      · rintro x5 _ gg H35 _
        replace H35 : unicode_utf8_DecodeLastRuneInString_j1 a0 x5 = some r := H35
        refine c_tidyF [(0, str a0), (4, .int .i64 (a0.length : Int)), (5, .int .i64 x5)] [] rfl rfl ?_
        refine c_meet (r := r) (σ := Int) (τ := Unit) (fun s => unicode_utf8_DecodeLastRuneInString_j2 a0 s) (fun s t => [(0, str a0), (4, .int .i64 (a0.length : Int)), (5, .int .i64 s)]) (fun s t => []) (fun s t => True) ?_ ?_
        · refine c_seq ?_
          refine c_region ?_
          refine l_val rfl rfl rfl (r_move (v := .int .i64 x5) rfl) ?_
          refine l_val rfl rfl rfl (r_lss rfl rfl) ?_
          refine l_nil ?_
          refine c_if (b := (decide (x5 < 0))) rfl (fun hb => ?_) (fun hb => ?_)
          · have H42 := cnd_t hb H35; clear H35
            refine c_region ?_
            refine l_val rfl rfl rfl (r_assign (v := .int .i64 0) rfl) ?_
            refine l_nil ?_
            refine c_close 0 () 0 [] (by exact ⟨rfl, rfl, rfl, trivial⟩) (by decide) rfl (by exact ⟨H42, trivial⟩) (Nat.lt_succ_self _)
          · have H43 := cnd_f hb H35; clear H35
            refine c_skip ?_
            refine c_close x5 () 0 [] (by exact ⟨rfl, rfl, rfl, trivial⟩) (by decide) rfl (by exact ⟨H43, trivial⟩) (Nat.lt_succ_self _)
        · rintro x5_2 _ gg H36 _
          replace H36 : unicode_utf8_DecodeLastRuneInString_j2 a0 x5_2 = some r := H36
          refine c_tidyF [(0, str a0), (4, .int .i64 (a0.length : Int)), (5, .int .i64 x5_2)] [] rfl rfl ?_
          refine c_seq ?_
          refine c_region ?_
          refine l_val rfl rfl rfl (r_move (v := str a0) rfl) ?_
          refine l_val rfl rfl rfl (r_move (v := .int .i64 x5_2) rfl) ?_
          refine l_val rfl rfl rfl (r_move (v := .int .i64 (a0.length : Int)) rfl) ?_
          obtain ⟨t40, h_t40, H37⟩ := bnd_some H36; clear H36
          refine l_val rfl rfl rfl (r_cutTG Tryd.underlying9 rfl rfl rfl h_t40) ?_
          obtain ⟨t41, h_t41, H38⟩ := bnd_some H37; clear H37
          refine l_call (k110 h_t41) Tryd.call110 rfl rfl rfl ?_
          refine l_val rfl rfl rfl (r_move (v := .tuple #[.int .i32 t41.1, .int .i64 t41.2]) rfl) ?_
          refine l_val rfl rfl rfl (r_extract (v := .int .i32 t41.1) rfl rfl) ?_
          refine l_val rfl rfl rfl (r_extract (v := .int .i64 t41.2) rfl rfl) ?_
          refine l_val rfl rfl rfl (r_assign (v := .int .i32 t41.1) rfl) ?_
          refine l_val rfl rfl rfl (r_assign (v := .int .i64 t41.2) rfl) ?_
          refine l_nil ?_
          refine c_seq ?_
          refine c_seq ?_
          refine c_region ?_
          refine l_val rfl rfl rfl (r_move (v := .int .i64 x5_2) rfl) ?_
          refine l_val rfl rfl rfl (r_move (v := .int .i64 t41.2) rfl) ?_
          obtain ⟨t46, h_t46, H39⟩ := bnd_some H38; clear H38
          refine l_val rfl rfl rfl (r_addG rfl rfl h_t46) ?_
          refine l_val rfl rfl rfl (r_move (v := .int .i64 (a0.length : Int)) rfl) ?_
          refine l_val rfl rfl rfl (r_neq rfl rfl) ?_
          refine l_nil ?_
          refine c_if (b := (decide (t46 ≠ (a0.length : Int)))) rfl (fun hb => ?_) (fun hb => ?_)
          · have H40 := cnd_t hb H39; clear H39
            refine c_seq ?_
            refine c_region ?_
            refine l_val rfl rfl rfl (r_assign (v := .int .i32 65533) rfl) ?_
            refine l_val rfl rfl rfl (r_assign (v := .int .i64 1) rfl) ?_
            refine l_nil ?_
            refine c_ret ?_
            obtain rfl := Option.some.inj H40
            refine ret2 (v1 := .int .i32 65533) (v2 := .int .i64 1) rfl rfl rfl (fin rfl)
          · have H41 := cnd_f hb H39; clear H39
            refine c_skip ?_
            refine c_seq ?_
            refine c_region ?_
            refine l_val rfl rfl rfl (r_move (v := .int .i32 t41.1) rfl) ?_
            refine l_val rfl rfl rfl (r_move (v := .int .i64 t41.2) rfl) ?_
            refine l_val rfl rfl rfl (r_assign (v := .int .i32 t41.1) rfl) ?_
            refine l_val rfl rfl rfl (r_assign (v := .int .i64 t41.2) rfl) ?_
            refine l_nil ?_
            refine c_ret ?_
            obtain rfl := Option.some.inj H41
            refine ret2 (v1 := .int .i32 t41.1) (v2 := .int .i64 t41.2) rfl rfl rfl (fin rfl)
theorem k93 {a0 : (List UInt8)} {a1 : (List UInt8)} {r : (List UInt8)} (H : strings_trimRightUnicode a0 a1 = some r) : Ret Tryd.prog 93 [str a0, str a1] (str r) := by
  refine enterRet (n := 34) Tryd.func93 rfl rfl rfl (fun wd => ?_)
  refine c_seq ?_
  refine c_region ?_
  refine l_val rfl rfl rfl (r_assign (v := str []) rfl) ?_
  refine l_nil ?_
  refine c_seq ?_
  refine c_block ?_
  refine c_fix (σ := (List UInt8)) (τ := Unit) (fun next1 s => strings_trimRightUnicode_l1 a1 next1 s) (fun s t => [(0, str s), (1, str a1)]) (fun s t => []) (fun s t => True) a0 () [] H (by exact trivial) (by exact ⟨rfl, rfl, trivial⟩) (by decide) rfl ?_
  rintro x0_2 _ m1 gg H16 _
  clear H
  replace H16 : strings_trimRightUnicode_l1 a1 (it (fun next1 s => strings_trimRightUnicode_l1 a1 next1 s) m1) x0_2 = some r := H16
  generalize hn1 : it (fun next1 s => strings_trimRightUnicode_l1 a1 next1 s) m1 = next1 at H16
  refine c_tidyF [(0, str x0_2), (1, str a1)] [] rfl rfl ?_
  refine c_seq ?_
  refine c_seq ?_
  refine c_region ?_
  refine l_val rfl rfl rfl (r_move (v := str x0_2) rfl) ?_
  refine l_val rfl rfl rfl (r_lenT Tryd.underlying9 rfl) ?_
  refine l_val rfl rfl rfl (r_gtr rfl rfl) ?_
  refine l_nil ?_
  refine c_if (b := (decide (0 < (x0_2.length : Int)))) rfl (fun hb => ?_) (fun hb => ?_)
  · have H17 := cnd_t hb H16; clear H16
    refine c_skip ?_
    refine c_block ?_
    refine c_seq ?_
    refine c_region ?_
    refine l_val rfl rfl rfl (r_move (v := str x0_2) rfl) ?_
    refine l_val rfl rfl rfl (r_move (v := str x0_2) rfl) ?_
    refine l_val rfl rfl rfl (r_lenT Tryd.underlying9 rfl) ?_
    obtain ⟨t13, h_t13, H18⟩ := bnd_some H17; clear H17
    refine l_val rfl rfl rfl (r_subG rfl rfl h_t13) ?_
    obtain ⟨t14, h_t14, H19⟩ := bnd_some H18; clear H18
    refine l_val rfl rfl rfl (r_octG Tryd.underlying9 rfl rfl h_t14) ?_
    obtain ⟨t15, h_t15, H20⟩ := bnd_some H19; clear H19
    refine l_val rfl rfl rfl (r_convG Tryd.runUnderlying5 Tryd.runUnderlying21 rfl (gK_i32 h_t15)) ?_
    refine l_val rfl rfl rfl (r_assign (v := .int .i32 t15) rfl) ?_
    refine l_val rfl rfl rfl (r_assign (v := .int .i64 1) rfl) ?_
    refine l_nil ?_
    refine c_meet (r := r) (σ := Int × Int) (τ := Unit) (fun s => strings_trimRightUnicode_j2 a1 x0_2 next1 s.1 s.2) (fun s t => [(0, str x0_2), (1, str a1), (5, .int .i32 s.1), (6, .int .i64 s.2)]) (fun s t => []) (fun s t => True) ?_ ?_
    · refine c_seq ?_
      refine c_region ?_
      refine l_val rfl rfl rfl (r_move (v := .int .i32 t15) rfl) ?_
      refine l_val rfl rfl rfl (r_geq rfl rfl) ?_
      refine l_nil ?_
      refine c_if (b := (decide (128 ≤ t15))) rfl (fun hb => ?_) (fun hb => ?_)
      · have H27 := cnd_t hb H20; clear H20
        refine c_region ?_
        refine l_val rfl rfl rfl (r_move (v := str x0_2) rfl) ?_
        obtain ⟨t20, h_t20, H28⟩ := bnd_some H27; clear H27
        refine l_call (k112 h_t20) Tryd.call112 rfl rfl rfl ?_
        refine l_val rfl rfl rfl (r_move (v := .tuple #[.int .i32 t20.1, .int .i64 t20.2]) rfl) ?_
        refine l_val rfl rfl rfl (r_extract (v := .int .i32 t20.1) rfl rfl) ?_
        refine l_val rfl rfl rfl (r_extract (v := .int .i64 t20.2) rfl rfl) ?_
        refine l_val rfl rfl rfl (r_assign (v := .int .i32 t20.1) rfl) ?_
        refine l_val rfl rfl rfl (r_assign (v := .int .i64 t20.2) rfl) ?_
        refine l_nil ?_
        refine c_close (t20.1, t20.2) () 0 [] (by exact ⟨rfl, rfl, rfl, rfl, trivial⟩) (by decide) rfl (by exact ⟨H28, trivial⟩) (Nat.lt_succ_self _)
      · have H29 := cnd_f hb H20; clear H20
        refine c_skip ?_
        refine c_close (t15, 1) () 0 [] (by exact ⟨rfl, rfl, rfl, rfl, trivial⟩) (by decide) rfl (by exact ⟨H29, trivial⟩) (Nat.lt_succ_self _)
    · rintro ⟨x5, x6⟩ _ gg H21 _
      replace H21 : strings_trimRightUnicode_j2 a1 x0_2 next1 x5 x6 = some r := H21
      refine c_tidyF [(0, str x0_2), (1, str a1), (5, .int .i32 x5), (6, .int .i64 x6)] [] rfl rfl ?_
      refine c_seq ?_
      refine c_seq ?_
      refine c_region ?_
      refine l_val rfl rfl rfl (r_move (v := str a1) rfl) ?_
      refine l_val rfl rfl rfl (r_move (v := .int .i32 x5) rfl) ?_
      obtain ⟨t25, h_t25, H22⟩ := bnd_some H21; clear H21
      refine l_call (k111 h_t25) Tryd.call111 rfl rfl rfl ?_
      refine l_val rfl rfl rfl (r_not rfl) ?_
      refine l_nil ?_
      refine c_if (b := (!t25)) rfl (fun hb => ?_) (fun hb => ?_)
      · have H23 := cnd_t hb H22; clear H22
        refine c_exit ?_
        refine c_seq ?_
        refine c_region ?_
        refine l_val rfl rfl rfl (r_move (v := str x0_2) rfl) ?_
        refine l_val rfl rfl rfl (r_assign (v := str x0_2) rfl) ?_
        refine l_nil ?_
        refine c_ret ?_
        obtain rfl := Option.some.inj H23
        refine ret1 (v := str x0_2) rfl rfl (fin rfl)
      · have H24 := cnd_f hb H22; clear H22
        refine c_skip ?_
        refine c_region ?_
        refine l_val rfl rfl rfl (r_move (v := str x0_2) rfl) ?_
        refine l_val rfl rfl rfl (r_move (v := str x0_2) rfl) ?_
        refine l_val rfl rfl rfl (r_lenT Tryd.underlying9 rfl) ?_
        refine l_val rfl rfl rfl (r_move (v := .int .i64 x6) rfl) ?_
        obtain ⟨t31, h_t31, H25⟩ := bnd_some H24; clear H24
        refine l_val rfl rfl rfl (r_subG rfl rfl h_t31) ?_
        obtain ⟨t32, h_t32, H26⟩ := bnd_some H25; clear H25
        refine l_val rfl rfl rfl (r_cutToG Tryd.underlying9 rfl rfl h_t32) ?_
        refine l_val rfl rfl rfl (r_assign (v := str t32) rfl) ?_
        refine l_nil ?_
        refine c_close t32 () m1 [] (by exact ⟨rfl, rfl, trivial⟩) (by decide) rfl (by exact ⟨(by subst hn1; exact H26), trivial⟩) (Nat.lt_succ_self _)
  · have H30 := cnd_f hb H16; clear H16
    refine c_exit ?_
    refine c_seq ?_
    refine c_region ?_
    refine l_val rfl rfl rfl (r_move (v := str x0_2) rfl) ?_
    refine l_val rfl rfl rfl (r_assign (v := str x0_2) rfl) ?_
    refine l_nil ?_
    refine c_ret ?_
    obtain rfl := Option.some.inj H30
    refine ret1 (v := str x0_2) rfl rfl (fin rfl)
theorem k67 {a0 : (List UInt8)} {a1 : (List UInt8)} {r : (List UInt8)} (H : strings_Trim a0 a1 = some r) : Ret Tryd.prog 67 [str a0, str a1] (str r) := by
  refine enterRet (n := 43) Tryd.func67 rfl rfl rfl (fun wd => ?_)
  refine c_seq ?_
  refine c_region ?_
  refine l_val rfl rfl rfl (r_assign (v := str []) rfl) ?_
  refine l_nil ?_
  refine c_seq ?_
  refine c_seq ?_
  refine c_region ?_
  refine l_val rfl rfl rfl (r_move (v := str a0) rfl) ?_
  refine l_val rfl rfl rfl (r_eqlT rfl rfl) ?_
  refine l_val rfl rfl rfl (r_move (v := .bool (decide (a0 = []))) rfl) ?_
  refine split (fun hb => ?_) (fun hb => ?_)
  · have H22 := cnd_t hb H; clear H
    refine l_passed rfl rfl rfl ?_
    refine l_passed rfl rfl rfl ?_
    refine l_val rfl rfl rfl (r_pickT (v := .bool true) rfl rfl) ?_
    refine l_nil ?_
    refine c_true rfl ?_
    refine c_seq ?_
    refine c_region ?_
    refine l_val rfl rfl rfl (r_move (v := str a0) rfl) ?_
    refine l_val rfl rfl rfl (r_assign (v := str a0) rfl) ?_
    refine l_nil ?_
    refine c_ret ?_
    obtain rfl := Option.some.inj H22
    refine ret1 (v := str a0) rfl rfl (fin rfl)
  · have H23 := cnd_f hb H; clear H
    refine l_val rfl rfl rfl (r_move (v := str a1) rfl) ?_
    refine l_val rfl rfl rfl (r_eqlT rfl rfl) ?_
    refine l_val rfl rfl rfl (r_pickF (v := .bool (decide (a1 = []))) rfl rfl) ?_
    refine l_nil ?_
    refine c_if (b := (decide (a1 = []))) rfl (fun hb => ?_) (fun hb => ?_)
    · have H24 := cnd_t hb H23; clear H23
      refine c_seq ?_
      refine c_region ?_
      refine l_val rfl rfl rfl (r_move (v := str a0) rfl) ?_
      refine l_val rfl rfl rfl (r_assign (v := str a0) rfl) ?_
      refine l_nil ?_
      refine c_ret ?_
      obtain rfl := Option.some.inj H24
      refine ret1 (v := str a0) rfl rfl (fin rfl)
    · have H25 := cnd_f hb H23; clear H23
      refine c_skip ?_
      refine c_meet (r := r) (σ := Unit) (τ := Unit) (fun s => strings_Trim_j1 a0 a1) (fun s t => [(0, str a0), (1, str a1)]) (fun s t => []) (fun s t => True) ?_ ?_
      · refine c_seq ?_
        refine c_region ?_
        refine l_val rfl rfl rfl (r_move (v := str a1) rfl) ?_
        refine l_val rfl rfl rfl (r_lenT Tryd.underlying9 rfl) ?_
        refine l_val rfl rfl rfl (r_eql rfl rfl) ?_
        refine l_val rfl rfl rfl (r_move (v := .bool (decide ((a1.length : Int) = 1))) rfl) ?_
        refine split (fun hb => ?_) (fun hb => ?_)
        · have H34 := cnd_t hb H25; clear H25
          refine l_val rfl rfl rfl (r_move (v := str a1) rfl) ?_
          obtain ⟨t19, h_t19, H35⟩ := bnd_some H34; clear H34
          refine l_val rfl rfl rfl (r_octG Tryd.underlying9 rfl rfl h_t19) ?_
          refine l_val rfl rfl rfl (r_lss rfl rfl) ?_
          refine l_val rfl rfl rfl (r_pickT (v := .bool (decide (t19 < 128))) rfl rfl) ?_
          refine l_nil ?_
          refine c_if (b := (decide (t19 < 128))) rfl (fun hb => ?_) (fun hb => ?_)
          · have H36 := cnd_t hb H35; clear H35
            refine c_seq ?_
            exact c_regionD (Kd.p :: Kd.p :: Kd.p :: Kd.d [] _ :: Kd.p :: Kd.p :: Kd.d [] _ :: Kd.p :: []) 0 mixed (by
              refine d_val rfl rfl (r_move (v := str a0) rfl) ?_
              refine d_val rfl rfl (r_move (v := str a1) rfl) ?_
              have h_t24 := bnd_val H36
              have H37 := bnd_rest H36
              refine d_val rfl rfl (r_octG Tryd.underlying9 rfl rfl h_t24) ?_
              have h_t25 := bnd_val H37
              have H38 := bnd_rest H37
              refine d_call (k88 h_t25) Tryd.call88 rfl rfl ?_
              refine d_val rfl rfl (r_move (v := str a1) rfl) ?_
              have h_t27 := bnd_val H38
              have H39 := bnd_rest H38
              refine d_val rfl rfl (r_octG Tryd.underlying9 rfl rfl h_t27) ?_
              have h_t28 := bnd_val H39
              have H40 := bnd_rest H39
              refine d_call (k87 h_t28) Tryd.call87 rfl rfl ?_
              refine d_val rfl rfl (r_assign (v := str (val (strings_trimLeftByte (val (strings_trimRightByte a0 (val (gOct a1 0)))) (val (gOct a1 0))))) rfl) ?_
              refine d_nil ?_
              refine c_ret ?_
              obtain rfl := Option.some.inj H40
              refine ret1 (v := str (val (strings_trimLeftByte (val (strings_trimRightByte a0 (val (gOct a1 0)))) (val (gOct a1 0))))) rfl rfl (fin rfl)
              ) (by kernel_rfl)
          · have H41 := cnd_f hb H35; clear H35
            refine c_skip ?_
            refine c_close () () 0 [] (by exact ⟨rfl, rfl, trivial⟩) (by decide) rfl (by exact ⟨H41, trivial⟩) (Nat.lt_succ_self _)
        · have H42 := cnd_f hb H25; clear H25
          refine l_passed rfl rfl rfl ?_
          refine l_passed rfl rfl rfl ?_
          refine l_passed rfl rfl rfl ?_
          refine l_val rfl rfl rfl (r_pickF (v := .bool false) rfl rfl) ?_
          refine l_nil ?_
          refine c_false rfl ?_
          refine c_skip ?_
          refine c_close () () 0 [] (by exact ⟨rfl, rfl, trivial⟩) (by decide) rfl (by exact ⟨H42, trivial⟩) (Nat.lt_succ_self _)
      · rintro _ _ gg H26 _
        replace H26 : strings_Trim_j1 a0 a1 = some r := H26
        refine c_tidyF [(0, str a0), (1, str a1)] [] rfl rfl ?_
        refine c_seq ?_
        refine c_seq ?_
        refine c_region ?_
        refine l_val rfl rfl rfl (r_move (v := str a1) rfl) ?_
        obtain ⟨t31, h_t31, H27⟩ := bnd_some H26; clear H26
        refine l_call (k89 h_t31) Tryd.call89 rfl rfl rfl ?_
        refine l_val rfl rfl rfl (r_move (v := .tuple #[.agg (List.toArray (arrC 256 (fun j_ => [.bool (t31.1 j_)]))), .bool t31.2]) rfl) ?_
        refine l_val rfl rfl rfl (r_extract (v := .agg (List.toArray (arrC 256 (fun j_ => [.bool (t31.1 j_)])))) rfl rfl) ?_
        refine l_val rfl rfl rfl (r_extract (v := .bool t31.2) rfl rfl) ?_
        refine l_alloc (cs := (arrC 256 (fun j_ => [.bool ((fun _ => false) j_)]))) Tryd.zeroValue133 (by kernel_rfl) rfl rfl (fun b1 => ?_)
        refine l_store (i := 0) (vs := (arrC 256 (fun j_ => [.bool (t31.1 j_)]))) (cs' := (arrC 256 (fun j_ => [.bool (t31.1 j_)]))) Tryd.sizeOf133 rfl rfl rfl rfl (arrC_len (fun _ => rfl)) rfl (arrC_one (fun _ => rfl)) rfl (wr_whole ((arrC_len (fun _ => rfl)).trans (arrC_len (fun _ => rfl)).symm)) ?_
        refine l_val rfl rfl rfl (r_assign (v := .bool t31.2) rfl) ?_
        refine l_nil ?_
        refine c_seq ?_
        refine c_region ?_
        refine l_val rfl rfl rfl (r_move (v := .bool t31.2) rfl) ?_
        refine l_nil ?_
        refine c_if (b := t31.2) rfl (fun hb => ?_) (fun hb => ?_)
        · have H28 := cnd_t hb H27; clear H27
          refine c_seq ?_
          refine c_region ?_
          refine l_val rfl rfl rfl (r_move (v := str a0) rfl) ?_
          obtain ⟨t36, h_t36, H29⟩ := bnd_some H28; clear H28
          refine l_turn (turns_callB (i := 0) (rds := []) (G := fun x : Unit => str t36.1) (C := fun x : Unit => cellsC b1 (arrC 256 (fun j_ => [.bool (t36.2 j_)])) 133) rfl (fun w L' S hF hS hi hp hlt ho hA => k91 hp hlt (know_but w S)  h_t36) Tryd.call91 rfl) rfl rfl rfl (fun _ => ?_)
          obtain ⟨t37, h_t37, H30⟩ := bnd_some H29; clear H29
          refine l_turn (turns_callB (i := 0) (rds := []) (G := fun x : Unit => str t37.1) (C := fun x : Unit => cellsC b1 (arrC 256 (fun j_ => [.bool (t37.2 j_)])) 133) rfl (fun w L' S hF hS hi hp hlt ho hA => k90 hp hlt (know_but w S)  h_t37) Tryd.call90 rfl) rfl rfl rfl (fun _ => ?_)
          refine l_val rfl rfl rfl (r_assign (v := str t37.1) rfl) ?_
          refine l_nil ?_
          refine c_ret ?_
          obtain rfl := Option.some.inj H30
          refine ret1 (v := str t37.1) rfl rfl (fin rfl)
        · have H31 := cnd_f hb H27; clear H27
          refine c_skip ?_
          refine c_seq ?_
          refine c_region ?_
          refine l_val rfl rfl rfl (r_move (v := str a0) rfl) ?_
          refine l_val rfl rfl rfl (r_move (v := str a1) rfl) ?_
          obtain ⟨t40, h_t40, H32⟩ := bnd_some H31; clear H31
          refine l_call (k93 h_t40) Tryd.call93 rfl rfl rfl ?_
          refine l_val rfl rfl rfl (r_move (v := str a1) rfl) ?_
          obtain ⟨t42, h_t42, H33⟩ := bnd_some H32; clear H32
          refine l_call (k92 h_t42) Tryd.call92 rfl rfl rfl ?_
          refine l_val rfl rfl rfl (r_assign (v := str t42) rfl) ?_
          refine l_nil ?_
          refine c_ret ?_
          obtain rfl := Option.some.inj H33
          refine ret1 (v := str t42) rfl rfl (fin rfl)
theorem k120 {a0 : (List UInt8)} {a1 : (List UInt8)} {r : Bool} (H : internal_stringslite_HasPrefix a0 a1 = some r) : Ret Tryd.prog 120 [str a0, str a1] (.bool r) := by
  refine enterRet (n := 18) Tryd.func120 rfl rfl rfl (fun wd => ?_)
  refine c_seq ?_
  refine c_region ?_
  refine l_val rfl rfl rfl (r_assign (v := .bool false) rfl) ?_
  refine l_nil ?_
  refine c_seq ?_
  refine c_region ?_
  refine l_val rfl rfl rfl (r_move (v := str a0) rfl) ?_
  refine l_val rfl rfl rfl (r_lenT Tryd.underlying9 rfl) ?_
  refine l_val rfl rfl rfl (r_move (v := str a1) rfl) ?_
  refine l_val rfl rfl rfl (r_lenT Tryd.underlying9 rfl) ?_
  refine l_val rfl rfl rfl (r_geq rfl rfl) ?_
  refine l_val rfl rfl rfl (r_move (v := .bool (decide ((a1.length : Int) ≤ (a0.length : Int)))) rfl) ?_
  refine split (fun hb => ?_) (fun hb => ?_)
  · have H4 := cnd_t hb H; clear H
    refine l_val rfl rfl rfl (r_move (v := str a0) rfl) ?_
    refine l_val rfl rfl rfl (r_move (v := str a1) rfl) ?_
    refine l_val rfl rfl rfl (r_lenT Tryd.underlying9 rfl) ?_
    obtain ⟨t14, h_t14, H5⟩ := bnd_some H4; clear H4
    refine l_val rfl rfl rfl (r_cutToG Tryd.underlying9 rfl rfl h_t14) ?_
    refine l_val rfl rfl rfl (r_move (v := str a1) rfl) ?_
    refine l_val rfl rfl rfl (r_eqlT rfl rfl) ?_
    refine l_val rfl rfl rfl (r_pickT (v := .bool (decide (t14 = a1))) rfl rfl) ?_
    refine l_val rfl rfl rfl (r_assign (v := .bool (decide (t14 = a1))) rfl) ?_
    refine l_nil ?_
    refine c_ret ?_
    obtain rfl := Option.some.inj H5
    refine ret1 (v := .bool (decide (t14 = a1))) rfl rfl (fin rfl)
  · have H6 := cnd_f hb H; clear H
    refine l_passed rfl rfl rfl ?_
    refine l_passed rfl rfl rfl ?_
    refine l_passed rfl rfl rfl ?_
    refine l_passed rfl rfl rfl ?_
    refine l_passed rfl rfl rfl ?_
    refine l_passed rfl rfl rfl ?_
    refine l_val rfl rfl rfl (r_pickF (v := .bool false) rfl rfl) ?_
    refine l_val rfl rfl rfl (r_assign (v := .bool false) rfl) ?_
    refine l_nil ?_
    refine c_ret ?_
    obtain rfl := Option.some.inj H6
    refine ret1 (v := .bool false) rfl rfl (fin rfl)
theorem k100 {a0 : (List UInt8)} {a1 : (List UInt8)} {r : (List UInt8)} (H : internal_stringslite_TrimPrefix a0 a1 = some r) : Ret Tryd.prog 100 [str a0, str a1] (str r) := by
  refine enterRet (n := 13) Tryd.func100 rfl rfl rfl (fun wd => ?_)
  refine c_seq ?_
  refine c_region ?_
  refine l_val rfl rfl rfl (r_assign (v := str []) rfl) ?_
  refine l_nil ?_
  refine c_seq ?_
  refine c_seq ?_
  refine c_region ?_
  refine l_val rfl rfl rfl (r_move (v := str a0) rfl) ?_
  refine l_val rfl rfl rfl (r_move (v := str a1) rfl) ?_
  obtain ⟨t7, h_t7, H5⟩ := bnd_some H; clear H
  refine l_call (k120 h_t7) Tryd.call120 rfl rfl rfl ?_
  refine l_nil ?_
  refine c_if (b := t7) rfl (fun hb => ?_) (fun hb => ?_)
  · have H6 := cnd_t hb H5; clear H5
    refine c_seq ?_
    refine c_region ?_
    refine l_val rfl rfl rfl (r_move (v := str a0) rfl) ?_
    refine l_val rfl rfl rfl (r_move (v := str a1) rfl) ?_
    refine l_val rfl rfl rfl (r_lenT Tryd.underlying9 rfl) ?_
    obtain ⟨t11, h_t11, H7⟩ := bnd_some H6; clear H6
    refine l_val rfl rfl rfl (r_cutFromG Tryd.underlying9 rfl rfl h_t11) ?_
    refine l_val rfl rfl rfl (r_assign (v := str t11) rfl) ?_
    refine l_nil ?_
    refine c_ret ?_
    obtain rfl := Option.some.inj H7
    refine ret1 (v := str t11) rfl rfl (fin rfl)
  · have H8 := cnd_f hb H5; clear H5
    refine c_skip ?_
    refine c_seq ?_
    refine c_region ?_
    refine l_val rfl rfl rfl (r_move (v := str a0) rfl) ?_
    refine l_val rfl rfl rfl (r_assign (v := str a0) rfl) ?_
    refine l_nil ?_
    refine c_ret ?_
    obtain rfl := Option.some.inj H8
    refine ret1 (v := str a0) rfl rfl (fin rfl)
theorem k77 {a0 : (List UInt8)} {a1 : (List UInt8)} {r : (List UInt8)} (H : strings_TrimPrefix a0 a1 = some r) : Ret Tryd.prog 77 [str a0, str a1] (str r) := by
  refine enterRet (n := 8) Tryd.func77 rfl rfl rfl (fun wd => ?_)
  refine c_seq ?_
  refine c_region ?_
  refine l_val rfl rfl rfl (r_assign (v := str []) rfl) ?_
  refine l_nil ?_
  refine c_seq ?_
  refine c_region ?_
  refine l_val rfl rfl rfl (r_move (v := str a0) rfl) ?_
  refine l_val rfl rfl rfl (r_move (v := str a1) rfl) ?_
  obtain ⟨t7, h_t7, H2⟩ := bnd_some H; clear H
  refine l_call (k100 h_t7) Tryd.call100 rfl rfl rfl ?_
  refine l_val rfl rfl rfl (r_assign (v := str t7) rfl) ?_
  refine l_nil ?_
  refine c_ret ?_
  obtain rfl := Option.some.inj H2
  refine ret1 (v := str t7) rfl rfl (fin rfl)
end Go.Proofs.YtaonhnkojkkmbaaDoor
