/- WherePacksBack: the walks, printed by our generator; each follows its model. Conditions: the model yields a value. -/
import Derived.Test.YtfgehlmdcllclaaDoorKAw
namespace Go.Proofs.YtfgehlmdcllclaaDoor
open Go Go.Vc Go.Md Go.M Go.Lx
set_option maxRecDepth 100000
set_option maxHeartbeats 4000000
set_option linter.unusedVariables false

theorem k31 {a0 : (List Int)} {p0 : Option Addr × Nat} {n0 : Nat} {a1 : Int} {r : (List Int)} {w : World} {h : Heap} {S : Nat → Prop} (hcs : (rowV 5 1 (.slice p0.1 n0 p0.2) n0 (a0.map e_u8)).P S w) (hlt : ∀ b, S b → b < w.heap.size) (hw : Know h w S) (hn0 : n0 = a0.length) (H : where_packed a0 a1 = some r) : Does Tryd.prog 31 (List.toArray [.slice p0.1 n0 p0.2, .int .i64 a1]) w (fun v w' => ∃ x : (Option Addr × Nat), v = (.slice x.1 r.length x.2) ∧ Turn w w' S (rowV 5 1 (.slice x.1 r.length x.2) r.length (r.map e_u8))) := by
  refine enter (n := 30) Tryd.func31 rfl rfl rfl S [rowV 5 1 (.slice p0.1 n0 p0.2) n0 (a0.map e_u8)] (Sat.one hcs hlt) ?_
  refine c_seq ?_
  refine c_region ?_
  refine l_val rfl rfl rfl (r_assign (v := .slice none 0 0) rfl) ?_
  refine l_nil ?_
  refine c_seq ?_
  refine c_region ?_
  refine l_val rfl rfl rfl (r_move (v := .int .i64 a1) rfl) ?_
  obtain ⟨t7, h_t7, H17⟩ := bnd_some H; clear H
  refine l_val rfl rfl rfl (r_mulG rfl rfl h_t7) ?_
  refine l_val rfl rfl rfl (r_assign (v := .int .i64 t7) rfl) ?_
  refine l_nil ?_
  refine c_meet (r := r) (σ := Int) (τ := Unit) (fun s => where_packed_j1 a0 s) (fun s t => [(0, .slice p0.1 n0 p0.2), (5, .int .i64 s)]) (fun s t => [rowV 5 1 (.slice p0.1 n0 p0.2) n0 (a0.map e_u8)]) (fun s t => True) ?_ ?_
  · refine c_seq ?_
    refine c_region ?_
    refine l_val rfl rfl rfl (r_move (v := .int .i64 a1) rfl) ?_
    refine l_val rfl rfl rfl (r_lss rfl rfl) ?_
    refine l_nil ?_
    refine c_if (b := (decide (a1 < 0))) rfl (fun hb => ?_) (fun hb => ?_)
    · have H29 := cnd_t hb H17; clear H17
      refine c_region ?_
      refine l_val rfl rfl rfl (r_move (v := .int .i64 a1) rfl) ?_
      obtain ⟨t11, h_t11, H30⟩ := bnd_some H29; clear H29
      refine l_val rfl rfl rfl (r_mulG rfl rfl h_t11) ?_
      obtain ⟨t12, h_t12, H31⟩ := bnd_some H30; clear H30
      refine l_val rfl rfl rfl (r_subG rfl rfl h_t12) ?_
      refine l_val rfl rfl rfl (r_assign (v := .int .i64 t12) rfl) ?_
      refine l_nil ?_
      refine c_close t12 () 0 [0] (by exact ⟨rfl, rfl, trivial⟩) (by decide) rfl (by exact ⟨H31, trivial⟩) (Nat.lt_succ_self _)
    · have H32 := cnd_f hb H17; clear H17
      refine c_skip ?_
      refine c_close t7 () 0 [0] (by exact ⟨rfl, rfl, trivial⟩) (by decide) rfl (by exact ⟨H32, trivial⟩) (Nat.lt_succ_self _)
  · rintro x5 _ gg H18 _
    replace H18 : where_packed_j1 a0 x5 = some r := H18
    refine c_tidyF [(0, .slice p0.1 n0 p0.2), (5, .int .i64 x5)] [rowV 5 1 (.slice p0.1 n0 p0.2) n0 (a0.map e_u8)] rfl rfl ?_
    refine c_meet (r := r) (σ := Int × (List Int)) (τ := (Option Addr × Nat) × Nat) (fun s => where_packed_j2 s.1 s.2) (fun s t => [(0, .slice t.1.1 t.2 t.1.2), (5, .int .i64 s.1)]) (fun s t => [rowV 5 1 (.slice t.1.1 t.2 t.1.2) t.2 (s.2.map e_u8)]) (fun s t => t.2 = s.2.length) ?_ ?_
    · refine c_block ?_
      refine c_fix (σ := Int × (List Int)) (τ := (Option Addr × Nat) × Nat) (fun next3 s => where_packed_l3 next3 s.1 s.2) (fun s t => [(0, .slice t.1.1 t.2 t.1.2), (5, .int .i64 s.1)]) (fun s t => [rowV 5 1 (.slice t.1.1 t.2 t.1.2) t.2 (s.2.map e_u8)]) (fun s t => t.2 = s.2.length) (x5, a0) (p0, n0) [0] H18 (by exact hn0) (by exact ⟨rfl, rfl, trivial⟩) (by decide) rfl ?_
      rintro ⟨x5_4, l_3⟩ ⟨p_3, n_2⟩ m3 gg H22 hl_3
      clear H18
      replace H22 : where_packed_l3 (it (fun next3 s => where_packed_l3 next3 s.1 s.2) m3) x5_4 l_3 = some r := H22
      generalize hn3 : it (fun next3 s => where_packed_l3 next3 s.1 s.2) m3 = next3 at H22
      refine c_tidyF [(0, .slice p_3.1 n_2 p_3.2), (5, .int .i64 x5_4)] [rowV 5 1 (.slice p_3.1 n_2 p_3.2) n_2 (l_3.map e_u8)] rfl rfl ?_
      refine c_seq ?_
      refine c_seq ?_
      refine c_region ?_
      refine l_val rfl rfl rfl (r_move (v := .int .i64 x5_4) rfl) ?_
      refine l_val rfl rfl rfl (r_geq rfl rfl) ?_
      refine l_nil ?_
      refine c_if (b := (decide (32 ≤ x5_4))) rfl (fun hb => ?_) (fun hb => ?_)
      · have H23 := cnd_t hb H22; clear H22
        refine c_skip ?_
        refine c_seq ?_
        refine c_block ?_
        refine c_region ?_
        refine l_val rfl rfl rfl (r_move (v := .slice p_3.1 n_2 p_3.2) rfl) ?_
        refine l_val rfl rfl rfl (r_move (v := .int .i64 x5_4) rfl) ?_
        obtain ⟨t19, h_t19, H24⟩ := bnd_some H23; clear H23
        refine l_val rfl rfl rfl (r_remG rfl rfl h_t19) ?_
        obtain ⟨t20, h_t20, H25⟩ := bnd_some H24; clear H24
        refine l_val rfl rfl rfl (r_addG rfl rfl h_t20) ?_
        refine l_val rfl rfl rfl (r_convG Tryd.runUnderlying3 Tryd.runUnderlying5 rfl (wr_u8 _)) ?_
        refine l_buildSlice (vs := [.int .u8 (wU8 t20)]) (cs := [.int .u8 (wU8 t20)]) Tryd.underlying63 Tryd.sizeOf5 Tryd.zeroValue5 rfl rfl rfl rfl rfl rfl rfl (fun b3 => ?_)
        obtain ⟨l23, h_l23, H26⟩ := bnd_some H25; clear H25
        refine l_turn (turns_appG (i := 0) (hn := hl_3) (rds := [1]) (p := p_3) (sz := 1) (by_ := 1) (f := e_u8) (ys := l_3) (ls := ([(wU8 t20)] : List Int)) (V := .slice (some ⟨b3, 0, none⟩) 1 1) Tryd.underlying63 (info_of Tryd.typeInfo5) rfl rfl rfl rfl rfl rfl rfl rfl rfl rfl (fun w L' hF hS hi => row_box (i := 1) hS ((hi 1 (by simp)).trans rfl) rfl rfl) (fun _ => rfl) (fun _ => rfl) h_l23) rfl rfl rfl (fun p_4 => ?_)
        refine l_val rfl rfl rfl (r_assign (v := .slice p_4.1 l23.length p_4.2) rfl) ?_
        refine l_nil ?_
        refine c_region ?_
        refine l_val rfl rfl rfl (r_move (v := .int .i64 x5_4) rfl) ?_
        obtain ⟨t16, h_t16, H27⟩ := bnd_some H26; clear H26
        refine l_val rfl rfl rfl (r_quoG rfl rfl h_t16) ?_
        refine l_val rfl rfl rfl (r_assign (v := .int .i64 t16) rfl) ?_
        refine l_nil ?_
        refine c_close (t16, l23) (p_4, l23.length) m3 [0] (by exact ⟨rfl, rfl, trivial⟩) (by decide) rfl (by exact ⟨(by subst hn3; exact H27), rfl⟩) (Nat.lt_succ_self _)
      · have H28 := cnd_f hb H22; clear H22
        refine c_exit ?_
        refine c_close (x5_4, l_3) (p_3, n_2) 0 [0] (by exact ⟨rfl, rfl, trivial⟩) (by decide) rfl (by exact ⟨H28, hl_3⟩) (Nat.lt_succ_self _)
    · rintro ⟨x5_2, l⟩ ⟨p, n⟩ gg H19 hl
      replace H19 : where_packed_j2 x5_2 l = some r := H19
      refine c_tidyF [(0, .slice p.1 n p.2), (5, .int .i64 x5_2)] [rowV 5 1 (.slice p.1 n p.2) n (l.map e_u8)] rfl rfl ?_
      refine c_seq ?_
      refine c_region ?_
      refine l_val rfl rfl rfl (r_move (v := .slice p.1 n p.2) rfl) ?_
      refine l_val rfl rfl rfl (r_move (v := .int .i64 x5_2) rfl) ?_
      obtain ⟨t26, h_t26, H20⟩ := bnd_some H19; clear H19
      refine l_val rfl rfl rfl (r_addG rfl rfl h_t26) ?_
      refine l_val rfl rfl rfl (r_convG Tryd.runUnderlying3 Tryd.runUnderlying5 rfl (wr_u8 _)) ?_
      refine l_buildSlice (vs := [.int .u8 (wU8 t26)]) (cs := [.int .u8 (wU8 t26)]) Tryd.underlying63 Tryd.sizeOf5 Tryd.zeroValue5 rfl rfl rfl rfl rfl rfl rfl (fun b2 => ?_)
      obtain ⟨l29, h_l29, H21⟩ := bnd_some H20; clear H20
      refine l_turn (turns_appG (i := 0) (hn := hl) (rds := [1]) (p := p) (sz := 1) (by_ := 1) (f := e_u8) (ys := l) (ls := ([(wU8 t26)] : List Int)) (V := .slice (some ⟨b2, 0, none⟩) 1 1) Tryd.underlying63 (info_of Tryd.typeInfo5) rfl rfl rfl rfl rfl rfl rfl rfl rfl rfl (fun w L' hF hS hi => row_box (i := 1) hS ((hi 1 (by simp)).trans rfl) rfl rfl) (fun _ => rfl) (fun _ => rfl) h_l29) rfl rfl rfl (fun p_2 => ?_)
      refine l_val rfl rfl rfl (r_assign (v := .slice p_2.1 l29.length p_2.2) rfl) ?_
      refine l_nil ?_
      refine c_ret ?_
      obtain rfl := Option.some.inj H21
      refine ret1 (v := .slice p_2.1 l29.length p_2.2) rfl rfl (finX p_2 (i := 0) rfl rfl (Imp.refl _))
theorem k7 {a0 : (List T_api_Place)} {v0 : Value} {r : (List UInt8) × Int} {w : World} {h : Heap} (hw : Know h w noS) (f0 : FrS h 2 v0 (a0.map e_api_Place)) (H : where_Pack a0 = some r) : Does Tryd.prog 7 (List.toArray [v0]) w (fun v w' => v = (.tuple #[str r.1, .int .i64 r.2]) ∧ Grow w w') := by
  refine enter (n := 38) Tryd.func7 rfl rfl rfl noS [] (Sat.nil _ _) ?_
  refine c_seq ?_
  refine c_region ?_
  refine l_val rfl rfl rfl (r_assign (v := str []) rfl) ?_
  refine l_val rfl rfl rfl (r_assign (v := .int .i64 0) rfl) ?_
  refine l_nil ?_
  refine c_seq ?_
  refine c_seq ?_
  refine c_region ?_
  refine l_val rfl rfl rfl (r_move (v := v0) rfl) ?_
  obtain ⟨t10, h_t10, H14⟩ := bnd_some H; clear H
  refine l_callG (fun w hF hS => k30 (know_all w) (f0.mono (hw.now hF)) h_t10) Tryd.call30 rfl rfl rfl ?_
  refine l_val rfl rfl rfl (r_assign (v := .int .i64 t10) rfl) ?_
  refine l_nil ?_
  refine c_seq ?_
  refine c_region ?_
  refine l_val rfl rfl rfl (r_move (v := .int .i64 t10) rfl) ?_
  refine l_val rfl rfl rfl (r_neq rfl rfl) ?_
  refine l_nil ?_
  refine c_if (b := (decide (t10 ≠ 0))) rfl (fun hb => ?_) (fun hb => ?_)
  · have H15 := cnd_t hb H14; clear H14
    refine c_seq ?_
    refine c_region ?_
    refine l_val rfl rfl rfl (r_move (v := .int .i64 t10) rfl) ?_
    refine l_val rfl rfl rfl (r_assign (v := str []) rfl) ?_
    refine l_val rfl rfl rfl (r_assign (v := .int .i64 t10) rfl) ?_
    refine l_nil ?_
    refine c_ret ?_
    obtain rfl := Option.some.inj H15
    refine ret2 (v1 := str []) (v2 := .int .i64 t10) rfl rfl rfl (fin rfl)
  · have H16 := cnd_f hb H14; clear H14
    refine c_skip ?_
    refine c_seq ?_
    refine c_region ?_
    refine l_val rfl rfl rfl (r_assign (v := .slice none 0 0) rfl) ?_
    refine l_nil ?_
    refine c_seq ?_
    refine c_region ?_
    refine l_val rfl rfl rfl (r_build (pl := #[(0, 1), (1, 1)]) (ps := []) (cells := #[.int .i64 0, .int .i64 0]) Tryd.zeroValue34 Tryd.runUnderlying34 (fun w => by kernel_rfl) rfl rfl) ?_
    refine l_alloc (cs := [.int .i64 0, .int .i64 0]) Tryd.zeroValue34 rfl rfl rfl (fun b2 => ?_)
    refine l_store (i := 0) (vs := [.int .i64 0, .int .i64 0]) (cs' := [.int .i64 0, .int .i64 0]) Tryd.sizeOf34 rfl rfl rfl rfl rfl rfl rfl rfl rfl ?_
    refine l_nil ?_
    refine c_meet (r := r) (σ := (List Int)) (τ := (Option Addr × Nat)) (fun s => where_Pack_j1 s) (fun s t => [(5, .slice t.1 s.length t.2)]) (fun s t => [rowV 5 1 (.slice t.1 s.length t.2) s.length (s.map e_u8)]) (fun s t => True) ?_ ?_
    · refine c_seq ?_
      refine c_region ?_
      refine l_val rfl rfl rfl (r_move (v := v0) rfl) ?_
      refine l_val rfl rfl rfl (r_lenF Tryd.underlying22 rfl f0 rfl) ?_
      refine l_val rfl rfl rfl (r_move (v := .int .i64 0) rfl) ?_
      refine l_nil ?_
      refine c_block ?_
      refine c_nilRow 5 1 ?_
      refine c_fix (σ := Int × Int × Int × (List Int)) (τ := (Option Addr × Nat)) (fun next2 s => where_Pack_l2 a0 next2 s.1 s.2.1 s.2.2.1 s.2.2.2) (fun s t => [(5, .slice t.1 s.2.2.2.length t.2), (6, .pointer (some ⟨b2, 0, none⟩)), (15, v0), (16, .int .i64 (a0.length : Int)), (17, .int .i64 s.1)]) (fun s t => [cellsC b2 [.int .i64 s.2.1, .int .i64 s.2.2.1] 34, rowV 5 1 (.slice t.1 s.2.2.2.length t.2) s.2.2.2.length (s.2.2.2.map e_u8)]) (fun s t => True) (0, 0, 0, ([] : List Int)) ((none, 0) : Option Addr × Nat) [0, 1] H16 (by exact trivial) (by exact ⟨rfl, rfl, rfl, rfl, rfl, trivial⟩) (by decide) rfl ?_
      rintro ⟨x17_2, m_3, m_4, l_3⟩ p_2 m2 gg H18 _
      clear H16
      replace H18 : where_Pack_l2 a0 (it (fun next2 s => where_Pack_l2 a0 next2 s.1 s.2.1 s.2.2.1 s.2.2.2) m2) x17_2 m_3 m_4 l_3 = some r := H18
      generalize hn2 : it (fun next2 s => where_Pack_l2 a0 next2 s.1 s.2.1 s.2.2.1 s.2.2.2) m2 = next2 at H18
      refine c_tidyF [(5, .slice p_2.1 l_3.length p_2.2), (6, .pointer (some ⟨b2, 0, none⟩)), (15, v0), (16, .int .i64 (a0.length : Int)), (17, .int .i64 x17_2)] [cellsC b2 [.int .i64 m_3, .int .i64 m_4] 34, rowV 5 1 (.slice p_2.1 l_3.length p_2.2) l_3.length (l_3.map e_u8)] rfl rfl ?_
      refine c_seq ?_
      refine c_region ?_
      refine l_val rfl rfl rfl (r_lss rfl rfl) ?_
      refine l_nil ?_
      refine c_seq ?_
      refine c_if (b := (decide (x17_2 < (a0.length : Int)))) rfl (fun hb => ?_) (fun hb => ?_)
      · have H19 := cnd_t hb H18; clear H18
        refine c_skip ?_
        refine c_seq ?_
        refine c_block ?_
        refine c_seq ?_
        refine c_region ?_
        obtain ⟨t19, h_t19, H20⟩ := bnd_some H19; clear H19
        refine l_val rfl rfl rfl (r_indexF Tryd.underlying22 Tryd.sizeOf34 rfl rfl f0 h_t19) ?_
        refine l_read (fun w hF hS => run_loadGN (j := 0) (vs := [.int .i64 t19.Lat, .int .i64 t19.Lon]) Tryd.isAgg34 Tryd.sizeOf34 rfl rfl (f0.row (hw.now hF)) h_t19 rfl) rfl rfl rfl ?_
        refine l_alloc (cs := [.int .i64 0, .int .i64 0]) Tryd.zeroValue34 rfl rfl rfl (fun b3 => ?_)
        refine l_store (i := 2) (vs := [.int .i64 t19.Lat, .int .i64 t19.Lon]) (cs' := [.int .i64 t19.Lat, .int .i64 t19.Lon]) Tryd.sizeOf34 rfl rfl rfl rfl rfl rfl rfl rfl rfl ?_
        refine l_nil ?_
        refine c_seq ?_
        exact c_regionD (Kd.p :: Kd.p :: Kd.d [2] _ :: Kd.p :: Kd.d [0] _ :: Kd.p :: Kd.t 1 [] _ _ :: Kd.p :: Kd.d [2] _ :: Kd.p :: Kd.d [0] _ :: Kd.p :: Kd.t 1 [] _ _ :: Kd.p :: []) 0 mixed (by
          refine d_val rfl rfl (r_move (v := .slice p_2.1 l_3.length p_2.2) rfl) ?_
          refine d_val rfl rfl (r_field Tryd.runUnderlying34 rfl Tryd.sizeOf3 rfl rfl) ?_
          refine d_load1 (i := 2) (v := .int .i64 t19.Lat) Tryd.isAgg3 rfl rfl rfl rfl ?_
          refine d_val rfl rfl (r_field Tryd.runUnderlying34 rfl Tryd.sizeOf3 rfl rfl) ?_
          refine d_load1 (i := 0) (v := .int .i64 m_3) Tryd.isAgg3 rfl rfl rfl rfl ?_
          have h_t26 := bnd_val H20
          have H21 := bnd_rest H20
          refine d_val rfl rfl (r_subG rfl rfl h_t26) ?_
          have h_t27 := bnd_val H21
          have H22 := bnd_rest H21
          refine d_turn (Cv := fun v => rowV 5 1 v (val (where_packed l_3 (val (gI (t19.Lat - m_3))))).length ((val (where_packed l_3 (val (gI (t19.Lat - m_3))))).map e_u8)) (none, 0) (turns_callB (i := 1) (rds := _) (G := fun x : (Option Addr × Nat) => .slice x.1 (val (where_packed l_3 (val (gI (t19.Lat - m_3))))).length x.2) (C := fun x : (Option Addr × Nat) => rowV 5 1 (.slice x.1 (val (where_packed l_3 (val (gI (t19.Lat - m_3))))).length x.2) (val (where_packed l_3 (val (gI (t19.Lat - m_3))))).length ((val (where_packed l_3 (val (gI (t19.Lat - m_3))))).map e_u8)) rfl (fun w L' S hF hS hi hp hlt ho hA => k31 hp hlt (know_but w S) rfl h_t27) Tryd.call31 rfl) (fun _ => rfl) rfl rfl (fun p_3 => ?_)
          refine d_val rfl rfl (r_field Tryd.runUnderlying34 rfl Tryd.sizeOf3 rfl rfl) ?_
          refine d_load1 (i := 2) (v := .int .i64 t19.Lon) Tryd.isAgg3 rfl rfl rfl rfl ?_
          refine d_val rfl rfl (r_field Tryd.runUnderlying34 rfl Tryd.sizeOf3 rfl rfl) ?_
          refine d_load1 (i := 0) (v := .int .i64 m_4) Tryd.isAgg3 rfl rfl rfl rfl ?_
          have h_t32 := bnd_val H22
          have H23 := bnd_rest H22
          refine d_val rfl rfl (r_subG rfl rfl h_t32) ?_
          have h_t33 := bnd_val H23
          have H24 := bnd_rest H23
          refine d_turn (Cv := fun v => rowV 5 1 v (val (where_packed (val (where_packed l_3 (val (gI (t19.Lat - m_3))))) (val (gI (t19.Lon - m_4))))).length ((val (where_packed (val (where_packed l_3 (val (gI (t19.Lat - m_3))))) (val (gI (t19.Lon - m_4))))).map e_u8)) (none, 0) (turns_callB (i := 1) (rds := _) (G := fun x : (Option Addr × Nat) => .slice x.1 (val (where_packed (val (where_packed l_3 (val (gI (t19.Lat - m_3))))) (val (gI (t19.Lon - m_4))))).length x.2) (C := fun x : (Option Addr × Nat) => rowV 5 1 (.slice x.1 (val (where_packed (val (where_packed l_3 (val (gI (t19.Lat - m_3))))) (val (gI (t19.Lon - m_4))))).length x.2) (val (where_packed (val (where_packed l_3 (val (gI (t19.Lat - m_3))))) (val (gI (t19.Lon - m_4))))).length ((val (where_packed (val (where_packed l_3 (val (gI (t19.Lat - m_3))))) (val (gI (t19.Lon - m_4))))).map e_u8)) rfl (fun w L' S hF hS hi hp hlt ho hA => k31 hp hlt (know_but w S) rfl h_t33) Tryd.call31 rfl) (fun _ => rfl) rfl rfl (fun p_4 => ?_)
          refine d_val rfl rfl (r_assign (v := .slice p_4.1 (val (where_packed (val (where_packed l_3 (val (gI (t19.Lat - m_3))))) (val (gI (t19.Lon - m_4))))).length p_4.2) rfl) ?_
          refine d_nil ?_
          refine c_region ?_
          refine l_loadN (i := 2) (vs := [.int .i64 t19.Lat, .int .i64 t19.Lon]) Tryd.isAgg34 Tryd.sizeOf34 rfl rfl rfl rfl rfl ?_
          refine l_store (i := 0) (vs := [.int .i64 t19.Lat, .int .i64 t19.Lon]) (cs' := [.int .i64 t19.Lat, .int .i64 t19.Lon]) Tryd.sizeOf34 rfl rfl rfl rfl rfl rfl rfl rfl rfl ?_
          refine l_nil ?_
          refine c_region ?_
          obtain ⟨t35, h_t35, H25⟩ := bnd_some H24; clear H24
          refine l_val rfl rfl rfl (r_addG rfl rfl h_t35) ?_
          refine l_val rfl rfl rfl (r_move (v := .int .i64 t35) rfl) ?_
          refine l_nil ?_
          refine c_close (t35, t19.Lat, t19.Lon, (val (where_packed (val (where_packed l_3 (val (gI (t19.Lat - m_3))))) (val (gI (t19.Lon - m_4)))))) p_4 m2 [0, 1] (by exact ⟨rfl, rfl, rfl, rfl, rfl, trivial⟩) (by decide) rfl (by exact ⟨(by subst hn2; exact H25), trivial⟩) (Nat.lt_succ_self _)
          ) (by kernel_rfl)
      · have H26 := cnd_f hb H18; clear H18
        refine c_exit ?_
        refine c_close l_3 p_2 0 [1] (by exact ⟨rfl, trivial⟩) (by decide) rfl (by exact ⟨H26, trivial⟩) (Nat.lt_succ_self _)
    · rintro l p gg H17 _
      replace H17 : where_Pack_j1 l = some r := H17
      refine c_tidyF [(5, .slice p.1 l.length p.2)] [rowV 5 1 (.slice p.1 l.length p.2) l.length (l.map e_u8)] rfl rfl ?_
      refine c_seq ?_
      refine c_region ?_
      refine l_val rfl rfl rfl (r_move (v := .slice p.1 l.length p.2) rfl) ?_
      refine l_read (fun w hF hS => run_bytes (f := e_u8) (xs := l) rfl Tryd.underlying63 Tryd.underlying5 Tryd.underlying9 rfl (fun _ => rfl) (rowOf (i := 0) hS rfl)) rfl rfl rfl ?_
      refine l_val rfl rfl rfl (r_assign (v := str (toStr l)) rfl) ?_
      refine l_val rfl rfl rfl (r_assign (v := .int .i64 0) rfl) ?_
      refine l_nil ?_
      refine c_ret ?_
      obtain rfl := Option.some.inj H17
      refine ret2 (v1 := str (toStr l)) (v2 := .int .i64 0) rfl rfl rfl (fin rfl)
theorem k35 {a0 : (List UInt8)} {r : Int × (List UInt8) × Bool} (H : where_unpack a0 = some r) : Ret Tryd.prog 35 [str a0] (.tuple #[.int .i64 r.1, str r.2.1, .bool r.2.2]) := by
  refine enterRet (n := 57) Tryd.func35 rfl rfl rfl (fun wd => ?_)
  refine c_seq ?_
  refine c_region ?_
  refine l_val rfl rfl rfl (r_assign (v := .int .i64 0) rfl) ?_
  refine l_val rfl rfl rfl (r_assign (v := str []) rfl) ?_
  refine l_val rfl rfl rfl (r_assign (v := .bool false) rfl) ?_
  refine l_nil ?_
  refine c_seq ?_
  refine c_region ?_
  refine l_val rfl rfl rfl (r_assign (v := .int .i64 0) rfl) ?_
  refine l_nil ?_
  refine c_seq ?_
  refine c_seq ?_
  refine c_region ?_
  refine l_val rfl rfl rfl (r_assign (v := .int .i64 0) rfl) ?_
  refine l_nil ?_
  refine c_block ?_
  refine c_fix (σ := Int × Int) (τ := Unit) (fun next1 s => where_unpack_l1 a0 next1 s.1 s.2) (fun s t => [(0, str a0), (5, .int .i64 s.1), (6, .int .i64 s.2)]) (fun s t => []) (fun s t => True) (0, 0) () [] H (by exact trivial) (by exact ⟨rfl, rfl, rfl, trivial⟩) (by decide) rfl ?_
  rintro ⟨x5_2, x6_2⟩ _ m1 gg H35 _
  clear H
  replace H35 : where_unpack_l1 a0 (it (fun next1 s => where_unpack_l1 a0 next1 s.1 s.2) m1) x5_2 x6_2 = some r := H35
  generalize hn1 : it (fun next1 s => where_unpack_l1 a0 next1 s.1 s.2) m1 = next1 at H35
  refine c_tidyF [(0, str a0), (5, .int .i64 x5_2), (6, .int .i64 x6_2)] [] rfl rfl ?_
  refine c_seq ?_
  refine c_seq ?_
  refine c_region ?_
  refine l_val rfl rfl rfl (r_move (v := .int .i64 x6_2) rfl) ?_
  refine l_val rfl rfl rfl (r_move (v := str a0) rfl) ?_
  refine l_val rfl rfl rfl (r_lenT Tryd.underlying9 rfl) ?_
  refine l_val rfl rfl rfl (r_lss rfl rfl) ?_
  refine l_val rfl rfl rfl (r_move (v := .bool (decide (x6_2 < (a0.length : Int)))) rfl) ?_
  refine split (fun hb => ?_) (fun hb => ?_)
  · have H36 := cnd_t hb H35; clear H35
    refine l_val rfl rfl rfl (r_move (v := .int .i64 x6_2) rfl) ?_
    refine l_val rfl rfl rfl (r_lss rfl rfl) ?_
    refine l_val rfl rfl rfl (r_pickT (v := .bool (decide (x6_2 < 6))) rfl rfl) ?_
    refine l_nil ?_
    refine c_if (b := (decide (x6_2 < 6))) rfl (fun hb => ?_) (fun hb => ?_)
    · have H37 := cnd_t hb H36; clear H36
      refine c_skip ?_
      refine c_seq ?_
      refine c_block ?_
      refine c_seq ?_
      refine c_region ?_
      refine l_val rfl rfl rfl (r_move (v := str a0) rfl) ?_
      refine l_val rfl rfl rfl (r_move (v := .int .i64 x6_2) rfl) ?_
      obtain ⟨t20, h_t20, H38⟩ := bnd_some H37; clear H37
      refine l_val rfl rfl rfl (r_octG Tryd.underlying9 rfl rfl h_t20) ?_
      obtain ⟨t21, h_t21, H39⟩ := bnd_some H38; clear H38
      refine l_val rfl rfl rfl (r_convG Tryd.runUnderlying5 Tryd.runUnderlying3 rfl (gK_i64 h_t21)) ?_
      obtain ⟨t22, h_t22, H40⟩ := bnd_some H39; clear H39
      refine l_val rfl rfl rfl (r_subG rfl rfl h_t22) ?_
      refine l_val rfl rfl rfl (r_assign (v := .int .i64 t22) rfl) ?_
      refine l_nil ?_
      refine c_seq ?_
      refine c_seq ?_
      refine c_region ?_
      refine l_val rfl rfl rfl (r_move (v := .int .i64 t22) rfl) ?_
      obtain ⟨t24, h_t24, H41⟩ := bnd_some H40; clear H40
      refine l_call (k38 h_t24) Tryd.call38 rfl rfl rfl ?_
      refine l_nil ?_
      refine c_if (b := t24) rfl (fun hb => ?_) (fun hb => ?_)
      · have H42 := cnd_t hb H41; clear H41
        refine c_seq ?_
        refine c_region ?_
        refine l_val rfl rfl rfl (r_assign (v := .int .i64 0) rfl) ?_
        refine l_val rfl rfl rfl (r_assign (v := str []) rfl) ?_
        refine l_val rfl rfl rfl (r_assign (v := .bool false) rfl) ?_
        refine l_nil ?_
        refine c_ret ?_
        obtain rfl := Option.some.inj H42
        refine ret3 (v1 := .int .i64 0) (v2 := str []) (v3 := .bool false) rfl rfl rfl rfl (fin rfl)
      · have H43 := cnd_f hb H41; clear H41
        refine c_skip ?_
        refine c_seq ?_
        refine c_region ?_
        refine l_val rfl rfl rfl (r_move (v := .int .i64 x5_2) rfl) ?_
        refine l_val rfl rfl rfl (r_move (v := .int .i64 t22) rfl) ?_
        obtain ⟨t27, h_t27, H44⟩ := bnd_some H43; clear H43
        refine l_val rfl rfl rfl (r_remG rfl rfl h_t27) ?_
        refine l_val rfl rfl rfl (r_move (v := .int .i64 x6_2) rfl) ?_
        obtain ⟨t29, h_t29, H45⟩ := bnd_some H44; clear H44
        refine l_val rfl rfl rfl (r_mulG rfl rfl h_t29) ?_
        obtain ⟨t30, h_t30, H46⟩ := bnd_some H45; clear H45
        refine l_val rfl rfl rfl (r_shlG rfl rfl h_t30) ?_
        obtain ⟨t31, h_t31, H47⟩ := bnd_some H46; clear H46
        refine l_val rfl rfl rfl (r_addG rfl rfl h_t31) ?_
        refine l_val rfl rfl rfl (r_assign (v := .int .i64 t31) rfl) ?_
        refine l_nil ?_
        refine c_seq ?_
        refine c_seq ?_
        refine c_region ?_
        refine l_val rfl rfl rfl (r_move (v := .int .i64 t22) rfl) ?_
        refine l_val rfl rfl rfl (r_geq rfl rfl) ?_
        refine l_nil ?_
        refine c_if (b := (decide (32 ≤ t22))) rfl (fun hb => ?_) (fun hb => ?_)
        · have H48 := cnd_t hb H47; clear H47
          refine c_exit ?_
          refine c_region ?_
          refine l_val rfl rfl rfl (r_move (v := .int .i64 x6_2) rfl) ?_
          obtain ⟨t17, h_t17, H49⟩ := bnd_some H48; clear H48
          refine l_val rfl rfl rfl (r_addG rfl rfl h_t17) ?_
          refine l_val rfl rfl rfl (r_assign (v := .int .i64 t17) rfl) ?_
          refine l_nil ?_
          refine c_close (t31, t17) () m1 [] (by exact ⟨rfl, rfl, rfl, trivial⟩) (by decide) rfl (by exact ⟨(by subst hn1; exact H49), trivial⟩) (Nat.lt_succ_self _)
        · have H50 := cnd_f hb H47; clear H47
          refine c_skip ?_
          refine c_meet (r := r) (σ := Unit) (τ := Unit) (fun s => where_unpack_j2 a0 x6_2 t31) (fun s t => [(0, str a0), (5, .int .i64 t31), (6, .int .i64 x6_2), (13, .int .i64 x6_2), (14, .bool (decide (x6_2 < 6)))]) (fun s t => []) (fun s t => True) ?_ ?_
          · refine c_seq ?_
            refine c_region ?_
            refine l_val rfl rfl rfl (r_move (v := .int .i64 t22) rfl) ?_
            refine l_val rfl rfl rfl (r_eql rfl rfl) ?_
            refine l_val rfl rfl rfl (r_move (v := .bool (decide (t22 = 0))) rfl) ?_
            refine split (fun hb => ?_) (fun hb => ?_)
            · have H63 := cnd_t hb H50; clear H50
              refine l_val rfl rfl rfl (r_move (v := .int .i64 x6_2) rfl) ?_
              refine l_val rfl rfl rfl (r_gtr rfl rfl) ?_
              refine l_val rfl rfl rfl (r_pickT (v := .bool (decide (0 < x6_2))) rfl rfl) ?_
              refine l_nil ?_
              refine c_if (b := (decide (0 < x6_2))) rfl (fun hb => ?_) (fun hb => ?_)
              · have H64 := cnd_t hb H63; clear H63
                refine c_seq ?_
                refine c_region ?_
                refine l_val rfl rfl rfl (r_assign (v := .int .i64 0) rfl) ?_
                refine l_val rfl rfl rfl (r_assign (v := str []) rfl) ?_
                refine l_val rfl rfl rfl (r_assign (v := .bool false) rfl) ?_
                refine l_nil ?_
                refine c_ret ?_
                obtain rfl := Option.some.inj H64
                refine ret3 (v1 := .int .i64 0) (v2 := str []) (v3 := .bool false) rfl rfl rfl rfl (fin rfl)
              · have H65 := cnd_f hb H63; clear H63
                refine c_skip ?_
                refine c_close () () 0 [] (by exact ⟨rfl, rfl, rfl, rfl, rfl, trivial⟩) (by decide) rfl (by exact ⟨H65, trivial⟩) (Nat.lt_succ_self _)
            · have H66 := cnd_f hb H50; clear H50
              refine l_passed rfl rfl rfl ?_
              refine l_passed rfl rfl rfl ?_
              refine l_val rfl rfl rfl (r_pickF (v := .bool false) rfl rfl) ?_
              refine l_nil ?_
              refine c_false rfl ?_
              refine c_skip ?_
              refine c_close () () 0 [] (by exact ⟨rfl, rfl, rfl, rfl, rfl, trivial⟩) (by decide) rfl (by exact ⟨H66, trivial⟩) (Nat.lt_succ_self _)
          · rintro _ _ gg H51 _
            replace H51 : where_unpack_j2 a0 x6_2 t31 = some r := H51
            refine c_tidyF [(0, str a0), (5, .int .i64 t31), (6, .int .i64 x6_2), (13, .int .i64 x6_2), (14, .bool (decide (x6_2 < 6)))] [] rfl rfl ?_
            refine c_seq ?_
            refine c_seq ?_
            refine c_region ?_
            refine l_val rfl rfl rfl (r_move (v := .int .i64 t31) rfl) ?_
            obtain ⟨t41, h_t41, H52⟩ := bnd_some H51; clear H51
            refine l_val rfl rfl rfl (r_remG rfl rfl h_t41) ?_
            refine l_val rfl rfl rfl (r_eql rfl rfl) ?_
            refine l_nil ?_
            refine c_if (b := (decide (t41 = 1))) rfl (fun hb => ?_) (fun hb => ?_)
            · have H53 := cnd_t hb H52; clear H52
              refine c_seq ?_
              exact c_regionD (Kd.p :: Kd.p :: Kd.p :: Kd.p :: Kd.p :: Kd.p :: Kd.p :: Kd.p :: Kd.p :: Kd.p :: Kd.p :: []) 0 mixed (by
                refine d_val rfl rfl (r_move (v := .int .i64 t31) rfl) ?_
                have h_t44 := bnd_val H53
                have H54 := bnd_rest H53
                refine d_val rfl rfl (r_addG rfl rfl h_t44) ?_
                have h_t45 := bnd_val H54
                have H55 := bnd_rest H54
                refine d_val rfl rfl (r_negG rfl h_t45) ?_
                have h_t46 := bnd_val H55
                have H56 := bnd_rest H55
                refine d_val rfl rfl (r_quoG rfl rfl h_t46) ?_
                refine d_val rfl rfl (r_move (v := str a0) rfl) ?_
                refine d_val rfl rfl (r_move (v := .int .i64 x6_2) rfl) ?_
                have h_t49 := bnd_val H56
                have H57 := bnd_rest H56
                refine d_val rfl rfl (r_addG rfl rfl h_t49) ?_
                have h_t50 := bnd_val H57
                have H58 := bnd_rest H57
                refine d_val rfl rfl (r_cutFromG Tryd.underlying9 rfl rfl h_t50) ?_
                refine d_val rfl rfl (r_assign (v := .int .i64 (val (gQuo (val (gI (-(val (gI (t31 + 1)))))) 2))) rfl) ?_
                refine d_val rfl rfl (r_assign (v := str (val (gCut a0 (val (gI (x6_2 + 1))) a0.length))) rfl) ?_
                refine d_val rfl rfl (r_assign (v := .bool true) rfl) ?_
                refine d_nil ?_
                refine c_ret ?_
                obtain rfl := Option.some.inj H58
                refine ret3 (v1 := .int .i64 (val (gQuo (val (gI (-(val (gI (t31 + 1)))))) 2))) (v2 := str (val (gCut a0 (val (gI (x6_2 + 1))) a0.length))) (v3 := .bool true) rfl rfl rfl rfl (fin rfl)
                ) (by kernel_rfl)
            · have H59 := cnd_f hb H52; clear H52
              refine c_skip ?_
              refine c_seq ?_
              exact c_regionD (Kd.p :: Kd.p :: Kd.p :: Kd.p :: Kd.p :: Kd.p :: Kd.p :: Kd.p :: Kd.p :: []) 0 mixed (by
                refine d_val rfl rfl (r_move (v := .int .i64 t31) rfl) ?_
                have h_t52 := bnd_val H59
                have H60 := bnd_rest H59
                refine d_val rfl rfl (r_quoG rfl rfl h_t52) ?_
                refine d_val rfl rfl (r_move (v := str a0) rfl) ?_
                refine d_val rfl rfl (r_move (v := .int .i64 x6_2) rfl) ?_
                have h_t55 := bnd_val H60
                have H61 := bnd_rest H60
                refine d_val rfl rfl (r_addG rfl rfl h_t55) ?_
                have h_t56 := bnd_val H61
                have H62 := bnd_rest H61
                refine d_val rfl rfl (r_cutFromG Tryd.underlying9 rfl rfl h_t56) ?_
                refine d_val rfl rfl (r_assign (v := .int .i64 (val (gQuo t31 2))) rfl) ?_
                refine d_val rfl rfl (r_assign (v := str (val (gCut a0 (val (gI (x6_2 + 1))) a0.length))) rfl) ?_
                refine d_val rfl rfl (r_assign (v := .bool true) rfl) ?_
                refine d_nil ?_
                refine c_ret ?_
                obtain rfl := Option.some.inj H62
                refine ret3 (v1 := .int .i64 (val (gQuo t31 2))) (v2 := str (val (gCut a0 (val (gI (x6_2 + 1))) a0.length))) (v3 := .bool true) rfl rfl rfl rfl (fin rfl)
                ) (by kernel_rfl)
    · have H67 := cnd_f hb H36; clear H36
      refine c_exit ?_
      refine c_seq ?_
      refine c_region ?_
      refine l_val rfl rfl rfl (r_assign (v := .int .i64 0) rfl) ?_
      refine l_val rfl rfl rfl (r_assign (v := str []) rfl) ?_
      refine l_val rfl rfl rfl (r_assign (v := .bool false) rfl) ?_
      refine l_nil ?_
      refine c_ret ?_
      obtain rfl := Option.some.inj H67
      refine ret3 (v1 := .int .i64 0) (v2 := str []) (v3 := .bool false) rfl rfl rfl rfl (fin rfl)
  · have H68 := cnd_f hb H35; clear H35
    refine l_passed rfl rfl rfl ?_
    refine l_passed rfl rfl rfl ?_
    refine l_val rfl rfl rfl (r_pickF (v := .bool false) rfl rfl) ?_
    refine l_nil ?_
    refine c_false rfl ?_
    refine c_exit ?_
    refine c_seq ?_
    refine c_region ?_
    refine l_val rfl rfl rfl (r_assign (v := .int .i64 0) rfl) ?_
    refine l_val rfl rfl rfl (r_assign (v := str []) rfl) ?_
    refine l_val rfl rfl rfl (r_assign (v := .bool false) rfl) ?_
    refine l_nil ?_
    refine c_ret ?_
    obtain rfl := Option.some.inj H68
    refine ret3 (v1 := .int .i64 0) (v2 := str []) (v3 := .bool false) rfl rfl rfl rfl (fin rfl)
theorem k36 {a : Option Addr} {n c : Nat} (hc : n ≤ c) : Ret Tryd.prog 36 [.slice a n c] (.slice (cutA a 0 n 2) n n) := by
  refine enterRet (n := 9) Tryd.func36 rfl rfl rfl (fun wd => ?_)
  refine c_seq ?_
  refine c_region ?_
  refine l_val rfl rfl rfl (r_assign (v := .slice none 0 0) rfl) ?_
  refine l_nil ?_
  refine c_seq ?_
  refine c_region ?_
  refine l_val rfl rfl rfl (r_move (v := .slice a n c) rfl) ?_
  refine l_val rfl rfl rfl (r_move (v := .slice a n c) rfl) ?_
  refine l_val rfl rfl rfl (r_len Tryd.underlying22 rfl) ?_
  refine l_val rfl rfl rfl (r_move (v := .slice a n c) rfl) ?_
  refine l_val rfl rfl rfl (r_len Tryd.underlying22 rfl) ?_
  refine l_val rfl rfl rfl (r_sliceHM (a := a) (m := n) (c := c) (h := (n : Int)) (q := (n : Int)) Tryd.underlying22 Tryd.sizeOf34 rfl rfl rfl (Int.natCast_nonneg n) (Int.le_refl _) (Int.ofNat_le.2 hc)) ?_
  refine l_val rfl rfl rfl (r_assign (v := .slice (cutA a 0 n 2) n n) rfl) ?_
  refine l_nil ?_
  refine c_ret ?_
  exact ret1 (v := .slice (cutA a 0 n 2) n n) rfl rfl (fin rfl)

theorem k11 {a0 : (List UInt8)} {r : (List T_api_Place) × Int} {w : World} {h : Heap} (hw : Know h w noS) (H : where_Unpack a0 = some r) : Does Tryd.prog 11 (List.toArray [str a0]) w (fun v w' => ∃ x : (Option Addr × Nat), v = (.tuple #[.slice x.1 r.1.length x.2, .int .i64 r.2]) ∧ Turn w w' noS (roV 2 (.slice x.1 r.1.length x.2) r.1.length (r.1.map e_api_Place))) := by
  refine enter (n := 58) Tryd.func11 rfl rfl rfl noS [] (Sat.nil _ _) ?_
  refine c_seq ?_
  refine c_region ?_
  refine l_val rfl rfl rfl (r_assign (v := .slice none 0 0) rfl) ?_
  refine l_val rfl rfl rfl (r_assign (v := .int .i64 0) rfl) ?_
  refine l_nil ?_
  refine c_seq ?_
  refine c_seq ?_
  refine c_region ?_
  refine l_val rfl rfl rfl (r_move (v := str a0) rfl) ?_
  refine l_val rfl rfl rfl (r_lenT Tryd.underlying9 rfl) ?_
  refine l_val rfl rfl rfl (r_gtr rfl rfl) ?_
  refine l_nil ?_
  refine c_if (b := (decide (1000000 < (a0.length : Int)))) rfl (fun hb => ?_) (fun hb => ?_)
  · have H37 := cnd_t hb H; clear H
    refine c_seq ?_
    refine c_region ?_
    refine l_val rfl rfl rfl (r_assign (v := .slice none 0 0) rfl) ?_
    refine l_val rfl rfl rfl (r_assign (v := .int .i64 4) rfl) ?_
    refine l_nil ?_
    refine c_ret ?_
    refine c_nilRow 34 2 ?_
    obtain rfl := Option.some.inj H37
    refine c_imp 0 rfl (row_ro _ _ _ _ _) ?_
    refine ret2 (v1 := .slice ((none, 0) : Option Addr × Nat).1 ([] : List T_api_Place).length ((none, 0) : Option Addr × Nat).2) (v2 := .int .i64 4) rfl rfl rfl (finX ((none, 0) : Option Addr × Nat) (i := 0) rfl rfl (Imp.refl _))
  · have H38 := cnd_f hb H; clear H
    refine c_skip ?_
    refine c_seq ?_
    refine c_region ?_
    refine l_val rfl rfl rfl (r_assign (v := .slice none 0 0) rfl) ?_
    refine l_nil ?_
    refine c_seq ?_
    refine c_region ?_
    refine l_val rfl rfl rfl (r_build (pl := #[(0, 1), (1, 1)]) (ps := []) (cells := #[.int .i64 0, .int .i64 0]) Tryd.zeroValue34 Tryd.runUnderlying34 (fun w => by kernel_rfl) rfl rfl) ?_
    refine l_alloc (cs := [.int .i64 0, .int .i64 0]) Tryd.zeroValue34 rfl rfl rfl (fun b4 => ?_)
    refine l_store (i := 0) (vs := [.int .i64 0, .int .i64 0]) (cs' := [.int .i64 0, .int .i64 0]) Tryd.sizeOf34 rfl rfl rfl rfl rfl rfl rfl rfl rfl ?_
    refine l_nil ?_
    refine c_meet (r := r) (σ := (List T_api_Place)) (τ := (Option Addr × Nat)) (fun s => where_Unpack_j1 s) (fun s t => [(4, .slice t.1 s.length t.2)]) (fun s t => [rowV 34 2 (.slice t.1 s.length t.2) s.length (s.map e_api_Place)]) (fun s t => True) ?_ ?_
    · refine c_block ?_
      refine c_nilRow 34 2 ?_
      refine c_fix (σ := (List UInt8) × Int × Int × (List T_api_Place)) (τ := (Option Addr × Nat)) (fun next2 s => where_Unpack_l2 next2 s.1 s.2.1 s.2.2.1 s.2.2.2) (fun s t => [(0, str s.1), (4, .slice t.1 s.2.2.2.length t.2), (5, .pointer (some ⟨b4, 0, none⟩))]) (fun s t => [cellsC b4 [.int .i64 s.2.1, .int .i64 s.2.2.1] 34, rowV 34 2 (.slice t.1 s.2.2.2.length t.2) s.2.2.2.length (s.2.2.2.map e_api_Place)]) (fun s t => True) (a0, 0, 0, ([] : List T_api_Place)) ((none, 0) : Option Addr × Nat) [0, 1] H38 (by exact trivial) (by exact ⟨rfl, rfl, rfl, trivial⟩) (by decide) rfl ?_
      rintro ⟨x0_2, m_3, m_4, l_3⟩ p_2 m2 gg H43 _
      clear H38
      replace H43 : where_Unpack_l2 (it (fun next2 s => where_Unpack_l2 next2 s.1 s.2.1 s.2.2.1 s.2.2.2) m2) x0_2 m_3 m_4 l_3 = some r := H43
      generalize hn2 : it (fun next2 s => where_Unpack_l2 next2 s.1 s.2.1 s.2.2.1 s.2.2.2) m2 = next2 at H43
      refine c_tidyF [(0, str x0_2), (4, .slice p_2.1 l_3.length p_2.2), (5, .pointer (some ⟨b4, 0, none⟩))] [cellsC b4 [.int .i64 m_3, .int .i64 m_4] 34, rowV 34 2 (.slice p_2.1 l_3.length p_2.2) l_3.length (l_3.map e_api_Place)] rfl rfl ?_
      refine c_seq ?_
      refine c_seq ?_
      refine c_region ?_
      refine l_val rfl rfl rfl (r_move (v := str x0_2) rfl) ?_
      refine l_val rfl rfl rfl (r_neqT rfl rfl) ?_
      refine l_nil ?_
      refine c_if (b := (decide (x0_2 ≠ []))) rfl (fun hb => ?_) (fun hb => ?_)
      · have H44 := cnd_t hb H43; clear H43
        refine c_skip ?_
        refine c_block ?_
        refine c_seq ?_
        refine c_region ?_
        refine l_val rfl rfl rfl (r_move (v := str x0_2) rfl) ?_
        obtain ⟨t21, h_t21, H45⟩ := bnd_some H44; clear H44
        refine l_call (k35 h_t21) Tryd.call35 rfl rfl rfl ?_
        refine l_val rfl rfl rfl (r_move (v := .tuple #[.int .i64 t21.1, str t21.2.1, .bool t21.2.2]) rfl) ?_
        refine l_val rfl rfl rfl (r_extract (v := .int .i64 t21.1) rfl rfl) ?_
        refine l_val rfl rfl rfl (r_extract (v := str t21.2.1) rfl rfl) ?_
        refine l_val rfl rfl rfl (r_extract (v := .bool t21.2.2) rfl rfl) ?_
        refine l_val rfl rfl rfl (r_assign (v := .int .i64 t21.1) rfl) ?_
        refine l_val rfl rfl rfl (r_assign (v := str t21.2.1) rfl) ?_
        refine l_val rfl rfl rfl (r_assign (v := .bool t21.2.2) rfl) ?_
        refine l_nil ?_
        refine c_seq ?_
        refine c_region ?_
        refine l_val rfl rfl rfl (r_move (v := str t21.2.1) rfl) ?_
        obtain ⟨t27, h_t27, H46⟩ := bnd_some H45; clear H45
        refine l_call (k35 h_t27) Tryd.call35 rfl rfl rfl ?_
        refine l_val rfl rfl rfl (r_move (v := .tuple #[.int .i64 t27.1, str t27.2.1, .bool t27.2.2]) rfl) ?_
        refine l_val rfl rfl rfl (r_extract (v := .int .i64 t27.1) rfl rfl) ?_
        refine l_val rfl rfl rfl (r_extract (v := str t27.2.1) rfl rfl) ?_
        refine l_val rfl rfl rfl (r_extract (v := .bool t27.2.2) rfl rfl) ?_
        refine l_val rfl rfl rfl (r_assign (v := .int .i64 t27.1) rfl) ?_
        refine l_val rfl rfl rfl (r_assign (v := str t27.2.1) rfl) ?_
        refine l_val rfl rfl rfl (r_assign (v := .bool t27.2.2) rfl) ?_
        refine l_nil ?_
        refine c_seq ?_
        refine c_seq ?_
        refine c_region ?_
        refine l_val rfl rfl rfl (r_move (v := .bool t21.2.2) rfl) ?_
        refine l_val rfl rfl rfl (r_not rfl) ?_
        refine l_val rfl rfl rfl (r_move (v := .bool (!t21.2.2)) rfl) ?_
        refine split (fun hb => ?_) (fun hb => ?_)
        · have H47 := cnd_t hb H46; clear H46
          refine l_passed rfl rfl rfl ?_
          refine l_passed rfl rfl rfl ?_
          refine l_val rfl rfl rfl (r_pickT (v := .bool true) rfl rfl) ?_
          refine l_nil ?_
          refine c_true rfl ?_
          refine c_seq ?_
          refine c_region ?_
          refine l_val rfl rfl rfl (r_assign (v := .slice none 0 0) rfl) ?_
          refine l_val rfl rfl rfl (r_assign (v := .int .i64 8) rfl) ?_
          refine l_nil ?_
          refine c_ret ?_
          refine c_nilRow 34 2 ?_
          obtain rfl := Option.some.inj H47
          refine c_imp 2 rfl (row_ro _ _ _ _ _) ?_
          refine ret2 (v1 := .slice ((none, 0) : Option Addr × Nat).1 ([] : List T_api_Place).length ((none, 0) : Option Addr × Nat).2) (v2 := .int .i64 8) rfl rfl rfl (finX ((none, 0) : Option Addr × Nat) (i := 2) rfl rfl (Imp.refl _))
        · have H48 := cnd_f hb H46; clear H46
          refine l_val rfl rfl rfl (r_move (v := .bool t27.2.2) rfl) ?_
          refine l_val rfl rfl rfl (r_not rfl) ?_
          refine l_val rfl rfl rfl (r_pickF (v := .bool (!t27.2.2)) rfl rfl) ?_
          refine l_nil ?_
          refine c_if (b := (!t27.2.2)) rfl (fun hb => ?_) (fun hb => ?_)
          · have H49 := cnd_t hb H48; clear H48
            refine c_seq ?_
            refine c_region ?_
            refine l_val rfl rfl rfl (r_assign (v := .slice none 0 0) rfl) ?_
            refine l_val rfl rfl rfl (r_assign (v := .int .i64 8) rfl) ?_
            refine l_nil ?_
            refine c_ret ?_
            refine c_nilRow 34 2 ?_
            obtain rfl := Option.some.inj H49
            refine c_imp 2 rfl (row_ro _ _ _ _ _) ?_
            refine ret2 (v1 := .slice ((none, 0) : Option Addr × Nat).1 ([] : List T_api_Place).length ((none, 0) : Option Addr × Nat).2) (v2 := .int .i64 8) rfl rfl rfl (finX ((none, 0) : Option Addr × Nat) (i := 2) rfl rfl (Imp.refl _))
          · have H50 := cnd_f hb H48; clear H48
            refine c_skip ?_
            refine c_seq ?_
            refine c_region ?_
            refine l_val rfl rfl rfl (r_field Tryd.runUnderlying34 rfl Tryd.sizeOf3 rfl rfl) ?_
            refine l_load1 (i := 0) (v := .int .i64 m_3) Tryd.isAgg3 rfl rfl rfl rfl rfl ?_
            refine l_val rfl rfl rfl (r_move (v := .int .i64 t21.1) rfl) ?_
            obtain ⟨t40, h_t40, H51⟩ := bnd_some H50; clear H50
            refine l_val rfl rfl rfl (r_addG rfl rfl h_t40) ?_
            refine l_val rfl rfl rfl (r_field Tryd.runUnderlying34 rfl Tryd.sizeOf3 rfl rfl) ?_
            refine l_load1 (i := 0) (v := .int .i64 m_4) Tryd.isAgg3 rfl rfl rfl rfl rfl ?_
            refine l_val rfl rfl rfl (r_move (v := .int .i64 t27.1) rfl) ?_
            obtain ⟨t44, h_t44, H52⟩ := bnd_some H51; clear H51
            refine l_val rfl rfl rfl (r_addG rfl rfl h_t44) ?_
            refine l_val rfl rfl rfl (r_build (pl := #[(0, 1), (1, 1)]) (ps := [(0, .int .i64 t40), (1, .int .i64 t44)]) (cells := #[.int .i64 t40, .int .i64 t44]) Tryd.zeroValue34 Tryd.runUnderlying34 (fun w => by kernel_rfl) rfl rfl) ?_
            refine l_store (i := 0) (vs := [.int .i64 t40, .int .i64 t44]) (cs' := [.int .i64 t40, .int .i64 t44]) Tryd.sizeOf34 rfl rfl rfl rfl rfl rfl rfl rfl rfl ?_
            refine l_nil ?_
            refine c_seq ?_
            refine c_region ?_
            refine l_val rfl rfl rfl (r_move (v := .slice p_2.1 l_3.length p_2.2) rfl) ?_
            refine l_loadN (i := 0) (vs := [.int .i64 t40, .int .i64 t44]) Tryd.isAgg34 Tryd.sizeOf34 rfl rfl rfl rfl rfl ?_
            refine l_buildSlice (vs := [.agg #[.int .i64 t40, .int .i64 t44]]) (cs := [.int .i64 t40, .int .i64 t44]) Tryd.underlying22 Tryd.sizeOf34 Tryd.zeroValue34 rfl rfl rfl rfl rfl rfl rfl (fun b5 => ?_)
            obtain ⟨l49, h_l49, H53⟩ := bnd_some H52; clear H52
            refine l_turn (turns_appG (i := 1) (hn := rfl) (rds := [2]) (p := p_2) (sz := 2) (by_ := 16) (f := e_api_Place) (ys := l_3) (ls := ([(⟨t40, t44⟩ : T_api_Place)] : List T_api_Place)) (V := .slice (some ⟨b5, 0, none⟩) 1 1) Tryd.underlying22 (info_of Tryd.typeInfo34) rfl rfl rfl rfl rfl rfl rfl rfl rfl rfl (fun w L' hF hS hi => row_box (i := 2) hS ((hi 2 (by simp)).trans rfl) rfl rfl) (fun _ => rfl) (fun _ => rfl) h_l49) rfl rfl rfl (fun p_3 => ?_)
            refine l_val rfl rfl rfl (r_assign (v := .slice p_3.1 l49.length p_3.2) rfl) ?_
            refine l_nil ?_
            refine c_region ?_
            refine l_val rfl rfl rfl (r_move (v := str t27.2.1) rfl) ?_
            refine l_val rfl rfl rfl (r_assign (v := str t27.2.1) rfl) ?_
            refine l_nil ?_
            refine c_close (t27.2.1, t40, t44, l49) p_3 m2 [0, 1] (by exact ⟨rfl, rfl, rfl, trivial⟩) (by decide) rfl (by exact ⟨(by subst hn2; exact H53), trivial⟩) (Nat.lt_succ_self _)
      · have H54 := cnd_f hb H43; clear H43
        refine c_exit ?_
        refine c_close l_3 p_2 0 [1] (by exact ⟨rfl, trivial⟩) (by decide) rfl (by exact ⟨H54, trivial⟩) (Nat.lt_succ_self _)
    · rintro l p gg H39 _
      replace H39 : where_Unpack_j1 l = some r := H39
      refine c_tidyF [(4, .slice p.1 l.length p.2)] [rowV 34 2 (.slice p.1 l.length p.2) l.length (l.map e_api_Place)] rfl rfl ?_
      refine c_seq ?_
      refine c_seq ?_
      refine c_region ?_
      refine l_val rfl rfl rfl (r_move (v := .slice p.1 l.length p.2) rfl) ?_
      obtain ⟨t52, h_t52, H40⟩ := bnd_some H39; clear H39
      refine l_callG (fun w hF hS => k30 (know_all w) (frs_own (i := 0) rfl hS rfl) h_t52) Tryd.call30 rfl rfl rfl ?_
      refine l_val rfl rfl rfl (r_assign (v := .int .i64 t52) rfl) ?_
      refine l_nil ?_
      refine c_seq ?_
      refine c_region ?_
      refine l_val rfl rfl rfl (r_move (v := .int .i64 t52) rfl) ?_
      refine l_val rfl rfl rfl (r_neq rfl rfl) ?_
      refine l_nil ?_
      refine c_if (b := (decide (t52 ≠ 0))) rfl (fun hb => ?_) (fun hb => ?_)
      · have H41 := cnd_t hb H40; clear H40
        refine c_seq ?_
        refine c_region ?_
        refine l_val rfl rfl rfl (r_move (v := .int .i64 t52) rfl) ?_
        refine l_val rfl rfl rfl (r_assign (v := .slice none 0 0) rfl) ?_
        refine l_val rfl rfl rfl (r_assign (v := .int .i64 t52) rfl) ?_
        refine l_nil ?_
        refine c_ret ?_
        refine c_nilRow 34 2 ?_
        obtain rfl := Option.some.inj H41
        refine c_imp 1 rfl (row_ro _ _ _ _ _) ?_
        refine ret2 (v1 := .slice ((none, 0) : Option Addr × Nat).1 ([] : List T_api_Place).length ((none, 0) : Option Addr × Nat).2) (v2 := .int .i64 t52) rfl rfl rfl (finX ((none, 0) : Option Addr × Nat) (i := 1) rfl rfl (Imp.refl _))
      · have H42 := cnd_f hb H40; clear H40
        refine c_skip ?_
        refine c_seq ?_
        refine c_region ?_
        refine l_val rfl rfl rfl (r_move (v := .slice p.1 l.length p.2) rfl) ?_
        refine l_callG (fun w hF hS => k36 (capOf (i := 0) hS rfl) w) Tryd.call36 rfl rfl rfl ?_
        refine l_val rfl rfl rfl (r_assign (v := .slice (cutA p.1 0 l.length 2) l.length l.length) rfl) ?_
        refine l_val rfl rfl rfl (r_assign (v := .int .i64 0) rfl) ?_
        refine l_nil ?_
        refine c_ret ?_
        obtain rfl := Option.some.inj H42
        refine c_imp 0 rfl (imp_clipO _ _ _ _ _ _) ?_
        refine ret2 (v1 := .slice (cutA p.1 0 l.length 2) l.length l.length) (v2 := .int .i64 0) rfl rfl rfl (finX (cutA p.1 0 l.length 2, l.length) (i := 0) rfl rfl (Imp.refl _))
theorem k26 {a0 : (List T_api_Place)} {v0 : Value} {a1 : (List T_api_Place)} {v1 : Value} {r : Bool} {w : World} {h : Heap} (hw : Know h w noS) (f0 : FrS h 2 v0 (a0.map e_api_Place)) (f1 : FrS h 2 v1 (a1.map e_api_Place)) (H : slices_Equal_api_Place a0 a1 = some r) : Does Tryd.prog 26 (List.toArray [v0, v1]) w (fun v w' => v = (.bool r) ∧ Grow w w') := by
  refine enter (n := 26) Tryd.func26 rfl rfl rfl noS [] (Sat.nil _ _) ?_
  refine c_seq ?_
  refine c_region ?_
  refine l_val rfl rfl rfl (r_assign (v := .bool false) rfl) ?_
  refine l_nil ?_
  refine c_seq ?_
  refine c_seq ?_
  refine c_region ?_
  refine l_val rfl rfl rfl (r_move (v := v0) rfl) ?_
  refine l_val rfl rfl rfl (r_lenF Tryd.underlying22 rfl f0 rfl) ?_
  refine l_val rfl rfl rfl (r_move (v := v1) rfl) ?_
  refine l_val rfl rfl rfl (r_lenF Tryd.underlying22 rfl f1 rfl) ?_
  refine l_val rfl rfl rfl (r_neq rfl rfl) ?_
  refine l_nil ?_
  refine c_if (b := (decide ((a0.length : Int) ≠ (a1.length : Int)))) rfl (fun hb => ?_) (fun hb => ?_)
  · have H11 := cnd_t hb H; clear H
    refine c_seq ?_
    refine c_region ?_
    refine l_val rfl rfl rfl (r_assign (v := .bool false) rfl) ?_
    refine l_nil ?_
    refine c_ret ?_
    obtain rfl := Option.some.inj H11
    refine ret1 (v := .bool false) rfl rfl (fin rfl)
  · have H12 := cnd_f hb H; clear H
    refine c_skip ?_
    refine c_seq ?_
    refine c_seq ?_
    refine c_region ?_
    refine l_val rfl rfl rfl (r_move (v := v0) rfl) ?_
    refine l_val rfl rfl rfl (r_lenF Tryd.underlying22 rfl f0 rfl) ?_
    refine l_val rfl rfl rfl (r_move (v := .int .i64 0) rfl) ?_
    refine l_nil ?_
    refine c_block ?_
    refine c_fix (σ := Int) (τ := Unit) (fun next1 s => slices_Equal_api_Place_l1 a0 a1 next1 s) (fun s t => [(0, v0), (1, v1), (12, .int .i64 (a0.length : Int)), (13, .int .i64 s)]) (fun s t => []) (fun s t => True) 0 () [] H12 (by exact trivial) (by exact ⟨rfl, rfl, rfl, rfl, trivial⟩) (by decide) rfl ?_
    rintro x13_2 _ m1 gg H13 _
    clear H12
    replace H13 : slices_Equal_api_Place_l1 a0 a1 (it (fun next1 s => slices_Equal_api_Place_l1 a0 a1 next1 s) m1) x13_2 = some r := H13
    generalize hn1 : it (fun next1 s => slices_Equal_api_Place_l1 a0 a1 next1 s) m1 = next1 at H13
    refine c_tidyF [(0, v0), (1, v1), (12, .int .i64 (a0.length : Int)), (13, .int .i64 x13_2)] [] rfl rfl ?_
    refine c_seq ?_
    refine c_region ?_
    refine l_val rfl rfl rfl (r_lss rfl rfl) ?_
    refine l_nil ?_
    refine c_seq ?_
    refine c_if (b := (decide (x13_2 < (a0.length : Int)))) rfl (fun hb => ?_) (fun hb => ?_)
    · have H14 := cnd_t hb H13; clear H13
      refine c_skip ?_
      refine c_seq ?_
      refine c_block ?_
      refine c_seq ?_
      refine c_region ?_
      refine l_val rfl rfl rfl (r_move (v := .int .i64 x13_2) rfl) ?_
      refine l_val rfl rfl rfl (r_assign (v := .int .i64 x13_2) rfl) ?_
      refine l_nil ?_
      refine c_seq ?_
      exact c_regionD (Kd.p :: Kd.p :: Kd.p :: Kd.d [] _ :: Kd.p :: Kd.p :: Kd.p :: Kd.d [] _ :: Kd.p :: []) 0 mixed (by
        refine d_val rfl rfl (r_move (v := v0) rfl) ?_
        refine d_val rfl rfl (r_move (v := .int .i64 x13_2) rfl) ?_
        have h_t18 := bnd_val H14
        have H15 := bnd_rest H14
        refine d_val rfl rfl (r_indexF Tryd.underlying22 Tryd.sizeOf34 rfl rfl f0 h_t18) ?_
        refine d_read (fun w hF => run_loadGN (j := 0) (vs := [.int .i64 (val (gAt a0 x13_2)).Lat, .int .i64 (val (gAt a0 x13_2)).Lon]) Tryd.isAgg34 Tryd.sizeOf34 rfl rfl (f0.row (hw.now hF)) h_t18 rfl) rfl rfl ?_
        refine d_val rfl rfl (r_move (v := v1) rfl) ?_
        refine d_val rfl rfl (r_move (v := .int .i64 x13_2) rfl) ?_
        have h_t22 := bnd_val H15
        have H16 := bnd_rest H15
        refine d_val rfl rfl (r_indexF Tryd.underlying22 Tryd.sizeOf34 rfl rfl f1 h_t22) ?_
        refine d_read (fun w hF => run_loadGN (j := 0) (vs := [.int .i64 (val (gAt a1 x13_2)).Lat, .int .i64 (val (gAt a1 x13_2)).Lon]) Tryd.isAgg34 Tryd.sizeOf34 rfl rfl (f1.row (hw.now hF)) h_t22 rfl) rfl rfl ?_
        refine d_val rfl rfl (r_neqA (xs := #[.int .i64 (val (gAt a0 x13_2)).Lat, .int .i64 (val (gAt a0 x13_2)).Lon]) (ys := #[.int .i64 (val (gAt a1 x13_2)).Lat, .int .i64 (val (gAt a1 x13_2)).Lon]) Tryd.eqGuardType34 (fun w => run_eq_api_Place w (val (gAt a0 x13_2)) (val (gAt a1 x13_2))) rfl rfl) ?_
        refine d_nil ?_
        refine c_if (b := (!(eq_api_Place (val (gAt a0 x13_2)) (val (gAt a1 x13_2))))) rfl (fun hb => ?_) (fun hb => ?_)
        · have H17 := cnd_t hb H16; clear H16
          refine c_seq ?_
          refine c_region ?_
          refine l_val rfl rfl rfl (r_assign (v := .bool false) rfl) ?_
          refine l_nil ?_
          refine c_ret ?_
          obtain rfl := Option.some.inj H17
          refine ret1 (v := .bool false) rfl rfl (fin rfl)
        · have H18 := cnd_f hb H16; clear H16
          refine c_skip ?_
          refine c_region ?_
          obtain ⟨t25, h_t25, H19⟩ := bnd_some H18; clear H18
          refine l_val rfl rfl rfl (r_addG rfl rfl h_t25) ?_
          refine l_val rfl rfl rfl (r_move (v := .int .i64 t25) rfl) ?_
          refine l_nil ?_
          refine c_close t25 () m1 [] (by exact ⟨rfl, rfl, rfl, rfl, trivial⟩) (by decide) rfl (by exact ⟨(by subst hn1; exact H19), trivial⟩) (Nat.lt_succ_self _)
        ) (by kernel_rfl)
    · have H20 := cnd_f hb H13; clear H13
      refine c_exit ?_
      refine c_seq ?_
      refine c_region ?_
      refine l_val rfl rfl rfl (r_assign (v := .bool true) rfl) ?_
      refine l_nil ?_
      refine c_ret ?_
      obtain rfl := Option.some.inj H20
      refine ret1 (v := .bool true) rfl rfl (fin rfl)
theorem k5 {a0 : (List T_api_Place)} {v0 : Value} {a1 : (List UInt8)} {r : Bool} {w : World} {h : Heap} (hw : Know h w noS) (f0 : FrS h 2 v0 (a0.map e_api_Place)) (H : Keep_WherePacksBack a0 a1 = some r) : Does Tryd.prog 5 (List.toArray [v0, str a1]) w (fun v w' => v = (.bool r) ∧ Grow w w') := by
  refine enter (n := 54) Tryd.func5 rfl rfl rfl noS [] (Sat.nil _ _) ?_
  refine c_seq ?_
  refine c_region ?_
  refine l_val rfl rfl rfl (r_assign (v := .bool false) rfl) ?_
  refine l_nil ?_
  refine c_seq ?_
  refine c_seq ?_
  refine c_region ?_
  obtain ⟨t13, h_t13, H22⟩ := bnd_some H; clear H
  refine l_call (k25 h_t13) Tryd.call25 rfl rfl rfl ?_
  refine l_val rfl rfl rfl (r_not rfl) ?_
  refine l_nil ?_
  refine c_if (b := (!t13)) rfl (fun hb => ?_) (fun hb => ?_)
  · have H23 := cnd_t hb H22; clear H22
    refine c_seq ?_
    refine c_region ?_
    refine l_val rfl rfl rfl (r_assign (v := .bool false) rfl) ?_
    refine l_nil ?_
    refine c_ret ?_
    obtain rfl := Option.some.inj H23
    refine ret1 (v := .bool false) rfl rfl (fin rfl)
  · have H24 := cnd_f hb H22; clear H22
    refine c_skip ?_
    refine c_meet (r := r) (σ := Unit) (τ := Unit) (fun s => Keep_WherePacksBack_j1 a1) (fun s t => [(1, str a1)]) (fun s t => []) (fun s t => True) ?_ ?_
    · refine c_seq ?_
      refine c_region ?_
      refine l_val rfl rfl rfl (r_move (v := v0) rfl) ?_
      obtain ⟨t17, h_t17, H34⟩ := bnd_some H24; clear H24
      refine l_callG (fun w hF hS => k7 (know_all w) (f0.mono (hw.now hF)) h_t17) Tryd.call7 rfl rfl rfl ?_
      refine l_val rfl rfl rfl (r_move (v := .tuple #[str t17.1, .int .i64 t17.2]) rfl) ?_
      refine l_val rfl rfl rfl (r_extract (v := str t17.1) rfl rfl) ?_
      refine l_val rfl rfl rfl (r_extract (v := .int .i64 t17.2) rfl rfl) ?_
      refine l_val rfl rfl rfl (r_assign (v := str t17.1) rfl) ?_
      refine l_val rfl rfl rfl (r_assign (v := .int .i64 t17.2) rfl) ?_
      refine l_nil ?_
      refine c_seq ?_
      refine c_region ?_
      refine l_val rfl rfl rfl (r_move (v := .int .i64 t17.2) rfl) ?_
      refine l_val rfl rfl rfl (r_eql rfl rfl) ?_
      refine l_nil ?_
      refine c_if (b := (decide (t17.2 = 0))) rfl (fun hb => ?_) (fun hb => ?_)
      · have H35 := cnd_t hb H34; clear H34
        refine c_seq ?_
        refine c_region ?_
        refine l_val rfl rfl rfl (r_move (v := str t17.1) rfl) ?_
        obtain ⟨t24, h_t24, H36⟩ := bnd_some H35; clear H35
        refine l_make (makes_call (rds := []) (G := fun x : (Option Addr × Nat) => .tuple #[.slice x.1 t24.1.length x.2, .int .i64 t24.2]) (C := fun x : (Option Addr × Nat) => roV 2 (.slice x.1 t24.1.length x.2) t24.1.length (t24.1.map e_api_Place)) (fun w L' hF hS hi => k11 (know_all w)  h_t24) Tryd.call11 rfl) rfl rfl rfl (fun p_2 => ?_)
        refine l_val rfl rfl rfl (r_move (v := .tuple #[.slice p_2.1 t24.1.length p_2.2, .int .i64 t24.2]) rfl) ?_
        refine l_val rfl rfl rfl (r_extract (v := .slice p_2.1 t24.1.length p_2.2) rfl rfl) ?_
        refine l_val rfl rfl rfl (r_extract (v := .int .i64 t24.2) rfl rfl) ?_
        refine l_val rfl rfl rfl (r_assign (v := .slice p_2.1 t24.1.length p_2.2) rfl) ?_
        refine l_val rfl rfl rfl (r_assign (v := .int .i64 t24.2) rfl) ?_
        refine l_nil ?_
        refine c_seq ?_
        refine c_region ?_
        refine l_val rfl rfl rfl (r_move (v := .int .i64 t24.2) rfl) ?_
        refine l_val rfl rfl rfl (r_neq rfl rfl) ?_
        refine l_val rfl rfl rfl (r_move (v := .bool (decide (t24.2 ≠ 0))) rfl) ?_
        refine split (fun hb => ?_) (fun hb => ?_)
        · have H37 := cnd_t hb H36; clear H36
          refine l_passed rfl rfl rfl ?_
          refine l_passed rfl rfl rfl ?_
          refine l_passed rfl rfl rfl ?_
          refine l_passed rfl rfl rfl ?_
          refine l_val rfl rfl rfl (r_pickT (v := .bool true) rfl rfl) ?_
          refine l_nil ?_
          refine c_true rfl ?_
          refine c_seq ?_
          refine c_region ?_
          refine l_val rfl rfl rfl (r_assign (v := .bool false) rfl) ?_
          refine l_nil ?_
          refine c_ret ?_
          obtain rfl := Option.some.inj H37
          refine ret1 (v := .bool false) rfl rfl (fin rfl)
        · have H38 := cnd_f hb H36; clear H36
          refine l_val rfl rfl rfl (r_move (v := v0) rfl) ?_
          refine l_val rfl rfl rfl (r_move (v := .slice p_2.1 t24.1.length p_2.2) rfl) ?_
          obtain ⟨t32, h_t32, H39⟩ := bnd_some H38; clear H38
          refine l_callG (fun w hF hS => k26 (know_all w) (f0.mono (hw.now hF)) (frs_rd (i := 0) hS rfl) h_t32) Tryd.call26 rfl rfl rfl ?_
          refine l_val rfl rfl rfl (r_not rfl) ?_
          refine l_val rfl rfl rfl (r_pickF (v := .bool (!t32)) rfl rfl) ?_
          refine l_nil ?_
          refine c_if (b := (!t32)) rfl (fun hb => ?_) (fun hb => ?_)
          · have H40 := cnd_t hb H39; clear H39
            refine c_seq ?_
            refine c_region ?_
            refine l_val rfl rfl rfl (r_assign (v := .bool false) rfl) ?_
            refine l_nil ?_
            refine c_ret ?_
            obtain rfl := Option.some.inj H40
            refine ret1 (v := .bool false) rfl rfl (fin rfl)
          · have H41 := cnd_f hb H39; clear H39
            refine c_skip ?_
            refine c_close () () 0 [] (by exact ⟨rfl, trivial⟩) (by decide) rfl (by exact ⟨H41, trivial⟩) (Nat.lt_succ_self _)
      · have H42 := cnd_f hb H34; clear H34
        refine c_skip ?_
        refine c_close () () 0 [] (by exact ⟨rfl, trivial⟩) (by decide) rfl (by exact ⟨H42, trivial⟩) (Nat.lt_succ_self _)
    · rintro _ _ gg H25 _
      replace H25 : Keep_WherePacksBack_j1 a1 = some r := H25
      refine c_tidyF [(1, str a1)] [] rfl rfl ?_
      refine c_seq ?_
      refine c_seq ?_
      refine c_region ?_
      refine l_val rfl rfl rfl (r_move (v := str a1) rfl) ?_
      obtain ⟨t37, h_t37, H26⟩ := bnd_some H25; clear H25
      refine l_make (makes_call (rds := []) (G := fun x : (Option Addr × Nat) => .tuple #[.slice x.1 t37.1.length x.2, .int .i64 t37.2]) (C := fun x : (Option Addr × Nat) => roV 2 (.slice x.1 t37.1.length x.2) t37.1.length (t37.1.map e_api_Place)) (fun w L' hF hS hi => k11 (know_all w)  h_t37) Tryd.call11 rfl) rfl rfl rfl (fun p => ?_)
      refine l_val rfl rfl rfl (r_move (v := .tuple #[.slice p.1 t37.1.length p.2, .int .i64 t37.2]) rfl) ?_
      refine l_val rfl rfl rfl (r_extract (v := .slice p.1 t37.1.length p.2) rfl rfl) ?_
      refine l_val rfl rfl rfl (r_extract (v := .int .i64 t37.2) rfl rfl) ?_
      refine l_val rfl rfl rfl (r_assign (v := .slice p.1 t37.1.length p.2) rfl) ?_
      refine l_val rfl rfl rfl (r_assign (v := .int .i64 t37.2) rfl) ?_
      refine l_nil ?_
      refine c_seq ?_
      refine c_region ?_
      refine l_val rfl rfl rfl (r_move (v := .int .i64 t37.2) rfl) ?_
      refine l_val rfl rfl rfl (r_eql rfl rfl) ?_
      refine l_nil ?_
      refine c_if (b := (decide (t37.2 = 0))) rfl (fun hb => ?_) (fun hb => ?_)
      · have H27 := cnd_t hb H26; clear H26
        refine c_seq ?_
        refine c_region ?_
        refine l_val rfl rfl rfl (r_move (v := .slice p.1 t37.1.length p.2) rfl) ?_
        obtain ⟨t44, h_t44, H28⟩ := bnd_some H27; clear H27
        refine l_callG (fun w hF hS => k7 (know_all w) (frs_rd (i := 0) hS rfl) h_t44) Tryd.call7 rfl rfl rfl ?_
        refine l_val rfl rfl rfl (r_move (v := .tuple #[str t44.1, .int .i64 t44.2]) rfl) ?_
        refine l_val rfl rfl rfl (r_extract (v := str t44.1) rfl rfl) ?_
        refine l_val rfl rfl rfl (r_extract (v := .int .i64 t44.2) rfl rfl) ?_
        refine l_val rfl rfl rfl (r_assign (v := str t44.1) rfl) ?_
        refine l_val rfl rfl rfl (r_assign (v := .int .i64 t44.2) rfl) ?_
        refine l_nil ?_
        refine c_seq ?_
        refine c_region ?_
        refine l_val rfl rfl rfl (r_move (v := .int .i64 t44.2) rfl) ?_
        refine l_val rfl rfl rfl (r_neq rfl rfl) ?_
        refine l_val rfl rfl rfl (r_move (v := .bool (decide (t44.2 ≠ 0))) rfl) ?_
        refine split (fun hb => ?_) (fun hb => ?_)
        · have H29 := cnd_t hb H28; clear H28
          refine l_passed rfl rfl rfl ?_
          refine l_passed rfl rfl rfl ?_
          refine l_passed rfl rfl rfl ?_
          refine l_val rfl rfl rfl (r_pickT (v := .bool true) rfl rfl) ?_
          refine l_nil ?_
          refine c_true rfl ?_
          refine c_seq ?_
          refine c_region ?_
          refine l_val rfl rfl rfl (r_assign (v := .bool false) rfl) ?_
          refine l_nil ?_
          refine c_ret ?_
          obtain rfl := Option.some.inj H29
          refine ret1 (v := .bool false) rfl rfl (fin rfl)
        · have H30 := cnd_f hb H28; clear H28
          refine l_val rfl rfl rfl (r_move (v := str t44.1) rfl) ?_
          refine l_val rfl rfl rfl (r_move (v := str a1) rfl) ?_
          refine l_val rfl rfl rfl (r_neqT rfl rfl) ?_
          refine l_val rfl rfl rfl (r_pickF (v := .bool (decide (t44.1 ≠ a1))) rfl rfl) ?_
          refine l_nil ?_
          refine c_if (b := (decide (t44.1 ≠ a1))) rfl (fun hb => ?_) (fun hb => ?_)
          · have H31 := cnd_t hb H30; clear H30
            refine c_seq ?_
            refine c_region ?_
            refine l_val rfl rfl rfl (r_assign (v := .bool false) rfl) ?_
            refine l_nil ?_
            refine c_ret ?_
            obtain rfl := Option.some.inj H31
            refine ret1 (v := .bool false) rfl rfl (fin rfl)
          · have H32 := cnd_f hb H30; clear H30
            refine c_skip ?_
            refine c_seq ?_
            refine c_region ?_
            refine l_val rfl rfl rfl (r_assign (v := .bool true) rfl) ?_
            refine l_nil ?_
            refine c_ret ?_
            obtain rfl := Option.some.inj H32
            refine ret1 (v := .bool true) rfl rfl (fin rfl)
      · have H33 := cnd_f hb H26; clear H26
        refine c_skip ?_
        refine c_seq ?_
        refine c_region ?_
        refine l_val rfl rfl rfl (r_assign (v := .bool true) rfl) ?_
        refine l_nil ?_
        refine c_ret ?_
        obtain rfl := Option.some.inj H33
        refine ret1 (v := .bool true) rfl rfl (fin rfl)
end Go.Proofs.YtfgehlmdcllclaaDoor
