/- From where each pixel comes, and what the tones make of it; the law EditComes, in plain Lean. Conditions: none. -/
import Derived.Test.YtinpjnlocahjjaaDoorEeV
namespace Go.M
open Go.Md Go.Pl

def toneAll (T : List T_edit_Step) (q : List Int) : List Int := T.foldl (fun q s => tone1 s q) q

theorem toneAll_len : ∀ (T : List T_edit_Step) {q : List Int}, q.length = 3 → (toneAll T q).length = 3
  | [], _, h => h
  | s :: T, q, _ => toneAll_len T (q := tone1 s q) rfl

theorem toneAll_dot : ∀ (T : List T_edit_Step) {q : List Int}, q.length = 3 → toneAll T q = [dotFold T (ofL q) 0, dotFold T (ofL q) 1, dotFold T (ofL q) 2]
  | [], q, h => by
    match q, h with
    | [a, b, c], _ => rfl
  | s :: T, q, h => by
    show toneAll T (tone1 s q) = _
    rw [toneAll_dot T (q := tone1 s q) rfl]
    have e : ∀ j, j < 3 → ofL (tone1 s q) j = dotA s (ofL q) j := fun j hj => by
      unfold dotA
      rw [if_pos hj]
      have : j = 0 ∨ j = 1 ∨ j = 2 := by omega
      rcases this with rfl | rfl | rfl <;> rfl
    show _ = [dotFold T (dotA s (ofL q)) 0, dotFold T (dotA s (ofL q)) 1, dotFold T (dotA s (ofL q)) 2]
    rw [dotFold_congr T e 0 (by omega), dotFold_congr T e 1 (by omega), dotFold_congr T e 2 (by omega)]

theorem toneAll_snoc (T : List T_edit_Step) (s : T_edit_Step) (q : List Int) : toneAll (T ++ [s]) q = tone1 s (toneAll T q) := by
  unfold toneAll; rw [List.foldl_append]; rfl

/-- The pixel of the first image that a pixel comes from. -/
def fromP (l : List T_edit_Step) (w h : Nat) (P : List Int) (k : Nat) (x y : Int) : List Int := pxN w P (comesGo l w h k x y).1.toNat (comesGo l w h k x y).2.1.toNat

theorem comes_run {l : List T_edit_Step} {w h : Nat} {P : List Int} (m : Im w h P) (ho : okAll l) (h3 : ∀ s ∈ l, s.Kind ≠ 3) (hz : (sizeGo l w h).2.2 = 0) : ∀ k, k ≤ l.length →
    ∃ W H : Nat, sizeGo (l.take k) w h = ((W : Int), (H : Int), 0) ∧ (∀ x y : Nat, x < W → y < H → ∃ a b : Nat, comesGo l w h k x y = ((a : Int), (b : Int), 0) ∧ a < w ∧ b < h) ∧
      Im W H (runI (l.take k) ⟨w, h, P⟩).Pixels ∧ runI (l.take k) ⟨w, h, P⟩ = ⟨W, H, imgL W H (fun x y => toneAll (tones (l.take k)) (fromP l w h P k x y))⟩ := by
  intro k
  induction k with
  | zero =>
    intro _
    refine ⟨w, h, rfl, fun x y hx hy => ⟨x, y, rfl, hx, hy⟩, m, ?_⟩
    show (⟨w, h, P⟩ : T_api_Image) = ⟨w, h, imgL w h (fun x y => toneAll (tones (l.take 0)) (fromP l w h P 0 x y))⟩
    have : imgL w h (fun x y => toneAll (tones (l.take 0)) (fromP l w h P 0 x y)) = imgL w h (pxN w P) := img_congr fun x y _ _ => by
      show pxN w P ((x : Nat) : Int).toNat ((y : Nat) : Int).toNat = _
      rw [Int.toNat_natCast, Int.toNat_natCast]
    rw [this, img_self m]
  | succ k ih =>
    intro hk1
    have hk : k < l.length := by omega
    obtain ⟨W, H, hS, hC, hI, hR⟩ := ih (by omega)
    have hE := ho.at hk
    have hk3 := h3 _ (List.getElem_mem hk)
    have et : l.take (k + 1) = l.take k ++ [l[k]] := List.take_succ_eq_append_getElem hk
    have e0 : l.getD k default = l[k] := by rw [List.getD_eq_getElem?_getD, List.getElem?_eq_getElem hk]; rfl
    have hzk : (sizeGo (l.take (k + 1)) w h).2.2 = 0 := sizeGo_pre _ (l.drop (k + 1)) _ _ (by rw [List.take_append_drop]; exact hz)
    have hz1 : (sizeGo (l.take k) (w : Int) (h : Int)).2.2 = 0 := by rw [hS]
    have e1 : sizeGo (l.take (k + 1)) (w : Int) (h : Int) = sizeGo [l[k]] W H := by rw [et, sizeGo_append _ _ _ _ hz1, hS]
    have hs1 : (sizeGo [l[k]] (W : Int) (H : Int)).2.2 = 0 := by rw [← e1]; exact hzk
    have hpix : (runI (l.take k) ⟨w, h, P⟩).Pixels = imgL W H (fun x y => toneAll (tones (l.take k)) (fromP l w h P k x y)) := by rw [hR]
    rw [hpix] at hI
    generalize hPX : (fun x y : Nat => toneAll (tones (l.take k)) (fromP l w h P k x y)) = PX at *
    have hp : px3 W H PX := fun x y hx hy => by
      obtain ⟨a, b, e, ha, hb⟩ := hC x y hx hy
      rw [← hPX]
      refine toneAll_len _ ?_
      unfold fromP
      rw [e]
      simp only [Int.toNat_natCast]
      exact pxN_len m ha hb
    obtain ⟨hc, w', h', e, m', ez⟩ := step_size (r := []) hI hE hs1
    have er : runI (l.take (k + 1)) ⟨w, h, P⟩ = stepI l[k] ⟨W, H, imgL W H PX⟩ := by
      rw [et]; unfold runI at hR ⊢; rw [List.foldl_append, hR]; rfl
    have eS : sizeS (l.take k) (w : Int) (h : Int) = ((W : Int), (H : Int), 0) := by
      have := m.w1; have := m.w2; have := m.h1; have := m.h2
      unfold sizeS; rw [if_pos (by omega), hS]
    have esz : sizeGo (l.take (k + 1)) (w : Int) (h : Int) = ((w' : Int), (h' : Int), 0) := by rw [e1, ez]; rfl
    refine ⟨w', h', esz, ?_⟩
    rw [er]
    by_cases k1 : l[k].Kind = 1
    · have hn := nums1 hE k1
      have ht : 1 ≤ l[k].A.toNat ∧ l[k].A.toNat ≤ 8 := by omega
      have eA : l[k].A = (l[k].A.toNat : Int) := by omega
      have es := step1 (s := l[k]) (w := W) (h := H) (l := imgL W H PX) k1
      rw [es] at e m' ⊢
      have ew : w' = turnW l[k].A.toNat W H := by have := congrArg T_api_Image.W e; simp only at this; omega
      have eh : h' = turnH l[k].A.toNat W H := by have := congrArg T_api_Image.H e; simp only at this; omega
      subst ew eh
      have eg : ∀ x y : Int, comesGo l w h (k + 1) x y = comesGo l w h k (srcS l[k].A W H x y).1 (srcS l[k].A W H x y).2 := fun x y => by
        simp only [comesGo, e0]
        rw [if_pos k1, eS]
      refine ⟨fun x y hx hy => ?_, m', ?_⟩
      · obtain ⟨a, b, e2, ha, hb⟩ := srcT ht hx hy
        obtain ⟨a', b', e3, ha', hb'⟩ := hC a b ha hb
        refine ⟨a', b', ?_, ha', hb'⟩
        rw [eg, eA, e2]; exact e3
      · rw [turn_px ht hp]
        congr 1
        refine img_congr fun x y hx hy => ?_
        have etn : tones (l.take (k + 1)) = tones (l.take k) := by
          rw [et]; unfold tones; rw [List.filter_append, List.filter_cons_of_neg (by simp [shapeK, k1])]; simp
        rw [etn]
        obtain ⟨a, b, e2, ha, hb⟩ := srcT ht hx hy
        unfold fromP
        rw [eg, eA, Int.toNat_natCast, e2, ← hPX]
        simp only [Int.toNat_natCast]
        rfl
    · by_cases k2 : l[k].Kind = 2
      · have hn := nums2 hE k2
        have hc := hc k2
        have es := step2 (s := l[k]) (w := W) (h := H) (l := imgL W H PX) k2
        rw [es] at e m' ⊢
        have ew : w' = l[k].C.toNat := by have := congrArg T_api_Image.W e; simp only at this; omega
        have eh : h' = l[k].D.toNat := by have := congrArg T_api_Image.H e; simp only at this; omega
        subst ew eh
        have eg : ∀ x y : Int, comesGo l w h (k + 1) x y = comesGo l w h k (x + l[k].A) (y + l[k].B) := fun x y => by
          simp only [comesGo, e0]
          rw [if_neg k1, if_pos k2]
        have eA : ∀ x : Nat, (x : Int) + l[k].A = ((l[k].A.toNat + x : Nat) : Int) := fun x => by omega
        have eB : ∀ y : Nat, (y : Int) + l[k].B = ((l[k].B.toNat + y : Nat) : Int) := fun y => by omega
        refine ⟨fun x y hx hy => ?_, m', ?_⟩
        · obtain ⟨a', b', e3, ha', hb'⟩ := hC (l[k].A.toNat + x) (l[k].B.toNat + y) (by omega) (by omega)
          refine ⟨a', b', ?_, ha', hb'⟩
          rw [eg, eA, eB]; exact e3
        · rw [crop_px hp (by omega) (by omega)]
          rw [show l[k].C = (l[k].C.toNat : Int) from by omega, show l[k].D = (l[k].D.toNat : Int) from by omega]
          simp only [Int.toNat_natCast]
          congr 1
          refine img_congr fun x y hx hy => ?_
          have etn : tones (l.take (k + 1)) = tones (l.take k) := by
            rw [et]; unfold tones; rw [List.filter_append, List.filter_cons_of_neg (by simp [shapeK, k2])]; simp
          rw [etn]
          unfold fromP
          rw [eg, eA, eB, ← hPX]
          rfl
      · have hkk := (stepE_ok hE).1
        have ht : toneK l[k] := by unfold toneK; omega
        have es := step4 (s := l[k]) (w := W) (h := H) (l := imgL W H PX) ht
        rw [es] at e m' ⊢
        have ew : w' = W := by have := congrArg T_api_Image.W e; simp only at this; omega
        have eh : h' = H := by have := congrArg T_api_Image.H e; simp only at this; omega
        subst ew eh
        have eg : ∀ x y : Int, comesGo l w h (k + 1) x y = comesGo l w h k x y := fun x y => by
          simp only [comesGo, e0]
          rw [if_neg k1, if_neg k2]
        refine ⟨fun x y hx hy => ?_, m', ?_⟩
        · obtain ⟨a', b', e3, ha', hb'⟩ := hC x y hx hy
          exact ⟨a', b', by rw [eg]; exact e3, ha', hb'⟩
        · rw [tone_img hp]
          congr 1
          refine img_congr fun x y hx hy => ?_
          have etn : tones (l.take (k + 1)) = tones (l.take k) ++ [l[k]] := by
            rw [et]; unfold tones; rw [List.filter_append, List.filter_cons_of_pos (by rw [decide_eq_false (show ¬ shapeK l[k] from ht)]; rfl)]; simp
          rw [etn, toneAll_snoc]
          unfold fromP
          rw [eg, ← hPX]
          rfl

theorem bytes_same (a : List Int) : bytes_Equal a a = some true := by unfold bytes_Equal; simp

theorem editComesS (m : T_api_Image) (l : List T_edit_Step) {φ1 φ2 φ3 φ4 : Prop} (hm : φ1 ∧ φ2 ∧ (φ3 ∧ ∀ v ∈ m.Pixels, 0 ≤ v ∧ v ≤ 255)) (_ : φ4) : Keep_EditComes m l = some true := by
  have hb := hm.2.2.2
  unfold Keep_EditComes
  rw [awakeE, bnd_pure, Bool.not_true, cnd_false, Render_eq _ hb, bnd_pure, cnd_if]
  by_cases h0 : (renderS m l).2 = 0
  · rw [if_neg (fun h => h h0)]
    obtain ⟨w, h, e, im, h1, hl, ho, hz, hr⟩ := renderS_ok h0 hb
    rw [ContainsFunc_eq l Keep_EditComes_1 (fun s => decide (s.Kind = 3)) (by omega) (fun s _ => rfl), bnd_pure]
    by_cases h3 : (l.any fun s => decide (s.Kind = 3)) = true
    · rw [h3, cnd_true]
    · rw [Bool.not_eq_true] at h3
      rw [h3, cnd_false]
      have h3' : ∀ s ∈ l, s.Kind ≠ 3 := fun s hs h => by
        have := List.any_eq_false.1 h3 s hs
        simp [h] at this
      have eW : m.W = w := by rw [e]
      have eH : m.H = h := by rw [e]
      have hw1 := im.w1; have hw2 := im.w2; have hh1 := im.h1; have hh2 := im.h2
      have hS : sizeS l (w : Int) (h : Int) = sizeGo l w h := by unfold sizeS; rw [if_pos (by omega)]
      obtain ⟨W, H, eS, hC, hI, hR⟩ := comes_run im ho h3' hz l.length (Nat.le_refl _)
      rw [List.take_length] at eS hI hR
      have hRe : (renderS m l).1 = ⟨W, H, imgL W H (fun x y => toneAll (tones l) (fromP l w h m.Pixels l.length x y))⟩ := by
        rw [hr]; conv => lhs; rw [e]
        exact hR
      rw [Size_eq, bnd_pure, if_pos h1, eW, eH, hS, eS, Apart_eq h1, bnd_pure]
      simp only [hRe]
      rw [cnd_if, if_neg (fun h => h rfl), cnd_if, if_neg (fun h => h rfl), cnd_if, if_neg (fun h => h rfl), cnd_if, if_neg (fun h => h rfl)]
      have hA : W * H ≤ 4096 := by
        have := hI.area; exact this
      have hmul : (W : Int) * (H : Int) = ((W * H : Nat) : Int) := by simp
      rw [hmul, gI_ok (by omega), bnd_pure]
      have hW1 : 1 ≤ W := hI.w1
      refine fix_of (F := fun next1 s => Keep_EditComes_l1 m l (renderS m l) ((W : Int), (H : Int), 0) (shapes l, tones l, 0) ((W * H : Nat) : Int) next1 s) (fun _ => some true)
        (fun s => 0 ≤ s ∧ s ≤ (W * H : Nat)) (fun s => W * H - s.toNat) ?_ 0 ⟨by simp, by omega⟩
      rintro next i ⟨g0, g1⟩ ih
      obtain ⟨i, rfl⟩ := Int.eq_ofNat_of_zero_le g0
      show Keep_EditComes_l1 m l (renderS m l) ((W : Int), (H : Int), 0) (shapes l, tones l, 0) ((W * H : Nat) : Int) next (i : Int) = _
      unfold Keep_EditComes_l1
      rw [cnd_if]
      by_cases hi : i < W * H
      · rw [if_pos (by omega)]
        have hx : i % W < W := Nat.mod_lt _ (by omega)
        have hy : i / W < H := Nat.div_lt_of_lt_mul hi
        obtain ⟨a, b, eab, ha, hb'⟩ := hC (i % W) (i / W) hx hy
        have hidx := idx_lt ha hb'
        have hlen := im.len
        have harea := im.area
        simp only
        rw [gRem_nn (by omega) (by omega), bnd_pure, gQuo_nn (by omega) (by omega), bnd_pure, Comes_eq, if_pos h1, bnd_pure, eW, eH]
        rw [show (i : Int) % (W : Int) = ((i % W : Nat) : Int) from by simp, show (i : Int) / (W : Int) = ((i / W : Nat) : Int) from by simp]
        have eC : ∀ x y : Nat, x < W → y < H → comesGo l (w : Int) (h : Int) l.length x y = ((a : Int), (b : Int), 0) → comesS l (w : Int) (h : Int) (x : Int) (y : Int) = ((a : Int), (b : Int), 0) := fun x y hx hy e => by
          unfold comesS
          rw [hS, eS, if_neg (fun h => h rfl), h3, if_neg (by simp), if_neg (by simp only; omega)]
          exact e
        rw [eC _ _ hx hy eab]
        simp only
        rw [cnd_if, if_neg (fun h => h rfl), cnd_if, if_neg (by omega), cnd_if, if_neg (by omega), cnd_if, if_neg (by omega), cnd_if, if_neg (by omega)]
        rw [show (b : Int) * (w : Int) = ((b * w : Nat) : Int) from by simp, gI_ok (by omega), bnd_pure, gI_ok (by omega), bnd_pure, gI_ok (by omega), bnd_pure, gI_ok (by omega), bnd_pure]
        rw [show 3 * (((b * w : Nat) : Int) + (a : Int)) = ((3 * (b * w + a) : Nat) : Int) from by omega]
        rw [gCut_ok (by omega), bnd_pure]
        have ecut : (m.Pixels.drop ((3 * (b * w + a) : Nat) : Int).toNat).take ((((3 * (b * w + a) : Nat) : Int) + 3).toNat - ((3 * (b * w + a) : Nat) : Int).toNat) = pxN w m.Pixels a b := by
          unfold pxN
          rw [Int.toNat_natCast, show (((3 * (b * w + a) : Nat) : Int) + 3).toNat - (3 * (b * w + a)) = 3 from by omega]
        rw [ecut]
        have hql : (pxN w m.Pixels a b).length = 3 := pxN_len im ha hb'
        rw [gIf_ok (by omega), bnd_pure]
        have hbyte : byteArr 3 (ofL (pxN w m.Pixels a b)) := fun j hj => by
          unfold ofL
          rw [List.getD_eq_getElem?_getD, List.getElem?_eq_getElem (by omega)]
          exact pxN_byte im _ (List.getElem_mem _)
        obtain ⟨c, p1, p2, _⟩ := Pixel_eq (tones l) hbyte
        have htone : ∀ s ∈ tones l, ¬ shapeK s := fun s hs => by
          have := (List.mem_filter.1 hs).2
          simpa using this
        have hsT : stepsE (tones l) = 0 := by
          unfold stepsE
          have := parts_len l
          rw [if_neg (by omega)]
          refine fstE_all fun e he => ?_
          obtain ⟨s, hs, rfl⟩ := List.mem_map.1 he
          exact ho s (List.mem_filter.1 hs).1
        rw [p1, bnd_pure, hsT, if_neg (fun h => h rfl), if_pos htone]
        simp only
        rw [cnd_if, if_neg (fun h => h rfl), gI_ok (x := 3 * (i : Int)) (by omega), bnd_pure, bnd_pure, gI_ok (x := 3 * (i : Int) + 3) (by omega), bnd_pure, hRe]
        simp only
        have hPX : px3 W H (fun x y => toneAll (tones l) (fromP l w h m.Pixels l.length x y)) := fun x y hx hy => by
          obtain ⟨a, b, e2, ha, hb⟩ := hC x y hx hy
          refine toneAll_len _ ?_
          unfold fromP
          rw [e2]
          simp only [Int.toNat_natCast]
          exact pxN_len im ha hb
        have hIl : (imgL W H (fun x y => toneAll (tones l) (fromP l w h m.Pixels l.length x y))).length = 3 * (W * H) := pre3_len W _ fun k hk => hPX.k hk
        rw [gCut_ok (by rw [hIl]; omega), bnd_pure]
        have ecut2 : ((imgL W H (fun x y => toneAll (tones l) (fromP l w h m.Pixels l.length x y))).drop (3 * (i : Int)).toNat).take ((3 * (i : Int) + 3).toNat - (3 * (i : Int)).toNat) = toneAll (tones l) (fromP l w h m.Pixels l.length ((i % W : Nat) : Int) ((i / W : Nat) : Int)) := by
          rw [show (3 * (i : Int)).toNat = 3 * i from by omega, show (3 * (i : Int) + 3).toNat - 3 * i = 3 from by omega]
          exact flat3 (f := fun k => toneAll (tones l) (fromP l w h m.Pixels l.length ((k % W : Nat) : Int) ((k / W : Nat) : Int))) (W * H) i (fun k hk => hPX.k hk) hi
        rw [ecut2]
        have efr : fromP l w h m.Pixels l.length ((i % W : Nat) : Int) ((i / W : Nat) : Int) = pxN w m.Pixels a b := by
          unfold fromP; rw [eab]; simp only [Int.toNat_natCast]
        rw [efr, toneAll_dot _ hql]
        have ec := p2 ⟨hsT, htone⟩
        have emap : (List.range 3).map c = [dotFold (tones l) (ofL (pxN w m.Pixels a b)) 0, dotFold (tones l) (ofL (pxN w m.Pixels a b)) 1, dotFold (tones l) (ofL (pxN w m.Pixels a b)) 2] := by
          rw [← ec 0 (by omega), ← ec 1 (by omega), ← ec 2 (by omega)]; rfl
        rw [emap, bytes_same, bnd_pure, Bool.not_true, cnd_false, gI_ok (by omega), bnd_pure]
        exact ih _ ⟨by omega, by omega⟩ (by omega)
      · rw [if_neg (by omega)]
  · rw [if_pos h0]

end Go.M
