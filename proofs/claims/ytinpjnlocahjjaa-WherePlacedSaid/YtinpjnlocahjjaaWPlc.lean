/- The law WherePlaced in plain Lean. Conditions: none. -/
import Derived.Test.YtinpjnlocahjjaaWTrk2
namespace Go.M
open Go.Md Go.Pl Go.Vc.Where

/-- A photo with the place that a track gives it. -/
noncomputable def placedP (t : List T_where_Fix) (g : Int) (p : T_api_Photo) : List T_api_Place :=
  if (0 ≤ p.Moment ∧ p.Moment ≤ 6311433599) ∧ p.Where = [] ∧ (atS' t p.Moment g).2 = true then [(atS' t p.Moment g).1] else p.Where
noncomputable def placedS (t : List T_where_Fix) (g : Int) (p : T_api_Photo) : T_api_Photo :=
  ⟨p.Id, p.File, p.Moment, p.Zone, placedP t g p, p.W, p.H, p.Turn, p.Stars, p.Tags, p.Caption, p.People, p.Hidden⟩

def smallP (p : T_api_Photo) : Prop := p.Where.length * 16 ≤ 140737488351232 ∧ p.Tags.length * 16 ≤ 140737488351232 ∧ p.People.length * 8 ≤ 140737488351232

theorem copy_eq {p : T_api_Photo} (h : smallP p) : where_copyPhoto p = some p := by
  obtain ⟨h1, h2, h3⟩ := h
  unfold where_copyPhoto slices_Clone_api_Place slices_Clone_string slices_Clone_int
  rw [gApp_ok (by simp only [List.length_nil]; omega), bnd_pure, bnd_pure, gApp_ok (by simp only [List.length_nil]; omega), bnd_pure, bnd_pure, gApp_ok (by simp only [List.length_nil]; omega), bnd_pure, bnd_pure]
  rfl

theorem placed_step {t : List T_where_Fix} (ht : TR t) {g : Int} (hg : 0 ≤ g ∧ g ≤ 9223372036854775807) {l : List T_api_Photo} (hl : l.length ≤ 1000) (hs : ∀ p ∈ l, smallP p) (next : Int × Int × Int × List T_api_Photo → Option (List T_api_Photo × Int)) {k : Nat} (hk : k < l.length) {acc : List T_api_Photo} (ha : acc.length ≤ k) :
    where_Placed_l2 t l next g (l.length : Int) (k : Int) acc = next (g, (l.length : Int), (k : Int) + 1, acc ++ [placedS t g l[k]]) := by
  unfold where_Placed_l2
  rw [cnd_if, if_pos (by omega), gAt_nat hk, bnd_pure, copy_eq (hs _ (List.getElem_mem hk)), bnd_pure, isMoment_eq, bnd_pure, cnd_if]
  have j3 : ∀ w, where_Placed_j3 g (l.length : Int) (k : Int) acc next l[k] w = next (g, (l.length : Int), (k : Int) + 1, acc ++ [⟨l[k].Id, l[k].File, l[k].Moment, l[k].Zone, w, l[k].W, l[k].H, l[k].Turn, l[k].Stars, l[k].Tags, l[k].Caption, l[k].People, l[k].Hidden⟩]) := fun w => by
    unfold where_Placed_j3
    rw [gApp_ok (by simp only [List.length_cons, List.length_nil]; omega), bnd_pure, gI_ok (by omega), bnd_pure]
  have e : placedS t g l[k] = ⟨l[k].Id, l[k].File, l[k].Moment, l[k].Zone, placedP t g l[k], l[k].W, l[k].H, l[k].Turn, l[k].Stars, l[k].Tags, l[k].Caption, l[k].People, l[k].Hidden⟩ := rfl
  rw [e]
  unfold placedP
  by_cases h1 : 0 ≤ l[k].Moment ∧ l[k].Moment ≤ 6311433599
  · rw [if_pos h1, cnd_if]
    by_cases h2 : l[k].Where = []
    · rw [if_pos (by rw [h2]; rfl), at_eq ht h1 hg, bnd_pure]
      cases hb : (atS' t l[k].Moment g).2 with
      | true => rw [cnd_true, j3, if_pos ⟨h1, h2, rfl⟩]
      | false => rw [cnd_false, j3, if_neg (fun h => by cases h.2.2)]
    · rw [if_neg (fun h => h2 (List.eq_nil_of_length_eq_zero (by omega))), j3, if_neg (fun h => h2 h.2.1)]
  · rw [if_neg h1, j3, if_neg (fun h => h1 h.1)]

theorem Placed_ok {t : List T_where_Fix} (ht : trackE t = 0) {g : Int} (hg : 0 ≤ g ∧ g ≤ 9223372036854775807) {l : List T_api_Photo} (hl : l.length ≤ 1000) (hs : ∀ p ∈ l, smallP p) : where_Placed t l g = some (l.map (placedS t g), 0) := by
  unfold where_Placed
  rw [CheckTrack_eq, bnd_pure, ht, cnd_if, if_neg (by simp), cnd_if, if_neg (by omega), cnd_if, if_neg (by omega)]
  have key := fix_of (F := fun next2 s => where_Placed_l2 t l next2 s.1 s.2.1 s.2.2.1 s.2.2.2) (fun s => some (s.2.2.2 ++ (l.drop s.2.2.1.toNat).map (placedS t g), 0))
    (fun s => s.1 = g ∧ s.2.1 = l.length ∧ 0 ≤ s.2.2.1 ∧ s.2.2.1 ≤ l.length ∧ (s.2.2.2.length : Int) ≤ s.2.2.1) (fun s => l.length - s.2.2.1.toNat) (by
      rintro next ⟨a, b, k, acc⟩ ⟨g0, g1, g2, g3, g4⟩ ih
      simp only at g0 g1 g2 g3 g4
      subst g0 g1
      obtain ⟨k, rfl⟩ := Int.eq_ofNat_of_zero_le g2
      simp only
      rw [Int.toNat_natCast]
      by_cases hk : k < l.length
      · refine (placed_step (track_ok ht) hg hl hs next hk (by omega)).trans ((ih _ ⟨rfl, rfl, by simp only; omega, by simp only; omega, by simp only [List.length_append, List.length_cons, List.length_nil]; omega⟩ (by simp only; omega)).trans ?_)
        simp only
        rw [show ((k : Int) + 1).toNat = k + 1 from by omega, List.drop_eq_getElem_cons hk]
        simp only [List.map_cons, List.append_assoc, List.cons_append, List.nil_append]
      · show where_Placed_l2 t l next a (l.length : Int) (k : Int) acc = _
        unfold where_Placed_l2 where_Placed_j1
        rw [cnd_if, if_neg (by omega), List.drop_of_length_le (by omega)]
        simp) (g, (l.length : Int), 0, []) ⟨rfl, rfl, by simp, by simp, by simp⟩
  rw [key]; simp

theorem equal_places (l : List T_api_Place) (hl : l.length ≤ 1000000000000000000) : slices_Equal_api_Place l l = some true := by
  unfold slices_Equal_api_Place
  rw [cnd_if, if_neg (fun h => h rfl)]
  refine (up (F := fun next1 s => slices_Equal_api_Place_l1 l l next1 s) l.length (fun _ => some true) fun next k hk ih => ?_)
  show slices_Equal_api_Place_l1 l l next (k : Int) = _
  unfold slices_Equal_api_Place_l1
  rw [cnd_if]
  by_cases h : k < l.length
  · rw [if_pos (by omega), gAt_nat h, bnd_pure, bnd_pure, show eq_api_Place l[k] l[k] = true from by simp [eq_api_Place], Bool.not_true, cnd_false, gI_ok (by omega), bnd_pure, ih h]
  · rw [if_neg (by omega)]
theorem equal_strings (l : List (List UInt8)) (hl : l.length ≤ 1000000000000000000) : slices_Equal_string l l = some true := by
  unfold slices_Equal_string
  rw [cnd_if, if_neg (fun h => h rfl)]
  refine (up (F := fun next1 s => slices_Equal_string_l1 l l next1 s) l.length (fun _ => some true) fun next k hk ih => ?_)
  show slices_Equal_string_l1 l l next (k : Int) = _
  unfold slices_Equal_string_l1
  rw [cnd_if]
  by_cases h : k < l.length
  · rw [if_pos (by omega), gAt_nat h, bnd_pure, bnd_pure, cnd_if, if_neg (fun h => h rfl), gI_ok (by omega), bnd_pure, ih h]
  · rw [if_neg (by omega)]
theorem equal_ints (l : List Int) (hl : l.length ≤ 1000000000000000000) : slices_Equal_int l l = some true := by
  unfold slices_Equal_int
  rw [cnd_if, if_neg (fun h => h rfl)]
  refine (up (F := fun next1 s => slices_Equal_int_l1 l l next1 s) l.length (fun _ => some true) fun next k hk ih => ?_)
  show slices_Equal_int_l1 l l next (k : Int) = _
  unfold slices_Equal_int_l1
  rw [cnd_if]
  by_cases h : k < l.length
  · rw [if_pos (by omega), gAt_nat h, bnd_pure, bnd_pure, cnd_if, if_neg (fun h => h rfl), gI_ok (by omega), bnd_pure, ih h]
  · rw [if_neg (by omega)]

theorem j2_same (r : List T_api_Photo × Int) {k : Nat} (hk : k < 1000) (next : Int → Option Bool) (p : T_api_Photo) (w : List T_api_Place)
    (hg : gAt r.1 (k : Int) = some ⟨p.Id, p.File, p.Moment, p.Zone, w, p.W, p.H, p.Turn, p.Stars, p.Tags, p.Caption, p.People, p.Hidden⟩)
    (hw : w.length ≤ 1000000000000000000) (ht : p.Tags.length ≤ 1000000000000000000) (hp : p.People.length ≤ 1000000000000000000) : Law_WherePlaced_j2 r (k : Int) next p w = next ((k : Int) + 1) := by
  unfold Law_WherePlaced_j2
  rw [hg, bnd_pure, equal_places _ hw, bnd_pure, Bool.not_true, cnd_false, equal_strings _ ht, bnd_pure, Bool.not_true, cnd_false, equal_ints _ hp, bnd_pure, Bool.not_true, cnd_false]
  iterate 10 rw [cnd_if, if_neg (fun h => h rfl)]
  rw [gI_ok (by omega), bnd_pure]

theorem placed_j2 {t : List T_where_Fix} {g : Int} {l : List T_api_Photo} (hl : l.length ≤ 1000) (hs : ∀ p ∈ l, smallP p) (next : Int → Option Bool) {k : Nat} (hk : k < l.length) : Law_WherePlaced_j2 (l.map (placedS t g), 0) (k : Int) next l[k] (placedP t g l[k]) = next ((k : Int) + 1) := by
  obtain ⟨h1, h2, h3⟩ := hs _ (List.getElem_mem hk)
  have hpl : (placedP t g l[k]).length ≤ 1000000000000000000 := by
    unfold placedP; split
    · simp
    · omega
  have hg : gAt (l.map (placedS t g)) (k : Int) = some (placedS t g l[k]) := by rw [gAt_nat (by simpa using hk), List.getElem_map]
  exact j2_same _ (by omega) next l[k] _ hg hpl (by omega) (by omega)

theorem wherePlacedS (t : List T_where_Fix) (l : List T_api_Photo) (g : Int) {φ1 φ2 : Prop} {ψid ψf ψm ψz ψw ψh ψt ψs ψc ψx φw φt φp : T_api_Photo → Prop} {ψw2 : T_api_Place → Prop} {ψt2 : List UInt8 → Prop} {ψp2 : Int → Prop} (_ : φ1)
    (hl : φ2 ∧ ∀ a ∈ l, ψid a ∧ ψf a ∧ ψm a ∧ ψz a ∧ ((φw a ∧ a.Where.length * 16 ≤ 140737488351232) ∧ ∀ x ∈ a.Where, ψw2 x) ∧ ψw a ∧ ψh a ∧ ψt a ∧ ψs a ∧ ((φt a ∧ a.Tags.length * 16 ≤ 140737488351232) ∧ ∀ x ∈ a.Tags, ψt2 x) ∧ ψc a ∧ ((φp a ∧ a.People.length * 8 ≤ 140737488351232) ∧ ∀ x ∈ a.People, ψp2 x) ∧ ψx a)
    (hg : -9223372036854775808 ≤ g ∧ g ≤ 9223372036854775807) : Law_WherePlaced t l g = some true := by
  have hs : ∀ p ∈ l, smallP p := fun p hp => by
    obtain ⟨_, _, _, _, ⟨⟨_, h1⟩, _⟩, _, _, _, _, ⟨⟨_, h2⟩, _⟩, _, ⟨⟨_, h3⟩, _⟩, _⟩ := hl.2 p hp
    exact ⟨h1, h2, h3⟩
  unfold Law_WherePlaced
  by_cases h0 : trackE t = 0 ∧ 0 ≤ g ∧ l.length ≤ 1000
  · obtain ⟨h0, h1, h2⟩ := h0
    rw [Placed_ok h0 ⟨h1, hg.2⟩ h2 hs, bnd_pure, R_TrackFault_eq, bnd_pure, unless_eq, bnd_pure, unless_eq, bnd_pure, h0, decide_eq_true h1, decide_eq_true (by omega), if_pos rfl, if_pos rfl, Law_first_eq _ (by simp), bnd_pure]
    rw [show firstS [0, 0, 0] = 0 from rfl, cnd_if, if_neg (by simp), cnd_if, if_neg (by simp), cnd_if, if_neg (by simp)]
    refine (up (F := fun next1 s => Law_WherePlaced_l1 t l g (l.map (placedS t g), 0) next1 s) l.length (fun _ => some true) fun next k hk ih => ?_)
    show Law_WherePlaced_l1 t l g (l.map (placedS t g), 0) next (k : Int) = _
    unfold Law_WherePlaced_l1
    rw [cnd_if]
    by_cases h : k < l.length
    · have j2 := placed_j2 (t := t) (g := g) h2 hs next h
      rw [ih h] at j2
      rw [if_pos (by omega), gAt_nat h, bnd_pure, cnd_if]
      unfold placedP at j2
      by_cases hw : l[k].Where = []
      · rw [if_pos (by rw [hw]; rfl), cnd_if]
        by_cases hm : 0 ≤ l[k].Moment ∧ l[k].Moment ≤ 6311433599
        · rw [if_pos hm.1, cnd_if, if_pos hm.2, R_At_eq (track_ok h0) hm, bnd_pure]
          cases hb : (atS' t l[k].Moment g).2 with
          | true => rw [if_pos ⟨hm, hw, hb⟩] at j2; rw [cnd_true]; exact j2
          | false => rw [if_neg (fun h => by rw [hb] at h; cases h.2.2)] at j2; rw [cnd_false]; exact j2
        · rw [if_neg (fun h => hm h.1)] at j2
          by_cases hm1 : 0 ≤ l[k].Moment
          · rw [if_pos hm1, cnd_if, if_neg (fun h => hm ⟨hm1, h⟩)]; exact j2
          · rw [if_neg hm1]; exact j2
      · rw [if_neg (fun h => hw h.2.1)] at j2
        rw [if_neg (fun h => hw (List.eq_nil_of_length_eq_zero (by omega)))]; exact j2
    · rw [if_neg (by omega)]
  · have hP : ∃ e : Int, where_Placed t l g = some ([], e) ∧ e ≠ 0 ∧ e = firstS [trackE t, if 0 ≤ g then 0 else 2, if (l.length : Int) ≤ 1000 then 0 else 4] := by
      unfold where_Placed
      rw [CheckTrack_eq, bnd_pure, cnd_if]
      by_cases a0 : trackE t = 0
      · rw [if_neg (fun h => h a0), cnd_if, a0]
        by_cases a1 : 0 ≤ g
        · rw [if_neg (by omega), cnd_if, if_pos (by omega), if_pos a1, if_neg (by omega)]
          exact ⟨4, rfl, by simp, rfl⟩
        · rw [if_pos (by omega), if_neg a1]
          exact ⟨2, rfl, by simp, rfl⟩
      · rw [if_pos a0]
        refine ⟨_, rfl, a0, ?_⟩
        unfold firstS
        rw [if_neg a0]
    obtain ⟨e, h1, h2, h3⟩ := hP
    rw [h1, bnd_pure, R_TrackFault_eq, bnd_pure, unless_eq, bnd_pure, unless_eq, bnd_pure]
    simp only [decide_eq_true_eq]
    rw [Law_first_eq _ (by simp), bnd_pure, ← h3, cnd_if, if_pos h2, cnd_if, if_pos rfl]
    rfl

end Go.M
