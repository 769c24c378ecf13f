/- Turns of turns; the hashes of an image turned; the law TopTurned, in plain Lean. Conditions: none. -/
import Derived.Test.YtfplifpbobfemaaDoorTtT
namespace Go.M
open Go.Md Go.Pl

/-! ### turns of turns -/

theorem comp_src {t u : Nat} (ht : 1 ≤ t ∧ t ≤ 8) (hu : 1 ≤ u ∧ u ≤ 8) (w h : Nat) : ∃ k : Nat, (1 ≤ k ∧ k ≤ 8) ∧ turnW u (turnW t w h) (turnH t w h) = turnW k w h ∧ turnH u (turnW t w h) (turnH t w h) = turnH k w h ∧
    ∀ x y : Int, srcS t w h (srcS u (turnW t w h : Nat) (turnH t w h : Nat) x y).1 (srcS u (turnW t w h : Nat) (turnH t w h : Nat) x y).2 = srcS k w h x y := by
  have ht' : t = 1 ∨ t = 2 ∨ t = 3 ∨ t = 4 ∨ t = 5 ∨ t = 6 ∨ t = 7 ∨ t = 8 := by omega
  have hu' : u = 1 ∨ u = 2 ∨ u = 3 ∨ u = 4 ∨ u = 5 ∨ u = 6 ∨ u = 7 ∨ u = 8 := by omega
  rcases ht' with rfl | rfl | rfl | rfl | rfl | rfl | rfl | rfl
  · rcases hu' with rfl | rfl | rfl | rfl | rfl | rfl | rfl | rfl
    · exact ⟨1, by omega, rfl, rfl, fun x y => by simp [srcS, turnW, turnH] <;> omega⟩
    · exact ⟨2, by omega, rfl, rfl, fun x y => by simp [srcS, turnW, turnH] <;> omega⟩
    · exact ⟨3, by omega, rfl, rfl, fun x y => by simp [srcS, turnW, turnH] <;> omega⟩
    · exact ⟨4, by omega, rfl, rfl, fun x y => by simp [srcS, turnW, turnH] <;> omega⟩
    · exact ⟨5, by omega, rfl, rfl, fun x y => by simp [srcS, turnW, turnH] <;> omega⟩
    · exact ⟨6, by omega, rfl, rfl, fun x y => by simp [srcS, turnW, turnH] <;> omega⟩
    · exact ⟨7, by omega, rfl, rfl, fun x y => by simp [srcS, turnW, turnH] <;> omega⟩
    · exact ⟨8, by omega, rfl, rfl, fun x y => by simp [srcS, turnW, turnH] <;> omega⟩
  · rcases hu' with rfl | rfl | rfl | rfl | rfl | rfl | rfl | rfl
    · exact ⟨2, by omega, rfl, rfl, fun x y => by simp [srcS, turnW, turnH] <;> omega⟩
    · exact ⟨1, by omega, rfl, rfl, fun x y => by simp [srcS, turnW, turnH] <;> omega⟩
    · exact ⟨4, by omega, rfl, rfl, fun x y => by simp [srcS, turnW, turnH] <;> omega⟩
    · exact ⟨3, by omega, rfl, rfl, fun x y => by simp [srcS, turnW, turnH] <;> omega⟩
    · exact ⟨8, by omega, rfl, rfl, fun x y => by simp [srcS, turnW, turnH] <;> omega⟩
    · exact ⟨7, by omega, rfl, rfl, fun x y => by simp [srcS, turnW, turnH] <;> omega⟩
    · exact ⟨6, by omega, rfl, rfl, fun x y => by simp [srcS, turnW, turnH] <;> omega⟩
    · exact ⟨5, by omega, rfl, rfl, fun x y => by simp [srcS, turnW, turnH] <;> omega⟩
  · rcases hu' with rfl | rfl | rfl | rfl | rfl | rfl | rfl | rfl
    · exact ⟨3, by omega, rfl, rfl, fun x y => by simp [srcS, turnW, turnH] <;> omega⟩
    · exact ⟨4, by omega, rfl, rfl, fun x y => by simp [srcS, turnW, turnH] <;> omega⟩
    · exact ⟨1, by omega, rfl, rfl, fun x y => by simp [srcS, turnW, turnH] <;> omega⟩
    · exact ⟨2, by omega, rfl, rfl, fun x y => by simp [srcS, turnW, turnH] <;> omega⟩
    · exact ⟨7, by omega, rfl, rfl, fun x y => by simp [srcS, turnW, turnH] <;> omega⟩
    · exact ⟨8, by omega, rfl, rfl, fun x y => by simp [srcS, turnW, turnH] <;> omega⟩
    · exact ⟨5, by omega, rfl, rfl, fun x y => by simp [srcS, turnW, turnH] <;> omega⟩
    · exact ⟨6, by omega, rfl, rfl, fun x y => by simp [srcS, turnW, turnH] <;> omega⟩
  · rcases hu' with rfl | rfl | rfl | rfl | rfl | rfl | rfl | rfl
    · exact ⟨4, by omega, rfl, rfl, fun x y => by simp [srcS, turnW, turnH] <;> omega⟩
    · exact ⟨3, by omega, rfl, rfl, fun x y => by simp [srcS, turnW, turnH] <;> omega⟩
    · exact ⟨2, by omega, rfl, rfl, fun x y => by simp [srcS, turnW, turnH] <;> omega⟩
    · exact ⟨1, by omega, rfl, rfl, fun x y => by simp [srcS, turnW, turnH] <;> omega⟩
    · exact ⟨6, by omega, rfl, rfl, fun x y => by simp [srcS, turnW, turnH] <;> omega⟩
    · exact ⟨5, by omega, rfl, rfl, fun x y => by simp [srcS, turnW, turnH] <;> omega⟩
    · exact ⟨8, by omega, rfl, rfl, fun x y => by simp [srcS, turnW, turnH] <;> omega⟩
    · exact ⟨7, by omega, rfl, rfl, fun x y => by simp [srcS, turnW, turnH] <;> omega⟩
  · rcases hu' with rfl | rfl | rfl | rfl | rfl | rfl | rfl | rfl
    · exact ⟨5, by omega, rfl, rfl, fun x y => by simp [srcS, turnW, turnH] <;> omega⟩
    · exact ⟨6, by omega, rfl, rfl, fun x y => by simp [srcS, turnW, turnH] <;> omega⟩
    · exact ⟨7, by omega, rfl, rfl, fun x y => by simp [srcS, turnW, turnH] <;> omega⟩
    · exact ⟨8, by omega, rfl, rfl, fun x y => by simp [srcS, turnW, turnH] <;> omega⟩
    · exact ⟨1, by omega, rfl, rfl, fun x y => by simp [srcS, turnW, turnH] <;> omega⟩
    · exact ⟨2, by omega, rfl, rfl, fun x y => by simp [srcS, turnW, turnH] <;> omega⟩
    · exact ⟨3, by omega, rfl, rfl, fun x y => by simp [srcS, turnW, turnH] <;> omega⟩
    · exact ⟨4, by omega, rfl, rfl, fun x y => by simp [srcS, turnW, turnH] <;> omega⟩
  · rcases hu' with rfl | rfl | rfl | rfl | rfl | rfl | rfl | rfl
    · exact ⟨6, by omega, rfl, rfl, fun x y => by simp [srcS, turnW, turnH] <;> omega⟩
    · exact ⟨5, by omega, rfl, rfl, fun x y => by simp [srcS, turnW, turnH] <;> omega⟩
    · exact ⟨8, by omega, rfl, rfl, fun x y => by simp [srcS, turnW, turnH] <;> omega⟩
    · exact ⟨7, by omega, rfl, rfl, fun x y => by simp [srcS, turnW, turnH] <;> omega⟩
    · exact ⟨4, by omega, rfl, rfl, fun x y => by simp [srcS, turnW, turnH] <;> omega⟩
    · exact ⟨3, by omega, rfl, rfl, fun x y => by simp [srcS, turnW, turnH] <;> omega⟩
    · exact ⟨2, by omega, rfl, rfl, fun x y => by simp [srcS, turnW, turnH] <;> omega⟩
    · exact ⟨1, by omega, rfl, rfl, fun x y => by simp [srcS, turnW, turnH] <;> omega⟩
  · rcases hu' with rfl | rfl | rfl | rfl | rfl | rfl | rfl | rfl
    · exact ⟨7, by omega, rfl, rfl, fun x y => by simp [srcS, turnW, turnH] <;> omega⟩
    · exact ⟨8, by omega, rfl, rfl, fun x y => by simp [srcS, turnW, turnH] <;> omega⟩
    · exact ⟨5, by omega, rfl, rfl, fun x y => by simp [srcS, turnW, turnH] <;> omega⟩
    · exact ⟨6, by omega, rfl, rfl, fun x y => by simp [srcS, turnW, turnH] <;> omega⟩
    · exact ⟨3, by omega, rfl, rfl, fun x y => by simp [srcS, turnW, turnH] <;> omega⟩
    · exact ⟨4, by omega, rfl, rfl, fun x y => by simp [srcS, turnW, turnH] <;> omega⟩
    · exact ⟨1, by omega, rfl, rfl, fun x y => by simp [srcS, turnW, turnH] <;> omega⟩
    · exact ⟨2, by omega, rfl, rfl, fun x y => by simp [srcS, turnW, turnH] <;> omega⟩
  · rcases hu' with rfl | rfl | rfl | rfl | rfl | rfl | rfl | rfl
    · exact ⟨8, by omega, rfl, rfl, fun x y => by simp [srcS, turnW, turnH] <;> omega⟩
    · exact ⟨7, by omega, rfl, rfl, fun x y => by simp [srcS, turnW, turnH] <;> omega⟩
    · exact ⟨6, by omega, rfl, rfl, fun x y => by simp [srcS, turnW, turnH] <;> omega⟩
    · exact ⟨5, by omega, rfl, rfl, fun x y => by simp [srcS, turnW, turnH] <;> omega⟩
    · exact ⟨2, by omega, rfl, rfl, fun x y => by simp [srcS, turnW, turnH] <;> omega⟩
    · exact ⟨1, by omega, rfl, rfl, fun x y => by simp [srcS, turnW, turnH] <;> omega⟩
    · exact ⟨4, by omega, rfl, rfl, fun x y => by simp [srcS, turnW, turnH] <;> omega⟩
    · exact ⟨3, by omega, rfl, rfl, fun x y => by simp [srcS, turnW, turnH] <;> omega⟩

/-- An image turned. -/
def turnI (t w h : Nat) (l : List Int) : T_api_Image := ⟨turnW t w h, turnH t w h, imgL (turnW t w h) (turnH t w h) (turnPx t w h l)⟩

theorem turn_turn {t u : Nat} (ht : 1 ≤ t ∧ t ≤ 8) (hu : 1 ≤ u ∧ u ≤ 8) {w h : Nat} {l : List Int} (m : Im w h l) : ∃ k : Nat, (1 ≤ k ∧ k ≤ 8) ∧ turnI u (turnW t w h) (turnH t w h) (imgL (turnW t w h) (turnH t w h) (turnPx t w h l)) = turnI k w h l := by
  obtain ⟨k, hk, e1, e2, e3⟩ := comp_src ht hu w h
  refine ⟨k, hk, ?_⟩
  have p : px3 (turnW t w h) (turnH t w h) (turnPx t w h l) := fun x y hx hy => (turnPx_ok m ht hx hy).1
  unfold turnI
  rw [turn_px hu p]
  have : imgL (turnW u (turnW t w h) (turnH t w h)) (turnH u (turnW t w h) (turnH t w h)) (fun x y => turnPx t w h l (srcS u (turnW t w h : Nat) (turnH t w h : Nat) x y).1.toNat (srcS u (turnW t w h : Nat) (turnH t w h : Nat) x y).2.toNat) =
      imgL (turnW u (turnW t w h) (turnH t w h)) (turnH u (turnW t w h) (turnH t w h)) (turnPx k w h l) := img_congr fun x y hx hy => by
    obtain ⟨a, b, e, ha, hb⟩ := srcT hu hx hy
    have := e3 x y
    rw [e] at this
    simp only at this
    unfold turnPx
    rw [e]
    simp only [Int.toNat_natCast]
    rw [this]
  rw [this, e1, e2]

def turnS (n : Int) : T_edit_Step := ⟨1, n, 0, 0, 0⟩
theorem turn_fold {w h : Nat} {l : List Int} (m : Im w h l) : ∀ (ts : List Int) (t : Nat), (1 ≤ t ∧ t ≤ 8) → (∀ n ∈ ts, 1 ≤ n ∧ n ≤ 8) → ∃ k : Nat, (1 ≤ k ∧ k ≤ 8) ∧ (ts.map turnS).foldl (fun m s => stepI s m) (turnI t w h l) = turnI k w h l
  | [], t, ht, _ => ⟨t, ht, rfl⟩
  | n :: ts, t, ht, hs => by
    have hn := hs n (by simp)
    obtain ⟨k, hk, e⟩ := turn_turn ht (u := n.toNat) (by omega) m
    obtain ⟨k', hk', e'⟩ := turn_fold m ts k hk fun x hx => hs x (by simp [hx])
    refine ⟨k', hk', ?_⟩
    rw [List.map_cons, List.foldl_cons]
    have : stepI (turnS n) (turnI t w h l) = turnI k w h l := by
      rw [← e]
      exact step1 rfl
    rw [this]; exact e'

/-! ### the hash -/

def greyQ (w : Nat) (l : List Int) (x y : Nat) : Int := wU8 ((299 * ofL (l.drop (3 * (y * w + x))) 0 + 587 * ofL (l.drop (3 * (y * w + x))) 1 + 114 * ofL (l.drop (3 * (y * w + x))) 2 + 500).tdiv 1000)
def greyPx (w : Nat) (l : List Int) (x y : Nat) : List Int := [greyQ w l x y, greyQ w l x y, greyQ w l x y]
theorem wU8_in (x : Int) : 0 ≤ wU8 x ∧ wU8 x ≤ 255 := by unfold wU8; omega
theorem greyPx_ok (w : Nat) (l : List Int) (x y : Nat) : (greyPx w l x y).length = 3 ∧ ∀ v ∈ greyPx w l x y, 0 ≤ v ∧ v ≤ 255 := ⟨rfl, fun v hv => by
  have : v = greyQ w l x y := by simpa [greyPx] using hv
  rw [this]; exact wU8_in _⟩
theorem grey_im {w h : Nat} {l : List Int} (m : Im w h l) : Im w h (imgL w h (greyPx w l)) := imgL_im ⟨m.w1, m.w2⟩ ⟨m.h1, m.h2⟩ fun x y _ _ => greyPx_ok w l x y
theorem pix_grey_eq {w h : Nat} {l : List Int} (m : Im w h l) : pix_grey ⟨w, h, l⟩ = some ⟨w, h, imgL w h (greyPx w l)⟩ := by
  have hA := m.area
  have hw := m.w2
  have hh := m.h2
  have hpx : ∀ k, k < w * h → (greyPx w l (k % w) (k / w)).length = 3 := fun _ _ => rfl
  unfold pix_grey
  simp only
  rw [blank_eq hA (by omega) (greyPx w l), bnd_pure]
  refine (grid (F2 := fun next2 s => pix_grey_l2 ⟨w, h, l⟩ ⟨w, h, fill3 w h (greyPx w l) 0⟩ next2 s.1 s.2.1 s.2.2)
    (G := fun y next next4 s => pix_grey_l4 ⟨w, h, l⟩ ⟨w, h, fill3 w h (greyPx w l) 0⟩ (y : Int) l next next4 s.1 s.2)
    w h (fill3 w h (greyPx w l)) (fun q => (l, q)) (fun q => some ⟨w, h, q⟩) (fun next y hy => ?_) (fun next => ?_) (fun y next next4 x hy hx => ?_) (fun y next next4 hy => ?_)).trans ?_
  · show pix_grey_l2 _ _ next (y : Int) l _ = _
    unfold pix_grey_l2
    rw [cnd_if, if_pos (by simp only; omega)]
  · show pix_grey_l2 _ _ next _ l _ = _
    unfold pix_grey_l2
    rw [cnd_if, if_neg (by simp only; omega)]; rfl
  · show pix_grey_l4 _ _ _ l next next4 (x : Int) _ = _
    unfold pix_grey_l4
    have hb : ∀ j, j < 3 → 0 ≤ ofL (l.drop (3 * (y * w + x))) j ∧ ofL (l.drop (3 * (y * w + x))) j ≤ 255 := fun j hj => by
      rw [ofL_col hj]; exact colS_in m hx hy
    have h0 := hb 0 (by omega)
    have h1 := hb 1 (by omega)
    have h2 := hb 2 (by omega)
    rw [cnd_if, if_pos (by simp only; omega), pix_at_eq m hx hy, bnd_pure, gK_ok (by omega), bnd_pure, gI_ok (by omega), bnd_pure, gK_ok (by omega), bnd_pure, gI_ok (by omega), bnd_pure, gI_ok (by omega), bnd_pure,
      gK_ok (by omega), bnd_pure, gI_ok (by omega), bnd_pure, gI_ok (by omega), bnd_pure, gI_ok (by omega), bnd_pure, gQuo_ok (by omega) (by omega), bnd_pure]
    simp only
    rw [pix_set_eq hpx hA hx hy (px := greyPx w l) (by rfl), bnd_pure, gI_ok (by omega), bnd_pure]
  · show pix_grey_l4 _ _ _ l next next4 _ _ = _
    unfold pix_grey_l4 pix_grey_j3
    rw [cnd_if, if_neg (by simp only; omega), gI_ok (by omega), bnd_pure, Nat.succ_mul]
  · rw [fill3_all]

/-- The bits are set one by one; what comes out does not matter. -/
theorem bits_ex {l : List Int} (m : Im 9 8 l) : ∃ r, fix (fun next1 s => pix_hash_l1 ⟨(9 : Nat), (8 : Nat), l⟩ next1 s.1 s.2) (0, 0) = some r := by
  have inner : ∀ (y : Nat), y < 8 → ∀ v : Int, ∃ r : Int, True ∧ ∀ p : (Int × Int) → Option Int, fix (fun next3 s => pix_hash_l3 ⟨(9 : Nat), (8 : Nat), l⟩ (y : Int) p next3 s.1 s.2) (v, 0) = pix_hash_j2 (y : Int) p r := by
    intro y hy v
    refine fix_runP (F := fun (p : (Int × Int) → Option Int) next3 s => pix_hash_l3 ⟨(9 : Nat), (8 : Nat), l⟩ (y : Int) p next3 s.1 s.2) (fun p r => pix_hash_j2 (y : Int) p r) (fun s => 0 ≤ s.2 ∧ s.2 ≤ 8) (fun s => (8 - s.2).toNat) (fun _ => True) (fun s hs => ?_) (v, 0) (by simp)
    obtain ⟨v, x⟩ := s
    obtain ⟨a, rfl⟩ := Int.eq_ofNat_of_zero_le hs.1
    have hx8 : a ≤ 8 := by have := hs.2; simp only at this; omega
    by_cases hx : a < 8
    · right
      have e1 := pix_at_eq m (a := a) (b := y) (by omega) hy
      have e2 := pix_at_eq m (a := a + 1) (b := y) (by omega) hy
      rw [Int.natCast_add] at e2
      have st : ∀ (p : (Int × Int) → Option Int) next3, pix_hash_l3 ⟨(9 : Nat), (8 : Nat), l⟩ (y : Int) p next3 v (a : Int) = next3 ((if ofL (l.drop (3 * (y * 9 + a))) 0 < ofL (l.drop (3 * (y * 9 + (a + 1)))) 0 then wU64 (bOr 64 v (wU64 (1 * 2 ^ min ((a : Int) + 8 * (y : Int)).toNat 64))) else v), (a : Int) + 1) := by
        intro p next3
        unfold pix_hash_l3
        rw [cnd_if, if_pos (by omega), e1, bnd_pure, gI_ok (by omega), bnd_pure]
        show bnd (pix_at ⟨((9 : Nat) : Int), ((8 : Nat) : Int), l⟩ ((a : Int) + ((1 : Nat) : Int)) (y : Int)) _ = _
        rw [e2, bnd_pure, cnd_if]
        unfold pix_hash_j4
        by_cases hc : ofL (l.drop (3 * (y * 9 + a))) 0 < ofL (l.drop (3 * (y * 9 + (a + 1)))) 0
        · rw [if_pos hc, if_pos hc, gI_ok (by omega), bnd_pure, gI_ok (by omega), bnd_pure]
          unfold gShlW
          rw [if_pos (by omega), bnd_pure, gI_ok (by omega), bnd_pure]
        · rw [if_neg hc, if_neg hc, gI_ok (by omega), bnd_pure]
      exact ⟨_, ⟨by show 0 ≤ (a : Int) + 1; omega, by show (a : Int) + 1 ≤ 8; omega⟩, by show (8 - ((a : Int) + 1)).toNat < (8 - (a : Int)).toNat; omega, fun p next => st p next⟩
    · left
      refine ⟨v, trivial, fun p next => ?_⟩
      show pix_hash_l3 _ _ p next v (a : Int) = _
      unfold pix_hash_l3
      rw [cnd_if, if_neg (by omega)]
  have step : ∀ s : Int × Int, (0 ≤ s.2 ∧ s.2 ≤ 8) → (∃ r : Int, True ∧ ∀ next, pix_hash_l1 ⟨(9 : Nat), (8 : Nat), l⟩ next s.1 s.2 = some r) ∨ (∃ b : Int × Int, (0 ≤ b.2 ∧ b.2 ≤ 8) ∧ (8 - b.2).toNat < (8 - s.2).toNat ∧ ∀ next, pix_hash_l1 ⟨(9 : Nat), (8 : Nat), l⟩ next s.1 s.2 = next b) := by
    intro s hs
    obtain ⟨v, y⟩ := s
    obtain ⟨b, rfl⟩ := Int.eq_ofNat_of_zero_le hs.1
    have hy8 : b ≤ 8 := by have := hs.2; simp only at this; omega
    by_cases hy : b < 8
    · right
      obtain ⟨r, _, hr⟩ := inner b hy v
      refine ⟨(r, (b : Int) + 1), ⟨by show 0 ≤ (b : Int) + 1; omega, by show (b : Int) + 1 ≤ 8; omega⟩, by show (8 - ((b : Int) + 1)).toNat < (8 - (b : Int)).toNat; omega, fun next => ?_⟩
      show pix_hash_l1 _ next v (b : Int) = _
      unfold pix_hash_l1
      rw [cnd_if, if_pos (by omega), hr]
      unfold pix_hash_j2
      rw [gI_ok (by omega), bnd_pure]
    · left
      refine ⟨v, trivial, fun next => ?_⟩
      show pix_hash_l1 _ next v (b : Int) = _
      unfold pix_hash_l1
      rw [cnd_if, if_neg (by omega)]
  obtain ⟨r, hr, _⟩ := fix_run (F := fun next1 s => pix_hash_l1 ⟨(9 : Nat), (8 : Nat), l⟩ next1 s.1 s.2) (fun s => 0 ≤ s.2 ∧ s.2 ≤ 8) (fun s => (8 - s.2).toNat) (fun _ => True) step (0, 0) (by simp)
  exact ⟨r, hr⟩

theorem hash_ex {w h : Nat} {l : List Int} (m : Im w h l) : ∃ r, pix_hash ⟨w, h, l⟩ = some r := by
  unfold pix_hash
  rw [pix_grey_eq m, bnd_pure]
  have := pix_scaled_eq (grey_im m) (W := 9) (H := 8) (by omega) (by omega)
  rw [show ((9 : Nat) : Int) = 9 from rfl, show ((8 : Nat) : Int) = 8 from rfl] at this
  rw [this, bnd_pure]
  exact bits_ex (scale_im (by omega) (by omega))
theorem hash_val {w h : Nat} {l : List Int} (m : Im w h l) : pix_hash ⟨w, h, l⟩ = some (val (pix_hash ⟨w, h, l⟩)) := by
  obtain ⟨r, hr⟩ := hash_ex m
  rw [hr]; rfl

/-! ### the hashes of an image turned -/

noncomputable def hashK (w h : Nat) (l : List Int) (i : Nat) : Int := val (pix_hash (turnI (i + 1) w h l))
noncomputable def hashL (w h : Nat) (l : List Int) (k : Nat) : List Int := (List.range 8).map fun i => if i < k then hashK w h l i else 0

theorem fix_way {α ρ : Type} {F : (α → Option ρ) → α → Option ρ} {o : Option ρ} (st : Nat → α) (n : Nat) (more : ∀ k, k < n → ∀ next, F next (st k) = next (st (k + 1))) (stop : ∀ next, F next (st n) = o) : fix F (st 0) = o := by
  have key : ∀ m, m ≤ n → fix F (st (n - m)) = o := by
    intro m
    induction m with
    | zero => intro _; exact fix_done stop
    | succ m ih =>
      intro h
      rw [fix_goto (b := st (n - (m + 1) + 1)) (more _ (by omega)), show n - (m + 1) + 1 = n - m from by omega]
      exact ih (by omega)
  simpa using key n (Nat.le_refl _)

theorem hashL_len (w h : Nat) (l : List Int) (k : Nat) : (hashL w h l k).length = 8 := by unfold hashL; simp
theorem hashL_at (w h : Nat) (l : List Int) (k : Nat) {i : Nat} (hi : i < 8) : (hashL w h l k)[i]? = some (if i < k then hashK w h l i else 0) := by
  unfold hashL
  rw [List.getElem?_map, List.getElem?_range hi]; rfl
theorem hashL_set (w h : Nat) (l : List Int) {k : Nat} (hk : k < 8) : (hashL w h l k).set k (hashK w h l k) = hashL w h l (k + 1) := by
  refine List.ext_getElem? fun i => ?_
  rcases Nat.lt_or_ge i 8 with hi | hi
  · rw [List.getElem?_set, hashL_at w h l (k + 1) hi, hashL_len, if_pos hk, hashL_at w h l k hi]
    by_cases h : k = i
    · subst h; rw [if_pos rfl, if_pos (by omega)]
    · rw [if_neg h]
      by_cases h' : i < k
      · rw [if_pos h', if_pos (by omega)]
      · rw [if_neg h', if_neg (by omega)]
  · rw [List.getElem?_eq_none (by rw [List.length_set, hashL_len]; omega), List.getElem?_eq_none (by rw [hashL_len]; omega)]

theorem HashTurned_eq {w h : Nat} {l : List Int} (m : Im w h l) : pix_HashTurned ⟨w, h, l⟩ = some (hashL w h l 8, 0) := by
  unfold pix_HashTurned
  rw [pix_Check_eq, bnd_pure, im_imgE m, cnd_if, if_neg (fun h => h rfl), gMake_ok (by decide), bnd_pure]
  have e0 : hashL w h l 0 = List.replicate (8 : Int).toNat 0 := rfl
  rw [← e0]
  refine fix_way (F := fun next1 s => pix_HashTurned_l1 ⟨w, h, l⟩ (hashL w h l 0) next1 s.1 s.2) (fun k => ((k : Int), hashL w h l k)) 8 (fun k hk next => ?_) (fun next => ?_)
  · show pix_HashTurned_l1 _ _ next (k : Int) (hashL w h l k) = _
    have hl := hashL_len w h l k
    have ht := pix_turned_eq m (t := k + 1) (by omega)
    rw [Int.natCast_add] at ht
    have hh := hash_val (turn_im m (t := k + 1) (by omega))
    unfold pix_HashTurned_l1
    rw [hashL_len, cnd_if, if_pos (by omega), gI_ok (by omega), bnd_pure]
    show bnd (pix_turned ⟨w, h, l⟩ ((k : Int) + ((1 : Nat) : Int))) _ = _
    rw [ht, bnd_pure, hh, bnd_pure, gAt_nat (by omega), bnd_pure, gSet_ok (by omega) (by rw [Int.toNat_natCast]; omega), bnd_pure, bnd_pure, Int.toNat_natCast]
    show next ((k : Int) + 1, (hashL w h l k).set k (hashK w h l k)) = next (((k + 1 : Nat) : Int), hashL w h l (k + 1))
    rw [hashL_set w h l hk]; rfl
  · show pix_HashTurned_l1 _ _ next _ _ = _
    unfold pix_HashTurned_l1
    rw [hashL_len, cnd_if, if_neg (by omega)]

theorem Contains_yes {a : List Int} {v : Int} (h : v ∈ a) (hl : a.length ≤ 1000000) : slices_Contains_uint64 a v = some true := by
  have hx : ∃ x, x ∈ a ∧ (fun x => decide (v = x)) x = true := ⟨v, h, by simp⟩
  have hlt := List.findIdx_lt_length_of_exists hx
  have hI : slices_Index_uint64 a v = some ((a.findIdx fun x => decide (v = x) : Nat) : Int) := by
    unfold slices_Index_uint64
    refine fix_upto 0 (a.findIdx fun x => decide (v = x)) (Nat.zero_le _) (fun next k _ hk => ?_) (fun next => ?_)
    · show slices_Index_uint64_l1 a v next (k : Int) = _
      unfold slices_Index_uint64_l1
      have := List.not_of_lt_findIdx hk
      rw [cnd_if, if_pos (by omega), gAt_nat (by omega), bnd_pure]
      rw [show decide (v = a[k]) = false from by simpa using this, cnd_false, gI_ok (by omega), bnd_pure]
    · show slices_Index_uint64_l1 a v next _ = _
      unfold slices_Index_uint64_l1
      have := List.findIdx_getElem (w := hlt)
      rw [cnd_if, if_pos (by omega), gAt_nat hlt, bnd_pure]
      rw [show decide (v = a[a.findIdx fun x => decide (v = x)]) = true from this, cnd_true]
  unfold slices_Contains_uint64
  rw [hI, bnd_pure, decide_eq_true (by omega)]

/-! ### the law -/

theorem awakeTop : Top_awakeEdit = some true := by
  have h0 : stepsE [⟨9, 0, 0, 0, 0⟩] = 0 := by
    unfold stepsE stepE badS formS usedS; simp [fstE]
  have hT : edit_Text [⟨9, 0, 0, 0, 0⟩] = some ([105, 110, 118, 101, 114, 116, 10], 0) := by
    unfold edit_Text
    rw [Check_eq, bnd_pure, h0, cnd_if, if_neg (by simp)]
    refine (fix_goto (F := fun next2 s => edit_Text_l2 [⟨9, 0, 0, 0, 0⟩] next2 s.1 s.2) (1, [105, 110, 118, 101, 114, 116, 10]) fun next => ?_).trans (fix_done fun next => rfl)
    show edit_Text_l2 [⟨9, 0, 0, 0, 0⟩] next 0 [] = _
    unfold edit_Text_l2
    rw [cnd_if, if_pos (by simp)]
    have hg : gAt [(⟨9, 0, 0, 0, 0⟩ : T_edit_Step)] 0 = some ⟨9, 0, 0, 0, 0⟩ := rfl
    rw [hg, bnd_pure, line_invert, bnd_pure]
    rfl
  unfold Top_awakeEdit
  rw [hT, bnd_pure, cnd_if, if_pos rfl]
  rfl

theorem last_eq {m : T_api_Image} (hb : ∀ v ∈ m.Pixels, 0 ≤ v ∧ v ≤ 255) (ts : List Int) : Top_TopTurned_j1 m (ts.map turnS) = some true := by
  unfold Top_TopTurned_j1
  rw [Render_eq _ hb, bnd_pure, cnd_if]
  by_cases h0 : (renderS m (ts.map turnS)).2 = 0
  · rw [if_neg (fun h => h h0)]
    obtain ⟨w, h, e, im, _, _, ho, _, hr⟩ := renderS_ok h0 hb
    have hn : ∀ n ∈ ts, 1 ≤ n ∧ n ≤ 8 := fun n hn => nums1 (ho (turnS n) (List.mem_map.2 ⟨n, hn, rfl⟩)) rfl
    have e1 : m = turnI 1 w h m.Pixels := by
      have eW : turnW 1 w h = w := rfl
      have eH : turnH 1 w h = h := rfl
      unfold turnI
      rw [eW, eH, turn_one im]
      exact e
    obtain ⟨k, hk, ek⟩ := turn_fold im ts 1 (by omega) hn
    rw [← e1] at ek
    rw [hr, ek]
    have hT := HashTurned_eq im
    rw [← e] at hT
    have imk := turn_im im hk
    have hH : pix_Hash (turnI k w h m.Pixels) = some (hashK w h m.Pixels (k - 1), 0) := by
      unfold pix_Hash turnI
      rw [pix_Check_eq, bnd_pure, im_imgE imk, cnd_if, if_neg (fun h => h rfl), hash_val imk, bnd_pure]
      unfold hashK turnI
      rw [show k - 1 + 1 = k from by omega]
    rw [hT, bnd_pure, hH, bnd_pure]
    simp only [decide_true, cnd_true]
    have hmem : hashK w h m.Pixels (k - 1) ∈ hashL w h m.Pixels 8 := by
      refine List.mem_iff_getElem?.2 ⟨k - 1, ?_⟩
      rw [hashL_at _ _ _ _ (by omega), if_pos (by omega)]
    rw [Contains_yes hmem (by rw [hashL_len]; omega), bnd_pure]
  · rw [if_pos h0]

theorem law_turned {m : T_api_Image} (hb : ∀ v ∈ m.Pixels, 0 ≤ v ∧ v ≤ 255) (ts : List Int) (hl : ts.length ≤ 1048576) : Top_TopTurned m ts = some true := by
  unfold Top_TopTurned
  rw [awakeTop, bnd_pure, show (!true) = false from rfl, cnd_false]
  refine fix_way (F := fun next2 s => Top_TopTurned_l2 m ts next2 s.1 s.2) (fun k => ((k : Int), (ts.take k).map turnS)) ts.length (fun k hk next => ?_) (fun next => ?_)
  · show Top_TopTurned_l2 m ts next (k : Int) ((ts.take k).map turnS) = _
    unfold Top_TopTurned_l2
    rw [cnd_if, if_pos (by omega), gAt_nat hk, bnd_pure, gApp_ok (by rw [List.length_map, List.length_take, Nat.min_eq_left (by omega), List.length_singleton]; omega), bnd_pure, gI_ok (by omega), bnd_pure]
    congr 2
    rw [List.take_succ_eq_append_getElem hk, List.map_append]; rfl
  · show Top_TopTurned_l2 m ts next _ _ = _
    unfold Top_TopTurned_l2
    rw [cnd_if, if_neg (by omega), List.take_length]
    exact last_eq hb ts

theorem topTurnedS (m : T_api_Image) (ts : List Int) {φ1 φ2 φ3 φ4 φ5 : Prop} (hm : φ1 ∧ φ2 ∧ (φ3 ∧ ∀ v ∈ m.Pixels, 0 ≤ v ∧ v ≤ 255)) (hl : (φ4 ∧ ts.length ≤ 1048576) ∧ φ5) : Top_TopTurned m ts = some true := law_turned hm.2.2.2 ts hl.1.2
end Go.M
