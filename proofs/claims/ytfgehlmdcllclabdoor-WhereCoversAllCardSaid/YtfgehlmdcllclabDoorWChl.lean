/- WhereCellsHold: the law. Conditions: none. -/
import Derived.Test.YtfgehlmdcllclabDoorWCel
import Derived.KernelRfl
namespace Go.M
open Go.Md Go.Pl Go.Vc.Where

theorem awake_eq : Keep_awakeWhere = some true := by kernel_rfl

/-! ### right cells -/

theorem trim_all {s : List UInt8} (hs : s.length ≤ 1000) (h : ∀ c ∈ s, dig c) : strings_Trim s [48, 49, 50, 51] = some [] := by
  have tr : strings_trimRightASCII s digS = some ([], digS) := by
    unfold strings_trimRightASCII
    obtain ⟨r, hr, rfl⟩ := fix_run (F := fun next1 s => strings_trimRightASCII_l1 next1 s.1 s.2) (fun a => a.1.length ≤ 1000 ∧ (∀ c ∈ a.1, dig c) ∧ a.2 = digS) (fun a => a.1.length) (fun (r : List UInt8 × (Nat → Bool)) => r = ([], digS)) (by
      rintro ⟨x, m⟩ ⟨hl, h2, h3⟩
      simp only at hl h2 h3
      subst h3
      rcases List.eq_nil_or_concat x with rfl | ⟨ini, c, rfl⟩
      · exact .inl ⟨([], digS), rfl, fun _ => rfl⟩
      · simp only [List.concat_eq_append, List.length_append, List.length_singleton] at *
        have hd : 48 ≤ c.toNat ∧ c.toNat ≤ 51 := h2 c (by simp)
        have e1 : gI (((ini.length + 1 : Nat) : Int) - 1) = some (ini.length : Int) := by rw [gI_ok (by omega)]; congr 1; omega
        have e2 : gOct (ini ++ [c]) (ini.length : Int) = some (c.toNat : Int) := by rw [gOct_nat (by simp)]; simp
        have e3 : gCut (ini ++ [c]) 0 (ini.length : Int) = some ini := by rw [gCut_to (by simp; omega)]; simp
        refine .inr ⟨(ini, digS), ⟨by simp; omega, fun d hd => h2 d (by simp [hd]), rfl⟩, by simp, fun next => ?_⟩
        show strings_trimRightASCII_l1 next (ini ++ [c]) digS = _
        unfold strings_trimRightASCII_l1
        rw [List.length_append, List.length_singleton, cnd_if, if_pos (by omega), e1, bnd_pure, e2, bnd_pure, has_eq, bnd_pure, bnd_pure, e3, bnd_pure]
        simp [hd]) (s, digS) ⟨hs, h, rfl⟩
    exact hr
  have tl : strings_trimLeftASCII [] digS = some ([], digS) := by
    unfold strings_trimLeftASCII
    exact fix_done fun _ => rfl
  unfold strings_Trim
  by_cases h0 : s = []
  · subst h0; rfl
  · rw [cnd_if, if_neg h0]
    show strings_Trim_j1 s [48, 49, 50, 51] = _
    unfold strings_Trim_j1
    rw [set_eq, bnd_pure, cnd_true, tr, bnd_pure, tl, bnd_pure]

theorem check_all {s : List UInt8} (hs : s.length ≤ 24) (h : ∀ c ∈ s, dig c) : where_checkCell s = some 0 := by
  unfold where_checkCell
  rw [cnd_if, if_neg (by omega), trim_all (by omega) h, bnd_pure]
  rfl

/-! ### a row and a column, and their digits -/

theorem backS_dig {r c : Int} (n : Nat) : ∀ d ∈ backS r c n, 48 ≤ d ∧ d ≤ 51 := by
  induction n with
  | zero => intro d h; cases h
  | succ n ih =>
    intro d h
    rcases List.mem_cons.1 h with rfl | h
    · omega
    · exact ih d h
theorem toStr_dig {l : List Int} (h : ∀ d ∈ l, 48 ≤ d ∧ d ≤ 51) : ∀ c ∈ toStr l, dig c := by
  intro c hc
  obtain ⟨d, hd, rfl⟩ := List.mem_map.1 hc
  have := h d hd
  unfold dig
  rw [UInt8.toNat_ofNat_of_lt' (by have : d.toNat < 256 := by omega
                                   simpa [UInt8.size] using this)]
  omega
theorem toStr_len (l : List Int) : (toStr l).length = l.length := by simp [toStr]
theorem toStr_get (l : List Int) (k : Nat) (h : k < (toStr l).length) : (toStr l)[k] = UInt8.ofNat (l[k]'(by rw [← toStr_len]; exact h)).toNat := List.getElem_map _
theorem dg_toStr {l : List Int} (h : ∀ d ∈ l, 48 ≤ d ∧ d ≤ 51) {k : Nat} (hk : k < l.length) : dg (toStr l) k = l[k] - 48 := by
  have := h l[k] (List.getElem_mem hk)
  unfold dg
  rw [List.getD_eq_getElem?_getD, List.getElem?_eq_getElem (by rw [toStr_len]; exact hk)]
  show (((toStr l)[k]'(by rw [toStr_len]; exact hk)).toNat : Int) - 48 = _
  rw [toStr_get, UInt8.toNat_ofNat_of_lt' (by have : (l[k]).toNat < 256 := by omega
                                              simpa [UInt8.size] using this)]
  omega

theorem pow_split {n k : Nat} (h : k < n) : n - k = (n - 1 - k) + 1 := by omega

/-- The digits of a row and a column lead back to them. -/
theorem rc_back {r c : Int} {n : Nat} (hr : 0 ≤ r ∧ r < 2 ^ n) (hc : 0 ≤ c ∧ c < 2 ^ n) : rc (toStr (backS r c n)) n = (r, c) := by
  have key : ∀ k, k ≤ n → rc (toStr (backS r c n)) k = (r / 2 ^ (n - k), c / 2 ^ (n - k)) := by
    intro k
    induction k with
    | zero =>
      intro _
      rw [Nat.sub_zero, Int.ediv_eq_zero_of_lt hr.1 hr.2, Int.ediv_eq_zero_of_lt hc.1 hc.2]; rfl
    | succ k ih =>
      intro hk
      have e := ih (by omega)
      have hd : dg (toStr (backS r c n)) k = r / 2 ^ (n - 1 - k) % 2 * 2 + c / 2 ^ (n - 1 - k) % 2 := by
        rw [dg_toStr (fun d h => backS_dig n d h) (by rw [backS_len]; omega), backS_get r c n k (by omega)]; omega
      show (2 * (rc (toStr (backS r c n)) k).1 + dg (toStr (backS r c n)) k / 2, 2 * (rc (toStr (backS r c n)) k).2 + dg (toStr (backS r c n)) k % 2) = _
      rw [e, hd, pow_split (show k < n by omega), ← div_pow, ← div_pow, show n - (k + 1) = n - 1 - k from by omega]
      generalize r / 2 ^ (n - 1 - k) = x
      generalize c / 2 ^ (n - 1 - k) = y
      simp only
      rw [Prod.mk.injEq]
      constructor <;> omega
  have := key n (Nat.le_refl n)
  rw [this, Nat.sub_self, Int.pow_zero, Int.ediv_one, Int.ediv_one]

/-- The row and the column of a cell lead back to its digits. -/
theorem back_rc {s : List UInt8} (h : ∀ c ∈ s, dig c) : toStr (backS (rc s s.length).1 (rc s s.length).2 s.length) = s := by
  have key : ∀ m, m ≤ s.length → rc s (s.length - m) = ((rc s s.length).1 / 2 ^ m, (rc s s.length).2 / 2 ^ m) := by
    intro m
    induction m with
    | zero => intro _; rw [Nat.sub_zero, Int.pow_zero, Int.ediv_one, Int.ediv_one]
    | succ m ih =>
      intro hm
      have e := ih (by omega)
      have e2 : s.length - m = (s.length - (m + 1)) + 1 := by omega
      have hd := (dg_in h (show s.length - (m + 1) < s.length by omega)).1
      rw [e2] at e
      have e3 : (2 * (rc s (s.length - (m + 1))).1 + dg s (s.length - (m + 1)) / 2, 2 * (rc s (s.length - (m + 1))).2 + dg s (s.length - (m + 1)) % 2) = ((rc s s.length).1 / 2 ^ m, (rc s s.length).2 / 2 ^ m) := e
      rw [Prod.mk.injEq] at e3
      rw [← div_pow, ← div_pow, ← e3.1, ← e3.2]
      apply Prod.ext
      · show (rc s (s.length - (m + 1))).1 = _; omega
      · show (rc s (s.length - (m + 1))).2 = _; omega
  apply List.ext_getElem (by rw [toStr_len, backS_len])
  intro k h1 h2
  have hd := (dg_in h h2).1
  have e1 : dg s k = (s[k].toNat : Int) - 48 := by
    unfold dg; rw [List.getD_eq_getElem?_getD, List.getElem?_eq_getElem h2]; rfl
  have hk := key (s.length - 1 - k) (by omega)
  rw [show s.length - (s.length - 1 - k) = k + 1 from by omega] at hk
  have e3 : (2 * (rc s k).1 + dg s k / 2, 2 * (rc s k).2 + dg s k % 2) = _ := hk
  rw [Prod.mk.injEq] at e3
  have : (toStr (backS (rc s s.length).1 (rc s s.length).2 s.length))[k] = UInt8.ofNat ((backS (rc s s.length).1 (rc s s.length).2 s.length)[k]'(by rw [backS_len]; exact h2)).toNat := toStr_get _ _ _
  rw [this, backS_get _ _ _ _ h2, ← e3.1, ← e3.2]
  have e4 : (48 + (2 * (rc s k).1 + dg s k / 2) % 2 * 2 + (2 * (rc s k).2 + dg s k % 2) % 2 : Int) = (s[k].toNat : Int) := by omega
  rw [e4, Int.toNat_natCast, UInt8.ofNat_toNat]

/-! ### Beside of a right cell -/

theorem mod_mod {x N : Int} (hN : 0 < N) : (x.tmod N + N) % N = x % N := by
  have h := Int.mul_tdiv_add_tmod x N
  have e : x.tmod N + N = x + N * (1 - x.tdiv N) := by rw [Int.mul_sub, Int.mul_one]; omega
  rw [e, Int.add_mul_emod_self_left]

def rowN (s : List UInt8) : Int := (rc s s.length).1
def colN (s : List UInt8) : Int := (rc s s.length).2

/-! ### the box of a place's cell -/

theorem go_pre (p : T_api_Place) (k m : Nat) : (go p (k + m)).1.take k = (go p k).1 := by
  induction m with
  | zero => rw [Nat.add_zero, List.take_of_length_le (by rw [go_len]; exact Nat.le_refl _)]
  | succ m ih =>
    show ((go p (k + m)).1 ++ [_]).take k = _
    rw [List.take_append_of_le_length (by rw [go_len]; omega), ih]
theorem go_dig (p : T_api_Place) (k : Nat) : ∀ d ∈ (go p k).1, 48 ≤ d ∧ d ≤ 51 := by
  induction k with
  | zero => intro d h; cases h
  | succ k ih =>
    intro d h
    have h' : d ∈ (go p k).1 ++ [48 + (pick p (go p k).2 : Int)] := h
    rcases List.mem_append.1 h' with h | h
    · exact ih d h
    · have := pick_le p (go p k).2
      rw [List.mem_singleton.1 h]; omega
theorem go_get (p : T_api_Place) {k n : Nat} (h : k < n) : (go p n).1[k]'(by rw [go_len]; exact h) = 48 + (pick p (go p k).2 : Int) := by
  have e := go_pre p (k + 1) (n - (k + 1))
  rw [show k + 1 + (n - (k + 1)) = n from by omega] at e
  have e2 : (go p n).1[k]? = (go p (k + 1)).1[k]? := by rw [← e, List.getElem?_take, if_pos (by omega)]
  rw [List.getElem?_eq_getElem (by rw [go_len]; exact h)] at e2
  have e3 : (go p (k + 1)).1[k]? = some (48 + (pick p (go p k).2 : Int)) := by
    show ((go p k).1 ++ [48 + (pick p (go p k).2 : Int)])[k]? = _
    rw [List.getElem?_append_right (by rw [go_len]; exact Nat.le_refl _), go_len, Nat.sub_self]; rfl
  rw [e3] at e2
  exact Option.some.inj e2
theorem bx_go (p : T_api_Place) (n : Nat) : ∀ k, k ≤ n → bx (toStr (go p n).1) k = (go p k).2 := by
  intro k
  induction k with
  | zero => intro _; rfl
  | succ k ih =>
    intro h
    show partP (bx (toStr (go p n).1) k) (dg (toStr (go p n).1) k) = partP (go p k).2 (pick p (go p k).2 : Nat)
    rw [ih (by omega), dg_toStr (go_dig p n) (by rw [go_len]; omega), go_get p (by omega)]
    congr 1
    omega

theorem In_ok {b : T_where_Box} {p : T_api_Place} (hb : BB b) (hp : PL p) (hi : inP p b) : where_In b p = some (true, 0) := by
  obtain ⟨⟨b1, b2, b3⟩, b4, b5, b6⟩ := hb
  obtain ⟨⟨i1, i2⟩, i3, i4⟩ := hi
  have hpl := hp
  obtain ⟨⟨p1, p2⟩, p3, p4⟩ := hp
  have lat : ∀ x : Int, -90000000 ≤ x ∧ x ≤ 90000000 → where_isLat x = some true := fun x hx => by
    unfold where_isLat; rw [outside_eq, bnd_pure, decide_eq_false (by omega)]; rfl
  have lon : ∀ x : Int, -180000000 ≤ x ∧ x ≤ 179999999 → where_isLon x = some true := fun x hx => by
    unfold where_isLon; rw [outside_eq, bnd_pure, decide_eq_false (by omega)]; rfl
  have hc : where_CheckBox b = some 0 := by
    unfold where_CheckBox
    rw [lat _ (by omega), bnd_pure, Bool.not_true, cnd_false, lat _ (by omega), bnd_pure, Bool.not_true, cnd_false, lon _ (by omega), bnd_pure, Bool.not_true, cnd_false, lon _ (by omega), bnd_pure, Bool.not_true, cnd_false, cnd_if, if_neg (by omega)]
  unfold where_In
  rw [hc, bnd_pure, cnd_if, if_neg (by decide), CheckPlace_eq, PL_iff.2 hpl, bnd_pure, cnd_if, if_neg (by decide), outside_eq, bnd_pure, decide_eq_false (by omega), Bool.not_false, cnd_true]
  unfold where_Box_spans
  rw [east_eq (by omega) (by omega), bnd_pure, east_eq (by omega) (by omega), bnd_pure]
  have e1 : eastS b.West p.Lon = p.Lon - b.West := by unfold eastS; omega
  have e2 : eastS b.West b.East = b.East - b.West := by unfold eastS; omega
  rw [e1, e2, decide_eq_true (by omega)]; rfl

end Go.M
