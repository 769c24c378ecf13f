/- Packing and unpacking places, in plain Lean. Conditions: none. -/
import Derived.Test.YtohdhdiaahiicaaDoorWPk
import Derived.Test.YtohdhdiaahiicaaDoorPl2
import Derived.KernelRfl
namespace Go.M
open Go.Md Go.Pl Go.Vc.Where

/-! ### numbers as digits -/

def zig (d : Int) : Nat := if d < 0 then (-2 * d - 1).toNat else (2 * d).toNat
def unzig (n : Nat) : Int := if n % 2 = 1 then -(((n + 1) / 2 : Nat) : Int) else ((n / 2 : Nat) : Int)
theorem unzig_zig (d : Int) : unzig (zig d) = d := by
  unfold unzig zig
  split <;> split <;> omega
theorem zig_unzig (n : Nat) : zig (unzig n) = n := by
  unfold unzig zig
  split <;> split <;> omega

def digI : Nat → Nat → List Int
  | 0, n => [63 + n]
  | f + 1, n => if 32 ≤ n then (95 + (n % 32 : Nat) : Int) :: digI f (n / 32) else [63 + n]
def digB (f n : Nat) : List UInt8 := toStr (digI f n)

theorem toStr_app (a b : List Int) : toStr (a ++ b) = toStr a ++ toStr b := List.map_append
theorem digI_len : ∀ f n, 1 ≤ (digI f n).length ∧ (digI f n).length ≤ f + 1
  | 0, _ => by simp [digI]
  | f + 1, n => by
    simp only [digI]
    have := digI_len f (n / 32)
    split
    · simp only [List.length_cons]; omega
    · simp
theorem digB_len (f n : Nat) : 1 ≤ (digB f n).length ∧ (digB f n).length ≤ f + 1 := by
  unfold digB toStr; rw [List.length_map]; exact digI_len f n

theorem oct (k : Nat) (h : k < 256) : (UInt8.ofNat k).toNat = k := by
  rw [UInt8.toNat_ofNat']; omega

/-- Reading a number: its value and what is behind it. -/
def readN : Nat → Nat → Nat → List UInt8 → Option (Nat × List UInt8)
  | 0, _, _, _ => none
  | _ + 1, _, _, [] => none
  | f + 1, i, acc, c :: r =>
    if c.toNat < 63 ∨ 126 < c.toNat then none
    else if 32 ≤ c.toNat - 63 then readN f (i + 1) (acc + (c.toNat - 63) % 32 * 32 ^ i) r
    else if c.toNat = 63 ∧ 0 < i then none else some (acc + (c.toNat - 63) * 32 ^ i, r)

theorem read_dig : ∀ (f i acc n : Nat) (rest : List UInt8), n < 32 ^ (f + 1) → (0 < n ∨ i = 0) → readN (f + 1) i acc (digB f n ++ rest) = some (acc + n * 32 ^ i, rest)
  | 0, i, acc, n, rest, h, h0 => by
    have h' : n < 32 := by simpa using h
    have e : digB 0 n = [UInt8.ofNat (63 + n)] := by
      unfold digB toStr digI
      simp only [List.map_cons, List.map_nil]
      rw [show ((63 : Int) + n).toNat = 63 + n from by omega]
    rw [e]
    show readN 1 i acc (UInt8.ofNat (63 + n) :: rest) = _
    unfold readN
    rw [oct _ (by omega), if_neg (by omega), if_neg (by omega), if_neg (by omega), Nat.add_sub_cancel_left]
  | f + 1, i, acc, n, rest, h, h0 => by
    by_cases h32 : 32 ≤ n
    · have e : digB (f + 1) n = UInt8.ofNat (95 + n % 32) :: digB f (n / 32) := by
        unfold digB toStr
        simp only [digI]
        rw [if_pos h32, List.map_cons, show ((95 : Int) + (n % 32 : Nat)).toNat = 95 + n % 32 from by omega]
      have hd : n / 32 < 32 ^ (f + 1) := by
        rw [Nat.pow_succ] at h
        exact Nat.div_lt_of_lt_mul (by rw [Nat.mul_comm]; exact h)
      rw [e]
      show readN (f + 1 + 1) i acc (UInt8.ofNat (95 + n % 32) :: (digB f (n / 32) ++ rest)) = _
      unfold readN
      rw [oct _ (by omega), if_neg (by omega), if_pos (by omega), show (95 + n % 32 - 63) % 32 = n % 32 from by omega, read_dig f (i + 1) _ (n / 32) rest hd (.inl (by omega))]
      congr 2
      rw [Nat.pow_succ, show n / 32 * (32 ^ i * 32) = (32 * (n / 32)) * 32 ^ i from by rw [Nat.mul_comm (32 ^ i) 32, ← Nat.mul_assoc, Nat.mul_comm (n / 32) 32], Nat.add_assoc, ← Nat.add_mul]
      rw [show n % 32 + 32 * (n / 32) = n from by omega]
    · have e : digB (f + 1) n = [UInt8.ofNat (63 + n)] := by
        unfold digB toStr
        simp only [digI]
        rw [if_neg h32]
        simp only [List.map_cons, List.map_nil]
        rw [show ((63 : Int) + n).toNat = 63 + n from by omega]
      rw [e]
      show readN (f + 1 + 1) i acc (UInt8.ofNat (63 + n) :: rest) = _
      unfold readN
      rw [oct _ (by omega), if_neg (by omega), if_neg (by omega), if_neg (by omega), Nat.add_sub_cancel_left]

theorem dig_read : ∀ (f i acc : Nat) (s : List UInt8) (v : Nat) (r : List UInt8), readN (f + 1) i acc s = some (v, r) → ∃ n, v = acc + n * 32 ^ i ∧ s = digB f n ++ r ∧ n < 32 ^ (f + 1) ∧ (0 < n ∨ i = 0)
  | _, _, _, [], _, _, h => by cases h
  | 0, i, acc, c :: t, v, r, h => by
    have hc := UInt8.toNat_lt c
    unfold readN at h
    split at h
    · cases h
    · rename_i h1
      split at h
      · cases h
      · rename_i h2
        split at h
        · cases h
        · rename_i h3
          cases h
          refine ⟨c.toNat - 63, rfl, ?_, by simp; omega, by omega⟩
          have e : digB 0 (c.toNat - 63) = [c] := by
            unfold digB toStr digI
            simp only [List.map_cons, List.map_nil]
            rw [show ((63 : Int) + (c.toNat - 63 : Nat)).toNat = c.toNat from by omega, UInt8.ofNat_toNat]
          rw [e]; rfl
  | f + 1, i, acc, c :: t, v, r, h => by
    have hc := UInt8.toNat_lt c
    unfold readN at h
    split at h
    · cases h
    · rename_i h1
      split at h
      · rename_i h2
        obtain ⟨n, e1, e2, e3, e4⟩ := dig_read f (i + 1) _ t v r h
        have hn : 0 < n := by omega
        have hm : ((c.toNat - 63) % 32 + 32 * n) % 32 = (c.toNat - 63) % 32 := by omega
        have hd : ((c.toNat - 63) % 32 + 32 * n) / 32 = n := by omega
        refine ⟨(c.toNat - 63) % 32 + 32 * n, ?_, ?_, ?_, by omega⟩
        · rw [e1, Nat.add_mul, Nat.pow_succ, Nat.add_assoc]
          congr 2
          rw [Nat.mul_comm (32 ^ i) 32, ← Nat.mul_assoc, Nat.mul_comm n 32]
        · have e : digB (f + 1) ((c.toNat - 63) % 32 + 32 * n) = c :: digB f n := by
            unfold digB toStr
            simp only [digI]
            rw [if_pos (by omega), hd, hm, List.map_cons, show ((95 : Int) + ((c.toNat - 63) % 32 : Nat)).toNat = c.toNat from by omega, UInt8.ofNat_toNat]
          rw [e, e2]; rfl
        · rw [Nat.pow_succ]; omega
      · rename_i h2
        split at h
        · cases h
        · rename_i h3
          cases h
          have hb : 32 ≤ 32 ^ (f + 1 + 1) := by
            rw [Nat.pow_succ]
            have := Nat.one_le_two_pow (n := 0)
            have : 1 ≤ 32 ^ (f + 1) := Nat.one_le_pow _ _ (by omega)
            omega
          refine ⟨c.toNat - 63, rfl, ?_, by omega, by omega⟩
          have e : digB (f + 1) (c.toNat - 63) = [c] := by
            unfold digB toStr
            simp only [digI]
            rw [if_neg (by omega)]
            simp only [List.map_cons, List.map_nil]
            rw [show ((63 : Int) + (c.toNat - 63 : Nat)).toNat = c.toNat from by omega, UInt8.ofNat_toNat]
          rw [e]; rfl

/-! ### the models of packing -/

theorem packed_go : ∀ (f n : Nat) (l : List Int), n < 32 ^ (f + 1) → f ≤ 10 → n < 4294967296 → l.length ≤ 100000000 → where_packed_j1 l (n : Int) = some (l ++ digI f n) := by
  have last : ∀ (n : Nat) (l : List Int) next, n < 32 → l.length ≤ 100000100 → where_packed_l3 next n l = some (l ++ [63 + (n : Int)]) := by
    intro n l next h hl
    unfold where_packed_l3 where_packed_j2
    rw [cnd_if, if_neg (by omega), gI_ok (by omega), bnd_pure, wU8_in (by omega), gApp_ok (by simp only [List.length_singleton]; omega), bnd_pure]
  have more : ∀ (n : Nat) (l : List Int) next, 32 ≤ n → n < 4294967296 → l.length ≤ 100000100 → where_packed_l3 next n l = next (((n / 32 : Nat) : Int), l ++ [95 + ((n % 32 : Nat) : Int)]) := by
    intro n l next h hn hl
    unfold where_packed_l3
    rw [cnd_if, if_pos (by omega), gRem_nn (by omega) (by omega), bnd_pure, gI_ok (by omega), bnd_pure, wU8_in (by omega), gApp_ok (by simp only [List.length_singleton]; omega), bnd_pure, gQuo_nn (by omega) (by omega), bnd_pure]
    rfl
  have key : ∀ (f n : Nat) (l : List Int), n < 32 ^ (f + 1) → n < 4294967296 → l.length + f ≤ 100000010 → where_packed_j1 l (n : Int) = some (l ++ digI f n) := by
    intro f
    induction f with
    | zero => intro n l h hn hl; exact fix_done fun next => last n l next (by simpa using h) (by omega)
    | succ f ih =>
      intro n l h hn hl
      by_cases h32 : 32 ≤ n
      · have hd : n / 32 < 32 ^ (f + 1) := by
          rw [Nat.pow_succ] at h
          exact Nat.div_lt_of_lt_mul (by rw [Nat.mul_comm]; exact h)
        refine (fix_goto _ fun next => more n l next h32 hn (by omega)).trans ?_
        have := ih (n / 32) (l ++ [95 + ((n % 32 : Nat) : Int)]) hd (by omega) (by simp only [List.length_append, List.length_singleton]; omega)
        refine this.trans ?_
        simp only [digI]
        rw [if_pos h32, List.append_assoc]; rfl
      · refine (fix_done fun next => last n l next (by omega) (by omega)).trans ?_
        simp only [digI]
        rw [if_neg h32]
  intro f n l h hf hn hl
  exact key f n l h hn (by omega)

theorem packed_eq {l : List Int} {d : Int} (hd : -500000000 ≤ d ∧ d ≤ 500000000) (hl : l.length ≤ 100000000) : where_packed l d = some (l ++ digI 5 (zig d)) := by
  unfold where_packed
  rw [gI_ok (by omega), bnd_pure, cnd_if]
  have hz : zig d < 32 ^ (5 + 1) := by
    rw [show (32 : Nat) ^ (5 + 1) = 1073741824 from rfl]
    unfold zig; split <;> omega
  have hz' : zig d < 1073741824 := hz
  by_cases h : d < 0
  · rw [if_pos h, gI_ok (by omega), bnd_pure, gI_ok (by omega), bnd_pure, show -2 * d - 1 = (zig d : Int) from by unfold zig; rw [if_pos h]; omega]
    exact packed_go 5 (zig d) l hz (by omega) (by omega) hl
  · rw [if_neg h, show 2 * d = (zig d : Int) from by unfold zig; rw [if_neg h]; omega]
    exact packed_go 5 (zig d) l hz (by omega) (by omega) hl

def packI : T_api_Place → List T_api_Place → List Int
  | _, [] => []
  | q, p :: r => digI 5 (zig (p.Lat - q.Lat)) ++ (digI 5 (zig (p.Lon - q.Lon)) ++ packI p r)
def packB (q : T_api_Place) (l : List T_api_Place) : List UInt8 := toStr (packI q l)

theorem packB_cons (q p : T_api_Place) (r : List T_api_Place) : packB q (p :: r) = digB 5 (zig (p.Lat - q.Lat)) ++ (digB 5 (zig (p.Lon - q.Lon)) ++ packB p r) := by
  unfold packB digB; simp only [packI, toStr_app]
theorem packI_len : ∀ (q : T_api_Place) (l : List T_api_Place), (packI q l).length ≤ 12 * l.length
  | _, [] => by simp [packI]
  | q, p :: r => by
    simp only [packI, List.length_append, List.length_cons]
    have h1 := digI_len 5 (zig (p.Lat - q.Lat))
    have h2 := digI_len 5 (zig (p.Lon - q.Lon))
    have := packI_len p r
    omega

def listE (l : List T_api_Place) : Int := if 1000 < (l.length : Int) then 4 else firstE (fun k => placeS (l.getD k default).Lat (l.getD k default).Lon) l.length 0

theorem checkList_eq (l : List T_api_Place) (hl : l.length ≤ 1000000000) : where_checkList l = some (listE l) := by
  unfold where_checkList listE
  rw [cnd_if]
  split
  · rfl
  · unfold where_checkPlaces
    have key := scan (F := fun next1 s => where_checkPlaces_l1 l next1 s) l.length (fun k => placeS (l.getD k default).Lat (l.getD k default).Lon) (fun next k hk => by
      show where_checkPlaces_l1 l next k = _
      unfold where_checkPlaces_l1
      rw [cnd_if, if_pos (by omega), gAt_nat hk, bnd_pure, CheckPlace_eq, bnd_pure, getD_of hk, cnd_if]
      by_cases h : placeS l[k].Lat l[k].Lon = 0
      · rw [if_neg (fun hh => hh h), if_pos h, gI_ok (by omega), bnd_pure]
      · rw [if_pos h, if_neg h]) (fun next => by
      show where_checkPlaces_l1 l next _ = _
      unfold where_checkPlaces_l1
      rw [cnd_if, if_neg (by omega)])
    rw [key, bnd_pure]

theorem list_ok {l : List T_api_Place} (h : listE l = 0) : l.length ≤ 1000 ∧ ∀ p ∈ l, PL p := by
  unfold listE at h
  split at h
  · cases h
  · refine ⟨by omega, fun p hp => ?_⟩
    obtain ⟨k, hk, rfl⟩ := List.mem_iff_getElem.1 hp
    have := firstE_zero h k (by omega) (by omega)
    simp only [getD_of hk] at this
    exact PL_iff.1 this

theorem Pack_eq {l : List T_api_Place} (h : listE l = 0) : where_Pack l = some (packB ⟨0, 0⟩ l, 0) := by
  obtain ⟨hl, hp⟩ := list_ok h
  unfold where_Pack
  rw [checkList_eq l (by omega), bnd_pure, h, cnd_if, if_neg (fun h => h rfl)]
  have key : ∀ (n k : Nat) (q : T_api_Place) (out : List Int), l.length - k = n → k ≤ l.length → PL q → out.length ≤ 12 * k → fix (fun next2 (s : Int × Int × Int × List Int) => where_Pack_l2 l next2 s.1 s.2.1 s.2.2.1 s.2.2.2) ((k : Int), q.Lat, q.Lon, out) = some (toStr (out ++ packI q (l.drop k)), 0) := by
    intro n
    induction n with
    | zero =>
      intro k q out hn hk hq ho
      rw [List.drop_of_length_le (by omega)]
      refine fix_done fun next => ?_
      show where_Pack_l2 l next k q.Lat q.Lon out = _
      unfold where_Pack_l2 where_Pack_j1
      rw [cnd_if, if_neg (by omega)]
      simp only [packI, List.append_nil]
    | succ n ih =>
      intro k q out hn hk hq ho
      have hkl : k < l.length := by omega
      have hpk := hp _ (List.getElem_mem hkl)
      have hq' := hq
      obtain ⟨q1, q2⟩ := hq
      have hpk' := hpk
      obtain ⟨p1, p2⟩ := hpk
      rw [List.drop_eq_getElem_cons hkl]
      have h1 := digI_len 5 (zig (l[k].Lat - q.Lat))
      have h2 := digI_len 5 (zig (l[k].Lon - q.Lon))
      refine (fix_goto (((k + 1 : Nat) : Int), l[k].Lat, l[k].Lon, out ++ digI 5 (zig (l[k].Lat - q.Lat)) ++ digI 5 (zig (l[k].Lon - q.Lon))) fun next => ?_).trans ?_
      · show where_Pack_l2 l next k q.Lat q.Lon out = _
        unfold where_Pack_l2
        rw [cnd_if, if_pos (by omega), gAt_nat hkl, bnd_pure, gI_ok (by omega), bnd_pure, packed_eq (by omega) (by omega), bnd_pure, gI_ok (by omega), bnd_pure, packed_eq (by omega) (by simp only [List.length_append]; omega), bnd_pure, gI_ok (by omega), bnd_pure]
        rfl
      · rw [ih (k + 1) l[k] _ (by omega) (by omega) hpk' (by simp only [List.length_append]; omega)]
        simp only [packI, List.append_assoc]
  have z : PL ⟨0, 0⟩ := by unfold PL; simp
  have := key l.length 0 ⟨0, 0⟩ [] (by omega) (by omega) z (by simp)
  rw [List.drop_zero, List.nil_append] at this
  exact this

/-! ### the models of unpacking -/

def readR (o : Option (Nat × List UInt8)) : Int × List UInt8 × Bool := match o with | some (n, r) => (unzig n, r, true) | none => (0, [], false)

theorem pow32 : ∀ i : Nat, i < 6 → (2 : Int) ^ (5 * (i : Int)).toNat = ((32 ^ i : Nat) : Int)
  | 0, _ => by decide
  | 1, _ => by decide
  | 2, _ => by decide
  | 3, _ => by decide
  | 4, _ => by decide
  | 5, _ => by decide
  | i + 6, h => by omega
theorem pow32_le : ∀ i : Nat, i < 6 → 1 ≤ 32 ^ i ∧ 32 ^ i ≤ 33554432
  | 0, _ => by decide
  | 1, _ => by decide
  | 2, _ => by decide
  | 3, _ => by decide
  | 4, _ => by decide
  | 5, _ => by decide
  | i + 6, h => by omega

theorem unzig_eq {s : List UInt8} {i : Nat} (hi : i < s.length) {n : Nat} (hn : n < 2000000000) (hl : s.length ≤ 1000000000) : where_unpack_j2 s i n = some (unzig n, s.drop (i + 1), true) := by
  unfold where_unpack_j2 unzig
  rw [gRem_nn (by omega) (by omega), bnd_pure, cnd_if]
  by_cases h : n % 2 = 1
  · rw [if_pos (by omega), if_pos h, gI_ok (by omega), bnd_pure, gI_ok (by omega), bnd_pure, gQuo_ok (by omega) (by omega), bnd_pure, gI_ok (by omega), bnd_pure, gCut_from (by omega), bnd_pure]
    have : (-((n : Int) + 1)).tdiv 2 = -(((n + 1) / 2 : Nat) : Int) := by
      rw [Int.neg_tdiv, Int.tdiv_eq_ediv_of_nonneg (by omega)]; omega
    rw [this, show ((i : Int) + 1).toNat = i + 1 from by omega]
  · rw [if_neg (by omega), if_neg h, gQuo_nn (by omega) (by omega), bnd_pure, gI_ok (by omega), bnd_pure, gCut_from (by omega), bnd_pure, show ((i : Int) + 1).toNat = i + 1 from by omega]
    rfl

theorem unpack_eq (s : List UInt8) (hl : s.length ≤ 1000000000) : where_unpack s = some (readR (readN 6 0 0 s)) := by
  unfold where_unpack
  have key : ∀ (f i acc : Nat), i + f = 6 → acc < 32 ^ i → i ≤ s.length → fix (fun next1 (t : Int × Int) => where_unpack_l1 s next1 t.1 t.2) ((acc : Int), (i : Int)) = some (readR (readN f i acc (s.drop i))) := by
    intro f
    induction f with
    | zero =>
      intro i acc hif ha hi
      refine fix_done fun next => ?_
      show where_unpack_l1 s next acc i = _
      unfold where_unpack_l1
      rw [cnd_if (p := (i : Int) < 6), if_neg (by omega), cnd_if]
      split <;> rfl
    | succ f ih =>
      intro i acc hif ha hi
      have hp := pow32_le i (by omega)
      rcases Nat.lt_or_ge i s.length with h | h
      · rw [List.drop_eq_getElem_cons h]
        have hc := UInt8.toNat_lt s[i]
        generalize hC : s[i].toNat = c at *
        have head : ∀ next, where_unpack_l1 s next acc i = cnd (decide ((c : Int) - 63 < 0 ∨ 63 < (c : Int) - 63)) (some (0, [], false)) (bnd (gRem ((c : Int) - 63) 32) fun t27 => bnd (gShl t27 (5 * (i : Int))) fun t30 => bnd (gI ((acc : Int) + t30)) fun t31 => cnd (decide (32 ≤ (c : Int) - 63)) (next (t31, (i : Int) + 1)) (cnd (decide ((c : Int) - 63 = 0)) (cnd (decide (0 < (i : Int))) (some (0, [], false)) (where_unpack_j2 s i t31)) (where_unpack_j2 s i t31))) := by
          intro next
          unfold where_unpack_l1
          rw [cnd_if (p := (i : Int) < (s.length : Int)), if_pos (by omega), cnd_if (p := (i : Int) < 6), if_pos (by omega), gOct_nat h, bnd_pure, hC, gK_ok (by omega), bnd_pure, gI_ok (by omega), bnd_pure, outside_eq, bnd_pure]
          congr 1
          refine bnd_congr fun t27 _ => ?_
          rw [gI_ok (by omega), bnd_pure]
          refine bnd_congr fun t30 _ => bnd_congr fun t31 _ => ?_
          rw [gI_ok (by omega), bnd_pure]
        unfold readN
        rw [hC]
        by_cases h1 : c < 63 ∨ 126 < c
        · rw [if_pos h1]
          refine fix_done fun next => ?_
          show where_unpack_l1 s next acc i = _
          rw [head, decide_eq_true (by omega), cnd_true]; rfl
        · rw [if_neg h1]
          have hm : ((c : Int) - 63) % 32 = (((c - 63) % 32 : Nat) : Int) := by omega
          have hsh : gShl (((c - 63) % 32 : Nat) : Int) (5 * (i : Int)) = some (((c - 63) % 32 * 32 ^ i : Nat) : Int) := by
            unfold gShl
            have hb : (c - 63) % 32 * 32 ^ i ≤ 31 * 33554432 := Nat.mul_le_mul (by omega) hp.2
            rw [if_pos (by omega), pow32 i (by omega), ← Int.natCast_mul, gI_ok (by omega)]
          have hb : (c - 63) % 32 * 32 ^ i ≤ 31 * 33554432 := Nat.mul_le_mul (by omega) hp.2
          have hacc : acc + (c - 63) % 32 * 32 ^ i < 32 ^ (i + 1) := by
            rw [Nat.pow_succ]
            have : (c - 63) % 32 * 32 ^ i ≤ 31 * 32 ^ i := Nat.mul_le_mul_right _ (by omega)
            omega
          have run : ∀ next, where_unpack_l1 s next acc i = cnd (decide (32 ≤ (c : Int) - 63)) (next (((acc + (c - 63) % 32 * 32 ^ i : Nat) : Int), (i : Int) + 1)) (cnd (decide ((c : Int) - 63 = 0)) (cnd (decide (0 < (i : Int))) (some (0, [], false)) (where_unpack_j2 s i ((acc + (c - 63) % 32 * 32 ^ i : Nat) : Int))) (where_unpack_j2 s i ((acc + (c - 63) % 32 * 32 ^ i : Nat) : Int))) := by
            intro next
            rw [head, decide_eq_false (by omega), cnd_false, gRem_nn (by omega) (by omega), bnd_pure, hm, hsh, bnd_pure, ← Int.natCast_add, gI_ok (by omega), bnd_pure]
          by_cases h2 : 32 ≤ c - 63
          · rw [if_pos h2]
            refine (fix_goto (((acc + (c - 63) % 32 * 32 ^ i : Nat) : Int), ((i + 1 : Nat) : Int)) fun next => ?_).trans (ih (i + 1) _ (by omega) hacc (by omega))
            show where_unpack_l1 s next acc i = _
            rw [run, decide_eq_true (by omega), cnd_true]; rfl
          · rw [if_neg h2]
            have hmod : (c - 63) % 32 = c - 63 := by omega
            rw [hmod] at run hb
            by_cases h3 : c = 63 ∧ 0 < i
            · rw [if_pos h3]
              refine fix_done fun next => ?_
              show where_unpack_l1 s next acc i = _
              rw [run, decide_eq_false (by omega), cnd_false, decide_eq_true (by omega), cnd_true, decide_eq_true (by omega), cnd_true]; rfl
            · rw [if_neg h3]
              refine fix_done fun next => ?_
              show where_unpack_l1 s next acc i = _
              have hj := unzig_eq h (n := acc + (c - 63) * 32 ^ i) (by
                have : 32 ^ i ≤ 33554432 := hp.2
                omega) hl
              rw [run, decide_eq_false (by omega), cnd_false, hj]
              show _ = some (unzig (acc + (c - 63) * 32 ^ i), s.drop (i + 1), true)
              rw [cnd_if, cnd_if]
              split
              · split
                · omega
                · rfl
              · rfl
      · rw [List.drop_of_length_le h]
        refine fix_done fun next => ?_
        show where_unpack_l1 s next acc i = _
        unfold where_unpack_l1
        rw [cnd_if, if_neg (by omega)]; rfl
  have := key 6 0 0 (by omega) (by simp) (Nat.zero_le _)
  rw [List.drop_zero] at this
  exact this

/-- Unpacking: with so much fuel as there are letters. -/
def unpB : Nat → T_api_Place → List UInt8 → Option (List T_api_Place)
  | _, _, [] => some []
  | 0, _, _ :: _ => none
  | f + 1, q, c :: s =>
    match readN 6 0 0 (c :: s) with
    | none => none
    | some (n, r) => match readN 6 0 0 r with
      | none => none
      | some (m, t) => (unpB f ⟨q.Lat + unzig n, q.Lon + unzig m⟩ t).map fun l => ⟨q.Lat + unzig n, q.Lon + unzig m⟩ :: l

theorem unp_pack : ∀ (l : List T_api_Place) (f : Nat) (q : T_api_Place), PL q → (∀ p ∈ l, PL p) → (packB q l).length ≤ f → unpB f q (packB q l) = some l
  | [], f, q, _, _, _ => by cases f <;> rfl
  | p :: r, f, q, hq, hp, hf => by
    have hpp := hp p (by simp)
    have hpp' := hpp
    obtain ⟨q1, q2⟩ := hq
    obtain ⟨p1, p2⟩ := hpp
    rw [packB_cons] at hf ⊢
    have l1 := digB_len 5 (zig (p.Lat - q.Lat))
    have l2 := digB_len 5 (zig (p.Lon - q.Lon))
    simp only [List.length_append] at hf
    have z1 : zig (p.Lat - q.Lat) < 32 ^ (5 + 1) := by
      rw [show (32 : Nat) ^ (5 + 1) = 1073741824 from rfl]; unfold zig; split <;> omega
    have z2 : zig (p.Lon - q.Lon) < 32 ^ (5 + 1) := by
      rw [show (32 : Nat) ^ (5 + 1) = 1073741824 from rfl]; unfold zig; split <;> omega
    have r1 := read_dig 5 0 0 (zig (p.Lat - q.Lat)) (digB 5 (zig (p.Lon - q.Lon)) ++ packB p r) z1 (.inr rfl)
    have r2 := read_dig 5 0 0 (zig (p.Lon - q.Lon)) (packB p r) z2 (.inr rfl)
    simp only [Nat.pow_zero, Nat.mul_one, Nat.zero_add] at r1 r2
    cases f with
    | zero => omega
    | succ f =>
      have ih := unp_pack r f p hpp' (fun x hx => hp x (by simp [hx])) (by omega)
      generalize hs : digB 5 (zig (p.Lat - q.Lat)) ++ (digB 5 (zig (p.Lon - q.Lon)) ++ packB p r) = s at *
      cases s with
      | nil => cases r1
      | cons c s =>
        simp only [unpB]
        rw [show readN 6 0 0 (c :: s) = some (zig (p.Lat - q.Lat), digB 5 (zig (p.Lon - q.Lon)) ++ packB p r) from r1]
        simp only
        rw [show readN 6 0 0 (digB 5 (zig (p.Lon - q.Lon)) ++ packB p r) = some (zig (p.Lon - q.Lon), packB p r) from r2]
        simp only [unzig_zig]
        rw [show q.Lat + (p.Lat - q.Lat) = p.Lat from by omega, show q.Lon + (p.Lon - q.Lon) = p.Lon from by omega]
        rw [show (⟨p.Lat, p.Lon⟩ : T_api_Place) = p from rfl, ih]
        rfl

theorem pack_unp : ∀ (f : Nat) (q : T_api_Place) (s : List UInt8) (l : List T_api_Place), unpB f q s = some l → s = packB q l
  | f, q, [], l, h => by
    have : l = [] := by cases f <;> (simp [unpB] at h; exact h)
    subst this; rfl
  | 0, q, _ :: _, l, h => by simp [unpB] at h
  | f + 1, q, c :: s, l, h => by
    simp only [unpB] at h
    split at h
    · cases h
    · rename_i n r h1
      split at h
      · cases h
      · rename_i m t h2
        cases hu : unpB f ⟨q.Lat + unzig n, q.Lon + unzig m⟩ t with
        | none => rw [hu] at h; cases h
        | some l' =>
          rw [hu] at h
          simp only [Option.map_some, Option.some.injEq] at h
          subst h
          obtain ⟨n', e1, e2, _, _⟩ := dig_read 5 0 0 _ _ _ h1
          obtain ⟨m', g1, g2, _, _⟩ := dig_read 5 0 0 _ _ _ h2
          simp only [Nat.pow_zero, Nat.mul_one, Nat.zero_add] at e1 g1
          subst e1 g1
          have ih := pack_unp f _ t l' hu
          rw [packB_cons]
          simp only
          rw [show q.Lat + unzig n - q.Lat = unzig n from by omega, show q.Lon + unzig m - q.Lon = unzig m from by omega, zig_unzig, zig_unzig, ← ih, ← g2, ← e2]

theorem read_rest {s : List UInt8} {n : Nat} {r : List UInt8} (h : readN 6 0 0 s = some (n, r)) : r.length + 1 ≤ s.length ∧ -600000000 ≤ unzig n ∧ unzig n ≤ 600000000 := by
  obtain ⟨n', e1, e2, e3, _⟩ := dig_read 5 0 0 _ _ _ h
  simp only [Nat.pow_zero, Nat.mul_one, Nat.zero_add] at e1
  subst e1
  have := digB_len 5 n
  rw [e2, List.length_append]
  have e3' : n < 1073741824 := e3
  refine ⟨by omega, ?_⟩
  unfold unzig; split <;> omega

theorem unp_len : ∀ (f : Nat) (q : T_api_Place) (s : List UInt8) (l : List T_api_Place), unpB f q s = some l → 2 * l.length ≤ s.length
  | f, q, [], l, h => by
    have : l = [] := by cases f <;> (simp [unpB] at h; exact h)
    subst this; simp
  | 0, q, _ :: _, l, h => by simp [unpB] at h
  | f + 1, q, c :: s, l, h => by
    simp only [unpB] at h
    split at h
    · cases h
    · rename_i n r h1
      split at h
      · cases h
      · rename_i m t h2
        cases hu : unpB f ⟨q.Lat + unzig n, q.Lon + unzig m⟩ t with
        | none => rw [hu] at h; cases h
        | some l' =>
          rw [hu] at h
          simp only [Option.map_some, Option.some.injEq] at h
          subst h
          have := unp_len f _ t l' hu
          have a1 := (read_rest h1).1
          have a2 := (read_rest h2).1
          simp only [List.length_cons] at *
          omega

theorem Unpack_eq (s : List UInt8) (hs : s.length ≤ 1000000) : where_Unpack s = some (match unpB s.length ⟨0, 0⟩ s with | none => ([], 8) | some l => if listE l = 0 then (l, 0) else ([], listE l)) := by
  unfold where_Unpack
  rw [cnd_if, if_neg (by omega)]
  have key : ∀ (f : Nat) (u : List UInt8) (q : T_api_Place) (acc : List T_api_Place), u.length ≤ f → u.length + 2 * acc.length ≤ 1000000 → (-600000000 * acc.length ≤ q.Lat ∧ q.Lat ≤ 600000000 * acc.length) → (-600000000 * acc.length ≤ q.Lon ∧ q.Lon ≤ 600000000 * acc.length) →
      fix (fun next2 (t : List UInt8 × Int × Int × List T_api_Place) => where_Unpack_l2 next2 t.1 t.2.1 t.2.2.1 t.2.2.2) (u, q.Lat, q.Lon, acc) = some (match unpB f q u with | none => ([], 8) | some l => if listE (acc ++ l) = 0 then (acc ++ l, 0) else ([], listE (acc ++ l))) := by
    intro f
    induction f with
    | zero =>
      intro u q acc hu hf h1 h2
      have : u = [] := List.eq_nil_of_length_eq_zero (by omega)
      subst this
      refine fix_done fun next => ?_
      show where_Unpack_l2 next [] q.Lat q.Lon acc = _
      unfold where_Unpack_l2 where_Unpack_j1
      rw [cnd_if, if_neg (fun h => h rfl), checkList_eq acc (by omega), bnd_pure, cnd_if]
      simp only [unpB, List.append_nil]
      by_cases h : listE acc = 0
      · rw [if_neg (fun hh => hh h), if_pos h]
      · rw [if_pos h, if_neg h]
    | succ f ih =>
      intro u q acc hu hf h1 h2
      cases u with
      | nil =>
        refine fix_done fun next => ?_
        show where_Unpack_l2 next [] q.Lat q.Lon acc = _
        unfold where_Unpack_l2 where_Unpack_j1
        rw [cnd_if, if_neg (fun h => h rfl), checkList_eq acc (by omega), bnd_pure, cnd_if]
        simp only [unpB, List.append_nil]
        by_cases h : listE acc = 0
        · rw [if_neg (fun hh => hh h), if_pos h]
        · rw [if_pos h, if_neg h]
      | cons c u =>
        have hul : (c :: u).length ≤ 1000000000 := by omega
        simp only [unpB]
        have e1 := unpack_eq (c :: u) hul
        cases hr1 : readN 6 0 0 (c :: u) with
        | none =>
          rw [hr1] at e1
          refine fix_done fun next => ?_
          show where_Unpack_l2 next (c :: u) q.Lat q.Lon acc = _
          unfold where_Unpack_l2
          rw [cnd_if, if_pos (by simp), e1, bnd_pure]
          simp only [readR]
          rw [unpack_eq [] (by simp), bnd_pure]
          rfl
        | some nr =>
          obtain ⟨n, r⟩ := nr
          rw [hr1] at e1
          obtain ⟨b1, b2, b3⟩ := read_rest hr1
          have e2 := unpack_eq r (by omega)
          simp only
          cases hr2 : readN 6 0 0 r with
          | none =>
            rw [hr2] at e2
            refine fix_done fun next => ?_
            show where_Unpack_l2 next (c :: u) q.Lat q.Lon acc = _
            unfold where_Unpack_l2
            rw [cnd_if, if_pos (by simp), e1, bnd_pure]
            simp only [readR] at e2 ⊢
            rw [e2, bnd_pure]
            rfl
          | some mt =>
            obtain ⟨m, t⟩ := mt
            rw [hr2] at e2
            obtain ⟨c1, c2, c3⟩ := read_rest hr2
            simp only [List.length_cons] at hu b1
            simp only
            refine (fix_goto (t, q.Lat + unzig n, q.Lon + unzig m, acc ++ [⟨q.Lat + unzig n, q.Lon + unzig m⟩]) fun next => ?_).trans ?_
            · show where_Unpack_l2 next (c :: u) q.Lat q.Lon acc = _
              unfold where_Unpack_l2
              rw [cnd_if, if_pos (by simp), e1, bnd_pure]
              simp only [readR] at e2 ⊢
              rw [e2, bnd_pure]
              simp only [Bool.not_true, cnd_false]
              rw [gI_ok (by omega), bnd_pure, gI_ok (by omega), bnd_pure, gApp_ok (by simp only [List.length_singleton]; omega), bnd_pure]
            · have hlen : (acc ++ [(⟨q.Lat + unzig n, q.Lon + unzig m⟩ : T_api_Place)]).length = acc.length + 1 := by simp
              refine (ih t ⟨q.Lat + unzig n, q.Lon + unzig m⟩ (acc ++ [⟨q.Lat + unzig n, q.Lon + unzig m⟩]) (by omega) (by rw [hlen]; simp only [List.length_cons] at hf; omega) (by rw [hlen]; simp only; omega) (by rw [hlen]; simp only; omega)).trans ?_
              cases unpB f ⟨q.Lat + unzig n, q.Lon + unzig m⟩ t with
              | none => rfl
              | some l => simp only [Option.map_some, List.append_assoc, List.singleton_append]
  have := key s.length s ⟨0, 0⟩ [] (Nat.le_refl _) (by simp only [List.length_nil]; omega) (by simp) (by simp)
  simpa using this

/-! ### the law -/

theorem equal_places (l : List T_api_Place) (hl : l.length ≤ 1000000) : slices_Equal_api_Place l l = some true := by
  unfold slices_Equal_api_Place
  rw [cnd_if, if_neg (fun h => h rfl)]
  refine fix_upto (F := fun next1 s => slices_Equal_api_Place_l1 l l next1 s) 0 l.length (Nat.zero_le _) (fun next k _ hk => ?_) fun next => ?_
  · show slices_Equal_api_Place_l1 l l next k = _
    unfold slices_Equal_api_Place_l1
    rw [cnd_if, if_pos (by omega), gAt_nat hk, bnd_pure, bnd_pure, show eq_api_Place l[k] l[k] = true from by simp [eq_api_Place], Bool.not_true, cnd_false, gI_ok (by omega), bnd_pure]
  · show slices_Equal_api_Place_l1 l l next _ = _
    unfold slices_Equal_api_Place_l1
    rw [cnd_if, if_neg (by omega)]

theorem Pack_no {l : List T_api_Place} (hl : l.length ≤ 1000000000) (h : listE l ≠ 0) : where_Pack l = some ([], listE l) := by
  unfold where_Pack
  rw [checkList_eq l hl, bnd_pure, cnd_if, if_pos h]

theorem checkList_big (l : List T_api_Place) (h : 1000 < l.length) : where_checkList l = some 4 := by
  unfold where_checkList; rw [cnd_if, if_pos (by omega)]

end Go.M
