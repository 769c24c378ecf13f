/- The law WherePacks in plain Lean: what is packed, and what any string reads back as. Conditions: none. -/
import Derived.Test.YtohdhdiaahiicaaDoorPkF
namespace Go.M
open Go.Md Go.Pl Go.Vc.Where

/-! ### packing into a buffer -/

theorem pack1_go : ∀ (f n : Nat) (q : List UInt8), n < 32 ^ (f + 1) → n < 4294967296 → q.length + f ≤ 100000010 → R_PackOf_1_j1 q (n : Int) = some (q ++ digB f n) := by
  have last : ∀ (n : Nat) (l : List UInt8) next, n < 32 → l.length ≤ 100000100 → R_PackOf_1_l3 next n l = some (l ++ toStr [63 + (n : Int)]) := by
    intro n l next h hl
    unfold R_PackOf_1_l3 R_PackOf_1_j2
    rw [cnd_if, if_neg (by omega), gI_ok (by omega), bnd_pure, wU8_in (by omega), gBldB_ok (by omega), bnd_pure]
    rfl
  have more : ∀ (n : Nat) (l : List UInt8) next, 32 ≤ n → n < 4294967296 → l.length ≤ 100000100 → R_PackOf_1_l3 next n l = next (((n / 32 : Nat) : Int), l ++ toStr [95 + ((n % 32 : Nat) : Int)]) := by
    intro n l next h hn hl
    unfold R_PackOf_1_l3
    rw [cnd_if, if_pos (by omega), gRem_nn (by omega) (by omega), bnd_pure, gI_ok (by omega), bnd_pure, gI_ok (by omega), bnd_pure, wU8_in (by omega), gBldB_ok (by omega), bnd_pure, gQuo_nn (by omega) (by omega), bnd_pure]
    rw [show (63 : Int) + (n : Int) % 32 + 32 = 95 + ((n % 32 : Nat) : Int) from by omega]
    rfl
  intro f
  induction f with
  | zero => intro n l h hn hl; exact fix_done fun next => last n l next (by simpa using h) (by omega)
  | succ f ih =>
    intro n l h hn hl
    by_cases h32 : 32 ≤ n
    · have hd : n / 32 < 32 ^ (f + 1) := by
        rw [Nat.pow_succ] at h
        exact Nat.div_lt_of_lt_mul (by rw [Nat.mul_comm]; exact h)
      refine (fix_goto _ fun next => more n l next h32 hn (by omega)).trans ?_
      have := ih (n / 32) (l ++ toStr [95 + ((n % 32 : Nat) : Int)]) hd (by omega) (by simp only [List.length_append, toStr, List.length_map, List.length_singleton]; omega)
      refine this.trans ?_
      unfold digB
      simp only [digI]
      rw [if_pos h32, List.append_assoc, ← toStr_app]; rfl
    · refine (fix_done fun next => last n l next (by omega) (by omega)).trans ?_
      unfold digB
      simp only [digI]
      rw [if_neg h32]

theorem pack1_eq {q : List UInt8} {d : Int} (hd : -500000000 ≤ d ∧ d ≤ 500000000) (hl : q.length ≤ 100000000) : R_PackOf_1 q d = some (q ++ digB 5 (zig d)) := by
  unfold R_PackOf_1
  rw [gI_ok (by omega), bnd_pure, cnd_if]
  have hz : zig d < 32 ^ (5 + 1) := by
    rw [show (32 : Nat) ^ (5 + 1) = 1073741824 from rfl]
    unfold zig; split <;> omega
  have hz' : zig d < 1073741824 := hz
  by_cases h : d < 0
  · rw [if_pos h, gI_ok (by omega), bnd_pure, gI_ok (by omega), bnd_pure, show -2 * d - 1 = (zig d : Int) from by unfold zig; rw [if_pos h]; omega]
    exact pack1_go 5 (zig d) q hz (by omega) (by omega)
  · rw [if_neg h, show 2 * d = (zig d : Int) from by unfold zig; rw [if_neg h]; omega]
    exact pack1_go 5 (zig d) q hz (by omega) (by omega)

theorem PackOf_eq {l : List T_api_Place} (h : listE l = 0) : R_PackOf l = some (packB ⟨0, 0⟩ l) := by
  obtain ⟨hl, hp⟩ := list_ok h
  unfold R_PackOf
  have key : ∀ (n k : Nat) (q : T_api_Place) (out : List UInt8), l.length - k = n → k ≤ l.length → PL q → out.length ≤ 12 * k → fix (fun next2 (s : Int × List UInt8 × Int × Int) => R_PackOf_l2 l next2 s.1 s.2.1 s.2.2.1 s.2.2.2) ((k : Int), out, q.Lat, q.Lon) = some (out ++ packB q (l.drop k)) := by
    intro n
    induction n with
    | zero =>
      intro k q out hn hk hq ho
      rw [List.drop_of_length_le (by omega)]
      refine fix_done fun next => ?_
      show R_PackOf_l2 l next k out q.Lat q.Lon = _
      unfold R_PackOf_l2 R_PackOf_j1
      rw [cnd_if, if_neg (by omega)]
      simp [packB, packI, toStr]
    | succ n ih =>
      intro k q out hn hk hq ho
      have hkl : k < l.length := by omega
      have hpk := hp _ (List.getElem_mem hkl)
      obtain ⟨q1, q2⟩ := hq
      have hpk' := hpk
      obtain ⟨p1, p2⟩ := hpk
      rw [List.drop_eq_getElem_cons hkl]
      have h1 := digB_len 5 (zig (l[k].Lat - q.Lat))
      have h2 := digB_len 5 (zig (l[k].Lon - q.Lon))
      refine (fix_goto (((k + 1 : Nat) : Int), out ++ digB 5 (zig (l[k].Lat - q.Lat)) ++ digB 5 (zig (l[k].Lon - q.Lon)), l[k].Lat, l[k].Lon) fun next => ?_).trans ?_
      · show R_PackOf_l2 l next k out q.Lat q.Lon = _
        unfold R_PackOf_l2
        rw [cnd_if, if_pos (by omega), gAt_nat hkl, bnd_pure, gI_ok (by omega), bnd_pure, pack1_eq (by omega) (by omega), bnd_pure, gI_ok (by omega), bnd_pure, pack1_eq (by omega) (by simp only [List.length_append]; omega), bnd_pure, gI_ok (by omega), bnd_pure]
        rfl
      · rw [ih (k + 1) l[k] _ (by omega) (by omega) hpk' (by simp only [List.length_append]; omega), packB_cons]
        simp only [List.append_assoc]
  have z : PL ⟨0, 0⟩ := by unfold PL; simp
  have := key l.length 0 ⟨0, 0⟩ [] (by omega) (by omega) z (by simp)
  rw [List.drop_zero, List.nil_append] at this
  exact this

/-! ### numbers first, pairs behind -/

def numsB : Nat → List UInt8 → Option (List Int)
  | _, [] => some []
  | 0, _ :: _ => none
  | f + 1, c :: s =>
    match readN 6 0 0 (c :: s) with
    | none => none
    | some (n, r) => (numsB f r).map fun t => unzig n :: t

def pairsB : T_api_Place → List Int → Option (List T_api_Place)
  | _, [] => some []
  | _, [_] => none
  | q, a :: b :: t => (pairsB ⟨q.Lat + a, q.Lon + b⟩ t).map fun l => ⟨q.Lat + a, q.Lon + b⟩ :: l

theorem nums_nil (f : Nat) : numsB f [] = some [] := by cases f <;> rfl

theorem nums_fuel : ∀ (f : Nat) (s : List UInt8), s.length ≤ f → numsB (f + 1) s = numsB f s
  | f, [], _ => by rw [nums_nil, nums_nil]
  | 0, _ :: _, h => by simp at h
  | f + 1, c :: s, h => by
    show (match readN 6 0 0 (c :: s) with | none => none | some (n, r) => (numsB (f + 1) r).map fun t => unzig n :: t) = (match readN 6 0 0 (c :: s) with | none => none | some (n, r) => (numsB f r).map fun t => unzig n :: t)
    cases hr : readN 6 0 0 (c :: s) with
    | none => rfl
    | some nr =>
      obtain ⟨n, r⟩ := nr
      have := (read_rest hr).1
      simp only [List.length_cons] at this h
      simp only
      rw [nums_fuel f r (by omega)]

theorem nums_bd : ∀ (f : Nat) (s : List UInt8) (ns : List Int), numsB f s = some ns → ns.length ≤ s.length ∧ ∀ x ∈ ns, -600000000 ≤ x ∧ x ≤ 600000000
  | f, [], ns, h => by
    rw [nums_nil] at h; cases h; simp
  | 0, _ :: _, ns, h => by cases h
  | f + 1, c :: s, ns, h => by
    simp only [numsB] at h
    split at h
    · cases h
    · rename_i n r hr
      cases hu : numsB f r with
      | none => rw [hu] at h; cases h
      | some t =>
        rw [hu] at h
        simp only [Option.map_some, Option.some.injEq] at h
        subst h
        obtain ⟨b1, b2⟩ := read_rest hr
        obtain ⟨i1, i2⟩ := nums_bd f r t hu
        refine ⟨by simp only [List.length_cons] at *; omega, fun x hx => ?_⟩
        rcases List.mem_cons.1 hx with rfl | hx
        · exact b2
        · exact i2 x hx

theorem unp_nums : ∀ (f : Nat) (q : T_api_Place) (s : List UInt8), s.length ≤ f → unpB f q s = (numsB f s).bind (pairsB q)
  | f, q, [], _ => by
    rw [nums_nil]; cases f <;> rfl
  | 0, _, _ :: _, h => by simp at h
  | f + 1, q, c :: s, h => by
    simp only [unpB, numsB]
    cases hr : readN 6 0 0 (c :: s) with
    | none => rfl
    | some nr =>
      obtain ⟨n, r⟩ := nr
      have hl := (read_rest hr).1
      simp only [List.length_cons] at hl h
      simp only
      cases hr2 : readN 6 0 0 r with
      | none =>
        cases r with
        | nil => rw [nums_nil]; rfl
        | cons d r =>
          cases f with
          | zero => simp only [List.length_cons] at hl; omega
          | succ f =>
            simp only [numsB, hr2]; rfl
      | some mt =>
        obtain ⟨m, t⟩ := mt
        have hl2 := (read_rest hr2).1
        cases r with
        | nil => cases hr2
        | cons d r =>
          cases f with
          | zero => simp only [List.length_cons] at hl; omega
          | succ f =>
            simp only [List.length_cons] at hl hl2
            simp only [numsB, hr2]
            rw [unp_nums (f + 1) _ t (by omega), nums_fuel f t (by omega)]
            cases numsB f t <;> rfl

theorem pairs_len : ∀ (q : T_api_Place) (ns : List Int), match pairsB q ns with | none => ns.length % 2 = 1 | some l => ns.length = 2 * l.length
  | _, [] => rfl
  | _, [_] => rfl
  | q, a :: b :: t => by
    have := pairs_len ⟨q.Lat + a, q.Lon + b⟩ t
    simp only [pairsB]
    cases h : pairsB ⟨q.Lat + a, q.Lon + b⟩ t with
    | none => rw [h] at this; simp only [Option.map_none, List.length_cons] at *; omega
    | some l => rw [h] at this; simp only [Option.map_some, List.length_cons] at *; omega

def faultP : List T_api_Place → Int
  | [] => 0
  | p :: r => if placeS p.Lat p.Lon = 0 then faultP r else placeS p.Lat p.Lon

theorem firstE_shift (c : Nat → Int) : ∀ m k, firstE c m (k + 1) = firstE (fun j => c (j + 1)) m k
  | 0, _ => rfl
  | m + 1, k => by
    simp only [firstE]
    rw [firstE_shift c m (k + 1)]

theorem faultP_eq : ∀ l : List T_api_Place, firstE (fun k => placeS (l.getD k default).Lat (l.getD k default).Lon) l.length 0 = faultP l
  | [] => rfl
  | p :: r => by
    show firstE _ (r.length + 1) 0 = _
    simp only [firstE, faultP, firstE_shift]
    rw [← faultP_eq r]
    rfl

theorem listE_eq (l : List T_api_Place) : listE l = if 1000 < (l.length : Int) then 4 else faultP l := by
  unfold listE; rw [faultP_eq]

/-! ### reading numbers -/

theorem j4_eq {l : List Int} {next : Int × List Int → Option (List T_api_Place × Int)} {x : Int} {n : Nat} (hn : n < 2000000000) (hl : l.length ≤ 1000000) : R_UnpackOf_j4 l next x n = next (x, l ++ [unzig n]) := by
  unfold R_UnpackOf_j4 R_UnpackOf_j5 unzig
  rw [gRem_nn (by omega) (by omega), bnd_pure, cnd_if]
  by_cases h : n % 2 = 1
  · rw [if_pos (by omega), if_pos h, gI_ok (by omega), bnd_pure, gI_ok (by omega), bnd_pure, gQuo_ok (by omega) (by omega), bnd_pure, gApp_ok (by simp only [List.length_singleton]; omega), bnd_pure]
    have : (-((n : Int) + 1)).tdiv 2 = -(((n + 1) / 2 : Nat) : Int) := by
      rw [Int.neg_tdiv, Int.tdiv_eq_ediv_of_nonneg (by omega)]; omega
    rw [this]
  · rw [if_neg (by omega), if_neg h, gQuo_nn (by omega) (by omega), bnd_pure, gApp_ok (by simp only [List.length_singleton]; omega), bnd_pure]
    rfl

theorem inner_eq (s : List UInt8) (hs : s.length ≤ 1000000) (l : List Int) (hl : l.length ≤ 1000000) (next3 : Int × List Int → Option (List T_api_Place × Int)) :
    ∀ (f i acc x : Nat), i + f = 6 → acc < 32 ^ i → x ≤ s.length → fix (fun next6 (t : Int × Int × Int × Bool) => R_UnpackOf_l6 s l next3 next6 t.1 t.2.1 t.2.2.1 t.2.2.2) ((x : Int), (acc : Int), (i : Int), true) =
      match readN f i acc (s.drop x) with | none => some ([], 8) | some (v, r) => next3 (((s.length - r.length : Nat) : Int), l ++ [unzig v]) := by
  intro f
  induction f with
  | zero =>
    intro i acc x hif ha hx
    refine fix_done fun next => ?_
    show R_UnpackOf_l6 s l next3 next x acc i true = _
    unfold R_UnpackOf_l6
    rw [cnd_true, cnd_if]
    rcases Nat.lt_or_ge x s.length with h | h
    · have hc := UInt8.toNat_lt s[x]
      rw [if_neg (by omega), gOct_nat h, bnd_pure, bnd_pure, cnd_if, cnd_if, cnd_if]
      by_cases h1 : ((s[x].toNat : Nat) : Int) < 63
      · rw [if_pos h1]; rfl
      · rw [if_neg h1]
        by_cases h2 : (126 : Int) < ((s[x].toNat : Nat) : Int)
        · rw [if_pos h2]; rfl
        · rw [if_neg h2, if_pos (by omega)]; rfl
    · rw [if_pos (by omega)]; rfl
  | succ f ih =>
    intro i acc x hif ha hx
    have hp := pow32_le i (by omega)
    rcases Nat.lt_or_ge x s.length with h | h
    · have hdrop := List.drop_eq_getElem_cons h
      rw [hdrop]
      have hc := UInt8.toNat_lt s[x]
      generalize hC : s[x].toNat = c at *
      unfold readN
      rw [hC]
      by_cases h1 : c < 63 ∨ 126 < c
      · rw [if_pos h1]
        refine fix_done fun next => ?_
        show R_UnpackOf_l6 s l next3 next x acc i true = _
        unfold R_UnpackOf_l6
        rw [cnd_true, cnd_if, if_neg (by omega), gOct_nat h, bnd_pure, bnd_pure, hC, cnd_if, cnd_if]
        by_cases h2 : (c : Int) < 63
        · rw [if_pos h2]
        · rw [if_neg h2, if_pos (by omega)]
      · rw [if_neg h1]
        have hm : ((c : Int) - 63) % 32 = (((c - 63) % 32 : Nat) : Int) := by omega
        have hb : (c - 63) % 32 * 32 ^ i ≤ 31 * 33554432 := Nat.mul_le_mul (by omega) hp.2
        have hsh : gShl (((c - 63) % 32 : Nat) : Int) (5 * (i : Int)) = some (((c - 63) % 32 * 32 ^ i : Nat) : Int) := by
          unfold gShl
          rw [if_pos (by omega), pow32 i (by omega), ← Int.natCast_mul, gI_ok (by omega)]
        have hacc : acc + (c - 63) % 32 * 32 ^ i < 32 ^ (i + 1) := by
          rw [Nat.pow_succ]
          have : (c - 63) % 32 * 32 ^ i ≤ 31 * 32 ^ i := Nat.mul_le_mul_right _ (by omega)
          omega
        have run : ∀ next, R_UnpackOf_l6 s l next3 next x acc i true = cnd (!(decide (32 ≤ (c : Int) - 63))) (cnd (decide ((c : Int) - 63 = 0)) (cnd (decide (1 < (i : Int) + 1)) (some (([] : List T_api_Place), 8)) (next ((x : Int) + 1, ((acc + (c - 63) % 32 * 32 ^ i : Nat) : Int), (i : Int) + 1, decide (32 ≤ (c : Int) - 63)))) (next ((x : Int) + 1, ((acc + (c - 63) % 32 * 32 ^ i : Nat) : Int), (i : Int) + 1, decide (32 ≤ (c : Int) - 63)))) (next ((x : Int) + 1, ((acc + (c - 63) % 32 * 32 ^ i : Nat) : Int), (i : Int) + 1, decide (32 ≤ (c : Int) - 63))) := by
          intro next
          unfold R_UnpackOf_l6 R_UnpackOf_j7
          rw [cnd_true, cnd_if, if_neg (by omega), gOct_nat h, bnd_pure, hC, cnd_if, if_neg (by omega), bnd_pure, cnd_if, if_neg (by omega), cnd_if, if_neg (by omega), bnd_pure, gK_ok (by omega), bnd_pure, gI_ok (by omega), bnd_pure,
            gRem_nn (by omega) (by omega), bnd_pure, gI_ok (by omega), bnd_pure, hm, hsh, bnd_pure, ← Int.natCast_add, gI_ok (by omega), bnd_pure, gI_ok (by omega), bnd_pure, gI_ok (by omega), bnd_pure]
        by_cases h2 : 32 ≤ c - 63
        · rw [if_pos h2]
          refine (fix_goto (((x + 1 : Nat) : Int), ((acc + (c - 63) % 32 * 32 ^ i : Nat) : Int), ((i + 1 : Nat) : Int), true) fun next => ?_).trans (ih (i + 1) _ (x + 1) (by omega) hacc (by omega))
          show R_UnpackOf_l6 s l next3 next x acc i true = _
          rw [run, decide_eq_true (show (32 : Int) ≤ (c : Int) - 63 by omega), Bool.not_true, cnd_false]; rfl
        · rw [if_neg h2]
          have hmod : (c - 63) % 32 = c - 63 := by omega
          rw [hmod] at run hb hacc
          have hdec : decide ((32 : Int) ≤ (c : Int) - 63) = false := decide_eq_false (by omega)
          rw [hdec, Bool.not_false] at run
          simp only [cnd_true] at run
          by_cases h3 : c = 63 ∧ 0 < i
          · rw [if_pos h3]
            refine fix_done fun next => ?_
            show R_UnpackOf_l6 s l next3 next x acc i true = _
            rw [run, cnd_if, if_pos (by omega), cnd_if, if_pos (by omega)]
          · rw [if_neg h3]
            have fin : ∀ next, R_UnpackOf_l6 s l next3 next x acc i true = next (((x + 1 : Nat) : Int), ((acc + (c - 63) * 32 ^ i : Nat) : Int), ((i + 1 : Nat) : Int), false) := by
              intro next
              rw [run, cnd_if, cnd_if]
              split
              · rw [if_neg (by omega)]; rfl
              · rfl
            refine (fix_goto _ fin).trans ?_
            refine fix_done fun next => ?_
            show R_UnpackOf_l6 s l next3 next ((x + 1 : Nat) : Int) ((acc + (c - 63) * 32 ^ i : Nat) : Int) ((i + 1 : Nat) : Int) false = _
            unfold R_UnpackOf_l6
            rw [cnd_false, j4_eq (by
              have : 32 ^ i ≤ 33554432 := hp.2
              omega) hl]
            simp only [List.length_drop]
            rw [show s.length - (s.length - (x + 1)) = x + 1 from by omega]
    · rw [List.drop_of_length_le h]
      refine fix_done fun next => ?_
      show R_UnpackOf_l6 s l next3 next x acc i true = _
      unfold R_UnpackOf_l6
      rw [cnd_true, cnd_if, if_pos (by omega)]; rfl

theorem read_is_drop {s : List UInt8} {x : Nat} (hx : x ≤ s.length) {n : Nat} {r : List UInt8} (h : readN 6 0 0 (s.drop x) = some (n, r)) : r = s.drop (s.length - r.length) := by
  obtain ⟨n', e1, e2, _, _⟩ := dig_read 5 0 0 _ _ _ h
  have hl := congrArg List.length e2
  rw [List.length_append, List.length_drop] at hl
  have : r = (s.drop x).drop (digB 5 n').length := by rw [e2, List.drop_left]
  rw [List.drop_drop] at this
  rw [show s.length - r.length = x + (digB 5 n').length from by omega]
  exact this

theorem outer_eq (s : List UInt8) (hs : s.length ≤ 1000000) : ∀ (f x : Nat) (acc : List Int), x ≤ s.length → s.length - x ≤ f → acc.length ≤ x → fix (fun next3 (t : Int × List Int) => R_UnpackOf_l3 s next3 t.1 t.2) ((x : Int), acc) =
    match numsB f (s.drop x) with | none => some ([], 8) | some ns => R_UnpackOf_j1 (acc ++ ns) := by
  intro f
  induction f with
  | zero =>
    intro x acc hx hf ha
    rw [List.drop_of_length_le (by omega)]
    refine fix_done fun next => ?_
    show R_UnpackOf_l3 s next x acc = _
    unfold R_UnpackOf_l3
    rw [cnd_if, if_neg (by omega), nums_nil]
    simp only [List.append_nil]
  | succ f ih =>
    intro x acc hx hf ha
    rcases Nat.lt_or_ge x s.length with h | h
    · have hd := List.drop_eq_getElem_cons h
      have head : ∀ next, R_UnpackOf_l3 s next x acc = match readN 6 0 0 (s.drop x) with | none => some ([], 8) | some (v, r) => next (((s.length - r.length : Nat) : Int), acc ++ [unzig v]) := by
        intro next
        unfold R_UnpackOf_l3
        rw [cnd_if, if_pos (by omega)]
        exact inner_eq s hs acc (by omega) next 6 0 0 x rfl (by simp) hx
      have hn : numsB (f + 1) (s.drop x) = match readN 6 0 0 (s.drop x) with | none => none | some (n, r) => (numsB f r).map fun t => unzig n :: t := by
        rw [hd]; rfl
      rw [hn]
      cases hr : readN 6 0 0 (s.drop x) with
      | none =>
        refine fix_done fun next => ?_
        show R_UnpackOf_l3 s next x acc = _
        rw [head, hr]
      | some vr =>
        obtain ⟨v, r⟩ := vr
        have hb := (read_rest hr).1
        rw [List.length_drop] at hb
        refine (fix_goto (((s.length - r.length : Nat) : Int), acc ++ [unzig v]) fun next => ?_).trans ?_
        · show R_UnpackOf_l3 s next x acc = _
          rw [head, hr]
        · refine (ih (s.length - r.length) (acc ++ [unzig v]) (by omega) (by omega) (by simp only [List.length_append, List.length_singleton]; omega)).trans ?_
          rw [← read_is_drop hx hr]
          simp only
          cases numsB f r with
          | none => rfl
          | some t => simp only [Option.map_some, List.append_assoc, List.singleton_append]
    · rw [List.drop_of_length_le h]
      refine fix_done fun next => ?_
      show R_UnpackOf_l3 s next x acc = _
      unfold R_UnpackOf_l3
      rw [cnd_if, if_neg (by omega), nums_nil]
      simp only [List.append_nil]

/-! ### pairs -/

theorem pairs_go (ns : List Int) (hb : ∀ x ∈ ns, -600000000 ≤ x ∧ x ≤ 600000000) (hn : ns.length ≤ 2000) : ∀ (f k : Nat) (q : T_api_Place) (acc l : List T_api_Place), 2 * k + 2 * f = ns.length → acc.length = k → (-600000000 * (k : Int) ≤ q.Lat ∧ q.Lat ≤ 600000000 * (k : Int)) → (-600000000 * (k : Int) ≤ q.Lon ∧ q.Lon ≤ 600000000 * (k : Int)) →
    pairsB q (ns.drop (2 * k)) = some l → fix (fun next2 (t : Int × Int × Int × List T_api_Place) => R_UnpackOf_l2 ns next2 t.1 t.2.1 t.2.2.1 t.2.2.2) (((2 * k : Nat) : Int), q.Lat, q.Lon, acc) = some (if faultP l = 0 then (acc ++ l, 0) else ([], faultP l)) := by
  intro f
  induction f with
  | zero =>
    intro k q acc l hk ha h1 h2 hp
    rw [List.drop_of_length_le (by omega)] at hp
    cases hp
    refine fix_done fun next => ?_
    show R_UnpackOf_l2 ns next ((2 * k : Nat) : Int) q.Lat q.Lon acc = _
    unfold R_UnpackOf_l2
    rw [cnd_if, if_neg (by omega)]
    simp [faultP]
  | succ f ih =>
    intro k q acc l hk ha h1 h2 hp
    have g1 : 2 * k < ns.length := by omega
    have g2 : 2 * k + 1 < ns.length := by omega
    rw [List.drop_eq_getElem_cons g1, List.drop_eq_getElem_cons g2] at hp
    simp only [pairsB] at hp
    have b1 := hb _ (List.getElem_mem g1)
    have b2 := hb _ (List.getElem_mem g2)
    generalize hA : ns[2 * k] = a at *
    generalize hB : ns[2 * k + 1] = b at *
    cases hu : pairsB ⟨q.Lat + a, q.Lon + b⟩ (ns.drop (2 * k + 1 + 1)) with
    | none => rw [hu] at hp; cases hp
    | some t =>
      rw [hu] at hp
      simp only [Option.map_some, Option.some.injEq] at hp
      subst hp
      have head : ∀ next, R_UnpackOf_l2 ns next ((2 * k : Nat) : Int) q.Lat q.Lon acc = if placeS (q.Lat + a) (q.Lon + b) = 0 then next (((2 * (k + 1) : Nat) : Int), q.Lat + a, q.Lon + b, acc ++ [⟨q.Lat + a, q.Lon + b⟩]) else some ([], placeS (q.Lat + a) (q.Lon + b)) := by
        intro next
        unfold R_UnpackOf_l2
        rw [cnd_if, if_pos (by omega), gAt_nat g1, bnd_pure, hA, gI_ok (by omega), bnd_pure, gI_ok (by omega), bnd_pure, show ((2 * k : Nat) : Int) + 1 = ((2 * k + 1 : Nat) : Int) from by omega, gAt_nat g2, bnd_pure, hB, gI_ok (by omega), bnd_pure, R_PlaceFault_eq, bnd_pure, cnd_if]
        simp only
        by_cases h0 : placeS (q.Lat + a) (q.Lon + b) = 0
        · rw [if_neg (fun h => h h0), if_pos h0, gApp_ok (by simp only [List.length_singleton]; omega), bnd_pure, gI_ok (by omega), bnd_pure, show ((2 * k : Nat) : Int) + 2 = ((2 * (k + 1) : Nat) : Int) from by omega]
        · rw [if_pos h0, if_neg h0]
      simp only [faultP]
      by_cases h0 : placeS (q.Lat + a) (q.Lon + b) = 0
      · rw [if_pos h0]
        refine (fix_goto _ fun next => (head next).trans (if_pos h0)).trans ?_
        refine (ih (k + 1) ⟨q.Lat + a, q.Lon + b⟩ (acc ++ [⟨q.Lat + a, q.Lon + b⟩]) t (by omega) (by simp only [List.length_append, List.length_singleton]; omega) (by simp only; omega) (by simp only; omega) hu).trans ?_
        simp only [List.append_assoc, List.singleton_append]
      · rw [if_neg h0, if_neg h0]
        exact fix_done fun next => (head next).trans (if_neg h0)

theorem j1_eq (ns : List Int) (hb : ∀ x ∈ ns, -600000000 ≤ x ∧ x ≤ 600000000) (hn : ns.length ≤ 1000000) : R_UnpackOf_j1 ns = some (match pairsB ⟨0, 0⟩ ns with | none => ([], 8) | some l => if listE l = 0 then (l, 0) else ([], listE l)) := by
  unfold R_UnpackOf_j1
  have hl := pairs_len ⟨0, 0⟩ ns
  rw [gRem_nn (by omega) (by omega), bnd_pure, cnd_if]
  cases hp : pairsB ⟨0, 0⟩ ns with
  | none =>
    rw [hp] at hl
    simp only at hl
    rw [if_pos (by omega)]
  | some l =>
    rw [hp] at hl
    simp only at hl ⊢
    rw [if_neg (by omega), gQuo_nn (by omega) (by omega), bnd_pure, cnd_if, listE_eq]
    by_cases h : 1000 < (l.length : Int)
    · rw [if_pos (by omega), if_pos h, if_neg (by decide)]
    · rw [if_neg (by omega), if_neg h]
      have := pairs_go ns hb (by omega) l.length 0 ⟨0, 0⟩ [] l (by omega) rfl (by simp) (by simp) (by simpa using hp)
      simpa using this

theorem UnpackOf_eq (s : List UInt8) : R_UnpackOf s = where_Unpack s := by
  by_cases hs : s.length ≤ 1000000
  · rw [Unpack_eq s hs]
    unfold R_UnpackOf
    rw [cnd_if, if_neg (by omega)]
    have h := outer_eq s hs s.length 0 [] (Nat.zero_le _) (by omega) (by simp)
    rw [List.drop_zero] at h
    refine h.trans ?_
    rw [unp_nums _ _ _ (Nat.le_refl _)]
    cases hu : numsB s.length s with
    | none => rfl
    | some ns =>
      obtain ⟨b1, b2⟩ := nums_bd _ _ _ hu
      simp only [List.nil_append, Option.bind_some]
      exact j1_eq ns b2 (by omega)
  · unfold where_Unpack R_UnpackOf
    rw [cnd_if, if_pos (by omega), cnd_if, if_pos (by omega)]

theorem Unpack_ok (s : List UInt8) : ∃ l e, where_Unpack s = some (l, e) ∧ l.length ≤ 1000000 ∧ (e ≠ 0 → l = []) := by
  by_cases hs : s.length ≤ 1000000
  · rw [Unpack_eq s hs]
    cases hu : unpB s.length ⟨0, 0⟩ s with
    | none => exact ⟨[], 8, rfl, by simp, fun _ => rfl⟩
    | some l =>
      have := unp_len _ _ _ _ hu
      by_cases h : listE l = 0
      · exact ⟨l, 0, by simp only [if_pos h], by omega, fun hh => absurd rfl hh⟩
      · exact ⟨[], listE l, by simp only [if_neg h], by simp, fun _ => rfl⟩
  · refine ⟨[], 4, ?_, by simp, fun _ => rfl⟩
    unfold where_Unpack
    rw [cnd_if, if_pos (by omega)]

/-! ### the law -/

theorem told_str {v w : List UInt8} {e f : Int} (h0 : f = 0 → v = w) (h1 : f ≠ 0 → v = []) (he : e = f) : Law_told_string v e w f = some true := by
  subst he
  have key : Law_told_string_j1 v e e v = some true := by
    unfold Law_told_string_j1; simp [cnd]
  unfold Law_told_string
  rw [cnd_if]
  by_cases h : e = 0
  · rw [if_neg (fun hh => hh h), ← h0 h]; exact key
  · rw [if_pos h, ← h1 h]; exact key

theorem listed_same {l : List T_api_Place} {e : Int} (hl : l.length ≤ 1000000) (h : e ≠ 0 → l = []) : Law_listed_api_Place l e l e = some true := by
  have key : Law_listed_api_Place_j1 l e e l = some true := by
    unfold Law_listed_api_Place_j1
    rw [equal_places l hl, bnd_pure, cnd_true, decide_eq_true rfl]
  unfold Law_listed_api_Place
  rw [cnd_if]
  by_cases h0 : e = 0
  · rw [if_neg (fun hh => hh h0)]; exact key
  · rw [if_pos h0]
    have := h h0
    subst this
    exact key

theorem packs_j1 {s x : List UInt8} {p : List UInt8 × Int} {e : Int} (h0 : e = 0 → p.1 = x) (h1 : e ≠ 0 → p.1 = []) (he : p.2 = e) : Law_WherePacks_j1 s p e x = some true := by
  unfold Law_WherePacks_j1
  rw [told_str h0 h1 he, bnd_pure, Bool.not_true, cnd_false]
  refine fix_upto (F := fun next2 t => Law_WherePacks_l2 s x next2 t) 0 2 (by omega) (fun next k _ hk => ?_) fun next => ?_
  · show Law_WherePacks_l2 s x next k = _
    unfold Law_WherePacks_l2
    have hk' : k < ([s, x] : List (List UInt8)).length := hk
    rw [cnd_if, if_pos (by omega), gAt_nat hk', bnd_pure, UnpackOf_eq]
    obtain ⟨l, c, e1, e2, e3⟩ := Unpack_ok ([s, x] : List (List UInt8))[k]
    rw [e1, bnd_pure, bnd_pure, listed_same e2 e3, bnd_pure, Bool.not_true, cnd_false, gI_ok (by omega), bnd_pure]
  · show Law_WherePacks_l2 s x next _ = _
    unfold Law_WherePacks_l2
    rw [cnd_if, if_neg (by omega)]

theorem faultL_false (l : List T_api_Place) : faultL l false = listE l := by
  unfold faultL; rw [if_neg (fun h => by cases h.1)]

theorem checkList_any (l : List T_api_Place) : where_checkList l = some (listE l) := by
  by_cases h : 1000 < l.length
  · rw [checkList_big l h]; unfold listE; rw [if_pos (by omega)]
  · exact checkList_eq l (by omega)

theorem where_packs (l : List T_api_Place) (s : List UInt8) (hl : l.length ≤ 1000000000000000) : Law_WherePacks l s = some true := by
  unfold Law_WherePacks
  rw [listFault_eq l hl, faultL_false]
  by_cases h : listE l = 0
  · rw [Pack_eq h, bnd_pure, bnd_pure, cnd_if, if_pos h, PackOf_eq h, bnd_pure, h]
    exact packs_j1 (fun _ => rfl) (fun hh => absurd rfl hh) rfl
  · have : where_Pack l = some ([], listE l) := by
      unfold where_Pack
      rw [checkList_any l, bnd_pure, cnd_if, if_pos h]
    rw [this, bnd_pure, bnd_pure, cnd_if, if_neg h]
    exact packs_j1 (fun hh => absurd hh h) (fun _ => rfl) rfl

theorem wherePacksS (l : List T_api_Place) (s : List UInt8) {φ ψ : Prop} (h : (l.length ≤ 9223372036854775807 ∧ l.length * 16 ≤ 140737488351232) ∧ φ) (_ : ψ) : Law_WherePacks l s = some true :=
  where_packs l s (by have := h.1; omega)

end Go.M
