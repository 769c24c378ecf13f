/- The law EditHistories in plain Lean: a history is its past, its present and its future. Conditions: none. -/
import Derived.Test.YtohdhdiaahiicaaEhC
namespace Go.M
open Go.Md Go.Pl

theorem eh_clone {l : List T_edit_Step} (h : l.length ≤ 3518437208780) : slices_Clone_edit_Step l = some l := by
  unfold slices_Clone_edit_Step
  rw [gApp_ok (by simp only [List.length_nil]; omega), bnd_pure]; rfl
theorem eh_unless (x : Bool) (e : Int) : Law_unless x e = some (if x = true then 0 else e) := by unfold Law_unless; cases x <;> rfl
theorem eh_Equal (a b : List T_edit_Step) : slices_Equal_edit_Step a b = edit_Same a b := by
  unfold edit_Same
  cases slices_Equal_edit_Step a b <;> rfl
theorem gAt_mid {α : Type} (a : List α) (x : α) (b : List α) : gAt (a ++ x :: b) (a.length : Int) = some x := by
  unfold gAt; rw [if_pos (by omega)]; simp

structure Inv (now : List T_edit_Step) (m : Int) (past nx all : List (List T_edit_Step)) : Prop where
  all_eq : all = past ++ now :: nx.reverse
  m_eq : m = past.length
  len : past.length + nx.length ≤ 100
  rows : ∀ r ∈ all, r.length ≤ 50

section
variable {now : List T_edit_Step} {m : Int} {past nx all : List (List T_edit_Step)}

theorem Inv.now_len (I : Inv now m past nx all) : now.length ≤ 50 := I.rows _ (by rw [I.all_eq]; simp)
theorem Inv.alen (I : Inv now m past nx all) : all.length = past.length + 1 + nx.length := by rw [I.all_eq]; simp; omega
theorem Inv.at (I : Inv now m past nx all) : gAt all m = some now := by rw [I.all_eq, I.m_eq]; exact gAt_mid _ _ _
theorem Inv.now_eq (I : Inv now m past nx all) : edit_History_Now ⟨all, m⟩ = some now := by
  have := I.now_len
  unfold edit_History_Now edit_History_at
  rw [I.at, bnd_pure, eh_clone (by omega), bnd_pure, bnd_pure]

/-- The past with the present, the oldest one left out where there are too many. -/
def trimP (past : List (List T_edit_Step)) (now : List T_edit_Step) : List (List T_edit_Step) := if past.length = 100 then (past ++ [now]).drop 1 else past ++ [now]

theorem trimP_len (h : past.length ≤ 100) : (trimP past now).length ≤ 100 := by
  unfold trimP
  split
  · rw [List.length_drop]; simp; omega
  · simp; omega

theorem Inv.put (I : Inv now m past nx all) {l : List T_edit_Step} (hl : l.length ≤ 50) : edit_History_put ⟨all, m⟩ l = some ⟨trimP past now ++ [l], ((trimP past now).length : Int)⟩ ∧ Inv l ((trimP past now).length : Int) (trimP past now) [] (trimP past now ++ [l]) := by
  have hp := I.len
  have hn := I.now_len
  have hr := I.rows
  refine ⟨?_, rfl, rfl, by have := trimP_len (past := past) (now := now) (by omega); simpa using this, fun r h => ?_⟩
  · unfold edit_History_put
    dsimp only
    have ha := I.alen
    have hm := I.m_eq
    have hcut : gCut all 0 (m + 1) = some (past ++ [now]) := by
      rw [gCut_to (by rw [I.m_eq]; omega), I.m_eq, I.all_eq, show ((past.length : Int) + 1).toNat = (past ++ [now]).length from by simp, show past ++ now :: nx.reverse = (past ++ [now]) ++ nx.reverse from by simp, List.take_left]
    rw [gI_ok (by omega), bnd_pure, hcut, bnd_pure, eh_clone (by omega), bnd_pure, gApp_ok (by simp; omega), bnd_pure, cnd_if]
    unfold edit_History_put_j1 trimP
    by_cases h : past.length = 100
    · have hL : (past ++ [now] ++ [l]).length = 102 := by simp; omega
      rw [if_pos (by rw [hL]; omega), hL, gI_ok (by omega), bnd_pure, gI_ok (by omega), bnd_pure]
      have hd : slices_Delete_edit_Step_edit_Step ([] : List T_edit_Step) (past ++ [now] ++ [l]) 0 (((102 : Nat) : Int) - 100 - 1) = some ((past ++ [now] ++ [l]).drop 1) := by
        unfold slices_Delete_edit_Step_edit_Step
        rw [show (((102 : Nat) : Int) - 100 - 1) = 1 from by omega, gCut_ok ⟨by omega, by omega, by rw [hL]; omega⟩, bnd_pure, cnd_if, if_neg (by omega), gCut_ok ⟨by omega, by omega, by omega⟩, bnd_pure, gCut_from (by rw [hL]; omega), bnd_pure]
        have hz : ((past ++ [now] ++ [l]).drop (0 : Int).toNat).take ((0 : Int).toNat - (0 : Int).toNat) = [] := by simp
        rw [hz, gApR_ok (by rw [List.length_drop]; simp), bnd_pure, gIf_ok (by simp only [List.nil_append, List.length_drop]; omega), bnd_pure]
        rfl
      have hL2 : ((past ++ [now] ++ [l]).drop 1).length = 101 := by rw [List.length_drop, hL]
      rw [hd, bnd_pure, hL2, gI_ok (by omega), bnd_pure, if_pos h]
      have e : (past ++ [now] ++ [l]).drop 1 = (past ++ [now]).drop 1 ++ [l] := List.drop_append_of_le_length (by simp)
      rw [e]
      congr 2
      rw [List.length_drop]; simp; omega
    · rw [if_neg (by simp; omega), gI_ok (by simp; omega), bnd_pure, if_neg h]
      congr 2
      simp <;> omega
  · rcases List.mem_append.1 h with h | h
    · have : r ∈ past ++ [now] := by
        unfold trimP at h
        split at h
        · exact List.mem_of_mem_drop h
        · exact h
      exact hr r (by rw [I.all_eq]; rcases List.mem_append.1 this with h | h <;> simp_all)
    · simp at h; rw [h]; exact hl

def addF (now : List T_edit_Step) (s : T_edit_Step) : Int := if stepE s ≠ 0 then stepE s else if now.length < 50 then 0 else 4

theorem Inv.add (I : Inv now m past nx all) (s : T_edit_Step) : edit_History_Add ⟨all, m⟩ s = some (addF now s, if addF now s = 0 then ⟨trimP past now ++ [now ++ [s]], ((trimP past now).length : Int)⟩ else ⟨all, m⟩) := by
  have hn := I.now_len
  unfold edit_History_Add addF
  rw [CheckStep_eq, bnd_pure, cnd_if]
  by_cases h : stepE s ≠ 0
  · rw [if_pos h, if_pos h, if_neg h]
  · rw [if_neg h, if_neg h, I.now_eq, bnd_pure, gApp_ok (by simp; omega), bnd_pure, cnd_if]
    by_cases h2 : now.length < 50
    · rw [if_neg (by simp; omega), if_pos h2, if_pos rfl, (I.put (l := now ++ [s]) (by simp; omega)).1, bnd_pure]
    · rw [if_pos (by simp; omega), if_neg h2, if_neg (by decide)]

open Classical in
noncomputable def setF (now l : List T_edit_Step) : Int := if stepsE l ≠ 0 then stepsE l else if l = now then 11 else 0

theorem Inv.set (I : Inv now m past nx all) (l : List T_edit_Step) : edit_History_Set ⟨all, m⟩ l = some (setF now l, if setF now l = 0 then ⟨trimP past now ++ [l], ((trimP past now).length : Int)⟩ else ⟨all, m⟩) := by
  unfold edit_History_Set setF
  rw [Check_eq, bnd_pure, cnd_if]
  by_cases h : stepsE l ≠ 0
  · rw [if_pos h, if_pos h, if_neg h]
  · rw [if_neg h, if_neg h, I.at, bnd_pure]
    have hl := (stepsE_ok (by simpa using h)).1
    by_cases h2 : l = now
    · rw [Same_t (by omega) h2, bnd_pure, cnd_true, if_pos h2, if_neg (by decide)]
    · rw [Same_f (by omega) h2, bnd_pure, cnd_false, if_neg h2, if_pos rfl, (I.put hl).1, bnd_pure]

variable {script : List T_tintlaw2_Move} {k : Nat}

theorem Inv.j3 (hk : k < 1000000000000000) (next2 : (List T_edit_Step × Int × Int × List (List T_edit_Step) × List (List T_edit_Step) × List (List T_edit_Step)) → Option Bool) :
    Law_EditHistories_j3 (k : Int) next2 now m past nx all = next2 (now, (k : Int) + 1, m, past, nx, all) := by
  unfold Law_EditHistories_j3
  rw [gI_ok (by omega), bnd_pure]

theorem Inv.j5 (hk : k < 1000000000000000) (I : Inv now m past nx all) (next2 : (List T_edit_Step × Int × Int × List (List T_edit_Step) × List (List T_edit_Step) × List (List T_edit_Step)) → Option Bool) :
    Law_EditHistories_j5 (k : Int) next2 m all now past nx = next2 (now, (k : Int) + 1, m, past, nx, all) := by
  have hn := I.now_len
  unfold Law_EditHistories_j5
  rw [I.now_eq, bnd_pure, eh_Equal, Same_t (by omega) rfl, bnd_pure, Bool.not_true, cnd_false, Inv.j3 hk]

theorem Inv.j4_no (hk : k < 1000000000000000) (I : Inv now m past nx all) {f : Int} (hf : f ≠ 0) (l : List T_edit_Step) (next2 : (List T_edit_Step × Int × Int × List (List T_edit_Step) × List (List T_edit_Step) × List (List T_edit_Step)) → Option Bool) :
    Law_EditHistories_j4 (k : Int) past nx next2 now l f m all = next2 (now, (k : Int) + 1, m, past, nx, all) := by
  unfold Law_EditHistories_j4
  rw [cnd_if, if_neg hf, I.j5 hk]

theorem Inv.j4_ok (hk : k < 1000000000000000) (I : Inv now m past nx all) {l : List T_edit_Step} (hl : l.length ≤ 50) (next2 : (List T_edit_Step × Int × Int × List (List T_edit_Step) × List (List T_edit_Step) × List (List T_edit_Step)) → Option Bool) :
    Law_EditHistories_j4 (k : Int) past nx next2 now l 0 ((trimP past now).length : Int) (trimP past now ++ [l]) = next2 (l, (k : Int) + 1, ((trimP past now).length : Int), trimP past now, [], trimP past now ++ [l]) := by
  have I' := (I.put hl).2
  have hp := I.len
  unfold Law_EditHistories_j4
  have hc : slices_Clone_edit_Step_edit_Step ([] : List T_edit_Step) past = some past := by
    unfold slices_Clone_edit_Step_edit_Step
    rw [gApp_ok (by simp only [List.length_nil]; omega), bnd_pure]; rfl
  rw [cnd_if, if_pos rfl, hc, bnd_pure, gApp_ok (by simp; omega), bnd_pure, cnd_if]
  by_cases h : past.length = 100
  · have ht : trimP past now = (past ++ [now]).drop 1 := by unfold trimP; rw [if_pos h]
    rw [if_pos (by simp; omega), gCut_from (by simp; omega), bnd_pure]
    have : (past ++ [now]).drop (Int.toNat 1) = trimP past now := ht.symm
    rw [this, I'.j5 hk]
  · have ht : trimP past now = past ++ [now] := by unfold trimP; rw [if_neg h]
    rw [if_neg (by simp; omega), ← ht, I'.j5 hk]

/-- One move. -/
theorem Inv.step (hs : ∀ v ∈ script, v.Steps.length ≤ 3518437208780) (hlen : script.length ≤ 100000000000000) (hk : k < script.length) (I : Inv now m past nx all) :
    ∃ now' m' past' nx' all', Inv now' m' past' nx' all' ∧ ∀ next2, Law_EditHistories_l2 script next2 now (k : Int) m past nx all = next2 (now', (k : Int) + 1, m', past', nx', all') := by
  have hn := I.now_len
  have hp := I.len
  have hk' : k < 1000000000000000 := by omega
  have hv := hs _ (List.getElem_mem hk)
  have head : ∀ next2, Law_EditHistories_l2 script next2 now (k : Int) m past nx all = _ := fun next2 => by
    unfold Law_EditHistories_l2
    rw [cnd_if, if_pos (by omega), gAt_nat hk, bnd_pure, cnd_if]
  generalize script[k] = mv at head hv
  by_cases k0 : mv.Kind = 0
  · have hF : (if stepE mv.Step ≠ 0 then stepE mv.Step else (if decide ((now.length : Int) < 50) = true then (0 : Int) else 4)) = addF now mv.Step := by
      unfold addF
      have e : ((now.length : Int) < 50) ↔ now.length < 50 := by omega
      simp only [decide_eq_true_eq, e]
    have run : ∀ next2, Law_EditHistories_l2 script next2 now (k : Int) m past nx all = Law_EditHistories_j4 (k : Int) past nx next2 now (now ++ [mv.Step]) (addF now mv.Step) (if addF now mv.Step = 0 then (⟨trimP past now ++ [now ++ [mv.Step]], ((trimP past now).length : Int)⟩ : T_edit_History) else ⟨all, m⟩).now_ (if addF now mv.Step = 0 then (⟨trimP past now ++ [now ++ [mv.Step]], ((trimP past now).length : Int)⟩ : T_edit_History) else ⟨all, m⟩).all_ := fun next2 => by
      rw [head, if_pos k0, eh_clone (by omega), bnd_pure, gApp_ok (by simp; omega), bnd_pure, StepFault_eq, bnd_pure, eh_unless, bnd_pure, fst_two, bnd_pure, hF, I.add, bnd_pure, cnd_if, if_neg (fun h => h rfl)]
    by_cases hf : addF now mv.Step = 0
    · have hl : (now ++ [mv.Step]).length ≤ 50 := by
        unfold addF at hf
        split at hf
        · rename_i h; exact absurd hf h
        · split at hf
          · simp; omega
          · cases hf
      exact ⟨_, _, _, _, _, (I.put hl).2, fun next2 => by rw [run, hf, if_pos rfl]; exact I.j4_ok hk' hl next2⟩
    · exact ⟨_, _, _, _, _, I, fun next2 => by rw [run, if_neg hf]; exact I.j4_no hk' hf _ next2⟩
  by_cases k1 : mv.Kind = 1
  · have run : ∀ next2, Law_EditHistories_l2 script next2 now (k : Int) m past nx all = Law_EditHistories_j4 (k : Int) past nx next2 now mv.Steps (setF now mv.Steps) (if setF now mv.Steps = 0 then (⟨trimP past now ++ [mv.Steps], ((trimP past now).length : Int)⟩ : T_edit_History) else ⟨all, m⟩).now_ (if setF now mv.Steps = 0 then (⟨trimP past now ++ [mv.Steps], ((trimP past now).length : Int)⟩ : T_edit_History) else ⟨all, m⟩).all_ := fun next2 => by
      rw [head, if_neg k0, cnd_if, if_pos k1, StepsFault_eq, bnd_pure, eh_Equal]
      by_cases he : mv.Steps = now
      · have hF : (if stepsE mv.Steps ≠ 0 then stepsE mv.Steps else (if (!true) = true then (0 : Int) else 11)) = setF now mv.Steps := by
          unfold setF
          rw [if_neg (by decide : ¬ (!true) = true), if_pos he]
        rw [Same_t hv he, bnd_pure, eh_unless, bnd_pure, fst_two, bnd_pure, hF, I.set, bnd_pure, cnd_if, if_neg (fun h => h rfl)]
      · have hF : (if stepsE mv.Steps ≠ 0 then stepsE mv.Steps else (if (!false) = true then (0 : Int) else 11)) = setF now mv.Steps := by
          unfold setF
          rw [if_pos (by decide : (!false) = true), if_neg he]
        rw [Same_f hv he, bnd_pure, eh_unless, bnd_pure, fst_two, bnd_pure, hF, I.set, bnd_pure, cnd_if, if_neg (fun h => h rfl)]
    by_cases hf : setF now mv.Steps = 0
    · have hl : mv.Steps.length ≤ 50 := by
        unfold setF at hf
        split at hf
        · rename_i h; exact absurd hf h
        · rename_i h; exact (stepsE_ok (by simpa using h)).1
      exact ⟨_, _, _, _, _, (I.put hl).2, fun next2 => by rw [run, hf, if_pos rfl]; exact I.j4_ok hk' hl next2⟩
    · exact ⟨_, _, _, _, _, I, fun next2 => by rw [run, if_neg hf]; exact I.j4_no hk' hf _ next2⟩
  by_cases k2 : mv.Kind = 2
  · rcases List.eq_nil_or_concat past with rfl | ⟨p0, x, rfl⟩
    · refine ⟨_, _, _, _, _, I, fun next2 => ?_⟩
      have hm : m = 0 := I.m_eq
      have hu : edit_History_Undo ⟨all, m⟩ = some (false, ⟨all, m⟩) := by
        unfold edit_History_Undo; rw [cnd_if, if_pos hm]
      rw [head, if_neg k0, cnd_if, if_neg k1, cnd_if, if_pos k2, hu, bnd_pure, cnd_if, if_neg (by simp), cnd_if, if_neg (by simp), Inv.j3 hk']
    · simp only [List.concat_eq_append] at *
      have hm : m = ((p0.length + 1 : Nat) : Int) := by have := I.m_eq; simpa using this
      have hpl : p0.length + 1 + nx.length ≤ 100 := by have := I.len; simpa using this
      refine ⟨x, m - 1, p0, nx ++ [now], all, ⟨by rw [I.all_eq]; simp, by rw [hm]; omega, by simp; omega, I.rows⟩, fun next2 => ?_⟩
      have hu : edit_History_Undo ⟨all, m⟩ = some (true, ⟨all, m - 1⟩) := by
        unfold edit_History_Undo; rw [cnd_if, if_neg (by show ¬ m = 0; omega), gI_ok (by show _ ≤ m - 1 ∧ m - 1 ≤ _; omega), bnd_pure]
      have hl : ((p0 ++ [x]).length : Int) - 1 = (p0.length : Int) := by simp
      rw [head, if_neg k0, cnd_if, if_neg k1, cnd_if, if_pos k2, hu, bnd_pure, cnd_if, if_neg (by simp <;> omega), cnd_if, if_pos (by simp <;> omega), gApp_ok (by simp <;> omega), bnd_pure, hl, gI_ok (by omega), bnd_pure, gAt_mid, bnd_pure, bnd_pure, gCut_to (by rw [List.length_append]; simp only [List.length_singleton]; omega), bnd_pure, Int.toNat_natCast, List.take_left, Inv.j3 hk']
  by_cases k3 : mv.Kind = 3
  · have ha := I.alen
    rcases List.eq_nil_or_concat nx with rfl | ⟨n0, x, rfl⟩
    · refine ⟨_, _, _, _, _, I, fun next2 => ?_⟩
      have hm := I.m_eq
      simp only [List.length_nil, Nat.add_zero] at ha
      have hu : edit_History_Redo ⟨all, m⟩ = some (false, ⟨all, m⟩) := by
        unfold edit_History_Redo; rw [gI_ok (by show _ ≤ (all.length : Int) - 1 ∧ (all.length : Int) - 1 ≤ _; omega), bnd_pure, cnd_if, if_pos (by show m = (all.length : Int) - 1; omega)]
      rw [head, if_neg k0, cnd_if, if_neg k1, cnd_if, if_neg k2, cnd_if, if_pos k3, hu, bnd_pure, cnd_if, if_neg (by simp), cnd_if, if_neg (by simp), Inv.j3 hk']
    · simp only [List.concat_eq_append] at *
      have hm := I.m_eq
      have hpl : past.length + (n0.length + 1) ≤ 100 := by have := I.len; simpa using this
      have ha' : all.length = past.length + 1 + (n0.length + 1) := by simpa using ha
      refine ⟨x, m + 1, past ++ [now], n0, all, ⟨by rw [I.all_eq]; simp, by rw [hm]; simp, by simp; omega, I.rows⟩, fun next2 => ?_⟩
      have hu : edit_History_Redo ⟨all, m⟩ = some (true, ⟨all, m + 1⟩) := by
        unfold edit_History_Redo; rw [gI_ok (by show _ ≤ (all.length : Int) - 1 ∧ (all.length : Int) - 1 ≤ _; omega), bnd_pure, cnd_if, if_neg (by show ¬ m = (all.length : Int) - 1; omega), gI_ok (by show _ ≤ m + 1 ∧ m + 1 ≤ _; omega), bnd_pure]
      have hl : ((n0 ++ [x]).length : Int) - 1 = (n0.length : Int) := by simp
      rw [head, if_neg k0, cnd_if, if_neg k1, cnd_if, if_neg k2, cnd_if, if_pos k3, hu, bnd_pure, cnd_if, if_neg (by simp <;> omega), cnd_if, if_pos (by simp <;> omega), gApp_ok (by simp <;> omega), bnd_pure, hl, gI_ok (by omega), bnd_pure, gAt_mid, bnd_pure, bnd_pure, gCut_to (by rw [List.length_append]; simp only [List.length_singleton]; omega), bnd_pure, Int.toNat_natCast, List.take_left, Inv.j3 hk']
  · refine ⟨_, _, _, _, _, I, fun next2 => ?_⟩
    have hm := I.m_eq
    have ha := I.alen
    have j7 : ∀ (v : List T_edit_Step) (b : Bool), v.length ≤ 50 → Law_EditHistories_j7 now (k : Int) m past nx all next2 (v, b) b v = next2 (now, (k : Int) + 1, m, past, nx, all) := fun v b h => by
      unfold Law_EditHistories_j7
      rw [cnd_if, if_neg (fun h => h rfl), eh_Equal, Same_t (by show v.length ≤ _; omega) rfl, bnd_pure, Bool.not_true, cnd_false, Inv.j3 hk']
    rw [head, if_neg k0, cnd_if, if_neg k1, cnd_if, if_neg k2, cnd_if, if_neg k3]
    by_cases h : mv.N < 0 ∨ m < mv.N
    · have hb : edit_History_Back ⟨all, m⟩ mv.N = some ([], false) := by
        unfold edit_History_Back edit_outside
        by_cases h1 : mv.N < 0
        · rw [cnd_if, if_pos h1, bnd_pure, cnd_true]
        · rw [cnd_if, if_neg h1, bnd_pure, cnd_if, if_pos (h.resolve_left h1)]
      have j6 : Law_EditHistories_j6 now (k : Int) m past nx all next2 mv ([], false) false = next2 (now, (k : Int) + 1, m, past, nx, all) := by
        unfold Law_EditHistories_j6 Law_EditHistories_j8
        rw [cnd_false, cnd_false, cnd_false, j7 [] false (by simp)]
      rw [hb, bnd_pure, cnd_if]
      by_cases h1 : (0 : Int) ≤ mv.N
      · rw [if_pos h1, decide_eq_false (by omega), j6]
      · rw [if_neg h1, j6]
    · have h1 : 0 ≤ mv.N ∧ mv.N ≤ m := by omega
      obtain ⟨q, hq⟩ := Int.eq_ofNat_of_zero_le h1.1
      have hqp : q ≤ past.length := by omega
      have hidx : past.length - q < all.length := by omega
      have hat : gAt all (m - mv.N) = some all[past.length - q] := by
        rw [show m - mv.N = ((past.length - q : Nat) : Int) from by omega]; exact gAt_nat hidx
      have hrow : all[past.length - q].length ≤ 50 := I.rows _ (List.getElem_mem hidx)
      have hb : edit_History_Back ⟨all, m⟩ mv.N = some (all[past.length - q], true) := by
        unfold edit_History_Back edit_outside edit_History_at
        rw [cnd_if, if_neg (by omega), bnd_pure, cnd_if, if_neg (by show ¬ m < mv.N; omega), gI_ok (by show _ ≤ m - mv.N ∧ m - mv.N ≤ _; omega), bnd_pure]
        show bnd (bnd (gAt all (m - mv.N)) _) _ = _
        rw [hat, bnd_pure, eh_clone (by omega), bnd_pure, bnd_pure]
      rw [hb, bnd_pure, cnd_if, if_pos h1.1, decide_eq_true (by omega)]
      unfold Law_EditHistories_j6 Law_EditHistories_j8
      rw [cnd_true, cnd_if]
      by_cases h0 : mv.N = 0
      · have hq0 : q = 0 := by omega
        subst hq0
        have : all[past.length - 0] = now := by
          have h2 := I.at
          rw [hm, gAt_nat (by omega)] at h2
          exact Option.some.inj h2
        rw [if_pos h0, this, j7 now true hn]
      · have hq0 : 0 < q := by omega
        have hlt : past.length - q < past.length := by omega
        have : all[past.length - q] = past[past.length - q] := by
          simp only [I.all_eq]
          exact List.getElem_append_left hlt
        rw [if_neg h0, cnd_true, gI_ok (by omega), bnd_pure, show (past.length : Int) - mv.N = ((past.length - q : Nat) : Int) from by omega, gAt_nat hlt, bnd_pure, ← this, j7 _ true hrow]
end

theorem edit_histories (l : List T_edit_Step) (script : List T_tintlaw2_Move) (hs : ∀ v ∈ script, v.Steps.length ≤ 3518437208780) (hlen : script.length ≤ 100000000000000) : Law_EditHistories l script = some true := by
  unfold Law_EditHistories edit_NewHistory
  rw [Check_eq, bnd_pure, StepsFault_eq, cnd_if]
  by_cases h : stepsE l = 0
  · have hl := (stepsE_ok h).1
    rw [if_neg (fun hh => hh h), eh_clone (by omega), bnd_pure, bnd_pure, bnd_pure, cnd_if, if_neg (fun hh => hh h), cnd_if, if_neg (by simp), bnd_pure]
    have I0 : Inv l 0 [] [] [l] := ⟨rfl, rfl, by simp, fun r hr => by simp at hr; rw [hr]; exact hl⟩
    obtain ⟨r, h1, h2⟩ := fix_run (F := fun next2 (s : List T_edit_Step × Int × Int × List (List T_edit_Step) × List (List T_edit_Step) × List (List T_edit_Step)) => Law_EditHistories_l2 script next2 s.1 s.2.1 s.2.2.1 s.2.2.2.1 s.2.2.2.2.1 s.2.2.2.2.2)
      (fun s => (0 ≤ s.2.1 ∧ s.2.1 ≤ script.length) ∧ Inv s.1 s.2.2.1 s.2.2.2.1 s.2.2.2.2.1 s.2.2.2.2.2) (fun s => script.length - s.2.1.toNat) (fun r => r = true) (fun s hI => by
        obtain ⟨now, i, m, past, nx, all⟩ := s
        obtain ⟨⟨g0, g1⟩, I⟩ := hI
        simp only at g0 g1 I
        obtain ⟨k, rfl⟩ := Int.eq_ofNat_of_zero_le g0
        by_cases hk : k < script.length
        · obtain ⟨now', m', past', nx', all', I', hr⟩ := I.step hs hlen hk
          exact .inr ⟨(now', (k : Int) + 1, m', past', nx', all'), ⟨⟨by show (0 : Int) ≤ (k : Int) + 1; omega, by show (k : Int) + 1 ≤ _; omega⟩, I'⟩, by show script.length - ((k : Int) + 1).toNat < script.length - (k : Int).toNat; omega, hr⟩
        · refine .inl ⟨true, rfl, fun next => ?_⟩
          have hn := I.now_len
          show Law_EditHistories_l2 script next now (k : Int) m past nx all = _
          unfold Law_EditHistories_l2 Law_EditHistories_j1
          rw [cnd_if, if_neg (by omega), I.now_eq, bnd_pure, eh_Equal, Same_t (by omega) rfl, bnd_pure]) (l, 0, 0, [], [], [l]) ⟨⟨by show (0 : Int) ≤ 0; omega, by show (0 : Int) ≤ _; omega⟩, I0⟩
    rw [h2] at h1
    exact h1
  · rw [if_pos h, bnd_pure, bnd_pure, cnd_if, if_pos h, cnd_if, if_pos rfl]
    rfl

theorem editHistoriesS (l : List T_edit_Step) (script : List T_tintlaw2_Move) {φ : Prop} {α β γ δ : T_tintlaw2_Move → Prop} (_ : φ) (h : (script.length ≤ 9223372036854775807 ∧ script.length * 80 ≤ 140737488351232) ∧ ∀ a ∈ script, α a ∧ β a ∧ γ a ∧ ((a.Steps.length ≤ 9223372036854775807 ∧ a.Steps.length * 40 ≤ 140737488351232) ∧ δ a)) : Law_EditHistories l script = some true :=
  edit_histories l script (fun v hv => by have := (h.2 v hv).2.2.2.1.2; omega) (by have := h.1.2; omega)

end Go.M
