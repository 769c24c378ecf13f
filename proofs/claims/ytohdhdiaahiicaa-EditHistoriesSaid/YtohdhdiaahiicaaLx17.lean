/- The kit's contracts of decimal numerals, of octets in strings, of strings.Repeat and strings.Join, in our words; tables among the package's variables. Conditions: none. -/
import Derived.Test.YtohdhdiaahiicaaLx16
import Derived.Test.YtohdhdiaahiicaaMd5
import Derived.Lib.Bytealg
import Derived.Lib.SmallJoins
import Derived.Lib.AppendIntMem
import Derived.Shelf.Strconv.Itoa3
import Derived.Shelf.Strconv.Atoi
import Derived.Shelf.Strings.Repeat
import Derived.Shelf.Strings.OnBuilder
namespace Go.Lx
open Go Go.Vc Go.Md Go.Shelf Go.Proofs

/-! ### octets in strings -/

theorem ixB_lib (l : List UInt8) (c : UInt8) : ixB l c = Lib.indexByte l c := by
  induction l with
  | nil => rfl
  | cons b l ih => simp only [ixB, Lib.indexByte, ih, beq_iff_eq]
theorem run_ixB {P : Program} {s : List UInt8} {c r : Int} (h : gIxB s c = some r) (w : World) : (Extern.BytealgIndexByte.indexByte #[str s, .int .u8 c]).run P w = .ok (.int .i64 r) w := by
  cases h
  rw [Lib.run_indexByteString, ixB_lib]
theorem run_cnB {P : Program} {s : List UInt8} {c r : Int} (h : gCnB s c = some r) (w : World) : (Extern.BytealgCount.count #[str s, .int .u8 c]).run P w = .ok (.int .i64 r) w := by
  cases h
  rw [Lib.run_countString]; rfl

/-! ### tables -/

/-- A package-level variable that holds a table, as a memory has it. -/
def TabH (P : Program) (h : Heap) (name : String) (k : IntKind) (zs : List Int) : Prop := ∃ g T m, P.globalNamed name = some g ∧ h g = some (.cells (zs.map fun z => Value.int k z).toArray T m)
theorem TabH.mono {P : Program} {h h' : Heap} {name : String} {k : IntKind} {zs : List Int} (t : TabH P h name k zs) (hh : ∀ b o, h b = some o → h' b = some o) : TabH P h' name k zs := by
  obtain ⟨g, T, m, h1, h2⟩ := t
  exact ⟨g, T, m, h1, hh _ _ h2⟩
theorem TabH.tab {P : Program} {h : Heap} {name : String} {k : IntKind} {zs : List Int} (t : TabH P h name k zs) {w : World} (hw : ∀ b o, h b = some o → w.heap[b]? = some o) : Lib.TabIs P w name k zs := by
  obtain ⟨g, T, m, h1, h2⟩ := t
  unfold Lib.TabIs World.var?
  rw [h1]
  show (match w.heap[g]? with | some (.cells cs _ _) => some cs | _ => none) = _
  rw [hw _ _ h2]
theorem tabH_of {P : Program} {w : World} {name : String} {k : IntKind} {zs : List Int} (t : Lib.TabIs P w name k zs) : TabH P (fun b => w.heap[b]?) name k zs := by
  unfold Lib.TabIs World.var? at t
  cases hg : P.globalNamed name with
  | none => rw [hg] at t; cases t
  | some g =>
    rw [hg] at t
    have t : (match w.heap[g]? with | some (.cells cs _ _) => some cs | _ => none) = some (zs.map fun z => Value.int k z).toArray := t
    split at t
    · rename_i cs T m hc
      cases t
      exact ⟨g, T, m, hg, hc⟩
    · cases t

/-! ### decimal numerals -/

theorem decD_lib (u : Nat) : decD u = Lib.decDigits u := by
  induction u using Nat.strongRecOn with
  | ind u ih =>
    rw [decD, Lib.decDigits]
    by_cases h : u < 10
    · rw [if_pos h, dif_pos h]
    · rw [if_neg h, dif_neg h, ih _ (by omega)]
theorem itoaL_lib (n : Int) : itoaL n = Lib.itoa n := by
  unfold itoaL Lib.itoa; rw [decD_lib, decD_lib]

theorem itoa_does {P : Program} {ρ : Ren} (L : LaysM.n171 P ρ) {n : Int} {r : List UInt8} {w : World} {h : Heap} (hw : Know h w noS) (ht : TabH P h "internal/strconv.uint64pow10" .u64 Lib.pow10Tab) (H : gItoa n = some r) :
    Does P (ρ.f 171) (List.toArray [.int .i64 n]) w (fun v w' => v = str r ∧ Grow w w') := by
  unfold gItoa at H
  split at H
  case isFalse => cases H
  rename_i hr
  cases H
  refine Calls.mono (Any.strconv_Itoa L n hr.1 hr.2 w (ht.tab fun b o hb => (hw b o hb).1)) ?_
  rintro e w' ⟨rfl, k, os, rfl⟩
  exact ⟨_, rfl, by rw [itoaL_lib], Lib.below_grow _ _ (Nat.le_refl _) _ _⟩

theorem digV_lib (b : UInt8) : digV b = Lib.digitVal b := rfl
theorem decF_lib (acc : Nat) (l : List UInt8) : decF acc l = Lib.decFrom acc l := by
  induction l generalizing acc with
  | nil => rfl
  | cons b l ih =>
    simp only [decF, Lib.decFrom, digV_lib, ih]
    cases Lib.digitVal b <;> rfl
theorem decN_lib (l : List UInt8) : decN l = Lib.decNat l := by simp only [decN, Lib.decNat, decF_lib]
theorem atoiL_lib (l : List UInt8) : atoiL l = Lib.atoi l := by
  cases l with
  | nil => rfl
  | cons b l => simp only [atoiL, Lib.atoi, decN_lib]

theorem atoi_ret {P : Program} {ρ : Ren} (L : Lays.n172 P ρ) {s : List UInt8} {n : Int} (H : gAtoi s = some n) : Ret P (ρ.f 172) [str s] (.tuple #[.int .i64 n, .nilIface]) := fun w => by
  unfold gAtoi at H
  split at H
  case isFalse => cases H
  rename_i hr
  refine Calls.mono (Any.strconv_Atoi L ⟨s.toArray⟩ n (by simpa [ByteArray.size] using hr) (by rw [atoiL_lib] at H; exact H) w) ?_
  rintro e w' ⟨rfl, t, rfl⟩
  exact ⟨_, rfl, rfl, Go.Joins.below_bytesWorld _ _ _ _ (Nat.le_refl _)⟩

theorem repeat_lib (s : List UInt8) (n : Nat) : (List.replicate n s).flatten = Lib.repeatL s n := by
  induction n with
  | zero => rfl
  | succ n ih => rw [List.replicate_succ, List.flatten_cons, ih]; rfl
theorem rep_ret {P : Program} {ρ : Ren} (L : Lays.n105 P ρ) (X : Builder.Extra P ρ) {s r : List UInt8} {n : Int} (H : gRep s n = some r) : Ret P (ρ.f 105) [str s, .int .i64 n] (str r) := fun w => by
  unfold gRep at H
  split at H
  case isFalse => cases H
  rename_i hr
  cases H
  obtain ⟨k, rfl⟩ : ∃ k : Nat, n = k := ⟨n.toNat, by omega⟩
  refine Calls.mono (Any.strings_Repeat L X ⟨s.toArray⟩ k w (by omega) (by simpa [ByteArray.size] using hr.2.2)) ?_
  rintro e w' ⟨rfl, hb⟩
  exact ⟨_, rfl, by rw [repeat_lib]; rfl, hb⟩

theorem join_does {P : Program} {ρ : Ren} (L : Lays.n156 P ρ) (X : Builder.Extra P ρ) {l : List (List UInt8)} {sep r : List UInt8} {v : Value} {w : World} {h : Heap} (hw : Know h w noS) (f : FrS h 1 v (l.map fun x => [str x])) (H : gJoin l sep = some r) :
    Does P (ρ.f 156) (List.toArray [v, str sep]) w (fun v w' => v = str r ∧ Grow w w') := by
  unfold gJoin at H
  split at H
  case isFalse => cases H
  rename_i hr
  cases H
  obtain ⟨a, c, rfl, h1, h2, hrow⟩ := f.out
  simp only [List.length_map] at h1 ⊢
  have hm : (l.map fun x => (⟨x.toArray⟩ : ByteArray)).map (·.data.toList) = l := by rw [List.map_map]; exact List.map_id'' (fun _ => by simp) l
  rcases hrow with hn | ⟨b, off, cs, T, m, rfl, hb, hc⟩
  · have hl : l = [] := by simpa using hn
    subst hl
    refine Calls.mono (Any.strings_Join_none L X a c ⟨sep.toArray⟩ w) ?_
    rintro e w' ⟨rfl, rfl⟩
    exact ⟨_, rfl, by simp [List.intercalate], Grow.refl _⟩
  · have hh := (hw _ _ hb).1
    have hlt : b < w.heap.size := (Array.getElem?_eq_some_iff.1 hh).1
    have := Any.strings_Join L X b off c (l.map fun x => (⟨x.toArray⟩ : ByteArray)) ⟨sep.toArray⟩ w (fun j x hx => by
      rw [List.getElem?_map, Option.map_eq_some_iff] at hx
      obtain ⟨y, hy, rfl⟩ := hx
      have := (hc j [str y] (by rw [List.getElem?_map, hy]; rfl)).2 0 (str y) rfl
      simp only [Nat.mul_one, Nat.add_zero] at this
      simp [World.cell?, hh, this]) hlt (by simpa using hr.1) (by simpa using h1) (by rw [hm]; exact hr.2)
    rw [List.length_map, hm] at this
    refine Calls.mono this ?_
    rintro e w' ⟨rfl, hb⟩
    exact ⟨_, rfl, rfl, hb⟩

end Go.Lx
