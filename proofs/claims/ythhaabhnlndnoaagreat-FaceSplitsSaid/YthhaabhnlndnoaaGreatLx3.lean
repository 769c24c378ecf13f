/- Rules: octets and strings, slices that may be appended to whether they are one's own or full, clips. Conditions: none. -/
import Derived.Test.YthhaabhnlndnoaaGreatLx2
import Derived.Lib.AppendStr
import Derived.Laws.BytesString
namespace Go.Lx
open Go Go.Vc Go.Md

theorem grown_owns {w : World} {E sz k old : Nat} {z : Value} {xs news : List Value} (hzs : z.cells.size = sz) (hl : (xs ++ news).length = k * sz) (h63 : k ≤ maxLen) :
    (w.drew.alloc (.cells (xs.toArray ++ news.toArray ++ Builtin.zeroCells z.cells (grownCap w k old E - k)) E)).ownsRow 0 E sz (.slice (some ⟨w.heap.size, 0, none⟩) k (grownCap w k old E)) k (xs ++ news) := by
  have hge := grownCap_ge w k old E
  have hcm : grownCap w k old E ≤ maxLen := grownCap_le_maxLen w k old E h63
  refine ⟨hl, .inr ⟨w.heap.size, _, _, rfl, Nat.zero_le _, heap_alloc_new w.drew _, hge, hcm, ?_, ?_⟩⟩
  · have h2 : xs.length + news.length = k * sz := by rw [← List.length_append]; exact hl
    simp only [Array.size_append, List.size_toArray, size_zeroCells, hzs]
    rw [h2, ← Nat.add_mul]
    congr 1
    omega
  · simp only [Array.toList_append, List.append_assoc]
    rw [← List.append_assoc, ← hl]
    exact List.take_left

theorem grown_by (w : World) (o : Obj) (row : Option Nat) : w.grownBy (w.drew.alloc o) row := ⟨rfl, rfl, rfl, by simp, fun k hk _ => heap_alloc_old w.drew _ k hk⟩

theorem fits2 {need old bytes : Nat} (h : old < need) (hb : need * bytes ≤ 140739635838976) (hy : bytes ≤ 1048576) : Builtin.nextslicecap need old * bytes ≤ 281474976710656 := by
  have h1 : Builtin.nextslicecap need old ≤ need + (need + 768) / 4 + 512 := by
    unfold Builtin.nextslicecap
    split
    · omega
    · split
      · omega
      · rw [growBy_four]
        repeat' split
        all_goals omega
  have h2 : 4 * Builtin.nextslicecap need old ≤ 5 * need + 2816 := by omega
  have h3 := Nat.mul_le_mul_right bytes h2
  rw [Nat.mul_assoc, Nat.add_mul, Nat.mul_assoc] at h3
  omega

/-! ### what may be appended to -/

def apC (w : World) (E sz : Nat) (v : Value) (n : Nat) (xs : List (List Value)) : Prop :=
  (w.ownsRow 0 E sz v n xs.flatten ∨ (FrS (fun b => w.heap[b]?) sz v xs ∧ ∃ b o, v = .slice (some ⟨b, 0, none⟩) n n ∧ w.heap[b]? = some o)) ∧ xs.length = n ∧ ∀ x ∈ xs, x.length = sz

/-- A slice that may be appended to: of one's own, or full. -/
def apV (E : TypeId) (sz : Nat) (v : Value) (n : Nat) (xs : List (List Value)) : Chunk where
  P S w := apC w E sz v n xs ∧ ∀ b, v.ownBlock = some b → S b
  loc S w w' h := by
    rintro ⟨⟨h1 | ⟨h1, b, o, h2, h5⟩, h3⟩, h4⟩
    · exact ⟨⟨.inl ((rowV E sz v n xs).loc S w w' h ⟨⟨h1, h3⟩, h4⟩).1.1, h3⟩, h4⟩
    · exact ⟨⟨.inr ⟨((roV sz v n xs).loc S w w' h ⟨h3.1.symm, h1, h4⟩).2.1, b, o, h2, (h b (h4 b (by rw [h2]; rfl))).trans h5⟩, h3⟩, h4⟩

theorem imp_ap (E sz : Nat) (v : Value) (n : Nat) (xs : List (List Value)) : Imp (rowV E sz v n xs) (apV E sz v n xs) := ⟨fun S w ⟨⟨h1, h3⟩, h4⟩ => ⟨⟨.inl h1, h3⟩, h4⟩⟩
theorem imp_apro (E sz : Nat) (v : Value) (n : Nat) (xs : List (List Value)) : Imp (apV E sz v n xs) (roV sz v n xs) := ⟨fun S w ⟨⟨h1, h2, h3⟩, h4⟩ => ⟨h2.symm, h1.elim (fun h => row_FrS h h2 h3) (fun h => h.1), h4⟩⟩

theorem apC.frs {w : World} {E sz : Nat} {v : Value} {n : Nat} {xs : List (List Value)} (h : apC w E sz v n xs) : FrS (fun b => w.heap[b]?) sz v xs :=
  h.1.elim (fun h1 => row_FrS h1 h.2.1 h.2.2) (fun h1 => h1.1)

theorem apC.lt {w : World} {E sz : Nat} {v : Value} {n : Nat} {xs : List (List Value)} (h : apC w E sz v n xs) (b : Nat) (hb : v.ownBlock = some b) : b < w.heap.size := by
  rcases h.1 with h1 | ⟨_, b', o, rfl, h1⟩
  · exact (h1.lt b hb).2
  · simp [Value.ownBlock] at hb
    subst hb
    exact (Array.getElem?_eq_some_iff.1 h1).1

theorem apC.slice {w : World} {E sz : Nat} {v : Value} {n : Nat} {xs : List (List Value)} (h : apC w E sz v n xs) : ∃ p : Option Addr × Nat, v = .slice p.1 n p.2 := by
  rcases h.1 with h1 | ⟨_, b', o, rfl, h1⟩
  · exact slice_of_row h1
  · exact ⟨(some ⟨b', 0, none⟩, n), rfl⟩

theorem turn_ap {w w' : World} {E sz m' : Nat} {v v' : Value} {xs' : List (List Value)} {S : Nat → Prop} (hS : ∀ b, v.ownBlock = some b → S b) (ho : apC w' E sz v' m' xs') (hg : w.grownBy w' v.ownBlock)
    (h5 : v'.ownBlock = v.ownBlock ∨ v'.ownBlock = some w.heap.size) : Turn w w' S (apV E sz v' m' xs') := by
  refine ⟨hg.os, hg.tape, hg.output, hg.size, fun b hb hn => hg.block b hb (fun h => hn (hS b h.symm)), fun b => v'.ownBlock = some b, ⟨ho, fun b h => h⟩, fun b hb => ⟨ho.lt b hb, ?_⟩⟩
  rcases h5 with h | h
  · exact .inl (hS b (h ▸ hb))
  · rw [h] at hb; cases hb; exact .inr (Nat.le_refl _)

section rules
variable {P : Program} {n : Nat} {cx : Cx} {e : Env} {L : List Chunk} {d : Nat} {ty : TypeId} {pos : String} {af : Array Edge} {g : Option (Nat × Bool)}

theorem frs_ap {α : Type} {w : World} {i E sz m : Nat} {v : Value} {xs : List α} {f : α → List Value} (hS : Sat cx w L) (hL : L[i]? = some (apV E sz v m (xs.map f))) : FrS (fun b => w.heap[b]?) sz v (xs.map f) := by
  obtain ⟨S, ⟨h, _⟩, _⟩ := hS.at hL
  exact h.frs

theorem apOf {w : World} {i E sz m c : Nat} {a : Option Addr} {xs : List (List Value)} (hS : Sat cx w L) (hL : L[i]? = some (apV E sz (.slice a m c) m xs)) : Row w a sz xs := by
  obtain ⟨S, ⟨h, _⟩, _⟩ := hS.at hL
  obtain ⟨a', c', h0, _, _, r⟩ := h.frs.out
  simp only [Value.slice.injEq] at h0
  obtain ⟨rfl, _, rfl⟩ := h0
  exact r.row fun b o h => h

theorem row_cells {w : World} {ad : Addr} {sz : Nat} {news : List (List Value)} (hnl : ∀ x ∈ news, x.length = sz) (hR : Row w (some ad) sz news) : ∀ j u, news.flatten[j]? = some u → w.cell? (ad.add j) = some u := by
  intro j u hj
  obtain ⟨i', k', x, g1, g2, g3⟩ := flat_get news hnl j u hj
  rcases hR with h | ⟨b, off, ha, h⟩
  · subst h; simp at g1
  · cases ha
    have := (h i' x g1).2 k' u g2
    rw [Addr.add_lit, g3, ← Nat.add_assoc]
    exact this

theorem app_own {w : World} {t E sz by_ : Nat} {I : TypeInfo} {z : Value} {v : Value} {m q c : Nat} {xs news : List Value} {a : Addr} (ht : P.underlying t = some (.slice E)) (hi : P.info? E = some I) (hz : I.zero = some z) (hsize : I.size = sz) (hby : I.bytes = by_) (hzs : z.cells.size = sz)
    (ho : w.ownsRow 0 E sz v m xs) (hq : 0 < q) (hl : news.length = q * sz) (hnews : ∀ j u, news[j]? = some u → w.cell? (a.add j) = some u) (h1 : ∀ u ∈ news, u.oneCell' = true) (h63 : m + q ≤ maxLen) (hbytes : (m + q) * by_ ≤ 140739635838976) (hy : by_ ≤ 1048576) :
    ∃ v' w', (Builtin.append_ #[t, t] ty #[v, .slice (some a) q c]).run P w = .ok v' w' ∧ w'.ownsRow 0 E sz v' (m + q) (xs ++ news) ∧ w.grownBy w' v.ownBlock ∧ (v'.ownBlock = v.ownBlock ∨ v'.ownBlock = some w.heap.size) := by
  subst hsize hby
  have hsmall : m + q ≤ 9223372036854775807 := by simpa [maxLen] using h63
  have hlen : (xs ++ news).length = (m + q) * I.size := by rw [List.length_append, ho.1, hl, Nat.add_mul]
  rcases ho.2 with ⟨rfl, rfl⟩ | ⟨g', cap, cur, rfl, hbg, hg, hnc, hcm, hcs, htake⟩
  · have hx : xs = [] := List.eq_nil_of_length_eq_zero (by simpa using ho.1)
    subst hx
    have hq48 : q * I.bytes ≤ 281474976710656 := by rw [Nat.zero_add] at hbytes; omega
    have hr := run_append_nil (P := P) w t ty E I z ht hi hz a q c news hl hnews hq (by omega) hq48
    have hgr := grown_owns (w := w) (E := E) (sz := I.size) (k := 0 + q) (old := 0) (z := z) (xs := []) (news := news) hzs hlen h63
    refine ⟨_, _, hr, ?_, grown_by _ _ _, .inr rfl⟩
    simpa only [Nat.zero_add, List.nil_append, Array.empty_append] using hgr
  · by_cases hroom : m + q ≤ cap
    · have hfit : m * I.size + news.length ≤ cur.size := by rw [hl, hcs, ← Nat.add_mul]; exact Nat.mul_le_mul_right _ hroom
      have hr := run_append_room (P := P) w t ty E I ht hi g' m cap cur hg a q c news hl hnews h1 hroom hfit
      refine ⟨_, _, hr, ⟨hlen, .inr ⟨g', cap, _, rfl, hbg, setRow_heap w g' cur _ E _ hg, hroom, hcm, ?_, ?_⟩⟩, ⟨rfl, rfl, rfl, by simp, fun k _ hk => setRow_other w g' k _ (fun e => hk (by simp [Value.ownBlock, e]))⟩, .inl rfl⟩
      · simp only [List.size_toArray, List.length_append, List.length_take, List.length_drop, Array.length_toList]
        omega
      · rw [htake, ← hlen]
        exact List.take_left
    · have holds : ∀ j u, xs[j]? = some u → w.cell? ((⟨g', 0, none⟩ : Addr).add j) = some u := ho.cells (g := g') rfl
      have hr := run_append_grow (P := P) w t ty E I z ht hi hz ⟨g', 0, none⟩ m cap xs ho.1 holds a q c news hl hnews (by omega) (by omega) (fits2 (by omega) hbytes hy)
      exact ⟨_, _, hr, grown_owns hzs hlen h63, grown_by _ _ _, .inr rfl⟩

/-- append of a slice. -/
theorem app_ap {w : World} {t E sz by_ : Nat} {I : TypeInfo} {z : Value} {v : Value} {m q c : Nat} {xs news : List (List Value)} {a : Option Addr} (ht : P.underlying t = some (.slice E)) (hi : P.info? E = some I) (hz : I.zero = some z) (hsize : I.size = sz) (hby : I.bytes = by_) (hzs : z.cells.size = sz) (hsz : 0 < sz)
    (hc : apC w E sz v m xs) (hq : news.length = q) (hnl : ∀ x ∈ news, x.length = sz) (hR : Row w a sz news) (h1 : ∀ x ∈ news, ∀ u ∈ x, u.oneCell' = true) (h63 : m + q ≤ maxLen) (hbytes : (m + q) * by_ ≤ 140739635838976) (hy : by_ ≤ 1048576) :
    ∃ v' w', (Builtin.append_ #[t, t] ty #[v, .slice a q c]).run P w = .ok v' w' ∧ apC w' E sz v' (m + q) (xs ++ news) ∧ w.grownBy w' v.ownBlock ∧ (v'.ownBlock = v.ownBlock ∨ v'.ownBlock = some w.heap.size) := by
  have same : w.grownBy w v.ownBlock := ⟨rfl, rfl, rfl, Nat.le_refl _, fun _ _ _ => rfl⟩
  have hfl : news.flatten.length = q * sz := by rw [flat_len news hnl, hq]
  have hone : ∀ u ∈ news.flatten, u.oneCell' = true := by
    intro u hu
    obtain ⟨x, hx, hux⟩ := List.mem_flatten.1 hu
    exact h1 x hx u hux
  obtain ⟨hc1, hc2, hc3⟩ := hc
  have lens : (xs ++ news).length = m + q ∧ ∀ x ∈ xs ++ news, x.length = sz := ⟨by simp [hc2, hq], fun x hx => (List.mem_append.1 hx).elim (hc3 x) (hnl x)⟩
  by_cases hq0 : q = 0
  · subst hq0
    have hn0 : news = [] := List.eq_nil_of_length_eq_zero hq
    subst hn0
    refine ⟨v, w, ?_, ⟨by simpa using hc1, lens⟩, same, .inl rfl⟩
    rcases hc1 with ho | ⟨_, b, o, rfl, _⟩
    · rcases ho.2 with ⟨rfl, rfl⟩ | ⟨g', cap, cur, rfl, _, _, hnc, _⟩
      · cases a <;> simp [Builtin.append_, run_underlying ht, sizeOf, typeInfo, hi, Builtin.lenOf, Builtin.firstCells, loadCells, loadCellsFrom]
      · cases a <;> simp [Builtin.append_, run_underlying ht, sizeOf, typeInfo, hi, Builtin.lenOf, Builtin.firstCells, loadCells, loadCellsFrom, hnc, storeCells]
    · cases a <;> simp [Builtin.append_, run_underlying ht, sizeOf, typeInfo, hi, Builtin.lenOf, Builtin.firstCells, loadCells, loadCellsFrom, storeCells]
  · cases a with
    | none =>
      rcases hR with h | ⟨b, off, h, _⟩
      · subst h; exact absurd hq.symm hq0
      · cases h
    | some ad =>
      have hcell := row_cells hnl hR
      rcases hc1 with ho | ⟨hf, b, o, rfl, hb⟩
      · obtain ⟨v', w', hr, h2, h3, h5⟩ := app_own (P := P) (ty := ty) (c := c) ht hi hz hsize hby hzs ho (by omega) hfl hcell hone h63 hbytes hy
        exact ⟨v', w', hr, ⟨.inl (by rw [List.flatten_append]; exact h2), lens⟩, h3, h5⟩
      · subst hsize hby
        have hxf : xs.flatten.length = m * I.size := by rw [flat_len xs hc3, hc2]
        obtain ⟨a', c', h0, _, _, r⟩ := hf.out
        simp only [Value.slice.injEq] at h0
        obtain ⟨rfl, _, rfl⟩ := h0
        have hold := row_cells hc3 (r.row fun b o h => h)
        have hm63 : m + q ≤ 9223372036854775807 := by simpa [maxLen] using h63
        have hr := run_append_grow (P := P) w t ty E I z ht hi hz ⟨b, 0, none⟩ m m xs.flatten hxf hold ad q c news.flatten hfl hcell (by omega) (by omega) (fits2 (by omega) hbytes hy)
        refine ⟨_, _, hr, ⟨.inl ?_, lens⟩, grown_by _ _ _, .inr rfl⟩
        rw [List.flatten_append]
        exact grown_owns hzs (by rw [List.length_append, hxf, hfl, Nat.add_mul]) h63

theorem app_str_own {w : World} {t u E : Nat} {I : TypeInfo} {v : Value} {m : Nat} {xs : List Value} {s : ByteArray} (ht : P.underlying t = some (.slice E)) (hu : P.underlying u = some .string) (hi : P.info? E = some I) (hz : I.zero = some (.int .u8 0)) (hsize : I.size = 1) (hby : I.bytes = 1)
    (ho : w.ownsRow 0 E 1 v m xs) (h63 : m + s.size ≤ maxLen) (hbytes : m + s.size ≤ 140739635838976) :
    ∃ v' w', (Builtin.append_ #[t, u] ty #[v, .string s]).run P w = .ok v' w' ∧ w'.ownsRow 0 E 1 v' (m + s.size) (xs ++ Lib.strCells s) ∧ w.grownBy w' v.ownBlock ∧ (v'.ownBlock = v.ownBlock ∨ v'.ownBlock = some w.heap.size) := by
  have hsmall : m + s.size ≤ 9223372036854775807 := by simpa [maxLen] using h63
  have hxl : xs.length = m := by simpa using ho.1
  have hlen : (xs ++ Lib.strCells s).length = (m + s.size) * 1 := by rw [List.length_append, hxl, Lib.strCells_length, Nat.mul_one]
  rcases ho.2 with ⟨rfl, rfl⟩ | ⟨g', cap, cur, rfl, hbg, hg, hnc, hcm, hcs, htake⟩
  · have hx : xs = [] := List.eq_nil_of_length_eq_zero hxl
    subst hx
    by_cases hm : s.size = 0
    · have hn : Lib.strCells s = [] := List.eq_nil_of_length_eq_zero (by rw [Lib.strCells_length]; exact hm)
      refine ⟨.slice none 0 0, w, ?_, by rw [hm, hn]; exact World.ownsRow_nil w 0 E 1, ⟨rfl, rfl, rfl, Nat.le_refl _, fun _ _ _ => rfl⟩, .inl rfl⟩
      have hf := Lib.run_firstCells_string (P := P) w 1 s
      rw [hm] at hf
      simp [Builtin.append_, run_underlying ht, run_underlying hu, sizeOf, typeInfo, hi, hsize, Builtin.lenOf, hm, hf]
    · have hr := run_append_nil_string (P := P) w t u ty E I (.int .u8 0) ht hu hi hz s (by omega) (by omega) (by rw [hby]; omega)
      have hgr := grown_owns (w := w) (E := E) (sz := 1) (k := 0 + s.size) (old := 0) (z := .int .u8 0) (xs := []) (news := Lib.strCells s) rfl hlen h63
      have e1 : (s.data.map fun b => Value.int .u8 b.toNat) = (Lib.strCells s).toArray := by
        apply Array.ext'
        simp [Lib.strCells]
      rw [e1] at hr
      refine ⟨_, _, hr, ?_, grown_by _ _ _, .inr rfl⟩
      simpa only [Nat.zero_add, List.nil_append, Array.empty_append] using hgr
  · by_cases hroom : m + s.size ≤ cap
    · have hcs' : cur.size = cap := by simpa using hcs
      have hr := Lib.run_append_room_string (P := P) w t u ty E I ht hu hi hsize g' m cap cur hg s hroom (by omega)
      refine ⟨_, _, hr, ⟨hlen, .inr ⟨g', cap, _, rfl, hbg, setRow_heap w g' cur _ E _ hg, hroom, hcm, ?_, ?_⟩⟩, ⟨rfl, rfl, rfl, by simp, fun k _ hk => setRow_other w g' k _ (fun e => hk (by simp [Value.ownBlock, e]))⟩, .inl rfl⟩
      · simp only [List.size_toArray, List.length_append, List.length_take, List.length_drop, Array.length_toList, Lib.strCells_length]
        omega
      · have ht' : cur.toList.take m = xs := by simpa using htake
        rw [ht', ← hlen]
        exact List.take_left
    · have holds : ∀ j u, xs[j]? = some u → w.cell? ((⟨g', 0, none⟩ : Addr).add j) = some u := ho.cells (g := g') rfl
      have hr := Lib.run_append_grow_string (P := P) w t u ty E I (.int .u8 0) ht hu hi hz ⟨g', 0, none⟩ m cap xs (by rw [hsize]; simpa using hxl) holds s (by omega) (by omega) (by rw [hby]; exact fits2 (by omega) (by omega) (by omega))
      exact ⟨_, _, hr, grown_owns rfl hlen h63, grown_by _ _ _, .inr rfl⟩

theorem app_str_ap {w : World} {t u E : Nat} {I : TypeInfo} {v : Value} {m : Nat} {xs : List (List Value)} {s : ByteArray} (ht : P.underlying t = some (.slice E)) (hu : P.underlying u = some .string) (hi : P.info? E = some I) (hz : I.zero = some (.int .u8 0)) (hsize : I.size = 1) (hby : I.bytes = 1)
    (hc : apC w E 1 v m xs) (h63 : m + s.size ≤ maxLen) (hbytes : m + s.size ≤ 140739635838976) :
    ∃ v' w', (Builtin.append_ #[t, u] ty #[v, .string s]).run P w = .ok v' w' ∧ apC w' E 1 v' (m + s.size) (xs ++ (Lib.strCells s).map fun c => [c]) ∧ w.grownBy w' v.ownBlock ∧ (v'.ownBlock = v.ownBlock ∨ v'.ownBlock = some w.heap.size) := by
  obtain ⟨hc1, hc2, hc3⟩ := hc
  have lens : (xs ++ (Lib.strCells s).map fun c => [c]).length = m + s.size ∧ ∀ x ∈ xs ++ (Lib.strCells s).map fun c => [c], x.length = 1 := ⟨by simp [hc2, Lib.strCells_length], fun x hx => (List.mem_append.1 hx).elim (hc3 x) (fun h => by obtain ⟨y, _, rfl⟩ := List.mem_map.1 h; rfl)⟩
  have hfl : ((Lib.strCells s).map fun c => [c]).flatten = Lib.strCells s := by rw [← List.flatMap_def]; simp
  rcases hc1 with ho | ⟨hf, b, o, rfl, hb⟩
  · obtain ⟨v', w', hr, h2, h3, h5⟩ := app_str_own (ty := ty) ht hu hi hz hsize hby ho h63 hbytes
    exact ⟨v', w', hr, ⟨.inl (by rw [List.flatten_append, hfl]; exact h2), lens⟩, h3, h5⟩
  · by_cases hm : s.size = 0
    · have hn : Lib.strCells s = [] := List.eq_nil_of_length_eq_zero (by rw [Lib.strCells_length]; exact hm)
      refine ⟨.slice (some ⟨b, 0, none⟩) m m, w, ?_, ⟨.inr ⟨by rw [hn]; simpa using hf, b, o, by rw [hm]; rfl, hb⟩, lens⟩, ⟨rfl, rfl, rfl, Nat.le_refl _, fun _ _ _ => rfl⟩, .inl rfl⟩
      have hf' := Lib.run_firstCells_string (P := P) w 1 s
      rw [hm, hn] at hf'
      simp [Builtin.append_, run_underlying ht, run_underlying hu, sizeOf, typeInfo, hi, hsize, Builtin.lenOf, hm, hf', storeCells]
    · have hxf : xs.flatten.length = m * I.size := by rw [flat_len xs hc3, hc2, hsize]
      obtain ⟨a', c', h0, _, _, r⟩ := hf.out
      simp only [Value.slice.injEq] at h0
      obtain ⟨rfl, _, rfl⟩ := h0
      have hold := row_cells hc3 (r.row fun b o h => h)
      have hm63 : m + s.size ≤ 9223372036854775807 := by simpa [maxLen] using h63
      have hr := Lib.run_append_grow_string (P := P) w t u ty E I (.int .u8 0) ht hu hi hz ⟨b, 0, none⟩ m m xs.flatten hxf hold s (by omega) (by omega) (by rw [hby]; exact fits2 (by omega) (by omega) (by omega))
      refine ⟨_, _, hr, ⟨.inl ?_, lens⟩, grown_by _ _ _, .inr rfl⟩
      rw [List.flatten_append, hfl]
      exact grown_owns rfl (by rw [List.length_append, hxf, hsize, Lib.strCells_length]; omega) h63

/-- append onto a slice that may be appended to, of a slice that lies anywhere. -/
theorem turns_appA {α : Type} {f : α → List Value} {ys ls zs : List α} {i : Nat} {S X : Operand} {t E : TypeId} {I : TypeInfo} {z : Value} {sz by_ : Nat} {p : Option Addr × Nat} {rds : List Nat} {V : Value} {a : Option Addr} {c m q : Nat} (hn : m = ys.length)
    (ht : P.underlying t = some (.slice E)) (hi : P.info? E = some I) (hz : I.zero = some z) (hsize : I.size = sz) (hby : I.bytes = by_) (hzs : z.cells.size = sz) (hsz : (Nat.blt 0 sz && Nat.ble by_ 1048576) = true)
    (hL : L[i]? = some (apV E sz (.slice p.1 m p.2) m (ys.map f))) (hs : ev e S = .slice p.1 m p.2) (hx : ev e X = V) (hV : V = .slice a q c) (hq : q = ls.length)
    (hnews : ∀ w L', Fr cx w → Sat cx w L' → (∀ j, j ∈ rds → L'[j]? = L[j]?) → Row w a sz (ls.map f)) (hf : ∀ x, (f x).length = sz) (h1 : ∀ x, (f x).all Value.oneCell' = true) (hg : gApL by_ ys ls = some zs) :
    Turns P cx e ⟨some d, .call ⟨.builtin .append, #[S, X], #[t, t]⟩, ty, pos, af, g⟩ L i rds (fun p' : Option Addr × Nat => .slice p'.1 zs.length p'.2) (fun p' => apV E sz (.slice p'.1 zs.length p'.2) zs.length (zs.map f)) := fun w L' hF hS hl hi' => by
  subst hn hq
  obtain ⟨rfl, hb1, hb2⟩ := gApL_some hg
  rw [List.length_append, List.map_append]
  have hL' := (hi' i (.inr rfl)).trans hL
  obtain ⟨S0, ⟨hc, _⟩, _⟩ := hS.at hL'
  obtain ⟨v', w', hr, h2, h3, h5⟩ := app_ap (P := P) (ty := ty) (c := c) ht hi hz hsize hby hzs (by simp at hsz; exact hsz.1) hc (List.length_map _) (fun x hx => by
      obtain ⟨y, _, rfl⟩ := List.mem_map.1 hx; exact hf y) (hnews w L' hF hS fun j hj => hi' j (.inl hj)) (fun x hx u hu => by
      obtain ⟨y, _, rfl⟩ := List.mem_map.1 hx; exact List.all_eq_true.1 (h1 y) u hu) (by simp only [maxLen]; omega) hb2 (by simp at hsz; exact hsz.2)
  obtain ⟨p', rfl⟩ := h2.slice
  obtain ⟨hF', hS'⟩ := hS.turnOf hF hL' (C := apV E sz (.slice p'.1 (ys.length + ls.length) p'.2) (ys.length + ls.length) (ys.map f ++ ls.map f)) fun S1 hp => turn_ap hp.2 h2 h3 h5
  have he : (execOp (ev e) ⟨some d, .call ⟨.builtin .append, #[S, X], #[t, t]⟩, ty, pos, af, g⟩).run P w = .ok (.value (.slice p'.1 (ys.length + ls.length) p'.2)) w' := by
    simp only [execOp, resolve, invoke, builtin, Sem.run_bind, Sem.run_pure, Result.andThen_ok, List.map_toArray, List.map_cons, List.map_nil, hs, hx, hV, hr]
  unfold RunsTo
  rw [he]
  exact ⟨p', rfl, hF', hS'⟩

theorem strCells_map (s : List UInt8) : Lib.strCells ⟨s.toArray⟩ = s.map fun b => Value.int .u8 (b.toNat : Int) := by simp [Lib.strCells]
theorem strSize (s : List UInt8) : (⟨s.toArray⟩ : ByteArray).size = s.length := by simp [ByteArray.size]

/-- append of a string's octets. -/
theorem turns_strA {f : Int → List Value} {ys zs : List Int} {s : List UInt8} {i : Nat} {S X : Operand} {t u E : TypeId} {I : TypeInfo} {p : Option Addr × Nat} {rds : List Nat} {m : Nat} (hn : m = ys.length)
    (ht : P.underlying t = some (.slice E)) (hu : P.underlying u = some .string) (hi : P.info? E = some I) (hz : I.zero = some (.int .u8 0)) (hsize : I.size = 1) (hby : I.bytes = 1)
    (hL : L[i]? = some (apV E 1 (.slice p.1 m p.2) m (ys.map f))) (hs : ev e S = .slice p.1 m p.2) (hx : ev e X = str s) (hf : ∀ x, f x = [.int .u8 x]) (hg : gApL 1 ys (ofStr s) = some zs) :
    Turns P cx e ⟨some d, .call ⟨.builtin .append, #[S, X], #[t, u]⟩, ty, pos, af, g⟩ L i rds (fun p' : Option Addr × Nat => .slice p'.1 zs.length p'.2) (fun p' => apV E 1 (.slice p'.1 zs.length p'.2) zs.length (zs.map f)) := fun w L' hF hS hl hi' => by
  subst hn
  obtain ⟨rfl, hb1, hb2⟩ := gApL_some hg
  have hls : (ofStr s).length = s.length := by simp [ofStr]
  have hL' := (hi' i (.inr rfl)).trans hL
  obtain ⟨S0, ⟨hc, _⟩, _⟩ := hS.at hL'
  obtain ⟨v', w', hr, h2, h3, h5⟩ := app_str_ap (P := P) (ty := ty) (s := ⟨s.toArray⟩) ht hu hi hz hsize hby hc (by rw [strSize]; simp only [maxLen]; omega) (by rw [strSize]; omega)
  have hm : ((Lib.strCells ⟨s.toArray⟩).map fun c => [c]) = (ofStr s).map f := by
    rw [strCells_map, List.map_map]
    unfold ofStr
    rw [List.map_map]
    exact List.map_congr_left fun x _ => (hf _).symm
  rw [hm, strSize, ← hls] at h2
  rw [List.length_append, List.map_append]
  obtain ⟨p', rfl⟩ := h2.slice
  obtain ⟨hF', hS'⟩ := hS.turnOf hF hL' (C := apV E 1 (.slice p'.1 (ys.length + (ofStr s).length) p'.2) (ys.length + (ofStr s).length) (ys.map f ++ (ofStr s).map f)) fun S1 hp => turn_ap hp.2 h2 h3 h5
  have he : (execOp (ev e) ⟨some d, .call ⟨.builtin .append, #[S, X], #[t, u]⟩, ty, pos, af, g⟩).run P w = .ok (.value (.slice p'.1 (ys.length + (ofStr s).length) p'.2)) w' := by
    simp only [execOp, resolve, invoke, builtin, Sem.run_bind, Sem.run_pure, Result.andThen_ok, List.map_toArray, List.map_cons, List.map_nil, hs, hx, str, hr]
  unfold RunsTo
  rw [he]
  exact ⟨p', rfl, hF', hS'⟩

theorem turns_strG {f : Int → List Value} {ys zs : List Int} {s : List UInt8} {i : Nat} {S X : Operand} {t u E : TypeId} {I : TypeInfo} {p : Option Addr × Nat} {rds : List Nat} {m : Nat} (hn : m = ys.length)
    (ht : P.underlying t = some (.slice E)) (hu : P.underlying u = some .string) (hi : P.info? E = some I) (hz : I.zero = some (.int .u8 0)) (hsize : I.size = 1) (hby : I.bytes = 1)
    (hL : L[i]? = some (rowV E 1 (.slice p.1 m p.2) m (ys.map f))) (hs : ev e S = .slice p.1 m p.2) (hx : ev e X = str s) (hf : ∀ x, f x = [.int .u8 x]) (hg : gApL 1 ys (ofStr s) = some zs) :
    Turns P cx e ⟨some d, .call ⟨.builtin .append, #[S, X], #[t, u]⟩, ty, pos, af, g⟩ L i rds (fun p' : Option Addr × Nat => .slice p'.1 zs.length p'.2) (fun p' => rowV E 1 (.slice p'.1 zs.length p'.2) zs.length (zs.map f)) := fun w L' hF hS hl hi' => by
  subst hn
  obtain ⟨rfl, hb1, hb2⟩ := gApL_some hg
  have hls : (ofStr s).length = s.length := by simp [ofStr]
  have hL' := (hi' i (.inr rfl)).trans hL
  obtain ⟨S0, ⟨⟨ho, hlen, hlx⟩, _⟩, _⟩ := hS.at hL'
  obtain ⟨v', w', hr, h2, h3, h5⟩ := app_str_own (P := P) (ty := ty) (s := ⟨s.toArray⟩) ht hu hi hz hsize hby ho (by rw [strSize]; simp only [maxLen]; omega) (by rw [strSize]; omega)
  have hm : Lib.strCells ⟨s.toArray⟩ = ((ofStr s).map f).flatten := by
    rw [strCells_map, ← List.flatMap_def, ofStr, List.flatMap_map]
    simp only [hf]
    exact (List.flatMap_singleton' _).symm.trans (by rw [List.flatMap_map])
  rw [hm, strSize, ← hls, ← List.flatten_append, ← List.map_append] at h2
  rw [List.length_append]
  obtain ⟨p', rfl⟩ := slice_of_row h2
  obtain ⟨hF', hS'⟩ := hS.turnOf hF hL' (C := rowV E 1 (.slice p'.1 (ys.length + (ofStr s).length) p'.2) (ys.length + (ofStr s).length) ((ys ++ ofStr s).map f)) fun S1 hp => turn_append hp.2 h2 h3 h5 (by simp) (by
    intro x hx
    obtain ⟨y, _, rfl⟩ := List.mem_map.1 hx
    rw [hf]; rfl)
  have he : (execOp (ev e) ⟨some d, .call ⟨.builtin .append, #[S, X], #[t, u]⟩, ty, pos, af, g⟩).run P w = .ok (.value (.slice p'.1 (ys.length + (ofStr s).length) p'.2)) w' := by
    simp only [execOp, resolve, invoke, builtin, Sem.run_bind, Sem.run_pure, Result.andThen_ok, List.map_toArray, List.map_cons, List.map_nil, hs, hx, str, hr]
  unfold RunsTo
  rw [he]
  exact ⟨p', rfl, hF', hS'⟩

/-- []byte("..") of a constant: the literal is marked as a string's. -/
theorem turns_mark {α : Type} {f : α → List Value} {xs : List α} {i b m sz : Nat} {t T E : TypeId} {X : Operand} {cs : List Value} {rds : List Nat} (hT : T = E) (ht : P.underlying t = some (.slice E)) (he : P.underlying E = some (.int .u8))
    (hL : L[i]? = some (cellsC b cs T)) (hx : ev e X = .slice (some ⟨b, 0, none⟩) m m) (hcs : (xs.map f).flatten = cs) (hl : ((xs.map f).all fun x => Nat.beq x.length sz) = true) (hm : xs.length = m) (hm' : Nat.ble m 9223372036854775807 = true) :
    Turns P cx e ⟨some d, .convert t t X, ty, pos, af, g⟩ L i rds (fun _ : Unit => .slice (some ⟨b, 0, none⟩) m m) (fun _ => apV E sz (.slice (some ⟨b, 0, none⟩) m m) m (xs.map f)) := fun w L' hF hS _ hi' => by
  subst hT hm
  have hL' := (hi' i (.inr rfl)).trans hL
  have hh : w.heap[b]? = some (.cells cs.toArray T (0, 0)) := sat_cell hS hL'
  have hb : b < w.heap.size := (Array.getElem?_eq_some_iff.1 hh).1
  have hnew : (w.freeze ⟨b, cs.length, none⟩ 1).heap[b]? = some (.cells cs.toArray T (cs.length, cs.length + 1)) := by
    simp [World.freeze, Array.getElem?_modify, hh]
  have hothers : ∀ k, k ≠ b → (w.freeze ⟨b, cs.length, none⟩ 1).heap[k]? = w.heap[k]? := by
    intro k hk
    have : ¬ b = k := fun h => hk h.symm
    simp [World.freeze, Array.getElem?_modify, this]
  have hsize : (w.freeze ⟨b, cs.length, none⟩ 1).heap.size = w.heap.size := by simp [World.freeze]
  have hlen : ∀ x ∈ xs.map f, x.length = sz := fun x hx => by simpa using List.all_eq_true.1 hl x hx
  have hc : apC (w.freeze ⟨b, cs.length, none⟩ 1) T sz (.slice (some ⟨b, 0, none⟩) xs.length xs.length) xs.length (xs.map f) := by
    refine ⟨.inr ⟨⟨some ⟨b, 0, none⟩, xs.length, by simp, by simp, by simpa using hm', .inr ⟨b, 0, cs.toArray, T, _, rfl, hnew, fun i x hx => ⟨hlen x (List.mem_of_getElem? hx), fun j v hv => ?_⟩⟩⟩, b, _, rfl, hnew⟩, by simp, hlen⟩
    have := row_get _ i x hl hx j v hv
    rw [hcs] at this
    simpa using this
  have hr : (execOp (ev e) ⟨some d, .convert t t X, ty, pos, af, g⟩).run P w = .ok (.value (.slice (some ⟨b, 0, none⟩) xs.length xs.length)) (w.freeze ⟨b, cs.length, none⟩ 1) := by
    simp [execOp, hx, convert, run_underlying ht, run_underlying he, markStringish, World.shape?, hh]
  obtain ⟨hF', hS'⟩ := hS.turnOf (w' := w.freeze ⟨b, cs.length, none⟩ 1) hF hL' (C := apV T sz (.slice (some ⟨b, 0, none⟩) xs.length xs.length) xs.length (xs.map f)) fun S1 hp =>
    ⟨rfl, rfl, rfl, by rw [hsize]; exact Nat.le_refl _, fun k _ hk => hothers k fun h => hk ((hp.1 k).2 h), S1, ⟨hc, fun k hk => by simp [Value.ownBlock] at hk; exact (hp.1 k).2 hk.symm⟩, fun k hk => ⟨by rw [hsize, (hp.1 k).1 hk]; exact hb, .inl hk⟩⟩
  unfold RunsTo
  rw [hr]
  exact ⟨(), rfl, hF', hS'⟩

theorem fold_push (ns : List Int) : ∀ (r : List UInt8), ns.foldl (fun r n => r.push (UInt8.ofNat n.toNat)) (⟨r.toArray⟩ : ByteArray) = ⟨(r ++ toStr ns).toArray⟩ := by
  induction ns with
  | nil => intro r; simp [toStr]
  | cons n ns ih =>
    intro r
    have : (⟨r.toArray⟩ : ByteArray).push (UInt8.ofNat n.toNat) = ⟨(r ++ [UInt8.ofNat n.toNat]).toArray⟩ := by simp [ByteArray.push]
    rw [List.foldl_cons, this, ih]
    simp [toStr]

/-- string(b) of octets. -/
theorem run_bytes {w : World} {f : Int → List Value} {xs : List Int} {X : Operand} {s t E : TypeId} {a : Option Addr} {c m : Nat} {dd : Option Nat} (hm : m = xs.length) (hs : P.underlying s = some (.slice E)) (he : P.underlying E = some (.int .u8)) (ht : P.underlying t = some .string)
    (hx : ev e X = .slice a m c) (hf : ∀ x, f x = [.int .u8 x]) (hR : Row w a 1 (xs.map f)) : (execOp (ev e) ⟨dd, .convert s t X, ty, pos, af, g⟩).run P w = .ok (.value (str (toStr xs))) w := by
  subst hm
  have hc := run_convert_bytes_string w s t E a xs.length c hs he ht
  have key : (Conv.bytesToString (.slice a xs.length c)).run P w = .ok (str (toStr xs)) w := by
    cases a with
    | none =>
      rcases hR with h | ⟨b, off, h, _⟩
      · have : xs = [] := by simpa using h
        subst this
        simp [Conv.bytesToString, toStr, str]; rfl
      · cases h
    | some ad =>
      have hfl : (xs.map f).flatten = xs.map (Value.int .u8) := by
        rw [show f = fun x => [Value.int .u8 x] from funext hf]
        clear hR hc hx
        induction xs with
        | nil => rfl
        | cons x r ih => rw [List.map_cons, List.flatten_cons, ih]; rfl
      have hcell := row_cells (w := w) (fun x hx => by obtain ⟨y, _, rfl⟩ := List.mem_map.1 hx; rw [hf]; rfl) hR
      rw [hfl] at hcell
      have hl := run_loadCells_list (P := P) (w := w) ad (xs.map (Value.int .u8)) hcell
      rw [List.length_map] at hl
      have h0 := run_bytesToString (P := P) w ad xs.length c xs hl
      rw [h0]
      have := fold_push xs []
      rw [List.nil_append] at this
      exact congrArg (fun b => Result.ok (Value.string b) w) this
  simp [execOp, hx, hc, key]

/-- s[:n:n] of all of a slice. -/
theorem ap_full {w : World} {i E sz m c : Nat} {a : Option Addr} {xs : List (List Value)} (hS : Sat cx w L) (hL : L[i]? = some (apV E sz (.slice a m c) m xs)) : m ≤ c := by
  obtain ⟨S, ⟨h, _⟩, _⟩ := hS.at hL
  obtain ⟨a', c', h0, h1, _, r⟩ := h.frs.out
  simp only [Value.slice.injEq] at h0
  omega

end rules
end Go.Lx
